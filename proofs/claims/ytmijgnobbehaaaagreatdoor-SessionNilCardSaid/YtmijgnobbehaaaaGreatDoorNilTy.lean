/- Part of the proof that SessionNil answers true for every input. -/
import Derived.Test.YtmijgnobbehaaaaGreatDoorEvW
import Derived.KernelRfl
import Derived.Test.YtmijgnobbehaaaaGreatDoorProg
set_option linter.all false
set_option linter.unusedVariables false
set_option linter.unusedSimpArgs false

namespace Go.Ev.Nil
open Go Go.Ev Go.Proofs
set_option maxRecDepth 100000
@[simp] theorem ld0 (i o : Nat) (h : Hp) : loadV Tryz.prog 0 (.ptr i o) h = cellAt h i o := by kernel_rfl
@[simp] theorem st0 (i o : Nat) (v : V) (h : Hp) : storeV Tryz.prog 0 (.ptr i o) v h = br (and (Nat.beq 1 v.cells.length) (v.cells.all V.one)) (writeRow h i o v.cells) none := by kernel_rfl
@[simp] theorem az0 (i : Nat) : alZero Tryz.prog i 0 = some (.ptr i 0, .row [(.tuple [])] false false) := by kernel_rfl
@[simp] theorem ze0 : zeroT Tryz.prog 0 = some (.tuple []) := by kernel_rfl
@[simp] theorem sz0 : szT Tryz.prog 0 = some 1 := by kernel_rfl
@[simp] theorem by0 : bytesT Tryz.prog 0 = some 0 := by kernel_rfl
@[simp] theorem ld1 (i o : Nat) (h : Hp) : loadV Tryz.prog 1 (.ptr i o) h = cellAt h i o := by kernel_rfl
@[simp] theorem st1 (i o : Nat) (v : V) (h : Hp) : storeV Tryz.prog 1 (.ptr i o) v h = br (and (Nat.beq 1 v.cells.length) (v.cells.all V.one)) (writeRow h i o v.cells) none := by kernel_rfl
@[simp] theorem az1 (i : Nat) : alZero Tryz.prog i 1 = some (.ptr i 0, .row [.nilF] false false) := by kernel_rfl
@[simp] theorem ze1 : zeroT Tryz.prog 1 = some .nilF := by kernel_rfl
@[simp] theorem sz1 : szT Tryz.prog 1 = some 1 := by kernel_rfl
@[simp] theorem by1 : bytesT Tryz.prog 1 = some 8 := by kernel_rfl
@[simp] theorem ld2 (i o : Nat) (h : Hp) : loadV Tryz.prog 2 (.ptr i o) h = cellAt h i o := by kernel_rfl
@[simp] theorem st2 (i o : Nat) (v : V) (h : Hp) : storeV Tryz.prog 2 (.ptr i o) v h = br (and (Nat.beq 1 v.cells.length) (v.cells.all V.one)) (writeRow h i o v.cells) none := by kernel_rfl
@[simp] theorem az2 (i : Nat) : alZero Tryz.prog i 2 = some (.ptr i 0, .row [(.int .i64 0)] false false) := by kernel_rfl
@[simp] theorem ze2 : zeroT Tryz.prog 2 = some (.int .i64 0) := by kernel_rfl
@[simp] theorem un2 : Tryz.prog.underlying 2 = some (.int .i64) := by kernel_rfl
@[simp] theorem sz2 : szT Tryz.prog 2 = some 1 := by kernel_rfl
@[simp] theorem by2 : bytesT Tryz.prog 2 = some 8 := by kernel_rfl
@[simp] theorem ld3 (i o : Nat) (h : Hp) : loadV Tryz.prog 3 (.ptr i o) h = cellAt h i o := by kernel_rfl
@[simp] theorem st3 (i o : Nat) (v : V) (h : Hp) : storeV Tryz.prog 3 (.ptr i o) v h = br (and (Nat.beq 1 v.cells.length) (v.cells.all V.one)) (writeRow h i o v.cells) none := by kernel_rfl
@[simp] theorem az3 (i : Nat) : alZero Tryz.prog i 3 = some (.ptr i 0, .row [(.int .i64 0)] false false) := by kernel_rfl
@[simp] theorem ze3 : zeroT Tryz.prog 3 = some (.int .i64 0) := by kernel_rfl
@[simp] theorem un3 : Tryz.prog.underlying 3 = some (.int .i64) := by kernel_rfl
@[simp] theorem sz3 : szT Tryz.prog 3 = some 1 := by kernel_rfl
@[simp] theorem by3 : bytesT Tryz.prog 3 = some 8 := by kernel_rfl
@[simp] theorem ld4 (i o : Nat) (h : Hp) : loadV Tryz.prog 4 (.ptr i o) h = cellAt h i o := by kernel_rfl
@[simp] theorem st4 (i o : Nat) (v : V) (h : Hp) : storeV Tryz.prog 4 (.ptr i o) v h = br (and (Nat.beq 1 v.cells.length) (v.cells.all V.one)) (writeRow h i o v.cells) none := by kernel_rfl
@[simp] theorem az4 (i : Nat) : alZero Tryz.prog i 4 = some (.ptr i 0, .row [(.bool false)] false false) := by kernel_rfl
@[simp] theorem ze4 : zeroT Tryz.prog 4 = some (.bool false) := by kernel_rfl
@[simp] theorem un4 : Tryz.prog.underlying 4 = some .bool := by kernel_rfl
@[simp] theorem sz4 : szT Tryz.prog 4 = some 1 := by kernel_rfl
@[simp] theorem by4 : bytesT Tryz.prog 4 = some 1 := by kernel_rfl
@[simp] theorem ld5 (i o : Nat) (h : Hp) : loadV Tryz.prog 5 (.ptr i o) h = cellAt h i o := by kernel_rfl
@[simp] theorem st5 (i o : Nat) (v : V) (h : Hp) : storeV Tryz.prog 5 (.ptr i o) v h = br (and (Nat.beq 1 v.cells.length) (v.cells.all V.one)) (writeRow h i o v.cells) none := by kernel_rfl
@[simp] theorem az5 (i : Nat) : alZero Tryz.prog i 5 = some (.ptr i 0, .row [(.int .u8 0)] false false) := by kernel_rfl
@[simp] theorem ze5 : zeroT Tryz.prog 5 = some (.int .u8 0) := by kernel_rfl
@[simp] theorem un5 : Tryz.prog.underlying 5 = some (.int .u8) := by kernel_rfl
@[simp] theorem sz5 : szT Tryz.prog 5 = some 1 := by kernel_rfl
@[simp] theorem by5 : bytesT Tryz.prog 5 = some 1 := by kernel_rfl
@[simp] theorem ld6 (i o : Nat) (h : Hp) : loadV Tryz.prog 6 (.ptr i o) h = cellAt h i o := by kernel_rfl
@[simp] theorem st6 (i o : Nat) (v : V) (h : Hp) : storeV Tryz.prog 6 (.ptr i o) v h = br (and (Nat.beq 1 v.cells.length) (v.cells.all V.one)) (writeRow h i o v.cells) none := by kernel_rfl
@[simp] theorem az6 (i : Nat) : alZero Tryz.prog i 6 = some (.ptr i 0, .row [(.int .u8 0)] false false) := by kernel_rfl
@[simp] theorem ze6 : zeroT Tryz.prog 6 = some (.int .u8 0) := by kernel_rfl
@[simp] theorem un6 : Tryz.prog.underlying 6 = some (.int .u8) := by kernel_rfl
@[simp] theorem sz6 : szT Tryz.prog 6 = some 1 := by kernel_rfl
@[simp] theorem by6 : bytesT Tryz.prog 6 = some 1 := by kernel_rfl
@[simp] theorem ld8 (i o : Nat) (h : Hp) : loadV Tryz.prog 8 (.ptr i o) h = (rowAt h i o 4).map .agg := by kernel_rfl
@[simp] theorem st8 (i o : Nat) (v : V) (h : Hp) : storeV Tryz.prog 8 (.ptr i o) v h = br (and (Nat.beq 4 v.cells.length) (v.cells.all V.one)) (writeRow h i o v.cells) none := by kernel_rfl
@[simp] theorem az8 (i : Nat) : alZero Tryz.prog i 8 = some (.ptr i 0, .row [(.int .i64 0), (.int .i64 0), (.bool false), (.int .u8 0)] false false) := by kernel_rfl
@[simp] theorem ze8 : zeroT Tryz.prog 8 = some (.agg [(.int .i64 0), (.int .i64 0), (.bool false), (.int .u8 0)]) := by kernel_rfl
@[simp] theorem fo8_0 : fOff Tryz.prog 8 0 = some 0 := by kernel_rfl
@[simp] theorem fp8_0 : fPl Tryz.prog 8 0 = some (.cell 0) := by kernel_rfl
@[simp] theorem fo8_1 : fOff Tryz.prog 8 1 = some 1 := by kernel_rfl
@[simp] theorem fp8_1 : fPl Tryz.prog 8 1 = some (.cell 1) := by kernel_rfl
@[simp] theorem fo8_2 : fOff Tryz.prog 8 2 = some 2 := by kernel_rfl
@[simp] theorem fp8_2 : fPl Tryz.prog 8 2 = some (.cell 2) := by kernel_rfl
@[simp] theorem fo8_3 : fOff Tryz.prog 8 3 = some 3 := by kernel_rfl
@[simp] theorem fp8_3 : fPl Tryz.prog 8 3 = some (.cell 3) := by kernel_rfl
theorem pl8 : plT Tryz.prog 8 = some [(0, 1), (1, 1), (2, 1), (3, 1)] := by kernel_rfl
@[simp] theorem bd8 (parts : List (Nat × V)) : buildV Tryz.prog 8 parts = (fillL [(0, 1), (1, 1), (2, 1), (3, 1)] [(.int .i64 0), (.int .i64 0), (.bool false), (.int .u8 0)] parts).map .agg := buildV_eq pl8 ze8 rfl parts
@[simp] theorem sz8 : szT Tryz.prog 8 = some 4 := by kernel_rfl
@[simp] theorem by8 : bytesT Tryz.prog 8 = some 24 := by kernel_rfl
@[simp] theorem ld9 (i o : Nat) (h : Hp) : loadV Tryz.prog 9 (.ptr i o) h = cellAt h i o := by kernel_rfl
@[simp] theorem st9 (i o : Nat) (v : V) (h : Hp) : storeV Tryz.prog 9 (.ptr i o) v h = br (and (Nat.beq 1 v.cells.length) (v.cells.all V.one)) (writeRow h i o v.cells) none := by kernel_rfl
@[simp] theorem az9 (i : Nat) : alZero Tryz.prog i 9 = some (.ptr i 0, .row [(.str [])] false false) := by kernel_rfl
@[simp] theorem ze9 : zeroT Tryz.prog 9 = some (.str []) := by kernel_rfl
@[simp] theorem un9 : Tryz.prog.underlying 9 = some .string := by kernel_rfl
@[simp] theorem sz9 : szT Tryz.prog 9 = some 1 := by kernel_rfl
@[simp] theorem by9 : bytesT Tryz.prog 9 = some 16 := by kernel_rfl
@[simp] theorem ld10 (i o : Nat) (h : Hp) : loadV Tryz.prog 10 (.ptr i o) h = cellAt h i o := by kernel_rfl
@[simp] theorem st10 (i o : Nat) (v : V) (h : Hp) : storeV Tryz.prog 10 (.ptr i o) v h = br (and (Nat.beq 1 v.cells.length) (v.cells.all V.one)) (writeRow h i o v.cells) none := by kernel_rfl
@[simp] theorem az10 (i : Nat) : alZero Tryz.prog i 10 = some (.ptr i 0, .row [(.str [])] false false) := by kernel_rfl
@[simp] theorem ze10 : zeroT Tryz.prog 10 = some (.str []) := by kernel_rfl
@[simp] theorem un10 : Tryz.prog.underlying 10 = some .string := by kernel_rfl
@[simp] theorem sz10 : szT Tryz.prog 10 = some 1 := by kernel_rfl
@[simp] theorem by10 : bytesT Tryz.prog 10 = some 16 := by kernel_rfl
@[simp] theorem ld11 (i o : Nat) (h : Hp) : loadV Tryz.prog 11 (.ptr i o) h = cellAt h i o := by kernel_rfl
@[simp] theorem st11 (i o : Nat) (v : V) (h : Hp) : storeV Tryz.prog 11 (.ptr i o) v h = br (and (Nat.beq 1 v.cells.length) (v.cells.all V.one)) (writeRow h i o v.cells) none := by kernel_rfl
@[simp] theorem az11 (i : Nat) : alZero Tryz.prog i 11 = some (.ptr i 0, .row [(.str [])] false false) := by kernel_rfl
@[simp] theorem ze11 : zeroT Tryz.prog 11 = some (.str []) := by kernel_rfl
@[simp] theorem un11 : Tryz.prog.underlying 11 = some .string := by kernel_rfl
@[simp] theorem sz11 : szT Tryz.prog 11 = some 1 := by kernel_rfl
@[simp] theorem by11 : bytesT Tryz.prog 11 = some 16 := by kernel_rfl
@[simp] theorem ld12 (i o : Nat) (h : Hp) : loadV Tryz.prog 12 (.ptr i o) h = cellAt h i o := by kernel_rfl
@[simp] theorem st12 (i o : Nat) (v : V) (h : Hp) : storeV Tryz.prog 12 (.ptr i o) v h = br (and (Nat.beq 1 v.cells.length) (v.cells.all V.one)) (writeRow h i o v.cells) none := by kernel_rfl
@[simp] theorem az12 (i : Nat) : alZero Tryz.prog i 12 = some (.ptr i 0, .row [(.int .u64 0)] false false) := by kernel_rfl
@[simp] theorem ze12 : zeroT Tryz.prog 12 = some (.int .u64 0) := by kernel_rfl
@[simp] theorem un12 : Tryz.prog.underlying 12 = some (.int .u64) := by kernel_rfl
@[simp] theorem sz12 : szT Tryz.prog 12 = some 1 := by kernel_rfl
@[simp] theorem by12 : bytesT Tryz.prog 12 = some 8 := by kernel_rfl
@[simp] theorem ld14 (i o : Nat) (h : Hp) : loadV Tryz.prog 14 (.ptr i o) h = (rowAt h i o 2).map .agg := by kernel_rfl
@[simp] theorem st14 (i o : Nat) (v : V) (h : Hp) : storeV Tryz.prog 14 (.ptr i o) v h = br (and (Nat.beq 2 v.cells.length) (v.cells.all V.one)) (writeRow h i o v.cells) none := by kernel_rfl
@[simp] theorem az14 (i : Nat) : alZero Tryz.prog i 14 = some (.ptr i 0, .row [(.str []), (.int .u64 0)] false false) := by kernel_rfl
@[simp] theorem ze14 : zeroT Tryz.prog 14 = some (.agg [(.str []), (.int .u64 0)]) := by kernel_rfl
@[simp] theorem fo14_0 : fOff Tryz.prog 14 0 = some 0 := by kernel_rfl
@[simp] theorem fp14_0 : fPl Tryz.prog 14 0 = some (.cell 0) := by kernel_rfl
@[simp] theorem fo14_1 : fOff Tryz.prog 14 1 = some 1 := by kernel_rfl
@[simp] theorem fp14_1 : fPl Tryz.prog 14 1 = some (.cell 1) := by kernel_rfl
theorem pl14 : plT Tryz.prog 14 = some [(0, 1), (1, 1)] := by kernel_rfl
@[simp] theorem bd14 (parts : List (Nat × V)) : buildV Tryz.prog 14 parts = (fillL [(0, 1), (1, 1)] [(.str []), (.int .u64 0)] parts).map .agg := buildV_eq pl14 ze14 rfl parts
@[simp] theorem sz14 : szT Tryz.prog 14 = some 2 := by kernel_rfl
@[simp] theorem by14 : bytesT Tryz.prog 14 = some 24 := by kernel_rfl
@[simp] theorem ld15 (i o : Nat) (h : Hp) : loadV Tryz.prog 15 (.ptr i o) h = cellAt h i o := by kernel_rfl
@[simp] theorem st15 (i o : Nat) (v : V) (h : Hp) : storeV Tryz.prog 15 (.ptr i o) v h = br (and (Nat.beq 1 v.cells.length) (v.cells.all V.one)) (writeRow h i o v.cells) none := by kernel_rfl
@[simp] theorem az15 (i : Nat) : alZero Tryz.prog i 15 = some (.ptr i 0, .row [.nilP] false false) := by kernel_rfl
@[simp] theorem ze15 : zeroT Tryz.prog 15 = some .nilP := by kernel_rfl
@[simp] theorem un15 : Tryz.prog.underlying 15 = some (.pointer 431) := by kernel_rfl
@[simp] theorem sz15 : szT Tryz.prog 15 = some 1 := by kernel_rfl
@[simp] theorem by15 : bytesT Tryz.prog 15 = some 8 := by kernel_rfl
@[simp] theorem ld16 (i o : Nat) (h : Hp) : loadV Tryz.prog 16 (.ptr i o) h = cellAt h i o := by kernel_rfl
@[simp] theorem st16 (i o : Nat) (v : V) (h : Hp) : storeV Tryz.prog 16 (.ptr i o) v h = br (and (Nat.beq 1 v.cells.length) (v.cells.all V.one)) (writeRow h i o v.cells) none := by kernel_rfl
@[simp] theorem az16 (i : Nat) : alZero Tryz.prog i 16 = some (.ptr i 0, .row [.nilP] false false) := by kernel_rfl
@[simp] theorem ze16 : zeroT Tryz.prog 16 = some .nilP := by kernel_rfl
@[simp] theorem un16 : Tryz.prog.underlying 16 = some (.pointer 434) := by kernel_rfl
@[simp] theorem sz16 : szT Tryz.prog 16 = some 1 := by kernel_rfl
@[simp] theorem by16 : bytesT Tryz.prog 16 = some 8 := by kernel_rfl
@[simp] theorem ld17 (i o : Nat) (h : Hp) : loadV Tryz.prog 17 (.ptr i o) h = cellAt h i o := by kernel_rfl
@[simp] theorem st17 (i o : Nat) (v : V) (h : Hp) : storeV Tryz.prog 17 (.ptr i o) v h = br (and (Nat.beq 1 v.cells.length) (v.cells.all V.one)) (writeRow h i o v.cells) none := by kernel_rfl
@[simp] theorem az17 (i : Nat) : alZero Tryz.prog i 17 = some (.ptr i 0, .row [.nilP] false false) := by kernel_rfl
@[simp] theorem ze17 : zeroT Tryz.prog 17 = some .nilP := by kernel_rfl
@[simp] theorem un17 : Tryz.prog.underlying 17 = some (.pointer 441) := by kernel_rfl
@[simp] theorem sz17 : szT Tryz.prog 17 = some 1 := by kernel_rfl
@[simp] theorem by17 : bytesT Tryz.prog 17 = some 8 := by kernel_rfl
@[simp] theorem ld19 (i o : Nat) (h : Hp) : loadV Tryz.prog 19 (.ptr i o) h = (rowAt h i o 1).map .agg := by kernel_rfl
@[simp] theorem st19 (i o : Nat) (v : V) (h : Hp) : storeV Tryz.prog 19 (.ptr i o) v h = br (and (Nat.beq 1 v.cells.length) (v.cells.all V.one)) (writeRow h i o v.cells) none := by kernel_rfl
@[simp] theorem az19 (i : Nat) : alZero Tryz.prog i 19 = some (.ptr i 0, .row [.nilP] false false) := by kernel_rfl
@[simp] theorem ze19 : zeroT Tryz.prog 19 = some (.agg [.nilP]) := by kernel_rfl
@[simp] theorem fo19_0 : fOff Tryz.prog 19 0 = some 0 := by kernel_rfl
@[simp] theorem fp19_0 : fPl Tryz.prog 19 0 = some (.cell 0) := by kernel_rfl
theorem pl19 : plT Tryz.prog 19 = some [(0, 1)] := by kernel_rfl
@[simp] theorem bd19 (parts : List (Nat × V)) : buildV Tryz.prog 19 parts = (fillL [(0, 1)] [.nilP] parts).map .agg := buildV_eq pl19 ze19 rfl parts
@[simp] theorem sz19 : szT Tryz.prog 19 = some 1 := by kernel_rfl
@[simp] theorem by19 : bytesT Tryz.prog 19 = some 8 := by kernel_rfl
@[simp] theorem ld20 (i o : Nat) (h : Hp) : loadV Tryz.prog 20 (.ptr i o) h = cellAt h i o := by kernel_rfl
@[simp] theorem st20 (i o : Nat) (v : V) (h : Hp) : storeV Tryz.prog 20 (.ptr i o) v h = br (and (Nat.beq 1 v.cells.length) (v.cells.all V.one)) (writeRow h i o v.cells) none := by kernel_rfl
@[simp] theorem az20 (i : Nat) : alZero Tryz.prog i 20 = some (.ptr i 0, .row [.nilI] false false) := by kernel_rfl
@[simp] theorem ze20 : zeroT Tryz.prog 20 = some .nilI := by kernel_rfl
@[simp] theorem sz20 : szT Tryz.prog 20 = some 1 := by kernel_rfl
@[simp] theorem by20 : bytesT Tryz.prog 20 = some 16 := by kernel_rfl
@[simp] theorem ld21 (i o : Nat) (h : Hp) : loadV Tryz.prog 21 (.ptr i o) h = cellAt h i o := by kernel_rfl
@[simp] theorem st21 (i o : Nat) (v : V) (h : Hp) : storeV Tryz.prog 21 (.ptr i o) v h = br (and (Nat.beq 1 v.cells.length) (v.cells.all V.one)) (writeRow h i o v.cells) none := by kernel_rfl
@[simp] theorem az21 (i : Nat) : alZero Tryz.prog i 21 = some (.ptr i 0, .row [(.int .i32 0)] false false) := by kernel_rfl
@[simp] theorem ze21 : zeroT Tryz.prog 21 = some (.int .i32 0) := by kernel_rfl
@[simp] theorem un21 : Tryz.prog.underlying 21 = some (.int .i32) := by kernel_rfl
@[simp] theorem sz21 : szT Tryz.prog 21 = some 1 := by kernel_rfl
@[simp] theorem by21 : bytesT Tryz.prog 21 = some 4 := by kernel_rfl
@[simp] theorem ld22 (i o : Nat) (h : Hp) : loadV Tryz.prog 22 (.ptr i o) h = cellAt h i o := by kernel_rfl
@[simp] theorem st22 (i o : Nat) (v : V) (h : Hp) : storeV Tryz.prog 22 (.ptr i o) v h = br (and (Nat.beq 1 v.cells.length) (v.cells.all V.one)) (writeRow h i o v.cells) none := by kernel_rfl
@[simp] theorem az22 (i : Nat) : alZero Tryz.prog i 22 = some (.ptr i 0, .row [(.int .i8 0)] false false) := by kernel_rfl
@[simp] theorem ze22 : zeroT Tryz.prog 22 = some (.int .i8 0) := by kernel_rfl
@[simp] theorem un22 : Tryz.prog.underlying 22 = some (.int .i8) := by kernel_rfl
@[simp] theorem sz22 : szT Tryz.prog 22 = some 1 := by kernel_rfl
@[simp] theorem by22 : bytesT Tryz.prog 22 = some 1 := by kernel_rfl
@[simp] theorem ld23 (i o : Nat) (h : Hp) : loadV Tryz.prog 23 (.ptr i o) h = cellAt h i o := by kernel_rfl
@[simp] theorem st23 (i o : Nat) (v : V) (h : Hp) : storeV Tryz.prog 23 (.ptr i o) v h = br (and (Nat.beq 1 v.cells.length) (v.cells.all V.one)) (writeRow h i o v.cells) none := by kernel_rfl
@[simp] theorem az23 (i : Nat) : alZero Tryz.prog i 23 = some (.ptr i 0, .row [.nilS] false false) := by kernel_rfl
@[simp] theorem ze23 : zeroT Tryz.prog 23 = some .nilS := by kernel_rfl
@[simp] theorem un23 : Tryz.prog.underlying 23 = some (.slice 5) := by kernel_rfl
@[simp] theorem sz23 : szT Tryz.prog 23 = some 1 := by kernel_rfl
@[simp] theorem by23 : bytesT Tryz.prog 23 = some 24 := by kernel_rfl
@[simp] theorem ld25 (i o : Nat) (h : Hp) : loadV Tryz.prog 25 (.ptr i o) h = (rowAt h i o 5).map .agg := by kernel_rfl
@[simp] theorem st25 (i o : Nat) (v : V) (h : Hp) : storeV Tryz.prog 25 (.ptr i o) v h = br (and (Nat.beq 5 v.cells.length) (v.cells.all V.one)) (writeRow h i o v.cells) none := by kernel_rfl
@[simp] theorem az25 (i : Nat) : alZero Tryz.prog i 25 = some (.ptr i 0, .row [(.int .i8 0), (.str []), (.str []), .nilS, (.int .i64 0)] false false) := by kernel_rfl
@[simp] theorem ze25 : zeroT Tryz.prog 25 = some (.agg [(.int .i8 0), (.str []), (.str []), .nilS, (.int .i64 0)]) := by kernel_rfl
@[simp] theorem fo25_0 : fOff Tryz.prog 25 0 = some 0 := by kernel_rfl
@[simp] theorem fp25_0 : fPl Tryz.prog 25 0 = some (.cell 0) := by kernel_rfl
@[simp] theorem fo25_1 : fOff Tryz.prog 25 1 = some 1 := by kernel_rfl
@[simp] theorem fp25_1 : fPl Tryz.prog 25 1 = some (.cell 1) := by kernel_rfl
@[simp] theorem fo25_2 : fOff Tryz.prog 25 2 = some 2 := by kernel_rfl
@[simp] theorem fp25_2 : fPl Tryz.prog 25 2 = some (.cell 2) := by kernel_rfl
@[simp] theorem fo25_3 : fOff Tryz.prog 25 3 = some 3 := by kernel_rfl
@[simp] theorem fp25_3 : fPl Tryz.prog 25 3 = some (.cell 3) := by kernel_rfl
@[simp] theorem fo25_4 : fOff Tryz.prog 25 4 = some 4 := by kernel_rfl
@[simp] theorem fp25_4 : fPl Tryz.prog 25 4 = some (.cell 4) := by kernel_rfl
theorem pl25 : plT Tryz.prog 25 = some [(0, 1), (1, 1), (2, 1), (3, 1), (4, 1)] := by kernel_rfl
@[simp] theorem bd25 (parts : List (Nat × V)) : buildV Tryz.prog 25 parts = (fillL [(0, 1), (1, 1), (2, 1), (3, 1), (4, 1)] [(.int .i8 0), (.str []), (.str []), .nilS, (.int .i64 0)] parts).map .agg := buildV_eq pl25 ze25 rfl parts
@[simp] theorem sz25 : szT Tryz.prog 25 = some 5 := by kernel_rfl
@[simp] theorem by25 : bytesT Tryz.prog 25 = some 72 := by kernel_rfl
@[simp] theorem ld27 (i o : Nat) (h : Hp) : loadV Tryz.prog 27 (.ptr i o) h = cellAt h i o := by kernel_rfl
@[simp] theorem st27 (i o : Nat) (v : V) (h : Hp) : storeV Tryz.prog 27 (.ptr i o) v h = br (and (Nat.beq 1 v.cells.length) (v.cells.all V.one)) (writeRow h i o v.cells) none := by kernel_rfl
@[simp] theorem az27 (i : Nat) : alZero Tryz.prog i 27 = some (.ptr i 0, .row [.nilS] false false) := by kernel_rfl
@[simp] theorem ze27 : zeroT Tryz.prog 27 = some .nilS := by kernel_rfl
@[simp] theorem un27 : Tryz.prog.underlying 27 = some (.slice 25) := by kernel_rfl
@[simp] theorem sz27 : szT Tryz.prog 27 = some 1 := by kernel_rfl
@[simp] theorem by27 : bytesT Tryz.prog 27 = some 24 := by kernel_rfl
@[simp] theorem ld29 (i o : Nat) (h : Hp) : loadV Tryz.prog 29 (.ptr i o) h = cellAt h i o := by kernel_rfl
@[simp] theorem st29 (i o : Nat) (v : V) (h : Hp) : storeV Tryz.prog 29 (.ptr i o) v h = br (and (Nat.beq 1 v.cells.length) (v.cells.all V.one)) (writeRow h i o v.cells) none := by kernel_rfl
@[simp] theorem az29 (i : Nat) : alZero Tryz.prog i 29 = some (.ptr i 0, .row [.nilP] false false) := by kernel_rfl
@[simp] theorem ze29 : zeroT Tryz.prog 29 = some .nilP := by kernel_rfl
@[simp] theorem un29 : Tryz.prog.underlying 29 = some (.pointer 37) := by kernel_rfl
@[simp] theorem sz29 : szT Tryz.prog 29 = some 1 := by kernel_rfl
@[simp] theorem by29 : bytesT Tryz.prog 29 = some 8 := by kernel_rfl
@[simp] theorem ld30 (i o : Nat) (h : Hp) : loadV Tryz.prog 30 (.ptr i o) h = cellAt h i o := by kernel_rfl
@[simp] theorem st30 (i o : Nat) (v : V) (h : Hp) : storeV Tryz.prog 30 (.ptr i o) v h = br (and (Nat.beq 1 v.cells.length) (v.cells.all V.one)) (writeRow h i o v.cells) none := by kernel_rfl
@[simp] theorem az30 (i : Nat) : alZero Tryz.prog i 30 = some (.ptr i 0, .row [.nilS] false false) := by kernel_rfl
@[simp] theorem ze30 : zeroT Tryz.prog 30 = some .nilS := by kernel_rfl
@[simp] theorem un30 : Tryz.prog.underlying 30 = some (.slice 74) := by kernel_rfl
@[simp] theorem sz30 : szT Tryz.prog 30 = some 1 := by kernel_rfl
@[simp] theorem by30 : bytesT Tryz.prog 30 = some 24 := by kernel_rfl
@[simp] theorem ld31 (i o : Nat) (h : Hp) : loadV Tryz.prog 31 (.ptr i o) h = cellAt h i o := by kernel_rfl
@[simp] theorem st31 (i o : Nat) (v : V) (h : Hp) : storeV Tryz.prog 31 (.ptr i o) v h = br (and (Nat.beq 1 v.cells.length) (v.cells.all V.one)) (writeRow h i o v.cells) none := by kernel_rfl
@[simp] theorem az31 (i : Nat) : alZero Tryz.prog i 31 = some (.ptr i 0, .row [.nilS] false false) := by kernel_rfl
@[simp] theorem ze31 : zeroT Tryz.prog 31 = some .nilS := by kernel_rfl
@[simp] theorem un31 : Tryz.prog.underlying 31 = some (.slice 77) := by kernel_rfl
@[simp] theorem sz31 : szT Tryz.prog 31 = some 1 := by kernel_rfl
@[simp] theorem by31 : bytesT Tryz.prog 31 = some 24 := by kernel_rfl
@[simp] theorem ld33 (i o : Nat) (h : Hp) : loadV Tryz.prog 33 (.ptr i o) h = (rowAt h i o 2).map .agg := by kernel_rfl
@[simp] theorem st33 (i o : Nat) (v : V) (h : Hp) : storeV Tryz.prog 33 (.ptr i o) v h = br (and (Nat.beq 2 v.cells.length) (v.cells.all V.one)) (writeRow h i o v.cells) none := by kernel_rfl
@[simp] theorem az33 (i : Nat) : alZero Tryz.prog i 33 = some (.ptr i 0, .row [.nilS, .nilS] false false) := by kernel_rfl
@[simp] theorem ze33 : zeroT Tryz.prog 33 = some (.agg [.nilS, .nilS]) := by kernel_rfl
@[simp] theorem fo33_0 : fOff Tryz.prog 33 0 = some 0 := by kernel_rfl
@[simp] theorem fp33_0 : fPl Tryz.prog 33 0 = some (.cell 0) := by kernel_rfl
@[simp] theorem fo33_1 : fOff Tryz.prog 33 1 = some 1 := by kernel_rfl
@[simp] theorem fp33_1 : fPl Tryz.prog 33 1 = some (.cell 1) := by kernel_rfl
theorem pl33 : plT Tryz.prog 33 = some [(0, 1), (1, 1)] := by kernel_rfl
@[simp] theorem bd33 (parts : List (Nat × V)) : buildV Tryz.prog 33 parts = (fillL [(0, 1), (1, 1)] [.nilS, .nilS] parts).map .agg := buildV_eq pl33 ze33 rfl parts
@[simp] theorem sz33 : szT Tryz.prog 33 = some 2 := by kernel_rfl
@[simp] theorem by33 : bytesT Tryz.prog 33 = some 48 := by kernel_rfl
@[simp] theorem ld34 (i o : Nat) (h : Hp) : loadV Tryz.prog 34 (.ptr i o) h = cellAt h i o := by kernel_rfl
@[simp] theorem st34 (i o : Nat) (v : V) (h : Hp) : storeV Tryz.prog 34 (.ptr i o) v h = br (and (Nat.beq 1 v.cells.length) (v.cells.all V.one)) (writeRow h i o v.cells) none := by kernel_rfl
@[simp] theorem az34 (i : Nat) : alZero Tryz.prog i 34 = some (.ptr i 0, .row [.nilM] false false) := by kernel_rfl
@[simp] theorem ze34 : zeroT Tryz.prog 34 = some .nilM := by kernel_rfl
@[simp] theorem un34 : Tryz.prog.underlying 34 = some (.map 9 88) := by kernel_rfl
@[simp] theorem sz34 : szT Tryz.prog 34 = some 1 := by kernel_rfl
@[simp] theorem by34 : bytesT Tryz.prog 34 = some 8 := by kernel_rfl
@[simp] theorem ld35 (i o : Nat) (h : Hp) : loadV Tryz.prog 35 (.ptr i o) h = cellAt h i o := by kernel_rfl
@[simp] theorem st35 (i o : Nat) (v : V) (h : Hp) : storeV Tryz.prog 35 (.ptr i o) v h = br (and (Nat.beq 1 v.cells.length) (v.cells.all V.one)) (writeRow h i o v.cells) none := by kernel_rfl
@[simp] theorem az35 (i : Nat) : alZero Tryz.prog i 35 = some (.ptr i 0, .row [.nilS] false false) := by kernel_rfl
@[simp] theorem ze35 : zeroT Tryz.prog 35 = some .nilS := by kernel_rfl
@[simp] theorem un35 : Tryz.prog.underlying 35 = some (.slice 9) := by kernel_rfl
@[simp] theorem sz35 : szT Tryz.prog 35 = some 1 := by kernel_rfl
@[simp] theorem by35 : bytesT Tryz.prog 35 = some 24 := by kernel_rfl
@[simp] theorem ld37 (i o : Nat) (h : Hp) : loadV Tryz.prog 37 (.ptr i o) h = (rowAt h i o 4).map .agg := by kernel_rfl
@[simp] theorem st37 (i o : Nat) (v : V) (h : Hp) : storeV Tryz.prog 37 (.ptr i o) v h = br (and (Nat.beq 4 v.cells.length) (v.cells.all V.one)) (writeRow h i o v.cells) none := by kernel_rfl
@[simp] theorem az37 (i : Nat) : alZero Tryz.prog i 37 = some (.ptr i 0, .row [.nilS, .nilS, .nilM, .nilS] false false) := by kernel_rfl
@[simp] theorem ze37 : zeroT Tryz.prog 37 = some (.agg [.nilS, .nilS, .nilM, .nilS]) := by kernel_rfl
@[simp] theorem fo37_0 : fOff Tryz.prog 37 0 = some 0 := by kernel_rfl
@[simp] theorem fp37_0 : fPl Tryz.prog 37 0 = some (.many 0 2) := by kernel_rfl
@[simp] theorem fo37_1 : fOff Tryz.prog 37 1 = some 2 := by kernel_rfl
@[simp] theorem fp37_1 : fPl Tryz.prog 37 1 = some (.cell 2) := by kernel_rfl
@[simp] theorem fo37_2 : fOff Tryz.prog 37 2 = some 3 := by kernel_rfl
@[simp] theorem fp37_2 : fPl Tryz.prog 37 2 = some (.cell 3) := by kernel_rfl
theorem pl37 : plT Tryz.prog 37 = some [(0, 2), (2, 1), (3, 1)] := by kernel_rfl
@[simp] theorem bd37 (parts : List (Nat × V)) : buildV Tryz.prog 37 parts = (fillL [(0, 2), (2, 1), (3, 1)] [.nilS, .nilS, .nilM, .nilS] parts).map .agg := buildV_eq pl37 ze37 rfl parts
@[simp] theorem sz37 : szT Tryz.prog 37 = some 4 := by kernel_rfl
@[simp] theorem by37 : bytesT Tryz.prog 37 = some 80 := by kernel_rfl
@[simp] theorem ld41 (i o : Nat) (h : Hp) : loadV Tryz.prog 41 (.ptr i o) h = cellAt h i o := by kernel_rfl
@[simp] theorem st41 (i o : Nat) (v : V) (h : Hp) : storeV Tryz.prog 41 (.ptr i o) v h = br (and (Nat.beq 1 v.cells.length) (v.cells.all V.one)) (writeRow h i o v.cells) none := by kernel_rfl
@[simp] theorem az41 (i : Nat) : alZero Tryz.prog i 41 = some (.ptr i 0, .row [(.int .i64 0)] false false) := by kernel_rfl
@[simp] theorem ze41 : zeroT Tryz.prog 41 = some (.int .i64 0) := by kernel_rfl
@[simp] theorem un41 : Tryz.prog.underlying 41 = some (.int .i64) := by kernel_rfl
@[simp] theorem sz41 : szT Tryz.prog 41 = some 1 := by kernel_rfl
@[simp] theorem by41 : bytesT Tryz.prog 41 = some 8 := by kernel_rfl
@[simp] theorem ld43 (i o : Nat) (h : Hp) : loadV Tryz.prog 43 (.ptr i o) h = cellAt h i o := by kernel_rfl
@[simp] theorem st43 (i o : Nat) (v : V) (h : Hp) : storeV Tryz.prog 43 (.ptr i o) v h = br (and (Nat.beq 1 v.cells.length) (v.cells.all V.one)) (writeRow h i o v.cells) none := by kernel_rfl
@[simp] theorem sz43 : szT Tryz.prog 43 = some 1 := by kernel_rfl
@[simp] theorem by43 : bytesT Tryz.prog 43 = some 0 := by kernel_rfl
@[simp] theorem ld46 (i o : Nat) (h : Hp) : loadV Tryz.prog 46 (.ptr i o) h = cellAt h i o := by kernel_rfl
@[simp] theorem st46 (i o : Nat) (v : V) (h : Hp) : storeV Tryz.prog 46 (.ptr i o) v h = br (and (Nat.beq 1 v.cells.length) (v.cells.all V.one)) (writeRow h i o v.cells) none := by kernel_rfl
@[simp] theorem sz46 : szT Tryz.prog 46 = some 1 := by kernel_rfl
@[simp] theorem by46 : bytesT Tryz.prog 46 = some 0 := by kernel_rfl
@[simp] theorem ld48 (i o : Nat) (h : Hp) : loadV Tryz.prog 48 (.ptr i o) h = cellAt h i o := by kernel_rfl
@[simp] theorem st48 (i o : Nat) (v : V) (h : Hp) : storeV Tryz.prog 48 (.ptr i o) v h = br (and (Nat.beq 1 v.cells.length) (v.cells.all V.one)) (writeRow h i o v.cells) none := by kernel_rfl
@[simp] theorem sz48 : szT Tryz.prog 48 = some 1 := by kernel_rfl
@[simp] theorem by48 : bytesT Tryz.prog 48 = some 0 := by kernel_rfl
@[simp] theorem ld50 (i o : Nat) (h : Hp) : loadV Tryz.prog 50 (.ptr i o) h = cellAt h i o := by kernel_rfl
@[simp] theorem st50 (i o : Nat) (v : V) (h : Hp) : storeV Tryz.prog 50 (.ptr i o) v h = br (and (Nat.beq 1 v.cells.length) (v.cells.all V.one)) (writeRow h i o v.cells) none := by kernel_rfl
@[simp] theorem az50 (i : Nat) : alZero Tryz.prog i 50 = some (.ptr i 0, .row [.nilS] false false) := by kernel_rfl
@[simp] theorem ze50 : zeroT Tryz.prog 50 = some .nilS := by kernel_rfl
@[simp] theorem un50 : Tryz.prog.underlying 50 = some (.slice 3) := by kernel_rfl
@[simp] theorem sz50 : szT Tryz.prog 50 = some 1 := by kernel_rfl
@[simp] theorem by50 : bytesT Tryz.prog 50 = some 24 := by kernel_rfl
@[simp] theorem ld52 (i o : Nat) (h : Hp) : loadV Tryz.prog 52 (.ptr i o) h = (rowAt h i o 4).map .agg := by kernel_rfl
@[simp] theorem st52 (i o : Nat) (v : V) (h : Hp) : storeV Tryz.prog 52 (.ptr i o) v h = br (and (Nat.beq 4 v.cells.length) (v.cells.all V.one)) (writeRow h i o v.cells) none := by kernel_rfl
@[simp] theorem az52 (i : Nat) : alZero Tryz.prog i 52 = some (.ptr i 0, .row [(.int .i64 0), (.int .i64 0), .nilS, (.int .i64 0)] false false) := by kernel_rfl
@[simp] theorem ze52 : zeroT Tryz.prog 52 = some (.agg [(.int .i64 0), (.int .i64 0), .nilS, (.int .i64 0)]) := by kernel_rfl
@[simp] theorem fo52_0 : fOff Tryz.prog 52 0 = some 0 := by kernel_rfl
@[simp] theorem fp52_0 : fPl Tryz.prog 52 0 = some (.cell 0) := by kernel_rfl
@[simp] theorem fo52_1 : fOff Tryz.prog 52 1 = some 1 := by kernel_rfl
@[simp] theorem fp52_1 : fPl Tryz.prog 52 1 = some (.cell 1) := by kernel_rfl
@[simp] theorem fo52_2 : fOff Tryz.prog 52 2 = some 2 := by kernel_rfl
@[simp] theorem fp52_2 : fPl Tryz.prog 52 2 = some (.cell 2) := by kernel_rfl
@[simp] theorem fo52_3 : fOff Tryz.prog 52 3 = some 3 := by kernel_rfl
@[simp] theorem fp52_3 : fPl Tryz.prog 52 3 = some (.cell 3) := by kernel_rfl
theorem pl52 : plT Tryz.prog 52 = some [(0, 1), (1, 1), (2, 1), (3, 1)] := by kernel_rfl
@[simp] theorem bd52 (parts : List (Nat × V)) : buildV Tryz.prog 52 parts = (fillL [(0, 1), (1, 1), (2, 1), (3, 1)] [(.int .i64 0), (.int .i64 0), .nilS, (.int .i64 0)] parts).map .agg := buildV_eq pl52 ze52 rfl parts
@[simp] theorem sz52 : szT Tryz.prog 52 = some 4 := by kernel_rfl
@[simp] theorem by52 : bytesT Tryz.prog 52 = some 48 := by kernel_rfl
@[simp] theorem ld53 (i o : Nat) (h : Hp) : loadV Tryz.prog 53 (.ptr i o) h = cellAt h i o := by kernel_rfl
@[simp] theorem st53 (i o : Nat) (v : V) (h : Hp) : storeV Tryz.prog 53 (.ptr i o) v h = br (and (Nat.beq 1 v.cells.length) (v.cells.all V.one)) (writeRow h i o v.cells) none := by kernel_rfl
@[simp] theorem sz53 : szT Tryz.prog 53 = some 1 := by kernel_rfl
@[simp] theorem by53 : bytesT Tryz.prog 53 = some 0 := by kernel_rfl
@[simp] theorem ld55 (i o : Nat) (h : Hp) : loadV Tryz.prog 55 (.ptr i o) h = cellAt h i o := by kernel_rfl
@[simp] theorem st55 (i o : Nat) (v : V) (h : Hp) : storeV Tryz.prog 55 (.ptr i o) v h = br (and (Nat.beq 1 v.cells.length) (v.cells.all V.one)) (writeRow h i o v.cells) none := by kernel_rfl
@[simp] theorem az55 (i : Nat) : alZero Tryz.prog i 55 = some (.ptr i 0, .row [.nilS] false false) := by kernel_rfl
@[simp] theorem ze55 : zeroT Tryz.prog 55 = some .nilS := by kernel_rfl
@[simp] theorem un55 : Tryz.prog.underlying 55 = some (.slice 196) := by kernel_rfl
@[simp] theorem sz55 : szT Tryz.prog 55 = some 1 := by kernel_rfl
@[simp] theorem by55 : bytesT Tryz.prog 55 = some 24 := by kernel_rfl
@[simp] theorem ld57 (i o : Nat) (h : Hp) : loadV Tryz.prog 57 (.ptr i o) h = (rowAt h i o 3).map .agg := by kernel_rfl
@[simp] theorem st57 (i o : Nat) (v : V) (h : Hp) : storeV Tryz.prog 57 (.ptr i o) v h = br (and (Nat.beq 3 v.cells.length) (v.cells.all V.one)) (writeRow h i o v.cells) none := by kernel_rfl
@[simp] theorem az57 (i : Nat) : alZero Tryz.prog i 57 = some (.ptr i 0, .row [.nilS, (.int .i64 0), .nilS] false false) := by kernel_rfl
@[simp] theorem ze57 : zeroT Tryz.prog 57 = some (.agg [.nilS, (.int .i64 0), .nilS]) := by kernel_rfl
@[simp] theorem fo57_0 : fOff Tryz.prog 57 0 = some 0 := by kernel_rfl
@[simp] theorem fp57_0 : fPl Tryz.prog 57 0 = some (.cell 0) := by kernel_rfl
@[simp] theorem fo57_1 : fOff Tryz.prog 57 1 = some 1 := by kernel_rfl
@[simp] theorem fp57_1 : fPl Tryz.prog 57 1 = some (.cell 1) := by kernel_rfl
@[simp] theorem fo57_2 : fOff Tryz.prog 57 2 = some 2 := by kernel_rfl
@[simp] theorem fp57_2 : fPl Tryz.prog 57 2 = some (.cell 2) := by kernel_rfl
theorem pl57 : plT Tryz.prog 57 = some [(0, 1), (1, 1), (2, 1)] := by kernel_rfl
@[simp] theorem bd57 (parts : List (Nat × V)) : buildV Tryz.prog 57 parts = (fillL [(0, 1), (1, 1), (2, 1)] [.nilS, (.int .i64 0), .nilS] parts).map .agg := buildV_eq pl57 ze57 rfl parts
@[simp] theorem sz57 : szT Tryz.prog 57 = some 3 := by kernel_rfl
@[simp] theorem by57 : bytesT Tryz.prog 57 = some 56 := by kernel_rfl
@[simp] theorem ld58 (i o : Nat) (h : Hp) : loadV Tryz.prog 58 (.ptr i o) h = cellAt h i o := by kernel_rfl
@[simp] theorem st58 (i o : Nat) (v : V) (h : Hp) : storeV Tryz.prog 58 (.ptr i o) v h = br (and (Nat.beq 1 v.cells.length) (v.cells.all V.one)) (writeRow h i o v.cells) none := by kernel_rfl
@[simp] theorem sz58 : szT Tryz.prog 58 = some 1 := by kernel_rfl
@[simp] theorem by58 : bytesT Tryz.prog 58 = some 0 := by kernel_rfl
@[simp] theorem ld60 (i o : Nat) (h : Hp) : loadV Tryz.prog 60 (.ptr i o) h = cellAt h i o := by kernel_rfl
@[simp] theorem st60 (i o : Nat) (v : V) (h : Hp) : storeV Tryz.prog 60 (.ptr i o) v h = br (and (Nat.beq 1 v.cells.length) (v.cells.all V.one)) (writeRow h i o v.cells) none := by kernel_rfl
@[simp] theorem sz60 : szT Tryz.prog 60 = some 1 := by kernel_rfl
@[simp] theorem by60 : bytesT Tryz.prog 60 = some 0 := by kernel_rfl
@[simp] theorem ld63 (i o : Nat) (h : Hp) : loadV Tryz.prog 63 (.ptr i o) h = (rowAt h i o 8).map .agg := by kernel_rfl
@[simp] theorem st63 (i o : Nat) (v : V) (h : Hp) : storeV Tryz.prog 63 (.ptr i o) v h = br (and (Nat.beq 8 v.cells.length) (v.cells.all V.one)) (writeRow h i o v.cells) none := by kernel_rfl
@[simp] theorem az63 (i : Nat) : alZero Tryz.prog i 63 = some (.ptr i 0, .row [(.int .i64 0), (.int .i64 0), (.int .i64 0), (.int .i64 0), (.bool false), (.int .i64 0), (.int .i64 0), (.int .i64 0)] false false) := by kernel_rfl
@[simp] theorem ze63 : zeroT Tryz.prog 63 = some (.agg [(.int .i64 0), (.int .i64 0), (.int .i64 0), (.int .i64 0), (.bool false), (.int .i64 0), (.int .i64 0), (.int .i64 0)]) := by kernel_rfl
@[simp] theorem fo63_0 : fOff Tryz.prog 63 0 = some 0 := by kernel_rfl
@[simp] theorem fp63_0 : fPl Tryz.prog 63 0 = some (.cell 0) := by kernel_rfl
@[simp] theorem fo63_1 : fOff Tryz.prog 63 1 = some 1 := by kernel_rfl
@[simp] theorem fp63_1 : fPl Tryz.prog 63 1 = some (.cell 1) := by kernel_rfl
@[simp] theorem fo63_2 : fOff Tryz.prog 63 2 = some 2 := by kernel_rfl
@[simp] theorem fp63_2 : fPl Tryz.prog 63 2 = some (.cell 2) := by kernel_rfl
@[simp] theorem fo63_3 : fOff Tryz.prog 63 3 = some 3 := by kernel_rfl
@[simp] theorem fp63_3 : fPl Tryz.prog 63 3 = some (.cell 3) := by kernel_rfl
@[simp] theorem fo63_4 : fOff Tryz.prog 63 4 = some 4 := by kernel_rfl
@[simp] theorem fp63_4 : fPl Tryz.prog 63 4 = some (.cell 4) := by kernel_rfl
@[simp] theorem fo63_5 : fOff Tryz.prog 63 5 = some 5 := by kernel_rfl
@[simp] theorem fp63_5 : fPl Tryz.prog 63 5 = some (.cell 5) := by kernel_rfl
@[simp] theorem fo63_6 : fOff Tryz.prog 63 6 = some 6 := by kernel_rfl
@[simp] theorem fp63_6 : fPl Tryz.prog 63 6 = some (.cell 6) := by kernel_rfl
@[simp] theorem fo63_7 : fOff Tryz.prog 63 7 = some 7 := by kernel_rfl
@[simp] theorem fp63_7 : fPl Tryz.prog 63 7 = some (.cell 7) := by kernel_rfl
theorem pl63 : plT Tryz.prog 63 = some [(0, 1), (1, 1), (2, 1), (3, 1), (4, 1), (5, 1), (6, 1), (7, 1)] := by kernel_rfl
@[simp] theorem bd63 (parts : List (Nat × V)) : buildV Tryz.prog 63 parts = (fillL [(0, 1), (1, 1), (2, 1), (3, 1), (4, 1), (5, 1), (6, 1), (7, 1)] [(.int .i64 0), (.int .i64 0), (.int .i64 0), (.int .i64 0), (.bool false), (.int .i64 0), (.int .i64 0), (.int .i64 0)] parts).map .agg := buildV_eq pl63 ze63 rfl parts
@[simp] theorem sz63 : szT Tryz.prog 63 = some 8 := by kernel_rfl
@[simp] theorem by63 : bytesT Tryz.prog 63 = some 64 := by kernel_rfl
@[simp] theorem ld64 (i o : Nat) (h : Hp) : loadV Tryz.prog 64 (.ptr i o) h = cellAt h i o := by kernel_rfl
@[simp] theorem st64 (i o : Nat) (v : V) (h : Hp) : storeV Tryz.prog 64 (.ptr i o) v h = br (and (Nat.beq 1 v.cells.length) (v.cells.all V.one)) (writeRow h i o v.cells) none := by kernel_rfl
@[simp] theorem sz64 : szT Tryz.prog 64 = some 1 := by kernel_rfl
@[simp] theorem by64 : bytesT Tryz.prog 64 = some 0 := by kernel_rfl
@[simp] theorem ld74 (i o : Nat) (h : Hp) : loadV Tryz.prog 74 (.ptr i o) h = (rowAt h i o 2).map .agg := by kernel_rfl
@[simp] theorem st74 (i o : Nat) (v : V) (h : Hp) : storeV Tryz.prog 74 (.ptr i o) v h = br (and (Nat.beq 2 v.cells.length) (v.cells.all V.one)) (writeRow h i o v.cells) none := by kernel_rfl
@[simp] theorem az74 (i : Nat) : alZero Tryz.prog i 74 = some (.ptr i 0, .row [(.str []), (.int .i64 0)] false false) := by kernel_rfl
@[simp] theorem ze74 : zeroT Tryz.prog 74 = some (.agg [(.str []), (.int .i64 0)]) := by kernel_rfl
@[simp] theorem fo74_0 : fOff Tryz.prog 74 0 = some 0 := by kernel_rfl
@[simp] theorem fp74_0 : fPl Tryz.prog 74 0 = some (.cell 0) := by kernel_rfl
@[simp] theorem fo74_1 : fOff Tryz.prog 74 1 = some 1 := by kernel_rfl
@[simp] theorem fp74_1 : fPl Tryz.prog 74 1 = some (.cell 1) := by kernel_rfl
theorem pl74 : plT Tryz.prog 74 = some [(0, 1), (1, 1)] := by kernel_rfl
@[simp] theorem bd74 (parts : List (Nat × V)) : buildV Tryz.prog 74 parts = (fillL [(0, 1), (1, 1)] [(.str []), (.int .i64 0)] parts).map .agg := buildV_eq pl74 ze74 rfl parts
@[simp] theorem sz74 : szT Tryz.prog 74 = some 2 := by kernel_rfl
@[simp] theorem by74 : bytesT Tryz.prog 74 = some 24 := by kernel_rfl
@[simp] theorem ld77 (i o : Nat) (h : Hp) : loadV Tryz.prog 77 (.ptr i o) h = (rowAt h i o 5).map .agg := by kernel_rfl
@[simp] theorem st77 (i o : Nat) (v : V) (h : Hp) : storeV Tryz.prog 77 (.ptr i o) v h = br (and (Nat.beq 5 v.cells.length) (v.cells.all V.one)) (writeRow h i o v.cells) none := by kernel_rfl
@[simp] theorem az77 (i : Nat) : alZero Tryz.prog i 77 = some (.ptr i 0, .row [(.int .i64 0), (.int .i64 0), .nilS, (.int .i64 0), .nilS] false false) := by kernel_rfl
@[simp] theorem ze77 : zeroT Tryz.prog 77 = some (.agg [(.int .i64 0), (.int .i64 0), .nilS, (.int .i64 0), .nilS]) := by kernel_rfl
@[simp] theorem fo77_0 : fOff Tryz.prog 77 0 = some 0 := by kernel_rfl
@[simp] theorem fp77_0 : fPl Tryz.prog 77 0 = some (.cell 0) := by kernel_rfl
@[simp] theorem fo77_1 : fOff Tryz.prog 77 1 = some 1 := by kernel_rfl
@[simp] theorem fp77_1 : fPl Tryz.prog 77 1 = some (.cell 1) := by kernel_rfl
@[simp] theorem fo77_2 : fOff Tryz.prog 77 2 = some 2 := by kernel_rfl
@[simp] theorem fp77_2 : fPl Tryz.prog 77 2 = some (.many 2 3) := by kernel_rfl
theorem pl77 : plT Tryz.prog 77 = some [(0, 1), (1, 1), (2, 3)] := by kernel_rfl
@[simp] theorem bd77 (parts : List (Nat × V)) : buildV Tryz.prog 77 parts = (fillL [(0, 1), (1, 1), (2, 3)] [(.int .i64 0), (.int .i64 0), .nilS, (.int .i64 0), .nilS] parts).map .agg := buildV_eq pl77 ze77 rfl parts
@[simp] theorem sz77 : szT Tryz.prog 77 = some 5 := by kernel_rfl
@[simp] theorem by77 : bytesT Tryz.prog 77 = some 72 := by kernel_rfl
@[simp] theorem ld78 (i o : Nat) (h : Hp) : loadV Tryz.prog 78 (.ptr i o) h = cellAt h i o := by kernel_rfl
@[simp] theorem st78 (i o : Nat) (v : V) (h : Hp) : storeV Tryz.prog 78 (.ptr i o) v h = br (and (Nat.beq 1 v.cells.length) (v.cells.all V.one)) (writeRow h i o v.cells) none := by kernel_rfl
@[simp] theorem sz78 : szT Tryz.prog 78 = some 1 := by kernel_rfl
@[simp] theorem by78 : bytesT Tryz.prog 78 = some 0 := by kernel_rfl
@[simp] theorem ld80 (i o : Nat) (h : Hp) : loadV Tryz.prog 80 (.ptr i o) h = cellAt h i o := by kernel_rfl
@[simp] theorem st80 (i o : Nat) (v : V) (h : Hp) : storeV Tryz.prog 80 (.ptr i o) v h = br (and (Nat.beq 1 v.cells.length) (v.cells.all V.one)) (writeRow h i o v.cells) none := by kernel_rfl
@[simp] theorem az80 (i : Nat) : alZero Tryz.prog i 80 = some (.ptr i 0, .row [.nilP] false false) := by kernel_rfl
@[simp] theorem ze80 : zeroT Tryz.prog 80 = some .nilP := by kernel_rfl
@[simp] theorem un80 : Tryz.prog.underlying 80 = some (.pointer 151) := by kernel_rfl
@[simp] theorem sz80 : szT Tryz.prog 80 = some 1 := by kernel_rfl
@[simp] theorem by80 : bytesT Tryz.prog 80 = some 8 := by kernel_rfl
@[simp] theorem ld81 (i o : Nat) (h : Hp) : loadV Tryz.prog 81 (.ptr i o) h = cellAt h i o := by kernel_rfl
@[simp] theorem st81 (i o : Nat) (v : V) (h : Hp) : storeV Tryz.prog 81 (.ptr i o) v h = br (and (Nat.beq 1 v.cells.length) (v.cells.all V.one)) (writeRow h i o v.cells) none := by kernel_rfl
@[simp] theorem sz81 : szT Tryz.prog 81 = some 1 := by kernel_rfl
@[simp] theorem by81 : bytesT Tryz.prog 81 = some 0 := by kernel_rfl
@[simp] theorem ld85 (i o : Nat) (h : Hp) : loadV Tryz.prog 85 (.ptr i o) h = cellAt h i o := by kernel_rfl
@[simp] theorem st85 (i o : Nat) (v : V) (h : Hp) : storeV Tryz.prog 85 (.ptr i o) v h = br (and (Nat.beq 1 v.cells.length) (v.cells.all V.one)) (writeRow h i o v.cells) none := by kernel_rfl
@[simp] theorem sz85 : szT Tryz.prog 85 = some 1 := by kernel_rfl
@[simp] theorem by85 : bytesT Tryz.prog 85 = some 0 := by kernel_rfl
@[simp] theorem ld88 (i o : Nat) (h : Hp) : loadV Tryz.prog 88 (.ptr i o) h = cellAt h i o := by kernel_rfl
@[simp] theorem st88 (i o : Nat) (v : V) (h : Hp) : storeV Tryz.prog 88 (.ptr i o) v h = br (and (Nat.beq 1 v.cells.length) (v.cells.all V.one)) (writeRow h i o v.cells) none := by kernel_rfl
@[simp] theorem az88 (i : Nat) : alZero Tryz.prog i 88 = some (.ptr i 0, .row [.nilP] false false) := by kernel_rfl
@[simp] theorem ze88 : zeroT Tryz.prog 88 = some .nilP := by kernel_rfl
@[simp] theorem un88 : Tryz.prog.underlying 88 = some (.pointer 91) := by kernel_rfl
@[simp] theorem sz88 : szT Tryz.prog 88 = some 1 := by kernel_rfl
@[simp] theorem by88 : bytesT Tryz.prog 88 = some 8 := by kernel_rfl
@[simp] theorem ld89 (i o : Nat) (h : Hp) : loadV Tryz.prog 89 (.ptr i o) h = cellAt h i o := by kernel_rfl
@[simp] theorem st89 (i o : Nat) (v : V) (h : Hp) : storeV Tryz.prog 89 (.ptr i o) v h = br (and (Nat.beq 1 v.cells.length) (v.cells.all V.one)) (writeRow h i o v.cells) none := by kernel_rfl
@[simp] theorem az89 (i : Nat) : alZero Tryz.prog i 89 = some (.ptr i 0, .row [.nilP] false false) := by kernel_rfl
@[simp] theorem ze89 : zeroT Tryz.prog 89 = some .nilP := by kernel_rfl
@[simp] theorem un89 : Tryz.prog.underlying 89 = some (.pointer 169) := by kernel_rfl
@[simp] theorem sz89 : szT Tryz.prog 89 = some 1 := by kernel_rfl
@[simp] theorem by89 : bytesT Tryz.prog 89 = some 8 := by kernel_rfl
@[simp] theorem ld91 (i o : Nat) (h : Hp) : loadV Tryz.prog 91 (.ptr i o) h = (rowAt h i o 4).map .agg := by kernel_rfl
@[simp] theorem st91 (i o : Nat) (v : V) (h : Hp) : storeV Tryz.prog 91 (.ptr i o) v h = br (and (Nat.beq 4 v.cells.length) (v.cells.all V.one)) (writeRow h i o v.cells) none := by kernel_rfl
@[simp] theorem az91 (i : Nat) : alZero Tryz.prog i 91 = some (.ptr i 0, .row [.nilS, (.int .i64 0), .nilS, .nilP] false false) := by kernel_rfl
@[simp] theorem ze91 : zeroT Tryz.prog 91 = some (.agg [.nilS, (.int .i64 0), .nilS, .nilP]) := by kernel_rfl
@[simp] theorem fo91_0 : fOff Tryz.prog 91 0 = some 0 := by kernel_rfl
@[simp] theorem fp91_0 : fPl Tryz.prog 91 0 = some (.many 0 3) := by kernel_rfl
@[simp] theorem fo91_1 : fOff Tryz.prog 91 1 = some 3 := by kernel_rfl
@[simp] theorem fp91_1 : fPl Tryz.prog 91 1 = some (.cell 3) := by kernel_rfl
theorem pl91 : plT Tryz.prog 91 = some [(0, 3), (3, 1)] := by kernel_rfl
@[simp] theorem bd91 (parts : List (Nat × V)) : buildV Tryz.prog 91 parts = (fillL [(0, 3), (3, 1)] [.nilS, (.int .i64 0), .nilS, .nilP] parts).map .agg := buildV_eq pl91 ze91 rfl parts
@[simp] theorem sz91 : szT Tryz.prog 91 = some 4 := by kernel_rfl
@[simp] theorem by91 : bytesT Tryz.prog 91 = some 64 := by kernel_rfl
@[simp] theorem ld93 (i o : Nat) (h : Hp) : loadV Tryz.prog 93 (.ptr i o) h = cellAt h i o := by kernel_rfl
@[simp] theorem st93 (i o : Nat) (v : V) (h : Hp) : storeV Tryz.prog 93 (.ptr i o) v h = br (and (Nat.beq 1 v.cells.length) (v.cells.all V.one)) (writeRow h i o v.cells) none := by kernel_rfl
@[simp] theorem sz93 : szT Tryz.prog 93 = some 1 := by kernel_rfl
@[simp] theorem by93 : bytesT Tryz.prog 93 = some 0 := by kernel_rfl
@[simp] theorem ld96 (i o : Nat) (h : Hp) : loadV Tryz.prog 96 (.ptr i o) h = cellAt h i o := by kernel_rfl
@[simp] theorem st96 (i o : Nat) (v : V) (h : Hp) : storeV Tryz.prog 96 (.ptr i o) v h = br (and (Nat.beq 1 v.cells.length) (v.cells.all V.one)) (writeRow h i o v.cells) none := by kernel_rfl
@[simp] theorem az96 (i : Nat) : alZero Tryz.prog i 96 = some (.ptr i 0, .row [.nilF] false false) := by kernel_rfl
@[simp] theorem ze96 : zeroT Tryz.prog 96 = some .nilF := by kernel_rfl
@[simp] theorem sz96 : szT Tryz.prog 96 = some 1 := by kernel_rfl
@[simp] theorem by96 : bytesT Tryz.prog 96 = some 8 := by kernel_rfl
@[simp] theorem ld99 (i o : Nat) (h : Hp) : loadV Tryz.prog 99 (.ptr i o) h = cellAt h i o := by kernel_rfl
@[simp] theorem st99 (i o : Nat) (v : V) (h : Hp) : storeV Tryz.prog 99 (.ptr i o) v h = br (and (Nat.beq 1 v.cells.length) (v.cells.all V.one)) (writeRow h i o v.cells) none := by kernel_rfl
@[simp] theorem az99 (i : Nat) : alZero Tryz.prog i 99 = some (.ptr i 0, .row [.nilF] false false) := by kernel_rfl
@[simp] theorem ze99 : zeroT Tryz.prog 99 = some .nilF := by kernel_rfl
@[simp] theorem sz99 : szT Tryz.prog 99 = some 1 := by kernel_rfl
@[simp] theorem by99 : bytesT Tryz.prog 99 = some 8 := by kernel_rfl
@[simp] theorem ld102 (i o : Nat) (h : Hp) : loadV Tryz.prog 102 (.ptr i o) h = cellAt h i o := by kernel_rfl
@[simp] theorem st102 (i o : Nat) (v : V) (h : Hp) : storeV Tryz.prog 102 (.ptr i o) v h = br (and (Nat.beq 1 v.cells.length) (v.cells.all V.one)) (writeRow h i o v.cells) none := by kernel_rfl
@[simp] theorem az102 (i : Nat) : alZero Tryz.prog i 102 = some (.ptr i 0, .row [.nilF] false false) := by kernel_rfl
@[simp] theorem ze102 : zeroT Tryz.prog 102 = some .nilF := by kernel_rfl
@[simp] theorem sz102 : szT Tryz.prog 102 = some 1 := by kernel_rfl
@[simp] theorem by102 : bytesT Tryz.prog 102 = some 8 := by kernel_rfl
@[simp] theorem ld105 (i o : Nat) (h : Hp) : loadV Tryz.prog 105 (.ptr i o) h = cellAt h i o := by kernel_rfl
@[simp] theorem st105 (i o : Nat) (v : V) (h : Hp) : storeV Tryz.prog 105 (.ptr i o) v h = br (and (Nat.beq 1 v.cells.length) (v.cells.all V.one)) (writeRow h i o v.cells) none := by kernel_rfl
@[simp] theorem az105 (i : Nat) : alZero Tryz.prog i 105 = some (.ptr i 0, .row [.nilF] false false) := by kernel_rfl
@[simp] theorem ze105 : zeroT Tryz.prog 105 = some .nilF := by kernel_rfl
@[simp] theorem sz105 : szT Tryz.prog 105 = some 1 := by kernel_rfl
@[simp] theorem by105 : bytesT Tryz.prog 105 = some 8 := by kernel_rfl
@[simp] theorem ld108 (i o : Nat) (h : Hp) : loadV Tryz.prog 108 (.ptr i o) h = cellAt h i o := by kernel_rfl
@[simp] theorem st108 (i o : Nat) (v : V) (h : Hp) : storeV Tryz.prog 108 (.ptr i o) v h = br (and (Nat.beq 1 v.cells.length) (v.cells.all V.one)) (writeRow h i o v.cells) none := by kernel_rfl
@[simp] theorem az108 (i : Nat) : alZero Tryz.prog i 108 = some (.ptr i 0, .row [.nilF] false false) := by kernel_rfl
@[simp] theorem ze108 : zeroT Tryz.prog 108 = some .nilF := by kernel_rfl
@[simp] theorem sz108 : szT Tryz.prog 108 = some 1 := by kernel_rfl
@[simp] theorem by108 : bytesT Tryz.prog 108 = some 8 := by kernel_rfl
@[simp] theorem ld109 (i o : Nat) (h : Hp) : loadV Tryz.prog 109 (.ptr i o) h = cellAt h i o := by kernel_rfl
@[simp] theorem st109 (i o : Nat) (v : V) (h : Hp) : storeV Tryz.prog 109 (.ptr i o) v h = br (and (Nat.beq 1 v.cells.length) (v.cells.all V.one)) (writeRow h i o v.cells) none := by kernel_rfl
@[simp] theorem sz109 : szT Tryz.prog 109 = some 1 := by kernel_rfl
@[simp] theorem by109 : bytesT Tryz.prog 109 = some 0 := by kernel_rfl
@[simp] theorem ld112 (i o : Nat) (h : Hp) : loadV Tryz.prog 112 (.ptr i o) h = cellAt h i o := by kernel_rfl
@[simp] theorem st112 (i o : Nat) (v : V) (h : Hp) : storeV Tryz.prog 112 (.ptr i o) v h = br (and (Nat.beq 1 v.cells.length) (v.cells.all V.one)) (writeRow h i o v.cells) none := by kernel_rfl
@[simp] theorem az112 (i : Nat) : alZero Tryz.prog i 112 = some (.ptr i 0, .row [.nilS] false false) := by kernel_rfl
@[simp] theorem ze112 : zeroT Tryz.prog 112 = some .nilS := by kernel_rfl
@[simp] theorem un112 : Tryz.prog.underlying 112 = some (.slice 118) := by kernel_rfl
@[simp] theorem sz112 : szT Tryz.prog 112 = some 1 := by kernel_rfl
@[simp] theorem by112 : bytesT Tryz.prog 112 = some 24 := by kernel_rfl
@[simp] theorem ld115 (i o : Nat) (h : Hp) : loadV Tryz.prog 115 (.ptr i o) h = cellAt h i o := by kernel_rfl
@[simp] theorem st115 (i o : Nat) (v : V) (h : Hp) : storeV Tryz.prog 115 (.ptr i o) v h = br (and (Nat.beq 1 v.cells.length) (v.cells.all V.one)) (writeRow h i o v.cells) none := by kernel_rfl
@[simp] theorem sz115 : szT Tryz.prog 115 = some 1 := by kernel_rfl
@[simp] theorem by115 : bytesT Tryz.prog 115 = some 0 := by kernel_rfl
@[simp] theorem ld118 (i o : Nat) (h : Hp) : loadV Tryz.prog 118 (.ptr i o) h = (rowAt h i o 2).map .agg := by kernel_rfl
@[simp] theorem st118 (i o : Nat) (v : V) (h : Hp) : storeV Tryz.prog 118 (.ptr i o) v h = br (and (Nat.beq 2 v.cells.length) (v.cells.all V.one)) (writeRow h i o v.cells) none := by kernel_rfl
@[simp] theorem az118 (i : Nat) : alZero Tryz.prog i 118 = some (.ptr i 0, .row [(.int .i64 0), (.int .i64 0)] false false) := by kernel_rfl
@[simp] theorem ze118 : zeroT Tryz.prog 118 = some (.agg [(.int .i64 0), (.int .i64 0)]) := by kernel_rfl
@[simp] theorem fo118_0 : fOff Tryz.prog 118 0 = some 0 := by kernel_rfl
@[simp] theorem fp118_0 : fPl Tryz.prog 118 0 = some (.cell 0) := by kernel_rfl
@[simp] theorem fo118_1 : fOff Tryz.prog 118 1 = some 1 := by kernel_rfl
@[simp] theorem fp118_1 : fPl Tryz.prog 118 1 = some (.cell 1) := by kernel_rfl
theorem pl118 : plT Tryz.prog 118 = some [(0, 1), (1, 1)] := by kernel_rfl
@[simp] theorem bd118 (parts : List (Nat × V)) : buildV Tryz.prog 118 parts = (fillL [(0, 1), (1, 1)] [(.int .i64 0), (.int .i64 0)] parts).map .agg := buildV_eq pl118 ze118 rfl parts
@[simp] theorem sz118 : szT Tryz.prog 118 = some 2 := by kernel_rfl
@[simp] theorem by118 : bytesT Tryz.prog 118 = some 16 := by kernel_rfl
@[simp] theorem ld119 (i o : Nat) (h : Hp) : loadV Tryz.prog 119 (.ptr i o) h = cellAt h i o := by kernel_rfl
@[simp] theorem st119 (i o : Nat) (v : V) (h : Hp) : storeV Tryz.prog 119 (.ptr i o) v h = br (and (Nat.beq 1 v.cells.length) (v.cells.all V.one)) (writeRow h i o v.cells) none := by kernel_rfl
@[simp] theorem sz119 : szT Tryz.prog 119 = some 1 := by kernel_rfl
@[simp] theorem by119 : bytesT Tryz.prog 119 = some 0 := by kernel_rfl
@[simp] theorem ld121 (i o : Nat) (h : Hp) : loadV Tryz.prog 121 (.ptr i o) h = cellAt h i o := by kernel_rfl
@[simp] theorem st121 (i o : Nat) (v : V) (h : Hp) : storeV Tryz.prog 121 (.ptr i o) v h = br (and (Nat.beq 1 v.cells.length) (v.cells.all V.one)) (writeRow h i o v.cells) none := by kernel_rfl
@[simp] theorem az121 (i : Nat) : alZero Tryz.prog i 121 = some (.ptr i 0, .row [.nilF] false false) := by kernel_rfl
@[simp] theorem ze121 : zeroT Tryz.prog 121 = some .nilF := by kernel_rfl
@[simp] theorem sz121 : szT Tryz.prog 121 = some 1 := by kernel_rfl
@[simp] theorem by121 : bytesT Tryz.prog 121 = some 8 := by kernel_rfl
@[simp] theorem ld128 (i o : Nat) (h : Hp) : loadV Tryz.prog 128 (.ptr i o) h = cellAt h i o := by kernel_rfl
@[simp] theorem st128 (i o : Nat) (v : V) (h : Hp) : storeV Tryz.prog 128 (.ptr i o) v h = br (and (Nat.beq 1 v.cells.length) (v.cells.all V.one)) (writeRow h i o v.cells) none := by kernel_rfl
@[simp] theorem az128 (i : Nat) : alZero Tryz.prog i 128 = some (.ptr i 0, .row [.nilP] false false) := by kernel_rfl
@[simp] theorem ze128 : zeroT Tryz.prog 128 = some .nilP := by kernel_rfl
@[simp] theorem un128 : Tryz.prog.underlying 128 = some (.pointer 41) := by kernel_rfl
@[simp] theorem sz128 : szT Tryz.prog 128 = some 1 := by kernel_rfl
@[simp] theorem by128 : bytesT Tryz.prog 128 = some 8 := by kernel_rfl
@[simp] theorem ld129 (i o : Nat) (h : Hp) : loadV Tryz.prog 129 (.ptr i o) h = cellAt h i o := by kernel_rfl
@[simp] theorem st129 (i o : Nat) (v : V) (h : Hp) : storeV Tryz.prog 129 (.ptr i o) v h = br (and (Nat.beq 1 v.cells.length) (v.cells.all V.one)) (writeRow h i o v.cells) none := by kernel_rfl
@[simp] theorem az129 (i : Nat) : alZero Tryz.prog i 129 = some (.ptr i 0, .row [.nilP] false false) := by kernel_rfl
@[simp] theorem ze129 : zeroT Tryz.prog 129 = some .nilP := by kernel_rfl
@[simp] theorem un129 : Tryz.prog.underlying 129 = some (.pointer 3) := by kernel_rfl
@[simp] theorem sz129 : szT Tryz.prog 129 = some 1 := by kernel_rfl
@[simp] theorem by129 : bytesT Tryz.prog 129 = some 8 := by kernel_rfl
@[simp] theorem ld130 (i o : Nat) (h : Hp) : loadV Tryz.prog 130 (.ptr i o) h = cellAt h i o := by kernel_rfl
@[simp] theorem st130 (i o : Nat) (v : V) (h : Hp) : storeV Tryz.prog 130 (.ptr i o) v h = br (and (Nat.beq 1 v.cells.length) (v.cells.all V.one)) (writeRow h i o v.cells) none := by kernel_rfl
@[simp] theorem az130 (i : Nat) : alZero Tryz.prog i 130 = some (.ptr i 0, .row [.nilP] false false) := by kernel_rfl
@[simp] theorem ze130 : zeroT Tryz.prog 130 = some .nilP := by kernel_rfl
@[simp] theorem un130 : Tryz.prog.underlying 130 = some (.pointer 211) := by kernel_rfl
@[simp] theorem sz130 : szT Tryz.prog 130 = some 1 := by kernel_rfl
@[simp] theorem by130 : bytesT Tryz.prog 130 = some 8 := by kernel_rfl
@[simp] theorem ld132 (i o : Nat) (h : Hp) : loadV Tryz.prog 132 (.ptr i o) h = cellAt h i o := by kernel_rfl
@[simp] theorem st132 (i o : Nat) (v : V) (h : Hp) : storeV Tryz.prog 132 (.ptr i o) v h = br (and (Nat.beq 1 v.cells.length) (v.cells.all V.one)) (writeRow h i o v.cells) none := by kernel_rfl
@[simp] theorem az132 (i : Nat) : alZero Tryz.prog i 132 = some (.ptr i 0, .row [.nilP] false false) := by kernel_rfl
@[simp] theorem ze132 : zeroT Tryz.prog 132 = some .nilP := by kernel_rfl
@[simp] theorem un132 : Tryz.prog.underlying 132 = some (.pointer 143) := by kernel_rfl
@[simp] theorem sz132 : szT Tryz.prog 132 = some 1 := by kernel_rfl
@[simp] theorem by132 : bytesT Tryz.prog 132 = some 8 := by kernel_rfl
@[simp] theorem ld135 (i o : Nat) (h : Hp) : loadV Tryz.prog 135 (.ptr i o) h = (rowAt h i o 3).map .agg := by kernel_rfl
@[simp] theorem st135 (i o : Nat) (v : V) (h : Hp) : storeV Tryz.prog 135 (.ptr i o) v h = br (and (Nat.beq 3 v.cells.length) (v.cells.all V.one)) (writeRow h i o v.cells) none := by kernel_rfl
@[simp] theorem az135 (i : Nat) : alZero Tryz.prog i 135 = some (.ptr i 0, .row [(.int .i8 0), (.str []), (.int .i64 0)] false false) := by kernel_rfl
@[simp] theorem ze135 : zeroT Tryz.prog 135 = some (.agg [(.int .i8 0), (.str []), (.int .i64 0)]) := by kernel_rfl
@[simp] theorem fo135_0 : fOff Tryz.prog 135 0 = some 0 := by kernel_rfl
@[simp] theorem fp135_0 : fPl Tryz.prog 135 0 = some (.cell 0) := by kernel_rfl
@[simp] theorem fo135_1 : fOff Tryz.prog 135 1 = some 1 := by kernel_rfl
@[simp] theorem fp135_1 : fPl Tryz.prog 135 1 = some (.cell 1) := by kernel_rfl
@[simp] theorem fo135_2 : fOff Tryz.prog 135 2 = some 2 := by kernel_rfl
@[simp] theorem fp135_2 : fPl Tryz.prog 135 2 = some (.cell 2) := by kernel_rfl
theorem pl135 : plT Tryz.prog 135 = some [(0, 1), (1, 1), (2, 1)] := by kernel_rfl
@[simp] theorem bd135 (parts : List (Nat × V)) : buildV Tryz.prog 135 parts = (fillL [(0, 1), (1, 1), (2, 1)] [(.int .i8 0), (.str []), (.int .i64 0)] parts).map .agg := buildV_eq pl135 ze135 rfl parts
@[simp] theorem sz135 : szT Tryz.prog 135 = some 3 := by kernel_rfl
@[simp] theorem by135 : bytesT Tryz.prog 135 = some 32 := by kernel_rfl
@[simp] theorem ld137 (i o : Nat) (h : Hp) : loadV Tryz.prog 137 (.ptr i o) h = cellAt h i o := by kernel_rfl
@[simp] theorem st137 (i o : Nat) (v : V) (h : Hp) : storeV Tryz.prog 137 (.ptr i o) v h = br (and (Nat.beq 1 v.cells.length) (v.cells.all V.one)) (writeRow h i o v.cells) none := by kernel_rfl
@[simp] theorem az137 (i : Nat) : alZero Tryz.prog i 137 = some (.ptr i 0, .row [.nilS] false false) := by kernel_rfl
@[simp] theorem ze137 : zeroT Tryz.prog 137 = some .nilS := by kernel_rfl
@[simp] theorem un137 : Tryz.prog.underlying 137 = some (.slice 214) := by kernel_rfl
@[simp] theorem sz137 : szT Tryz.prog 137 = some 1 := by kernel_rfl
@[simp] theorem by137 : bytesT Tryz.prog 137 = some 24 := by kernel_rfl
@[simp] theorem ld141 (i o : Nat) (h : Hp) : loadV Tryz.prog 141 (.ptr i o) h = cellAt h i o := by kernel_rfl
@[simp] theorem st141 (i o : Nat) (v : V) (h : Hp) : storeV Tryz.prog 141 (.ptr i o) v h = br (and (Nat.beq 1 v.cells.length) (v.cells.all V.one)) (writeRow h i o v.cells) none := by kernel_rfl
@[simp] theorem az141 (i : Nat) : alZero Tryz.prog i 141 = some (.ptr i 0, .row [.nilS] false false) := by kernel_rfl
@[simp] theorem ze141 : zeroT Tryz.prog 141 = some .nilS := by kernel_rfl
@[simp] theorem un141 : Tryz.prog.underlying 141 = some (.slice 135) := by kernel_rfl
@[simp] theorem sz141 : szT Tryz.prog 141 = some 1 := by kernel_rfl
@[simp] theorem by141 : bytesT Tryz.prog 141 = some 24 := by kernel_rfl
@[simp] theorem ld143 (i o : Nat) (h : Hp) : loadV Tryz.prog 143 (.ptr i o) h = (rowAt h i o 4).map .agg := by kernel_rfl
@[simp] theorem st143 (i o : Nat) (v : V) (h : Hp) : storeV Tryz.prog 143 (.ptr i o) v h = br (and (Nat.beq 4 v.cells.length) (v.cells.all V.one)) (writeRow h i o v.cells) none := by kernel_rfl
@[simp] theorem az143 (i : Nat) : alZero Tryz.prog i 143 = some (.ptr i 0, .row [(.int .i8 0), (.str []), (.int .i64 0), .nilS] false false) := by kernel_rfl
@[simp] theorem ze143 : zeroT Tryz.prog 143 = some (.agg [(.int .i8 0), (.str []), (.int .i64 0), .nilS]) := by kernel_rfl
@[simp] theorem fo143_0 : fOff Tryz.prog 143 0 = some 0 := by kernel_rfl
@[simp] theorem fp143_0 : fPl Tryz.prog 143 0 = some (.many 0 3) := by kernel_rfl
@[simp] theorem fo143_1 : fOff Tryz.prog 143 1 = some 3 := by kernel_rfl
@[simp] theorem fp143_1 : fPl Tryz.prog 143 1 = some (.cell 3) := by kernel_rfl
theorem pl143 : plT Tryz.prog 143 = some [(0, 3), (3, 1)] := by kernel_rfl
@[simp] theorem bd143 (parts : List (Nat × V)) : buildV Tryz.prog 143 parts = (fillL [(0, 3), (3, 1)] [(.int .i8 0), (.str []), (.int .i64 0), .nilS] parts).map .agg := buildV_eq pl143 ze143 rfl parts
@[simp] theorem sz143 : szT Tryz.prog 143 = some 4 := by kernel_rfl
@[simp] theorem by143 : bytesT Tryz.prog 143 = some 56 := by kernel_rfl
@[simp] theorem ld144 (i o : Nat) (h : Hp) : loadV Tryz.prog 144 (.ptr i o) h = cellAt h i o := by kernel_rfl
@[simp] theorem st144 (i o : Nat) (v : V) (h : Hp) : storeV Tryz.prog 144 (.ptr i o) v h = br (and (Nat.beq 1 v.cells.length) (v.cells.all V.one)) (writeRow h i o v.cells) none := by kernel_rfl
@[simp] theorem az144 (i : Nat) : alZero Tryz.prog i 144 = some (.ptr i 0, .row [.nilP] false false) := by kernel_rfl
@[simp] theorem ze144 : zeroT Tryz.prog 144 = some .nilP := by kernel_rfl
@[simp] theorem un144 : Tryz.prog.underlying 144 = some (.pointer 33) := by kernel_rfl
@[simp] theorem sz144 : szT Tryz.prog 144 = some 1 := by kernel_rfl
@[simp] theorem by144 : bytesT Tryz.prog 144 = some 8 := by kernel_rfl
@[simp] theorem ld147 (i o : Nat) (h : Hp) : loadV Tryz.prog 147 (.ptr i o) h = cellAt h i o := by kernel_rfl
@[simp] theorem st147 (i o : Nat) (v : V) (h : Hp) : storeV Tryz.prog 147 (.ptr i o) v h = br (and (Nat.beq 1 v.cells.length) (v.cells.all V.one)) (writeRow h i o v.cells) none := by kernel_rfl
@[simp] theorem az147 (i : Nat) : alZero Tryz.prog i 147 = some (.ptr i 0, .row [.nilM] false false) := by kernel_rfl
@[simp] theorem ze147 : zeroT Tryz.prog 147 = some .nilM := by kernel_rfl
@[simp] theorem un147 : Tryz.prog.underlying 147 = some (.map 153 3) := by kernel_rfl
@[simp] theorem sz147 : szT Tryz.prog 147 = some 1 := by kernel_rfl
@[simp] theorem by147 : bytesT Tryz.prog 147 = some 8 := by kernel_rfl
@[simp] theorem ld149 (i o : Nat) (h : Hp) : loadV Tryz.prog 149 (.ptr i o) h = (rowAt h i o 2).map .agg := by kernel_rfl
@[simp] theorem st149 (i o : Nat) (v : V) (h : Hp) : storeV Tryz.prog 149 (.ptr i o) v h = br (and (Nat.beq 2 v.cells.length) (v.cells.all V.one)) (writeRow h i o v.cells) none := by kernel_rfl
@[simp] theorem az149 (i : Nat) : alZero Tryz.prog i 149 = some (.ptr i 0, .row [.nilS, .nilM] false false) := by kernel_rfl
@[simp] theorem ze149 : zeroT Tryz.prog 149 = some (.agg [.nilS, .nilM]) := by kernel_rfl
@[simp] theorem fo149_0 : fOff Tryz.prog 149 0 = some 0 := by kernel_rfl
@[simp] theorem fp149_0 : fPl Tryz.prog 149 0 = some (.cell 0) := by kernel_rfl
@[simp] theorem fo149_1 : fOff Tryz.prog 149 1 = some 1 := by kernel_rfl
@[simp] theorem fp149_1 : fPl Tryz.prog 149 1 = some (.cell 1) := by kernel_rfl
theorem pl149 : plT Tryz.prog 149 = some [(0, 1), (1, 1)] := by kernel_rfl
@[simp] theorem bd149 (parts : List (Nat × V)) : buildV Tryz.prog 149 parts = (fillL [(0, 1), (1, 1)] [.nilS, .nilM] parts).map .agg := buildV_eq pl149 ze149 rfl parts
@[simp] theorem sz149 : szT Tryz.prog 149 = some 2 := by kernel_rfl
@[simp] theorem by149 : bytesT Tryz.prog 149 = some 32 := by kernel_rfl
@[simp] theorem ld151 (i o : Nat) (h : Hp) : loadV Tryz.prog 151 (.ptr i o) h = (rowAt h i o 3).map .agg := by kernel_rfl
@[simp] theorem st151 (i o : Nat) (v : V) (h : Hp) : storeV Tryz.prog 151 (.ptr i o) v h = br (and (Nat.beq 3 v.cells.length) (v.cells.all V.one)) (writeRow h i o v.cells) none := by kernel_rfl
@[simp] theorem az151 (i : Nat) : alZero Tryz.prog i 151 = some (.ptr i 0, .row [.nilS, .nilM, .nilS] false false) := by kernel_rfl
@[simp] theorem ze151 : zeroT Tryz.prog 151 = some (.agg [.nilS, .nilM, .nilS]) := by kernel_rfl
@[simp] theorem fo151_0 : fOff Tryz.prog 151 0 = some 0 := by kernel_rfl
@[simp] theorem fp151_0 : fPl Tryz.prog 151 0 = some (.many 0 2) := by kernel_rfl
@[simp] theorem fo151_1 : fOff Tryz.prog 151 1 = some 2 := by kernel_rfl
@[simp] theorem fp151_1 : fPl Tryz.prog 151 1 = some (.cell 2) := by kernel_rfl
theorem pl151 : plT Tryz.prog 151 = some [(0, 2), (2, 1)] := by kernel_rfl
@[simp] theorem bd151 (parts : List (Nat × V)) : buildV Tryz.prog 151 parts = (fillL [(0, 2), (2, 1)] [.nilS, .nilM, .nilS] parts).map .agg := buildV_eq pl151 ze151 rfl parts
@[simp] theorem sz151 : szT Tryz.prog 151 = some 3 := by kernel_rfl
@[simp] theorem by151 : bytesT Tryz.prog 151 = some 56 := by kernel_rfl
@[simp] theorem ld153 (i o : Nat) (h : Hp) : loadV Tryz.prog 153 (.ptr i o) h = (rowAt h i o 2).map .agg := by kernel_rfl
@[simp] theorem st153 (i o : Nat) (v : V) (h : Hp) : storeV Tryz.prog 153 (.ptr i o) v h = br (and (Nat.beq 2 v.cells.length) (v.cells.all V.one)) (writeRow h i o v.cells) none := by kernel_rfl
@[simp] theorem az153 (i : Nat) : alZero Tryz.prog i 153 = some (.ptr i 0, .row [(.int .i64 0), (.int .i64 0)] false false) := by kernel_rfl
@[simp] theorem ze153 : zeroT Tryz.prog 153 = some (.agg [(.int .i64 0), (.int .i64 0)]) := by kernel_rfl
@[simp] theorem un153 : Tryz.prog.underlying 153 = some (.array 2 3) := by kernel_rfl
@[simp] theorem sz153 : szT Tryz.prog 153 = some 2 := by kernel_rfl
@[simp] theorem by153 : bytesT Tryz.prog 153 = some 16 := by kernel_rfl
@[simp] theorem ld159 (i o : Nat) (h : Hp) : loadV Tryz.prog 159 (.ptr i o) h = cellAt h i o := by kernel_rfl
@[simp] theorem st159 (i o : Nat) (v : V) (h : Hp) : storeV Tryz.prog 159 (.ptr i o) v h = br (and (Nat.beq 1 v.cells.length) (v.cells.all V.one)) (writeRow h i o v.cells) none := by kernel_rfl
@[simp] theorem az159 (i : Nat) : alZero Tryz.prog i 159 = some (.ptr i 0, .row [.nilP] false false) := by kernel_rfl
@[simp] theorem ze159 : zeroT Tryz.prog 159 = some .nilP := by kernel_rfl
@[simp] theorem un159 : Tryz.prog.underlying 159 = some (.pointer 255) := by kernel_rfl
@[simp] theorem sz159 : szT Tryz.prog 159 = some 1 := by kernel_rfl
@[simp] theorem by159 : bytesT Tryz.prog 159 = some 8 := by kernel_rfl
@[simp] theorem ld160 (i o : Nat) (h : Hp) : loadV Tryz.prog 160 (.ptr i o) h = cellAt h i o := by kernel_rfl
@[simp] theorem st160 (i o : Nat) (v : V) (h : Hp) : storeV Tryz.prog 160 (.ptr i o) v h = br (and (Nat.beq 1 v.cells.length) (v.cells.all V.one)) (writeRow h i o v.cells) none := by kernel_rfl
@[simp] theorem sz160 : szT Tryz.prog 160 = some 1 := by kernel_rfl
@[simp] theorem by160 : bytesT Tryz.prog 160 = some 0 := by kernel_rfl
@[simp] theorem ld163 (i o : Nat) (h : Hp) : loadV Tryz.prog 163 (.ptr i o) h = cellAt h i o := by kernel_rfl
@[simp] theorem st163 (i o : Nat) (v : V) (h : Hp) : storeV Tryz.prog 163 (.ptr i o) v h = br (and (Nat.beq 1 v.cells.length) (v.cells.all V.one)) (writeRow h i o v.cells) none := by kernel_rfl
@[simp] theorem az163 (i : Nat) : alZero Tryz.prog i 163 = some (.ptr i 0, .row [.nilP] false false) := by kernel_rfl
@[simp] theorem ze163 : zeroT Tryz.prog 163 = some .nilP := by kernel_rfl
@[simp] theorem un163 : Tryz.prog.underlying 163 = some (.pointer 234) := by kernel_rfl
@[simp] theorem sz163 : szT Tryz.prog 163 = some 1 := by kernel_rfl
@[simp] theorem by163 : bytesT Tryz.prog 163 = some 8 := by kernel_rfl
@[simp] theorem ld165 (i o : Nat) (h : Hp) : loadV Tryz.prog 165 (.ptr i o) h = cellAt h i o := by kernel_rfl
@[simp] theorem st165 (i o : Nat) (v : V) (h : Hp) : storeV Tryz.prog 165 (.ptr i o) v h = br (and (Nat.beq 1 v.cells.length) (v.cells.all V.one)) (writeRow h i o v.cells) none := by kernel_rfl
@[simp] theorem az165 (i : Nat) : alZero Tryz.prog i 165 = some (.ptr i 0, .row [.nilM] false false) := by kernel_rfl
@[simp] theorem ze165 : zeroT Tryz.prog 165 = some .nilM := by kernel_rfl
@[simp] theorem un165 : Tryz.prog.underlying 165 = some (.map 3 186) := by kernel_rfl
@[simp] theorem sz165 : szT Tryz.prog 165 = some 1 := by kernel_rfl
@[simp] theorem by165 : bytesT Tryz.prog 165 = some 8 := by kernel_rfl
@[simp] theorem ld167 (i o : Nat) (h : Hp) : loadV Tryz.prog 167 (.ptr i o) h = (rowAt h i o 6).map .agg := by kernel_rfl
@[simp] theorem st167 (i o : Nat) (v : V) (h : Hp) : storeV Tryz.prog 167 (.ptr i o) v h = br (and (Nat.beq 6 v.cells.length) (v.cells.all V.one)) (writeRow h i o v.cells) none := by kernel_rfl
@[simp] theorem az167 (i : Nat) : alZero Tryz.prog i 167 = some (.ptr i 0, .row [.nilS, .nilP, .nilP, .nilP, .nilM, (.int .i64 0)] false false) := by kernel_rfl
@[simp] theorem ze167 : zeroT Tryz.prog 167 = some (.agg [.nilS, .nilP, .nilP, .nilP, .nilM, (.int .i64 0)]) := by kernel_rfl
@[simp] theorem fo167_0 : fOff Tryz.prog 167 0 = some 0 := by kernel_rfl
@[simp] theorem fp167_0 : fPl Tryz.prog 167 0 = some (.cell 0) := by kernel_rfl
@[simp] theorem fo167_1 : fOff Tryz.prog 167 1 = some 1 := by kernel_rfl
@[simp] theorem fp167_1 : fPl Tryz.prog 167 1 = some (.cell 1) := by kernel_rfl
@[simp] theorem fo167_2 : fOff Tryz.prog 167 2 = some 2 := by kernel_rfl
@[simp] theorem fp167_2 : fPl Tryz.prog 167 2 = some (.cell 2) := by kernel_rfl
@[simp] theorem fo167_3 : fOff Tryz.prog 167 3 = some 3 := by kernel_rfl
@[simp] theorem fp167_3 : fPl Tryz.prog 167 3 = some (.cell 3) := by kernel_rfl
@[simp] theorem fo167_4 : fOff Tryz.prog 167 4 = some 4 := by kernel_rfl
@[simp] theorem fp167_4 : fPl Tryz.prog 167 4 = some (.cell 4) := by kernel_rfl
@[simp] theorem fo167_5 : fOff Tryz.prog 167 5 = some 5 := by kernel_rfl
@[simp] theorem fp167_5 : fPl Tryz.prog 167 5 = some (.cell 5) := by kernel_rfl
theorem pl167 : plT Tryz.prog 167 = some [(0, 1), (1, 1), (2, 1), (3, 1), (4, 1), (5, 1)] := by kernel_rfl
@[simp] theorem bd167 (parts : List (Nat × V)) : buildV Tryz.prog 167 parts = (fillL [(0, 1), (1, 1), (2, 1), (3, 1), (4, 1), (5, 1)] [.nilS, .nilP, .nilP, .nilP, .nilM, (.int .i64 0)] parts).map .agg := buildV_eq pl167 ze167 rfl parts
@[simp] theorem sz167 : szT Tryz.prog 167 = some 6 := by kernel_rfl
@[simp] theorem by167 : bytesT Tryz.prog 167 = some 64 := by kernel_rfl
@[simp] theorem ld169 (i o : Nat) (h : Hp) : loadV Tryz.prog 169 (.ptr i o) h = (rowAt h i o 6).map .agg := by kernel_rfl
@[simp] theorem st169 (i o : Nat) (v : V) (h : Hp) : storeV Tryz.prog 169 (.ptr i o) v h = br (and (Nat.beq 6 v.cells.length) (v.cells.all V.one)) (writeRow h i o v.cells) none := by kernel_rfl
@[simp] theorem az169 (i : Nat) : alZero Tryz.prog i 169 = some (.ptr i 0, .row [.nilS, .nilP, .nilP, .nilP, .nilM, (.int .i64 0)] false false) := by kernel_rfl
@[simp] theorem ze169 : zeroT Tryz.prog 169 = some (.agg [.nilS, .nilP, .nilP, .nilP, .nilM, (.int .i64 0)]) := by kernel_rfl
@[simp] theorem fo169_0 : fOff Tryz.prog 169 0 = some 0 := by kernel_rfl
@[simp] theorem fp169_0 : fPl Tryz.prog 169 0 = some (.many 0 6) := by kernel_rfl
theorem pl169 : plT Tryz.prog 169 = some [(0, 6)] := by kernel_rfl
@[simp] theorem bd169 (parts : List (Nat × V)) : buildV Tryz.prog 169 parts = (fillL [(0, 6)] [.nilS, .nilP, .nilP, .nilP, .nilM, (.int .i64 0)] parts).map .agg := buildV_eq pl169 ze169 rfl parts
@[simp] theorem sz169 : szT Tryz.prog 169 = some 6 := by kernel_rfl
@[simp] theorem by169 : bytesT Tryz.prog 169 = some 64 := by kernel_rfl
@[simp] theorem ld171 (i o : Nat) (h : Hp) : loadV Tryz.prog 171 (.ptr i o) h = cellAt h i o := by kernel_rfl
@[simp] theorem st171 (i o : Nat) (v : V) (h : Hp) : storeV Tryz.prog 171 (.ptr i o) v h = br (and (Nat.beq 1 v.cells.length) (v.cells.all V.one)) (writeRow h i o v.cells) none := by kernel_rfl
@[simp] theorem sz171 : szT Tryz.prog 171 = some 1 := by kernel_rfl
@[simp] theorem by171 : bytesT Tryz.prog 171 = some 0 := by kernel_rfl
@[simp] theorem ld174 (i o : Nat) (h : Hp) : loadV Tryz.prog 174 (.ptr i o) h = cellAt h i o := by kernel_rfl
@[simp] theorem st174 (i o : Nat) (v : V) (h : Hp) : storeV Tryz.prog 174 (.ptr i o) v h = br (and (Nat.beq 1 v.cells.length) (v.cells.all V.one)) (writeRow h i o v.cells) none := by kernel_rfl
@[simp] theorem az174 (i : Nat) : alZero Tryz.prog i 174 = some (.ptr i 0, .row [.nilF] false false) := by kernel_rfl
@[simp] theorem ze174 : zeroT Tryz.prog 174 = some .nilF := by kernel_rfl
@[simp] theorem sz174 : szT Tryz.prog 174 = some 1 := by kernel_rfl
@[simp] theorem by174 : bytesT Tryz.prog 174 = some 8 := by kernel_rfl
@[simp] theorem ld177 (i o : Nat) (h : Hp) : loadV Tryz.prog 177 (.ptr i o) h = cellAt h i o := by kernel_rfl
@[simp] theorem st177 (i o : Nat) (v : V) (h : Hp) : storeV Tryz.prog 177 (.ptr i o) v h = br (and (Nat.beq 1 v.cells.length) (v.cells.all V.one)) (writeRow h i o v.cells) none := by kernel_rfl
@[simp] theorem az177 (i : Nat) : alZero Tryz.prog i 177 = some (.ptr i 0, .row [.nilF] false false) := by kernel_rfl
@[simp] theorem ze177 : zeroT Tryz.prog 177 = some .nilF := by kernel_rfl
@[simp] theorem sz177 : szT Tryz.prog 177 = some 1 := by kernel_rfl
@[simp] theorem by177 : bytesT Tryz.prog 177 = some 8 := by kernel_rfl
@[simp] theorem ld178 (i o : Nat) (h : Hp) : loadV Tryz.prog 178 (.ptr i o) h = cellAt h i o := by kernel_rfl
@[simp] theorem st178 (i o : Nat) (v : V) (h : Hp) : storeV Tryz.prog 178 (.ptr i o) v h = br (and (Nat.beq 1 v.cells.length) (v.cells.all V.one)) (writeRow h i o v.cells) none := by kernel_rfl
@[simp] theorem sz178 : szT Tryz.prog 178 = some 1 := by kernel_rfl
@[simp] theorem by178 : bytesT Tryz.prog 178 = some 0 := by kernel_rfl
@[simp] theorem ld180 (i o : Nat) (h : Hp) : loadV Tryz.prog 180 (.ptr i o) h = cellAt h i o := by kernel_rfl
@[simp] theorem st180 (i o : Nat) (v : V) (h : Hp) : storeV Tryz.prog 180 (.ptr i o) v h = br (and (Nat.beq 1 v.cells.length) (v.cells.all V.one)) (writeRow h i o v.cells) none := by kernel_rfl
@[simp] theorem sz180 : szT Tryz.prog 180 = some 1 := by kernel_rfl
@[simp] theorem by180 : bytesT Tryz.prog 180 = some 0 := by kernel_rfl
@[simp] theorem ld181 (i o : Nat) (h : Hp) : loadV Tryz.prog 181 (.ptr i o) h = cellAt h i o := by kernel_rfl
@[simp] theorem st181 (i o : Nat) (v : V) (h : Hp) : storeV Tryz.prog 181 (.ptr i o) v h = br (and (Nat.beq 1 v.cells.length) (v.cells.all V.one)) (writeRow h i o v.cells) none := by kernel_rfl
@[simp] theorem az181 (i : Nat) : alZero Tryz.prog i 181 = some (.ptr i 0, .row [.nilP] false false) := by kernel_rfl
@[simp] theorem ze181 : zeroT Tryz.prog 181 = some .nilP := by kernel_rfl
@[simp] theorem un181 : Tryz.prog.underlying 181 = some (.pointer 262) := by kernel_rfl
@[simp] theorem sz181 : szT Tryz.prog 181 = some 1 := by kernel_rfl
@[simp] theorem by181 : bytesT Tryz.prog 181 = some 8 := by kernel_rfl
@[simp] theorem ld184 (i o : Nat) (h : Hp) : loadV Tryz.prog 184 (.ptr i o) h = cellAt h i o := by kernel_rfl
@[simp] theorem st184 (i o : Nat) (v : V) (h : Hp) : storeV Tryz.prog 184 (.ptr i o) v h = br (and (Nat.beq 1 v.cells.length) (v.cells.all V.one)) (writeRow h i o v.cells) none := by kernel_rfl
@[simp] theorem az184 (i : Nat) : alZero Tryz.prog i 184 = some (.ptr i 0, .row [.nilS] false false) := by kernel_rfl
@[simp] theorem ze184 : zeroT Tryz.prog 184 = some .nilS := by kernel_rfl
@[simp] theorem un184 : Tryz.prog.underlying 184 = some (.slice 194) := by kernel_rfl
@[simp] theorem sz184 : szT Tryz.prog 184 = some 1 := by kernel_rfl
@[simp] theorem by184 : bytesT Tryz.prog 184 = some 24 := by kernel_rfl
@[simp] theorem ld186 (i o : Nat) (h : Hp) : loadV Tryz.prog 186 (.ptr i o) h = (rowAt h i o 5).map .agg := by kernel_rfl
@[simp] theorem st186 (i o : Nat) (v : V) (h : Hp) : storeV Tryz.prog 186 (.ptr i o) v h = br (and (Nat.beq 5 v.cells.length) (v.cells.all V.one)) (writeRow h i o v.cells) none := by kernel_rfl
@[simp] theorem az186 (i : Nat) : alZero Tryz.prog i 186 = some (.ptr i 0, .row [(.int .i64 0), (.int .i64 0), .nilS, .nilS, .nilS] false false) := by kernel_rfl
@[simp] theorem ze186 : zeroT Tryz.prog 186 = some (.agg [(.int .i64 0), (.int .i64 0), .nilS, .nilS, .nilS]) := by kernel_rfl
@[simp] theorem fo186_0 : fOff Tryz.prog 186 0 = some 0 := by kernel_rfl
@[simp] theorem fp186_0 : fPl Tryz.prog 186 0 = some (.cell 0) := by kernel_rfl
@[simp] theorem fo186_1 : fOff Tryz.prog 186 1 = some 1 := by kernel_rfl
@[simp] theorem fp186_1 : fPl Tryz.prog 186 1 = some (.cell 1) := by kernel_rfl
@[simp] theorem fo186_2 : fOff Tryz.prog 186 2 = some 2 := by kernel_rfl
@[simp] theorem fp186_2 : fPl Tryz.prog 186 2 = some (.cell 2) := by kernel_rfl
@[simp] theorem fo186_3 : fOff Tryz.prog 186 3 = some 3 := by kernel_rfl
@[simp] theorem fp186_3 : fPl Tryz.prog 186 3 = some (.cell 3) := by kernel_rfl
@[simp] theorem fo186_4 : fOff Tryz.prog 186 4 = some 4 := by kernel_rfl
@[simp] theorem fp186_4 : fPl Tryz.prog 186 4 = some (.cell 4) := by kernel_rfl
theorem pl186 : plT Tryz.prog 186 = some [(0, 1), (1, 1), (2, 1), (3, 1), (4, 1)] := by kernel_rfl
@[simp] theorem bd186 (parts : List (Nat × V)) : buildV Tryz.prog 186 parts = (fillL [(0, 1), (1, 1), (2, 1), (3, 1), (4, 1)] [(.int .i64 0), (.int .i64 0), .nilS, .nilS, .nilS] parts).map .agg := buildV_eq pl186 ze186 rfl parts
@[simp] theorem sz186 : szT Tryz.prog 186 = some 5 := by kernel_rfl
@[simp] theorem by186 : bytesT Tryz.prog 186 = some 88 := by kernel_rfl
@[simp] theorem ld187 (i o : Nat) (h : Hp) : loadV Tryz.prog 187 (.ptr i o) h = cellAt h i o := by kernel_rfl
@[simp] theorem st187 (i o : Nat) (v : V) (h : Hp) : storeV Tryz.prog 187 (.ptr i o) v h = br (and (Nat.beq 1 v.cells.length) (v.cells.all V.one)) (writeRow h i o v.cells) none := by kernel_rfl
@[simp] theorem sz187 : szT Tryz.prog 187 = some 1 := by kernel_rfl
@[simp] theorem by187 : bytesT Tryz.prog 187 = some 0 := by kernel_rfl
@[simp] theorem ld189 (i o : Nat) (h : Hp) : loadV Tryz.prog 189 (.ptr i o) h = cellAt h i o := by kernel_rfl
@[simp] theorem st189 (i o : Nat) (v : V) (h : Hp) : storeV Tryz.prog 189 (.ptr i o) v h = br (and (Nat.beq 1 v.cells.length) (v.cells.all V.one)) (writeRow h i o v.cells) none := by kernel_rfl
@[simp] theorem sz189 : szT Tryz.prog 189 = some 1 := by kernel_rfl
@[simp] theorem by189 : bytesT Tryz.prog 189 = some 0 := by kernel_rfl
@[simp] theorem ld191 (i o : Nat) (h : Hp) : loadV Tryz.prog 191 (.ptr i o) h = cellAt h i o := by kernel_rfl
@[simp] theorem st191 (i o : Nat) (v : V) (h : Hp) : storeV Tryz.prog 191 (.ptr i o) v h = br (and (Nat.beq 1 v.cells.length) (v.cells.all V.one)) (writeRow h i o v.cells) none := by kernel_rfl
@[simp] theorem sz191 : szT Tryz.prog 191 = some 1 := by kernel_rfl
@[simp] theorem by191 : bytesT Tryz.prog 191 = some 0 := by kernel_rfl
@[simp] theorem ld194 (i o : Nat) (h : Hp) : loadV Tryz.prog 194 (.ptr i o) h = (rowAt h i o 2).map .agg := by kernel_rfl
@[simp] theorem st194 (i o : Nat) (v : V) (h : Hp) : storeV Tryz.prog 194 (.ptr i o) v h = br (and (Nat.beq 2 v.cells.length) (v.cells.all V.one)) (writeRow h i o v.cells) none := by kernel_rfl
@[simp] theorem az194 (i : Nat) : alZero Tryz.prog i 194 = some (.ptr i 0, .row [(.int .i64 0), (.int .i64 0)] false false) := by kernel_rfl
@[simp] theorem ze194 : zeroT Tryz.prog 194 = some (.agg [(.int .i64 0), (.int .i64 0)]) := by kernel_rfl
@[simp] theorem fo194_0 : fOff Tryz.prog 194 0 = some 0 := by kernel_rfl
@[simp] theorem fp194_0 : fPl Tryz.prog 194 0 = some (.cell 0) := by kernel_rfl
@[simp] theorem fo194_1 : fOff Tryz.prog 194 1 = some 1 := by kernel_rfl
@[simp] theorem fp194_1 : fPl Tryz.prog 194 1 = some (.cell 1) := by kernel_rfl
theorem pl194 : plT Tryz.prog 194 = some [(0, 1), (1, 1)] := by kernel_rfl
@[simp] theorem bd194 (parts : List (Nat × V)) : buildV Tryz.prog 194 parts = (fillL [(0, 1), (1, 1)] [(.int .i64 0), (.int .i64 0)] parts).map .agg := buildV_eq pl194 ze194 rfl parts
@[simp] theorem sz194 : szT Tryz.prog 194 = some 2 := by kernel_rfl
@[simp] theorem by194 : bytesT Tryz.prog 194 = some 16 := by kernel_rfl
@[simp] theorem ld196 (i o : Nat) (h : Hp) : loadV Tryz.prog 196 (.ptr i o) h = (rowAt h i o 4).map .agg := by kernel_rfl
@[simp] theorem st196 (i o : Nat) (v : V) (h : Hp) : storeV Tryz.prog 196 (.ptr i o) v h = br (and (Nat.beq 4 v.cells.length) (v.cells.all V.one)) (writeRow h i o v.cells) none := by kernel_rfl
@[simp] theorem az196 (i : Nat) : alZero Tryz.prog i 196 = some (.ptr i 0, .row [(.int .i64 0), (.int .i64 0), (.int .i64 0), (.int .i64 0)] false false) := by kernel_rfl
@[simp] theorem ze196 : zeroT Tryz.prog 196 = some (.agg [(.int .i64 0), (.int .i64 0), (.int .i64 0), (.int .i64 0)]) := by kernel_rfl
@[simp] theorem fo196_0 : fOff Tryz.prog 196 0 = some 0 := by kernel_rfl
@[simp] theorem fp196_0 : fPl Tryz.prog 196 0 = some (.many 0 2) := by kernel_rfl
@[simp] theorem fo196_1 : fOff Tryz.prog 196 1 = some 2 := by kernel_rfl
@[simp] theorem fp196_1 : fPl Tryz.prog 196 1 = some (.many 2 2) := by kernel_rfl
theorem pl196 : plT Tryz.prog 196 = some [(0, 2), (2, 2)] := by kernel_rfl
@[simp] theorem bd196 (parts : List (Nat × V)) : buildV Tryz.prog 196 parts = (fillL [(0, 2), (2, 2)] [(.int .i64 0), (.int .i64 0), (.int .i64 0), (.int .i64 0)] parts).map .agg := buildV_eq pl196 ze196 rfl parts
@[simp] theorem sz196 : szT Tryz.prog 196 = some 4 := by kernel_rfl
@[simp] theorem by196 : bytesT Tryz.prog 196 = some 32 := by kernel_rfl
@[simp] theorem ld200 (i o : Nat) (h : Hp) : loadV Tryz.prog 200 (.ptr i o) h = cellAt h i o := by kernel_rfl
@[simp] theorem st200 (i o : Nat) (v : V) (h : Hp) : storeV Tryz.prog 200 (.ptr i o) v h = br (and (Nat.beq 1 v.cells.length) (v.cells.all V.one)) (writeRow h i o v.cells) none := by kernel_rfl
@[simp] theorem sz200 : szT Tryz.prog 200 = some 1 := by kernel_rfl
@[simp] theorem by200 : bytesT Tryz.prog 200 = some 0 := by kernel_rfl
@[simp] theorem ld206 (i o : Nat) (h : Hp) : loadV Tryz.prog 206 (.ptr i o) h = (rowAt h i o 2).map .agg := by kernel_rfl
@[simp] theorem st206 (i o : Nat) (v : V) (h : Hp) : storeV Tryz.prog 206 (.ptr i o) v h = br (and (Nat.beq 2 v.cells.length) (v.cells.all V.one)) (writeRow h i o v.cells) none := by kernel_rfl
@[simp] theorem az206 (i : Nat) : alZero Tryz.prog i 206 = some (.ptr i 0, .row [(.int .i64 0), (.int .i64 0)] false false) := by kernel_rfl
@[simp] theorem ze206 : zeroT Tryz.prog 206 = some (.agg [(.int .i64 0), (.int .i64 0)]) := by kernel_rfl
@[simp] theorem fo206_0 : fOff Tryz.prog 206 0 = some 0 := by kernel_rfl
@[simp] theorem fp206_0 : fPl Tryz.prog 206 0 = some (.cell 0) := by kernel_rfl
@[simp] theorem fo206_1 : fOff Tryz.prog 206 1 = some 1 := by kernel_rfl
@[simp] theorem fp206_1 : fPl Tryz.prog 206 1 = some (.cell 1) := by kernel_rfl
theorem pl206 : plT Tryz.prog 206 = some [(0, 1), (1, 1)] := by kernel_rfl
@[simp] theorem bd206 (parts : List (Nat × V)) : buildV Tryz.prog 206 parts = (fillL [(0, 1), (1, 1)] [(.int .i64 0), (.int .i64 0)] parts).map .agg := buildV_eq pl206 ze206 rfl parts
@[simp] theorem sz206 : szT Tryz.prog 206 = some 2 := by kernel_rfl
@[simp] theorem by206 : bytesT Tryz.prog 206 = some 16 := by kernel_rfl
@[simp] theorem ld207 (i o : Nat) (h : Hp) : loadV Tryz.prog 207 (.ptr i o) h = cellAt h i o := by kernel_rfl
@[simp] theorem st207 (i o : Nat) (v : V) (h : Hp) : storeV Tryz.prog 207 (.ptr i o) v h = br (and (Nat.beq 1 v.cells.length) (v.cells.all V.one)) (writeRow h i o v.cells) none := by kernel_rfl
@[simp] theorem sz207 : szT Tryz.prog 207 = some 1 := by kernel_rfl
@[simp] theorem by207 : bytesT Tryz.prog 207 = some 0 := by kernel_rfl
@[simp] theorem ld208 (i o : Nat) (h : Hp) : loadV Tryz.prog 208 (.ptr i o) h = cellAt h i o := by kernel_rfl
@[simp] theorem st208 (i o : Nat) (v : V) (h : Hp) : storeV Tryz.prog 208 (.ptr i o) v h = br (and (Nat.beq 1 v.cells.length) (v.cells.all V.one)) (writeRow h i o v.cells) none := by kernel_rfl
@[simp] theorem sz208 : szT Tryz.prog 208 = some 1 := by kernel_rfl
@[simp] theorem by208 : bytesT Tryz.prog 208 = some 0 := by kernel_rfl
@[simp] theorem ld211 (i o : Nat) (h : Hp) : loadV Tryz.prog 211 (.ptr i o) h = (rowAt h i o 2).map .agg := by kernel_rfl
@[simp] theorem st211 (i o : Nat) (v : V) (h : Hp) : storeV Tryz.prog 211 (.ptr i o) v h = br (and (Nat.beq 2 v.cells.length) (v.cells.all V.one)) (writeRow h i o v.cells) none := by kernel_rfl
@[simp] theorem az211 (i : Nat) : alZero Tryz.prog i 211 = some (.ptr i 0, .row [.nilS, (.int .i64 0)] false false) := by kernel_rfl
@[simp] theorem ze211 : zeroT Tryz.prog 211 = some (.agg [.nilS, (.int .i64 0)]) := by kernel_rfl
@[simp] theorem fo211_0 : fOff Tryz.prog 211 0 = some 0 := by kernel_rfl
@[simp] theorem fp211_0 : fPl Tryz.prog 211 0 = some (.cell 0) := by kernel_rfl
@[simp] theorem fo211_1 : fOff Tryz.prog 211 1 = some 1 := by kernel_rfl
@[simp] theorem fp211_1 : fPl Tryz.prog 211 1 = some (.cell 1) := by kernel_rfl
theorem pl211 : plT Tryz.prog 211 = some [(0, 1), (1, 1)] := by kernel_rfl
@[simp] theorem bd211 (parts : List (Nat × V)) : buildV Tryz.prog 211 parts = (fillL [(0, 1), (1, 1)] [.nilS, (.int .i64 0)] parts).map .agg := buildV_eq pl211 ze211 rfl parts
@[simp] theorem sz211 : szT Tryz.prog 211 = some 2 := by kernel_rfl
@[simp] theorem by211 : bytesT Tryz.prog 211 = some 32 := by kernel_rfl
@[simp] theorem ld214 (i o : Nat) (h : Hp) : loadV Tryz.prog 214 (.ptr i o) h = (rowAt h i o 7).map .agg := by kernel_rfl
@[simp] theorem st214 (i o : Nat) (v : V) (h : Hp) : storeV Tryz.prog 214 (.ptr i o) v h = br (and (Nat.beq 7 v.cells.length) (v.cells.all V.one)) (writeRow h i o v.cells) none := by kernel_rfl
@[simp] theorem az214 (i : Nat) : alZero Tryz.prog i 214 = some (.ptr i 0, .row [(.int .i8 0), (.str []), (.int .i64 0), (.int .i8 0), (.str []), (.int .i64 0), .nilP] false false) := by kernel_rfl
@[simp] theorem ze214 : zeroT Tryz.prog 214 = some (.agg [(.int .i8 0), (.str []), (.int .i64 0), (.int .i8 0), (.str []), (.int .i64 0), .nilP]) := by kernel_rfl
@[simp] theorem fo214_0 : fOff Tryz.prog 214 0 = some 0 := by kernel_rfl
@[simp] theorem fp214_0 : fPl Tryz.prog 214 0 = some (.many 0 3) := by kernel_rfl
@[simp] theorem fo214_1 : fOff Tryz.prog 214 1 = some 3 := by kernel_rfl
@[simp] theorem fp214_1 : fPl Tryz.prog 214 1 = some (.many 3 3) := by kernel_rfl
@[simp] theorem fo214_2 : fOff Tryz.prog 214 2 = some 6 := by kernel_rfl
@[simp] theorem fp214_2 : fPl Tryz.prog 214 2 = some (.cell 6) := by kernel_rfl
theorem pl214 : plT Tryz.prog 214 = some [(0, 3), (3, 3), (6, 1)] := by kernel_rfl
@[simp] theorem bd214 (parts : List (Nat × V)) : buildV Tryz.prog 214 parts = (fillL [(0, 3), (3, 3), (6, 1)] [(.int .i8 0), (.str []), (.int .i64 0), (.int .i8 0), (.str []), (.int .i64 0), .nilP] parts).map .agg := buildV_eq pl214 ze214 rfl parts
@[simp] theorem sz214 : szT Tryz.prog 214 = some 7 := by kernel_rfl
@[simp] theorem by214 : bytesT Tryz.prog 214 = some 72 := by kernel_rfl
@[simp] theorem ld215 (i o : Nat) (h : Hp) : loadV Tryz.prog 215 (.ptr i o) h = cellAt h i o := by kernel_rfl
@[simp] theorem st215 (i o : Nat) (v : V) (h : Hp) : storeV Tryz.prog 215 (.ptr i o) v h = br (and (Nat.beq 1 v.cells.length) (v.cells.all V.one)) (writeRow h i o v.cells) none := by kernel_rfl
@[simp] theorem az215 (i : Nat) : alZero Tryz.prog i 215 = some (.ptr i 0, .row [.nilS] false false) := by kernel_rfl
@[simp] theorem ze215 : zeroT Tryz.prog 215 = some .nilS := by kernel_rfl
@[simp] theorem un215 : Tryz.prog.underlying 215 = some (.slice 132) := by kernel_rfl
@[simp] theorem sz215 : szT Tryz.prog 215 = some 1 := by kernel_rfl
@[simp] theorem by215 : bytesT Tryz.prog 215 = some 24 := by kernel_rfl
@[simp] theorem ld216 (i o : Nat) (h : Hp) : loadV Tryz.prog 216 (.ptr i o) h = cellAt h i o := by kernel_rfl
@[simp] theorem st216 (i o : Nat) (v : V) (h : Hp) : storeV Tryz.prog 216 (.ptr i o) v h = br (and (Nat.beq 1 v.cells.length) (v.cells.all V.one)) (writeRow h i o v.cells) none := by kernel_rfl
@[simp] theorem az216 (i : Nat) : alZero Tryz.prog i 216 = some (.ptr i 0, .row [.nilP] false false) := by kernel_rfl
@[simp] theorem ze216 : zeroT Tryz.prog 216 = some .nilP := by kernel_rfl
@[simp] theorem un216 : Tryz.prog.underlying 216 = some (.pointer 287) := by kernel_rfl
@[simp] theorem sz216 : szT Tryz.prog 216 = some 1 := by kernel_rfl
@[simp] theorem by216 : bytesT Tryz.prog 216 = some 8 := by kernel_rfl
@[simp] theorem ld223 (i o : Nat) (h : Hp) : loadV Tryz.prog 223 (.ptr i o) h = cellAt h i o := by kernel_rfl
@[simp] theorem st223 (i o : Nat) (v : V) (h : Hp) : storeV Tryz.prog 223 (.ptr i o) v h = br (and (Nat.beq 1 v.cells.length) (v.cells.all V.one)) (writeRow h i o v.cells) none := by kernel_rfl
@[simp] theorem az223 (i : Nat) : alZero Tryz.prog i 223 = some (.ptr i 0, .row [.nilM] false false) := by kernel_rfl
@[simp] theorem ze223 : zeroT Tryz.prog 223 = some .nilM := by kernel_rfl
@[simp] theorem un223 : Tryz.prog.underlying 223 = some (.map 194 194) := by kernel_rfl
@[simp] theorem sz223 : szT Tryz.prog 223 = some 1 := by kernel_rfl
@[simp] theorem by223 : bytesT Tryz.prog 223 = some 8 := by kernel_rfl
@[simp] theorem ld225 (i o : Nat) (h : Hp) : loadV Tryz.prog 225 (.ptr i o) h = cellAt h i o := by kernel_rfl
@[simp] theorem st225 (i o : Nat) (v : V) (h : Hp) : storeV Tryz.prog 225 (.ptr i o) v h = br (and (Nat.beq 1 v.cells.length) (v.cells.all V.one)) (writeRow h i o v.cells) none := by kernel_rfl
@[simp] theorem sz225 : szT Tryz.prog 225 = some 1 := by kernel_rfl
@[simp] theorem by225 : bytesT Tryz.prog 225 = some 0 := by kernel_rfl
@[simp] theorem ld227 (i o : Nat) (h : Hp) : loadV Tryz.prog 227 (.ptr i o) h = cellAt h i o := by kernel_rfl
@[simp] theorem st227 (i o : Nat) (v : V) (h : Hp) : storeV Tryz.prog 227 (.ptr i o) v h = br (and (Nat.beq 1 v.cells.length) (v.cells.all V.one)) (writeRow h i o v.cells) none := by kernel_rfl
@[simp] theorem sz227 : szT Tryz.prog 227 = some 1 := by kernel_rfl
@[simp] theorem by227 : bytesT Tryz.prog 227 = some 0 := by kernel_rfl
@[simp] theorem ld232 (i o : Nat) (h : Hp) : loadV Tryz.prog 232 (.ptr i o) h = cellAt h i o := by kernel_rfl
@[simp] theorem st232 (i o : Nat) (v : V) (h : Hp) : storeV Tryz.prog 232 (.ptr i o) v h = br (and (Nat.beq 1 v.cells.length) (v.cells.all V.one)) (writeRow h i o v.cells) none := by kernel_rfl
@[simp] theorem az232 (i : Nat) : alZero Tryz.prog i 232 = some (.ptr i 0, .row [.nilM] false false) := by kernel_rfl
@[simp] theorem ze232 : zeroT Tryz.prog 232 = some .nilM := by kernel_rfl
@[simp] theorem un232 : Tryz.prog.underlying 232 = some (.map 3 4) := by kernel_rfl
@[simp] theorem sz232 : szT Tryz.prog 232 = some 1 := by kernel_rfl
@[simp] theorem by232 : bytesT Tryz.prog 232 = some 8 := by kernel_rfl
@[simp] theorem ld234 (i o : Nat) (h : Hp) : loadV Tryz.prog 234 (.ptr i o) h = (rowAt h i o 2).map .agg := by kernel_rfl
@[simp] theorem st234 (i o : Nat) (v : V) (h : Hp) : storeV Tryz.prog 234 (.ptr i o) v h = br (and (Nat.beq 2 v.cells.length) (v.cells.all V.one)) (writeRow h i o v.cells) none := by kernel_rfl
@[simp] theorem az234 (i : Nat) : alZero Tryz.prog i 234 = some (.ptr i 0, .row [.nilS, .nilM] false false) := by kernel_rfl
@[simp] theorem ze234 : zeroT Tryz.prog 234 = some (.agg [.nilS, .nilM]) := by kernel_rfl
@[simp] theorem fo234_0 : fOff Tryz.prog 234 0 = some 0 := by kernel_rfl
@[simp] theorem fp234_0 : fPl Tryz.prog 234 0 = some (.cell 0) := by kernel_rfl
@[simp] theorem fo234_1 : fOff Tryz.prog 234 1 = some 1 := by kernel_rfl
@[simp] theorem fp234_1 : fPl Tryz.prog 234 1 = some (.cell 1) := by kernel_rfl
theorem pl234 : plT Tryz.prog 234 = some [(0, 1), (1, 1)] := by kernel_rfl
@[simp] theorem bd234 (parts : List (Nat × V)) : buildV Tryz.prog 234 parts = (fillL [(0, 1), (1, 1)] [.nilS, .nilM] parts).map .agg := buildV_eq pl234 ze234 rfl parts
@[simp] theorem sz234 : szT Tryz.prog 234 = some 2 := by kernel_rfl
@[simp] theorem by234 : bytesT Tryz.prog 234 = some 32 := by kernel_rfl
@[simp] theorem ld235 (i o : Nat) (h : Hp) : loadV Tryz.prog 235 (.ptr i o) h = cellAt h i o := by kernel_rfl
@[simp] theorem st235 (i o : Nat) (v : V) (h : Hp) : storeV Tryz.prog 235 (.ptr i o) v h = br (and (Nat.beq 1 v.cells.length) (v.cells.all V.one)) (writeRow h i o v.cells) none := by kernel_rfl
@[simp] theorem az235 (i : Nat) : alZero Tryz.prog i 235 = some (.ptr i 0, .row [.nilP] false false) := by kernel_rfl
@[simp] theorem ze235 : zeroT Tryz.prog 235 = some .nilP := by kernel_rfl
@[simp] theorem un235 : Tryz.prog.underlying 235 = some (.pointer 167) := by kernel_rfl
@[simp] theorem sz235 : szT Tryz.prog 235 = some 1 := by kernel_rfl
@[simp] theorem by235 : bytesT Tryz.prog 235 = some 8 := by kernel_rfl
@[simp] theorem ld239 (i o : Nat) (h : Hp) : loadV Tryz.prog 239 (.ptr i o) h = cellAt h i o := by kernel_rfl
@[simp] theorem st239 (i o : Nat) (v : V) (h : Hp) : storeV Tryz.prog 239 (.ptr i o) v h = br (and (Nat.beq 1 v.cells.length) (v.cells.all V.one)) (writeRow h i o v.cells) none := by kernel_rfl
@[simp] theorem az239 (i : Nat) : alZero Tryz.prog i 239 = some (.ptr i 0, .row [.nilF] false false) := by kernel_rfl
@[simp] theorem ze239 : zeroT Tryz.prog 239 = some .nilF := by kernel_rfl
@[simp] theorem sz239 : szT Tryz.prog 239 = some 1 := by kernel_rfl
@[simp] theorem by239 : bytesT Tryz.prog 239 = some 8 := by kernel_rfl
@[simp] theorem ld240 (i o : Nat) (h : Hp) : loadV Tryz.prog 240 (.ptr i o) h = cellAt h i o := by kernel_rfl
@[simp] theorem st240 (i o : Nat) (v : V) (h : Hp) : storeV Tryz.prog 240 (.ptr i o) v h = br (and (Nat.beq 1 v.cells.length) (v.cells.all V.one)) (writeRow h i o v.cells) none := by kernel_rfl
@[simp] theorem az240 (i : Nat) : alZero Tryz.prog i 240 = some (.ptr i 0, .row [.nilF] false false) := by kernel_rfl
@[simp] theorem ze240 : zeroT Tryz.prog 240 = some .nilF := by kernel_rfl
@[simp] theorem sz240 : szT Tryz.prog 240 = some 1 := by kernel_rfl
@[simp] theorem by240 : bytesT Tryz.prog 240 = some 8 := by kernel_rfl
@[simp] theorem ld242 (i o : Nat) (h : Hp) : loadV Tryz.prog 242 (.ptr i o) h = cellAt h i o := by kernel_rfl
@[simp] theorem st242 (i o : Nat) (v : V) (h : Hp) : storeV Tryz.prog 242 (.ptr i o) v h = br (and (Nat.beq 1 v.cells.length) (v.cells.all V.one)) (writeRow h i o v.cells) none := by kernel_rfl
@[simp] theorem az242 (i : Nat) : alZero Tryz.prog i 242 = some (.ptr i 0, .row [.nilF] false false) := by kernel_rfl
@[simp] theorem ze242 : zeroT Tryz.prog 242 = some .nilF := by kernel_rfl
@[simp] theorem sz242 : szT Tryz.prog 242 = some 1 := by kernel_rfl
@[simp] theorem by242 : bytesT Tryz.prog 242 = some 8 := by kernel_rfl
@[simp] theorem ld243 (i o : Nat) (h : Hp) : loadV Tryz.prog 243 (.ptr i o) h = cellAt h i o := by kernel_rfl
@[simp] theorem st243 (i o : Nat) (v : V) (h : Hp) : storeV Tryz.prog 243 (.ptr i o) v h = br (and (Nat.beq 1 v.cells.length) (v.cells.all V.one)) (writeRow h i o v.cells) none := by kernel_rfl
@[simp] theorem az243 (i : Nat) : alZero Tryz.prog i 243 = some (.ptr i 0, .row [.nilP] false false) := by kernel_rfl
@[simp] theorem ze243 : zeroT Tryz.prog 243 = some .nilP := by kernel_rfl
@[simp] theorem un243 : Tryz.prog.underlying 243 = some (.pointer 319) := by kernel_rfl
@[simp] theorem sz243 : szT Tryz.prog 243 = some 1 := by kernel_rfl
@[simp] theorem by243 : bytesT Tryz.prog 243 = some 8 := by kernel_rfl
@[simp] theorem ld249 (i o : Nat) (h : Hp) : loadV Tryz.prog 249 (.ptr i o) h = cellAt h i o := by kernel_rfl
@[simp] theorem st249 (i o : Nat) (v : V) (h : Hp) : storeV Tryz.prog 249 (.ptr i o) v h = br (and (Nat.beq 1 v.cells.length) (v.cells.all V.one)) (writeRow h i o v.cells) none := by kernel_rfl
@[simp] theorem az249 (i : Nat) : alZero Tryz.prog i 249 = some (.ptr i 0, .row [.nilF] false false) := by kernel_rfl
@[simp] theorem ze249 : zeroT Tryz.prog 249 = some .nilF := by kernel_rfl
@[simp] theorem sz249 : szT Tryz.prog 249 = some 1 := by kernel_rfl
@[simp] theorem by249 : bytesT Tryz.prog 249 = some 8 := by kernel_rfl
@[simp] theorem ld251 (i o : Nat) (h : Hp) : loadV Tryz.prog 251 (.ptr i o) h = (rowAt h i o 1).map .agg := by kernel_rfl
@[simp] theorem st251 (i o : Nat) (v : V) (h : Hp) : storeV Tryz.prog 251 (.ptr i o) v h = br (and (Nat.beq 1 v.cells.length) (v.cells.all V.one)) (writeRow h i o v.cells) none := by kernel_rfl
@[simp] theorem az251 (i : Nat) : alZero Tryz.prog i 251 = some (.ptr i 0, .row [.nilP] false false) := by kernel_rfl
@[simp] theorem ze251 : zeroT Tryz.prog 251 = some (.agg [.nilP]) := by kernel_rfl
@[simp] theorem fo251_0 : fOff Tryz.prog 251 0 = some 0 := by kernel_rfl
@[simp] theorem fp251_0 : fPl Tryz.prog 251 0 = some (.cell 0) := by kernel_rfl
theorem pl251 : plT Tryz.prog 251 = some [(0, 1)] := by kernel_rfl
@[simp] theorem bd251 (parts : List (Nat × V)) : buildV Tryz.prog 251 parts = (fillL [(0, 1)] [.nilP] parts).map .agg := buildV_eq pl251 ze251 rfl parts
@[simp] theorem sz251 : szT Tryz.prog 251 = some 1 := by kernel_rfl
@[simp] theorem by251 : bytesT Tryz.prog 251 = some 8 := by kernel_rfl
@[simp] theorem ld252 (i o : Nat) (h : Hp) : loadV Tryz.prog 252 (.ptr i o) h = cellAt h i o := by kernel_rfl
@[simp] theorem st252 (i o : Nat) (v : V) (h : Hp) : storeV Tryz.prog 252 (.ptr i o) v h = br (and (Nat.beq 1 v.cells.length) (v.cells.all V.one)) (writeRow h i o v.cells) none := by kernel_rfl
@[simp] theorem az252 (i : Nat) : alZero Tryz.prog i 252 = some (.ptr i 0, .row [(.int .u32 0)] false false) := by kernel_rfl
@[simp] theorem ze252 : zeroT Tryz.prog 252 = some (.int .u32 0) := by kernel_rfl
@[simp] theorem un252 : Tryz.prog.underlying 252 = some (.int .u32) := by kernel_rfl
@[simp] theorem sz252 : szT Tryz.prog 252 = some 1 := by kernel_rfl
@[simp] theorem by252 : bytesT Tryz.prog 252 = some 4 := by kernel_rfl
@[simp] theorem ld253 (i o : Nat) (h : Hp) : loadV Tryz.prog 253 (.ptr i o) h = (rowAt h i o 64).map .agg := by kernel_rfl
@[simp] theorem st253 (i o : Nat) (v : V) (h : Hp) : storeV Tryz.prog 253 (.ptr i o) v h = br (and (Nat.beq 64 v.cells.length) (v.cells.all V.one)) (writeRow h i o v.cells) none := by kernel_rfl
@[simp] theorem az253 (i : Nat) : alZero Tryz.prog i 253 = some (.ptr i 0, .row [(.int .u32 0), (.int .u32 0), (.int .u32 0), (.int .u32 0), (.int .u32 0), (.int .u32 0), (.int .u32 0), (.int .u32 0), (.int .u32 0), (.int .u32 0), (.int .u32 0), (.int .u32 0), (.int .u32 0), (.int .u32 0), (.int .u32 0), (.int .u32 0), (.int .u32 0), (.int .u32 0), (.int .u32 0), (.int .u32 0), (.int .u32 0), (.int .u32 0), (.int .u32 0), (.int .u32 0), (.int .u32 0), (.int .u32 0), (.int .u32 0), (.int .u32 0), (.int .u32 0), (.int .u32 0), (.int .u32 0), (.int .u32 0), (.int .u32 0), (.int .u32 0), (.int .u32 0), (.int .u32 0), (.int .u32 0), (.int .u32 0), (.int .u32 0), (.int .u32 0), (.int .u32 0), (.int .u32 0), (.int .u32 0), (.int .u32 0), (.int .u32 0), (.int .u32 0), (.int .u32 0), (.int .u32 0), (.int .u32 0), (.int .u32 0), (.int .u32 0), (.int .u32 0), (.int .u32 0), (.int .u32 0), (.int .u32 0), (.int .u32 0), (.int .u32 0), (.int .u32 0), (.int .u32 0), (.int .u32 0), (.int .u32 0), (.int .u32 0), (.int .u32 0), (.int .u32 0)] false false) := by kernel_rfl
@[simp] theorem ze253 : zeroT Tryz.prog 253 = some (.agg [(.int .u32 0), (.int .u32 0), (.int .u32 0), (.int .u32 0), (.int .u32 0), (.int .u32 0), (.int .u32 0), (.int .u32 0), (.int .u32 0), (.int .u32 0), (.int .u32 0), (.int .u32 0), (.int .u32 0), (.int .u32 0), (.int .u32 0), (.int .u32 0), (.int .u32 0), (.int .u32 0), (.int .u32 0), (.int .u32 0), (.int .u32 0), (.int .u32 0), (.int .u32 0), (.int .u32 0), (.int .u32 0), (.int .u32 0), (.int .u32 0), (.int .u32 0), (.int .u32 0), (.int .u32 0), (.int .u32 0), (.int .u32 0), (.int .u32 0), (.int .u32 0), (.int .u32 0), (.int .u32 0), (.int .u32 0), (.int .u32 0), (.int .u32 0), (.int .u32 0), (.int .u32 0), (.int .u32 0), (.int .u32 0), (.int .u32 0), (.int .u32 0), (.int .u32 0), (.int .u32 0), (.int .u32 0), (.int .u32 0), (.int .u32 0), (.int .u32 0), (.int .u32 0), (.int .u32 0), (.int .u32 0), (.int .u32 0), (.int .u32 0), (.int .u32 0), (.int .u32 0), (.int .u32 0), (.int .u32 0), (.int .u32 0), (.int .u32 0), (.int .u32 0), (.int .u32 0)]) := by kernel_rfl
@[simp] theorem un253 : Tryz.prog.underlying 253 = some (.array 64 252) := by kernel_rfl
@[simp] theorem sz253 : szT Tryz.prog 253 = some 64 := by kernel_rfl
@[simp] theorem by253 : bytesT Tryz.prog 253 = some 256 := by kernel_rfl
@[simp] theorem ld255 (i o : Nat) (h : Hp) : loadV Tryz.prog 255 (.ptr i o) h = (rowAt h i o 66).map .agg := by kernel_rfl
@[simp] theorem st255 (i o : Nat) (v : V) (h : Hp) : storeV Tryz.prog 255 (.ptr i o) v h = br (and (Nat.beq 66 v.cells.length) (v.cells.all V.one)) (writeRow h i o v.cells) none := by kernel_rfl
@[simp] theorem az255 (i : Nat) : alZero Tryz.prog i 255 = some (.ptr i 0, .row [.nilP, (.int .i64 0), (.int .u32 0), (.int .u32 0), (.int .u32 0), (.int .u32 0), (.int .u32 0), (.int .u32 0), (.int .u32 0), (.int .u32 0), (.int .u32 0), (.int .u32 0), (.int .u32 0), (.int .u32 0), (.int .u32 0), (.int .u32 0), (.int .u32 0), (.int .u32 0), (.int .u32 0), (.int .u32 0), (.int .u32 0), (.int .u32 0), (.int .u32 0), (.int .u32 0), (.int .u32 0), (.int .u32 0), (.int .u32 0), (.int .u32 0), (.int .u32 0), (.int .u32 0), (.int .u32 0), (.int .u32 0), (.int .u32 0), (.int .u32 0), (.int .u32 0), (.int .u32 0), (.int .u32 0), (.int .u32 0), (.int .u32 0), (.int .u32 0), (.int .u32 0), (.int .u32 0), (.int .u32 0), (.int .u32 0), (.int .u32 0), (.int .u32 0), (.int .u32 0), (.int .u32 0), (.int .u32 0), (.int .u32 0), (.int .u32 0), (.int .u32 0), (.int .u32 0), (.int .u32 0), (.int .u32 0), (.int .u32 0), (.int .u32 0), (.int .u32 0), (.int .u32 0), (.int .u32 0), (.int .u32 0), (.int .u32 0), (.int .u32 0), (.int .u32 0), (.int .u32 0), (.int .u32 0)] false false) := by kernel_rfl
@[simp] theorem ze255 : zeroT Tryz.prog 255 = some (.agg [.nilP, (.int .i64 0), (.int .u32 0), (.int .u32 0), (.int .u32 0), (.int .u32 0), (.int .u32 0), (.int .u32 0), (.int .u32 0), (.int .u32 0), (.int .u32 0), (.int .u32 0), (.int .u32 0), (.int .u32 0), (.int .u32 0), (.int .u32 0), (.int .u32 0), (.int .u32 0), (.int .u32 0), (.int .u32 0), (.int .u32 0), (.int .u32 0), (.int .u32 0), (.int .u32 0), (.int .u32 0), (.int .u32 0), (.int .u32 0), (.int .u32 0), (.int .u32 0), (.int .u32 0), (.int .u32 0), (.int .u32 0), (.int .u32 0), (.int .u32 0), (.int .u32 0), (.int .u32 0), (.int .u32 0), (.int .u32 0), (.int .u32 0), (.int .u32 0), (.int .u32 0), (.int .u32 0), (.int .u32 0), (.int .u32 0), (.int .u32 0), (.int .u32 0), (.int .u32 0), (.int .u32 0), (.int .u32 0), (.int .u32 0), (.int .u32 0), (.int .u32 0), (.int .u32 0), (.int .u32 0), (.int .u32 0), (.int .u32 0), (.int .u32 0), (.int .u32 0), (.int .u32 0), (.int .u32 0), (.int .u32 0), (.int .u32 0), (.int .u32 0), (.int .u32 0), (.int .u32 0), (.int .u32 0)]) := by kernel_rfl
@[simp] theorem fo255_0 : fOff Tryz.prog 255 0 = some 0 := by kernel_rfl
@[simp] theorem fp255_0 : fPl Tryz.prog 255 0 = some (.many 0 1) := by kernel_rfl
@[simp] theorem fo255_1 : fOff Tryz.prog 255 1 = some 1 := by kernel_rfl
@[simp] theorem fp255_1 : fPl Tryz.prog 255 1 = some (.cell 1) := by kernel_rfl
@[simp] theorem fo255_2 : fOff Tryz.prog 255 2 = some 2 := by kernel_rfl
@[simp] theorem fp255_2 : fPl Tryz.prog 255 2 = some (.many 2 64) := by kernel_rfl
theorem pl255 : plT Tryz.prog 255 = some [(0, 1), (1, 1), (2, 64)] := by kernel_rfl
@[simp] theorem bd255 (parts : List (Nat × V)) : buildV Tryz.prog 255 parts = (fillL [(0, 1), (1, 1), (2, 64)] [.nilP, (.int .i64 0), (.int .u32 0), (.int .u32 0), (.int .u32 0), (.int .u32 0), (.int .u32 0), (.int .u32 0), (.int .u32 0), (.int .u32 0), (.int .u32 0), (.int .u32 0), (.int .u32 0), (.int .u32 0), (.int .u32 0), (.int .u32 0), (.int .u32 0), (.int .u32 0), (.int .u32 0), (.int .u32 0), (.int .u32 0), (.int .u32 0), (.int .u32 0), (.int .u32 0), (.int .u32 0), (.int .u32 0), (.int .u32 0), (.int .u32 0), (.int .u32 0), (.int .u32 0), (.int .u32 0), (.int .u32 0), (.int .u32 0), (.int .u32 0), (.int .u32 0), (.int .u32 0), (.int .u32 0), (.int .u32 0), (.int .u32 0), (.int .u32 0), (.int .u32 0), (.int .u32 0), (.int .u32 0), (.int .u32 0), (.int .u32 0), (.int .u32 0), (.int .u32 0), (.int .u32 0), (.int .u32 0), (.int .u32 0), (.int .u32 0), (.int .u32 0), (.int .u32 0), (.int .u32 0), (.int .u32 0), (.int .u32 0), (.int .u32 0), (.int .u32 0), (.int .u32 0), (.int .u32 0), (.int .u32 0), (.int .u32 0), (.int .u32 0), (.int .u32 0), (.int .u32 0), (.int .u32 0)] parts).map .agg := buildV_eq pl255 ze255 rfl parts
@[simp] theorem sz255 : szT Tryz.prog 255 = some 66 := by kernel_rfl
@[simp] theorem by255 : bytesT Tryz.prog 255 = some 272 := by kernel_rfl
@[simp] theorem ld256 (i o : Nat) (h : Hp) : loadV Tryz.prog 256 (.ptr i o) h = cellAt h i o := by kernel_rfl
@[simp] theorem st256 (i o : Nat) (v : V) (h : Hp) : storeV Tryz.prog 256 (.ptr i o) v h = br (and (Nat.beq 1 v.cells.length) (v.cells.all V.one)) (writeRow h i o v.cells) none := by kernel_rfl
@[simp] theorem az256 (i : Nat) : alZero Tryz.prog i 256 = some (.ptr i 0, .row [.nilF] false false) := by kernel_rfl
@[simp] theorem ze256 : zeroT Tryz.prog 256 = some .nilF := by kernel_rfl
@[simp] theorem sz256 : szT Tryz.prog 256 = some 1 := by kernel_rfl
@[simp] theorem by256 : bytesT Tryz.prog 256 = some 8 := by kernel_rfl
@[simp] theorem ld257 (i o : Nat) (h : Hp) : loadV Tryz.prog 257 (.ptr i o) h = (rowAt h i o 7).map .agg := by kernel_rfl
@[simp] theorem st257 (i o : Nat) (v : V) (h : Hp) : storeV Tryz.prog 257 (.ptr i o) v h = br (and (Nat.beq 7 v.cells.length) (v.cells.all V.one)) (writeRow h i o v.cells) none := by kernel_rfl
@[simp] theorem az257 (i : Nat) : alZero Tryz.prog i 257 = some (.ptr i 0, .row [(.int .u32 0), (.int .u32 0), (.int .u32 0), (.int .u32 0), (.int .u32 0), (.int .u32 0), (.int .u32 0)] false false) := by kernel_rfl
@[simp] theorem ze257 : zeroT Tryz.prog 257 = some (.agg [(.int .u32 0), (.int .u32 0), (.int .u32 0), (.int .u32 0), (.int .u32 0), (.int .u32 0), (.int .u32 0)]) := by kernel_rfl
@[simp] theorem un257 : Tryz.prog.underlying 257 = some (.array 7 252) := by kernel_rfl
@[simp] theorem sz257 : szT Tryz.prog 257 = some 7 := by kernel_rfl
@[simp] theorem by257 : bytesT Tryz.prog 257 = some 28 := by kernel_rfl
@[simp] theorem ld259 (i o : Nat) (h : Hp) : loadV Tryz.prog 259 (.ptr i o) h = (rowAt h i o 9).map .agg := by kernel_rfl
@[simp] theorem st259 (i o : Nat) (v : V) (h : Hp) : storeV Tryz.prog 259 (.ptr i o) v h = br (and (Nat.beq 9 v.cells.length) (v.cells.all V.one)) (writeRow h i o v.cells) none := by kernel_rfl
@[simp] theorem az259 (i : Nat) : alZero Tryz.prog i 259 = some (.ptr i 0, .row [(.int .i64 0), (.int .i64 0), (.int .u32 0), (.int .u32 0), (.int .u32 0), (.int .u32 0), (.int .u32 0), (.int .u32 0), (.int .u32 0)] false false) := by kernel_rfl
@[simp] theorem ze259 : zeroT Tryz.prog 259 = some (.agg [(.int .i64 0), (.int .i64 0), (.int .u32 0), (.int .u32 0), (.int .u32 0), (.int .u32 0), (.int .u32 0), (.int .u32 0), (.int .u32 0)]) := by kernel_rfl
@[simp] theorem fo259_0 : fOff Tryz.prog 259 0 = some 0 := by kernel_rfl
@[simp] theorem fp259_0 : fPl Tryz.prog 259 0 = some (.cell 0) := by kernel_rfl
@[simp] theorem fo259_1 : fOff Tryz.prog 259 1 = some 1 := by kernel_rfl
@[simp] theorem fp259_1 : fPl Tryz.prog 259 1 = some (.cell 1) := by kernel_rfl
@[simp] theorem fo259_2 : fOff Tryz.prog 259 2 = some 2 := by kernel_rfl
@[simp] theorem fp259_2 : fPl Tryz.prog 259 2 = some (.many 2 7) := by kernel_rfl
theorem pl259 : plT Tryz.prog 259 = some [(0, 1), (1, 1), (2, 7)] := by kernel_rfl
@[simp] theorem bd259 (parts : List (Nat × V)) : buildV Tryz.prog 259 parts = (fillL [(0, 1), (1, 1), (2, 7)] [(.int .i64 0), (.int .i64 0), (.int .u32 0), (.int .u32 0), (.int .u32 0), (.int .u32 0), (.int .u32 0), (.int .u32 0), (.int .u32 0)] parts).map .agg := buildV_eq pl259 ze259 rfl parts
@[simp] theorem sz259 : szT Tryz.prog 259 = some 9 := by kernel_rfl
@[simp] theorem by259 : bytesT Tryz.prog 259 = some 48 := by kernel_rfl
@[simp] theorem ld260 (i o : Nat) (h : Hp) : loadV Tryz.prog 260 (.ptr i o) h = cellAt h i o := by kernel_rfl
@[simp] theorem st260 (i o : Nat) (v : V) (h : Hp) : storeV Tryz.prog 260 (.ptr i o) v h = br (and (Nat.beq 1 v.cells.length) (v.cells.all V.one)) (writeRow h i o v.cells) none := by kernel_rfl
@[simp] theorem az260 (i : Nat) : alZero Tryz.prog i 260 = some (.ptr i 0, .row [.nilS] false false) := by kernel_rfl
@[simp] theorem ze260 : zeroT Tryz.prog 260 = some .nilS := by kernel_rfl
@[simp] theorem un260 : Tryz.prog.underlying 260 = some (.slice 259) := by kernel_rfl
@[simp] theorem sz260 : szT Tryz.prog 260 = some 1 := by kernel_rfl
@[simp] theorem by260 : bytesT Tryz.prog 260 = some 24 := by kernel_rfl
@[simp] theorem ld262 (i o : Nat) (h : Hp) : loadV Tryz.prog 262 (.ptr i o) h = (rowAt h i o 4).map .agg := by kernel_rfl
@[simp] theorem st262 (i o : Nat) (v : V) (h : Hp) : storeV Tryz.prog 262 (.ptr i o) v h = br (and (Nat.beq 4 v.cells.length) (v.cells.all V.one)) (writeRow h i o v.cells) none := by kernel_rfl
@[simp] theorem az262 (i : Nat) : alZero Tryz.prog i 262 = some (.ptr i 0, .row [(.int .i64 0), .nilS, .nilS, (.int .i64 0)] false false) := by kernel_rfl
@[simp] theorem ze262 : zeroT Tryz.prog 262 = some (.agg [(.int .i64 0), .nilS, .nilS, (.int .i64 0)]) := by kernel_rfl
@[simp] theorem fo262_0 : fOff Tryz.prog 262 0 = some 0 := by kernel_rfl
@[simp] theorem fp262_0 : fPl Tryz.prog 262 0 = some (.cell 0) := by kernel_rfl
@[simp] theorem fo262_1 : fOff Tryz.prog 262 1 = some 1 := by kernel_rfl
@[simp] theorem fp262_1 : fPl Tryz.prog 262 1 = some (.cell 1) := by kernel_rfl
@[simp] theorem fo262_2 : fOff Tryz.prog 262 2 = some 2 := by kernel_rfl
@[simp] theorem fp262_2 : fPl Tryz.prog 262 2 = some (.cell 2) := by kernel_rfl
@[simp] theorem fo262_3 : fOff Tryz.prog 262 3 = some 3 := by kernel_rfl
@[simp] theorem fp262_3 : fPl Tryz.prog 262 3 = some (.cell 3) := by kernel_rfl
theorem pl262 : plT Tryz.prog 262 = some [(0, 1), (1, 1), (2, 1), (3, 1)] := by kernel_rfl
@[simp] theorem bd262 (parts : List (Nat × V)) : buildV Tryz.prog 262 parts = (fillL [(0, 1), (1, 1), (2, 1), (3, 1)] [(.int .i64 0), .nilS, .nilS, (.int .i64 0)] parts).map .agg := buildV_eq pl262 ze262 rfl parts
@[simp] theorem sz262 : szT Tryz.prog 262 = some 4 := by kernel_rfl
@[simp] theorem by262 : bytesT Tryz.prog 262 = some 64 := by kernel_rfl
@[simp] theorem ld264 (i o : Nat) (h : Hp) : loadV Tryz.prog 264 (.ptr i o) h = cellAt h i o := by kernel_rfl
@[simp] theorem st264 (i o : Nat) (v : V) (h : Hp) : storeV Tryz.prog 264 (.ptr i o) v h = br (and (Nat.beq 1 v.cells.length) (v.cells.all V.one)) (writeRow h i o v.cells) none := by kernel_rfl
@[simp] theorem sz264 : szT Tryz.prog 264 = some 1 := by kernel_rfl
@[simp] theorem by264 : bytesT Tryz.prog 264 = some 0 := by kernel_rfl
@[simp] theorem ld266 (i o : Nat) (h : Hp) : loadV Tryz.prog 266 (.ptr i o) h = cellAt h i o := by kernel_rfl
@[simp] theorem st266 (i o : Nat) (v : V) (h : Hp) : storeV Tryz.prog 266 (.ptr i o) v h = br (and (Nat.beq 1 v.cells.length) (v.cells.all V.one)) (writeRow h i o v.cells) none := by kernel_rfl
@[simp] theorem sz266 : szT Tryz.prog 266 = some 1 := by kernel_rfl
@[simp] theorem by266 : bytesT Tryz.prog 266 = some 0 := by kernel_rfl
@[simp] theorem ld268 (i o : Nat) (h : Hp) : loadV Tryz.prog 268 (.ptr i o) h = cellAt h i o := by kernel_rfl
@[simp] theorem st268 (i o : Nat) (v : V) (h : Hp) : storeV Tryz.prog 268 (.ptr i o) v h = br (and (Nat.beq 1 v.cells.length) (v.cells.all V.one)) (writeRow h i o v.cells) none := by kernel_rfl
@[simp] theorem az268 (i : Nat) : alZero Tryz.prog i 268 = some (.ptr i 0, .row [.nilP] false false) := by kernel_rfl
@[simp] theorem ze268 : zeroT Tryz.prog 268 = some .nilP := by kernel_rfl
@[simp] theorem un268 : Tryz.prog.underlying 268 = some (.pointer 274) := by kernel_rfl
@[simp] theorem sz268 : szT Tryz.prog 268 = some 1 := by kernel_rfl
@[simp] theorem by268 : bytesT Tryz.prog 268 = some 8 := by kernel_rfl
@[simp] theorem ld270 (i o : Nat) (h : Hp) : loadV Tryz.prog 270 (.ptr i o) h = (rowAt h i o 4).map .agg := by kernel_rfl
@[simp] theorem st270 (i o : Nat) (v : V) (h : Hp) : storeV Tryz.prog 270 (.ptr i o) v h = br (and (Nat.beq 4 v.cells.length) (v.cells.all V.one)) (writeRow h i o v.cells) none := by kernel_rfl
@[simp] theorem az270 (i : Nat) : alZero Tryz.prog i 270 = some (.ptr i 0, .row [(.int .i64 0), (.int .i64 0), (.int .i64 0), (.int .i64 0)] false false) := by kernel_rfl
@[simp] theorem ze270 : zeroT Tryz.prog 270 = some (.agg [(.int .i64 0), (.int .i64 0), (.int .i64 0), (.int .i64 0)]) := by kernel_rfl
@[simp] theorem fo270_0 : fOff Tryz.prog 270 0 = some 0 := by kernel_rfl
@[simp] theorem fp270_0 : fPl Tryz.prog 270 0 = some (.cell 0) := by kernel_rfl
@[simp] theorem fo270_1 : fOff Tryz.prog 270 1 = some 1 := by kernel_rfl
@[simp] theorem fp270_1 : fPl Tryz.prog 270 1 = some (.many 1 2) := by kernel_rfl
@[simp] theorem fo270_2 : fOff Tryz.prog 270 2 = some 3 := by kernel_rfl
@[simp] theorem fp270_2 : fPl Tryz.prog 270 2 = some (.cell 3) := by kernel_rfl
theorem pl270 : plT Tryz.prog 270 = some [(0, 1), (1, 2), (3, 1)] := by kernel_rfl
@[simp] theorem bd270 (parts : List (Nat × V)) : buildV Tryz.prog 270 parts = (fillL [(0, 1), (1, 2), (3, 1)] [(.int .i64 0), (.int .i64 0), (.int .i64 0), (.int .i64 0)] parts).map .agg := buildV_eq pl270 ze270 rfl parts
@[simp] theorem sz270 : szT Tryz.prog 270 = some 4 := by kernel_rfl
@[simp] theorem by270 : bytesT Tryz.prog 270 = some 32 := by kernel_rfl
@[simp] theorem ld271 (i o : Nat) (h : Hp) : loadV Tryz.prog 271 (.ptr i o) h = (rowAt h i o 48).map .agg := by kernel_rfl
@[simp] theorem st271 (i o : Nat) (v : V) (h : Hp) : storeV Tryz.prog 271 (.ptr i o) v h = br (and (Nat.beq 48 v.cells.length) (v.cells.all V.one)) (writeRow h i o v.cells) none := by kernel_rfl
@[simp] theorem az271 (i : Nat) : alZero Tryz.prog i 271 = some (.ptr i 0, .row [(.int .i64 0), (.int .i64 0), (.int .i64 0), (.int .i64 0), (.int .i64 0), (.int .i64 0), (.int .i64 0), (.int .i64 0), (.int .i64 0), (.int .i64 0), (.int .i64 0), (.int .i64 0), (.int .i64 0), (.int .i64 0), (.int .i64 0), (.int .i64 0), (.int .i64 0), (.int .i64 0), (.int .i64 0), (.int .i64 0), (.int .i64 0), (.int .i64 0), (.int .i64 0), (.int .i64 0), (.int .i64 0), (.int .i64 0), (.int .i64 0), (.int .i64 0), (.int .i64 0), (.int .i64 0), (.int .i64 0), (.int .i64 0), (.int .i64 0), (.int .i64 0), (.int .i64 0), (.int .i64 0), (.int .i64 0), (.int .i64 0), (.int .i64 0), (.int .i64 0), (.int .i64 0), (.int .i64 0), (.int .i64 0), (.int .i64 0), (.int .i64 0), (.int .i64 0), (.int .i64 0), (.int .i64 0)] false false) := by kernel_rfl
@[simp] theorem ze271 : zeroT Tryz.prog 271 = some (.agg [(.int .i64 0), (.int .i64 0), (.int .i64 0), (.int .i64 0), (.int .i64 0), (.int .i64 0), (.int .i64 0), (.int .i64 0), (.int .i64 0), (.int .i64 0), (.int .i64 0), (.int .i64 0), (.int .i64 0), (.int .i64 0), (.int .i64 0), (.int .i64 0), (.int .i64 0), (.int .i64 0), (.int .i64 0), (.int .i64 0), (.int .i64 0), (.int .i64 0), (.int .i64 0), (.int .i64 0), (.int .i64 0), (.int .i64 0), (.int .i64 0), (.int .i64 0), (.int .i64 0), (.int .i64 0), (.int .i64 0), (.int .i64 0), (.int .i64 0), (.int .i64 0), (.int .i64 0), (.int .i64 0), (.int .i64 0), (.int .i64 0), (.int .i64 0), (.int .i64 0), (.int .i64 0), (.int .i64 0), (.int .i64 0), (.int .i64 0), (.int .i64 0), (.int .i64 0), (.int .i64 0), (.int .i64 0)]) := by kernel_rfl
@[simp] theorem un271 : Tryz.prog.underlying 271 = some (.array 12 270) := by kernel_rfl
@[simp] theorem sz271 : szT Tryz.prog 271 = some 48 := by kernel_rfl
@[simp] theorem by271 : bytesT Tryz.prog 271 = some 384 := by kernel_rfl
@[simp] theorem ld272 (i o : Nat) (h : Hp) : loadV Tryz.prog 272 (.ptr i o) h = (rowAt h i o 12).map .agg := by kernel_rfl
@[simp] theorem st272 (i o : Nat) (v : V) (h : Hp) : storeV Tryz.prog 272 (.ptr i o) v h = br (and (Nat.beq 12 v.cells.length) (v.cells.all V.one)) (writeRow h i o v.cells) none := by kernel_rfl
@[simp] theorem az272 (i : Nat) : alZero Tryz.prog i 272 = some (.ptr i 0, .row [(.bool false), (.bool false), (.bool false), (.bool false), (.bool false), (.bool false), (.bool false), (.bool false), (.bool false), (.bool false), (.bool false), (.bool false)] false false) := by kernel_rfl
@[simp] theorem ze272 : zeroT Tryz.prog 272 = some (.agg [(.bool false), (.bool false), (.bool false), (.bool false), (.bool false), (.bool false), (.bool false), (.bool false), (.bool false), (.bool false), (.bool false), (.bool false)]) := by kernel_rfl
@[simp] theorem un272 : Tryz.prog.underlying 272 = some (.array 12 4) := by kernel_rfl
@[simp] theorem sz272 : szT Tryz.prog 272 = some 12 := by kernel_rfl
@[simp] theorem by272 : bytesT Tryz.prog 272 = some 12 := by kernel_rfl
@[simp] theorem ld274 (i o : Nat) (h : Hp) : loadV Tryz.prog 274 (.ptr i o) h = (rowAt h i o 118).map .agg := by kernel_rfl
@[simp] theorem st274 (i o : Nat) (v : V) (h : Hp) : storeV Tryz.prog 274 (.ptr i o) v h = br (and (Nat.beq 118 v.cells.length) (v.cells.all V.one)) (writeRow h i o v.cells) none := by kernel_rfl
@[simp] theorem az274 (i : Nat) : alZero Tryz.prog i 274 = some (.ptr i 0, .row [.nilP, .nilS, (.int .i64 0), (.int .i64 0), .nilS, .nilS, .nilS, (.int .i64 0), (.int .i64 0), (.int .i64 0), (.int .i64 0), (.int .i64 0), (.int .i64 0), (.int .i64 0), (.int .i64 0), (.int .i64 0), (.int .i64 0), (.int .i64 0), (.int .i64 0), (.int .i64 0), (.int .i64 0), (.int .i64 0), (.int .i64 0), (.int .i64 0), (.int .i64 0), (.int .i64 0), (.int .i64 0), (.int .i64 0), (.int .i64 0), (.int .i64 0), (.int .i64 0), (.int .i64 0), (.int .i64 0), (.int .i64 0), (.int .i64 0), (.int .i64 0), (.int .i64 0), (.int .i64 0), (.int .i64 0), (.int .i64 0), (.int .i64 0), (.int .i64 0), (.int .i64 0), (.int .i64 0), (.int .i64 0), (.int .i64 0), (.int .i64 0), (.int .i64 0), (.int .i64 0), (.int .i64 0), (.int .i64 0), (.int .i64 0), (.int .i64 0), (.int .i64 0), (.int .i64 0), (.int .i64 0), (.int .i64 0), (.int .i64 0), (.int .i64 0), (.int .i64 0), (.int .i64 0), (.int .i64 0), (.int .i64 0), (.int .i64 0), (.int .i64 0), (.int .i64 0), (.int .i64 0), (.int .i64 0), (.int .i64 0), (.int .i64 0), (.int .i64 0), (.int .i64 0), (.int .i64 0), (.int .i64 0), (.int .i64 0), (.int .i64 0), (.int .i64 0), (.int .i64 0), (.int .i64 0), (.int .i64 0), (.int .i64 0), (.int .i64 0), (.int .i64 0), (.int .i64 0), (.int .i64 0), (.int .i64 0), (.int .i64 0), (.int .i64 0), (.int .i64 0), (.int .i64 0), (.int .i64 0), (.int .i64 0), (.int .i64 0), (.int .i64 0), (.int .i64 0), (.int .i64 0), (.int .i64 0), (.int .i64 0), (.int .i64 0), (.int .i64 0), (.int .i64 0), (.int .i64 0), (.int .i64 0), (.int .i64 0), (.int .i64 0), .nilS, (.bool false), (.bool false), (.bool false), (.bool false), (.bool false), (.bool false), (.bool false), (.bool false), (.bool false), (.bool false), (.bool false), (.bool false)] false false) := by kernel_rfl
@[simp] theorem ze274 : zeroT Tryz.prog 274 = some (.agg [.nilP, .nilS, (.int .i64 0), (.int .i64 0), .nilS, .nilS, .nilS, (.int .i64 0), (.int .i64 0), (.int .i64 0), (.int .i64 0), (.int .i64 0), (.int .i64 0), (.int .i64 0), (.int .i64 0), (.int .i64 0), (.int .i64 0), (.int .i64 0), (.int .i64 0), (.int .i64 0), (.int .i64 0), (.int .i64 0), (.int .i64 0), (.int .i64 0), (.int .i64 0), (.int .i64 0), (.int .i64 0), (.int .i64 0), (.int .i64 0), (.int .i64 0), (.int .i64 0), (.int .i64 0), (.int .i64 0), (.int .i64 0), (.int .i64 0), (.int .i64 0), (.int .i64 0), (.int .i64 0), (.int .i64 0), (.int .i64 0), (.int .i64 0), (.int .i64 0), (.int .i64 0), (.int .i64 0), (.int .i64 0), (.int .i64 0), (.int .i64 0), (.int .i64 0), (.int .i64 0), (.int .i64 0), (.int .i64 0), (.int .i64 0), (.int .i64 0), (.int .i64 0), (.int .i64 0), (.int .i64 0), (.int .i64 0), (.int .i64 0), (.int .i64 0), (.int .i64 0), (.int .i64 0), (.int .i64 0), (.int .i64 0), (.int .i64 0), (.int .i64 0), (.int .i64 0), (.int .i64 0), (.int .i64 0), (.int .i64 0), (.int .i64 0), (.int .i64 0), (.int .i64 0), (.int .i64 0), (.int .i64 0), (.int .i64 0), (.int .i64 0), (.int .i64 0), (.int .i64 0), (.int .i64 0), (.int .i64 0), (.int .i64 0), (.int .i64 0), (.int .i64 0), (.int .i64 0), (.int .i64 0), (.int .i64 0), (.int .i64 0), (.int .i64 0), (.int .i64 0), (.int .i64 0), (.int .i64 0), (.int .i64 0), (.int .i64 0), (.int .i64 0), (.int .i64 0), (.int .i64 0), (.int .i64 0), (.int .i64 0), (.int .i64 0), (.int .i64 0), (.int .i64 0), (.int .i64 0), (.int .i64 0), (.int .i64 0), (.int .i64 0), .nilS, (.bool false), (.bool false), (.bool false), (.bool false), (.bool false), (.bool false), (.bool false), (.bool false), (.bool false), (.bool false), (.bool false), (.bool false)]) := by kernel_rfl
@[simp] theorem fo274_0 : fOff Tryz.prog 274 0 = some 0 := by kernel_rfl
@[simp] theorem fp274_0 : fPl Tryz.prog 274 0 = some (.cell 0) := by kernel_rfl
@[simp] theorem fo274_1 : fOff Tryz.prog 274 1 = some 1 := by kernel_rfl
@[simp] theorem fp274_1 : fPl Tryz.prog 274 1 = some (.cell 1) := by kernel_rfl
@[simp] theorem fo274_2 : fOff Tryz.prog 274 2 = some 2 := by kernel_rfl
@[simp] theorem fp274_2 : fPl Tryz.prog 274 2 = some (.many 2 5) := by kernel_rfl
@[simp] theorem fo274_3 : fOff Tryz.prog 274 3 = some 7 := by kernel_rfl
@[simp] theorem fp274_3 : fPl Tryz.prog 274 3 = some (.many 7 2) := by kernel_rfl
@[simp] theorem fo274_4 : fOff Tryz.prog 274 4 = some 9 := by kernel_rfl
@[simp] theorem fp274_4 : fPl Tryz.prog 274 4 = some (.many 9 48) := by kernel_rfl
@[simp] theorem fo274_5 : fOff Tryz.prog 274 5 = some 57 := by kernel_rfl
@[simp] theorem fp274_5 : fPl Tryz.prog 274 5 = some (.many 57 48) := by kernel_rfl
@[simp] theorem fo274_6 : fOff Tryz.prog 274 6 = some 105 := by kernel_rfl
@[simp] theorem fp274_6 : fPl Tryz.prog 274 6 = some (.cell 105) := by kernel_rfl
@[simp] theorem fo274_7 : fOff Tryz.prog 274 7 = some 106 := by kernel_rfl
@[simp] theorem fp274_7 : fPl Tryz.prog 274 7 = some (.many 106 12) := by kernel_rfl
theorem pl274 : plT Tryz.prog 274 = some [(0, 1), (1, 1), (2, 5), (7, 2), (9, 48), (57, 48), (105, 1), (106, 12)] := by kernel_rfl
@[simp] theorem bd274 (parts : List (Nat × V)) : buildV Tryz.prog 274 parts = (fillL [(0, 1), (1, 1), (2, 5), (7, 2), (9, 48), (57, 48), (105, 1), (106, 12)] [.nilP, .nilS, (.int .i64 0), (.int .i64 0), .nilS, .nilS, .nilS, (.int .i64 0), (.int .i64 0), (.int .i64 0), (.int .i64 0), (.int .i64 0), (.int .i64 0), (.int .i64 0), (.int .i64 0), (.int .i64 0), (.int .i64 0), (.int .i64 0), (.int .i64 0), (.int .i64 0), (.int .i64 0), (.int .i64 0), (.int .i64 0), (.int .i64 0), (.int .i64 0), (.int .i64 0), (.int .i64 0), (.int .i64 0), (.int .i64 0), (.int .i64 0), (.int .i64 0), (.int .i64 0), (.int .i64 0), (.int .i64 0), (.int .i64 0), (.int .i64 0), (.int .i64 0), (.int .i64 0), (.int .i64 0), (.int .i64 0), (.int .i64 0), (.int .i64 0), (.int .i64 0), (.int .i64 0), (.int .i64 0), (.int .i64 0), (.int .i64 0), (.int .i64 0), (.int .i64 0), (.int .i64 0), (.int .i64 0), (.int .i64 0), (.int .i64 0), (.int .i64 0), (.int .i64 0), (.int .i64 0), (.int .i64 0), (.int .i64 0), (.int .i64 0), (.int .i64 0), (.int .i64 0), (.int .i64 0), (.int .i64 0), (.int .i64 0), (.int .i64 0), (.int .i64 0), (.int .i64 0), (.int .i64 0), (.int .i64 0), (.int .i64 0), (.int .i64 0), (.int .i64 0), (.int .i64 0), (.int .i64 0), (.int .i64 0), (.int .i64 0), (.int .i64 0), (.int .i64 0), (.int .i64 0), (.int .i64 0), (.int .i64 0), (.int .i64 0), (.int .i64 0), (.int .i64 0), (.int .i64 0), (.int .i64 0), (.int .i64 0), (.int .i64 0), (.int .i64 0), (.int .i64 0), (.int .i64 0), (.int .i64 0), (.int .i64 0), (.int .i64 0), (.int .i64 0), (.int .i64 0), (.int .i64 0), (.int .i64 0), (.int .i64 0), (.int .i64 0), (.int .i64 0), (.int .i64 0), (.int .i64 0), (.int .i64 0), (.int .i64 0), .nilS, (.bool false), (.bool false), (.bool false), (.bool false), (.bool false), (.bool false), (.bool false), (.bool false), (.bool false), (.bool false), (.bool false), (.bool false)] parts).map .agg := buildV_eq pl274 ze274 rfl parts
@[simp] theorem sz274 : szT Tryz.prog 274 = some 118 := by kernel_rfl
@[simp] theorem by274 : bytesT Tryz.prog 274 = some 944 := by kernel_rfl
@[simp] theorem ld277 (i o : Nat) (h : Hp) : loadV Tryz.prog 277 (.ptr i o) h = cellAt h i o := by kernel_rfl
@[simp] theorem st277 (i o : Nat) (v : V) (h : Hp) : storeV Tryz.prog 277 (.ptr i o) v h = br (and (Nat.beq 1 v.cells.length) (v.cells.all V.one)) (writeRow h i o v.cells) none := by kernel_rfl
@[simp] theorem sz277 : szT Tryz.prog 277 = some 1 := by kernel_rfl
@[simp] theorem by277 : bytesT Tryz.prog 277 = some 0 := by kernel_rfl
@[simp] theorem ld280 (i o : Nat) (h : Hp) : loadV Tryz.prog 280 (.ptr i o) h = cellAt h i o := by kernel_rfl
@[simp] theorem st280 (i o : Nat) (v : V) (h : Hp) : storeV Tryz.prog 280 (.ptr i o) v h = br (and (Nat.beq 1 v.cells.length) (v.cells.all V.one)) (writeRow h i o v.cells) none := by kernel_rfl
@[simp] theorem az280 (i : Nat) : alZero Tryz.prog i 280 = some (.ptr i 0, .row [.nilF] false false) := by kernel_rfl
@[simp] theorem ze280 : zeroT Tryz.prog 280 = some .nilF := by kernel_rfl
@[simp] theorem sz280 : szT Tryz.prog 280 = some 1 := by kernel_rfl
@[simp] theorem by280 : bytesT Tryz.prog 280 = some 8 := by kernel_rfl
@[simp] theorem ld283 (i o : Nat) (h : Hp) : loadV Tryz.prog 283 (.ptr i o) h = cellAt h i o := by kernel_rfl
@[simp] theorem st283 (i o : Nat) (v : V) (h : Hp) : storeV Tryz.prog 283 (.ptr i o) v h = br (and (Nat.beq 1 v.cells.length) (v.cells.all V.one)) (writeRow h i o v.cells) none := by kernel_rfl
@[simp] theorem sz283 : szT Tryz.prog 283 = some 1 := by kernel_rfl
@[simp] theorem by283 : bytesT Tryz.prog 283 = some 0 := by kernel_rfl
@[simp] theorem ld285 (i o : Nat) (h : Hp) : loadV Tryz.prog 285 (.ptr i o) h = cellAt h i o := by kernel_rfl
@[simp] theorem st285 (i o : Nat) (v : V) (h : Hp) : storeV Tryz.prog 285 (.ptr i o) v h = br (and (Nat.beq 1 v.cells.length) (v.cells.all V.one)) (writeRow h i o v.cells) none := by kernel_rfl
@[simp] theorem az285 (i : Nat) : alZero Tryz.prog i 285 = some (.ptr i 0, .row [.nilM] false false) := by kernel_rfl
@[simp] theorem ze285 : zeroT Tryz.prog 285 = some .nilM := by kernel_rfl
@[simp] theorem un285 : Tryz.prog.underlying 285 = some (.map 9 291) := by kernel_rfl
@[simp] theorem sz285 : szT Tryz.prog 285 = some 1 := by kernel_rfl
@[simp] theorem by285 : bytesT Tryz.prog 285 = some 8 := by kernel_rfl
@[simp] theorem ld287 (i o : Nat) (h : Hp) : loadV Tryz.prog 287 (.ptr i o) h = (rowAt h i o 2).map .agg := by kernel_rfl
@[simp] theorem st287 (i o : Nat) (v : V) (h : Hp) : storeV Tryz.prog 287 (.ptr i o) v h = br (and (Nat.beq 2 v.cells.length) (v.cells.all V.one)) (writeRow h i o v.cells) none := by kernel_rfl
@[simp] theorem az287 (i : Nat) : alZero Tryz.prog i 287 = some (.ptr i 0, .row [.nilS, .nilM] false false) := by kernel_rfl
@[simp] theorem ze287 : zeroT Tryz.prog 287 = some (.agg [.nilS, .nilM]) := by kernel_rfl
@[simp] theorem fo287_0 : fOff Tryz.prog 287 0 = some 0 := by kernel_rfl
@[simp] theorem fp287_0 : fPl Tryz.prog 287 0 = some (.cell 0) := by kernel_rfl
@[simp] theorem fo287_1 : fOff Tryz.prog 287 1 = some 1 := by kernel_rfl
@[simp] theorem fp287_1 : fPl Tryz.prog 287 1 = some (.cell 1) := by kernel_rfl
theorem pl287 : plT Tryz.prog 287 = some [(0, 1), (1, 1)] := by kernel_rfl
@[simp] theorem bd287 (parts : List (Nat × V)) : buildV Tryz.prog 287 parts = (fillL [(0, 1), (1, 1)] [.nilS, .nilM] parts).map .agg := buildV_eq pl287 ze287 rfl parts
@[simp] theorem sz287 : szT Tryz.prog 287 = some 2 := by kernel_rfl
@[simp] theorem by287 : bytesT Tryz.prog 287 = some 32 := by kernel_rfl
@[simp] theorem ld288 (i o : Nat) (h : Hp) : loadV Tryz.prog 288 (.ptr i o) h = cellAt h i o := by kernel_rfl
@[simp] theorem st288 (i o : Nat) (v : V) (h : Hp) : storeV Tryz.prog 288 (.ptr i o) v h = br (and (Nat.beq 1 v.cells.length) (v.cells.all V.one)) (writeRow h i o v.cells) none := by kernel_rfl
@[simp] theorem az288 (i : Nat) : alZero Tryz.prog i 288 = some (.ptr i 0, .row [.nilP] false false) := by kernel_rfl
@[simp] theorem ze288 : zeroT Tryz.prog 288 = some .nilP := by kernel_rfl
@[simp] theorem un288 : Tryz.prog.underlying 288 = some (.pointer 194) := by kernel_rfl
@[simp] theorem sz288 : szT Tryz.prog 288 = some 1 := by kernel_rfl
@[simp] theorem by288 : bytesT Tryz.prog 288 = some 8 := by kernel_rfl
@[simp] theorem ld290 (i o : Nat) (h : Hp) : loadV Tryz.prog 290 (.ptr i o) h = (rowAt h i o 2).map .agg := by kernel_rfl
@[simp] theorem st290 (i o : Nat) (v : V) (h : Hp) : storeV Tryz.prog 290 (.ptr i o) v h = br (and (Nat.beq 2 v.cells.length) (v.cells.all V.one)) (writeRow h i o v.cells) none := by kernel_rfl
@[simp] theorem az290 (i : Nat) : alZero Tryz.prog i 290 = some (.ptr i 0, .row [.nilP, (.int .i64 0)] false false) := by kernel_rfl
@[simp] theorem ze290 : zeroT Tryz.prog 290 = some (.agg [.nilP, (.int .i64 0)]) := by kernel_rfl
@[simp] theorem fo290_0 : fOff Tryz.prog 290 0 = some 0 := by kernel_rfl
@[simp] theorem fp290_0 : fPl Tryz.prog 290 0 = some (.cell 0) := by kernel_rfl
@[simp] theorem fo290_1 : fOff Tryz.prog 290 1 = some 1 := by kernel_rfl
@[simp] theorem fp290_1 : fPl Tryz.prog 290 1 = some (.cell 1) := by kernel_rfl
theorem pl290 : plT Tryz.prog 290 = some [(0, 1), (1, 1)] := by kernel_rfl
@[simp] theorem bd290 (parts : List (Nat × V)) : buildV Tryz.prog 290 parts = (fillL [(0, 1), (1, 1)] [.nilP, (.int .i64 0)] parts).map .agg := buildV_eq pl290 ze290 rfl parts
@[simp] theorem sz290 : szT Tryz.prog 290 = some 2 := by kernel_rfl
@[simp] theorem by290 : bytesT Tryz.prog 290 = some 16 := by kernel_rfl
@[simp] theorem ld291 (i o : Nat) (h : Hp) : loadV Tryz.prog 291 (.ptr i o) h = cellAt h i o := by kernel_rfl
@[simp] theorem st291 (i o : Nat) (v : V) (h : Hp) : storeV Tryz.prog 291 (.ptr i o) v h = br (and (Nat.beq 1 v.cells.length) (v.cells.all V.one)) (writeRow h i o v.cells) none := by kernel_rfl
@[simp] theorem az291 (i : Nat) : alZero Tryz.prog i 291 = some (.ptr i 0, .row [.nilP] false false) := by kernel_rfl
@[simp] theorem ze291 : zeroT Tryz.prog 291 = some .nilP := by kernel_rfl
@[simp] theorem un291 : Tryz.prog.underlying 291 = some (.pointer 294) := by kernel_rfl
@[simp] theorem sz291 : szT Tryz.prog 291 = some 1 := by kernel_rfl
@[simp] theorem by291 : bytesT Tryz.prog 291 = some 8 := by kernel_rfl
@[simp] theorem ld292 (i o : Nat) (h : Hp) : loadV Tryz.prog 292 (.ptr i o) h = cellAt h i o := by kernel_rfl
@[simp] theorem st292 (i o : Nat) (v : V) (h : Hp) : storeV Tryz.prog 292 (.ptr i o) v h = br (and (Nat.beq 1 v.cells.length) (v.cells.all V.one)) (writeRow h i o v.cells) none := by kernel_rfl
@[simp] theorem az292 (i : Nat) : alZero Tryz.prog i 292 = some (.ptr i 0, .row [.nilS] false false) := by kernel_rfl
@[simp] theorem ze292 : zeroT Tryz.prog 292 = some .nilS := by kernel_rfl
@[simp] theorem un292 : Tryz.prog.underlying 292 = some (.slice 290) := by kernel_rfl
@[simp] theorem sz292 : szT Tryz.prog 292 = some 1 := by kernel_rfl
@[simp] theorem by292 : bytesT Tryz.prog 292 = some 24 := by kernel_rfl
@[simp] theorem ld294 (i o : Nat) (h : Hp) : loadV Tryz.prog 294 (.ptr i o) h = (rowAt h i o 2).map .agg := by kernel_rfl
@[simp] theorem st294 (i o : Nat) (v : V) (h : Hp) : storeV Tryz.prog 294 (.ptr i o) v h = br (and (Nat.beq 2 v.cells.length) (v.cells.all V.one)) (writeRow h i o v.cells) none := by kernel_rfl
@[simp] theorem az294 (i : Nat) : alZero Tryz.prog i 294 = some (.ptr i 0, .row [(.int .i64 0), .nilS] false false) := by kernel_rfl
@[simp] theorem ze294 : zeroT Tryz.prog 294 = some (.agg [(.int .i64 0), .nilS]) := by kernel_rfl
@[simp] theorem fo294_0 : fOff Tryz.prog 294 0 = some 0 := by kernel_rfl
@[simp] theorem fp294_0 : fPl Tryz.prog 294 0 = some (.cell 0) := by kernel_rfl
@[simp] theorem fo294_1 : fOff Tryz.prog 294 1 = some 1 := by kernel_rfl
@[simp] theorem fp294_1 : fPl Tryz.prog 294 1 = some (.cell 1) := by kernel_rfl
theorem pl294 : plT Tryz.prog 294 = some [(0, 1), (1, 1)] := by kernel_rfl
@[simp] theorem bd294 (parts : List (Nat × V)) : buildV Tryz.prog 294 parts = (fillL [(0, 1), (1, 1)] [(.int .i64 0), .nilS] parts).map .agg := buildV_eq pl294 ze294 rfl parts
@[simp] theorem sz294 : szT Tryz.prog 294 = some 2 := by kernel_rfl
@[simp] theorem by294 : bytesT Tryz.prog 294 = some 32 := by kernel_rfl
@[simp] theorem ld295 (i o : Nat) (h : Hp) : loadV Tryz.prog 295 (.ptr i o) h = cellAt h i o := by kernel_rfl
@[simp] theorem st295 (i o : Nat) (v : V) (h : Hp) : storeV Tryz.prog 295 (.ptr i o) v h = br (and (Nat.beq 1 v.cells.length) (v.cells.all V.one)) (writeRow h i o v.cells) none := by kernel_rfl
@[simp] theorem az295 (i : Nat) : alZero Tryz.prog i 295 = some (.ptr i 0, .row [.nilF] false false) := by kernel_rfl
@[simp] theorem ze295 : zeroT Tryz.prog 295 = some .nilF := by kernel_rfl
@[simp] theorem sz295 : szT Tryz.prog 295 = some 1 := by kernel_rfl
@[simp] theorem by295 : bytesT Tryz.prog 295 = some 8 := by kernel_rfl
@[simp] theorem ld296 (i o : Nat) (h : Hp) : loadV Tryz.prog 296 (.ptr i o) h = cellAt h i o := by kernel_rfl
@[simp] theorem st296 (i o : Nat) (v : V) (h : Hp) : storeV Tryz.prog 296 (.ptr i o) v h = br (and (Nat.beq 1 v.cells.length) (v.cells.all V.one)) (writeRow h i o v.cells) none := by kernel_rfl
@[simp] theorem az296 (i : Nat) : alZero Tryz.prog i 296 = some (.ptr i 0, .row [.nilF] false false) := by kernel_rfl
@[simp] theorem ze296 : zeroT Tryz.prog 296 = some .nilF := by kernel_rfl
@[simp] theorem sz296 : szT Tryz.prog 296 = some 1 := by kernel_rfl
@[simp] theorem by296 : bytesT Tryz.prog 296 = some 8 := by kernel_rfl
@[simp] theorem ld297 (i o : Nat) (h : Hp) : loadV Tryz.prog 297 (.ptr i o) h = cellAt h i o := by kernel_rfl
@[simp] theorem st297 (i o : Nat) (v : V) (h : Hp) : storeV Tryz.prog 297 (.ptr i o) v h = br (and (Nat.beq 1 v.cells.length) (v.cells.all V.one)) (writeRow h i o v.cells) none := by kernel_rfl
@[simp] theorem az297 (i : Nat) : alZero Tryz.prog i 297 = some (.ptr i 0, .row [.nilM] false false) := by kernel_rfl
@[simp] theorem ze297 : zeroT Tryz.prog 297 = some .nilM := by kernel_rfl
@[simp] theorem un297 : Tryz.prog.underlying 297 = some (.map 194 4) := by kernel_rfl
@[simp] theorem sz297 : szT Tryz.prog 297 = some 1 := by kernel_rfl
@[simp] theorem by297 : bytesT Tryz.prog 297 = some 8 := by kernel_rfl
@[simp] theorem ld301 (i o : Nat) (h : Hp) : loadV Tryz.prog 301 (.ptr i o) h = cellAt h i o := by kernel_rfl
@[simp] theorem st301 (i o : Nat) (v : V) (h : Hp) : storeV Tryz.prog 301 (.ptr i o) v h = br (and (Nat.beq 1 v.cells.length) (v.cells.all V.one)) (writeRow h i o v.cells) none := by kernel_rfl
@[simp] theorem az301 (i : Nat) : alZero Tryz.prog i 301 = some (.ptr i 0, .row [.nilF] false false) := by kernel_rfl
@[simp] theorem ze301 : zeroT Tryz.prog 301 = some .nilF := by kernel_rfl
@[simp] theorem sz301 : szT Tryz.prog 301 = some 1 := by kernel_rfl
@[simp] theorem by301 : bytesT Tryz.prog 301 = some 8 := by kernel_rfl
@[simp] theorem ld303 (i o : Nat) (h : Hp) : loadV Tryz.prog 303 (.ptr i o) h = cellAt h i o := by kernel_rfl
@[simp] theorem st303 (i o : Nat) (v : V) (h : Hp) : storeV Tryz.prog 303 (.ptr i o) v h = br (and (Nat.beq 1 v.cells.length) (v.cells.all V.one)) (writeRow h i o v.cells) none := by kernel_rfl
@[simp] theorem az303 (i : Nat) : alZero Tryz.prog i 303 = some (.ptr i 0, .row [.nilF] false false) := by kernel_rfl
@[simp] theorem ze303 : zeroT Tryz.prog 303 = some .nilF := by kernel_rfl
@[simp] theorem sz303 : szT Tryz.prog 303 = some 1 := by kernel_rfl
@[simp] theorem by303 : bytesT Tryz.prog 303 = some 8 := by kernel_rfl
@[simp] theorem ld304 (i o : Nat) (h : Hp) : loadV Tryz.prog 304 (.ptr i o) h = cellAt h i o := by kernel_rfl
@[simp] theorem st304 (i o : Nat) (v : V) (h : Hp) : storeV Tryz.prog 304 (.ptr i o) v h = br (and (Nat.beq 1 v.cells.length) (v.cells.all V.one)) (writeRow h i o v.cells) none := by kernel_rfl
@[simp] theorem az304 (i : Nat) : alZero Tryz.prog i 304 = some (.ptr i 0, .row [.nilF] false false) := by kernel_rfl
@[simp] theorem ze304 : zeroT Tryz.prog 304 = some .nilF := by kernel_rfl
@[simp] theorem sz304 : szT Tryz.prog 304 = some 1 := by kernel_rfl
@[simp] theorem by304 : bytesT Tryz.prog 304 = some 8 := by kernel_rfl
@[simp] theorem ld305 (i o : Nat) (h : Hp) : loadV Tryz.prog 305 (.ptr i o) h = cellAt h i o := by kernel_rfl
@[simp] theorem st305 (i o : Nat) (v : V) (h : Hp) : storeV Tryz.prog 305 (.ptr i o) v h = br (and (Nat.beq 1 v.cells.length) (v.cells.all V.one)) (writeRow h i o v.cells) none := by kernel_rfl
@[simp] theorem az305 (i : Nat) : alZero Tryz.prog i 305 = some (.ptr i 0, .row [.nilF] false false) := by kernel_rfl
@[simp] theorem ze305 : zeroT Tryz.prog 305 = some .nilF := by kernel_rfl
@[simp] theorem sz305 : szT Tryz.prog 305 = some 1 := by kernel_rfl
@[simp] theorem by305 : bytesT Tryz.prog 305 = some 8 := by kernel_rfl
@[simp] theorem ld307 (i o : Nat) (h : Hp) : loadV Tryz.prog 307 (.ptr i o) h = cellAt h i o := by kernel_rfl
@[simp] theorem st307 (i o : Nat) (v : V) (h : Hp) : storeV Tryz.prog 307 (.ptr i o) v h = br (and (Nat.beq 1 v.cells.length) (v.cells.all V.one)) (writeRow h i o v.cells) none := by kernel_rfl
@[simp] theorem az307 (i : Nat) : alZero Tryz.prog i 307 = some (.ptr i 0, .row [.nilP] false false) := by kernel_rfl
@[simp] theorem ze307 : zeroT Tryz.prog 307 = some .nilP := by kernel_rfl
@[simp] theorem un307 : Tryz.prog.underlying 307 = some (.pointer 362) := by kernel_rfl
@[simp] theorem sz307 : szT Tryz.prog 307 = some 1 := by kernel_rfl
@[simp] theorem by307 : bytesT Tryz.prog 307 = some 8 := by kernel_rfl
@[simp] theorem ld312 (i o : Nat) (h : Hp) : loadV Tryz.prog 312 (.ptr i o) h = cellAt h i o := by kernel_rfl
@[simp] theorem st312 (i o : Nat) (v : V) (h : Hp) : storeV Tryz.prog 312 (.ptr i o) v h = br (and (Nat.beq 1 v.cells.length) (v.cells.all V.one)) (writeRow h i o v.cells) none := by kernel_rfl
@[simp] theorem az312 (i : Nat) : alZero Tryz.prog i 312 = some (.ptr i 0, .row [.nilF] false false) := by kernel_rfl
@[simp] theorem ze312 : zeroT Tryz.prog 312 = some .nilF := by kernel_rfl
@[simp] theorem sz312 : szT Tryz.prog 312 = some 1 := by kernel_rfl
@[simp] theorem by312 : bytesT Tryz.prog 312 = some 8 := by kernel_rfl
@[simp] theorem ld313 (i o : Nat) (h : Hp) : loadV Tryz.prog 313 (.ptr i o) h = cellAt h i o := by kernel_rfl
@[simp] theorem st313 (i o : Nat) (v : V) (h : Hp) : storeV Tryz.prog 313 (.ptr i o) v h = br (and (Nat.beq 1 v.cells.length) (v.cells.all V.one)) (writeRow h i o v.cells) none := by kernel_rfl
@[simp] theorem az313 (i : Nat) : alZero Tryz.prog i 313 = some (.ptr i 0, .row [.nilM] false false) := by kernel_rfl
@[simp] theorem ze313 : zeroT Tryz.prog 313 = some .nilM := by kernel_rfl
@[simp] theorem un313 : Tryz.prog.underlying 313 = some (.map 3 3) := by kernel_rfl
@[simp] theorem sz313 : szT Tryz.prog 313 = some 1 := by kernel_rfl
@[simp] theorem by313 : bytesT Tryz.prog 313 = some 8 := by kernel_rfl
@[simp] theorem ld314 (i o : Nat) (h : Hp) : loadV Tryz.prog 314 (.ptr i o) h = cellAt h i o := by kernel_rfl
@[simp] theorem st314 (i o : Nat) (v : V) (h : Hp) : storeV Tryz.prog 314 (.ptr i o) v h = br (and (Nat.beq 1 v.cells.length) (v.cells.all V.one)) (writeRow h i o v.cells) none := by kernel_rfl
@[simp] theorem az314 (i : Nat) : alZero Tryz.prog i 314 = some (.ptr i 0, .row [.nilF] false false) := by kernel_rfl
@[simp] theorem ze314 : zeroT Tryz.prog 314 = some .nilF := by kernel_rfl
@[simp] theorem sz314 : szT Tryz.prog 314 = some 1 := by kernel_rfl
@[simp] theorem by314 : bytesT Tryz.prog 314 = some 8 := by kernel_rfl
@[simp] theorem ld315 (i o : Nat) (h : Hp) : loadV Tryz.prog 315 (.ptr i o) h = cellAt h i o := by kernel_rfl
@[simp] theorem st315 (i o : Nat) (v : V) (h : Hp) : storeV Tryz.prog 315 (.ptr i o) v h = br (and (Nat.beq 1 v.cells.length) (v.cells.all V.one)) (writeRow h i o v.cells) none := by kernel_rfl
@[simp] theorem az315 (i : Nat) : alZero Tryz.prog i 315 = some (.ptr i 0, .row [.nilF] false false) := by kernel_rfl
@[simp] theorem ze315 : zeroT Tryz.prog 315 = some .nilF := by kernel_rfl
@[simp] theorem sz315 : szT Tryz.prog 315 = some 1 := by kernel_rfl
@[simp] theorem by315 : bytesT Tryz.prog 315 = some 8 := by kernel_rfl
@[simp] theorem ld317 (i o : Nat) (h : Hp) : loadV Tryz.prog 317 (.ptr i o) h = cellAt h i o := by kernel_rfl
@[simp] theorem st317 (i o : Nat) (v : V) (h : Hp) : storeV Tryz.prog 317 (.ptr i o) v h = br (and (Nat.beq 1 v.cells.length) (v.cells.all V.one)) (writeRow h i o v.cells) none := by kernel_rfl
@[simp] theorem az317 (i : Nat) : alZero Tryz.prog i 317 = some (.ptr i 0, .row [.nilM] false false) := by kernel_rfl
@[simp] theorem ze317 : zeroT Tryz.prog 317 = some .nilM := by kernel_rfl
@[simp] theorem un317 : Tryz.prog.underlying 317 = some (.map 194 9) := by kernel_rfl
@[simp] theorem sz317 : szT Tryz.prog 317 = some 1 := by kernel_rfl
@[simp] theorem by317 : bytesT Tryz.prog 317 = some 8 := by kernel_rfl
@[simp] theorem ld319 (i o : Nat) (h : Hp) : loadV Tryz.prog 319 (.ptr i o) h = (rowAt h i o 5).map .agg := by kernel_rfl
@[simp] theorem st319 (i o : Nat) (v : V) (h : Hp) : storeV Tryz.prog 319 (.ptr i o) v h = br (and (Nat.beq 5 v.cells.length) (v.cells.all V.one)) (writeRow h i o v.cells) none := by kernel_rfl
@[simp] theorem az319 (i : Nat) : alZero Tryz.prog i 319 = some (.ptr i 0, .row [.nilS, .nilS, (.int .i64 0), .nilS, .nilM] false false) := by kernel_rfl
@[simp] theorem ze319 : zeroT Tryz.prog 319 = some (.agg [.nilS, .nilS, (.int .i64 0), .nilS, .nilM]) := by kernel_rfl
@[simp] theorem fo319_0 : fOff Tryz.prog 319 0 = some 0 := by kernel_rfl
@[simp] theorem fp319_0 : fPl Tryz.prog 319 0 = some (.cell 0) := by kernel_rfl
@[simp] theorem fo319_1 : fOff Tryz.prog 319 1 = some 1 := by kernel_rfl
@[simp] theorem fp319_1 : fPl Tryz.prog 319 1 = some (.many 1 3) := by kernel_rfl
@[simp] theorem fo319_2 : fOff Tryz.prog 319 2 = some 4 := by kernel_rfl
@[simp] theorem fp319_2 : fPl Tryz.prog 319 2 = some (.cell 4) := by kernel_rfl
theorem pl319 : plT Tryz.prog 319 = some [(0, 1), (1, 3), (4, 1)] := by kernel_rfl
@[simp] theorem bd319 (parts : List (Nat × V)) : buildV Tryz.prog 319 parts = (fillL [(0, 1), (1, 3), (4, 1)] [.nilS, .nilS, (.int .i64 0), .nilS, .nilM] parts).map .agg := buildV_eq pl319 ze319 rfl parts
@[simp] theorem sz319 : szT Tryz.prog 319 = some 5 := by kernel_rfl
@[simp] theorem by319 : bytesT Tryz.prog 319 = some 88 := by kernel_rfl
@[simp] theorem ld321 (i o : Nat) (h : Hp) : loadV Tryz.prog 321 (.ptr i o) h = cellAt h i o := by kernel_rfl
@[simp] theorem st321 (i o : Nat) (v : V) (h : Hp) : storeV Tryz.prog 321 (.ptr i o) v h = br (and (Nat.beq 1 v.cells.length) (v.cells.all V.one)) (writeRow h i o v.cells) none := by kernel_rfl
@[simp] theorem az321 (i : Nat) : alZero Tryz.prog i 321 = some (.ptr i 0, .row [.nilP] false false) := by kernel_rfl
@[simp] theorem ze321 : zeroT Tryz.prog 321 = some .nilP := by kernel_rfl
@[simp] theorem un321 : Tryz.prog.underlying 321 = some (.pointer 323) := by kernel_rfl
@[simp] theorem sz321 : szT Tryz.prog 321 = some 1 := by kernel_rfl
@[simp] theorem by321 : bytesT Tryz.prog 321 = some 8 := by kernel_rfl
@[simp] theorem ld323 (i o : Nat) (h : Hp) : loadV Tryz.prog 323 (.ptr i o) h = (rowAt h i o 2).map .agg := by kernel_rfl
@[simp] theorem st323 (i o : Nat) (v : V) (h : Hp) : storeV Tryz.prog 323 (.ptr i o) v h = br (and (Nat.beq 2 v.cells.length) (v.cells.all V.one)) (writeRow h i o v.cells) none := by kernel_rfl
@[simp] theorem az323 (i : Nat) : alZero Tryz.prog i 323 = some (.ptr i 0, .row [.nilP, .nilS] false false) := by kernel_rfl
@[simp] theorem ze323 : zeroT Tryz.prog 323 = some (.agg [.nilP, .nilS]) := by kernel_rfl
@[simp] theorem fo323_0 : fOff Tryz.prog 323 0 = some 0 := by kernel_rfl
@[simp] theorem fp323_0 : fPl Tryz.prog 323 0 = some (.cell 0) := by kernel_rfl
@[simp] theorem fo323_1 : fOff Tryz.prog 323 1 = some 1 := by kernel_rfl
@[simp] theorem fp323_1 : fPl Tryz.prog 323 1 = some (.cell 1) := by kernel_rfl
theorem pl323 : plT Tryz.prog 323 = some [(0, 1), (1, 1)] := by kernel_rfl
@[simp] theorem bd323 (parts : List (Nat × V)) : buildV Tryz.prog 323 parts = (fillL [(0, 1), (1, 1)] [.nilP, .nilS] parts).map .agg := buildV_eq pl323 ze323 rfl parts
@[simp] theorem sz323 : szT Tryz.prog 323 = some 2 := by kernel_rfl
@[simp] theorem by323 : bytesT Tryz.prog 323 = some 32 := by kernel_rfl
@[simp] theorem ld324 (i o : Nat) (h : Hp) : loadV Tryz.prog 324 (.ptr i o) h = cellAt h i o := by kernel_rfl
@[simp] theorem st324 (i o : Nat) (v : V) (h : Hp) : storeV Tryz.prog 324 (.ptr i o) v h = br (and (Nat.beq 1 v.cells.length) (v.cells.all V.one)) (writeRow h i o v.cells) none := by kernel_rfl
@[simp] theorem az324 (i : Nat) : alZero Tryz.prog i 324 = some (.ptr i 0, .row [.nilF] false false) := by kernel_rfl
@[simp] theorem ze324 : zeroT Tryz.prog 324 = some .nilF := by kernel_rfl
@[simp] theorem sz324 : szT Tryz.prog 324 = some 1 := by kernel_rfl
@[simp] theorem by324 : bytesT Tryz.prog 324 = some 8 := by kernel_rfl
@[simp] theorem ld326 (i o : Nat) (h : Hp) : loadV Tryz.prog 326 (.ptr i o) h = cellAt h i o := by kernel_rfl
@[simp] theorem st326 (i o : Nat) (v : V) (h : Hp) : storeV Tryz.prog 326 (.ptr i o) v h = br (and (Nat.beq 1 v.cells.length) (v.cells.all V.one)) (writeRow h i o v.cells) none := by kernel_rfl
@[simp] theorem az326 (i : Nat) : alZero Tryz.prog i 326 = some (.ptr i 0, .row [.nilI] false false) := by kernel_rfl
@[simp] theorem ze326 : zeroT Tryz.prog 326 = some .nilI := by kernel_rfl
@[simp] theorem sz326 : szT Tryz.prog 326 = some 1 := by kernel_rfl
@[simp] theorem by326 : bytesT Tryz.prog 326 = some 16 := by kernel_rfl
@[simp] theorem ld327 (i o : Nat) (h : Hp) : loadV Tryz.prog 327 (.ptr i o) h = cellAt h i o := by kernel_rfl
@[simp] theorem st327 (i o : Nat) (v : V) (h : Hp) : storeV Tryz.prog 327 (.ptr i o) v h = br (and (Nat.beq 1 v.cells.length) (v.cells.all V.one)) (writeRow h i o v.cells) none := by kernel_rfl
@[simp] theorem sz327 : szT Tryz.prog 327 = some 1 := by kernel_rfl
@[simp] theorem by327 : bytesT Tryz.prog 327 = some 0 := by kernel_rfl
@[simp] theorem ld331 (i o : Nat) (h : Hp) : loadV Tryz.prog 331 (.ptr i o) h = cellAt h i o := by kernel_rfl
@[simp] theorem st331 (i o : Nat) (v : V) (h : Hp) : storeV Tryz.prog 331 (.ptr i o) v h = br (and (Nat.beq 1 v.cells.length) (v.cells.all V.one)) (writeRow h i o v.cells) none := by kernel_rfl
@[simp] theorem sz331 : szT Tryz.prog 331 = some 1 := by kernel_rfl
@[simp] theorem by331 : bytesT Tryz.prog 331 = some 0 := by kernel_rfl
@[simp] theorem ld336 (i o : Nat) (h : Hp) : loadV Tryz.prog 336 (.ptr i o) h = cellAt h i o := by kernel_rfl
@[simp] theorem st336 (i o : Nat) (v : V) (h : Hp) : storeV Tryz.prog 336 (.ptr i o) v h = br (and (Nat.beq 1 v.cells.length) (v.cells.all V.one)) (writeRow h i o v.cells) none := by kernel_rfl
@[simp] theorem az336 (i : Nat) : alZero Tryz.prog i 336 = some (.ptr i 0, .row [.nilS] false false) := by kernel_rfl
@[simp] theorem ze336 : zeroT Tryz.prog 336 = some .nilS := by kernel_rfl
@[simp] theorem un336 : Tryz.prog.underlying 336 = some (.slice 341) := by kernel_rfl
@[simp] theorem sz336 : szT Tryz.prog 336 = some 1 := by kernel_rfl
@[simp] theorem by336 : bytesT Tryz.prog 336 = some 24 := by kernel_rfl
@[simp] theorem ld337 (i o : Nat) (h : Hp) : loadV Tryz.prog 337 (.ptr i o) h = cellAt h i o := by kernel_rfl
@[simp] theorem st337 (i o : Nat) (v : V) (h : Hp) : storeV Tryz.prog 337 (.ptr i o) v h = br (and (Nat.beq 1 v.cells.length) (v.cells.all V.one)) (writeRow h i o v.cells) none := by kernel_rfl
@[simp] theorem sz337 : szT Tryz.prog 337 = some 1 := by kernel_rfl
@[simp] theorem by337 : bytesT Tryz.prog 337 = some 0 := by kernel_rfl
@[simp] theorem ld339 (i o : Nat) (h : Hp) : loadV Tryz.prog 339 (.ptr i o) h = cellAt h i o := by kernel_rfl
@[simp] theorem st339 (i o : Nat) (v : V) (h : Hp) : storeV Tryz.prog 339 (.ptr i o) v h = br (and (Nat.beq 1 v.cells.length) (v.cells.all V.one)) (writeRow h i o v.cells) none := by kernel_rfl
@[simp] theorem az339 (i : Nat) : alZero Tryz.prog i 339 = some (.ptr i 0, .row [.nilS] false false) := by kernel_rfl
@[simp] theorem ze339 : zeroT Tryz.prog 339 = some .nilS := by kernel_rfl
@[simp] theorem un339 : Tryz.prog.underlying 339 = some (.slice 345) := by kernel_rfl
@[simp] theorem sz339 : szT Tryz.prog 339 = some 1 := by kernel_rfl
@[simp] theorem by339 : bytesT Tryz.prog 339 = some 24 := by kernel_rfl
@[simp] theorem ld341 (i o : Nat) (h : Hp) : loadV Tryz.prog 341 (.ptr i o) h = (rowAt h i o 2).map .agg := by kernel_rfl
@[simp] theorem st341 (i o : Nat) (v : V) (h : Hp) : storeV Tryz.prog 341 (.ptr i o) v h = br (and (Nat.beq 2 v.cells.length) (v.cells.all V.one)) (writeRow h i o v.cells) none := by kernel_rfl
@[simp] theorem az341 (i : Nat) : alZero Tryz.prog i 341 = some (.ptr i 0, .row [.nilS, .nilS] false false) := by kernel_rfl
@[simp] theorem ze341 : zeroT Tryz.prog 341 = some (.agg [.nilS, .nilS]) := by kernel_rfl
@[simp] theorem fo341_0 : fOff Tryz.prog 341 0 = some 0 := by kernel_rfl
@[simp] theorem fp341_0 : fPl Tryz.prog 341 0 = some (.cell 0) := by kernel_rfl
@[simp] theorem fo341_1 : fOff Tryz.prog 341 1 = some 1 := by kernel_rfl
@[simp] theorem fp341_1 : fPl Tryz.prog 341 1 = some (.cell 1) := by kernel_rfl
theorem pl341 : plT Tryz.prog 341 = some [(0, 1), (1, 1)] := by kernel_rfl
@[simp] theorem bd341 (parts : List (Nat × V)) : buildV Tryz.prog 341 parts = (fillL [(0, 1), (1, 1)] [.nilS, .nilS] parts).map .agg := buildV_eq pl341 ze341 rfl parts
@[simp] theorem sz341 : szT Tryz.prog 341 = some 2 := by kernel_rfl
@[simp] theorem by341 : bytesT Tryz.prog 341 = some 48 := by kernel_rfl
@[simp] theorem ld342 (i o : Nat) (h : Hp) : loadV Tryz.prog 342 (.ptr i o) h = cellAt h i o := by kernel_rfl
@[simp] theorem st342 (i o : Nat) (v : V) (h : Hp) : storeV Tryz.prog 342 (.ptr i o) v h = br (and (Nat.beq 1 v.cells.length) (v.cells.all V.one)) (writeRow h i o v.cells) none := by kernel_rfl
@[simp] theorem sz342 : szT Tryz.prog 342 = some 1 := by kernel_rfl
@[simp] theorem by342 : bytesT Tryz.prog 342 = some 0 := by kernel_rfl
@[simp] theorem ld345 (i o : Nat) (h : Hp) : loadV Tryz.prog 345 (.ptr i o) h = (rowAt h i o 2).map .agg := by kernel_rfl
@[simp] theorem st345 (i o : Nat) (v : V) (h : Hp) : storeV Tryz.prog 345 (.ptr i o) v h = br (and (Nat.beq 2 v.cells.length) (v.cells.all V.one)) (writeRow h i o v.cells) none := by kernel_rfl
@[simp] theorem az345 (i : Nat) : alZero Tryz.prog i 345 = some (.ptr i 0, .row [(.int .i64 0), .nilS] false false) := by kernel_rfl
@[simp] theorem ze345 : zeroT Tryz.prog 345 = some (.agg [(.int .i64 0), .nilS]) := by kernel_rfl
@[simp] theorem fo345_0 : fOff Tryz.prog 345 0 = some 0 := by kernel_rfl
@[simp] theorem fp345_0 : fPl Tryz.prog 345 0 = some (.cell 0) := by kernel_rfl
@[simp] theorem fo345_1 : fOff Tryz.prog 345 1 = some 1 := by kernel_rfl
@[simp] theorem fp345_1 : fPl Tryz.prog 345 1 = some (.cell 1) := by kernel_rfl
theorem pl345 : plT Tryz.prog 345 = some [(0, 1), (1, 1)] := by kernel_rfl
@[simp] theorem bd345 (parts : List (Nat × V)) : buildV Tryz.prog 345 parts = (fillL [(0, 1), (1, 1)] [(.int .i64 0), .nilS] parts).map .agg := buildV_eq pl345 ze345 rfl parts
@[simp] theorem sz345 : szT Tryz.prog 345 = some 2 := by kernel_rfl
@[simp] theorem by345 : bytesT Tryz.prog 345 = some 32 := by kernel_rfl
@[simp] theorem ld348 (i o : Nat) (h : Hp) : loadV Tryz.prog 348 (.ptr i o) h = cellAt h i o := by kernel_rfl
@[simp] theorem st348 (i o : Nat) (v : V) (h : Hp) : storeV Tryz.prog 348 (.ptr i o) v h = br (and (Nat.beq 1 v.cells.length) (v.cells.all V.one)) (writeRow h i o v.cells) none := by kernel_rfl
@[simp] theorem az348 (i : Nat) : alZero Tryz.prog i 348 = some (.ptr i 0, .row [.nilF] false false) := by kernel_rfl
@[simp] theorem ze348 : zeroT Tryz.prog 348 = some .nilF := by kernel_rfl
@[simp] theorem sz348 : szT Tryz.prog 348 = some 1 := by kernel_rfl
@[simp] theorem by348 : bytesT Tryz.prog 348 = some 8 := by kernel_rfl
@[simp] theorem ld349 (i o : Nat) (h : Hp) : loadV Tryz.prog 349 (.ptr i o) h = cellAt h i o := by kernel_rfl
@[simp] theorem st349 (i o : Nat) (v : V) (h : Hp) : storeV Tryz.prog 349 (.ptr i o) v h = br (and (Nat.beq 1 v.cells.length) (v.cells.all V.one)) (writeRow h i o v.cells) none := by kernel_rfl
@[simp] theorem az349 (i : Nat) : alZero Tryz.prog i 349 = some (.ptr i 0, .row [.nilP] false false) := by kernel_rfl
@[simp] theorem ze349 : zeroT Tryz.prog 349 = some .nilP := by kernel_rfl
@[simp] theorem un349 : Tryz.prog.underlying 349 = some (.pointer 353) := by kernel_rfl
@[simp] theorem sz349 : szT Tryz.prog 349 = some 1 := by kernel_rfl
@[simp] theorem by349 : bytesT Tryz.prog 349 = some 8 := by kernel_rfl
@[simp] theorem ld350 (i o : Nat) (h : Hp) : loadV Tryz.prog 350 (.ptr i o) h = cellAt h i o := by kernel_rfl
@[simp] theorem st350 (i o : Nat) (v : V) (h : Hp) : storeV Tryz.prog 350 (.ptr i o) v h = br (and (Nat.beq 1 v.cells.length) (v.cells.all V.one)) (writeRow h i o v.cells) none := by kernel_rfl
@[simp] theorem sz350 : szT Tryz.prog 350 = some 1 := by kernel_rfl
@[simp] theorem by350 : bytesT Tryz.prog 350 = some 0 := by kernel_rfl
@[simp] theorem ld353 (i o : Nat) (h : Hp) : loadV Tryz.prog 353 (.ptr i o) h = (rowAt h i o 5).map .agg := by kernel_rfl
@[simp] theorem st353 (i o : Nat) (v : V) (h : Hp) : storeV Tryz.prog 353 (.ptr i o) v h = br (and (Nat.beq 5 v.cells.length) (v.cells.all V.one)) (writeRow h i o v.cells) none := by kernel_rfl
@[simp] theorem az353 (i : Nat) : alZero Tryz.prog i 353 = some (.ptr i 0, .row [.nilS, (.int .i64 0), .nilS, .nilS, .nilM] false false) := by kernel_rfl
@[simp] theorem ze353 : zeroT Tryz.prog 353 = some (.agg [.nilS, (.int .i64 0), .nilS, .nilS, .nilM]) := by kernel_rfl
@[simp] theorem fo353_0 : fOff Tryz.prog 353 0 = some 0 := by kernel_rfl
@[simp] theorem fp353_0 : fPl Tryz.prog 353 0 = some (.many 0 3) := by kernel_rfl
@[simp] theorem fo353_1 : fOff Tryz.prog 353 1 = some 3 := by kernel_rfl
@[simp] theorem fp353_1 : fPl Tryz.prog 353 1 = some (.cell 3) := by kernel_rfl
@[simp] theorem fo353_2 : fOff Tryz.prog 353 2 = some 4 := by kernel_rfl
@[simp] theorem fp353_2 : fPl Tryz.prog 353 2 = some (.cell 4) := by kernel_rfl
theorem pl353 : plT Tryz.prog 353 = some [(0, 3), (3, 1), (4, 1)] := by kernel_rfl
@[simp] theorem bd353 (parts : List (Nat × V)) : buildV Tryz.prog 353 parts = (fillL [(0, 3), (3, 1), (4, 1)] [.nilS, (.int .i64 0), .nilS, .nilS, .nilM] parts).map .agg := buildV_eq pl353 ze353 rfl parts
@[simp] theorem sz353 : szT Tryz.prog 353 = some 5 := by kernel_rfl
@[simp] theorem by353 : bytesT Tryz.prog 353 = some 88 := by kernel_rfl
@[simp] theorem ld358 (i o : Nat) (h : Hp) : loadV Tryz.prog 358 (.ptr i o) h = cellAt h i o := by kernel_rfl
@[simp] theorem st358 (i o : Nat) (v : V) (h : Hp) : storeV Tryz.prog 358 (.ptr i o) v h = br (and (Nat.beq 1 v.cells.length) (v.cells.all V.one)) (writeRow h i o v.cells) none := by kernel_rfl
@[simp] theorem az358 (i : Nat) : alZero Tryz.prog i 358 = some (.ptr i 0, .row [(.int .u64 0)] false false) := by kernel_rfl
@[simp] theorem ze358 : zeroT Tryz.prog 358 = some (.int .u64 0) := by kernel_rfl
@[simp] theorem un358 : Tryz.prog.underlying 358 = some (.int .u64) := by kernel_rfl
@[simp] theorem sz358 : szT Tryz.prog 358 = some 1 := by kernel_rfl
@[simp] theorem by358 : bytesT Tryz.prog 358 = some 8 := by kernel_rfl
@[simp] theorem ld359 (i o : Nat) (h : Hp) : loadV Tryz.prog 359 (.ptr i o) h = cellAt h i o := by kernel_rfl
@[simp] theorem st359 (i o : Nat) (v : V) (h : Hp) : storeV Tryz.prog 359 (.ptr i o) v h = br (and (Nat.beq 1 v.cells.length) (v.cells.all V.one)) (writeRow h i o v.cells) none := by kernel_rfl
@[simp] theorem az359 (i : Nat) : alZero Tryz.prog i 359 = some (.ptr i 0, .row [.nilF] false false) := by kernel_rfl
@[simp] theorem ze359 : zeroT Tryz.prog 359 = some .nilF := by kernel_rfl
@[simp] theorem sz359 : szT Tryz.prog 359 = some 1 := by kernel_rfl
@[simp] theorem by359 : bytesT Tryz.prog 359 = some 8 := by kernel_rfl
@[simp] theorem ld360 (i o : Nat) (h : Hp) : loadV Tryz.prog 360 (.ptr i o) h = (rowAt h i o 64).map .agg := by kernel_rfl
@[simp] theorem st360 (i o : Nat) (v : V) (h : Hp) : storeV Tryz.prog 360 (.ptr i o) v h = br (and (Nat.beq 64 v.cells.length) (v.cells.all V.one)) (writeRow h i o v.cells) none := by kernel_rfl
@[simp] theorem az360 (i : Nat) : alZero Tryz.prog i 360 = some (.ptr i 0, .row [(.int .i64 0), (.int .i64 0), (.int .i64 0), (.int .i64 0), (.int .i64 0), (.int .i64 0), (.int .i64 0), (.int .i64 0), (.int .i64 0), (.int .i64 0), (.int .i64 0), (.int .i64 0), (.int .i64 0), (.int .i64 0), (.int .i64 0), (.int .i64 0), (.int .i64 0), (.int .i64 0), (.int .i64 0), (.int .i64 0), (.int .i64 0), (.int .i64 0), (.int .i64 0), (.int .i64 0), (.int .i64 0), (.int .i64 0), (.int .i64 0), (.int .i64 0), (.int .i64 0), (.int .i64 0), (.int .i64 0), (.int .i64 0), (.int .i64 0), (.int .i64 0), (.int .i64 0), (.int .i64 0), (.int .i64 0), (.int .i64 0), (.int .i64 0), (.int .i64 0), (.int .i64 0), (.int .i64 0), (.int .i64 0), (.int .i64 0), (.int .i64 0), (.int .i64 0), (.int .i64 0), (.int .i64 0), (.int .i64 0), (.int .i64 0), (.int .i64 0), (.int .i64 0), (.int .i64 0), (.int .i64 0), (.int .i64 0), (.int .i64 0), (.int .i64 0), (.int .i64 0), (.int .i64 0), (.int .i64 0), (.int .i64 0), (.int .i64 0), (.int .i64 0), (.int .i64 0)] false false) := by kernel_rfl
@[simp] theorem ze360 : zeroT Tryz.prog 360 = some (.agg [(.int .i64 0), (.int .i64 0), (.int .i64 0), (.int .i64 0), (.int .i64 0), (.int .i64 0), (.int .i64 0), (.int .i64 0), (.int .i64 0), (.int .i64 0), (.int .i64 0), (.int .i64 0), (.int .i64 0), (.int .i64 0), (.int .i64 0), (.int .i64 0), (.int .i64 0), (.int .i64 0), (.int .i64 0), (.int .i64 0), (.int .i64 0), (.int .i64 0), (.int .i64 0), (.int .i64 0), (.int .i64 0), (.int .i64 0), (.int .i64 0), (.int .i64 0), (.int .i64 0), (.int .i64 0), (.int .i64 0), (.int .i64 0), (.int .i64 0), (.int .i64 0), (.int .i64 0), (.int .i64 0), (.int .i64 0), (.int .i64 0), (.int .i64 0), (.int .i64 0), (.int .i64 0), (.int .i64 0), (.int .i64 0), (.int .i64 0), (.int .i64 0), (.int .i64 0), (.int .i64 0), (.int .i64 0), (.int .i64 0), (.int .i64 0), (.int .i64 0), (.int .i64 0), (.int .i64 0), (.int .i64 0), (.int .i64 0), (.int .i64 0), (.int .i64 0), (.int .i64 0), (.int .i64 0), (.int .i64 0), (.int .i64 0), (.int .i64 0), (.int .i64 0), (.int .i64 0)]) := by kernel_rfl
@[simp] theorem un360 : Tryz.prog.underlying 360 = some (.array 64 3) := by kernel_rfl
@[simp] theorem sz360 : szT Tryz.prog 360 = some 64 := by kernel_rfl
@[simp] theorem by360 : bytesT Tryz.prog 360 = some 512 := by kernel_rfl
@[simp] theorem ld362 (i o : Nat) (h : Hp) : loadV Tryz.prog 362 (.ptr i o) h = (rowAt h i o 64).map .agg := by kernel_rfl
@[simp] theorem st362 (i o : Nat) (v : V) (h : Hp) : storeV Tryz.prog 362 (.ptr i o) v h = br (and (Nat.beq 64 v.cells.length) (v.cells.all V.one)) (writeRow h i o v.cells) none := by kernel_rfl
@[simp] theorem az362 (i : Nat) : alZero Tryz.prog i 362 = some (.ptr i 0, .row [(.int .i64 0), (.int .i64 0), (.int .i64 0), (.int .i64 0), (.int .i64 0), (.int .i64 0), (.int .i64 0), (.int .i64 0), (.int .i64 0), (.int .i64 0), (.int .i64 0), (.int .i64 0), (.int .i64 0), (.int .i64 0), (.int .i64 0), (.int .i64 0), (.int .i64 0), (.int .i64 0), (.int .i64 0), (.int .i64 0), (.int .i64 0), (.int .i64 0), (.int .i64 0), (.int .i64 0), (.int .i64 0), (.int .i64 0), (.int .i64 0), (.int .i64 0), (.int .i64 0), (.int .i64 0), (.int .i64 0), (.int .i64 0), (.int .i64 0), (.int .i64 0), (.int .i64 0), (.int .i64 0), (.int .i64 0), (.int .i64 0), (.int .i64 0), (.int .i64 0), (.int .i64 0), (.int .i64 0), (.int .i64 0), (.int .i64 0), (.int .i64 0), (.int .i64 0), (.int .i64 0), (.int .i64 0), (.int .i64 0), (.int .i64 0), (.int .i64 0), (.int .i64 0), (.int .i64 0), (.int .i64 0), (.int .i64 0), (.int .i64 0), (.int .i64 0), (.int .i64 0), (.int .i64 0), (.int .i64 0), (.int .i64 0), (.int .i64 0), (.int .i64 0), (.int .i64 0)] false false) := by kernel_rfl
@[simp] theorem ze362 : zeroT Tryz.prog 362 = some (.agg [(.int .i64 0), (.int .i64 0), (.int .i64 0), (.int .i64 0), (.int .i64 0), (.int .i64 0), (.int .i64 0), (.int .i64 0), (.int .i64 0), (.int .i64 0), (.int .i64 0), (.int .i64 0), (.int .i64 0), (.int .i64 0), (.int .i64 0), (.int .i64 0), (.int .i64 0), (.int .i64 0), (.int .i64 0), (.int .i64 0), (.int .i64 0), (.int .i64 0), (.int .i64 0), (.int .i64 0), (.int .i64 0), (.int .i64 0), (.int .i64 0), (.int .i64 0), (.int .i64 0), (.int .i64 0), (.int .i64 0), (.int .i64 0), (.int .i64 0), (.int .i64 0), (.int .i64 0), (.int .i64 0), (.int .i64 0), (.int .i64 0), (.int .i64 0), (.int .i64 0), (.int .i64 0), (.int .i64 0), (.int .i64 0), (.int .i64 0), (.int .i64 0), (.int .i64 0), (.int .i64 0), (.int .i64 0), (.int .i64 0), (.int .i64 0), (.int .i64 0), (.int .i64 0), (.int .i64 0), (.int .i64 0), (.int .i64 0), (.int .i64 0), (.int .i64 0), (.int .i64 0), (.int .i64 0), (.int .i64 0), (.int .i64 0), (.int .i64 0), (.int .i64 0), (.int .i64 0)]) := by kernel_rfl
@[simp] theorem fo362_0 : fOff Tryz.prog 362 0 = some 0 := by kernel_rfl
@[simp] theorem fp362_0 : fPl Tryz.prog 362 0 = some (.many 0 64) := by kernel_rfl
theorem pl362 : plT Tryz.prog 362 = some [(0, 64)] := by kernel_rfl
@[simp] theorem bd362 (parts : List (Nat × V)) : buildV Tryz.prog 362 parts = (fillL [(0, 64)] [(.int .i64 0), (.int .i64 0), (.int .i64 0), (.int .i64 0), (.int .i64 0), (.int .i64 0), (.int .i64 0), (.int .i64 0), (.int .i64 0), (.int .i64 0), (.int .i64 0), (.int .i64 0), (.int .i64 0), (.int .i64 0), (.int .i64 0), (.int .i64 0), (.int .i64 0), (.int .i64 0), (.int .i64 0), (.int .i64 0), (.int .i64 0), (.int .i64 0), (.int .i64 0), (.int .i64 0), (.int .i64 0), (.int .i64 0), (.int .i64 0), (.int .i64 0), (.int .i64 0), (.int .i64 0), (.int .i64 0), (.int .i64 0), (.int .i64 0), (.int .i64 0), (.int .i64 0), (.int .i64 0), (.int .i64 0), (.int .i64 0), (.int .i64 0), (.int .i64 0), (.int .i64 0), (.int .i64 0), (.int .i64 0), (.int .i64 0), (.int .i64 0), (.int .i64 0), (.int .i64 0), (.int .i64 0), (.int .i64 0), (.int .i64 0), (.int .i64 0), (.int .i64 0), (.int .i64 0), (.int .i64 0), (.int .i64 0), (.int .i64 0), (.int .i64 0), (.int .i64 0), (.int .i64 0), (.int .i64 0), (.int .i64 0), (.int .i64 0), (.int .i64 0), (.int .i64 0)] parts).map .agg := buildV_eq pl362 ze362 rfl parts
@[simp] theorem sz362 : szT Tryz.prog 362 = some 64 := by kernel_rfl
@[simp] theorem by362 : bytesT Tryz.prog 362 = some 512 := by kernel_rfl
@[simp] theorem ld363 (i o : Nat) (h : Hp) : loadV Tryz.prog 363 (.ptr i o) h = cellAt h i o := by kernel_rfl
@[simp] theorem st363 (i o : Nat) (v : V) (h : Hp) : storeV Tryz.prog 363 (.ptr i o) v h = br (and (Nat.beq 1 v.cells.length) (v.cells.all V.one)) (writeRow h i o v.cells) none := by kernel_rfl
@[simp] theorem sz363 : szT Tryz.prog 363 = some 1 := by kernel_rfl
@[simp] theorem by363 : bytesT Tryz.prog 363 = some 0 := by kernel_rfl
@[simp] theorem ld366 (i o : Nat) (h : Hp) : loadV Tryz.prog 366 (.ptr i o) h = cellAt h i o := by kernel_rfl
@[simp] theorem st366 (i o : Nat) (v : V) (h : Hp) : storeV Tryz.prog 366 (.ptr i o) v h = br (and (Nat.beq 1 v.cells.length) (v.cells.all V.one)) (writeRow h i o v.cells) none := by kernel_rfl
@[simp] theorem az366 (i : Nat) : alZero Tryz.prog i 366 = some (.ptr i 0, .row [.nilS] false false) := by kernel_rfl
@[simp] theorem ze366 : zeroT Tryz.prog 366 = some .nilS := by kernel_rfl
@[simp] theorem un366 : Tryz.prog.underlying 366 = some (.slice 153) := by kernel_rfl
@[simp] theorem sz366 : szT Tryz.prog 366 = some 1 := by kernel_rfl
@[simp] theorem by366 : bytesT Tryz.prog 366 = some 24 := by kernel_rfl
@[simp] theorem ld367 (i o : Nat) (h : Hp) : loadV Tryz.prog 367 (.ptr i o) h = cellAt h i o := by kernel_rfl
@[simp] theorem st367 (i o : Nat) (v : V) (h : Hp) : storeV Tryz.prog 367 (.ptr i o) v h = br (and (Nat.beq 1 v.cells.length) (v.cells.all V.one)) (writeRow h i o v.cells) none := by kernel_rfl
@[simp] theorem az367 (i : Nat) : alZero Tryz.prog i 367 = some (.ptr i 0, .row [.nilF] false false) := by kernel_rfl
@[simp] theorem ze367 : zeroT Tryz.prog 367 = some .nilF := by kernel_rfl
@[simp] theorem sz367 : szT Tryz.prog 367 = some 1 := by kernel_rfl
@[simp] theorem by367 : bytesT Tryz.prog 367 = some 8 := by kernel_rfl
@[simp] theorem ld368 (i o : Nat) (h : Hp) : loadV Tryz.prog 368 (.ptr i o) h = cellAt h i o := by kernel_rfl
@[simp] theorem st368 (i o : Nat) (v : V) (h : Hp) : storeV Tryz.prog 368 (.ptr i o) v h = br (and (Nat.beq 1 v.cells.length) (v.cells.all V.one)) (writeRow h i o v.cells) none := by kernel_rfl
@[simp] theorem az368 (i : Nat) : alZero Tryz.prog i 368 = some (.ptr i 0, .row [.nilP] false false) := by kernel_rfl
@[simp] theorem ze368 : zeroT Tryz.prog 368 = some .nilP := by kernel_rfl
@[simp] theorem un368 : Tryz.prog.underlying 368 = some (.pointer 5) := by kernel_rfl
@[simp] theorem sz368 : szT Tryz.prog 368 = some 1 := by kernel_rfl
@[simp] theorem by368 : bytesT Tryz.prog 368 = some 8 := by kernel_rfl
@[simp] theorem ld371 (i o : Nat) (h : Hp) : loadV Tryz.prog 371 (.ptr i o) h = cellAt h i o := by kernel_rfl
@[simp] theorem st371 (i o : Nat) (v : V) (h : Hp) : storeV Tryz.prog 371 (.ptr i o) v h = br (and (Nat.beq 1 v.cells.length) (v.cells.all V.one)) (writeRow h i o v.cells) none := by kernel_rfl
@[simp] theorem az371 (i : Nat) : alZero Tryz.prog i 371 = some (.ptr i 0, .row [.nilF] false false) := by kernel_rfl
@[simp] theorem ze371 : zeroT Tryz.prog 371 = some .nilF := by kernel_rfl
@[simp] theorem sz371 : szT Tryz.prog 371 = some 1 := by kernel_rfl
@[simp] theorem by371 : bytesT Tryz.prog 371 = some 8 := by kernel_rfl
@[simp] theorem ld372 (i o : Nat) (h : Hp) : loadV Tryz.prog 372 (.ptr i o) h = cellAt h i o := by kernel_rfl
@[simp] theorem st372 (i o : Nat) (v : V) (h : Hp) : storeV Tryz.prog 372 (.ptr i o) v h = br (and (Nat.beq 1 v.cells.length) (v.cells.all V.one)) (writeRow h i o v.cells) none := by kernel_rfl
@[simp] theorem az372 (i : Nat) : alZero Tryz.prog i 372 = some (.ptr i 0, .row [.nilP] false false) := by kernel_rfl
@[simp] theorem ze372 : zeroT Tryz.prog 372 = some .nilP := by kernel_rfl
@[simp] theorem un372 : Tryz.prog.underlying 372 = some (.pointer 401) := by kernel_rfl
@[simp] theorem sz372 : szT Tryz.prog 372 = some 1 := by kernel_rfl
@[simp] theorem by372 : bytesT Tryz.prog 372 = some 8 := by kernel_rfl
@[simp] theorem ld374 (i o : Nat) (h : Hp) : loadV Tryz.prog 374 (.ptr i o) h = cellAt h i o := by kernel_rfl
@[simp] theorem st374 (i o : Nat) (v : V) (h : Hp) : storeV Tryz.prog 374 (.ptr i o) v h = br (and (Nat.beq 1 v.cells.length) (v.cells.all V.one)) (writeRow h i o v.cells) none := by kernel_rfl
@[simp] theorem az374 (i : Nat) : alZero Tryz.prog i 374 = some (.ptr i 0, .row [.nilS] false false) := by kernel_rfl
@[simp] theorem ze374 : zeroT Tryz.prog 374 = some .nilS := by kernel_rfl
@[simp] theorem un374 : Tryz.prog.underlying 374 = some (.slice 3) := by kernel_rfl
@[simp] theorem sz374 : szT Tryz.prog 374 = some 1 := by kernel_rfl
@[simp] theorem by374 : bytesT Tryz.prog 374 = some 24 := by kernel_rfl
@[simp] theorem ld376 (i o : Nat) (h : Hp) : loadV Tryz.prog 376 (.ptr i o) h = cellAt h i o := by kernel_rfl
@[simp] theorem st376 (i o : Nat) (v : V) (h : Hp) : storeV Tryz.prog 376 (.ptr i o) v h = br (and (Nat.beq 1 v.cells.length) (v.cells.all V.one)) (writeRow h i o v.cells) none := by kernel_rfl
@[simp] theorem az376 (i : Nat) : alZero Tryz.prog i 376 = some (.ptr i 0, .row [.nilF] false false) := by kernel_rfl
@[simp] theorem ze376 : zeroT Tryz.prog 376 = some .nilF := by kernel_rfl
@[simp] theorem sz376 : szT Tryz.prog 376 = some 1 := by kernel_rfl
@[simp] theorem by376 : bytesT Tryz.prog 376 = some 8 := by kernel_rfl
@[simp] theorem ld378 (i o : Nat) (h : Hp) : loadV Tryz.prog 378 (.ptr i o) h = cellAt h i o := by kernel_rfl
@[simp] theorem st378 (i o : Nat) (v : V) (h : Hp) : storeV Tryz.prog 378 (.ptr i o) v h = br (and (Nat.beq 1 v.cells.length) (v.cells.all V.one)) (writeRow h i o v.cells) none := by kernel_rfl
@[simp] theorem az378 (i : Nat) : alZero Tryz.prog i 378 = some (.ptr i 0, .row [.nilS] false false) := by kernel_rfl
@[simp] theorem ze378 : zeroT Tryz.prog 378 = some .nilS := by kernel_rfl
@[simp] theorem un378 : Tryz.prog.underlying 378 = some (.slice 4) := by kernel_rfl
@[simp] theorem sz378 : szT Tryz.prog 378 = some 1 := by kernel_rfl
@[simp] theorem by378 : bytesT Tryz.prog 378 = some 24 := by kernel_rfl
@[simp] theorem ld381 (i o : Nat) (h : Hp) : loadV Tryz.prog 381 (.ptr i o) h = cellAt h i o := by kernel_rfl
@[simp] theorem st381 (i o : Nat) (v : V) (h : Hp) : storeV Tryz.prog 381 (.ptr i o) v h = br (and (Nat.beq 1 v.cells.length) (v.cells.all V.one)) (writeRow h i o v.cells) none := by kernel_rfl
@[simp] theorem az381 (i : Nat) : alZero Tryz.prog i 381 = some (.ptr i 0, .row [(.int .i64 0)] false false) := by kernel_rfl
@[simp] theorem ze381 : zeroT Tryz.prog 381 = some (.int .i64 0) := by kernel_rfl
@[simp] theorem un381 : Tryz.prog.underlying 381 = some (.int .i64) := by kernel_rfl
@[simp] theorem sz381 : szT Tryz.prog 381 = some 1 := by kernel_rfl
@[simp] theorem by381 : bytesT Tryz.prog 381 = some 8 := by kernel_rfl
@[simp] theorem ld382 (i o : Nat) (h : Hp) : loadV Tryz.prog 382 (.ptr i o) h = cellAt h i o := by kernel_rfl
@[simp] theorem st382 (i o : Nat) (v : V) (h : Hp) : storeV Tryz.prog 382 (.ptr i o) v h = br (and (Nat.beq 1 v.cells.length) (v.cells.all V.one)) (writeRow h i o v.cells) none := by kernel_rfl
@[simp] theorem sz382 : szT Tryz.prog 382 = some 1 := by kernel_rfl
@[simp] theorem by382 : bytesT Tryz.prog 382 = some 0 := by kernel_rfl
@[simp] theorem ld389 (i o : Nat) (h : Hp) : loadV Tryz.prog 389 (.ptr i o) h = cellAt h i o := by kernel_rfl
@[simp] theorem st389 (i o : Nat) (v : V) (h : Hp) : storeV Tryz.prog 389 (.ptr i o) v h = br (and (Nat.beq 1 v.cells.length) (v.cells.all V.one)) (writeRow h i o v.cells) none := by kernel_rfl
@[simp] theorem az389 (i : Nat) : alZero Tryz.prog i 389 = some (.ptr i 0, .row [(.int .u64 0)] false false) := by kernel_rfl
@[simp] theorem ze389 : zeroT Tryz.prog 389 = some (.int .u64 0) := by kernel_rfl
@[simp] theorem un389 : Tryz.prog.underlying 389 = some (.int .u64) := by kernel_rfl
@[simp] theorem sz389 : szT Tryz.prog 389 = some 1 := by kernel_rfl
@[simp] theorem by389 : bytesT Tryz.prog 389 = some 8 := by kernel_rfl
@[simp] theorem ld390 (i o : Nat) (h : Hp) : loadV Tryz.prog 390 (.ptr i o) h = (rowAt h i o 1).map .agg := by kernel_rfl
@[simp] theorem st390 (i o : Nat) (v : V) (h : Hp) : storeV Tryz.prog 390 (.ptr i o) v h = br (and (Nat.beq 1 v.cells.length) (v.cells.all V.one)) (writeRow h i o v.cells) none := by kernel_rfl
@[simp] theorem az390 (i : Nat) : alZero Tryz.prog i 390 = some (.ptr i 0, .row [(.int .u32 0)] false false) := by kernel_rfl
@[simp] theorem ze390 : zeroT Tryz.prog 390 = some (.agg [(.int .u32 0)]) := by kernel_rfl
@[simp] theorem un390 : Tryz.prog.underlying 390 = some (.array 1 252) := by kernel_rfl
@[simp] theorem sz390 : szT Tryz.prog 390 = some 1 := by kernel_rfl
@[simp] theorem by390 : bytesT Tryz.prog 390 = some 4 := by kernel_rfl
@[simp] theorem ld392 (i o : Nat) (h : Hp) : loadV Tryz.prog 392 (.ptr i o) h = cellAt h i o := by kernel_rfl
@[simp] theorem st392 (i o : Nat) (v : V) (h : Hp) : storeV Tryz.prog 392 (.ptr i o) v h = br (and (Nat.beq 1 v.cells.length) (v.cells.all V.one)) (writeRow h i o v.cells) none := by kernel_rfl
@[simp] theorem az392 (i : Nat) : alZero Tryz.prog i 392 = some (.ptr i 0, .row [.nilP] false false) := by kernel_rfl
@[simp] theorem ze392 : zeroT Tryz.prog 392 = some .nilP := by kernel_rfl
@[simp] theorem sz392 : szT Tryz.prog 392 = some 1 := by kernel_rfl
@[simp] theorem by392 : bytesT Tryz.prog 392 = some 8 := by kernel_rfl
@[simp] theorem ld395 (i o : Nat) (h : Hp) : loadV Tryz.prog 395 (.ptr i o) h = cellAt h i o := by kernel_rfl
@[simp] theorem st395 (i o : Nat) (v : V) (h : Hp) : storeV Tryz.prog 395 (.ptr i o) v h = br (and (Nat.beq 1 v.cells.length) (v.cells.all V.one)) (writeRow h i o v.cells) none := by kernel_rfl
@[simp] theorem az395 (i : Nat) : alZero Tryz.prog i 395 = some (.ptr i 0, .row [.nilP] false false) := by kernel_rfl
@[simp] theorem ze395 : zeroT Tryz.prog 395 = some .nilP := by kernel_rfl
@[simp] theorem un395 : Tryz.prog.underlying 395 = some (.pointer 252) := by kernel_rfl
@[simp] theorem sz395 : szT Tryz.prog 395 = some 1 := by kernel_rfl
@[simp] theorem by395 : bytesT Tryz.prog 395 = some 8 := by kernel_rfl
@[simp] theorem ld396 (i o : Nat) (h : Hp) : loadV Tryz.prog 396 (.ptr i o) h = cellAt h i o := by kernel_rfl
@[simp] theorem st396 (i o : Nat) (v : V) (h : Hp) : storeV Tryz.prog 396 (.ptr i o) v h = br (and (Nat.beq 1 v.cells.length) (v.cells.all V.one)) (writeRow h i o v.cells) none := by kernel_rfl
@[simp] theorem sz396 : szT Tryz.prog 396 = some 1 := by kernel_rfl
@[simp] theorem by396 : bytesT Tryz.prog 396 = some 0 := by kernel_rfl
@[simp] theorem ld399 (i o : Nat) (h : Hp) : loadV Tryz.prog 399 (.ptr i o) h = cellAt h i o := by kernel_rfl
@[simp] theorem st399 (i o : Nat) (v : V) (h : Hp) : storeV Tryz.prog 399 (.ptr i o) v h = br (and (Nat.beq 1 v.cells.length) (v.cells.all V.one)) (writeRow h i o v.cells) none := by kernel_rfl
@[simp] theorem az399 (i : Nat) : alZero Tryz.prog i 399 = some (.ptr i 0, .row [.nilS] false false) := by kernel_rfl
@[simp] theorem ze399 : zeroT Tryz.prog 399 = some .nilS := by kernel_rfl
@[simp] theorem un399 : Tryz.prog.underlying 399 = some (.slice 184) := by kernel_rfl
@[simp] theorem sz399 : szT Tryz.prog 399 = some 1 := by kernel_rfl
@[simp] theorem by399 : bytesT Tryz.prog 399 = some 24 := by kernel_rfl
@[simp] theorem ld401 (i o : Nat) (h : Hp) : loadV Tryz.prog 401 (.ptr i o) h = (rowAt h i o 4).map .agg := by kernel_rfl
@[simp] theorem st401 (i o : Nat) (v : V) (h : Hp) : storeV Tryz.prog 401 (.ptr i o) v h = br (and (Nat.beq 4 v.cells.length) (v.cells.all V.one)) (writeRow h i o v.cells) none := by kernel_rfl
@[simp] theorem az401 (i : Nat) : alZero Tryz.prog i 401 = some (.ptr i 0, .row [.nilS, .nilS, .nilS, .nilS] false false) := by kernel_rfl
@[simp] theorem ze401 : zeroT Tryz.prog 401 = some (.agg [.nilS, .nilS, .nilS, .nilS]) := by kernel_rfl
@[simp] theorem fo401_0 : fOff Tryz.prog 401 0 = some 0 := by kernel_rfl
@[simp] theorem fp401_0 : fPl Tryz.prog 401 0 = some (.cell 0) := by kernel_rfl
@[simp] theorem fo401_1 : fOff Tryz.prog 401 1 = some 1 := by kernel_rfl
@[simp] theorem fp401_1 : fPl Tryz.prog 401 1 = some (.cell 1) := by kernel_rfl
@[simp] theorem fo401_2 : fOff Tryz.prog 401 2 = some 2 := by kernel_rfl
@[simp] theorem fp401_2 : fPl Tryz.prog 401 2 = some (.cell 2) := by kernel_rfl
@[simp] theorem fo401_3 : fOff Tryz.prog 401 3 = some 3 := by kernel_rfl
@[simp] theorem fp401_3 : fPl Tryz.prog 401 3 = some (.cell 3) := by kernel_rfl
theorem pl401 : plT Tryz.prog 401 = some [(0, 1), (1, 1), (2, 1), (3, 1)] := by kernel_rfl
@[simp] theorem bd401 (parts : List (Nat × V)) : buildV Tryz.prog 401 parts = (fillL [(0, 1), (1, 1), (2, 1), (3, 1)] [.nilS, .nilS, .nilS, .nilS] parts).map .agg := buildV_eq pl401 ze401 rfl parts
@[simp] theorem sz401 : szT Tryz.prog 401 = some 4 := by kernel_rfl
@[simp] theorem by401 : bytesT Tryz.prog 401 = some 96 := by kernel_rfl
@[simp] theorem ld405 (i o : Nat) (h : Hp) : loadV Tryz.prog 405 (.ptr i o) h = cellAt h i o := by kernel_rfl
@[simp] theorem st405 (i o : Nat) (v : V) (h : Hp) : storeV Tryz.prog 405 (.ptr i o) v h = br (and (Nat.beq 1 v.cells.length) (v.cells.all V.one)) (writeRow h i o v.cells) none := by kernel_rfl
@[simp] theorem az405 (i : Nat) : alZero Tryz.prog i 405 = some (.ptr i 0, .row [(.int .u64 0)] false false) := by kernel_rfl
@[simp] theorem ze405 : zeroT Tryz.prog 405 = some (.int .u64 0) := by kernel_rfl
@[simp] theorem un405 : Tryz.prog.underlying 405 = some (.int .u64) := by kernel_rfl
@[simp] theorem sz405 : szT Tryz.prog 405 = some 1 := by kernel_rfl
@[simp] theorem by405 : bytesT Tryz.prog 405 = some 8 := by kernel_rfl
@[simp] theorem ld410 (i o : Nat) (h : Hp) : loadV Tryz.prog 410 (.ptr i o) h = (rowAt h i o 24).map .agg := by kernel_rfl
@[simp] theorem st410 (i o : Nat) (v : V) (h : Hp) : storeV Tryz.prog 410 (.ptr i o) v h = br (and (Nat.beq 24 v.cells.length) (v.cells.all V.one)) (writeRow h i o v.cells) none := by kernel_rfl
@[simp] theorem az410 (i : Nat) : alZero Tryz.prog i 410 = some (.ptr i 0, .row [(.int .u8 0), (.int .u8 0), (.int .u8 0), (.int .u8 0), (.int .u8 0), (.int .u8 0), (.int .u8 0), (.int .u8 0), (.int .u8 0), (.int .u8 0), (.int .u8 0), (.int .u8 0), (.int .u8 0), (.int .u8 0), (.int .u8 0), (.int .u8 0), (.int .u8 0), (.int .u8 0), (.int .u8 0), (.int .u8 0), (.int .u8 0), (.int .u8 0), (.int .u8 0), (.int .u8 0)] false false) := by kernel_rfl
@[simp] theorem ze410 : zeroT Tryz.prog 410 = some (.agg [(.int .u8 0), (.int .u8 0), (.int .u8 0), (.int .u8 0), (.int .u8 0), (.int .u8 0), (.int .u8 0), (.int .u8 0), (.int .u8 0), (.int .u8 0), (.int .u8 0), (.int .u8 0), (.int .u8 0), (.int .u8 0), (.int .u8 0), (.int .u8 0), (.int .u8 0), (.int .u8 0), (.int .u8 0), (.int .u8 0), (.int .u8 0), (.int .u8 0), (.int .u8 0), (.int .u8 0)]) := by kernel_rfl
@[simp] theorem un410 : Tryz.prog.underlying 410 = some (.array 24 5) := by kernel_rfl
@[simp] theorem sz410 : szT Tryz.prog 410 = some 24 := by kernel_rfl
@[simp] theorem by410 : bytesT Tryz.prog 410 = some 24 := by kernel_rfl
@[simp] theorem ld412 (i o : Nat) (h : Hp) : loadV Tryz.prog 412 (.ptr i o) h = cellAt h i o := by kernel_rfl
@[simp] theorem st412 (i o : Nat) (v : V) (h : Hp) : storeV Tryz.prog 412 (.ptr i o) v h = br (and (Nat.beq 1 v.cells.length) (v.cells.all V.one)) (writeRow h i o v.cells) none := by kernel_rfl
@[simp] theorem sz412 : szT Tryz.prog 412 = some 1 := by kernel_rfl
@[simp] theorem by412 : bytesT Tryz.prog 412 = some 0 := by kernel_rfl
@[simp] theorem ld419 (i o : Nat) (h : Hp) : loadV Tryz.prog 419 (.ptr i o) h = cellAt h i o := by kernel_rfl
@[simp] theorem st419 (i o : Nat) (v : V) (h : Hp) : storeV Tryz.prog 419 (.ptr i o) v h = br (and (Nat.beq 1 v.cells.length) (v.cells.all V.one)) (writeRow h i o v.cells) none := by kernel_rfl
@[simp] theorem az419 (i : Nat) : alZero Tryz.prog i 419 = some (.ptr i 0, .row [.nilP] false false) := by kernel_rfl
@[simp] theorem ze419 : zeroT Tryz.prog 419 = some .nilP := by kernel_rfl
@[simp] theorem un419 : Tryz.prog.underlying 419 = some (.pointer 405) := by kernel_rfl
@[simp] theorem sz419 : szT Tryz.prog 419 = some 1 := by kernel_rfl
@[simp] theorem by419 : bytesT Tryz.prog 419 = some 8 := by kernel_rfl
@[simp] theorem ld420 (i o : Nat) (h : Hp) : loadV Tryz.prog 420 (.ptr i o) h = cellAt h i o := by kernel_rfl
@[simp] theorem st420 (i o : Nat) (v : V) (h : Hp) : storeV Tryz.prog 420 (.ptr i o) v h = br (and (Nat.beq 1 v.cells.length) (v.cells.all V.one)) (writeRow h i o v.cells) none := by kernel_rfl
@[simp] theorem sz420 : szT Tryz.prog 420 = some 1 := by kernel_rfl
@[simp] theorem by420 : bytesT Tryz.prog 420 = some 0 := by kernel_rfl
@[simp] theorem ld423 (i o : Nat) (h : Hp) : loadV Tryz.prog 423 (.ptr i o) h = (rowAt h i o 20).map .agg := by kernel_rfl
@[simp] theorem st423 (i o : Nat) (v : V) (h : Hp) : storeV Tryz.prog 423 (.ptr i o) v h = br (and (Nat.beq 20 v.cells.length) (v.cells.all V.one)) (writeRow h i o v.cells) none := by kernel_rfl
@[simp] theorem az423 (i : Nat) : alZero Tryz.prog i 423 = some (.ptr i 0, .row [(.int .u64 0), (.int .u64 0), (.int .u64 0), (.int .u64 0), (.int .u64 0), (.int .u64 0), (.int .u64 0), (.int .u64 0), (.int .u64 0), (.int .u64 0), (.int .u64 0), (.int .u64 0), (.int .u64 0), (.int .u64 0), (.int .u64 0), (.int .u64 0), (.int .u64 0), (.int .u64 0), (.int .u64 0), (.int .u64 0)] false false) := by kernel_rfl
@[simp] theorem ze423 : zeroT Tryz.prog 423 = some (.agg [(.int .u64 0), (.int .u64 0), (.int .u64 0), (.int .u64 0), (.int .u64 0), (.int .u64 0), (.int .u64 0), (.int .u64 0), (.int .u64 0), (.int .u64 0), (.int .u64 0), (.int .u64 0), (.int .u64 0), (.int .u64 0), (.int .u64 0), (.int .u64 0), (.int .u64 0), (.int .u64 0), (.int .u64 0), (.int .u64 0)]) := by kernel_rfl
@[simp] theorem un423 : Tryz.prog.underlying 423 = some (.array 20 389) := by kernel_rfl
@[simp] theorem sz423 : szT Tryz.prog 423 = some 20 := by kernel_rfl
@[simp] theorem by423 : bytesT Tryz.prog 423 = some 160 := by kernel_rfl
@[simp] theorem ld424 (i o : Nat) (h : Hp) : loadV Tryz.prog 424 (.ptr i o) h = (rowAt h i o 65).map .agg := by kernel_rfl
@[simp] theorem st424 (i o : Nat) (v : V) (h : Hp) : storeV Tryz.prog 424 (.ptr i o) v h = br (and (Nat.beq 65 v.cells.length) (v.cells.all V.one)) (writeRow h i o v.cells) none := by kernel_rfl
@[simp] theorem az424 (i : Nat) : alZero Tryz.prog i 424 = some (.ptr i 0, .row [(.int .u8 0), (.int .u8 0), (.int .u8 0), (.int .u8 0), (.int .u8 0), (.int .u8 0), (.int .u8 0), (.int .u8 0), (.int .u8 0), (.int .u8 0), (.int .u8 0), (.int .u8 0), (.int .u8 0), (.int .u8 0), (.int .u8 0), (.int .u8 0), (.int .u8 0), (.int .u8 0), (.int .u8 0), (.int .u8 0), (.int .u8 0), (.int .u8 0), (.int .u8 0), (.int .u8 0), (.int .u8 0), (.int .u8 0), (.int .u8 0), (.int .u8 0), (.int .u8 0), (.int .u8 0), (.int .u8 0), (.int .u8 0), (.int .u8 0), (.int .u8 0), (.int .u8 0), (.int .u8 0), (.int .u8 0), (.int .u8 0), (.int .u8 0), (.int .u8 0), (.int .u8 0), (.int .u8 0), (.int .u8 0), (.int .u8 0), (.int .u8 0), (.int .u8 0), (.int .u8 0), (.int .u8 0), (.int .u8 0), (.int .u8 0), (.int .u8 0), (.int .u8 0), (.int .u8 0), (.int .u8 0), (.int .u8 0), (.int .u8 0), (.int .u8 0), (.int .u8 0), (.int .u8 0), (.int .u8 0), (.int .u8 0), (.int .u8 0), (.int .u8 0), (.int .u8 0), (.int .u8 0)] false false) := by kernel_rfl
@[simp] theorem ze424 : zeroT Tryz.prog 424 = some (.agg [(.int .u8 0), (.int .u8 0), (.int .u8 0), (.int .u8 0), (.int .u8 0), (.int .u8 0), (.int .u8 0), (.int .u8 0), (.int .u8 0), (.int .u8 0), (.int .u8 0), (.int .u8 0), (.int .u8 0), (.int .u8 0), (.int .u8 0), (.int .u8 0), (.int .u8 0), (.int .u8 0), (.int .u8 0), (.int .u8 0), (.int .u8 0), (.int .u8 0), (.int .u8 0), (.int .u8 0), (.int .u8 0), (.int .u8 0), (.int .u8 0), (.int .u8 0), (.int .u8 0), (.int .u8 0), (.int .u8 0), (.int .u8 0), (.int .u8 0), (.int .u8 0), (.int .u8 0), (.int .u8 0), (.int .u8 0), (.int .u8 0), (.int .u8 0), (.int .u8 0), (.int .u8 0), (.int .u8 0), (.int .u8 0), (.int .u8 0), (.int .u8 0), (.int .u8 0), (.int .u8 0), (.int .u8 0), (.int .u8 0), (.int .u8 0), (.int .u8 0), (.int .u8 0), (.int .u8 0), (.int .u8 0), (.int .u8 0), (.int .u8 0), (.int .u8 0), (.int .u8 0), (.int .u8 0), (.int .u8 0), (.int .u8 0), (.int .u8 0), (.int .u8 0), (.int .u8 0), (.int .u8 0)]) := by kernel_rfl
@[simp] theorem un424 : Tryz.prog.underlying 424 = some (.array 65 5) := by kernel_rfl
@[simp] theorem sz424 : szT Tryz.prog 424 = some 65 := by kernel_rfl
@[simp] theorem by424 : bytesT Tryz.prog 424 = some 65 := by kernel_rfl
@[simp] theorem ld428 (i o : Nat) (h : Hp) : loadV Tryz.prog 428 (.ptr i o) h = (rowAt h i o 32).map .agg := by kernel_rfl
@[simp] theorem st428 (i o : Nat) (v : V) (h : Hp) : storeV Tryz.prog 428 (.ptr i o) v h = br (and (Nat.beq 32 v.cells.length) (v.cells.all V.one)) (writeRow h i o v.cells) none := by kernel_rfl
@[simp] theorem az428 (i : Nat) : alZero Tryz.prog i 428 = some (.ptr i 0, .row [(.int .u8 0), (.int .u8 0), (.int .u8 0), (.int .u8 0), (.int .u8 0), (.int .u8 0), (.int .u8 0), (.int .u8 0), (.int .u8 0), (.int .u8 0), (.int .u8 0), (.int .u8 0), (.int .u8 0), (.int .u8 0), (.int .u8 0), (.int .u8 0), (.int .u8 0), (.int .u8 0), (.int .u8 0), (.int .u8 0), (.int .u8 0), (.int .u8 0), (.int .u8 0), (.int .u8 0), (.int .u8 0), (.int .u8 0), (.int .u8 0), (.int .u8 0), (.int .u8 0), (.int .u8 0), (.int .u8 0), (.int .u8 0)] false false) := by kernel_rfl
@[simp] theorem ze428 : zeroT Tryz.prog 428 = some (.agg [(.int .u8 0), (.int .u8 0), (.int .u8 0), (.int .u8 0), (.int .u8 0), (.int .u8 0), (.int .u8 0), (.int .u8 0), (.int .u8 0), (.int .u8 0), (.int .u8 0), (.int .u8 0), (.int .u8 0), (.int .u8 0), (.int .u8 0), (.int .u8 0), (.int .u8 0), (.int .u8 0), (.int .u8 0), (.int .u8 0), (.int .u8 0), (.int .u8 0), (.int .u8 0), (.int .u8 0), (.int .u8 0), (.int .u8 0), (.int .u8 0), (.int .u8 0), (.int .u8 0), (.int .u8 0), (.int .u8 0), (.int .u8 0)]) := by kernel_rfl
@[simp] theorem un428 : Tryz.prog.underlying 428 = some (.array 32 5) := by kernel_rfl
@[simp] theorem sz428 : szT Tryz.prog 428 = some 32 := by kernel_rfl
@[simp] theorem by428 : bytesT Tryz.prog 428 = some 32 := by kernel_rfl
@[simp] theorem ld429 (i o : Nat) (h : Hp) : loadV Tryz.prog 429 (.ptr i o) h = (rowAt h i o 64).map .agg := by kernel_rfl
@[simp] theorem st429 (i o : Nat) (v : V) (h : Hp) : storeV Tryz.prog 429 (.ptr i o) v h = br (and (Nat.beq 64 v.cells.length) (v.cells.all V.one)) (writeRow h i o v.cells) none := by kernel_rfl
@[simp] theorem az429 (i : Nat) : alZero Tryz.prog i 429 = some (.ptr i 0, .row [(.int .u8 0), (.int .u8 0), (.int .u8 0), (.int .u8 0), (.int .u8 0), (.int .u8 0), (.int .u8 0), (.int .u8 0), (.int .u8 0), (.int .u8 0), (.int .u8 0), (.int .u8 0), (.int .u8 0), (.int .u8 0), (.int .u8 0), (.int .u8 0), (.int .u8 0), (.int .u8 0), (.int .u8 0), (.int .u8 0), (.int .u8 0), (.int .u8 0), (.int .u8 0), (.int .u8 0), (.int .u8 0), (.int .u8 0), (.int .u8 0), (.int .u8 0), (.int .u8 0), (.int .u8 0), (.int .u8 0), (.int .u8 0), (.int .u8 0), (.int .u8 0), (.int .u8 0), (.int .u8 0), (.int .u8 0), (.int .u8 0), (.int .u8 0), (.int .u8 0), (.int .u8 0), (.int .u8 0), (.int .u8 0), (.int .u8 0), (.int .u8 0), (.int .u8 0), (.int .u8 0), (.int .u8 0), (.int .u8 0), (.int .u8 0), (.int .u8 0), (.int .u8 0), (.int .u8 0), (.int .u8 0), (.int .u8 0), (.int .u8 0), (.int .u8 0), (.int .u8 0), (.int .u8 0), (.int .u8 0), (.int .u8 0), (.int .u8 0), (.int .u8 0), (.int .u8 0)] false false) := by kernel_rfl
@[simp] theorem ze429 : zeroT Tryz.prog 429 = some (.agg [(.int .u8 0), (.int .u8 0), (.int .u8 0), (.int .u8 0), (.int .u8 0), (.int .u8 0), (.int .u8 0), (.int .u8 0), (.int .u8 0), (.int .u8 0), (.int .u8 0), (.int .u8 0), (.int .u8 0), (.int .u8 0), (.int .u8 0), (.int .u8 0), (.int .u8 0), (.int .u8 0), (.int .u8 0), (.int .u8 0), (.int .u8 0), (.int .u8 0), (.int .u8 0), (.int .u8 0), (.int .u8 0), (.int .u8 0), (.int .u8 0), (.int .u8 0), (.int .u8 0), (.int .u8 0), (.int .u8 0), (.int .u8 0), (.int .u8 0), (.int .u8 0), (.int .u8 0), (.int .u8 0), (.int .u8 0), (.int .u8 0), (.int .u8 0), (.int .u8 0), (.int .u8 0), (.int .u8 0), (.int .u8 0), (.int .u8 0), (.int .u8 0), (.int .u8 0), (.int .u8 0), (.int .u8 0), (.int .u8 0), (.int .u8 0), (.int .u8 0), (.int .u8 0), (.int .u8 0), (.int .u8 0), (.int .u8 0), (.int .u8 0), (.int .u8 0), (.int .u8 0), (.int .u8 0), (.int .u8 0), (.int .u8 0), (.int .u8 0), (.int .u8 0), (.int .u8 0)]) := by kernel_rfl
@[simp] theorem un429 : Tryz.prog.underlying 429 = some (.array 64 5) := by kernel_rfl
@[simp] theorem sz429 : szT Tryz.prog 429 = some 64 := by kernel_rfl
@[simp] theorem by429 : bytesT Tryz.prog 429 = some 64 := by kernel_rfl
@[simp] theorem ld431 (i o : Nat) (h : Hp) : loadV Tryz.prog 431 (.ptr i o) h = (rowAt h i o 4).map .agg := by kernel_rfl
@[simp] theorem st431 (i o : Nat) (v : V) (h : Hp) : storeV Tryz.prog 431 (.ptr i o) v h = br (and (Nat.beq 4 v.cells.length) (v.cells.all V.one)) (writeRow h i o v.cells) none := by kernel_rfl
@[simp] theorem az431 (i : Nat) : alZero Tryz.prog i 431 = some (.ptr i 0, .row [.nilP, .nilP, .nilP, (.str [])] false false) := by kernel_rfl
@[simp] theorem ze431 : zeroT Tryz.prog 431 = some (.agg [.nilP, .nilP, .nilP, (.str [])]) := by kernel_rfl
@[simp] theorem fo431_0 : fOff Tryz.prog 431 0 = some 0 := by kernel_rfl
@[simp] theorem fp431_0 : fPl Tryz.prog 431 0 = some (.cell 0) := by kernel_rfl
@[simp] theorem fo431_1 : fOff Tryz.prog 431 1 = some 1 := by kernel_rfl
@[simp] theorem fp431_1 : fPl Tryz.prog 431 1 = some (.cell 1) := by kernel_rfl
@[simp] theorem fo431_2 : fOff Tryz.prog 431 2 = some 2 := by kernel_rfl
@[simp] theorem fp431_2 : fPl Tryz.prog 431 2 = some (.cell 2) := by kernel_rfl
@[simp] theorem fo431_3 : fOff Tryz.prog 431 3 = some 3 := by kernel_rfl
@[simp] theorem fp431_3 : fPl Tryz.prog 431 3 = some (.cell 3) := by kernel_rfl
theorem pl431 : plT Tryz.prog 431 = some [(0, 1), (1, 1), (2, 1), (3, 1)] := by kernel_rfl
@[simp] theorem bd431 (parts : List (Nat × V)) : buildV Tryz.prog 431 parts = (fillL [(0, 1), (1, 1), (2, 1), (3, 1)] [.nilP, .nilP, .nilP, (.str [])] parts).map .agg := buildV_eq pl431 ze431 rfl parts
@[simp] theorem sz431 : szT Tryz.prog 431 = some 4 := by kernel_rfl
@[simp] theorem by431 : bytesT Tryz.prog 431 = some 40 := by kernel_rfl
@[simp] theorem ld432 (i o : Nat) (h : Hp) : loadV Tryz.prog 432 (.ptr i o) h = (rowAt h i o 0).map .agg := by kernel_rfl
@[simp] theorem st432 (i o : Nat) (v : V) (h : Hp) : storeV Tryz.prog 432 (.ptr i o) v h = br (and (Nat.beq 0 v.cells.length) (v.cells.all V.one)) (writeRow h i o v.cells) none := by kernel_rfl
@[simp] theorem az432 (i : Nat) : alZero Tryz.prog i 432 = some (.ptr i 0, .row [] false false) := by kernel_rfl
@[simp] theorem ze432 : zeroT Tryz.prog 432 = some (.agg []) := by kernel_rfl
@[simp] theorem un432 : Tryz.prog.underlying 432 = some (.array 0 16) := by kernel_rfl
@[simp] theorem sz432 : szT Tryz.prog 432 = some 0 := by kernel_rfl
@[simp] theorem by432 : bytesT Tryz.prog 432 = some 0 := by kernel_rfl
@[simp] theorem ld434 (i o : Nat) (h : Hp) : loadV Tryz.prog 434 (.ptr i o) h = (rowAt h i o 0).map .agg := by kernel_rfl
@[simp] theorem st434 (i o : Nat) (v : V) (h : Hp) : storeV Tryz.prog 434 (.ptr i o) v h = br (and (Nat.beq 0 v.cells.length) (v.cells.all V.one)) (writeRow h i o v.cells) none := by kernel_rfl
@[simp] theorem az434 (i : Nat) : alZero Tryz.prog i 434 = some (.ptr i 0, .row [] false false) := by kernel_rfl
@[simp] theorem ze434 : zeroT Tryz.prog 434 = some (.agg []) := by kernel_rfl
@[simp] theorem fp434_0 : fPl Tryz.prog 434 0 = some (.many 0 0) := by kernel_rfl
theorem pl434 : plT Tryz.prog 434 = some [(0, 0)] := by kernel_rfl
@[simp] theorem bd434 (parts : List (Nat × V)) : buildV Tryz.prog 434 parts = (fillL [(0, 0)] [] parts).map .agg := buildV_eq pl434 ze434 rfl parts
@[simp] theorem sz434 : szT Tryz.prog 434 = some 0 := by kernel_rfl
@[simp] theorem by434 : bytesT Tryz.prog 434 = some 0 := by kernel_rfl
@[simp] theorem ld435 (i o : Nat) (h : Hp) : loadV Tryz.prog 435 (.ptr i o) h = cellAt h i o := by kernel_rfl
@[simp] theorem st435 (i o : Nat) (v : V) (h : Hp) : storeV Tryz.prog 435 (.ptr i o) v h = br (and (Nat.beq 1 v.cells.length) (v.cells.all V.one)) (writeRow h i o v.cells) none := by kernel_rfl
@[simp] theorem az435 (i : Nat) : alZero Tryz.prog i 435 = some (.ptr i 0, .row [(.int .u8 0)] false false) := by kernel_rfl
@[simp] theorem ze435 : zeroT Tryz.prog 435 = some (.int .u8 0) := by kernel_rfl
@[simp] theorem un435 : Tryz.prog.underlying 435 = some (.int .u8) := by kernel_rfl
@[simp] theorem sz435 : szT Tryz.prog 435 = some 1 := by kernel_rfl
@[simp] theorem by435 : bytesT Tryz.prog 435 = some 1 := by kernel_rfl
@[simp] theorem ld436 (i o : Nat) (h : Hp) : loadV Tryz.prog 436 (.ptr i o) h = cellAt h i o := by kernel_rfl
@[simp] theorem st436 (i o : Nat) (v : V) (h : Hp) : storeV Tryz.prog 436 (.ptr i o) v h = br (and (Nat.beq 1 v.cells.length) (v.cells.all V.one)) (writeRow h i o v.cells) none := by kernel_rfl
@[simp] theorem az436 (i : Nat) : alZero Tryz.prog i 436 = some (.ptr i 0, .row [(.int .u8 0)] false false) := by kernel_rfl
@[simp] theorem ze436 : zeroT Tryz.prog 436 = some (.int .u8 0) := by kernel_rfl
@[simp] theorem un436 : Tryz.prog.underlying 436 = some (.int .u8) := by kernel_rfl
@[simp] theorem sz436 : szT Tryz.prog 436 = some 1 := by kernel_rfl
@[simp] theorem by436 : bytesT Tryz.prog 436 = some 1 := by kernel_rfl
@[simp] theorem ld437 (i o : Nat) (h : Hp) : loadV Tryz.prog 437 (.ptr i o) h = cellAt h i o := by kernel_rfl
@[simp] theorem st437 (i o : Nat) (v : V) (h : Hp) : storeV Tryz.prog 437 (.ptr i o) v h = br (and (Nat.beq 1 v.cells.length) (v.cells.all V.one)) (writeRow h i o v.cells) none := by kernel_rfl
@[simp] theorem az437 (i : Nat) : alZero Tryz.prog i 437 = some (.ptr i 0, .row [.nilF] false false) := by kernel_rfl
@[simp] theorem ze437 : zeroT Tryz.prog 437 = some .nilF := by kernel_rfl
@[simp] theorem sz437 : szT Tryz.prog 437 = some 1 := by kernel_rfl
@[simp] theorem by437 : bytesT Tryz.prog 437 = some 8 := by kernel_rfl
@[simp] theorem ld438 (i o : Nat) (h : Hp) : loadV Tryz.prog 438 (.ptr i o) h = cellAt h i o := by kernel_rfl
@[simp] theorem st438 (i o : Nat) (v : V) (h : Hp) : storeV Tryz.prog 438 (.ptr i o) v h = br (and (Nat.beq 1 v.cells.length) (v.cells.all V.one)) (writeRow h i o v.cells) none := by kernel_rfl
@[simp] theorem az438 (i : Nat) : alZero Tryz.prog i 438 = some (.ptr i 0, .row [(.int .i32 0)] false false) := by kernel_rfl
@[simp] theorem ze438 : zeroT Tryz.prog 438 = some (.int .i32 0) := by kernel_rfl
@[simp] theorem un438 : Tryz.prog.underlying 438 = some (.int .i32) := by kernel_rfl
@[simp] theorem sz438 : szT Tryz.prog 438 = some 1 := by kernel_rfl
@[simp] theorem by438 : bytesT Tryz.prog 438 = some 4 := by kernel_rfl
@[simp] theorem ld439 (i o : Nat) (h : Hp) : loadV Tryz.prog 439 (.ptr i o) h = cellAt h i o := by kernel_rfl
@[simp] theorem st439 (i o : Nat) (v : V) (h : Hp) : storeV Tryz.prog 439 (.ptr i o) v h = br (and (Nat.beq 1 v.cells.length) (v.cells.all V.one)) (writeRow h i o v.cells) none := by kernel_rfl
@[simp] theorem az439 (i : Nat) : alZero Tryz.prog i 439 = some (.ptr i 0, .row [(.int .i32 0)] false false) := by kernel_rfl
@[simp] theorem ze439 : zeroT Tryz.prog 439 = some (.int .i32 0) := by kernel_rfl
@[simp] theorem un439 : Tryz.prog.underlying 439 = some (.int .i32) := by kernel_rfl
@[simp] theorem sz439 : szT Tryz.prog 439 = some 1 := by kernel_rfl
@[simp] theorem by439 : bytesT Tryz.prog 439 = some 4 := by kernel_rfl
@[simp] theorem ld441 (i o : Nat) (h : Hp) : loadV Tryz.prog 441 (.ptr i o) h = (rowAt h i o 11).map .agg := by kernel_rfl
@[simp] theorem st441 (i o : Nat) (v : V) (h : Hp) : storeV Tryz.prog 441 (.ptr i o) v h = br (and (Nat.beq 11 v.cells.length) (v.cells.all V.one)) (writeRow h i o v.cells) none := by kernel_rfl
@[simp] theorem az441 (i : Nat) : alZero Tryz.prog i 441 = some (.ptr i 0, .row [(.int .u64 0), (.int .u64 0), (.int .u32 0), (.int .u8 0), (.int .u8 0), (.int .u8 0), (.int .u8 0), .nilF, .nilP, (.int .i32 0), (.int .i32 0)] false false) := by kernel_rfl
@[simp] theorem ze441 : zeroT Tryz.prog 441 = some (.agg [(.int .u64 0), (.int .u64 0), (.int .u32 0), (.int .u8 0), (.int .u8 0), (.int .u8 0), (.int .u8 0), .nilF, .nilP, (.int .i32 0), (.int .i32 0)]) := by kernel_rfl
@[simp] theorem fo441_0 : fOff Tryz.prog 441 0 = some 0 := by kernel_rfl
@[simp] theorem fp441_0 : fPl Tryz.prog 441 0 = some (.cell 0) := by kernel_rfl
@[simp] theorem fo441_1 : fOff Tryz.prog 441 1 = some 1 := by kernel_rfl
@[simp] theorem fp441_1 : fPl Tryz.prog 441 1 = some (.cell 1) := by kernel_rfl
@[simp] theorem fo441_2 : fOff Tryz.prog 441 2 = some 2 := by kernel_rfl
@[simp] theorem fp441_2 : fPl Tryz.prog 441 2 = some (.cell 2) := by kernel_rfl
@[simp] theorem fo441_3 : fOff Tryz.prog 441 3 = some 3 := by kernel_rfl
@[simp] theorem fp441_3 : fPl Tryz.prog 441 3 = some (.cell 3) := by kernel_rfl
@[simp] theorem fo441_4 : fOff Tryz.prog 441 4 = some 4 := by kernel_rfl
@[simp] theorem fp441_4 : fPl Tryz.prog 441 4 = some (.cell 4) := by kernel_rfl
@[simp] theorem fo441_5 : fOff Tryz.prog 441 5 = some 5 := by kernel_rfl
@[simp] theorem fp441_5 : fPl Tryz.prog 441 5 = some (.cell 5) := by kernel_rfl
@[simp] theorem fo441_6 : fOff Tryz.prog 441 6 = some 6 := by kernel_rfl
@[simp] theorem fp441_6 : fPl Tryz.prog 441 6 = some (.cell 6) := by kernel_rfl
@[simp] theorem fo441_7 : fOff Tryz.prog 441 7 = some 7 := by kernel_rfl
@[simp] theorem fp441_7 : fPl Tryz.prog 441 7 = some (.cell 7) := by kernel_rfl
@[simp] theorem fo441_8 : fOff Tryz.prog 441 8 = some 8 := by kernel_rfl
@[simp] theorem fp441_8 : fPl Tryz.prog 441 8 = some (.cell 8) := by kernel_rfl
@[simp] theorem fo441_9 : fOff Tryz.prog 441 9 = some 9 := by kernel_rfl
@[simp] theorem fp441_9 : fPl Tryz.prog 441 9 = some (.cell 9) := by kernel_rfl
@[simp] theorem fo441_10 : fOff Tryz.prog 441 10 = some 10 := by kernel_rfl
@[simp] theorem fp441_10 : fPl Tryz.prog 441 10 = some (.cell 10) := by kernel_rfl
theorem pl441 : plT Tryz.prog 441 = some [(0, 1), (1, 1), (2, 1), (3, 1), (4, 1), (5, 1), (6, 1), (7, 1), (8, 1), (9, 1), (10, 1)] := by kernel_rfl
@[simp] theorem bd441 (parts : List (Nat × V)) : buildV Tryz.prog 441 parts = (fillL [(0, 1), (1, 1), (2, 1), (3, 1), (4, 1), (5, 1), (6, 1), (7, 1), (8, 1), (9, 1), (10, 1)] [(.int .u64 0), (.int .u64 0), (.int .u32 0), (.int .u8 0), (.int .u8 0), (.int .u8 0), (.int .u8 0), .nilF, .nilP, (.int .i32 0), (.int .i32 0)] parts).map .agg := buildV_eq pl441 ze441 rfl parts
@[simp] theorem sz441 : szT Tryz.prog 441 = some 11 := by kernel_rfl
@[simp] theorem by441 : bytesT Tryz.prog 441 = some 48 := by kernel_rfl
end Go.Ev.Nil
