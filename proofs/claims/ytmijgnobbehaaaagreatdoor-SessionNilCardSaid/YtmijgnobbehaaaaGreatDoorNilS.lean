/- Part of the proof that SessionNil answers true for every input. -/
import Derived.Test.YtmijgnobbehaaaaGreatDoorEvC
import Derived.Test.YtmijgnobbehaaaaGreatDoorProg
set_option linter.all false
set_option linter.unusedVariables false
set_option linter.unusedSimpArgs false
section
namespace Go.Ev.Nil
def twoSpots (h : Hp) (e : ME) : Bool :=
  match e.v with
  | .ptr id off => match h.get id with
    | some (.row cs _ _) => match cs[off + 1]? with
      | some (.slice _ _ _ 2 _) => true
      | _ => false
    | _ => false
  | _ => false
def bornOk (hi : Nat) : Nat → List ME → Bool
  | _, [] => true
  | lo, e :: l => and (and (Nat.ble lo e.born) (Nat.blt e.born hi)) (bornOk hi (Nat.succ e.born) l)
def twiceV (args : List V) (h : Hp) : Option VRes :=
  match args with
  | [.ptr id off] => match h.get id with
    | some (.row cs _ _) => match cs[off + 1]? with
      | some (.map m) => match h.get m with
        | some (.mapo es clock) => br (and (bornOk clock 0 es) (es.all (twoSpots h))) (some (.ret .undef h)) none
        | _ => none
      | _ => none
    | _ => none
  | _ => none
def strsV : List V → Option (List (List UInt8))
  | [] => some []
  | .str s :: l => match strsV l with
    | some r => some (s :: r)
    | none => none
  | _ => none
def joinL (sep : List UInt8) : List (List UInt8) → List UInt8
  | [] => []
  | [x] => x
  | x :: l => x ++ sep ++ joinL sep l
def joinV (args : List V) (h : Hp) : Option VRes :=
  match args with
  | [.slice id off 1 len _, .str sep] => match rowAt h id off len with
    | some cs => match strsV cs with
      | some l => br (and (Nat.ble len 65536) (Nat.ble (joinL sep l).length 1048576)) (some (.ret (.str (joinL sep l)) h)) none
      | none => none
    | none => none
  | _ => none
def sums (ftwice fjoin : Nat) : Sums := fun f args h => br (Nat.beq f ftwice) (twiceV args h) (br (Nat.beq f fjoin) (joinV args h) none)
end Go.Ev.Nil
end
section
namespace Go.Ev.Nil
open Go.Proofs
set_option maxRecDepth 100000
theorem funcsOk : funcsOkB Tryz.prog.funcs.toList = true := by kernel_rfl
theorem ok : ProgOk Tryz.prog := progOk funcsOk (by kernel_rfl)
end Go.Ev.Nil
end
