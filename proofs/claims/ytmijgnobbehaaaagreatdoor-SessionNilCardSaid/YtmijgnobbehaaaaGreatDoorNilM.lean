/- Part of the proof that SessionNil answers true for every input. -/
import Derived.Test.YtmijgnobbehaaaaGreatDoorProg
import Derived.WalkKit
import Derived.WalkSpells
import Derived.WalkLawsBesides
import Derived.LoopTactic
import Derived.LoopN
import Derived.Laws.IdiomRangeMap
import Derived.Maps.RangeRun
set_option linter.all false
set_option linter.unusedVariables false
set_option linter.unusedSimpArgs false

namespace Go.Proofs.SknNil
open Go.RowKit
theorem next_tape {P : Program} {w w2 : World} {ty : TypeId} {bm clock : Nat} {seen : Array Nat} {es : Array MapEntry} {v : Value} {o : Obj} (hb : w.heap[bm]? = some (.map es clock)) (hold : ∀ x ∈ es.toList, x.born < clock)
    (hrun : (Instr.next (.pointer (some ⟨w.heap.size, 0, none⟩)) false ty).run P (w.alloc (.mapIter (some bm) clock seen clock)) = .ok v (w2.alloc o)) : w2.tape = w.tape := by
  have hlt : bm < w.heap.size := (Array.getElem?_eq_some_iff.1 hb).1
  have law := run_next_at (P := P) (w.alloc (.mapIter (some bm) clock seen clock)) ty w.heap.size bm clock clock seen es clock (heap_alloc_new _ _) (by rw [heap_alloc_old w _ hlt, hb]) hold (Nat.le_refl _)
  rcases law with ⟨-, h⟩ | ⟨e, -, wx, hx, h⟩
  · rw [hrun] at h
    injection h with h1 h2
    have h3 : (w2.alloc o).tape = (w.alloc (.mapIter (some bm) clock seen clock)).tape := congrArg World.tape h2
    exact h3
  · rw [hrun] at h
    injection h with h1 h2
    have h3 : (w2.alloc o).tape = (ChangeMaps.setBlock wx w.heap.size (.mapIter (some bm) clock (seen.push e.born) clock)).tape := congrArg World.tape h2
    refine Eq.trans (b := wx.tape) h3 ?_
    rcases hx with rfl | rfl <;> rfl
set_option maxRecDepth 1000000 in
set_option maxHeartbeats 1000000 in
theorem twice_walk (bb oo bm : Nat) (es : Array MapEntry) (clock : Nat) (w : World) (hcell : w.cell? ⟨bb, oo + 1, none⟩ = some (.map (some bm)))
    (hb : w.heap[bm]? = some (.map es clock)) (hst : (∀ x ∈ es.toList, x.born < clock) ∧ (es.toList.map (·.born)).Nodup)
    (hv : ∀ x ∈ es.toList, ∃ b o a c, x.val = .pointer (some ⟨b, o, none⟩) ∧ w.cell? ⟨b, o + 1, none⟩ = some (.slice a 2 c)) :
    Calls Tryz.prog 121 #[.pointer (some ⟨bb, oo, none⟩)] w fun e w' => e = .returned (.tuple #[]) ∧ ∃ (w1 : World) (seen : Array Nat), w1.Alike w ∧ w1.tape = w.tape ∧ w' = w1.alloc (.mapIter (some bm) clock seen clock) := by
  have hrg := run_range_map (P := Tryz.prog) w 285 9 291 bm es clock Tryz.underlying285 hb
  go_enter Tryz.func121, Tryz.ntmps121
  go_wp2
  go_loopw [2] (fun s w' => ∃ (w1 : World) (seen : Array Nat), w1.Alike w ∧ w1.tape = w.tape ∧ w' = w1.alloc (.mapIter (some bm) clock seen clock) ∧ s = .int .i64 (-1)) (fun _ w' => (leftOf es (w'.iterSeen w.heap.size)).size)
  case atStart => exact ⟨w, #[], ⟨rfl, rfl, rfl⟩, rfl, rfl, rfl⟩
  case round =>
    obtain ⟨w1, seen, hal, htp, rfl, rfl⟩ := hrel
    have hsz : w1.heap.size = w.heap.size := by rw [hal.1]
    have hb1 : w1.heap[bm]? = some (.map es clock) := by rw [hal.1]; exact hb
    have law := run_next_map (P := Tryz.prog) w1 0 bm clock clock seen es clock hb1 hst.1 (Nat.le_refl _)
    rw [hsz] at law
    rcases law with ⟨h0, hrun⟩ | ⟨e, he, w2, hal2, hrun⟩
    · have hnx : ∀ ty, (Instr.next (.pointer (some ⟨w.heap.size, 0, none⟩)) false ty).run Tryz.prog (w1.alloc (.mapIter (some bm) clock seen clock)) = _ := fun _ => hrun
      go_wp2
      go_end0
      exact ⟨rfl, w1, seen, hal, htp, rfl⟩
    · have htp2 : w2.tape = w1.tape := next_tape hb1 hst.1 (by rw [hsz]; exact hrun)
      obtain ⟨b, o, a, c, hval, hc2⟩ := hv e (mem_left he).1
      rw [hval] at hrun
      have hnx : ∀ ty, (Instr.next (.pointer (some ⟨w.heap.size, 0, none⟩)) false ty).run Tryz.prog (w1.alloc (.mapIter (some bm) clock seen clock)) = _ := fun _ => hrun
      have hsz2 : w2.heap.size = w.heap.size := by rw [hal2.1, hal.1]
      have hb2 : w2.heap[bm]? = some (.map es clock) := by rw [hal2.1]; exact hb1
      have hc3 : w2.cell? ⟨b, o + 1, none⟩ = some (.slice a 2 c) := by
        rw [← hc2]
        unfold World.cell?
        rw [hal2.1, hal.1]
      have hen := run_entry_map (P := Tryz.prog) w2 bm clock seen es clock e hb2 (mem_left he).1 hst.2
      rw [hsz2, hval] at hen
      have hc4 : (w2.alloc (.mapIter (some bm) clock (seen.push e.born) clock)).cell? ⟨b, o + 1, none⟩ = some (.slice a 2 c) := by
        have hbl : b < w2.heap.size := by
          rcases Nat.lt_or_ge b w2.heap.size with hl | hl
          · exact hl
          · unfold World.cell? at hc3
            rw [Array.getElem?_eq_none hl] at hc3
            cases hc3
        rw [← hc3]
        unfold World.cell?
        rw [heap_alloc_old w2 _ hbl]
      go_wp2
      go_roundw
      case rel => exact ⟨w2, seen.push e.born, ⟨hal2.1.trans hal.1, hal2.2.1.trans hal.2.1, hal2.2.2.trans hal.2.2⟩, htp2.trans htp, rfl, rfl⟩
      case measure =>
        rw [← hsz2, World.iterSeen_alloc, hsz2, ← hsz, World.iterSeen_alloc]
        exact left_shrinks es seen e he
end Go.Proofs.SknNil
