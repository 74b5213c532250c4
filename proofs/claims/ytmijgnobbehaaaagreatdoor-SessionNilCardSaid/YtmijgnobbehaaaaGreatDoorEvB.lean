/- The evaluator: operations that act, and its soundness but for regions that draw their order. -/
import Derived.Test.YtmijgnobbehaaaaGreatDoorEvA
import Derived.Laws.Append
import Derived.Laws.NewFold
import Derived.RangeFuncLeaves
import Derived.Scope
import Derived.Recover
set_option linter.all false
set_option linter.unusedVariables false
set_option linter.unusedSimpArgs false
section
namespace Go.Ev
variable {P : Program} {φ : Emb} {h : Hp} {w : World}
def Emb.upd (φ : Emb) (i : Nat) (p : PB) : Emb := fun j => if j = i then some p else φ j
theorem Emb.upd_self (φ : Emb) (i : Nat) (p : PB) : φ.upd i p i = some p := by simp [Emb.upd]
theorem Emb.upd_ne (φ : Emb) {i j : Nat} (p : PB) (hne : j ≠ i) : φ.upd i p j = φ j := by simp [Emb.upd, hne]
theorem Emb.le_upd {φ : Emb} {i : Nat} (p : PB) (hi : φ i = none) : φ.le (φ.upd i p) := fun j q hj => by
  by_cases e : j = i
  · subst e; rw [hi] at hj; cases hj
  · rw [Emb.upd_ne φ p e]; exact hj
theorem MR.mono {φ ψ : Emb} (hl : φ.le ψ) {e : ME} {pe : MapEntry} (hr : MR φ e pe) : MR ψ e pe := by
  cases hr with | mk hk hv => exact .mk (hk.mono hl) (hv.mono hl)
theorem MRs.mono {φ ψ : Emb} (hl : φ.le ψ) {es : List ME} {pes : List MapEntry} (hr : MRs φ es pes) : MRs ψ es pes := by
  induction es generalizing pes with
  | nil => cases hr; exact .nil
  | cons e es ih => cases hr with | cons h1 h2 => exact .cons (h1.mono hl) (ih h2)
theorem OR.mono {φ ψ : Emb} (hl : φ.le ψ) {o : LO} {obj : Obj} {p : PB} (hr : OR φ o obj p) : OR ψ o obj p := by
  cases hr with
  | row hsz hle hc hf => exact .row hsz hle (fun i v hi => let ⟨pv, a, b⟩ := hc i v hi; ⟨pv, a, b.mono hl⟩) hf
  | mapo hm => exact .mapo (hm.mono hl)
  | siter ho => exact .siter ho
  | dfr => exact .dfr
  | loop he hd hok => exact .loop (he.mono hl) (hl _ _ hd) hok
structure BlockSet (w : World) (b : Nat) (obj : Obj) (w' : World) : Prop where
  size : w'.heap.size = w.heap.size
  at_ : w'.heap[b]? = some obj
  other : ∀ k, k ≠ b → w'.heap[k]? = w.heap[k]?
  os : w'.os = w.os
  tape : w'.tape = w.tape
  output : w'.output = w.output
structure SameHeap (w w' : World) : Prop where
  heap : w'.heap = w.heap
  os : w'.os = w.os
  tape : w'.tape = w.tape
  output : w'.output = w.output
theorem SameHeap.drew (w : World) : SameHeap w { w with drawn := w.drawn + 1 } := ⟨rfl, rfl, rfl, rfl⟩
theorem WR.same {w' : World} (hw : WR φ h w) (s : SameHeap w w') : WR φ h w' :=
  ⟨fun i o hi => by rw [s.heap]; exact hw.live i o hi, hw.inj, hw.fresh⟩
theorem Stp.same {w' : World} (hw : WR φ h w) (s : SameHeap w w') : Stp φ h w φ h w' :=
  ⟨Emb.le_refl φ, hw.same s, by rw [s.heap]; exact Nat.le_refl _, fun _ _ _ => by rw [s.heap], fun _ => .inl, s.os, s.tape, s.output, Nat.le_refl _, fun _ _ => rfl, fun _ o _ hi => ⟨o, hi⟩, fun _ _ hi _ => hi⟩
def Hp.sub (h' h : Hp) : Prop := h'.next = h.next ∧ ∀ i o, h'.get i = some o → h.get i = some o
theorem Owns.sub {h' : Hp} (hs : h'.sub h) {b : Nat} (ho : Owns φ h' b) : Owns φ h b := by
  obtain ⟨i, o, p, h1, h2, h3, h4⟩ := ho
  exact ⟨i, o, p, hs.2 _ _ h1, h2, h3, h4⟩
theorem WR.sub {h' : Hp} (hw : WR φ h w) (hs : h'.sub h) : WR φ h' w :=
  ⟨fun i o hi => hw.live i o (hs.2 _ _ hi), fun i j oi oj p q hi hj => hw.inj i j oi oj p q (hs.2 _ _ hi) (hs.2 _ _ hj), fun i hi => hw.fresh i (by rw [← hs.1]; exact hi)⟩
theorem StpN.sub {n : Nat} {φ' : Emb} {h' h'' : Hp} {w' : World} (s : StpN n φ h w φ' h' w') (hs : h''.sub h') : StpN n φ h w φ' h'' w' :=
  ⟨s.emb, s.wr.sub hs, s.size, s.frame, fun b ho => s.own b (ho.sub hs), s.os, s.tape, s.output, by rw [hs.1]; exact s.next, s.old, fun i o hi ho => s.dom i o hi (hs.2 _ _ ho), fun i o hi he => s.ext i o (hs.2 _ _ hi) he⟩
theorem Stp.sub {φ' : Emb} {h' h'' : Hp} {w' : World} (s : Stp φ h w φ' h' w') (hs : h''.sub h') : Stp φ h w φ' h'' w' := StpN.sub s hs
theorem Hp.sub_del (h : Hp) (i : Nat) : (h.put i none).sub h := ⟨rfl, fun j o hj => by
  rw [Hp.get_put] at hj
  split at hj
  · cases hj
  · exact hj⟩
theorem StpN.set {n : Nat} {w' : World} (hw : WR φ h w) {i : Nat} {lo lo' : LO} {p : PB} {obj' : Obj} (hi : h.get i = some lo) (he : lo.ext = false) (hp : φ i = some p) (hb : BlockSet w p.b obj' w') (ho : OR φ lo' obj' p)
    (he' : lo'.ext = false) : StpN n φ h w φ (h.put i (some lo')) w' := by
  have hget : ∀ j oj, (h.put i (some lo')).get j = some oj → (j = i ∧ oj = lo') ∨ (j ≠ i ∧ h.get j = some oj) := by
    intro j oj hj
    rw [Hp.get_put] at hj
    split at hj
    · rename_i e; cases hj; exact .inl ⟨e, rfl⟩
    · rename_i e; exact .inr ⟨e, hj⟩
  refine ⟨Emb.le_refl φ, ⟨?_, ?_, hw.fresh⟩, by rw [hb.size]; exact Nat.le_refl _, ?_, ?_, hb.os, hb.tape, hb.output, Nat.le_refl _, fun _ _ => rfl, ?_, ?_⟩
  · intro j oj hj
    rcases hget j oj hj with ⟨rfl, rfl⟩ | ⟨hne, hj⟩
    · exact ⟨p, obj', hp, hb.at_, ho⟩
    · obtain ⟨q, obj, h1, h2, h3⟩ := hw.live j oj hj
      refine ⟨q, obj, h1, ?_, h3⟩
      rw [hb.other _ (Ne.symm (hw.inj i j _ _ p q hi hj (Ne.symm hne) hp h1 (.inl he)))]
      exact h2
  · intro j k oj ok q r hj hk hjk hq hr hx
    rcases hget j oj hj with ⟨rfl, rfl⟩ | ⟨hnj, hj⟩
    · rcases hget k ok hk with ⟨rfl, rfl⟩ | ⟨hnk, hk⟩
      · exact absurd rfl hjk
      · exact hw.inj _ _ _ _ _ _ hi hk hjk hq hr (.inl he)
    · have hj2 := hj
      rcases hget k ok hk with ⟨rfl, rfl⟩ | ⟨hnk, hk⟩
      · exact hw.inj _ _ _ _ _ _ hj2 hi hjk hq hr (.inr he)
      · exact hw.inj _ _ _ _ _ _ hj2 hk hjk hq hr hx
  · intro b hbl hno
    refine hb.other b ?_
    rintro rfl
    exact hno ⟨i, lo, p, hi, he, hp, rfl⟩
  · rintro b ⟨j, oj, q, h1, h2, h3, h4⟩
    left
    rcases hget j oj h1 with ⟨rfl, rfl⟩ | ⟨hnj, hj⟩
    · exact ⟨j, lo, q, hi, he, h3, h4⟩
    · exact ⟨j, oj, q, hj, h2, h3, h4⟩
  · intro j oj _ hj
    rcases hget j oj hj with ⟨rfl, rfl⟩ | ⟨hnj, hj⟩
    · exact ⟨lo, hi⟩
    · exact ⟨oj, hj⟩
  · intro j oj hj hx
    rcases hget j oj hj with ⟨rfl, rfl⟩ | ⟨hnj, hj⟩
    · rw [he'] at hx; cases hx
    · exact hj
theorem Stp.set {w' : World} (hw : WR φ h w) {i : Nat} {lo lo' : LO} {p : PB} {obj' : Obj} (hi : h.get i = some lo) (he : lo.ext = false) (hp : φ i = some p) (hb : BlockSet w p.b obj' w') (ho : OR φ lo' obj' p)
    (he' : lo'.ext = false) : Stp φ h w φ (h.put i (some lo')) w' := StpN.set hw hi he hp hb ho he'
theorem StpN.fresh {n : Nat} (hw : WR φ h w) {i : Nat} {lo : LO} {obj : Obj} {o sz : Nat} (hni0 : n ≤ i) (hext : lo.ext = false) (hi : φ i = none) {h' : Hp} (hn : i < h'.next) (hle : h.next ≤ h'.next) (hget : ∀ j, h'.get j = if j = i then some lo else h.get j)
    (ho : OR (φ.upd i ⟨w.heap.size, o, sz⟩) lo obj ⟨w.heap.size, o, sz⟩) {w' : World} (hh : w'.heap = w.heap.push obj) (hos : w'.os = w.os) (ht : w'.tape = w.tape) (hout : w'.output = w.output) :
    StpN n φ h w (φ.upd i ⟨w.heap.size, o, sz⟩) h' w' := by
  have hle2 := Emb.le_upd ⟨w.heap.size, o, sz⟩ hi
  have hlt : ∀ j q oj, h.get j = some oj → φ j = some q → q.b < w.heap.size := by
    intro j q oj hj hq
    obtain ⟨q', obj', h1, h2, -⟩ := hw.live j oj hj
    rw [hq] at h1; cases h1
    exact (Array.getElem?_eq_some_iff.1 h2).1
  have hold : ∀ k, k < w.heap.size → w'.heap[k]? = w.heap[k]? := by
    intro k hk
    rw [hh, Array.getElem?_push, if_neg (Nat.ne_of_lt hk)]
  have hnew : w'.heap[w.heap.size]? = some obj := by rw [hh]; simp
  have hni : ∀ j oj, h.get j = some oj → j ≠ i := by
    rintro j oj hj rfl
    obtain ⟨q', obj', h1, -, -⟩ := hw.live j oj hj
    rw [hi] at h1; cases h1
  have hcase : ∀ j oj, h'.get j = some oj → (j = i ∧ oj = lo) ∨ (j ≠ i ∧ h.get j = some oj) := by
    intro j oj hj
    rw [hget] at hj
    split at hj
    · rename_i e; cases hj; exact .inl ⟨e, rfl⟩
    · rename_i e; exact .inr ⟨e, hj⟩
  refine ⟨hle2, ⟨?_, ?_, ?_⟩, by rw [hh]; simp, fun b hb _ => hold b hb, ?_, hos, ht, hout, hle, ?_, ?_, ?_⟩
  · intro j oj hj
    rcases hcase j oj hj with ⟨rfl, rfl⟩ | ⟨hne, hj⟩
    · exact ⟨_, obj, Emb.upd_self _ _ _, hnew, ho⟩
    · obtain ⟨q, obj', h1, h2, h3⟩ := hw.live j oj hj
      exact ⟨q, obj', hle2 _ _ h1, (hold _ (hlt j q oj hj h1)).trans h2, h3.mono hle2⟩
  · intro j k oj ok q r hj hk hjk hq hr hx
    rcases hcase j oj hj with ⟨rfl, rfl⟩ | ⟨hnj, hj⟩
    · rw [Emb.upd_self] at hq; cases hq
      rcases hcase k ok hk with ⟨rfl, rfl⟩ | ⟨hnk, hk⟩
      · exact absurd rfl hjk
      · rw [Emb.upd_ne φ _ hnk] at hr
        exact Ne.symm (Nat.ne_of_lt (hlt k r ok hk hr))
    · rw [Emb.upd_ne φ _ hnj] at hq
      rcases hcase k ok hk with ⟨rfl, rfl⟩ | ⟨hnk, hk⟩
      · rw [Emb.upd_self] at hr; cases hr
        exact Nat.ne_of_lt (hlt j q oj hj hq)
      · rw [Emb.upd_ne φ _ hnk] at hr
        exact hw.inj _ _ _ _ _ _ hj hk hjk hq hr hx
  · intro j hj
    rw [Emb.upd_ne φ _ (by omega)]
    exact hw.fresh j (by omega)
  · rintro b ⟨j, oj, q, h1, h2, h3, h4⟩
    rcases hcase j oj h1 with ⟨rfl, rfl⟩ | ⟨hnj, hj⟩
    · rw [Emb.upd_self] at h3; cases h3
      exact .inr (by rw [← h4]; exact Nat.le_refl _)
    · rw [Emb.upd_ne φ _ hnj] at h3
      exact .inl ⟨j, oj, q, hj, h2, h3, h4⟩
  · intro j hj
    rw [Emb.upd_ne φ _ (by omega)]
  · intro j oj hj hoj
    rcases hcase j oj hoj with ⟨rfl, rfl⟩ | ⟨hnj, hoj⟩
    · exact absurd hj (Nat.not_lt.2 hni0)
    · exact ⟨oj, hoj⟩
  · intro j oj hoj hx
    rcases hcase j oj hoj with ⟨rfl, rfl⟩ | ⟨hnj, hoj⟩
    · rw [hext] at hx; cases hx
    · exact hoj
theorem Stp.fresh (hw : WR φ h w) {lo : LO} {obj : Obj} {o sz : Nat} (hi : φ h.next = none) {h' : Hp} (hn : h.next < h'.next) (hle : h.next ≤ h'.next) (hget : ∀ j, h'.get j = if j = h.next then some lo else h.get j)
    (ho : OR (φ.upd h.next ⟨w.heap.size, o, sz⟩) lo obj ⟨w.heap.size, o, sz⟩) {w' : World} (hh : w'.heap = w.heap.push obj) (hos : w'.os = w.os) (ht : w'.tape = w.tape) (hout : w'.output = w.output) (hext : lo.ext = false := by rfl) :
    Stp φ h w (φ.upd h.next ⟨w.heap.size, o, sz⟩) h' w' := StpN.fresh hw (Nat.le_refl _) hext hi hn hle hget ho hh hos ht hout
theorem Stp.rebase (hw : WR φ h w) {i : Nat} {lo lo' : LO} {p q : PB} {obj' : Obj} {w' : World} (hi : h.get i = some lo) (he : lo.ext = false) (hp : φ i = some p) (hqb : q.b = p.b) (hb : BlockSet w p.b obj' w')
    (ho : OR (φ.upd h.next q) lo' obj' q) (he' : lo'.ext = false) : Stp φ h w (φ.upd h.next q) ((h.put i none).new lo').2 w' := by
  have hf : φ h.next = none := hw.fresh _ (Nat.le_refl _)
  have hle := Emb.le_upd q hf
  have hcase : ∀ j oj, (((h.put i none).new lo').2).get j = some oj → (j = h.next ∧ oj = lo') ∨ (j ≠ h.next ∧ j ≠ i ∧ h.get j = some oj) := by
    intro j oj hj
    rw [Hp.get_new, Hp.get_put, Hp.next_put] at hj
    split at hj
    · rename_i e; cases hj; exact .inl ⟨e, rfl⟩
    · rename_i e
      split at hj
      · cases hj
      · rename_i e2; exact .inr ⟨e, e2, hj⟩
  refine ⟨hle, ⟨?_, ?_, ?_⟩, by rw [hb.size]; exact Nat.le_refl _, ?_, ?_, hb.os, hb.tape, hb.output, Nat.le_succ _, ?_, ?_, ?_⟩
  · intro j oj hj
    rcases hcase j oj hj with ⟨rfl, rfl⟩ | ⟨hn, hne, hj⟩
    · exact ⟨q, obj', Emb.upd_self _ _ _, by rw [hqb]; exact hb.at_, ho⟩
    · obtain ⟨r, obj, h1, h2, h3⟩ := hw.live j oj hj
      refine ⟨r, obj, hle _ _ h1, ?_, h3.mono hle⟩
      rw [hb.other _ (Ne.symm (hw.inj i j _ _ p r hi hj (Ne.symm hne) hp h1 (.inl he)))]
      exact h2
  · intro j k oj ok r s hj hk hjk hr hs hx
    rcases hcase j oj hj with ⟨rfl, rfl⟩ | ⟨hn, hne, hj⟩
    · rw [Emb.upd_self] at hr; cases hr
      rcases hcase k ok hk with ⟨rfl, rfl⟩ | ⟨hn2, hne2, hk⟩
      · exact absurd rfl hjk
      · rw [Emb.upd_ne φ _ hn2] at hs
        rw [hqb]
        exact hw.inj i k _ _ p s hi hk (Ne.symm hne2) hp hs (.inl he)
    · have hj2 := hj
      rw [Emb.upd_ne φ _ hn] at hr
      rcases hcase k ok hk with ⟨rfl, rfl⟩ | ⟨hn2, hne2, hk⟩
      · rw [Emb.upd_self] at hs; cases hs
        rw [hqb]
        exact hw.inj j i _ _ r p hj2 hi hne hr hp (.inr he)
      · rw [Emb.upd_ne φ _ hn2] at hs
        exact hw.inj _ _ _ _ _ _ hj2 hk hjk hr hs hx
  · intro j hj
    have : h.next + 1 ≤ j := hj
    rw [Emb.upd_ne φ _ (by omega)]
    exact hw.fresh j (by omega)
  · intro b hbl hno
    refine hb.other b ?_
    rintro rfl
    exact hno ⟨i, lo, p, hi, he, hp, rfl⟩
  · rintro b ⟨j, oj, r, h1, h2, h3, h4⟩
    left
    rcases hcase j oj h1 with ⟨rfl, rfl⟩ | ⟨hn, hne, hj⟩
    · rw [Emb.upd_self] at h3; cases h3
      exact ⟨i, lo, p, hi, he, hp, by rw [← h4, hqb]⟩
    · rw [Emb.upd_ne φ _ hn] at h3
      exact ⟨j, oj, r, hj, h2, h3, h4⟩
  · intro j hj
    rw [Emb.upd_ne φ _ (Nat.ne_of_lt hj)]
  · intro j oj hj hoj
    rcases hcase j oj hoj with ⟨rfl, rfl⟩ | ⟨hn, hne, hoj⟩
    · exact absurd hj (Nat.lt_irrefl _)
    · exact ⟨oj, hoj⟩
  · intro j oj hoj hx
    rcases hcase j oj hoj with ⟨rfl, rfl⟩ | ⟨hn, hne, hoj⟩
    · rw [he'] at hx; cases hx
    · exact hoj
end Go.Ev
end
section
namespace Go.Ev
variable {P : Program} {φ : Emb} {h : Hp} {w : World}
theorem BlockSet.of_setCell {b o : Nat} {C : Array Value} {t : TypeId} {fz : Nat × Nat} (v : Value) (hb : w.heap[b]? = some (.cells C t fz)) :
    BlockSet w b (.cells (C.setIfInBounds o v) t fz) (w.setCell ⟨b, o, none⟩ v) := by
  obtain ⟨hlt, hk⟩ := Array.getElem?_eq_some_iff.1 hb
  refine ⟨by simp [World.setCell], ?_, ?_, rfl, rfl, rfl⟩
  · show (w.heap.modify b _)[b]? = _
    rw [Array.getElem?_eq_getElem (by simpa using hlt), Array.getElem_modify_self, hk]
    rfl
  · intro k hne
    show (w.heap.modify b _)[k]? = _
    rw [Array.getElem?_modify, if_neg (Ne.symm hne)]
theorem BlockSet.trans {w1 w2 : World} {b : Nat} {o1 o2 : Obj} (s : BlockSet w b o1 w1) (t : BlockSet w1 b o2 w2) : BlockSet w b o2 w2 :=
  ⟨t.size.trans s.size, t.at_, fun k hk => (t.other k hk).trans (s.other k hk), t.os.trans s.os, t.tape.trans s.tape, t.output.trans s.output⟩
theorem BlockSet.refl {b : Nat} {o : Obj} (hb : w.heap[b]? = some o) : BlockSet w b o w := ⟨rfl, hb, fun _ _ => rfl, rfl, rfl, rfl⟩
theorem run_storeCells_over (b o : Nat) (t : TypeId) (fz : Nat × Nat) : ∀ (vs : List Value) (i : Nat) (C : Array Value) (w : World), w.heap[b]? = some (.cells C t fz) →
    (∀ k, k < C.size → ¬ (fz.1 ≤ k ∧ k < fz.2)) → o + i + vs.length ≤ C.size → (∀ v ∈ vs, v.oneCell' = true) →
    ∃ w' C', (storeCells ⟨b, o, none⟩ vs i).run P w = .ok () w' ∧ BlockSet w b (.cells C' t fz) w' ∧ C'.toList = C.toList.take (o + i) ++ vs ++ C.toList.drop (o + i + vs.length)
  | [], i, C, w, hb, _, _, _ => ⟨w, C, rfl, .refl hb, by simp⟩
  | v :: vs, i, C, w, hb, hf, hle, h1 => by
    simp only [List.length_cons] at hle
    have hlt : o + i < C.size := by omega
    have hcell : w.cell? ⟨b, o + i, none⟩ = some C[o + i] := by rw [cell_of_block hb]; simp [hlt]
    have hfz : w.frozen? ⟨b, o + i, none⟩ = false := by
      have := hf _ hlt
      simp only [World.frozen?, hb]
      rw [Bool.eq_false_iff]
      simpa using this
    have s1 := BlockSet.of_setCell (w := w) (o := o + i) v hb
    obtain ⟨w', C', hr, s2, hc⟩ := run_storeCells_over b o t fz vs (i + 1) (C.setIfInBounds (o + i) v) _ s1.at_ (by simpa using hf) (by simp; omega) (fun u hu => h1 u (by simp [hu]))
    refine ⟨w', C', ?_, s1.trans s2, ?_⟩
    · rw [storeCells]
      simp only [Sem.run_bind, addr_add, run_store P w _ v .plain (h1 v (by simp)), hcell, hfz, Bool.false_eq_true, if_false, Result.andThen_ok]
      exact hr
    · rw [hc]
      simp only [Array.toList_setIfInBounds, List.length_cons]
      have e1 : List.take (o + (i + 1)) (C.toList.set (o + i) v) = List.take (o + i) C.toList ++ [v] := by
        rw [show o + (i + 1) = (o + i) + 1 from by omega, List.take_succ_eq_append_getElem (by simp; omega)]
        simp [List.take_set_of_le]
      have e2 : List.drop (o + (i + 1) + vs.length) (C.toList.set (o + i) v) = List.drop (o + i + (vs.length + 1)) C.toList := by
        rw [show o + i + (vs.length + 1) = o + (i + 1) + vs.length from by omega]
        exact List.drop_set_of_lt (by omega)
      rw [e1, e2]
      simp
theorem VRs.all_one {l : List V} {pl : List Value} (hr : VRs φ l pl) (ha : l.all V.one = true) : ∀ v ∈ pl, v.oneCell' = true := by
  intro v hv
  obtain ⟨i, hi⟩ := List.mem_iff_getElem?.1 hv
  obtain ⟨u, h1, h2⟩ := hr.getP hi
  rw [← h2.oneCell]
  exact List.all_eq_true.1 ha u (List.mem_of_getElem? h1)
theorem splice_length {cs vs : List V} {off : Nat} (hle : off + vs.length ≤ cs.length) : (splice cs off vs).length = cs.length := by
  unfold splice
  simp only [List.length_append, List.length_take, List.length_drop]
  omega
theorem writeRow_rel (hw : WR φ h w) {id off : Nat} {vs : List V} {pvs : List Value} {h' : Hp} {p : PB} (hp : φ id = some p) (hv : VRs φ vs pvs) (h1 : vs.all V.one = true) (e : writeRow h id off vs = some h') :
    ∃ w', (storeCells ⟨p.b, p.o + off, none⟩ pvs).run P w = .ok () w' ∧ Stp φ h w φ h' w' := by
  unfold writeRow at e
  split at e
  · rename_i cs sh hg
    rw [br_some] at e
    obtain ⟨hb, e⟩ := e
    have hb := Nat.le_of_ble_eq_true hb
    cases e
    obtain ⟨p', C, t, fz, hp', hblk, hsz, hle, hc, hf⟩ := row_live hw hg
    rw [hp] at hp'; cases hp'
    obtain ⟨hf1, hf2⟩ := hf rfl
    have hvl := hv.length
    obtain ⟨w', C', hr, hs, hcl⟩ := run_storeCells_over (P := P) p.b (p.o + off) t fz pvs 0 C w hblk hf1 (by omega) (hv.all_one h1)
    refine ⟨w', hr, Stp.set hw hg rfl hp hs ?_ rfl⟩
    have hC' : C'.size = C.size := by
      rw [← Array.length_toList, hcl]
      simp only [List.length_append, List.length_take, List.length_drop, Array.length_toList]
      omega
    refine .row (hC'.trans hsz) (by rw [splice_length hb]; exact hle) ?_ (fun _ => ⟨by rw [hC']; exact hf1, hf2⟩)
    intro i v hi
    rw [← Array.getElem?_toList, hcl]
    simp only [Nat.add_zero]
    unfold splice at hi
    have hlt : (C.toList.take (p.o + off)).length = p.o + off := by simp; omega
    have hct : (cs.take off).length = off := by simp; omega
    by_cases c1 : i < off
    · rw [List.append_assoc, List.getElem?_append_left (by omega)] at hi
      rw [List.append_assoc, List.getElem?_append_left (by omega)]
      rw [List.getElem?_take, if_pos c1] at hi
      rw [List.getElem?_take, if_pos (by omega), Array.getElem?_toList]
      exact hc i v hi
    · by_cases c2 : i < off + vs.length
      · rw [List.append_assoc, List.getElem?_append_right (by omega), hct, List.getElem?_append_left (by omega)] at hi
        rw [List.append_assoc, List.getElem?_append_right (by omega), hlt, List.getElem?_append_left (by omega)]
        obtain ⟨pv, g1, g2⟩ := hv.get hi
        refine ⟨pv, ?_, g2⟩
        rw [← g1]; congr 1; omega
      · rw [List.append_assoc, List.getElem?_append_right (by omega), hct, List.getElem?_append_right (by omega), List.getElem?_drop] at hi
        rw [List.append_assoc, List.getElem?_append_right (by omega), hlt, List.getElem?_append_right (by omega), List.getElem?_drop, Array.getElem?_toList]
        have e1 : off + vs.length + (i - off - vs.length) = i := by omega
        rw [e1] at hi
        obtain ⟨pv, g1, g2⟩ := hc i v hi
        refine ⟨pv, ?_, g2⟩
        rw [← g1]; congr 1; omega
  · cases e
theorem storeV_rel (hw : WR φ h w) {t : TypeId} {a v : V} {pa pv : Value} {h' : Hp} (ha : VR φ a pa) (hv : VR φ v pv) (e : storeV P t a v h = some h') : ∃ w', (Instr.storeAt t pa pv).run P w = .ok () w' ∧ Stp φ h w φ h' w' := by
  unfold storeV at e
  split at e
  · rename_i id off
    cases ha with | ptr hp =>
    rename_i p
    split at e
    · rename_i n hn
      rw [br_some, Bool.and_eq_true] at e
      obtain ⟨⟨hl, h1⟩, e⟩ := e
      have hl := Nat.eq_of_beq_eq_true hl
      obtain ⟨w', hr, hs⟩ := writeRow_rel (P := P) hw hp hv.cells h1 e
      refine ⟨w', ?_, hs⟩
      have hsz : ¬ (pv.cells.size ≠ n) := by
        have := hv.cells.length
        simp only [Array.length_toList] at this
        omega
      simp only [Instr.storeAt, Instr.sureAddr, storeVar, Sem.run_bind, Sem.run_pure, Result.andThen_ok, run_szT hn, if_neg hsz, Sem.run_ite]
      exact hr
    · cases e
  · cases e
theorem rep_length (n : Nat) (l : List V) : (rep n l).length = n * l.length := by
  induction n with
  | zero => simp [rep]
  | succ n ih =>
    have : rep (n + 1) l = l ++ rep n l := by simp [rep, List.replicate_succ]
    rw [this, List.length_append, ih, Nat.succ_mul]; omega
theorem rep_get (n : Nat) (l : List V) (i : Nat) (hi : i < n * l.length) : (rep n l)[i]? = l[i % l.length]? := by
  induction n generalizing i with
  | zero => simp at hi
  | succ n ih =>
    have e : rep (n + 1) l = l ++ rep n l := by simp [rep, List.replicate_succ]
    have hpos : 0 < l.length := by
      rcases Nat.eq_zero_or_pos l.length with h0 | h0
      · rw [h0] at hi; simp at hi
      · exact h0
    rw [e]
    by_cases c : i < l.length
    · rw [List.getElem?_append_left c, Nat.mod_eq_of_lt c]
    · rw [List.getElem?_append_right (by omega), ih (i - l.length) (by rw [Nat.succ_mul] at hi; omega)]
      rw [Nat.mod_eq_sub_mod (by omega : l.length ≤ i)]
theorem rep_rel {zc : List V} {pz : Array Value} (hz : VRs φ zc pz.toList) (n : Nat) : VRs φ (rep n zc) (((Array.range (n * pz.size)).map (pz[· % pz.size]!)).toList) := by
  have hl := hz.length
  simp only [Array.length_toList] at hl
  refine VRs.of_get (by rw [rep_length]; simp [hl]) ?_
  intro i v hi
  have hlt : i < n * zc.length := by
    have := (List.getElem?_eq_some_iff.1 hi).1
    rwa [rep_length] at this
  rw [rep_get n zc i hlt] at hi
  obtain ⟨pv, h1, h2⟩ := hz.get hi
  refine ⟨pv, ?_, h2⟩
  rw [Array.getElem?_toList, Array.getElem?_map, Array.getElem?_range]
  rw [hl] at hlt h1
  simp only [hlt, if_true, Option.map_some, Option.some.injEq]
  rw [Array.getElem?_toList] at h1
  rw [getElem!_def, h1]
theorem OR.newRow {ψ : Emb} {cs : List V} {C : Array Value} (t : TypeId) (b : Nat) (hr : VRs ψ cs C.toList) : OR ψ (.row cs false false) (.cells C t) ⟨b, 0, C.size⟩ := by
  have hl := hr.length
  simp only [Array.length_toList] at hl
  refine .row rfl (by simp; omega) ?_ (fun _ => ⟨fun k _ hk => absurd hk.2 (Nat.not_lt_zero _), fun _ => rfl, Nat.le_refl _⟩)
  intro i v hi
  obtain ⟨pv, h1, h2⟩ := hr.get hi
  exact ⟨pv, by simpa using h1, h2⟩
def zeros (m : Nat) (pz : Array Value) : Array Value := (Array.range m).map ((if m = 0 then #[] else pz)[· % (if m = 0 then #[] else pz).size]!)
theorem zeros_rel {zc : List V} {pz : Array Value} (hz : VRs φ zc pz.toList) (n : Nat) : VRs φ (rep n zc) (zeros (n * pz.size) pz).toList := by
  unfold zeros
  by_cases h0 : n * pz.size = 0
  · have hl := hz.length
    simp only [Array.length_toList] at hl
    have e1 : rep n zc = [] := List.eq_nil_of_length_eq_zero (by rw [rep_length, hl, h0])
    rw [e1, h0]
    simp
    exact .nil
  · simp only [h0, if_false]
    exact rep_rel hz n
theorem run_buildSlice {t E : TypeId} {n es : Nat} {pz : Value} {parts : Array (Nat × Value)} {pout : Array Value} (hu : P.underlying t = some (.slice E)) (hs : szT P E = some es) (h1 : (zeroValue E).run P w = .ok pz w) (hlim : n * es ≤ 1048576)
    (f1 : Instr.fill (fun i => some (i * es, es)) (zeros (n * es) pz.cells) parts.toList = some pout) :
    (Instr.buildSlice t n parts).run P w = .ok (.slice (some ⟨w.heap.size, 0, none⟩) n n) { w with heap := w.heap.push (.cells pout E) } := by
  have e24 : ¬ (n * es > 2 ^ 24) := by omega
  unfold zeros at f1
  by_cases h0 : n * es = 0
  · simp only [if_pos h0] at f1
    simp only [Instr.buildSlice, Sem.run_bind, run_underlying hu, Result.andThen_ok, run_szT hs, if_neg e24, if_pos h0, Sem.run_pure, f1, newRow, run_newObj]
  · simp only [if_neg h0] at f1
    simp only [Instr.buildSlice, Sem.run_bind, run_underlying hu, Result.andThen_ok, run_szT hs, if_neg e24, if_neg h0, Sem.run_pure, h1, f1, newRow, run_newObj]
theorem run_makeSlice {t E : TypeId} {l c es : Nat} {k1 k2 : IntKind} {pz : Value} {inf : TypeInfo} (hu : P.underlying t = some (.slice E)) (hs : szT P E = some es) (h1 : (zeroValue E).run P w = .ok pz w) (hi : P.info? E = some inf)
    (hb : inf.bytes ≤ 65536) (hlc : l ≤ c) (hc : c < 1073741824) :
    (Instr.makeSlice t (.int k1 (Int.ofNat l)) (.int k2 (Int.ofNat c))).run P w = .ok (.slice (some ⟨w.heap.size, 0, none⟩) l c) { w with heap := w.heap.push (.cells (zeros (c * es) pz.cells) E) } := by
  have wl : IntKind.i64.wrap (Int.ofNat l) = Int.ofNat l := IntWalk.i64_in _ ⟨by simp only [Int.ofNat_eq_natCast]; omega, by simp only [Int.ofNat_eq_natCast]; omega⟩
  have wc : IntKind.i64.wrap (Int.ofNat c) = Int.ofNat c := IntWalk.i64_in _ ⟨by simp only [Int.ofNat_eq_natCast]; omega, by simp only [Int.ofNat_eq_natCast]; omega⟩
  have hmul : inf.bytes * c ≤ 65536 * 1073741824 := Nat.mul_le_mul hb (by omega)
  have big : ¬ ((inf.bytes : Int) * (Int.ofNat c) > 2 ^ 48) := by
    have : (inf.bytes : Int) * (Int.ofNat c) = ((inf.bytes * c : Nat) : Int) := by simp
    rw [this]; omega
  have hcond : ((decide (Int.ofNat c < 0) || decide ((inf.bytes : Int) * Int.ofNat c > 2 ^ 48)) || decide (Int.ofNat l < 0) || decide (Int.ofNat l > Int.ofNat c)) = false := by
    simp only [Bool.or_eq_false_iff, decide_eq_false_iff_not]
    refine ⟨⟨⟨?_, big⟩, ?_⟩, ?_⟩ <;> simp only [Int.ofNat_eq_natCast] <;> omega
  have tn : ∀ n : Nat, (Int.ofNat n).toNat = n := fun n => rfl
  unfold zeros
  by_cases h0 : c * es = 0
  · simp only [Instr.makeSlice, Sem.run_bind, run_underlying hu, Result.andThen_ok, asInt, asIntOf, Sem.run_pure, run_info hi, wl, wc, hcond, Bool.false_eq_true, if_false, run_askRoom, run_szT hs, tn, if_pos h0, newRow, run_newObj]
  · simp only [Instr.makeSlice, Sem.run_bind, run_underlying hu, Result.andThen_ok, asInt, asIntOf, Sem.run_pure, run_info hi, wl, wc, hcond, Bool.false_eq_true, if_false, run_askRoom, run_szT hs, tn, if_neg h0, h1, newRow, run_newObj]
theorem evAlloc_rel {env : Env} {a : Act} (he : ER φ env a) {id : Nat} {o : Oper} {v : V} {lo : LO} (e : evAlloc P env id o = some (v, lo)) (w : World) :
    ∃ obj sz pv, (execOp a.eval o).run P w = .ok (.value pv) { w with heap := w.heap.push obj } ∧ lo.ext = false ∧
      ∀ ψ : Emb, φ.le ψ → ψ id = some ⟨w.heap.size, 0, sz⟩ → VR ψ v pv ∧ OR ψ lo obj ⟨w.heap.size, 0, sz⟩ := by
  obtain ⟨dst, op, ty, pos, after, guard⟩ := o
  unfold evAlloc evAllocOp at e
  simp only at e
  unfold execOp
  simp only
  split at e
  · 
    rename_i E
    unfold alZero at e
    split at e
    · rename_i z hz
      cases e
      obtain ⟨pz, h1, h2⟩ := run_zeroT (P := P) (φ := φ) (w := w) hz
      refine ⟨.cells pz.cells E, pz.cells.size, .pointer (some ⟨w.heap.size, 0, none⟩), ?_, rfl, ?_⟩
      · simp [Instr.alloc, h1, newVar, newRow]
      · intro ψ hle hp
        exact ⟨.ptr hp, OR.newRow E _ (h2.cells.mono hle)⟩
    · cases e
  · 
    rename_i E x
    unfold alBox at e
    split at e
    · rename_i u hu
      split at e
      · cases e
        have hr := ρ_rel he hu
        refine ⟨.cells (a.eval x).cells E, (a.eval x).cells.size, .pointer (some ⟨w.heap.size, 0, none⟩), ?_, rfl, ?_⟩
        · simp [Instr.box, newVar, newRow]
        · intro ψ hle hp
          exact ⟨.ptr hp, OR.newRow E _ (hr.cells.mono hle)⟩
      · cases e
    · cases e
  · 
    rename_i t n ps
    unfold alBuild at e
    split at e
    · rename_i vs hps
      obtain ⟨g1, g2⟩ := ρparts_rel he hps
      unfold buildSliceV at e
      split at e
      · rename_i E hu
        split at e
        · rename_i es z hs hz
          rw [br_some, Bool.and_eq_true] at e
          obtain ⟨⟨hzl, hlim⟩, e⟩ := e
          have hzl := Nat.eq_of_beq_eq_true hzl
          have hlim := Nat.le_of_ble_eq_true hlim
          split at e
          · rename_i cs hf
            cases e
            obtain ⟨pz, h1, h2⟩ := run_zeroT (P := P) (φ := φ) (w := w) hz
            have hpl : pz.cells.size = es := by
              have := h2.cells.length
              simp only [Array.length_toList] at this
              omega
            have hbase : VRs φ (rep n z.cells) (zeros (n * es) pz.cells).toList := by
              have := zeros_rel h2.cells n
              rwa [hpl] at this
            obtain ⟨pout, f1, f2⟩ := fill_rel (φ := φ) _ vs (ps.map fun (i, x) => (i, a.eval x)).toList _ _ cs (by simpa using g1) (by simpa using g2) hbase hf
            refine ⟨.cells pout E, pout.size, .slice (some ⟨w.heap.size, 0, none⟩) n n, ?_, rfl, ?_⟩
            · simp only [Sem.run_bind, run_buildSlice hu hs h1 hlim f1, Result.andThen_ok, Sem.run_pure]
            · intro ψ hle hp
              exact ⟨.slice hp (Nat.le_refl _) (fun _ => rfl) (fun c hc => by cases hc; rfl) (fun hc => by cases hc), OR.newRow E _ (f2.mono hle)⟩
          · cases e
        · cases e
      · cases e
    · cases e
  · 
    rename_i t r
    unfold alMap at e
    split at e
    · rename_i ke hmt hr
      cases e
      have hnone : r = none := by cases r with | none => rfl | some x => simp [ρs] at hr; split at hr <;> cases hr
      subst hnone
      exact ⟨.map #[] 0, 0, .map (some w.heap.size), by simp [Instr.makeMap], rfl, fun ψ _ hp => ⟨.map hp, by simpa using OR.mapo (p := ⟨w.heap.size, 0, 0⟩) (clock := 0) (MRs.nil (φ := ψ))⟩⟩
    · rename_i ke k n hmt hr
      cases e
      obtain ⟨x, rfl⟩ : ∃ x, r = some x := by cases r with | none => simp [ρs] at hr | some x => exact ⟨x, rfl⟩
      have hx := ρs_rel he hr
      simp only [Option.toList_some, List.map_cons, List.map_nil] at hx
      generalize hpx : a.eval x = px at hx
      cases hx with | cons hx hn =>
      cases hx
      obtain ⟨kt, et⟩ := ke
      have hu := mapT_under hmt
      exact ⟨.map #[] 0, 0, .map (some w.heap.size), by simp [Instr.makeMap, run_underlying hu, hpx, asInt, asIntOf], rfl, fun ψ _ hp => ⟨.map hp, by simpa using OR.mapo (p := ⟨w.heap.size, 0, 0⟩) (clock := 0) (MRs.nil (φ := ψ))⟩⟩
    · cases e
  · 
    rename_i t l c
    unfold alSlice at e
    split at e
    · rename_i lv cv hl hc
      have hl := ρ_rel he hl
      have hc := ρ_rel he hc
      unfold makeSliceV at e
      split at e
      · rename_i E k1 l' k2 c' hu _ _
        split at e
        · rename_i es by_ z hs hby hz
          rw [br_some, Bool.and_eq_true, Bool.and_eq_true, Bool.and_eq_true] at e
          obtain ⟨⟨⟨hlc, hclim⟩, hzl, hbl⟩, e⟩ := e
          have hlc := Nat.le_of_ble_eq_true hlc
          have hclim : c' < 1073741824 := by simpa [Nat.blt_eq] using hclim
          have hzl := Nat.eq_of_beq_eq_true hzl
          have hbl := Nat.le_of_ble_eq_true hbl
          cases e
          obtain ⟨pz, h1, h2⟩ := run_zeroT (P := P) (φ := φ) (w := w) hz
          have hpl : pz.cells.size = es := by
            have := h2.cells.length
            simp only [Array.length_toList] at this
            omega
          have hbase : VRs φ (rep c' z.cells) (zeros (c' * es) pz.cells).toList := by
            have := zeros_rel h2.cells c'
            rwa [hpl] at this
          simp only [bytesT, Option.map_eq_some_iff] at hby
          obtain ⟨inf, hinf, rfl⟩ := hby
          generalize hpl' : a.eval l = pl at hl
          generalize hpc : a.eval c = pc at hc
          cases hl; cases hc
          refine ⟨.cells (zeros (c' * es) pz.cells) E, (zeros (c' * es) pz.cells).size, .slice (some ⟨w.heap.size, 0, none⟩) l' c', ?_, rfl, ?_⟩
          · show ((Instr.makeSlice t (a.eval l) (a.eval c)) >>= fun v => pure (Next.value v)).run P w = _
            rw [hpl', hpc]
            simp only [Sem.run_bind, run_makeSlice hu hs h1 hinf hbl hlc hclim, Result.andThen_ok, Sem.run_pure]
          · intro ψ hle hp
            refine ⟨.slice hp hlc (fun _ => rfl) (fun c hc => by cases hc; rfl) (fun hc => by cases hc), ?_⟩
            exact OR.newRow (ψ := ψ) E w.heap.size (hbase.mono hle)
        · cases e
      · cases e
    · cases e
  · cases e
end Go.Ev
end
section
namespace Go.Ev
variable {P : Program} {φ : Emb} {h : Hp} {w : World}
theorem run_lenOf {x : V} {px : Value} (hx : VR φ x px) {n : Nat} (e : lenOfV x = some n) : (Builtin.lenOf px).run P w = .ok n w := by
  unfold lenOfV at e
  split at e
  · cases e; cases hx; simp [Builtin.lenOf]
  · cases e; cases hx; simp [Builtin.lenOf]
  · rename_i s
    cases e; cases hx
    have : (⟨s.toArray⟩ : ByteArray).size = s.length := by simp [ByteArray.size]
    simp [Builtin.lenOf, this]
  · cases e
theorem run_loadCells_zero (a : Addr) : (loadCells a 0).run P w = .ok #[] w := by
  have := run_loadCells_list (P := P) w a [] (by simp)
  simpa using this
theorem srcCells_rel (hw : WR φ h w) {x : V} {px : Value} (hx : VR φ x px) {es n m : Nat} {new : List V} (hl : lenOfV x = some m) (hn : n ≤ m) (e : srcCells es n x h = some new) :
    ∃ pnew, (∀ w' : World, w'.heap = w.heap → (Builtin.firstCells es n px).run P w' = .ok pnew w') ∧ VRs φ new pnew.toList ∧ new.length = n * es := by
  unfold srcCells at e
  split at e
  · cases e; cases hx
    simp only [lenOfV, Option.some.injEq] at hl
    subst hl
    have : n = 0 := by omega
    subst this
    exact ⟨#[], fun _ _ => by simp [Builtin.firstCells], .nil, by simp⟩
  · rename_i id off es' len cap
    cases hx with | slice hp hlc ha hc hnn =>
    simp only [lenOfV, Option.some.injEq] at hl
    subst hl
    split at e
    · cases e
      refine ⟨#[], fun _ _ => ?_, .nil, by simp⟩
      simp only [Builtin.firstCells, Nat.zero_mul]
      exact run_loadCells_zero _
    · rename_i hn0
      rw [br_some] at e
      obtain ⟨hb, e⟩ := e
      obtain ⟨p, pl, hp', hr, hlen, hcell⟩ := rowAt_rel hw e
      rw [hp] at hp'; cases hp'
      have hpos : 0 < n := Nat.pos_of_ne_zero (fun h0 => hn0 h0)
      rw [ha (by omega)]
      refine ⟨pl.toArray, fun w' hw' => ?_, by simpa using hr, by rw [hr.length, hlen]⟩
      refine run_firstCells_some w' es n _ _ _ pl hlen ?_
      intro j u hj
      have := hcell j u hj
      unfold World.cell? at this ⊢
      rw [hw']; exact this
  · rename_i s
    rw [br_some] at e
    obtain ⟨hb, e⟩ := e
    have hb := Nat.eq_of_beq_eq_true hb
    cases e; cases hx
    subst hb
    simp only [lenOfV, Option.some.injEq] at hl
    subst hl
    refine ⟨_, fun _ _ => rfl, ?_, by simp [hn]⟩
    have : ((ByteArray.extract ⟨s.toArray⟩ 0 n).data.map fun b => Value.int .u8 b.toNat).toList = (s.take n).map fun b => Value.int .u8 b.toNat := by
      rw [extract_bytes]; simp
    rw [this]
    refine VRs.of_get (by simp) ?_
    intro i v hi
    simp only [List.getElem?_map, Option.map_eq_some_iff] at hi ⊢
    obtain ⟨b, hb, rfl⟩ := hi
    exact ⟨_, ⟨b, hb, rfl⟩, .int _ _⟩
  · cases e
theorem OR.rowPre {ψ : Emb} {cs : List V} {C : Array Value} (t : TypeId) (b : Nat) (sh : Bool) (hle : cs.length ≤ C.size) (hr : ∀ (i : Nat) (v : V), cs[i]? = some v → ∃ pv, C[i]? = some pv ∧ VR ψ v pv) :
    OR ψ (.row cs sh false) (.cells C t) ⟨b, 0, C.size⟩ := by
  refine .row rfl (by simpa using hle) ?_ (fun _ => ⟨fun k _ hk => absurd hk.2 (Nat.not_lt_zero _), fun _ => rfl, Nat.le_refl _⟩)
  intro i v hi
  simpa using hr i v hi
theorem run_append_copy {st xt E ty : TypeId} {xd : TypeDesc} {inf : TypeInfo} {pz px : Value} {base : Option Addr} {sLen sCap n : Nat} {olds news : Array Value} (ats : Array TypeId) (args : Array Value)
    (h0 : ats[0]? = some st) (h1 : ats[1]? = some xt) (g0 : args[0]? = some (.slice base sLen sCap)) (g1 : args[1]? = some px)
    (hu : P.underlying st = some (.slice E)) (hx : P.underlying xt = some xd) (hxi : isIntD xd = false) (hi : P.info? E = some inf) (hz : inf.zero = some pz)
    (hlen : ∀ w : World, (Builtin.lenOf px).run P w = .ok n w)
    (hnew : (Builtin.firstCells inf.size n px).run P w.drew = .ok news w.drew) (hold : (Builtin.firstCells inf.size sLen (.slice base sLen sCap)).run P w.drew = .ok olds w.drew)
    (hg : sCap < sLen + n) (hneed : sLen + n < 1073741824) (hb : inf.bytes ≤ 65536) :
    (Builtin.append_ ats ty args).run P w = .ok (.slice (some ⟨w.heap.size, 0, none⟩) (sLen + n) (grownCap w (sLen + n) sCap E))
      (w.drew.alloc (.cells (olds ++ news ++ Builtin.zeroCells pz.cells (grownCap w (sLen + n) sCap E - (sLen + n))) E)) := by
  have hn : ¬ (sLen + n ≤ sCap) := by omega
  have h63' : ¬ (9223372036854775807 < ((sLen : Int) + (n : Int))) := by omega
  have hmul : (sLen + n) * inf.bytes ≤ 1073741824 * 65536 := Nat.mul_le_mul (by omega) hb
  have hfit := growslice_fits (bytes := inf.bytes) hg (by omega)
  have h48' : ¬ (281474976710656 < Builtin.nextslicecap (sLen + n) sCap * inf.bytes) := by omega
  simp only [Builtin.append_, h0, h1, g0, g1, Sem.run_bind, run_underlying hu, run_underlying hx, run_info hi, sizeOf, Result.andThen_ok, Sem.run_pure]
  split
  · simp [isIntD] at hxi
  · have hz' : (zeroValue E).run P w.drew = .ok pz w.drew := by simp [zeroValue, typeInfo, hi, hz]
    have e1 : ¬ (((sLen + n : Nat) : Int) > IntKind.i64.max ∧ (False ∨ inf.bytes = 0)) := by
      have : IntKind.i64.max = 9223372036854775807 := rfl
      rw [this]; omega
    have e2 : ¬ (Builtin.nextslicecap (sLen + n) sCap * inf.bytes > 2 ^ 48) := by omega
    simp only [Bool.false_eq_true, if_false, Bool.not_false, if_true, hlen, Result.andThen_ok, Sem.run_pure, Sem.run_bind, if_neg hn, run_info hi, if_neg e1, if_neg e2, run_choose_drew, Question.forced, run_askRoom, hold, hnew, hz', newRow, run_newObj_alloc]
    rfl
theorem run_append_in {st xt E ty : TypeId} {xd : TypeDesc} {inf : TypeInfo} {px : Value} {base : Option Addr} {sLen sCap n : Nat} {news : Array Value} {w' : World} (ats : Array TypeId) (args : Array Value)
    (h0 : ats[0]? = some st) (h1 : ats[1]? = some xt) (g0 : args[0]? = some (.slice base sLen sCap)) (g1 : args[1]? = some px)
    (hu : P.underlying st = some (.slice E)) (hx : P.underlying xt = some xd) (hxi : isIntD xd = false) (hi : P.info? E = some inf)
    (hlen : ∀ w : World, (Builtin.lenOf px).run P w = .ok n w) (hnew : (Builtin.firstCells inf.size n px).run P w = .ok news w) (hg : sLen + n ≤ sCap)
    (hst : match base with | some a => (storeCells (a.add (sLen * inf.size)) news.toList).run P w = .ok () w' | none => w' = w) :
    (Builtin.append_ ats ty args).run P w = .ok (.slice base (sLen + n) sCap) w' := by
  simp only [Builtin.append_, h0, h1, g0, g1, Sem.run_bind, run_underlying hu, run_underlying hx, run_info hi, sizeOf, Result.andThen_ok, Sem.run_pure]
  split
  · simp [isIntD] at hxi
  · simp only [Bool.false_eq_true, if_false, Bool.not_false, if_true, hlen, Result.andThen_ok, Sem.run_pure, Sem.run_bind, if_pos hg, hnew]
    cases base with
    | none => subst hst; rfl
    | some a => simp only [Sem.run_bind, hst, Result.andThen_ok, Sem.run_pure]
theorem grownCap_ge' (w : World) (need old : Nat) (e : TypeId) : need ≤ grownCap w need old e := by
  simp [grownCap, Question.cut]
theorem Stp.appNew (hw : WR φ h w) {olds news : List V} {polds pnews : Array Value} (ho : VRs φ olds polds.toList) (hn : VRs φ news pnews.toList) (pz : Value) {es need c : Nat} (hz : pz.cells.size = es) (hl : olds.length + news.length = need * es) (hc : need ≤ c)
    (sh : Bool) (E : TypeId) : ∃ φ', Stp φ h w φ' (h.new (.row (olds ++ news) sh false)).2 (w.drew.alloc (.cells (polds ++ pnews ++ Builtin.zeroCells pz.cells (c - need)) E)) ∧
      VR φ' (.slice h.next 0 es need none) (.slice (some ⟨w.heap.size, 0, none⟩) need c) := by
  have h1 := ho.length
  have h2 := hn.length
  simp only [Array.length_toList] at h1 h2
  have hzs : (Builtin.zeroCells pz.cells (c - need)).size = (c - need) * es := by simp [Builtin.zeroCells, hz]
  have hsz : (polds ++ pnews ++ Builtin.zeroCells pz.cells (c - need)).size = c * es := by
    simp only [Array.size_append, hzs]
    rw [show c * es = need * es + (c - need) * es from by rw [← Nat.add_mul]; congr 1; omega]
    omega
  have hf : φ h.next = none := hw.fresh _ (Nat.le_refl _)
  refine ⟨φ.upd h.next ⟨w.heap.size, 0, (polds ++ pnews ++ Builtin.zeroCells pz.cells (c - need)).size⟩, Stp.fresh hw hf (lo := .row (olds ++ news) sh false) (Nat.lt_succ_self _) (Nat.le_succ _) (fun j => Hp.get_new _ _ _) ?_ rfl rfl rfl rfl, ?_⟩
  · refine OR.rowPre E _ sh ?_ ?_
    · rw [hsz, List.length_append, hl]; exact Nat.mul_le_mul_right _ hc
    · intro i v hi
      have hr := (ho.append hn).mono (Emb.le_upd ⟨w.heap.size, 0, (polds ++ pnews ++ Builtin.zeroCells pz.cells (c - need)).size⟩ hf)
      obtain ⟨pv, g1, g2⟩ := hr.get hi
      refine ⟨pv, ?_, g2⟩
      rw [← Array.toList_append, Array.getElem?_toList] at g1
      have hlt := (Array.getElem?_eq_some_iff.1 g1).1
      rw [Array.getElem?_append_left hlt]
      exact g1
  · exact .slice (Emb.upd_self _ _ _) hc (fun _ => rfl) (fun c hc => by cases hc) (fun _ => by simp only [hsz]; omega)
theorem appendRow_rel (hw : WR φ h w) {st xt E ty : TypeId} {xd : TypeDesc} {inf : TypeInfo} {z : V} {px : Value} {n : Nat} {new : List V} {pnew : Array Value} (ats : Array TypeId) (args : Array Value)
    (h0 : ats[0]? = some st) (h1 : ats[1]? = some xt) (g1 : args[1]? = some px)
    (hu : P.underlying st = some (.slice E)) (hxx : P.underlying xt = some xd) (hxi : isIntD xd = false) (hi : P.info? E = some inf) (hz : zeroT P E = some z) (hes : 0 < inf.size) (hzl : z.cells.length = inf.size) (hby : inf.bytes ≤ 65536)
    (hlen : ∀ w : World, (Builtin.lenOf px).run P w = .ok n w) (hnew : ∀ w' : World, w'.heap = w.heap → (Builtin.firstCells inf.size n px).run P w' = .ok pnew w') (hnr : VRs φ new pnew.toList) (hnl : new.length = n * inf.size) (hone : new.all V.one = true)
    (hn0 : 0 < n) {id off len : Nat} {cap : Option Nat} {ps : Value} (hs : VR φ (.slice id off inf.size len cap) ps) (g0 : args[0]? = some ps) {v : V} {h' : Hp} (e : appendRow inf.size n new id off len cap h = some (v, h')) :
    ∃ φ' w' pv, (Builtin.append_ ats ty args).run P w = .ok pv w' ∧ Stp φ h w φ' h' w' ∧ VR φ' v pv := by
  cases hs with | slice hp hlc ha hc hnn =>
  rename_i p a pcap
  simp only [zeroT, Option.bind_eq_some_iff] at hz
  obtain ⟨inf', hi', pz, hpz, hz⟩ := hz
  rw [hi] at hi'; cases hi'
  have hzr := VR.ofConst (φ := φ) hz
  have hpzs : pz.cells.size = inf.size := by
    have := hzr.cells.length
    simp only [Array.length_toList] at this
    omega
  unfold appendRow at e
  split at e
  · rename_i cs sh ext hg
    rw [br_some] at e
    obtain ⟨hle, e⟩ := e
    have hle := Nat.le_of_ble_eq_true hle
    obtain ⟨p', C, t, fz, hp', hblk, hsz, hcl, hcells, hfz⟩ := row_live hw hg
    rw [hp] at hp'; cases hp'
    have hold : ∃ polds : Array Value, (∀ w' : World, w'.heap = w.heap → (Builtin.firstCells inf.size len (.slice (some a) len pcap)).run P w' = .ok polds w') ∧ VRs φ ((cs.drop off).take (len * inf.size)) polds.toList ∧ ((cs.drop off).take (len * inf.size)).length = len * inf.size := by
      have er : rowAt h id off (len * inf.size) = some ((cs.drop off).take (len * inf.size)) := by
        unfold rowAt; rw [hg]; simp only [br_some]; exact ⟨Nat.ble_eq_true_of_le hle, trivial⟩
      obtain ⟨q, pl, hq, hr, hpl, hcell⟩ := rowAt_rel hw er
      rw [hp] at hq; cases hq
      refine ⟨pl.toArray, ?_, by simpa using hr, by rw [hr.length, hpl]⟩
      intro w' hw'
      rcases Nat.eq_zero_or_pos len with hl0 | hl0
      · subst hl0
        simp only [Nat.zero_mul] at hpl
        have : pl = [] := List.eq_nil_of_length_eq_zero hpl
        subst this
        simp only [Builtin.firstCells, Nat.zero_mul]
        exact run_loadCells_zero _
      · rw [ha (by omega)]
        refine run_firstCells_some w' inf.size len _ _ _ pl hpl ?_
        intro j u hj
        have := hcell j u hj
        unfold World.cell? at this ⊢
        rw [hw']; exact this
    obtain ⟨polds, hold, hor, hol⟩ := hold
    have hcopy : pcap < len + n → ∀ sh', len + n < 1073741824 → ∃ φ' w', (Builtin.append_ ats ty args).run P w = .ok (.slice (some ⟨w.heap.size, 0, none⟩) (len + n) (grownCap w (len + n) pcap E)) w' ∧
        Stp φ h w φ' (h.new (.row ((cs.drop off).take (len * inf.size) ++ new) sh' false)).2 w' ∧ VR φ' (.slice h.next 0 inf.size (len + n) none) (.slice (some ⟨w.heap.size, 0, none⟩) (len + n) (grownCap w (len + n) pcap E)) := by
      intro hlt sh' hneed
      obtain ⟨φ', hs', hv'⟩ := Stp.appNew hw hor hnr pz hpzs (need := len + n) (c := grownCap w (len + n) pcap E) (by rw [hol, hnl, Nat.add_mul]) (grownCap_ge' _ _ _ _) sh' E
      exact ⟨φ', _, run_append_copy ats args h0 h1 g0 g1 hu hxx hxi hi hpz hlen (hnew _ rfl) (hold _ rfl) hlt hneed hby, hs', hv'⟩
    have hin : len + n ≤ pcap → ∀ w', (storeCells ⟨p.b, p.o + (off + len * inf.size), none⟩ pnew.toList).run P w = .ok () w' → (Builtin.append_ ats ty args).run P w = .ok (.slice (some a) (len + n) pcap) w' := by
      intro hle' w' hst
      refine run_append_in ats args h0 h1 g0 g1 hu hxx hxi hi hlen (hnew _ rfl) hle' ?_
      rw [ha (by omega)]
      simp only [addr_add, Nat.add_assoc]
      exact hst
    have happ : ∀ sh', appNew inf.size (len + n) ((cs.drop off).take (len * inf.size) ++ new) sh' h = some (v, h') → pcap < len + n → ∃ φ' w' pv, (Builtin.append_ ats ty args).run P w = .ok pv w' ∧ Stp φ h w φ' h' w' ∧ VR φ' v pv := by
      intro sh' e hlt
      unfold appNew at e
      rw [br_some] at e
      obtain ⟨hneed, e⟩ := e
      have hneed : len + n < 1073741824 := by simpa [Nat.blt_eq] using hneed
      cases e
      obtain ⟨φ', w', r1, r2, r3⟩ := hcopy hlt sh' hneed
      exact ⟨φ', w', _, r1, r2, r3⟩
    split at e
    · rename_i c
      have hpc := hc c rfl
      subst hpc
      rw [br_eq] at e
      split at e
      · rename_i hroom
        have hroom := Nat.le_of_ble_eq_true hroom
        simp only [Option.map_eq_some_iff, Prod.mk.injEq] at e
        obtain ⟨h1', e1, rfl, rfl⟩ := e
        obtain ⟨w', hr, hs'⟩ := writeRow_rel (P := P) hw hp hnr hone e1
        exact ⟨φ, w', _, hin hroom w' hr, hs', .slice hp hroom ha (fun c hc => by cases hc; rfl) (fun hc => by cases hc)⟩
      · rename_i hroom
        have hroom : ¬ len + n ≤ pcap := fun hh => hroom (Nat.ble_eq_true_of_le hh)
        exact happ false e (by omega)
    · have hend := hnn rfl
      cases ext
      case true => cases e
      rw [br_false, br_eq] at e
      split at e
      · rename_i hroom
        have hroom := Nat.le_of_ble_eq_true hroom
        have hroom2 : len + n ≤ pcap := by
          have : (len + n) * inf.size ≤ pcap * inf.size := by omega
          exact Nat.le_of_mul_le_mul_right this hes
        simp only [Option.map_eq_some_iff, Prod.mk.injEq] at e
        obtain ⟨h1', e1, rfl, rfl⟩ := e
        obtain ⟨w', hr, hs'⟩ := writeRow_rel (P := P) hw hp hnr hone e1
        exact ⟨φ, w', _, hin hroom2 w' hr, hs', .slice hp hroom2 ha (fun c hc => by cases hc) (fun _ => hend)⟩
      · rename_i hroom
        unfold appNew at e
        rw [br_some] at e
        obtain ⟨hneed, e⟩ := e
        have hneed : len + n < 1073741824 := by simpa [Nat.blt_eq] using hneed
        cases e
        by_cases hcc : len + n ≤ pcap
        · 
          have hmul : (len + n) * inf.size ≤ pcap * inf.size := Nat.mul_le_mul_right _ hcc
          have hadd : (len + n) * inf.size = len * inf.size + n * inf.size := Nat.add_mul _ _ _
          obtain ⟨hf1, hf2⟩ := hfz rfl
          have hpl := hnr.length
          simp only [Array.length_toList] at hpl
          obtain ⟨w', C', hr, hs', hcl'⟩ := run_storeCells_over (P := P) p.b (p.o + (off + len * inf.size)) t fz pnew.toList 0 C w hblk hf1 (by simp only [Array.length_toList]; omega) (hnr.all_one hone)
          have hCs : C'.size = C.size := by
            rw [← Array.length_toList, hcl']
            simp only [List.length_append, List.length_take, List.length_drop, Array.length_toList]
            omega
          refine ⟨_, w', _, hin hcc w' hr, Stp.rebase hw (q := ⟨p.b, p.o + off, p.sz⟩) hg rfl hp rfl hs' ?_ rfl, ?_⟩
          · have hr' := (hor.append hnr).mono (Emb.le_upd ⟨p.b, p.o + off, p.sz⟩ (hw.fresh _ (Nat.le_refl _)))
            have htl : ((cs.drop off).take (len * inf.size) ++ new).length = (len + n) * inf.size := by rw [List.length_append, hol, hnl]; omega
            have hpo : polds.toList.length = len * inf.size := by rw [← hor.length]; exact hol
            refine .row (hCs.trans hsz) (by rw [htl]; simp only; omega) ?_ (fun _ => ⟨by rw [hCs]; exact hf1, hf2⟩)
            intro i u hi
            have hlt := (List.getElem?_eq_some_iff.1 hi).1
            rw [htl] at hlt
            have hl1 : (C.toList.take (p.o + (off + len * inf.size) + 0)).length = p.o + (off + len * inf.size) := by
              rw [List.length_take, Array.length_toList]; omega
            rw [← Array.getElem?_toList, hcl']
            by_cases ci : i < len * inf.size
            · 
              rw [List.getElem?_append_left (by omega), List.getElem?_take, if_pos ci, List.getElem?_drop] at hi
              obtain ⟨pv, q1, q2⟩ := hcells _ _ hi
              refine ⟨pv, ?_, q2.mono (Emb.le_upd _ (hw.fresh _ (Nat.le_refl _)))⟩
              rw [List.append_assoc, List.getElem?_append_left (by rw [hl1]; simp only; omega), List.getElem?_take, if_pos (by simp only; omega), Array.getElem?_toList, ← q1]
              congr 1; simp only; omega
            · rw [List.getElem?_append_right (by omega), hol] at hi
              obtain ⟨pv, q1, q2⟩ := hnr.get hi
              refine ⟨pv, ?_, q2.mono (Emb.le_upd _ (hw.fresh _ (Nat.le_refl _)))⟩
              rw [List.append_assoc, List.getElem?_append_right (by rw [hl1]; simp only; omega), hl1, List.getElem?_append_left (by simp only [Array.length_toList]; omega), ← q1]
              congr 1; simp only; omega
          · exact .slice (Emb.upd_self _ _ _) hcc (fun h0 => ha h0) (fun c hc => by cases hc) (fun _ => by simp only; omega)
        · obtain ⟨φ', w', r1, r2, r3⟩ := hcopy (by omega) sh hneed
          refine ⟨φ', w', _, r1, r2.sub ⟨rfl, ?_⟩, r3⟩
          intro i o hi
          rw [Hp.get_new, Hp.get_put, Hp.next_put] at hi
          rw [Hp.get_new]
          split
          · rename_i e1; rw [if_pos e1] at hi; exact hi
          · rename_i e1
            rw [if_neg e1] at hi
            split at hi
            · cases hi
            · exact hi
  · cases e
theorem appendV_rel (hw : WR φ h w) {st xt ty : TypeId} {s x : V} {ps px : Value} (hs : VR φ s ps) (hx : VR φ x px) {v : V} {h' : Hp} (e : appendV P st xt s x h = some (v, h')) (ats : Array TypeId) (args : Array Value)
    (h0 : ats[0]? = some st) (h1 : ats[1]? = some xt) (g0 : args[0]? = some ps) (g1 : args[1]? = some px) :
    ∃ φ' w' pv, (Builtin.append_ ats ty args).run P w = .ok pv w' ∧ Stp φ h w φ' h' w' ∧ VR φ' v pv := by
  unfold appendV at e
  split at e
  · rename_i E xd hu hxx
    rw [br_eq] at e
    split at e
    · cases e
    · rename_i hxi
      have hxi : isIntD xd = false := by simpa using hxi
      split at e
      · rename_i es by_ z n hes hby hz hl
        rw [br_some] at e
        obtain ⟨hok, e⟩ := e
        unfold appOk at hok
        rw [Bool.and_eq_true, Bool.and_eq_true] at hok
        obtain ⟨hes0, hbl, hzl⟩ := hok
        have hes0 : 0 < es := by simpa [Nat.blt_eq] using hes0
        have hbl := Nat.le_of_ble_eq_true hbl
        have hzl := Nat.eq_of_beq_eq_true hzl
        split at e
        · rename_i new hsrc
          rw [br_some] at e
          obtain ⟨hone, e⟩ := e
          simp only [szT, bytesT, Option.map_eq_some_iff] at hes hby
          obtain ⟨inf, hi, rfl⟩ := hes
          obtain ⟨inf', hi', rfl⟩ := hby
          rw [hi] at hi'; cases hi'
          have hlen : ∀ w : World, (Builtin.lenOf px).run P w = .ok n w := fun w => run_lenOf hx hl
          obtain ⟨pnew, hnew', hnr, hnl⟩ := srcCells_rel (P := P) hw hx hl (Nat.le_refl n) hsrc
          have hnew := hnew' w rfl
          unfold appendTo at e
          split at e
          · cases hs
            split at e
            · cases e
              have hp0 : pnew = #[] := by
                have := hnr.length
                rw [hnl] at this
                apply Array.ext'
                exact List.eq_nil_of_length_eq_zero (by omega)
              exact ⟨φ, w, _, run_append_in (base := none) (sLen := 0) (sCap := 0) (n := 0) (news := pnew) ats args h0 h1 g0 g1 hu hxx hxi hi hlen hnew (Nat.le_refl _) rfl, Stp.refl hw, .nilS⟩
            · rename_i hn0
              unfold appNew at e
              rw [br_some] at e
              obtain ⟨hneed, e⟩ := e
              have hneed : n < 1073741824 := by simpa [Nat.blt_eq] using hneed
              cases e
              simp only [zeroT, Option.bind_eq_some_iff] at hz
              obtain ⟨inf', hi', pz, hpz, hz⟩ := hz
              rw [hi] at hi'; cases hi'
              have hpzs : pz.cells.size = inf.size := by
                have := (VR.ofConst (φ := φ) hz).cells.length
                simp only [Array.length_toList] at this
                omega
              have hpos : 0 < n := Nat.pos_of_ne_zero (fun hh => hn0 hh)
              have hr := run_append_copy (ty := ty) (base := none) (sLen := 0) (sCap := 0) (olds := #[]) ats args h0 h1 g0 g1 hu hxx hxi hi hpz hlen (hnew' _ rfl) (run_firstCells_none _ _ _ _ _) (by omega) (by omega) hbl
              obtain ⟨φ', hs', hv'⟩ := Stp.appNew hw (olds := []) (polds := #[]) .nil hnr pz hpzs (need := n) (c := grownCap w (0 + n) 0 E) (by simpa using hnl) (by have := grownCap_ge' w (0 + n) 0 E; omega) false E
              simp only [Nat.zero_add] at hr hs' hv'
              exact ⟨φ', _, _, hr, hs', hv'⟩
          · rename_i id off es' len cap
            rw [br_some] at e
            obtain ⟨heq, e⟩ := e
            have heq := Nat.eq_of_beq_eq_true heq
            subst heq
            split at e
            · cases e
              have hs2 := hs
              cases hs with | slice hp hlc ha hc hnn =>
              rename_i p a pcap
              have hp0 : pnew = #[] := by
                have := hnr.length
                rw [hnl] at this
                apply Array.ext'
                exact List.eq_nil_of_length_eq_zero (by omega)
              refine ⟨φ, w, _, run_append_in (w := w) (w' := w) (base := some a) (sLen := len) (sCap := pcap) (n := 0) (news := pnew) ats args h0 h1 g0 g1 hu hxx hxi hi hlen hnew (by omega) (by subst hp0; rfl), Stp.refl hw, hs2⟩
            · rename_i hn0
              exact appendRow_rel hw ats args h0 h1 g1 hu hxx hxi hi hz hes0 hzl hbl hlen hnew' hnr hnl hone (Nat.pos_of_ne_zero (fun hh => hn0 hh)) hs g0 e
          · cases e
        · cases e
      · cases e
  · cases e
end Go.Ev
end
section
namespace Go.Ev
variable {P : Program} {φ : Emb} {h : Hp} {w : World}
theorem run_copy {dt E ty : TypeId} {px : Value} {base : Option Addr} {dLen dCap n0 es : Nat} {cells : Array Value} {w' : World} (ats : Array TypeId) (args : Array Value)
    (h0 : ats[0]? = some dt) (g0 : args[0]? = some (.slice base dLen dCap)) (g1 : args[1]? = some px) (hu : P.underlying dt = some (.slice E)) (hs : szT P E = some es)
    (hlen : (Builtin.lenOf px).run P w = .ok n0 w) (hc : (Builtin.firstCells es (Nat.min n0 dLen) px).run P w = .ok cells w)
    (hst : match base with | some a => (storeCells a cells.toList).run P w = .ok () w' | none => w' = w) :
    (Builtin.copy_ ats ty args).run P w = .ok (.int .i64 (Nat.min n0 dLen)) w' := by
  simp only [Builtin.copy_, h0, g0, g1, Sem.run_bind, run_underlying hu, run_szT hs, Result.andThen_ok, Sem.run_pure, hlen, hc]
  cases base with
  | none => subst hst; rfl
  | some a => simp only [Sem.run_bind, hst, Result.andThen_ok, Sem.run_pure]; rfl
theorem firstCells_zero {x : V} {px : Value} (hx : VR φ x px) {m : Nat} (hl : lenOfV x = some m) (es : Nat) : (Builtin.firstCells es 0 px).run P w = .ok #[] w := by
  unfold lenOfV at hl
  split at hl
  · cases hx; simp [Builtin.firstCells]
  · cases hx
    simp only [Builtin.firstCells, Nat.zero_mul]
    exact run_loadCells_zero _
  · cases hx
    simp only [Builtin.firstCells, Sem.run_pure]
    rw [extract_bytes]
    simp
  · cases hl
theorem copyV_rel (hw : WR φ h w) {dt ty : TypeId} {d x : V} {pd px : Value} (hd : VR φ d pd) (hx : VR φ x px) {v : V} {h' : Hp} (e : copyV P dt d x h = some (v, h')) (ats : Array TypeId) (args : Array Value)
    (h0 : ats[0]? = some dt) (g0 : args[0]? = some pd) (g1 : args[1]? = some px) :
    ∃ w' pv, (Builtin.copy_ ats ty args).run P w = .ok pv w' ∧ Stp φ h w φ h' w' ∧ VR φ v pv := by
  unfold copyV at e
  split at e
  · rename_i E hu
    split at e
    · rename_i es n0 hs hl
      split at e
      · cases e; cases hd
        have hn : Nat.min n0 0 = 0 := Nat.min_zero n0
        refine ⟨w, _, run_copy (w := w) (w' := w) (cells := #[]) ats args h0 g0 g1 hu hs (run_lenOf hx hl) (by rw [hn]; exact firstCells_zero hx hl es) rfl, Stp.refl hw, ?_⟩
        rw [hn]; exact .int _ _
      · rename_i id off es' len cap
        rw [br_some] at e
        obtain ⟨heq, e⟩ := e
        have heq := Nat.eq_of_beq_eq_true heq
        subst heq
        cases hd with | slice hp hlc ha hc hnn =>
        rename_i p a pcap
        unfold copyTo at e
        split at e
        · rename_i hm
          cases e
          refine ⟨w, _, run_copy (w := w) (w' := w) (cells := #[]) ats args h0 g0 g1 hu hs (run_lenOf hx hl) (by rw [hm]; exact firstCells_zero hx hl _) rfl, Stp.refl hw, ?_⟩
          rw [hm]; exact .int _ _
        · rename_i hm
          split at e
          · rename_i new hsrc
            rw [br_some, Bool.and_eq_true] at e
            obtain ⟨⟨hnl, hone⟩, e⟩ := e
            simp only [Option.map_eq_some_iff, Prod.mk.injEq] at e
            obtain ⟨h1', e1, rfl, rfl⟩ := e
            obtain ⟨pnew, hnew, hnr, -⟩ := srcCells_rel (P := P) hw hx hl (Nat.min_le_left n0 len) hsrc
            obtain ⟨w', hr, hst⟩ := writeRow_rel (P := P) hw hp hnr hone e1
            have hmin : Nat.min n0 len ≤ len := Nat.min_le_right _ _
            have hpos : 0 < Nat.min n0 len := Nat.pos_of_ne_zero hm
            refine ⟨w', _, run_copy (w := w) (w' := w') (cells := pnew) ats args h0 g0 g1 hu hs (run_lenOf hx hl) (hnew w rfl) ?_, hst, .int _ _⟩
            rw [ha (by omega)]
            exact hr
          · cases e
      · cases e
    · cases e
  · cases e
theorem run_setObj {r : Nat} {o o' : Obj} (hb : w.heap[r]? = some o) (hc : ∀ c t f, o ≠ .cells c t f) : (setObj r o').run P w = .ok () { w with heap := w.heap.setIfInBounds r o' } := by
  cases o <;> first
    | exact absurd rfl (hc _ _ _)
    | simp only [setObj, Sem.run, hb]
theorem BlockSet.of_setObj {r : Nat} {o o' : Obj} (hb : w.heap[r]? = some o) : BlockSet w r o' { w with heap := w.heap.setIfInBounds r o' } := by
  have hlt := (Array.getElem?_eq_some_iff.1 hb).1
  refine ⟨by simp, by simp [hlt], ?_, rfl, rfl, rfl⟩
  intro k hk
  exact Array.getElem?_setIfInBounds_ne (Ne.symm hk)
theorem bits_rel : ∀ (n : Nat) (a b : V) (pa pb : Value), VR φ a pa → VR φ b pb → V.bits n a b = true → ∀ k, Instr.sameBits (n + k) pa pb = true
  | 0, _, _, _, _, _, _, e, _ => by cases e
  | n + 1, a, b, pa, pb, ha, hb, e, k => by
    have hm : n + 1 + k = (n + k) + 1 := by omega
    rw [hm]
    simp only [V.bits, bitsStep] at e
    split at e
    · cases ha; cases hb; simpa [Instr.sameBits] using e
    · cases ha; cases hb
      rw [Bool.and_eq_true, kbeq_iff, fbeq_eq] at e
      simp only [Instr.sameBits, e.1, e.2, beq_self_eq_true, Bool.and_self]
    · cases ha; cases hb
      have := eq_of_beq e
      subst this
      simp only [Instr.sameBits]
      rw [beq_toListBytes]
      exact beq_self_eq_true _
    · rename_i xs ys
      obtain ⟨pxs, rfl, hxs⟩ := ha.agg_inv
      obtain ⟨pys, rfl, hys⟩ := hb.agg_inv
      have key : ∀ (xs ys : List V) (pxs pys : List Value), VRs φ xs pxs → VRs φ ys pys → sameList (V.bits n) xs ys = true → pxs.length = pys.length ∧ (pxs.zip pys).all (fun (x, y) => Instr.sameBits (n + k) x y) = true := by
        intro xs
        induction xs with
        | nil =>
          intro ys pxs pys h1 h2 e
          cases ys with
          | nil => cases h1; cases h2; exact ⟨rfl, rfl⟩
          | cons _ _ => simp [sameList] at e
        | cons x xs ih =>
          intro ys pxs pys h1 h2 e
          cases ys with
          | nil => simp [sameList] at e
          | cons y ys =>
            cases h1 with | cons hx hxs =>
            cases h2 with | cons hy hys =>
            simp only [sameList, Bool.and_eq_true] at e
            obtain ⟨i1, i2⟩ := ih ys _ _ hxs hys e.2
            refine ⟨by simp [i1], ?_⟩
            simp only [List.zip_cons_cons, List.all_cons, Bool.and_eq_true]
            exact ⟨bits_rel n x y _ _ hx hy e.1 k, i2⟩
      obtain ⟨k1, k2⟩ := key xs ys pxs pys hxs hys e
      simp only [Instr.sameBits, List.size_toArray, k1, beq_self_eq_true, Bool.true_and]
      simpa using k2
    · cases e
theorem MRs.set {es : List ME} {pes : List MapEntry} (hr : MRs φ es pes) (i : Nat) {e : ME} {pe : MapEntry} (he : MR φ e pe) : MRs φ (es.set i e) (pes.set i pe) := by
  induction es generalizing pes i with
  | nil => cases hr; simp; exact .nil
  | cons x l ih =>
    cases hr with
    | cons hx hl => cases i with
      | zero => simp; exact .cons he hl
      | succ i => simp; exact .cons hx (ih hl i)
theorem MRs.eraseIdx {es : List ME} {pes : List MapEntry} (hr : MRs φ es pes) (i : Nat) : MRs φ (es.eraseIdx i) (pes.eraseIdx i) := by
  induction es generalizing pes i with
  | nil => cases hr; simp; exact .nil
  | cons x l ih =>
    cases hr with
    | cons hx hl => cases i with
      | zero => simpa using hl
      | succ i => simp; exact .cons hx (ih hl i)
theorem MRs.snoc {es : List ME} {pes : List MapEntry} (hr : MRs φ es pes) {e : ME} {pe : MapEntry} (he : MR φ e pe) : MRs φ (es ++ [e]) (pes ++ [pe]) := by
  induction es generalizing pes with
  | nil => cases hr; exact .cons he .nil
  | cons x l ih => cases hr with | cons hx hl => exact .cons hx (ih hl)
theorem MR.inv {e : ME} {pe : MapEntry} (hr : MR φ e pe) : VR φ e.k pe.key ∧ VR φ e.v pe.val ∧ e.born = pe.born := by
  cases hr with | mk hk hv => exact ⟨hk, hv, rfl⟩
theorem findKey_rel (hw : WR φ h w) {kt : TypeId} {k : V} {pk : Value} (hk : VR φ k pk) (hck : ckOk P 8 kt k = true) {es : List ME} {pes : Array MapEntry} (hr : MRs φ es pes.toList) {r : Option (Nat × ME)} (e : findV P h kt k es 0 = some r) :
    (∀ em, (Instr.checkKey em 10000 kt pk).run P w = .ok () w) ∧ ∃ pr, (Instr.findKey kt pk pes.toList).run P w = .ok pr w ∧
      (match r with | none => pr = none | some (j, e) => ∃ pe, es[j]? = some e ∧ pes[j]? = some pe ∧ MR φ e pe ∧ pr = some (j, pe.val)) := by
  refine ⟨fun em => ckOk_rel (P := P) (φ := φ) (w := w) 8 kt k pk hk hck em 9992, ?_⟩
  obtain ⟨pr, h1, h2⟩ := findV_rel hw kt hk es pes.toList 0 r hr e
  refine ⟨pr, run_findKey_of kt (ckOk_under hck) h1, ?_⟩
  cases r with
  | none => exact h2
  | some je =>
    obtain ⟨j, x⟩ := je
    obtain ⟨n, pe, e1, e2, e3, e4, e5⟩ := h2
    have : j = n := by omega
    subst this
    exact ⟨pe, e2, by simpa using e3, e4, e5⟩
theorem deleteV_rel (hw : WR φ h w) {t ty : TypeId} {m k : V} {pm pk : Value} (hm : VR φ m pm) (hk : VR φ k pk) {h' : Hp} (e : deleteV P t m k h = some h') (ats : Array TypeId) (args : Array Value)
    (h0 : ats[0]? = some t) (g0 : args[0]? = some pm) (g1 : args[1]? = some pk) :
    ∃ w', (Builtin.delete_ ats ty args).run P w = .ok (.tuple #[]) w' ∧ Stp φ h w φ h' w' := by
  unfold deleteV at e
  split at e
  · cases e
  · rename_i kt et hmt
    have hu := mapT_under hmt
    split at e
    · rename_i hck
      split at e
      · cases e; cases hm
        have hck2 : ∀ em, (Instr.checkKey em 10000 kt pk).run P w = .ok () w := fun em => ckOk_rel (P := P) (φ := φ) (w := w) 8 kt k pk hk hck em 9992
        refine ⟨w, ?_, Stp.refl hw⟩
        simp only [Builtin.delete_, h0, g0, g1, Sem.run_bind, run_underlying hu, Result.andThen_ok, Sem.run_pure, hck2]
      · rename_i r
        split at e
        · rename_i es clock hg
          obtain ⟨p, pes, hp, hb, hr⟩ := map_live hw hg
          cases hm with | map hp' =>
          rw [hp] at hp'; cases hp'
          split at e
          · rename_i i x hf
            cases e
            obtain ⟨hck2, pr, h1, pe, e1, e2, e3, rfl⟩ := findKey_rel hw hk hck hr hf
            refine ⟨_, ?_, Stp.set hw hg rfl hp (BlockSet.of_setObj (o' := .map (pes.toList.eraseIdx i).toArray clock) hb) (.mapo (hr.eraseIdx i)) rfl⟩
            have : pes.eraseIdxIfInBounds i = (pes.toList.eraseIdx i).toArray := by
              apply Array.ext'
              simp
            simp only [Builtin.delete_, h0, g0, g1, Sem.run_bind, run_underlying hu, Result.andThen_ok, Sem.run_pure, run_getObj hb (by simp), hck2, h1, run_setObj hb (by simp), this]
          · rename_i hf
            cases e
            obtain ⟨hck2, pr, h1, rfl⟩ := findKey_rel hw hk hck hr hf
            have hset := Stp.set hw hg rfl hp (BlockSet.of_setObj (o' := .map pes clock) hb) (lo' := .mapo es clock) (by simpa using OR.mapo (p := p) (clock := clock) hr) rfl
            refine ⟨_, ?_, hset.sub ⟨rfl, ?_⟩⟩
            · simp only [Builtin.delete_, h0, g0, g1, Sem.run_bind, run_underlying hu, Result.andThen_ok, Sem.run_pure, run_getObj hb (by simp), hck2, h1, run_setObj hb (by simp)]
            · intro j o hj
              rw [Hp.get_put]
              split
              · rename_i e2; subst e2; rw [hg] at hj; exact hj
              · exact hj
          · cases e
        · cases e
      · cases e
    · cases e
theorem mapSet_rel (hw : WR φ h w) {t : TypeId} {m k v : V} {pm pk pv : Value} (hm : VR φ m pm) (hk : VR φ k pk) (hv : VR φ v pv) {h' : Hp} (e : mapSet P t m k v h = some h') :
    ∃ w', (Instr.mapUpdate t pm pk pv).run P w = .ok () w' ∧ Stp φ h w φ h' w' := by
  unfold mapSet at e
  split at e
  · rename_i kt et r hmt
    have hu := mapT_under hmt
    split at e
    · rename_i hck
      split at e
      · rename_i es clock hg
        obtain ⟨p, pes, hp, hb, hr⟩ := map_live hw hg
        cases hm with | map hp' =>
        rw [hp] at hp'; cases hp'
        split at e
        · rename_i i x hf
          split at e
          · rename_i hbits
            cases e
            obtain ⟨hck2, pr, h1, pe, e1, e2, e3, rfl⟩ := findKey_rel hw hk hck hr hf
            obtain ⟨m1, m2, m3⟩ := e3.inv
            have hsb := bits_rel 8 _ _ _ _ m1 hk hbits 9992
            have hset := Stp.set hw hg rfl hp (BlockSet.of_setObj (o' := .map (pes.toList.set i ⟨pk, pv, x.born⟩).toArray clock) hb) (.mapo (hr.set i (e := ⟨k, v, x.born⟩) (.mk hk hv))) rfl
            refine ⟨_, ?_, hset⟩
            have hmod : (pes.modify i fun e => { e with key := pk, val := pv }) = (pes.toList.set i ⟨pk, pv, x.born⟩).toArray := by
              apply Array.ext'
              apply List.ext_getElem?
              intro j
              rw [Array.toList_modify, List.getElem?_modify, List.getElem?_set]
              rw [← Array.getElem?_toList] at e2
              have hlt := (List.getElem?_eq_some_iff.1 e2).1
              by_cases hj : i = j
              · subst hj
                rw [e2]
                simp [hlt, m3]
                omega
              · simp [hj]
            simp only [Instr.mapUpdate, Sem.run_bind, run_underlying hu, Result.andThen_ok, Sem.run_pure, run_getObj hb (by simp), hck2, h1, Instr.keyThatStays, e2, Option.map_some, Option.getD_some, hsb, if_true, run_setObj hb (by simp), hmod]
          · cases e
        · rename_i hf
          cases e
          obtain ⟨hck2, pr, h1, rfl⟩ := findKey_rel hw hk hck hr hf
          have hset := Stp.set hw hg rfl hp (BlockSet.of_setObj (o' := .map (pes.toList ++ [(⟨pk, pv, clock⟩ : MapEntry)]).toArray (clock + 1)) hb) (.mapo (hr.snoc (e := ⟨k, v, clock⟩) (pe := ⟨pk, pv, clock⟩) (.mk hk hv))) rfl
          refine ⟨_, ?_, hset⟩
          have hpush : pes.push ⟨pk, pv, clock⟩ = (pes.toList ++ [(⟨pk, pv, clock⟩ : MapEntry)]).toArray := by apply Array.ext'; simp
          simp only [Instr.mapUpdate, Sem.run_bind, run_underlying hu, Result.andThen_ok, Sem.run_pure, run_getObj hb (by simp), hck2, h1, run_setObj hb (by simp), hpush]
        · cases e
      · cases e
    · cases e
  · cases e
theorem mapEntryV_rel (hw : WR φ h w) {t : TypeId} {m k v : V} {pm pk : Value} (hm : VR φ m pm) (hk : VR φ k pk) {h' : Hp} (e : mapEntryV P t m k h = some (v, h')) :
    ∃ w' pv, (Instr.mapEntry t pm pk).run P w = .ok pv w' ∧ Stp φ h w φ h' w' ∧ VR φ v pv := by
  unfold mapEntryV at e
  split at e
  · rename_i kt et r hmt
    have hu := mapT_under hmt
    split at e
    · rename_i hck
      split at e
      · rename_i es clock hg
        obtain ⟨p, pes, hp, hb, hr⟩ := map_live hw hg
        cases hm with | map hp' =>
        rw [hp] at hp'; cases hp'
        split at e
        · rename_i i x hf
          split at e
          · rename_i hbits
            cases e
            obtain ⟨hck2, pr, h1, pe, e1, e2, e3, rfl⟩ := findKey_rel hw hk hck hr hf
            obtain ⟨m1, m2, m3⟩ := e3.inv
            have hsb := bits_rel 8 _ _ _ _ m1 hk hbits 9992
            have hset := Stp.set hw hg rfl hp (BlockSet.of_setObj (o' := .map (pes.toList.set i ⟨pk, pe.val, x.born⟩).toArray clock) hb) (.mapo (hr.set i (e := ⟨k, x.v, x.born⟩) (.mk hk m2))) rfl
            refine ⟨_, _, ?_, hset, .tuple (pcs := [pe.val, .int .i64 x.born]) (.cons m2 (.cons (.int _ _) .nil))⟩
            have hmod : (pes.modify i fun e => { e with key := pk }) = (pes.toList.set i ⟨pk, pe.val, x.born⟩).toArray := by
              apply Array.ext'
              apply List.ext_getElem?
              intro j
              rw [Array.toList_modify, List.getElem?_modify, List.getElem?_set]
              have e2' := e2
              rw [← Array.getElem?_toList] at e2'
              have hlt := (List.getElem?_eq_some_iff.1 e2').1
              by_cases hj : i = j
              · subst hj
                rw [e2']
                simp [hlt, m3]
                omega
              · simp [hj]
            simp only [Instr.mapEntry, Sem.run_bind, run_underlying hu, Result.andThen_ok, Sem.run_pure, run_getObj hb (by simp), hck2, h1, Instr.keyThatStays, e2, Option.map_some, Option.getD_some, hsb, if_true, run_setObj hb (by simp), hmod, goInt, m3]
          · cases e
        · rename_i hf
          split at e
          · rename_i z hz
            cases e
            obtain ⟨hck2, pr, h1, rfl⟩ := findKey_rel hw hk hck hr hf
            obtain ⟨pz, z1, z2⟩ := run_zeroT (P := P) (φ := φ) (w := w) hz
            have hset := Stp.set hw hg rfl hp (BlockSet.of_setObj (o' := .map (pes.toList ++ [(⟨pk, pz, clock⟩ : MapEntry)]).toArray (clock + 1)) hb) (.mapo (hr.snoc (e := ⟨k, z, clock⟩) (pe := ⟨pk, pz, clock⟩) (.mk hk z2))) rfl
            refine ⟨_, _, ?_, hset, .tuple (pcs := [pz, .int .i64 clock]) (.cons z2 (.cons (.int _ _) .nil))⟩
            have hpush : pes.push ⟨pk, pz, clock⟩ = (pes.toList ++ [(⟨pk, pz, clock⟩ : MapEntry)]).toArray := by apply Array.ext'; simp
            simp only [Instr.mapEntry, Sem.run_bind, run_underlying hu, Result.andThen_ok, Sem.run_pure, run_getObj hb (by simp), hck2, h1, z1, run_setObj hb (by simp), hpush, goInt]
          · cases e
        · cases e
      · cases e
    · cases e
  · cases e
theorem entryStoreV_rel (hw : WR φ h w) {t : TypeId} {m s v : V} {pm ps pv : Value} (hm : VR φ m pm) (hs : VR φ s ps) (hv : VR φ v pv) {h' : Hp} (e : entryStoreV m s v h = some h') :
    ∃ w', (Instr.entryStore t pm ps pv).run P w = .ok () w' ∧ Stp φ h w φ h' w' := by
  unfold entryStoreV at e
  split at e
  · rename_i r k n
    split at e
    · rename_i es clock hg
      obtain ⟨p, pes, hp, hb, hr⟩ := map_live hw hg
      cases hm with | map hp' =>
      rw [hp] at hp'; cases hp'
      cases hs
      split at e
      · rename_i i hi
        split at e
        · rename_i x hx
          cases e
          obtain ⟨pe, e2, e3⟩ := hr.get hx
          obtain ⟨m1, m2, m3⟩ := e3.inv
          have hidx : pes.findIdx? (fun e => (e.born : Int) == n) = some i := by
            rw [← hi]
            have key : ∀ (es : List ME) (pes : List MapEntry), MRs φ es pes → pes.findIdx? (fun e => (e.born : Int) == n) = es.findIdx? (fun e => (e.born : Int) == n) := by
              intro es
              induction es with
              | nil => intro pes h1; cases h1; rfl
              | cons y es ih =>
                intro pes h1
                cases h1 with | cons hy hys =>
                simp only [List.findIdx?_cons, ih _ hys, hy.inv.2.2]
            have := key es pes.toList hr
            rw [← this]
            obtain ⟨l⟩ := pes
            simp only [List.findIdx?_toArray]
          have hset := Stp.set hw hg rfl hp (BlockSet.of_setObj (o' := .map (pes.toList.set i ⟨pe.key, pv, x.born⟩).toArray clock) hb) (.mapo (hr.set i (e := ⟨x.k, v, x.born⟩) (.mk m1 hv))) rfl
          refine ⟨_, ?_, hset⟩
          have hmod : (pes.modify i fun e => { e with val := pv }) = (pes.toList.set i ⟨pe.key, pv, x.born⟩).toArray := by
            apply Array.ext'
            apply List.ext_getElem?
            intro j
            rw [Array.toList_modify, List.getElem?_modify, List.getElem?_set]
            have hlt := (List.getElem?_eq_some_iff.1 e2).1
            by_cases hj : i = j
            · subst hj
              rw [e2]
              simp [hlt, m3]
              omega
            · simp [hj]
          simp only [Instr.entryStore, Sem.run_bind, Result.andThen_ok, Sem.run_pure, run_getObj hb (by simp), asInt, asIntOf, hidx, run_setObj hb (by simp), hmod]
        · cases e
      · cases e
    · cases e
  · cases e
end Go.Ev
end
section
namespace Go.Ev
variable {P : Program} {φ : Emb} {h : Hp} {w : World}
theorem bytesV_rel : ∀ {cs : List V} {s : List UInt8} {pcs : List Value}, VRs φ cs pcs → bytesV cs = some s → pcs = s.map (fun b => Value.int .u8 b.toNat) ∨ (∃ ns : List Int, pcs = ns.map (fun n => Value.int .u8 n) ∧ s = ns.map fun n => UInt8.ofNat n.toNat)
  | [], s, pcs, hr, e => by
    cases hr; cases e; exact .inr ⟨[], rfl, rfl⟩
  | c :: cs, s, pcs, hr, e => by
    cases hr with | cons hc hl =>
    unfold bytesV at e
    split at e
    · rename_i h1
      cases h1
    · rename_i n l h1
      cases h1
      cases hc
      simp only [Option.map_eq_some_iff] at e
      obtain ⟨s', hs', rfl⟩ := e
      rcases bytesV_rel hl hs' with h2 | ⟨ns, h2, h3⟩
      · refine .inr ⟨n :: s'.map (fun b => (b.toNat : Int)), by rw [h2]; simp, by simp [Function.comp_def]⟩
      · exact .inr ⟨n :: ns, by rw [h2]; rfl, by rw [h3]; rfl⟩
    · cases e
theorem run_bytesLoop : ∀ (ns : List Int) (s : ByteArray),
    (forIn (m := Sem) (ns.map (fun n => Value.int .u8 n)) s (fun c s => match c with
      | .int .u8 n => pure (.yield (s.push (UInt8.ofNat n.toNat)))
      | _ => do stuck (α := Unit) "bytesToString: byte expected"; pure (.yield s))).run P w = .ok ⟨s.data ++ (ns.map fun n => UInt8.ofNat n.toNat).toArray⟩ w
  | [], s => by simp
  | n :: ns, s => by
    simp only [List.map_cons, List.forIn_cons, Sem.run_bind, Sem.run_pure, Result.andThen_ok]
    rw [run_bytesLoop ns]
    congr 1
    apply ByteArray.ext
    simp [ByteArray.push]
theorem shape_of_block {b : Nat} {C : Array Value} {t : TypeId} {fz : Nat × Nat} (hb : w.heap[b]? = some (.cells C t fz)) : w.shape? b = some (t, C.size) := by
  simp [World.shape?, hb]
theorem BlockSet.of_freeze {b : Nat} {C : Array Value} {t : TypeId} {fz : Nat × Nat} (hb : w.heap[b]? = some (.cells C t fz)) (n : Nat) :
    BlockSet w b (.cells C t (if fz.1 == fz.2 then (n, n + 1) else (min fz.1 n, max fz.2 (n + 1)))) (w.freeze ⟨b, n, none⟩ 1) := by
  obtain ⟨lo, hi⟩ := fz
  obtain ⟨hlt, hk⟩ := Array.getElem?_eq_some_iff.1 hb
  have hw' : w.freeze ⟨b, n, none⟩ 1 = { w with heap := w.heap.modify b fun
      | .cells c elem (lo, hi) => .cells c elem (if lo == hi then (n, n + 1) else (min lo n, max hi (n + 1)))
      | o => o } := rfl
  rw [hw']
  refine ⟨by simp, ?_, ?_, rfl, rfl, rfl⟩
  · show (w.heap.modify b _)[b]? = _
    rw [Array.getElem?_eq_getElem (by simpa using hlt), Array.getElem_modify_self, hk]
  · intro k hne
    show (w.heap.modify b _)[k]? = _
    rw [Array.getElem?_modify, if_neg (Ne.symm hne)]
theorem run_markStringish {a : Addr} {C : Array Value} {t : TypeId} {fz : Nat × Nat} (hb : w.heap[a.block]? = some (.cells C t fz)) : (markStringish a).run P w = .ok () (w.freeze ⟨a.block, C.size, none⟩ 1) := by
  simp only [markStringish, Sem.run_bind]
  have : (shape a.block).run P w = .ok (w.shape? a.block) w := rfl
  rw [this, Result.andThen_ok, shape_of_block hb]
  rfl
theorem freeze_ok {n : Nat} {fz : Nat × Nat} (h1 : ∀ k, k < n → ¬ (fz.1 ≤ k ∧ k < fz.2)) (h2 : fz.1 ≤ fz.2) :
    (∀ k, k < n → ¬ ((if fz.1 == fz.2 then (n, n + 1) else (min fz.1 n, max fz.2 (n + 1))).1 ≤ k ∧ k < (if fz.1 == fz.2 then (n, n + 1) else (min fz.1 n, max fz.2 (n + 1))).2)) ∧
      (if fz.1 == fz.2 then (n, n + 1) else (min fz.1 n, max fz.2 (n + 1))).1 ≤ (if fz.1 == fz.2 then (n, n + 1) else (min fz.1 n, max fz.2 (n + 1))).2 := by
  by_cases he : fz.1 = fz.2
  · simp only [he, beq_self_eq_true, if_true]
    exact ⟨fun k hk => by omega, by omega⟩
  · have : (fz.1 == fz.2) = false := by simpa using he
    simp only [this, Bool.false_eq_true, if_false]
    have hn : n ≤ fz.1 := by
      rcases Nat.lt_or_ge fz.1 n with hl | hl
      · exact absurd ⟨Nat.le_refl _, by omega⟩ (h1 fz.1 hl)
      · exact hl
    exact ⟨fun k hk => by omega, by omega⟩
theorem convActV_rel (hw : WR φ h w) {src dst : TypeId} {x v : V} {px : Value} (hx : VR φ x px) {h' : Hp} (e : convActV P src dst x h = some (v, h')) :
    ∃ φ' w' pv, (convert src dst px).run P w = .ok pv w' ∧ Stp φ h w φ' h' w' ∧ VR φ' v pv := by
  unfold convActV at e
  split at e
  · 
    rename_i E s hs hd
    split at e
    · rename_i hE
      cases e
      cases hx
      have hsz : (⟨s.toArray⟩ : ByteArray).size = s.length := by simp [ByteArray.size]
      have hge := grownCap_ge' w s.length 0 E
      generalize hC : ((s.map fun b => Value.int .u8 b.toNat).toArray ++ Array.replicate (grownCap w s.length 0 E - s.length) (Value.int .u8 0)) = C
      have hCs : C.size = grownCap w s.length 0 E := by rw [← hC]; simp; omega
      have hb : (w.drew.alloc (.cells C E)).heap[w.heap.size]? = some (.cells C E) := by
        show (w.heap.push (.cells C E))[w.heap.size]? = _
        simp
      have hf : φ h.next = none := hw.fresh _ (Nat.le_refl _)
      have hbs := BlockSet.of_freeze hb C.size
      have hs1 : Stp φ h w (φ.upd h.next ⟨w.heap.size, 0, C.size⟩) (h.new (.row (s.map fun b => V.int .u8 b.toNat) false false)).2 (w.drew.alloc (.cells C E)) := by
        refine Stp.fresh hw hf (lo := .row (s.map fun b => V.int .u8 b.toNat) false false) (obj := .cells C E) (o := 0) (sz := C.size) (w' := w.drew.alloc (.cells C E)) (Nat.lt_succ_self _) (Nat.le_succ _) (fun j => Hp.get_new _ _ _) ?_ rfl rfl rfl rfl
        refine OR.rowPre E _ false (by rw [hCs]; simpa using hge) ?_
        intro i u hi
        rw [List.getElem?_map, Option.map_eq_some_iff] at hi
        obtain ⟨b, hb, rfl⟩ := hi
        have hlt := (List.getElem?_eq_some_iff.1 hb).1
        refine ⟨.int .u8 b.toNat, ?_, .int _ _⟩
        rw [← hC, Array.getElem?_append_left (by simpa using hlt)]
        simp [hb]
      have hg1 : (h.new (.row (s.map fun b => V.int .u8 b.toNat) false false)).2.get h.next = some (.row (s.map fun b => V.int .u8 b.toNat) false false) := by rw [Hp.get_new, if_pos rfl]
      obtain ⟨p', C', t', fz', hp', hblk, hsz', hle', hc', hf'⟩ := row_live hs1.wr hg1
      rw [Emb.upd_self] at hp'; cases hp'
      rw [hb] at hblk; cases hblk
      obtain ⟨f1, f2⟩ := freeze_ok (n := C.size) (fz := (0, 0)) (fun k _ hk => absurd hk.2 (Nat.not_lt_zero _)) (Nat.le_refl _)
      have hs2 := Stp.set (lo' := .row (s.map fun b => V.int .u8 b.toNat) true false) hs1.wr hg1 rfl (Emb.upd_self _ _ _) hbs (.row rfl (by simpa using hle') hc' (fun _ => ⟨f1, fun hh => (by cases hh), f2⟩)) rfl
      refine ⟨_, _, .slice (some ⟨w.heap.size, 0, none⟩) s.length (grownCap w s.length 0 E), ?_, (hs1.trans hs2).sub ⟨rfl, ?_⟩, ?_⟩
      · simp only [convert, Sem.run_bind, run_underlying hs, run_underlying hd, Result.andThen_ok, run_underlying hE, Conv.stringToBytes, hsz, run_choose_drew, Question.forced, if_false, Bool.false_eq_true, newRow, run_newObj_alloc, Sem.run_pure]
        have hCe : (Array.map (fun b : UInt8 => Value.int IntKind.u8 (b.toNat : Int)) s.toArray ++ Array.replicate ((Question.appendCap s.length 0 E).cut (w.tape w.drawn (.appendCap s.length 0 E)) - s.length) (Value.int .u8 0)) = C := by
          rw [← hC]; simp [grownCap]
        rw [hCe]
        have hsz2 : w.drew.heap.size = w.heap.size := rfl
        have := run_markStringish (P := P) (a := ⟨w.heap.size, 0, none⟩) hb
        rw [hsz2, this]
        rfl
      · intro j o hj
        rw [Hp.get_put, Hp.get_new]
        rw [Hp.get_new] at hj
        split
        · rename_i e1; rw [if_pos e1] at hj; exact hj
        · rename_i e1; rw [if_neg e1] at hj; simpa [e1] using hj
      · exact .slice (Emb.upd_self _ _ _) hge (fun _ => rfl) (fun c hc => by cases hc) (fun _ => by simp only [hCs]; omega)
    · cases e
  · 
    rename_i E0 E id off es len cap hs hd
    split at e
    · rename_i cs sh hE hg
      split at e
      · rename_i heq
        obtain ⟨heq, hpos⟩ := heq
        subst heq
        cases e
        have hx2 := hx
        cases hx with | slice hp hlc ha hc hnn =>
        rename_i p a pcap
        obtain ⟨p', C, t, fz, hp', hblk, hsz, hle, hcl, hf⟩ := row_live hw hg
        rw [hp] at hp'; cases hp'
        obtain ⟨g1, g2, g3⟩ := hf rfl
        obtain ⟨f1, f2⟩ := freeze_ok (n := C.size) (fz := fz) g1 g3
        have hbs := BlockSet.of_freeze hblk C.size
        have hs2 := Stp.set (lo' := .row cs true false) hw hg rfl hp hbs (.row hsz hle hcl (fun _ => ⟨f1, fun hh => (by cases hh), f2⟩)) rfl
        refine ⟨φ, _, _, ?_, hs2, hx2⟩
        have ha' := ha (by omega)
        subst ha'
        rw [hs] at hd
        cases hd
        have := run_markStringish (P := P) (w := w) (a := ⟨p.b, p.o + off, none⟩) hblk
        simp only [convert, Sem.run_bind, run_underlying hs, Result.andThen_ok, run_underlying hE, beq_self_eq_true, this, Sem.run_pure]
      · cases e
    · cases e
  · rename_i E hs hd
    split at e
    · rename_i hE
      cases e; cases hx
      refine ⟨φ, w, .string .empty, ?_, Stp.refl hw, ?_⟩
      · simp only [convert, Sem.run_bind, run_underlying hs, run_underlying hd, Result.andThen_ok, run_underlying hE, Conv.bytesToString, Sem.run_pure]
      · exact .str []
    · cases e
  · rename_i E id off es len cap hs hd
    split at e
    · rename_i hE
      split at e
      · rename_i cs hrow
        simp only [Option.map_eq_some_iff, Prod.mk.injEq] at e
        obtain ⟨s, hs', rfl, rfl⟩ := e
        cases hx with | slice hp hlc ha hc hnn =>
        rename_i p a pcap
        obtain ⟨q, pl, hq, hr, hpl, hcell⟩ := rowAt_rel hw hrow
        rw [hp] at hq; cases hq
        have hload : (loadCells a len).run P w = .ok pl.toArray w := by
          rcases Nat.eq_zero_or_pos len with hl0 | hl0
          · subst hl0
            have : pl = [] := List.eq_nil_of_length_eq_zero hpl
            subst this
            exact run_loadCells_zero _
          · rw [ha (by omega)]
            have := run_loadCells_list (P := P) w ⟨p.b, p.o + off, none⟩ pl hcell
            rw [hpl] at this
            exact this
        have hns : ∃ ns : List Int, pl = ns.map (fun n => Value.int .u8 n) ∧ s = ns.map fun n => UInt8.ofNat n.toNat := by
          rcases bytesV_rel hr hs' with h2 | h2
          · exact ⟨s.map (fun b => (b.toNat : Int)), by rw [h2]; simp, by simp [Function.comp_def]⟩
          · exact h2
        obtain ⟨ns, rfl, rfl⟩ := hns
        refine ⟨φ, w, .string ⟨(ns.map fun n => UInt8.ofNat n.toNat).toArray⟩, ?_, Stp.refl hw, .str _⟩
        simp only [convert, Sem.run_bind, run_underlying hs, run_underlying hd, Result.andThen_ok, run_underlying hE, Conv.bytesToString, Sem.run_pure, hload]
        have hloop := run_bytesLoop (P := P) (w := w) ns ByteArray.empty
        rw [List.forIn_toArray]
        refine (congrArg (fun r => Result.andThen r fun a w' => Result.ok (Value.string a) w') hloop).trans ?_
        simp only [Result.andThen_ok]
        congr 2
        apply ByteArray.ext
        simp
      · cases e
    · cases e
  · cases e
theorem nextV_rel (hw : WR φ h w) {it v : V} {pit : Value} {ty : TypeId} (hx : VR φ it pit) {h' : Hp} (e : nextV it h = some (v, h')) :
    ∃ w' pv, (Instr.next pit true ty).run P w = .ok pv w' ∧ Stp φ h w φ h' w' ∧ VR φ v pv := by
  unfold nextV at e
  split at e
  · rename_i r
    cases hx with | ptr hp =>
    rename_i p
    split at e
    · rename_i s pos hg
      obtain ⟨p', obj, hp', hb, ho⟩ := hw.live _ _ hg
      rw [hp] at hp'; cases hp'
      cases ho with | siter ho =>
      have hsz : (⟨s.toArray⟩ : ByteArray).size = s.length := by simp [ByteArray.size]
      have hz : p.o + 0 = 0 := by omega
      split at e
      · rename_i hlt
        generalize hd : Utf8.decode ⟨s.toArray⟩ pos = cw at e
        obtain ⟨c, wd⟩ := cw
        cases e
        have hset := Stp.set hw hg rfl hp (BlockSet.of_setObj (o' := .stringIter ⟨s.toArray⟩ (pos + wd)) hb) (lo' := .siter s (pos + wd)) (.siter ho) rfl
        refine ⟨_, _, ?_, hset, .tuple (pcs := [.bool true, .int .i64 pos, .int .i32 c]) (.cons (.bool _) (.cons (.int _ _) (.cons (.int _ _) .nil)))⟩
        rw [hz]
        simp only [Instr.next, Sem.run_bind, run_getObj hb (by simp), Result.andThen_ok, hsz, if_pos hlt, hd, run_setObj hb (by simp), Sem.run_pure, goInt]
      · rename_i hlt
        cases e
        refine ⟨w, _, ?_, Stp.refl hw, .tuple (pcs := [.bool false]) (.cons (.bool _) .nil)⟩
        rw [hz]
        simp only [Instr.next, Sem.run_bind, run_getObj hb (by simp), Result.andThen_ok, hsz, if_neg hlt, Sem.run_pure]
    · cases e
  · cases e
theorem range_rel (hw : WR φ h w) {t : TypeId} {s : List UInt8} (hu : P.underlying t = some .string) :
    ∃ φ' w' pv, (Instr.range t (.string ⟨s.toArray⟩)).run P w = .ok pv w' ∧ Stp φ h w φ' (h.new (.siter s 0)).2 w' ∧ VR φ' (.ptr h.next 0) pv := by
  have hf : φ h.next = none := hw.fresh _ (Nat.le_refl _)
  refine ⟨φ.upd h.next ⟨w.heap.size, 0, 0⟩, w.alloc (.stringIter ⟨s.toArray⟩ 0), .pointer (some ⟨w.heap.size, 0, none⟩), ?_, ?_, .ptr (Emb.upd_self _ _ _)⟩
  · simp only [Instr.range, Sem.run_bind, run_underlying hu, Result.andThen_ok, Sem.run_pure, run_newObj_alloc]
  · exact Stp.fresh (o := 0) (sz := 0) (w' := w.alloc (.stringIter ⟨s.toArray⟩ 0)) (obj := .stringIter ⟨s.toArray⟩ 0) (lo := .siter s 0) hw hf (Nat.lt_succ_self _) (Nat.le_succ _) (fun j => Hp.get_new _ _ _) (.siter rfl) rfl rfl rfl rfl
end Go.Ev
end
section
namespace Go.Ev
variable {P : Program}
def CallOk (P : Program) (f : FuncId) : Prop := ∃ fn c, P.funcs[f]? = some fn ∧ fn.body = some c ∧ (fn.name == "runtime.NumGoroutine") = false
structure ProgOk (P : Program) : Prop where
  call : ∀ (f : FuncId) (fn : Func) (c : Code), P.funcs[f]? = some fn → fn.body = some c → CallOk P f ∧ CodeOk c
  any : P.follows .mixedOrders = true
theorem run_invoke {f : FuncId} (h : CallOk P f) (args cap : Array Value) (w : World) : (invoke (.fn (.func f) cap) args).run P w = .ok (.enter f (args ++ cap)) w := by
  obtain ⟨fn, c, hf, hb, hn⟩ := h
  have hn2 : ¬ fn.name = "runtime.NumGoroutine" := by simpa using hn
  simp [invoke, callFunc, hf, hb, hn2]
inductive DR (φ : Emb) : Dfr → Deferred → Prop where
  | coll {id : Nat} {p : PB} (h : φ id = some p) : DR φ (.coll id) ⟨.collected p.b, #[]⟩
  | call {f : Nat} {args : List V} {cap dargs : Array Value} (h : VRs φ args (dargs ++ cap).toList) : DR φ (.call f args) ⟨.fn (.func f) cap, dargs⟩
inductive DRs (φ : Emb) : List Dfr → List Deferred → Prop where
  | nil : DRs φ [] []
  | cons {d : Dfr} {pd : Deferred} {l : List Dfr} {pl : List Deferred} (h : DR φ d pd) (hl : DRs φ l pl) : DRs φ (d :: l) (pd :: pl)
theorem DR.mono {φ ψ : Emb} (h : φ.le ψ) {d : Dfr} {pd : Deferred} (hr : DR φ d pd) : DR ψ d pd := by
  cases hr with
  | coll e => exact .coll (h _ _ e)
  | call e => exact .call (e.mono h)
theorem DRs.mono {φ ψ : Emb} (h : φ.le ψ) {d : List Dfr} {pd : List Deferred} (hr : DRs φ d pd) : DRs ψ d pd := by
  induction d generalizing pd with
  | nil => cases hr; exact .nil
  | cons x l ih => cases hr with | cons h1 h2 => exact .cons (h1.mono h) (ih h2)
inductive PMR (φ : Emb) : PM → FrameMode → Prop where
  | ret : PMR φ .ret .returning
  | pan {v : V} {pv : Value} {r : Bool} (h : VR φ v pv) : PMR φ (.pan v r) (.panicking [{ v := pv, recovered := r }])
theorem PMR.mono {φ ψ : Emb} (h : φ.le ψ) {m : PM} {u : FrameMode} (hr : PMR φ m u) : PMR ψ m u := by
  cases hr with
  | ret => exact .ret
  | pan e => exact .pan (e.mono h)
inductive KR (φ : Emb) (b : Frame) : Kd → Prop where
  | normal (h1 : b.kind = .normal) (h2 : b.roundOf = none) : KR φ b .normal
  | round {l : Nat} {p : PB} (hp : φ l = some p) (h1 : b.kind = .normal) (h2 : b.roundOf = some p.b) : KR φ b (.round l)
  | deferred (h1 : b.kind = .deferred) (h2 : b.roundOf = none) : KR φ b .deferred
theorem KR.mono {φ ψ : Emb} (h : φ.le ψ) {b : Frame} {kd : Kd} (hr : KR φ b kd) : KR ψ b kd := by
  cases hr with
  | normal h1 h2 => exact .normal h1 h2
  | round hp h1 h2 => exact .round (h _ _ hp) h1 h2
  | deferred h1 h2 => exact .deferred h1 h2
def CS (φ : Emb) (kd : Kd) (pm : PM) (c0 : Frame) (cs0 cs : List Frame) : Prop :=
  match kd with
  | .deferred => ∃ u, PMR φ pm u ∧ cs = { c0 with mode := u } :: cs0
  | _ => cs = cs0
theorem CS.mono {φ ψ : Emb} (h : φ.le ψ) {kd : Kd} {pm : PM} {c0 : Frame} {cs0 cs : List Frame} (hr : CS φ kd pm c0 cs0 cs) : CS ψ kd pm c0 cs0 cs := by
  cases kd with
  | normal => exact hr
  | round l => exact hr
  | deferred => obtain ⟨u, h1, h2⟩ := hr; exact ⟨u, h1.mono h, h2⟩
structure SR (φ : Emb) (kd : Kd) (c0 : Frame) (cs0 : List Frame) (st : St) (a : Act) (cs : List Frame) : Prop where
  env : ER φ st.env a
  ds : DRs φ st.ds a.defers
  cs : CS φ kd st.pm c0 cs0 cs
theorem ER.of_tmps {φ : Emb} {env : Env} {a a' : Act} (h : ER φ env a) (e : a'.tmps = a.tmps) : ER φ env a' := ⟨by rw [e]; exact h.n, fun t => by rw [e]; exact h.get t⟩
theorem SR.mono {φ ψ : Emb} (h : φ.le ψ) {kd : Kd} {c0 : Frame} {cs0 : List Frame} {st : St} {a : Act} {cs : List Frame} (hr : SR φ kd c0 cs0 st a cs) : SR ψ kd c0 cs0 st a cs :=
  ⟨hr.env.mono h, hr.ds.mono h, hr.cs.mono h⟩
theorem put_defers (a : Act) (d : Option Tmp) (v : Value) : (a.put d v).defers = a.defers := by cases d <;> rfl
theorem SR.put {φ : Emb} {kd : Kd} {c0 : Frame} {cs0 : List Frame} {env : Env} {ds : List Dfr} {pm : PM} {h : Hp} {a : Act} {cs : List Frame} (hr : SR φ kd c0 cs0 ⟨env, ds, pm, h⟩ a cs) (dst : Option Tmp) {v : V} {pv : Value} (hv : VR φ v pv) (h' : Hp) :
    SR φ kd c0 cs0 ⟨Ev.put env dst v, ds, pm, h'⟩ (a.put dst pv) cs :=
  ⟨hr.env.put dst hv, by rw [put_defers]; exact hr.ds, hr.cs⟩
def Arr (P : Program) (m : Machine) (b : Frame) (k : List Item) (cs : List Frame) (φ : Emb) (a : Act) (w : World) : Ex → Prop
  | .norm => Steps P m (lone (b.atR a k) cs w)
  | .exit id => ∃ k₁, exitTo id k₁ = exitTo id k ∧ Steps P m (lone (b.atR a (.code (.exit id) :: k₁)) cs w)
  | .goto l => ∃ k₁, gotoIn l k₁ = gotoIn l k ∧ Steps P m (lone (b.atR a (.code (.goto l) :: k₁)) cs w)
  | .ret => ∃ k₁, Steps P m (lone (b.atR a (.code .ret :: k₁)) cs w)
  | .pan v => ∃ todo pv, VR φ v pv ∧ Steps P m (lone { b.atR a todo with mode := .panicking [{ v := pv, recovered := false }] } cs w)
theorem Arr.of_steps {m m₁ : Machine} {b : Frame} {k : List Item} {cs : List Frame} {φ : Emb} {a : Act} {w : World} {e : Ex} (h : Steps P m m₁) (h' : Arr P m₁ b k cs φ a w e) : Arr P m b k cs φ a w e := by
  cases e with
  | norm => exact h.trans h'
  | exit id => obtain ⟨k₁, h1, h2⟩ := h'; exact ⟨k₁, h1, h.trans h2⟩
  | goto l => obtain ⟨k₁, h1, h2⟩ := h'; exact ⟨k₁, h1, h.trans h2⟩
  | ret => obtain ⟨k₁, h2⟩ := h'; exact ⟨k₁, h.trans h2⟩
  | pan v => obtain ⟨k₁, pv, h1, h2⟩ := h'; exact ⟨k₁, pv, h1, h.trans h2⟩
theorem Arr.pass {m : Machine} {b : Frame} {x : Item} {k : List Item} {cs : List Frame} {φ : Emb} {a : Act} {w : World} {e : Ex} (hx : x.plain = true) (he : e ≠ .norm) (h : Arr P m b (x :: k) cs φ a w e) : Arr P m b k cs φ a w e := by
  cases e with
  | norm => exact absurd rfl he
  | exit id => obtain ⟨k₁, h1, h2⟩ := h; exact ⟨k₁, by rw [h1]; cases x <;> simp_all [exitTo, Item.plain], h2⟩
  | goto l => obtain ⟨k₁, h1, h2⟩ := h; exact ⟨k₁, by rw [h1]; cases x <;> simp_all [gotoIn, Item.plain], h2⟩
  | ret => exact h
  | pan v => exact h
def Res (P : Program) (m : Machine) (b : Frame) (k : List Item) (kd : Kd) (c0 : Frame) (cs0 : List Frame) (φ : Emb) (h : Hp) (w : World) (e : Ex) (st' : St) : Prop :=
  ∃ φ' a' cs' w', Stp φ h w φ' st'.h w' ∧ SR φ' kd c0 cs0 st' a' cs' ∧ Arr P m b k cs' φ' a' w' e
theorem Res.of_steps {m m₁ : Machine} {b : Frame} {k : List Item} {kd : Kd} {c0 : Frame} {cs0 : List Frame} {φ : Emb} {h : Hp} {w : World} {e : Ex} {st' : St} (hs : Steps P m m₁) (hr : Res P m₁ b k kd c0 cs0 φ h w e st') : Res P m b k kd c0 cs0 φ h w e st' := by
  obtain ⟨φ', a', cs', w', h1, h2, h3⟩ := hr
  exact ⟨φ', a', cs', w', h1, h2, h3.of_steps hs⟩
theorem Res.pass {m : Machine} {b : Frame} {x : Item} {k : List Item} {kd : Kd} {c0 : Frame} {cs0 : List Frame} {φ : Emb} {h : Hp} {w : World} {e : Ex} {st' : St} (hx : x.plain = true) (he : e ≠ .norm) (hr : Res P m b (x :: k) kd c0 cs0 φ h w e st') :
    Res P m b k kd c0 cs0 φ h w e st' := by
  obtain ⟨φ', a', cs', w', h1, h2, h3⟩ := hr
  exact ⟨φ', a', cs', w', h1, h2, h3.pass hx he⟩
def ends (φ : Emb) (r : VRes) (e : Ending) : Prop :=
  match r with
  | .ret v _ => ∃ pv, VR φ v pv ∧ e = .returned pv
  | .pan v _ => ∃ pv, VR φ v pv ∧ e = .panicked [{ v := pv, recovered := false }]
def VRes.h : VRes → Hp
  | .ret _ h => h
  | .pan _ h => h
def ClS (P : Program) (f : Nat) (args : List V) (h : Hp) (r : VRes) : Prop :=
  CallOk P f ∧ ∀ (φ : Emb) (w : World) (pargs : Array Value), WR φ h w → VRs φ args pargs.toList → ∀ cs : List Frame,
    ∃ φ' w' fr e, Stp φ h w φ' r.h w' ∧ ends φ' r e ∧ Steps P (lone (Frame.enter P f pargs .normal) cs w) (lone fr cs w') ∧ fr.fn = f ∧ fr.leaving P w' e
def CdS (P : Program) (f : Nat) (args : List V) (m : PM) (h : Hp) (r : VRes) (m' : PM) : Prop :=
  CallOk P f ∧ ∀ (φ : Emb) (w : World) (pargs : Array Value), WR φ h w → VRs φ args pargs.toList → ∀ (c0 : Frame) (cs0 : List Frame) (u : FrameMode), PMR φ m u →
    ∃ φ' w' fr e u', Stp φ h w φ' r.h w' ∧ ends φ' r e ∧ PMR φ' m' u' ∧ Steps P (lone (Frame.enter P f pargs .deferred) ({ c0 with mode := u } :: cs0) w) (lone fr ({ c0 with mode := u' } :: cs0) w') ∧ fr.kind = .deferred ∧ fr.going P w' e
def RdS (P : Program) (l : Nat) (args : List V) (h : Hp) (r : VRes) : Prop :=
  ∀ (φ : Emb) (w : World) (pargs : Array Value) (p : PB), WR φ h w → φ l = some p → VRs φ args pargs.toList →
    ∃ f tmps assign body, (Instr.yield p.b pargs).run P w = .ok (.round p.b f tmps assign body) w ∧ ∀ (c : Frame) (cs : List Frame),
      ∃ φ' w' v pv, r.h = r.h ∧ (∃ h', r = .ret v h') ∧ VR φ' v pv ∧ Stp φ h w φ' r.h w' ∧ Steps P (lone (Frame.round p.b f tmps assign body .normal) (c :: cs) w) (lone (c.finish pv) cs w')
def ScS (P : Program) (kd : Kd) (c : Code) (st : St) (e : Ex) (st' : St) : Prop :=
  CodeOk c → ∀ (φ : Emb) (b : Frame) (a : Act) (c0 : Frame) (cs0 cs : List Frame) (w : World), KR φ b kd → WR φ st.h w → SR φ kd c0 cs0 st a cs → ∀ k, Res P (lone (b.atR a (.code c :: k)) cs w) b k kd c0 cs0 φ st.h w e st'
structure FnsOk (P : Program) (F : Fns) : Prop where
  sc : ∀ kd c st e st', F.sc kd c st = some (e, st') → ScS P kd c st e st'
  lp : ∀ kd c st e st', F.lp kd c st = some (e, st') → CodeOk c → ∀ (φ : Emb) (b : Frame) (a : Act) (c0 : Frame) (cs0 cs : List Frame) (w : World), KR φ b kd → WR φ st.h w → SR φ kd c0 cs0 st a cs → ∀ k,
    Res P (lone (b.atR a (.code c :: .inLoop c :: k)) cs w) b k kd c0 cs0 φ st.h w e st'
  sp : ∀ kd bd cur st e st', F.sp kd bd cur st = some (e, st') → CodeOk bd → CodeOk cur → ∀ (φ : Emb) (b : Frame) (a : Act) (c0 : Frame) (cs0 cs : List Frame) (w : World), KR φ b kd → WR φ st.h w → SR φ kd c0 cs0 st a cs → ∀ k,
    Res P (lone (b.atR a (.code cur :: .inScope bd :: k)) cs w) b k kd c0 cs0 φ st.h w e st'
  cl : ∀ f args h r, F.cl f args h = some r → ClS P f args h r
  cd : ∀ f args m h r m', F.cd f args m h = some (r, m') → CdS P f args m h r m'
  rd : ∀ l args h r, F.rd l args h = some r → RdS P l args h r
section steps
variable {b : Frame} {a : Act} {k : List Item} {cs : List Frame} {w w' : World} {ops : Array Oper} {i : Nat} {rest : List Nat} {o : Oper}
theorem stepR_value {v : Value} (ho : ops[i]? = some o) (hw : Region.wanted o (yielded ops a.tmps) = true) (hr : (o.semAt b.roundOf a.eval).run P w = .ok (.value v) w') :
    step P (lone (b.atR a (.inRegion ops (i :: rest) :: k)) cs w) = .next (lone (b.atR (a.put o.dst v) (.inRegion ops rest :: k)) cs w') := by
  have hg := stepGR_op (P := P) (b := b) (k := k) (cs := cs) (w := w) (rest := rest) ho hw
  have hfin : ∀ v, (b.atR a (.inRegion ops (i :: rest) :: k)).finish v = b.atR (a.put o.dst v) (.inRegion ops rest :: k) := by
    intro v; rw [Frame.finish_atR, ho]; rfl
  refine step_lone_go ?_
  rw [hg, ← hfin]; simp [stepG.apply, hr]
theorem stepR_opskip (ho : ops[i]? = some o) (hw : Region.wanted o (yielded ops a.tmps) = true) (hr : (o.semAt b.roundOf a.eval).run P w = .ok .skip w') :
    step P (lone (b.atR a (.inRegion ops (i :: rest) :: k)) cs w) = .next (lone (b.atR (a.put o.dst undef) (.inRegion ops rest :: k)) cs w') := by
  have hg := stepGR_op (P := P) (b := b) (k := k) (cs := cs) (w := w) (rest := rest) ho hw
  have hfin : ∀ v, (b.atR a (.inRegion ops (i :: rest) :: k)).finish v = b.atR (a.put o.dst v) (.inRegion ops rest :: k) := by
    intro v; rw [Frame.finish_atR, ho]; rfl
  refine step_lone_go ?_
  rw [hg, ← hfin]; simp [stepG.apply, hr]
theorem stepR_notwanted (ho : ops[i]? = some o) (hw : Region.wanted o (yielded ops a.tmps) = false) :
    step P (lone (b.atR a (.inRegion ops (i :: rest) :: k)) cs w) = .next (lone (b.atR (a.put o.dst undef) (.inRegion ops rest :: k)) cs w) := by
  have := stepR_op_skip (P := P) (b := b) (a := a) (k := k) (cs := cs) (w := w) (ops := ops) (i := i) (rest := rest) (by simp [ho, hw])
  simpa [ho] using this
theorem stepR_defer {d : Deferred} (ho : ops[i]? = some o) (hw : Region.wanted o (yielded ops a.tmps) = true) (hr : (o.semAt b.roundOf a.eval).run P w = .ok (.defer d) w') :
    step P (lone (b.atR a (.inRegion ops (i :: rest) :: k)) cs w) = .next (lone (b.atR ({ a with defers := d :: a.defers }.put o.dst undef) (.inRegion ops rest :: k)) cs w') := by
  have hg := stepGR_op (P := P) (b := b) (k := k) (cs := cs) (w := w) (rest := rest) ho hw
  have : ({ b.atR a (.inRegion ops (i :: rest) :: k) with defers := d :: a.defers } : Frame).finish undef =
      b.atR ({ a with defers := d :: a.defers }.put o.dst undef) (.inRegion ops rest :: k) := by
    have := Frame.finish_atR b { a with defers := d :: a.defers } ops i rest k undef
    rw [ho] at this; exact this
  refine step_lone_go ?_
  rw [hg]; simp only [stepG.apply, Sem.runT_eq, hr, GStep.bare_after]
  exact congrArg (fun fr => GStep.go { frame := fr, callers := cs, status := .running, dying := none } w') this
theorem stepR_enter {f : FuncId} {args : Array Value} (ho : ops[i]? = some o) (hw : Region.wanted o (yielded ops a.tmps) = true) (hr : (o.semAt b.roundOf a.eval).run P w = .ok (.enter f args) w') :
    step P (lone (b.atR a (.inRegion ops (i :: rest) :: k)) cs w) = .next (lone (Frame.enter P f args .normal) (b.atR a (.inRegion ops (i :: rest) :: k) :: cs) w') := by
  have hg := stepGR_op (P := P) (b := b) (k := k) (cs := cs) (w := w) (rest := rest) ho hw
  exact step_lone_go (by rw [hg]; simp [stepG.apply, hr, Frame.atR])
theorem stepR_round {l : Nat} {f : FuncId} {tmps : Array Value} {assign body : Code} (ho : ops[i]? = some o) (hw : Region.wanted o (yielded ops a.tmps) = true) (hr : (o.semAt b.roundOf a.eval).run P w = .ok (.round l f tmps assign body) w') :
    step P (lone (b.atR a (.inRegion ops (i :: rest) :: k)) cs w) = .next (lone (Frame.round l f tmps assign body .normal) (b.atR a (.inRegion ops (i :: rest) :: k) :: cs) w') := by
  have hg := stepGR_op (P := P) (b := b) (k := k) (cs := cs) (w := w) (rest := rest) ho hw
  exact step_lone_go (by rw [hg]; simp [stepG.apply, hr, Frame.atR])
theorem stepR_panic {v : Value} (ho : ops[i]? = some o) (hw : Region.wanted o (yielded ops a.tmps) = true) (hr : (o.semAt b.roundOf a.eval).run P w = .halt (.panic v) w') :
    step P (lone (b.atR a (.inRegion ops (i :: rest) :: k)) cs w) = .next (lone { b.atR a (.inRegion ops (i :: rest) :: k) with mode := .panicking [{ v, recovered := false }] } cs w') := by
  have hg := stepGR_op (P := P) (b := b) (k := k) (cs := cs) (w := w) (rest := rest) ho hw
  refine step_lone_go ?_
  rw [hg, ← Frame.raise_atR]; simp [stepG.apply, hr]
theorem finish_op (ho : ops[i]? = some o) (v : Value) : (b.atR a (.inRegion ops (i :: rest) :: k)).finish v = b.atR (a.put o.dst v) (.inRegion ops rest :: k) := by
  rw [Frame.finish_atR, ho]; rfl
theorem stepR_recover_some {v : Value} {cs' : List Frame} (hb : b.kind = .deferred) (hro : b.roundOf = none) (ho : ops[i]? = some o) (hw : Region.wanted o (yielded ops a.tmps) = true) (hr : (o.semAt b.roundOf a.eval).run P w = .ok .recover w') (hc : recoverD cs = some (v, cs')) :
    step P (lone (b.atR a (.inRegion ops (i :: rest) :: k)) cs w) = .next (lone (b.atR (a.put o.dst v) (.inRegion ops rest :: k)) cs' w') := by
  have hg := stepGR_op (P := P) (b := b) (k := k) (cs := cs) (w := w) (rest := rest) ho hw
  have hk : (b.atR a (.inRegion ops (i :: rest) :: k)).kind = .deferred := hb
  have hrn : (b.atR a (.inRegion ops (i :: rest) :: k)).roundOf = none := hro
  have htr := tryRecover_deferred hk cs
  refine step_lone_go ?_
  rw [hg, ← finish_op (b := b) (a := a) (k := k) (rest := rest) ho]
  simp [stepG.apply, hr, htr, hc, hrn]
theorem stepR_recover_none (hb : b.kind = .deferred) (hro : b.roundOf = none) (ho : ops[i]? = some o) (hw : Region.wanted o (yielded ops a.tmps) = true) (hr : (o.semAt b.roundOf a.eval).run P w = .ok .recover w') (hc : recoverD cs = none) :
    step P (lone (b.atR a (.inRegion ops (i :: rest) :: k)) cs w) = .next (lone (b.atR (a.put o.dst .nilIface) (.inRegion ops rest :: k)) cs w') := by
  have hg := stepGR_op (P := P) (b := b) (k := k) (cs := cs) (w := w) (rest := rest) ho hw
  have hk : (b.atR a (.inRegion ops (i :: rest) :: k)).kind = .deferred := hb
  have hrn : (b.atR a (.inRegion ops (i :: rest) :: k)).roundOf = none := hro
  have htr := tryRecover_deferred hk cs
  refine step_lone_go ?_
  rw [hg, ← finish_op (b := b) (a := a) (k := k) (rest := rest) ho]
  simp [stepG.apply, hr, htr, hc, hrn]
theorem stepR_scope {c : Code} : step P (lone (b.atR a (.code (.scope c) :: k)) cs w) = .next (lone (b.atR a (.code c :: .inScope c :: k)) cs w) :=
  step_lone_go (by simp [stepG, stepG.exec, Frame.atR])
theorem stepR_inScope {c : Code} : step P (lone (b.atR a (.inScope c :: k)) cs w) = .next (lone (b.atR a k) cs w) :=
  step_lone_go (by simp [stepG, stepG.exec, Frame.atR])
end steps
end Go.Ev
end
section
namespace Go.Ev
variable {P : Program} {φ : Emb} {h : Hp} {w : World}
inductive ActR (P : Program) (φ : Emb) (h : Hp) (w : World) (o : Oper) (a : Act) : OpR → Prop where
  | value {v : V} {h' : Hp} {φ' : Emb} {w' : World} {pv : Value} (hs : Stp φ h w φ' h' w') (hv : VR φ' v pv) (hr : (execOp a.eval o).run P w = .ok (.value pv) w') : ActR P φ h w o a (.val v h')
  | skip {h' : Hp} {φ' : Emb} {w' : World} (hs : Stp φ h w φ' h' w') (hr : (execOp a.eval o).run P w = .ok .skip w') : ActR P φ h w o a (.val .undef h')
  | enter {r : VRes} {f : FuncId} {args : List V} {pargs : Array Value} (hc : ClS P f args h r) (ha : VRs φ args pargs.toList) (hr : (execOp a.eval o).run P w = .ok (.enter f pargs) w) : ActR P φ h w o a r.op
  | round {r : VRes} {l : Nat} {p : PB} {args : List V} {pargs : Array Value} (hp : φ l = some p) (hc : RdS P l args h r) (ha : VRs φ args pargs.toList) (hr : ∀ x, (Instr.yield p.b pargs).run P w = .ok x w → (execOp a.eval o).run P w = .ok x w) : ActR P φ h w o a r.op
  | panic {v : V} {pv : Value} (hv : VR φ v pv) (hr : (execOp a.eval o).run P w = .halt (.panic pv) w) : ActR P φ h w o a (.pan v h)
  | dfr {d : Dfr} {pd : Deferred} (hd : DR φ d pd) (hr : (execOp a.eval o).run P w = .ok (.defer pd) w) : ActR P φ h w o a (.dfr d)
  | rcv (hr : (execOp a.eval o).run P w = .ok .recover w) : ActR P φ h w o a .rcv
theorem callee_func {fv : V} {pfv : Value} (hf : VR φ fv pfv) {args : List V} {pargs : Array Value} (ha : VRs φ args pargs.toList) {self : Fns} (hs : FnsOk P self) {r : VRes} (e : callV self fv args h = some r) :
    ∃ d, (Deferred.ofValue pfv pargs).run P w = .ok d w ∧
      ((∃ f vs pvs, ClS P f vs h r ∧ VRs φ vs pvs.toList ∧ (invoke d.target d.args).run P w = .ok (.enter f pvs) w) ∨
       (∃ l p, φ l = some p ∧ RdS P l args h r ∧ ∀ x, (Instr.yield p.b pargs).run P w = .ok x w → (invoke d.target d.args).run P w = .ok x w)) := by
  unfold callV at e
  split at e
  · rename_i f xs ys
    cases hf with | func hx hy =>
    rename_i pxs pys
    have hc := hs.cl _ _ _ _ e
    refine ⟨⟨.fn (.func f) pys.toArray, pxs.toArray ++ pargs⟩, by simp [Deferred.ofValue], .inl ⟨f, xs ++ args ++ ys, (pxs.toArray ++ pargs ++ pys.toArray), hc, ?_, run_invoke hc.1 _ _ w⟩⟩
    simpa using (hx.append ha).append hy
  · rename_i l
    cases hf with | yield hp =>
    rename_i p
    refine ⟨⟨.fn (.yield p.b) #[], #[] ++ pargs⟩, by simp [Deferred.ofValue], .inr ⟨l, p, hp, hs.rd _ _ _ _ e, ?_⟩⟩
    intro x hx
    simpa [invoke] using hx
  · cases e
theorem evAct_rel {self : Fns} (hs : FnsOk P self) (hw : WR φ h w) {env : Env} {a : Act} (he : ER φ env a) {o : Oper} {r : OpR} (e : evAct P self env h o = some r) : ActR P φ h w o a r := by
  obtain ⟨dst, op, ty, pos, after, guard⟩ := o
  unfold evAct evActOp at e
  simp only at e
  split at e
  · 
    rename_i t x y
    unfold acStore at e
    split at e
    · rename_i av xv ha hx
      simp only [Option.map_eq_some_iff] at e
      obtain ⟨h', e1, rfl⟩ := e
      obtain ⟨w', h1, h2⟩ := storeV_rel (P := P) hw (ρ_rel he ha) (ρ_rel he hx) e1
      refine .skip h2 ?_
      simp only [execOp, Sem.run_bind, h1, Result.andThen_ok, Sem.run_pure]
    · cases e
  · 
    rename_i s d x
    unfold acConv at e
    split at e
    · rename_i xv hx
      simp only [Option.map_eq_some_iff] at e
      obtain ⟨⟨v, h'⟩, e1, rfl⟩ := e
      obtain ⟨φ', w', pv, h1, h2, h3⟩ := convActV_rel (P := P) hw (ρ_rel he hx) e1
      refine .value h2 h3 ?_
      simp only [execOp, Sem.run_bind, h1, Result.andThen_ok, Sem.run_pure]
    · cases e
  · 
    rename_i t m k v
    unfold acMapSet at e
    split at e
    · rename_i mv kv vv hm hk hv
      simp only [Option.map_eq_some_iff] at e
      obtain ⟨h', e1, rfl⟩ := e
      obtain ⟨w', h1, h2⟩ := mapSet_rel (P := P) hw (ρ_rel he hm) (ρ_rel he hk) (ρ_rel he hv) e1
      refine .skip h2 ?_
      simp only [execOp, Sem.run_bind, h1, Result.andThen_ok, Sem.run_pure]
    · cases e
  · 
    rename_i t m k v
    unfold acMapSet at e
    split at e
    · rename_i mv kv vv hm hk hv
      simp only [Option.map_eq_some_iff] at e
      obtain ⟨h', e1, rfl⟩ := e
      obtain ⟨w', h1, h2⟩ := mapSet_rel (P := P) hw (ρ_rel he hm) (ρ_rel he hk) (ρ_rel he hv) e1
      refine .skip h2 ?_
      simp only [execOp, Sem.run_bind, h1, Result.andThen_ok, Sem.run_pure]
    · cases e
  · 
    rename_i t m k
    unfold acMapEntry at e
    split at e
    · rename_i mv kv hm hk
      simp only [Option.map_eq_some_iff] at e
      obtain ⟨⟨v, h'⟩, e1, rfl⟩ := e
      obtain ⟨w', pv, h1, h2, h3⟩ := mapEntryV_rel (P := P) hw (ρ_rel he hm) (ρ_rel he hk) e1
      refine .value h2 h3 ?_
      simp only [execOp, Sem.run_bind, h1, Result.andThen_ok, Sem.run_pure]
    · cases e
  · 
    rename_i t m s v
    unfold acEntryStore at e
    split at e
    · rename_i mv sv vv hm hk hv
      simp only [Option.map_eq_some_iff] at e
      obtain ⟨h', e1, rfl⟩ := e
      obtain ⟨w', h1, h2⟩ := entryStoreV_rel (P := P) (t := t) hw (ρ_rel he hm) (ρ_rel he hk) (ρ_rel he hv) e1
      refine .skip h2 ?_
      simp only [execOp, Sem.run_bind, h1, Result.andThen_ok, Sem.run_pure]
    · cases e
  · 
    rename_i t x
    unfold acRange at e
    split at e
    · rename_i s hu hx
      cases e
      have hx := ρ_rel he hx
      generalize hpx : a.eval x = px at hx
      cases hx
      obtain ⟨φ', w', pv, h1, h2, h3⟩ := range_rel (P := P) (t := t) (s := s) hw hu
      refine .value h2 h3 ?_
      simp only [execOp, hpx, Sem.run_bind, h1, Result.andThen_ok, Sem.run_pure]
    · cases e
  · 
    rename_i it b
    unfold acNext at e
    split at e
    · rename_i itv hx
      simp only [Option.map_eq_some_iff] at e
      obtain ⟨⟨v, h'⟩, e1, rfl⟩ := e
      obtain ⟨w', pv, h1, h2, h3⟩ := nextV_rel (P := P) (ty := ty) hw (ρ_rel he hx) e1
      refine .value h2 h3 ?_
      simp only [execOp, Sem.run_bind, h1, Result.andThen_ok, Sem.run_pure]
    · cases e
  · 
    rename_i c
    unfold acCall at e
    split at e
    · 
      rename_i bi hcal
      unfold acBuiltin at e
      split at e
      · rename_i vs hvs
        have hr := ρs_rel he hvs
        have hargs : ∀ i : Nat, (c.args.map a.eval)[i]? = (c.args.toList.map a.eval)[i]? := by intro i; simp
        have hats : ∀ (i : Nat), c.argTypes[i]? = c.argTypes.toList[i]? := by intro i; simp
        have hS : ∀ S : Sem Value, (∀ ty cs args, builtin bi c.argTypes ty cs args = builtin bi c.argTypes ty cs args) → True := fun _ _ => trivial
        split at e
        · rename_i s x st xt tl hat
          simp only [Option.map_eq_some_iff] at e
          obtain ⟨⟨v, h'⟩, e1, rfl⟩ := e
          generalize hl : c.args.toList.map a.eval = pl at hr
          cases hr with | cons hs' hr =>
          cases hr with | cons hx hr =>
          obtain ⟨φ', w', pv, h1, h2, h3⟩ := appendV_rel (P := P) (ty := ty) hw hs' hx e1 c.argTypes (c.args.map a.eval) (by rw [hats, hat]; rfl) (by rw [hats, hat]; rfl) (by rw [hargs, hl]; rfl) (by rw [hargs, hl]; rfl)
          refine .value h2 h3 ?_
          simp only [execOp, resolve, hcal, Sem.run_bind, Sem.run_pure, Result.andThen_ok, invoke, builtin, h1]
        · rename_i d x t tl hat
          simp only [Option.map_eq_some_iff] at e
          obtain ⟨⟨v, h'⟩, e1, rfl⟩ := e
          generalize hl : c.args.toList.map a.eval = pl at hr
          cases hr with | cons hs' hr =>
          cases hr with | cons hx hr =>
          obtain ⟨w', pv, h1, h2, h3⟩ := copyV_rel (P := P) (ty := ty) hw hs' hx e1 c.argTypes (c.args.map a.eval) (by rw [hats, hat]; rfl) (by rw [hargs, hl]; rfl) (by rw [hargs, hl]; rfl)
          refine .value h2 h3 ?_
          simp only [execOp, resolve, hcal, Sem.run_bind, Sem.run_pure, Result.andThen_ok, invoke, builtin, h1]
        · rename_i m k t tl hat
          simp only [Option.map_eq_some_iff] at e
          obtain ⟨h', e1, rfl⟩ := e
          generalize hl : c.args.toList.map a.eval = pl at hr
          cases hr with | cons hs' hr =>
          cases hr with | cons hx hr =>
          obtain ⟨w', h1, h2⟩ := deleteV_rel (P := P) (ty := ty) hw hs' hx e1 c.argTypes (c.args.map a.eval) (by rw [hats, hat]; rfl) (by rw [hargs, hl]; rfl) (by rw [hargs, hl]; rfl)
          refine .value h2 (.tuple (pcs := []) .nil) ?_
          simp only [execOp, resolve, hcal, Sem.run_bind, Sem.run_pure, Result.andThen_ok, invoke, builtin, h1]
        · rename_i t v
          cases e
          generalize hl : c.args.toList.map a.eval = pl at hr
          cases hr with | cons hx hr =>
          cases hr
          rename_i px
          have hp0 : (c.args.map a.eval).getD 0 .nilIface = px := by
            rw [Array.getD_eq_getD_getElem?, hargs, hl]; rfl
          refine .panic hx ?_
          cases hx
          simp only [execOp, resolve, hcal, Sem.run_bind, Sem.run_pure, Result.andThen_ok, invoke, builtin, hp0, Instr.panic]
          rfl
        · cases e
          generalize hl : c.args.toList.map a.eval = pl at hr
          cases hr
          refine .rcv ?_
          simp only [execOp, resolve, hcal, Sem.run_bind, Sem.run_pure, Result.andThen_ok, invoke, builtin]
        · cases e
      · cases e
    · rename_i f hcal
      split at e
      · rename_i fv vs hf hvs
        simp only [Option.map_eq_some_iff] at e
        obtain ⟨r', e1, rfl⟩ := e
        have hf := ρ_rel he hf
        have hr := ρs_rel he hvs
        obtain ⟨d, h1, h2⟩ := callee_func (w := w) (pargs := c.args.map a.eval) hf (by simpa using hr) hs e1
        rcases h2 with ⟨f', vs', pvs, hc, ha, hinv⟩ | ⟨l, p, hp, hc, hinv⟩
        · refine .enter hc ha ?_
          simp only [execOp, resolve, hcal, Sem.run_bind, h1, Result.andThen_ok, hinv]
        · refine .round hp hc (pargs := c.args.map a.eval) (by simpa using hr) ?_
          intro x hx
          simp only [execOp, resolve, hcal, Sem.run_bind, h1, Result.andThen_ok, hinv x hx]
      · cases e
    · cases e
  · 
    rename_i c
    unfold acDefer at e
    split at e
    · rename_i f hcal
      split at e
      · rename_i f' xs ys vs hf hvs
        cases e
        have hf := ρ_rel he hf
        have hr := ρs_rel he hvs
        generalize hpf : a.eval f = pf at hf
        cases hf with | func hx hy =>
        rename_i pxs pys
        refine .dfr (pd := ⟨.fn (.func f') pys.toArray, pxs.toArray ++ c.args.map a.eval⟩) (.call ?_) ?_
        · simpa using (hx.append hr).append hy
        · simp only [execOp, resolve, hcal, hpf, Deferred.ofValue, Sem.run_bind, Sem.run_pure, Result.andThen_ok]
      · cases e
    · cases e
  · 
    rename_i x
    unfold acPanic at e
    split at e
    · rename_i t v hx
      cases e
      have hx := ρ_rel he hx
      refine .panic hx ?_
      generalize hpx : a.eval x = px at hx
      cases hx
      simp only [execOp, hpx, Sem.run_bind, Instr.panic]
      rfl
    · cases e
  · cases e
theorem semAt_of (o : Oper) {self : Fns} {env : Env} {h : Hp} {r : OpR} (e : evAct P self env h o = some r) (hr : ∀ d, r ≠ .dfr d) (ro : Option Nat) (ρ : Operand → Value) : o.semAt ro ρ = execOp ρ o := by
  refine Oper.semAt_eq ro ρ o ?_
  intro c hc
  unfold evAct evActOp at e
  rw [hc] at e
  simp only [acDefer] at e
  split at e
  · split at e
    · cases e; exact hr _ rfl
    · cases e
  · cases e
end Go.Ev
end
section
namespace Go.Ev
variable {P : Program} {φ : Emb} {h : Hp} {w : World}
theorem act_steps {b : Frame} {a : Act} {k : List Item} {cs : List Frame} {ops : Array Oper} {i : Nat} {rest : List Nat} {o : Oper} {r : OpR} (hA : ActR P φ h w o a r) (hw : WR φ h w)
    (hsem : o.semAt b.roundOf a.eval = execOp a.eval o) (ho : ops[i]? = some o) (hwant : Region.wanted o (yielded ops a.tmps) = true) :
    match r with
    | .val v h' => ∃ φ' w' pv, Stp φ h w φ' h' w' ∧ VR φ' v pv ∧ Steps P (lone (b.atR a (.inRegion ops (i :: rest) :: k)) cs w) (lone (b.atR (a.put o.dst pv) (.inRegion ops rest :: k)) cs w')
    | .pan v h' => ∃ φ' w' pv todo, Stp φ h w φ' h' w' ∧ VR φ' v pv ∧ Steps P (lone (b.atR a (.inRegion ops (i :: rest) :: k)) cs w) (lone { b.atR a todo with mode := .panicking [{ v := pv, recovered := false }] } cs w')
    | _ => True := by
  cases hA with
  | value hs hv hr => exact ⟨_, _, _, hs, hv, .one (stepR_value ho hwant (by rw [hsem]; exact hr))⟩
  | skip hs hr => exact ⟨_, _, _, hs, .undef, .one (stepR_opskip ho hwant (by rw [hsem]; exact hr))⟩
  | @enter r f args pargs hc ha hr =>
    obtain ⟨φ', w', fr, e, h1, h2, h3, h4, h5⟩ := hc.2 φ w pargs hw ha (b.atR a (.inRegion ops (i :: rest) :: k) :: cs)
    have s1 := stepR_enter (P := P) (b := b) (k := k) (cs := cs) (rest := rest) ho hwant (by rw [hsem]; exact hr)
    cases r with
    | ret v h' =>
      obtain ⟨pv, hv, rfl⟩ := h2
      refine ⟨φ', w', pv, h1, hv, .head s1 (h3.trans (.one ?_))⟩
      rw [← finish_op ho]; exact step_leave_returned h5
    | pan v h' =>
      obtain ⟨pv, hv, rfl⟩ := h2
      refine ⟨φ', w', pv, .inRegion ops (i :: rest) :: k, h1, hv, .head s1 (h3.trans (.one ?_))⟩
      rw [← Frame.raise_atR]; exact step_leave_panicked h5
  | @round r l p args pargs hp hc ha hr =>
    obtain ⟨f, tmps, assign, body, hy, hc⟩ := hc φ w pargs p hw hp ha
    obtain ⟨φ', w', v, pv, -, ⟨h', rfl⟩, hv, h1, h3⟩ := hc (b.atR a (.inRegion ops (i :: rest) :: k)) cs
    have s1 := stepR_round (P := P) (b := b) (k := k) (cs := cs) (rest := rest) ho hwant (by rw [hsem]; exact hr _ hy)
    refine ⟨φ', w', pv, h1, hv, .head s1 ?_⟩
    rw [← finish_op ho]; exact h3
  | panic hv hr => exact ⟨φ, w, _, _, Stp.refl hw, hv, .one (stepR_panic ho hwant (by rw [hsem]; exact hr))⟩
  | dfr _ _ => trivial
  | rcv _ => trivial
theorem ActR.dfr_inv {o : Oper} {a : Act} {d : Dfr} (hA : ActR P φ h w o a (.dfr d)) : ∃ pd, DR φ d pd ∧ (execOp a.eval o).run P w = .ok (.defer pd) w := by
  generalize hr : OpR.dfr d = r at hA
  cases hA with
  | @enter r => cases r <;> cases hr
  | @round r => cases r <;> cases hr
  | dfr hd hrun => cases hr; exact ⟨_, hd, hrun⟩
  | _ => cases hr
theorem ActR.rcv_inv {o : Oper} {a : Act} (hA : ActR P φ h w o a .rcv) : (execOp a.eval o).run P w = .ok .recover w := by
  generalize hr : OpR.rcv = r at hA
  cases hA with
  | @enter r => cases r <;> cases hr
  | @round r => cases r <;> cases hr
  | rcv hrun => exact hrun
  | _ => cases hr
theorem isAlloc_of {env : Env} {id : Nat} {o : Oper} {r : V × LO} (e : evAlloc P env id o = some r) : ∀ c, o.op ≠ .defer c := by
  intro c hc
  unfold evAlloc evAllocOp at e
  rw [hc] at e
  cases e
theorem isRead_of {env : Env} {h : Hp} {o : Oper} {v : V} (e : evRead P env h o = some v) : ∀ c, o.op ≠ .defer c := by
  intro c hc
  unfold evRead evReadOp at e
  rw [hc] at e
  cases e
theorem recoverD_ret (c0 : Frame) (cs0 : List Frame) : recoverD ({ c0 with mode := .returning } :: cs0) = none := rfl
theorem recoverD_pan_true (c0 : Frame) (cs0 : List Frame) (v : Value) : recoverD ({ c0 with mode := .panicking [{ v, recovered := true }] } :: cs0) = none := rfl
theorem recoverD_pan_false (c0 : Frame) (cs0 : List Frame) (v : Value) : recoverD ({ c0 with mode := .panicking [{ v, recovered := false }] } :: cs0) = some (v, { c0 with mode := .panicking [{ v, recovered := true }] } :: cs0) := rfl
theorem opStep_rel {F : Fns} (hF : FnsOk P F) {kd : Kd} {o : Oper} {st : St} {g : Go1} (e : opStep P F kd o st = some g) {b : Frame} {a : Act} {c0 : Frame} {cs0 cs : List Frame}
    (hk : KR φ b kd) (hw : WR φ st.h w) (hr : SR φ kd c0 cs0 st a cs) {k : List Item} {ops : Array Oper} {i : Nat} {rest : List Nat} (ho : ops[i]? = some o) (hwant : Region.wanted o (yielded ops a.tmps) = true) :
    match g with
    | .on st' => ∃ φ' a' cs' w', Stp φ st.h w φ' st'.h w' ∧ SR φ' kd c0 cs0 st' a' cs' ∧ Steps P (lone (b.atR a (.inRegion ops (i :: rest) :: k)) cs w) (lone (b.atR a' (.inRegion ops rest :: k)) cs' w')
    | .pan v st' => Res P (lone (b.atR a (.inRegion ops (i :: rest) :: k)) cs w) b k kd c0 cs0 φ st.h w (.pan v) st' := by
  obtain ⟨env, ds, pm, h⟩ := st
  unfold opStep at e
  split at e
  · 
    rename_i st' hrd
    cases e
    simp only [opRead] at hrd
    split at hrd
    · rename_i v hv
      cases hrd
      obtain ⟨pv, h1, h2⟩ := evRead_rel (P := P) hw hr.env hv
      refine ⟨φ, a.put o.dst pv, cs, w, Stp.refl hw, hr.put o.dst h2 h, .one (stepR_value ho hwant ?_)⟩
      rw [Oper.semAt_eq _ _ _ (isRead_of hv)]; exact h1
    · cases hrd
  · split at e
    · rename_i st' hal
      cases e
      simp only [opAlloc] at hal
      split at hal
      · rename_i v lo hv
        cases hal
        obtain ⟨obj, sz, pv, h1, h2, h3⟩ := evAlloc_rel (P := P) hr.env hv w
        have hf : φ h.next = none := hw.fresh _ (Nat.le_refl _)
        have hle := Emb.le_upd ⟨w.heap.size, 0, sz⟩ hf
        obtain ⟨hv', ho'⟩ := h3 _ hle (Emb.upd_self _ _ _)
        refine ⟨φ.upd h.next ⟨w.heap.size, 0, sz⟩, a.put o.dst pv, cs, { w with heap := w.heap.push obj }, ?_, (hr.mono hle).put o.dst hv' _, .one (stepR_value ho hwant ?_)⟩
        · exact Stp.fresh (o := 0) (sz := sz) (w' := { w with heap := w.heap.push obj }) (obj := obj) (lo := lo) hw hf (Nat.lt_succ_self _) (Nat.le_succ _) (fun j => Hp.get_new _ _ _) ho' rfl rfl rfl rfl h2
        · rw [Oper.semAt_eq _ _ _ (isAlloc_of hv)]; exact h1
      · cases hal
    · simp only [opAct] at e
      split at e
      · 
        rename_i v h' hv
        cases e
        have hA := evAct_rel hF hw hr.env hv
        have hsem := semAt_of o hv (by simp) b.roundOf
        obtain ⟨φ', w', pv, h1, h2, h3⟩ := act_steps (b := b) (k := k) (cs := cs) (rest := rest) hA hw (hsem _) ho hwant
        exact ⟨φ', a.put o.dst pv, cs, w', h1, (hr.mono h1.emb).put o.dst h2 _, h3⟩
      · rename_i v h' hv
        cases e
        have hA := evAct_rel hF hw hr.env hv
        have hsem := semAt_of o hv (by simp) b.roundOf
        obtain ⟨φ', w', pv, todo, h1, h2, h3⟩ := act_steps (b := b) (k := k) (cs := cs) (rest := rest) hA hw (hsem _) ho hwant
        exact ⟨φ', a, cs, w', h1, ⟨hr.env.mono h1.emb, hr.ds.mono h1.emb, hr.cs.mono h1.emb⟩, todo, pv, h2, h3⟩
      · rename_i d hv
        have hA := evAct_rel hF hw hr.env hv
        obtain ⟨pd, hd, hrun⟩ := hA.dfr_inv
        have key : b.roundOf = none → ∃ φ' a' cs' w', Stp φ h w φ' h w' ∧ SR φ' kd c0 cs0 ⟨Ev.put env o.dst .undef, d :: ds, pm, h⟩ a' cs' ∧ Steps P (lone (b.atR a (.inRegion ops (i :: rest) :: k)) cs w) (lone (b.atR a' (.inRegion ops rest :: k)) cs' w') := by
          intro hb
          refine ⟨φ, ({ a with defers := pd :: a.defers } : Act).put o.dst undef, cs, w, Stp.refl hw, ⟨?_, ?_, hr.cs⟩, .one (stepR_defer ho hwant ?_)⟩
          · exact (hr.env.of_tmps (a' := { a with defers := pd :: a.defers }) rfl).put o.dst VR.undef
          · rw [put_defers]; exact .cons hd hr.ds
          · rw [hb, Oper.semAt_none]; exact hrun
        split at e
        · cases e
        · rename_i hne
          cases e
          refine key ?_
          cases hk with
          | normal h1 h2 => exact h2
          | deferred h1 h2 => exact h2
          | round hp h1 h2 => exact absurd rfl (hne _)
      · rename_i hv
        have hA := evAct_rel hF hw hr.env hv
        have hrun := hA.rcv_inv
        simp only [opRcv] at e
        split at e
        · cases hk with | deferred hk1 hk2 =>
          have hsem : (o.semAt b.roundOf a.eval).run P w = .ok .recover w := by rw [hk2, Oper.semAt_none]; exact hrun
          obtain ⟨u, hu, hcs⟩ := hr.cs
          subst hcs
          split at e
          · rename_i v
            cases e
            cases hu with | pan hpv =>
            rename_i pv
            exact ⟨φ, _, _, w, Stp.refl hw, ⟨hr.env.put o.dst hpv, by rw [put_defers]; exact hr.ds, _, .pan hpv, rfl⟩, .one (stepR_recover_some hk1 hk2 ho hwant hsem (recoverD_pan_false _ _ _))⟩
          · rename_i hne
            cases e
            have hrec : recoverD ({ c0 with mode := u } :: cs0) = none := by
              cases hu with
              | ret => rfl
              | @pan v pv r hpv => cases r with
                | true => rfl
                | false => exact absurd rfl (hne v)
            exact ⟨φ, _, _, w, Stp.refl hw, ⟨hr.env.put o.dst .nilI, by rw [put_defers]; exact hr.ds, _, hu, rfl⟩, .one (stepR_recover_none hk1 hk2 ho hwant hsem hrec)⟩
        · cases e
      · cases e
theorem yieldedV_rel {env : Env} {a : Act} (he : ER φ env a) (ops : Array Oper) (j : Nat) : yielded ops a.tmps j = yieldedV ops.toList env j := by
  unfold yielded yieldedV
  rw [Array.getElem?_toList]
  cases hd : (ops[j]?).bind (·.dst) with
  | none => rfl
  | some d =>
    simp only [Option.bind_some]
    have hg := he.get d
    simp only [Array.getD_eq_getD_getElem?] at hg
    generalize hx : env.get d = x at hg
    cases ht : a.tmps[d]? with
    | none =>
      rw [ht] at hg
      simp only [Option.getD_none] at hg
      cases hg; rfl
    | some pv =>
      rw [ht] at hg
      simp only [Option.getD_some] at hg
      cases hg <;> rfl
theorem wanted_rel {env : Env} {a : Act} (he : ER φ env a) (ops : Array Oper) (o : Oper) : Region.wanted o (yielded ops a.tmps) = wantedV ops.toList env o := by
  unfold Region.wanted wantedV
  cases o.guard with
  | none => rfl
  | some jw =>
    obtain ⟨j, want⟩ := jw
    simp only
    rw [yieldedV_rel he]
    cases yieldedV ops.toList env j with
    | none => rfl
    | some b => cases b <;> cases want <;> rfl
theorem evOps_rel {F : Fns} (hF : FnsOk P F) {kd : Kd} {ops : Array Oper} : ∀ (rest : List Oper) (is : List Nat) (st : St) (e : Ex) (st' : St), evOps P F kd ops.toList rest st = some (e, st') → is.map (ops[·]?) = rest.map some →
    ∀ (φ : Emb) (w : World) (b : Frame) (a : Act) (c0 : Frame) (cs0 cs : List Frame), KR φ b kd → WR φ st.h w → SR φ kd c0 cs0 st a cs → ∀ k, Res P (lone (b.atR a (.inRegion ops is :: k)) cs w) b k kd c0 cs0 φ st.h w e st'
  | [], is, st, e, st', he, his, φ, w, b, a, c0, cs0, cs, hk, hw, hr, k => by
    cases is with
    | nil =>
      cases he
      exact ⟨φ, a, cs, w, Stp.refl hw, hr, .one stepR_region_end⟩
    | cons _ _ => simp at his
  | o :: rest, is, st, e, st', he, his, φ, w, b, a, c0, cs0, cs, hk, hw, hr, k => by
    cases is with
    | nil => simp at his
    | cons i is =>
      simp only [List.map_cons, List.cons.injEq] at his
      obtain ⟨ho, his⟩ := his
      unfold evOps at he
      rw [← wanted_rel hr.env ops o, br_eq] at he
      split at he
      · rename_i hwant
        split at he
        · rename_i st1 h1
          obtain ⟨φ1, a1, cs1, w1, s1, s2, s3⟩ := opStep_rel hF h1 hk hw hr (k := k) (rest := is) ho hwant
          obtain ⟨φ2, a2, cs2, w2, t1, t2, t3⟩ := evOps_rel hF rest is st1 e st' he his φ1 w1 b a1 c0 cs0 cs1 (hk.mono s1.emb) s1.wr s2 k
          exact ⟨φ2, a2, cs2, w2, s1.trans t1, t2, t3.of_steps s3⟩
        · rename_i v st1 h1
          cases he
          exact opStep_rel hF h1 hk hw hr (k := k) (rest := is) ho hwant
        · cases he
      · rename_i hwant
        have hwant : Region.wanted o (yielded ops a.tmps) = false := by simpa using hwant
        obtain ⟨env, ds, pm, h⟩ := st
        have hr' : SR φ kd c0 cs0 (St.put ⟨env, ds, pm, h⟩ o.dst .undef) (a.put o.dst undef) cs := hr.put o.dst VR.undef h
        obtain ⟨φ2, a2, cs2, w2, t1, t2, t3⟩ := evOps_rel hF rest is _ e st' he his φ w b (a.put o.dst undef) c0 cs0 cs hk hw hr' k
        exact ⟨φ2, a2, cs2, w2, t1, t2, t3.of_steps (.one (stepR_notwanted ho hwant))⟩
end Go.Ev
end
section
namespace Go.Ev
variable {P : Program} {φ : Emb} {h : Hp} {w : World}
theorem loadVar_rel (hw : WR φ h w) {t : TypeId} {a v : V} {pa : Value} (ha : VR φ a pa) (e : loadV P t a h = some v) : ∃ x pv, asAddr pa = pure x ∧ (loadVar t x).run P w = .ok pv w ∧ VR φ v pv := by
  obtain ⟨pv, h1, h2⟩ := loadV_rel (P := P) hw ha e
  unfold loadV at e
  split at e
  · rename_i id off
    cases ha with | ptr hp =>
    refine ⟨_, pv, rfl, ?_, h2⟩
    simpa [Instr.loadAt, Instr.sureAddr] using h1
  · cases e
def resF (tmps : Array Value) : ResultVar → Sem Value
  | .tmp t => pure (tmps.getD t undef)
  | .cell x t => do loadVar t (← asAddr (tmps.getD x undef))
theorem results_eq (fn : Func) (tmps : Array Value) : results fn tmps = (do
    let vs ← fn.results.mapM (resF tmps)
    pure (if h : vs.size = 1 then vs[0] else .tuple vs)) := by
  unfold results
  have : (fun | .tmp t => pure (tmps.getD t undef) | .cell x t => do loadVar t (← asAddr (tmps.getD x undef)) : ResultVar → Sem Value) = resF tmps := by
    funext x; cases x <;> rfl
  rw [← this]
  rfl
theorem loadRes_rel (hw : WR φ h w) {env : Env} {a : Act} (he : ER φ env a) : ∀ (l : List ResultVar) (vs : List V), loadRes P env h l = some vs →
    ∃ pvs, (l.mapM (resF a.tmps)).run P w = .ok pvs w ∧ VRs φ vs pvs
  | [], vs, e => by cases e; exact ⟨[], rfl, .nil⟩
  | .tmp t :: l, vs, e => by
    simp only [loadRes, Option.map_eq_some_iff] at e
    obtain ⟨vs', e', rfl⟩ := e
    obtain ⟨pvs, h1, h2⟩ := loadRes_rel hw he l vs' e'
    refine ⟨a.tmps.getD t undef :: pvs, ?_, .cons (he.get t) h2⟩
    rw [List.mapM_cons]
    simp only [resF, Sem.run_bind, Sem.run_pure, Result.andThen_ok, h1]
  | .cell x t :: l, vs, e => by
    simp only [loadRes] at e
    split at e
    · rename_i v vs' hv e'
      cases e
      obtain ⟨pvs, h1, h2⟩ := loadRes_rel hw he l vs' e'
      obtain ⟨ad, pv, g0, g1, g2⟩ := loadVar_rel (P := P) hw (he.get x) hv
      refine ⟨pv :: pvs, ?_, .cons g2 h2⟩
      rw [List.mapM_cons]
      simp only [resF, g0, Sem.run_bind, Sem.run_pure, Result.andThen_ok, g1, h1]
    · cases e
theorem resultsV_rel (hw : WR φ h w) {env : Env} {a : Act} (he : ER φ env a) {fn : Func} {v : V} (e : resultsV P fn env h = some v) : ∃ pv, (results fn a.tmps).run P w = .ok pv w ∧ VR φ v pv := by
  have key : ∀ vs, loadRes P env h fn.results.toList = some vs → ∃ pvs : List Value, VRs φ vs pvs ∧ (results fn a.tmps).run P w = .ok (if h : pvs.toArray.size = 1 then pvs.toArray[0] else .tuple pvs.toArray) w := by
    intro vs hvs
    obtain ⟨pvs, h1, h2⟩ := loadRes_rel hw he _ _ hvs
    refine ⟨pvs, h2, ?_⟩
    rw [results_eq, ← Array.toArray_toList (xs := fn.results)]
    simp only [List.mapM_toArray, Sem.run_bind, Sem.run_map]
    rw [h1]
    simp only [Result.andThen_ok, Sem.run_pure]
  unfold resultsV at e
  split at e
  · rename_i u hvs
    cases e
    obtain ⟨pvs, h1, h2⟩ := key _ hvs
    cases h1 with | cons g1 g2 =>
    cases g2
    exact ⟨_, h2, by simpa using g1⟩
  · rename_i vs hne hvs
    cases e
    obtain ⟨pvs, h1, h2⟩ := key _ hvs
    have hl := h1.length
    have : ¬ pvs.toArray.size = 1 := by
      intro h3
      have h4 : vs.length = 1 := by rw [hl]; simpa using h3
      obtain ⟨x, rfl⟩ := List.length_eq_one_iff.1 h4
      exact hne x rfl
    exact ⟨_, h2, by rw [dif_neg this]; exact .tuple h1⟩
  · cases e
theorem Env.get_sets (j : Nat) : ∀ (vs : List V) (e : Env) (i : Nat), (Env.sets e i vs).n = e.n ∧ (i + vs.length ≤ e.n → (Env.sets e i vs).get j = if i ≤ j ∧ j < i + vs.length then vs.getD (j - i) .undef else e.get j)
  | [], e, i => ⟨rfl, fun _ => by simp [Env.sets]; intro h1 h2; omega⟩
  | v :: vs, e, i => by
    obtain ⟨h1, h2⟩ := Env.get_sets j vs (e.set i v) (i + 1)
    refine ⟨h1.trans (Env.n_set e i v), fun hle => ?_⟩
    simp only [List.length_cons] at hle
    show (Env.sets (e.set i v) (i + 1) vs).get j = _
    rw [h2 (by rw [Env.n_set]; omega), Env.get_set]
    simp only [List.length_cons]
    by_cases hj : j = i
    · subst hj
      rw [if_neg (by omega), if_pos ⟨by omega, rfl⟩, if_pos (by omega)]
      simp
    · by_cases hlt : i + 1 ≤ j ∧ j < i + 1 + vs.length
      · rw [if_pos hlt, if_pos (by omega)]
        have : j - i = (j - (i + 1)) + 1 := by omega
        rw [this]
        simp
      · rw [if_neg hlt, if_neg (by omega), if_neg (by omega)]
theorem enter_rel {args : List V} {pargs : Array Value} (ha : VRs φ args pargs.toList) (ntmps : Nat) (ds : List Deferred) : ER φ (Env.enter ntmps args) { tmps := pargs ++ Array.replicate (ntmps - pargs.size) undef, defers := ds } := by
  have hl := ha.length
  simp only [Array.length_toList] at hl
  refine ⟨?_, fun t => ?_⟩
  · rw [Env.enter, (Env.get_sets 0 args _ 0).1]
    simp only [Array.size_append, Array.size_replicate, hl]
    omega
  · rw [Env.enter, (Env.get_sets t args ⟨max args.length ntmps, .lf⟩ 0).2 (by simp only; omega)]
    simp only [Array.getD_eq_getD_getElem?, Nat.zero_le, true_and, Nat.zero_add, Nat.sub_zero]
    by_cases ht : t < args.length
    · rw [if_pos ht, Array.getElem?_append_left (by omega)]
      have := VR.getD ha t
      simp only [List.getD_eq_getElem?_getD, Array.getElem?_toList] at this
      rwa [List.getD_eq_getElem?_getD]
    · rw [if_neg ht, Array.getElem?_append_right (by omega), Array.getElem?_replicate]
      have : (⟨max args.length ntmps, .lf⟩ : Env).get t = .undef := rfl
      rw [this]
      split <;> exact .undef
theorem PMR.ne_run {m : PM} {u : FrameMode} (hr : PMR φ m u) : u ≠ .run := by cases hr <;> simp
theorem PMR.settle {m : PM} {u : FrameMode} (hr : PMR φ m u) : PMR φ m.settle (Go.settle u) := by
  cases hr with
  | ret => exact .ret
  | @pan v pv r hv => cases r with
    | true => exact .ret
    | false => exact .pan hv
theorem Stp.del {w' : World} (hw : WR φ h w) {i : Nat} {lo : LO} {p : PB} {obj' : Obj} (hi : h.get i = some lo) (he : lo.ext = false) (hp : φ i = some p) (hb : BlockSet w p.b obj' w') : Stp φ h w φ (h.put i none) w' := by
  have hget : ∀ j oj, (h.put i none).get j = some oj → j ≠ i ∧ h.get j = some oj := by
    intro j oj hj
    rw [Hp.get_put] at hj
    split at hj
    · cases hj
    · rename_i e; exact ⟨e, hj⟩
  refine ⟨Emb.le_refl φ, ⟨?_, ?_, hw.fresh⟩, by rw [hb.size]; exact Nat.le_refl _, ?_, ?_, hb.os, hb.tape, hb.output, Nat.le_refl _, fun _ _ => rfl, fun j oj _ hj => ⟨oj, (hget j oj hj).2⟩, fun j oj hj _ => (hget j oj hj).2⟩
  · intro j oj hj
    obtain ⟨hne, hj⟩ := hget j oj hj
    obtain ⟨q, obj, h1, h2, h3⟩ := hw.live j oj hj
    refine ⟨q, obj, h1, ?_, h3⟩
    rw [hb.other _ (Ne.symm (hw.inj i j _ _ p q hi hj (Ne.symm hne) hp h1 (.inl he)))]
    exact h2
  · intro j k oj ok q r hj hk hjk hq hr hx
    exact hw.inj _ _ _ _ _ _ (hget j oj hj).2 (hget k ok hk).2 hjk hq hr hx
  · intro b hbl hno
    refine hb.other b ?_
    rintro rfl
    exact hno ⟨i, lo, p, hi, he, hp, rfl⟩
  · rintro b ⟨j, oj, q, h1, h2, h3, h4⟩
    exact .inl ⟨j, oj, q, (hget j oj h1).2, h2, h3, h4⟩
theorem dfr_live (hw : WR φ h w) {id : Nat} (e : h.get id = some .dfr) : ∃ p, φ id = some p ∧ w.heap[p.b]? = some (.deferred (some [])) := by
  obtain ⟨p, obj, hp, hb, ho⟩ := hw.live _ _ e
  cases ho with
  | dfr => exact ⟨p, hp, hb⟩
theorem leave_rel {F : Fns} (hF : FnsOk P F) {f : FuncId} {fn : Func} (hf : P.funcs[f]? = some fn) {env : Env} : ∀ (ds : List Dfr) (pm : PM) (h : Hp) (r : VRes), leave P F fn env ds pm h = some r →
    ∀ (φ : Emb) (w : World) (fr : Frame) (cs : List Frame), WR φ h w → ER φ env ⟨fr.tmps, []⟩ → DRs φ ds fr.defers → PMR φ pm fr.mode → fr.fn = f → fr.kind = .normal →
    ∃ φ' w' fr' e, Stp φ h w φ' r.h w' ∧ ends φ' r e ∧ Steps P (lone fr cs w) (lone fr' cs w') ∧ fr'.fn = f ∧ fr'.leaving P w' e
  | [], pm, h, r, e, φ, w, fr, cs, hw, he, hd, hm, hfn, hkd => by
    generalize hds : fr.defers = pds at hd
    cases hd
    generalize hu : fr.mode = u at hm
    cases hm with
    | ret =>
      simp only [leave, Option.map_eq_some_iff] at e
      obtain ⟨v, hv, rfl⟩ := e
      obtain ⟨pv, h1, h2⟩ := resultsV_rel (P := P) hw he hv
      exact ⟨φ, w, fr, .returned pv, Stp.refl hw, ⟨pv, h2, rfl⟩, Steps.refl P _, hfn, hu, hds, hkd, fn, hfn ▸ hf, h1⟩
    | @pan v pv rc hv =>
      cases rc with
      | true => simp [leave] at e
      | false =>
        simp only [leave, Option.some.injEq] at e
        subst e
        exact ⟨φ, w, fr, .panicked [{ v := pv, recovered := false }], Stp.refl hw, ⟨pv, hv, rfl⟩, Steps.refl P _, hfn, hu, hds, fn, hfn ▸ hf⟩
  | .coll id :: ds, pm, h, r, e, φ, w, fr, cs, hw, he, hd, hm, hfn, hkd => by
    generalize hds : fr.defers = pds at hd
    cases hd with | cons hd hl =>
    rename_i pd pl
    cases hd with | coll hp =>
    rename_i p
    simp only [leave] at e
    split at e
    · rename_i hg
      obtain ⟨p', hp', hb⟩ := dfr_live hw hg
      rw [hp] at hp'; cases hp'
      have hst := Stp.del hw hg rfl hp (BlockSet.of_setObj (o' := .deferred none) hb)
      have htake : (Instr.takeDeferred p.b).run P w = .ok [] { w with heap := w.heap.setIfInBounds p.b (.deferred none) } := by
        simp only [Instr.takeDeferred, Sem.run_bind, run_getObj hb (by simp), Result.andThen_ok, run_setObj hb (by simp), Sem.run_pure]
      have hs1 := step_collected (P := P) (cs := cs) hm.ne_run hds rfl htake
      obtain ⟨φ', w', fr', e', t1, t2, t3, t4, t5⟩ := leave_rel hF hf ds pm _ r e φ _ { fr with defers := [] ++ pl } cs hst.wr he hl hm hfn hkd
      exact ⟨φ', w', fr', e', hst.trans t1, t2, .head hs1 t3, t4, t5⟩
    · cases e
  | .call g args :: ds, pm, h, r, e, φ, w, fr, cs, hw, he, hd, hm, hfn, hkd => by
    generalize hds : fr.defers = pds at hd
    cases hd with | cons hd hl =>
    rename_i pd pl
    cases hd with | call ha =>
    rename_i cap dargs
    simp only [leave] at e
    split at e
    · rename_i v h1 m1 hcd
      obtain ⟨hok, hc⟩ := hF.cd _ _ _ _ _ _ hcd
      have hs1 := step_defer (P := P) (cs := cs) hm.ne_run hds rfl (run_invoke hok dargs cap w)
      obtain ⟨φ1, w1, fr1, e1, u1, s1, s2, s3, s4, s5, s6⟩ := hc φ w (dargs ++ cap) hw ha { fr with defers := pl } cs fr.mode hm
      obtain ⟨pv, -, rfl⟩ := s2
      have hs2 := step_going_returned (c := { fr with defers := pl, mode := u1 }) (cs := cs) s5 s6
      obtain ⟨φ', w', fr', e', t1, t2, t3, t4, t5⟩ := leave_rel hF hf ds m1.settle h1 r e φ1 w1 { fr with defers := pl, mode := settle u1 } cs s1.wr (he.mono s1.emb) (hl.mono s1.emb) s3.settle hfn hkd
      exact ⟨φ', w', fr', e', s1.trans t1, t2, .head hs1 (s4.trans (.head hs2 t3)), t4, t5⟩
    · rename_i v h1 hcd
      obtain ⟨hok, hc⟩ := hF.cd _ _ _ _ _ _ hcd
      have hs1 := step_defer (P := P) (cs := cs) hm.ne_run hds rfl (run_invoke hok dargs cap w)
      obtain ⟨φ1, w1, fr1, e1, u1, s1, s2, s3, s4, s5, s6⟩ := hc φ w (dargs ++ cap) hw ha { fr with defers := pl } cs fr.mode hm
      obtain ⟨pv, hpv, rfl⟩ := s2
      cases s3
      have hs2 := step_going_panicked (c := { fr with defers := pl, mode := .returning }) (cs := cs) s6
      obtain ⟨φ', w', fr', e', t1, t2, t3, t4, t5⟩ := leave_rel hF hf ds (.pan v false) h1 r e φ1 w1 { fr with defers := pl, mode := .panicking [{ v := pv, recovered := false }] } cs s1.wr (he.mono s1.emb) (hl.mono s1.emb) (.pan hpv) hfn hkd
      exact ⟨φ', w', fr', e', s1.trans t1, t2, .head hs1 (s4.trans (.head hs2 t3)), t4, t5⟩
    · cases e
theorem evBody_rel {F : Fns} (hP : ProgOk P) (hF : FnsOk P F) {f : FuncId} {args : List V} {h : Hp} {r : VRes} (e : evBody P F f args h = some r) : ClS P f args h r := by
  unfold evBody at e
  split at e
  · cases e
  · rename_i fn hf
    split at e
    · cases e
    · rename_i c hb
      obtain ⟨hok, hcode⟩ := hP.call f fn c hf hb
      refine ⟨hok, ?_⟩
      intro φ w pargs hw ha cs
      let b : Frame := { (default : Frame) with fn := f, kind := .normal, roundOf := none }
      let a0 : Act := { tmps := pargs ++ Array.replicate (fn.ntmps - pargs.size) undef, defers := [] }
      have henter : Frame.enter P f pargs .normal = b.atR a0 [.code c] := by
        simp [Frame.enter, Frame.atR, hf, hb, b, a0]
      rw [henter]
      have hk : KR φ b .normal := .normal rfl rfl
      have hsr : SR φ .normal default cs ⟨Env.enter fn.ntmps args, [], .ret, h⟩ a0 cs := ⟨enter_rel ha fn.ntmps [], .nil, rfl⟩
      have go : ∀ (ex : Ex) (st : St) (pm : PM), F.sc .normal c ⟨Env.enter fn.ntmps args, [], .ret, h⟩ = some (ex, st) → leave P F fn st.env st.ds pm st.h = some r →
          (∀ (φ' : Emb) (a' : Act) (w' : World), Arr P (lone (b.atR a0 [.code c]) cs w) b [] cs φ' a' w' ex → ∃ todo u, PMR φ' pm u ∧ Steps P (lone (b.atR a0 [.code c]) cs w) (lone { b.atR a' todo with mode := u } cs w')) →
          ∃ φ' w' fr e, Stp φ h w φ' r.h w' ∧ ends φ' r e ∧ Steps P (lone (b.atR a0 [.code c]) cs w) (lone fr cs w') ∧ fr.fn = f ∧ fr.leaving P w' e := by
        intro ex st pm h1 h2 h3
        obtain ⟨φ1, a1, cs1, w1, s1, s2, s3⟩ := hF.sc _ _ _ _ _ h1 hcode φ b a0 default cs cs w hk hw hsr []
        have hcs : cs1 = cs := s2.cs
        subst hcs
        obtain ⟨todo, u, hu, hsteps⟩ := h3 φ1 a1 w1 s3
        obtain ⟨φ', w', fr', e', t1, t2, t3, t4, t5⟩ := leave_rel hF hf st.ds pm st.h r h2 φ1 w1 { b.atR a1 todo with mode := u } cs1 s1.wr (s2.env.of_tmps rfl) s2.ds hu rfl rfl
        exact ⟨φ', w', fr', e', s1.trans t1, t2, hsteps.trans t3, t4, t5⟩
      split at e
      · rename_i st h1
        refine go _ st .ret h1 e ?_
        intro φ' a' w' harr
        exact ⟨_, .returning, .ret, Steps.trans harr (.one (stepR_end rfl))⟩
      · rename_i st h1
        refine go _ st .ret h1 e ?_
        rintro φ' a' w' ⟨k₁, harr⟩
        exact ⟨_, .returning, .ret, Steps.trans harr (.one (stepR_ret rfl))⟩
      · rename_i v st h1
        refine go _ st (.pan v false) h1 e ?_
        rintro φ' a' w' ⟨todo, pv, hv, harr⟩
        exact ⟨todo, _, .pan hv, harr⟩
      · cases e
theorem evCallD_rel {F : Fns} (hP : ProgOk P) (hF : FnsOk P F) {f : FuncId} {args : List V} {m m' : PM} {h : Hp} {r : VRes} (e : evCallD P F f args m h = some (r, m')) : CdS P f args m h r m' := by
  unfold evCallD at e
  split at e
  · cases e
  · rename_i fn hf
    split at e
    · cases e
    · rename_i c hb
      obtain ⟨hok, hcode⟩ := hP.call f fn c hf hb
      refine ⟨hok, ?_⟩
      intro φ w pargs hw ha c0 cs0 u hu
      let b : Frame := { (default : Frame) with fn := f, kind := .deferred, roundOf := none }
      let a0 : Act := { tmps := pargs ++ Array.replicate (fn.ntmps - pargs.size) undef, defers := [] }
      have henter : Frame.enter P f pargs .deferred = b.atR a0 [.code c] := by
        simp [Frame.enter, Frame.atR, hf, hb, b, a0]
      rw [henter]
      have hk : KR φ b .deferred := .deferred rfl rfl
      have hsr : SR φ .deferred c0 cs0 ⟨Env.enter fn.ntmps args, [], m, h⟩ a0 ({ c0 with mode := u } :: cs0) := ⟨enter_rel ha fn.ntmps [], .nil, u, hu, rfl⟩
      have go : ∀ (ex : Ex) (env' : Env) (h' : Hp), F.sc .deferred c ⟨Env.enter fn.ntmps args, [], m, h⟩ = some (ex, ⟨env', [], m', h'⟩) →
          ∃ φ' w' a' u', Stp φ h w φ' h' w' ∧ ER φ' env' a' ∧ a'.defers = [] ∧ PMR φ' m' u' ∧ Arr P (lone (b.atR a0 [.code c]) ({ c0 with mode := u } :: cs0) w) b [] ({ c0 with mode := u' } :: cs0) φ' a' w' ex := by
        intro ex env' h' h1
        obtain ⟨φ1, a1, cs1, w1, s1, s2, s3⟩ := hF.sc _ _ _ _ _ h1 hcode φ b a0 c0 cs0 _ w hk hw hsr []
        obtain ⟨u', hu', hcs⟩ := s2.cs
        subst hcs
        have hds := s2.ds
        generalize hd : a1.defers = pds at hds
        cases hds
        exact ⟨φ1, w1, a1, u', s1, s2.env, hd, hu', s3⟩
      split at e
      · rename_i env' m1 h' h1
        simp only [Option.map_eq_some_iff, Prod.mk.injEq] at e
        obtain ⟨v, hv, rfl, rfl⟩ := e
        obtain ⟨φ', w', a', u', s1, s2, s3, s4, s5⟩ := go _ _ _ h1
        obtain ⟨pv, r1, r2⟩ := resultsV_rel (P := P) s1.wr s2 hv
        exact ⟨φ', w', _, .returned pv, u', s1, ⟨pv, r2, rfl⟩, s4, Steps.trans s5 (.one (stepR_end rfl)), rfl, rfl, s3, fn, hf, r1⟩
      · rename_i env' m1 h' h1
        simp only [Option.map_eq_some_iff, Prod.mk.injEq] at e
        obtain ⟨v, hv, rfl, rfl⟩ := e
        obtain ⟨φ', w', a', u', s1, s2, s3, s4, k₁, s5⟩ := go _ _ _ h1
        obtain ⟨pv, r1, r2⟩ := resultsV_rel (P := P) s1.wr s2 hv
        exact ⟨φ', w', _, .returned pv, u', s1, ⟨pv, r2, rfl⟩, s4, Steps.trans s5 (.one (stepR_ret rfl)), rfl, rfl, s3, fn, hf, r1⟩
      · rename_i v env' m1 h' h1
        simp only [Option.some.injEq, Prod.mk.injEq] at e
        obtain ⟨rfl, rfl⟩ := e
        obtain ⟨φ', w', a', u', s1, s2, s3, s4, todo, pv, hv, s5⟩ := go _ _ _ h1
        exact ⟨φ', w', _, .panicked [{ v := pv, recovered := false }], u', s1, ⟨pv, hv, rfl⟩, s4, s5, rfl, rfl, s3, fn, hf⟩
      · cases e
end Go.Ev
end
section
namespace Go.Ev
variable {P : Program} {φ : Emb} {h : Hp} {w : World}
theorem loop_live (hw : WR φ h w) {l : Nat} {s : LoopState} {pend : Option Code} {env : Env} {ps : List Tmp} {as bd : Code} {d : Nat} (e : h.get l = some (.loop s pend env ps as bd d)) :
    ∃ p q tmps fn, φ l = some p ∧ w.heap[p.b]? = some (.loop { state := s, pending := pend, fn := fn, tmps := tmps, params := ps.toArray, assign := as, body := bd, defers := q.b }) ∧ ER φ env ⟨tmps, []⟩ ∧ φ d = some q ∧ CodeOk as ∧ CodeOk bd := by
  obtain ⟨p, obj, hp, hb, ho⟩ := hw.live _ _ e
  cases ho with
  | loop he hd hok => exact ⟨p, _, _, _, hp, hb, he, hd, hok.1, hok.2⟩
theorem setAll_rel : ∀ (ps : List Tmp) (args : List V) (pargs : List Value) (env : Env) (tmps : Array Value), ER φ env ⟨tmps, []⟩ → VRs φ args pargs →
    ER φ (setAll env (ps.zip args)) ⟨(ps.zip pargs).foldl (fun tmps (t, a) => tmps.setIfInBounds t a) tmps, []⟩
  | [], _, _, env, tmps, he, _ => by simpa [setAll] using he
  | p :: ps, [], pargs, env, tmps, he, ha => by cases ha; simpa [setAll] using he
  | p :: ps, v :: args, pargs, env, tmps, he, ha => by
    cases ha with | cons hv hl =>
    simp only [List.zip_cons_cons, setAll, List.foldl_cons]
    exact setAll_rel ps args _ _ _ (he.put (some p) hv) hl
theorem endRound_rel (hw : WR φ h w) {l : Nat} {s : LoopState} {pend : Option Code} {env : Env} {ps : List Tmp} {as bd : Code} {d : Nat} (e : h.get l = some (.loop s pend env ps as bd d)) {p : PB} (hp : φ l = some p) (j : Option Code) :
    ∃ w', (Instr.endRound p.b j).run P w = .ok (.bool j.isNone) w' ∧ Stp φ h w φ (h.put l (some (.loop (if j.isNone then .ready else .done) j env ps as bd d))) w' := by
  obtain ⟨p', q, tmps, fn, hp', hb, he, hd, h1, h2⟩ := loop_live hw e
  rw [hp] at hp'; cases hp'
  refine ⟨_, ?_, Stp.set hw e rfl hp (BlockSet.of_setObj (o' := .loop { state := if j.isNone then .ready else .done, pending := j, fn := fn, tmps := tmps, params := ps.toArray, assign := as, body := bd, defers := q.b }) hb) (.loop he hd ⟨h1, h2⟩) rfl⟩
  simp only [Instr.endRound, Instr.getLoop, Sem.run_bind, run_getObj hb (by simp), Result.andThen_ok, Sem.run_pure, run_setObj hb (by simp)]
theorem evRound_rel {F : Fns} (hF : FnsOk P F) {l : Nat} {args : List V} {h : Hp} {r : VRes} (e : evRound F l args h = some r) : RdS P l args h r := by
  intro φ w pargs p hw hp ha
  unfold evRound at e
  split at e
  · rename_i s pend env ps as bd d hg
    obtain ⟨p', q, tmps, fn, hp', hb, he, hd, hok1, hok2⟩ := loop_live hw hg
    rw [hp] at hp'; cases hp'
    split at e
    · rename_i hlen
      have hsz : ¬ pargs.size ≠ ps.toArray.size := by
        have := ha.length
        simp only [Array.length_toList] at this
        simp; omega
      have hfold : (ps.toArray.zip pargs).foldl (fun tmps (t, a) => tmps.setIfInBounds t a) tmps = (ps.zip pargs.toList).foldl (fun tmps (t, a) => tmps.setIfInBounds t a) tmps := by
        rw [← Array.foldl_toList]; simp
      refine ⟨fn, (ps.zip pargs.toList).foldl (fun tmps (t, a) => tmps.setIfInBounds t a) tmps, as, bd, ?_, ?_⟩
      · simp only [Instr.yield, Instr.getLoop, Sem.run_bind, run_getObj hb (by simp), Result.andThen_ok, Sem.run_pure, if_neg hsz, hfold]
      · intro c cs
        let b : Frame := { (default : Frame) with fn := fn, kind := .normal, roundOf := some p.b }
        let a0 : Act := { tmps := (ps.zip pargs.toList).foldl (fun tmps (t, a) => tmps.setIfInBounds t a) tmps, defers := [] }
        have hb0 : Frame.round p.b fn a0.tmps as bd .normal = b.atR a0 [.code as, .beginRound, .code bd] := by
          simp [Frame.round, Frame.atR, b, a0]
        show ∃ φ' w' v pv, _ ∧ _ ∧ _ ∧ _ ∧ Steps P (lone (Frame.round p.b fn a0.tmps as bd .normal) (c :: cs) w) _
        rw [hb0]
        have hk : KR φ b (.round l) := .round hp rfl rfl
        have hsr : SR φ (.round l) default (c :: cs) ⟨setAll env (ps.zip args), [], .ret, h⟩ a0 (c :: cs) := ⟨setAll_rel ps args pargs.toList env tmps he ha, .nil, rfl⟩
        split at e
        · rename_i st1 h1
          obtain ⟨φ1, a1, cs1, w1, s1, s2, s3⟩ := hF.sc _ _ _ _ _ h1 hok1 φ b a0 default (c :: cs) (c :: cs) w hk hw hsr [.beginRound, .code bd]
          have hcs : cs1 = c :: cs := s2.cs
          subst hcs
          split at e
          · rename_i pend1 env1 ps1 as1 bd1 d1 hg1
            obtain ⟨p1, q1, tmps1, fn1, hp1, hb1, he1, hd1, ok1, ok2⟩ := loop_live s1.wr hg1
            have hpe := s1.emb _ _ hp
            rw [hpe] at hp1; cases hp1
            have hset := Stp.set s1.wr hg1 rfl hpe (BlockSet.of_setObj (o' := .loop { state := .busy, pending := pend1, fn := fn1, tmps := tmps1, params := ps1.toArray, assign := as1, body := bd1, defers := q1.b }) hb1) (.loop he1 hd1 ⟨ok1, ok2⟩) rfl
            have hbegin : (Instr.beginRound p.b).run P w1 = .ok () { w1 with heap := w1.heap.setIfInBounds p.b (.loop { state := .busy, pending := pend1, fn := fn1, tmps := tmps1, params := ps1.toArray, assign := as1, body := bd1, defers := q1.b }) } := by
              simp only [Instr.beginRound, Instr.getLoop, Sem.run_bind, run_getObj hb1 (by simp), Result.andThen_ok, Sem.run_pure, run_setObj hb1 (by simp)]
            have hs2 := stepR_beginRound (P := P) (b := b) (a := a1) (k := [.code bd]) (cs := c :: cs) rfl hbegin
            split at e
            · rename_i ex st2 h2
              have hk2 : KR φ1 b (.round l) := hk.mono s1.emb
              obtain ⟨φ2, a2, cs2, w2, t1, t2, t3⟩ := hF.sc _ _ _ _ _ h2 hok2 φ1 b a1 default (c :: cs) (c :: cs) _ hk2 hset.wr ⟨s2.env, s2.ds, rfl⟩ []
              have hcs : cs2 = c :: cs := t2.cs
              subst hcs
              split at e
              · rename_i j hj
                split at e
                · rename_i s2' pend2 env2 ps2 as2 bd2 d2 hg2
                  cases e
                  have hpe2 := t1.emb _ _ hpe
                  obtain ⟨w3, r1, r2⟩ := endRound_rel (P := P) t1.wr hg2 hpe2 j
                  refine ⟨φ2, w3, .bool j.isNone, .bool j.isNone, rfl, ⟨_, rfl⟩, .bool _, ((s1.trans hset).trans t1).trans r2, ?_⟩
                  refine Steps.trans s3 (.head hs2 ?_)
                  cases ex with
                  | norm => cases hj; exact Steps.trans t3 (.one (stepR_round_end rfl rfl r1))
                  | ret => cases hj; obtain ⟨k₁, t3⟩ := t3; exact Steps.trans t3 (.one (stepR_round_ret rfl rfl r1))
                  | exit id => cases hj; obtain ⟨k₁, hx, t3⟩ := t3; exact Steps.trans t3 (.one (stepR_round_exit rfl rfl hx r1))
                  | goto g => cases hj; obtain ⟨k₁, hx, t3⟩ := t3; exact Steps.trans t3 (.one (stepR_round_goto rfl rfl hx r1))
                  | pan v => cases hj
                · cases e
              · cases e
            · cases e
          · cases e
        · cases e
    · cases e
  · cases e
theorem findLabel_ok : ∀ (c : Code) (l : Nat) (r : Code), findLabel c l = some r → CodeOk c → CodeOk r
  | .seq x y, l, r, e, hc => by
    obtain ⟨h1, h2⟩ := hc
    simp only [findLabel] at e
    split at e
    · rename_i rest hx
      cases e
      exact ⟨findLabel_ok x l _ hx h1, h2⟩
    · exact findLabel_ok y l r e h2
  | .label l', l, r, e, _ => by
    simp only [findLabel] at e
    split at e
    · cases e; trivial
    · cases e
  | .skip, _, _, e, _ => by cases e
  | .region .., _, _, e, _ => by cases e
  | .cond .., _, _, e, _ => by cases e
  | .block .., _, _, e, _ => by cases e
  | .loop .., _, _, e, _ => by cases e
  | .rangeFunc .., _, _, e, _ => by cases e
  | .exit .., _, _, e, _ => by cases e
  | .scope .., _, _, e, _ => by cases e
  | .goto .., _, _, e, _ => by cases e
  | .ret, _, _, e, _ => by cases e
  | .refuse .., _, _, e, _ => by cases e
theorem evLoop_rel {F : Fns} (hF : FnsOk P F) {kd : Kd} {c : Code} {st st' : St} {e : Ex} (he : evLoop F kd c st = some (e, st')) (hc : CodeOk c) {b : Frame} {a : Act} {c0 : Frame} {cs0 cs : List Frame} (hk : KR φ b kd) (hw : WR φ st.h w) (hr : SR φ kd c0 cs0 st a cs) (k : List Item) :
    Res P (lone (b.atR a (.code c :: .inLoop c :: k)) cs w) b k kd c0 cs0 φ st.h w e st' := by
  unfold evLoop at he
  split at he
  · rename_i st1 h1
    obtain ⟨φ1, a1, cs1, w1, s1, s2, s3⟩ := hF.sc _ _ _ _ _ h1 hc φ b a c0 cs0 cs w hk hw hr (.inLoop c :: k)
    obtain ⟨φ2, a2, cs2, w2, t1, t2, t3⟩ := hF.lp _ _ _ _ _ he hc φ1 b a1 c0 cs0 cs1 w1 (hk.mono s1.emb) s1.wr s2 k
    exact ⟨φ2, a2, cs2, w2, s1.trans t1, t2, t3.of_steps (Steps.trans s3 (.one stepR_inLoop))⟩
  · rename_i hne
    refine Res.pass (x := .inLoop c) rfl ?_ (hF.sc _ _ _ _ _ he hc φ b a c0 cs0 cs w hk hw hr (.inLoop c :: k))
    rintro rfl
    exact hne _ he
theorem evScope_rel {F : Fns} (hF : FnsOk P F) {kd : Kd} {bd cur : Code} {st st' : St} {e : Ex} (he : evScope F kd bd cur st = some (e, st')) (hbd : CodeOk bd) (hc : CodeOk cur) {b : Frame} {a : Act} {c0 : Frame} {cs0 cs : List Frame} (hk : KR φ b kd) (hw : WR φ st.h w) (hr : SR φ kd c0 cs0 st a cs) (k : List Item) :
    Res P (lone (b.atR a (.code cur :: .inScope bd :: k)) cs w) b k kd c0 cs0 φ st.h w e st' := by
  unfold evScope at he
  split at he
  · rename_i l st1 h1
    obtain ⟨φ1, a1, cs1, w1, s1, s2, k₁, hk1, s3⟩ := hF.sc _ _ _ _ _ h1 hc φ b a c0 cs0 cs w hk hw hr (.inScope bd :: k)
    split at he
    · rename_i rest hfl
      have hg : gotoIn l k₁ = some (.code rest :: .inScope bd :: k) := by rw [hk1]; simp [gotoIn, hfl]
      obtain ⟨φ2, a2, cs2, w2, t1, t2, t3⟩ := hF.sp _ _ _ _ _ _ he hbd (findLabel_ok bd l rest hfl hbd) φ1 b a1 c0 cs0 cs1 w1 (hk.mono s1.emb) s1.wr s2 k
      exact ⟨φ2, a2, cs2, w2, s1.trans t1, t2, t3.of_steps (Steps.trans s3 (.one (stepR_goto hg)))⟩
    · rename_i hfl
      cases he
      exact ⟨φ1, a1, cs1, w1, s1, s2, k₁, by rw [hk1]; simp [gotoIn, hfl], s3⟩
  · rename_i hne
    obtain ⟨φ1, a1, cs1, w1, s1, s2, s3⟩ := hF.sc _ _ _ _ _ he hc φ b a c0 cs0 cs w hk hw hr (.inScope bd :: k)
    refine ⟨φ1, a1, cs1, w1, s1, s2, ?_⟩
    cases e with
    | norm => exact Steps.trans s3 (.one stepR_inScope)
    | exit id => obtain ⟨k₁, h1, h2⟩ := s3; exact ⟨k₁, by rw [h1]; rfl, h2⟩
    | goto l => exact absurd he (hne l st')
    | ret => exact s3
    | pan v => exact s3
def DrawOk (P : Program) (F : Fns) : Prop :=
  ∀ (kd : Kd) (id : Nat) (ops : Array Oper) (st : St) (e : Ex) (st' : St), RegOk ops → evRegionDraw P F ops st = some (e, st') →
    ∀ (φ : Emb) (b : Frame) (a : Act) (c0 : Frame) (cs0 cs : List Frame) (w : World), KR φ b kd → WR φ st.h w → SR φ kd c0 cs0 st a cs → ∀ k, Res P (lone (b.atR a (.code (.region id ops true) :: k)) cs w) b k kd c0 cs0 φ st.h w e st'
theorem range_ops {ops : Array Oper} : (List.range ops.size).map (ops[·]?) = ops.toList.map some := by
  apply List.ext_getElem?
  intro i
  rw [List.getElem?_map, List.getElem?_map, Array.getElem?_toList]
  by_cases hi : i < ops.size
  · simp [hi]
  · simp [hi]
theorem around_rel {kd : Kd} (ps : Array Tmp) {as bd : Code} {st : St} {b : Frame} {a : Act} {c0 : Frame} {cs0 cs : List Frame} (hk : KR φ b kd) (hw : WR φ st.h w) (hr : SR φ kd c0 cs0 st a cs) (hc : CodeOk as ∧ CodeOk bd)
    {d : Nat} {ds : List Dfr} {h0 : Hp} (harr : aroundV kd st = some (d, ds, h0)) :
    ∃ φ1 w1 mark pl, (Instr.enterLoop b.fn a.tmps ps as bd b.roundOf).run P w = .ok (pl, mark) w1 ∧ Stp φ st.h w φ1 (h0.new (.loop .ready none st.env ps.toList as bd d)).2 w1 ∧
          φ1 h0.next = some ⟨pl, 0, 0⟩ ∧ DRs φ1 ds (mark ++ a.defers) := by
  have hother : b.roundOf = none → some (st.h.next, Dfr.coll st.h.next :: st.ds, (st.h.new .dfr).2) = some (d, ds, h0) →
      ∃ φ1 w1 mark pl, (Instr.enterLoop b.fn a.tmps ps as bd b.roundOf).run P w = .ok (pl, mark) w1 ∧ Stp φ st.h w φ1 (h0.new (.loop .ready none st.env ps.toList as bd d)).2 w1 ∧
          φ1 h0.next = some ⟨pl, 0, 0⟩ ∧ DRs φ1 ds (mark ++ a.defers) := by
    intro h2 harr
    simp only [Option.some.injEq, Prod.mk.injEq] at harr
    obtain ⟨rfl, rfl, rfl⟩ := harr
    have hf : φ st.h.next = none := hw.fresh _ (Nat.le_refl _)
    have hs1 : Stp φ st.h w (φ.upd st.h.next ⟨w.heap.size, 0, 0⟩) (st.h.new .dfr).2 (w.alloc (.deferred (some []))) :=
      Stp.fresh (o := 0) (sz := 0) (lo := .dfr) (obj := .deferred (some [])) (w' := w.alloc (.deferred (some []))) hw hf (Nat.lt_succ_self _) (Nat.le_succ _) (fun j => Hp.get_new _ _ _) .dfr rfl rfl rfl rfl
    have hf2 : (φ.upd st.h.next ⟨w.heap.size, 0, 0⟩) (st.h.new .dfr).2.next = none := hs1.wr.fresh _ (Nat.le_refl _)
    have hle2 := Emb.le_upd ⟨(w.alloc (.deferred (some []))).heap.size, 0, 0⟩ hf2
    have hd1 : (φ.upd st.h.next ⟨w.heap.size, 0, 0⟩) st.h.next = some ⟨w.heap.size, 0, 0⟩ := Emb.upd_self _ _ _
    let lo : Obj := .loop { state := .ready, pending := none, fn := b.fn, tmps := a.tmps, params := ps, assign := as, body := bd, defers := w.heap.size }
    refine ⟨(φ.upd st.h.next ⟨w.heap.size, 0, 0⟩).upd (st.h.new .dfr).2.next ⟨(w.alloc (.deferred (some []))).heap.size, 0, 0⟩, (w.alloc (.deferred (some []))).alloc lo, [⟨.collected w.heap.size, #[]⟩], (w.alloc (.deferred (some []))).heap.size, ?_, hs1.trans ?_, Emb.upd_self _ _ _, ?_⟩
    · simp only [Instr.enterLoop, h2, Sem.run_bind, Result.andThen_ok, Sem.run_pure, run_newObj_alloc]; rfl
    · refine Stp.fresh (o := 0) (sz := 0) (lo := .loop .ready none st.env ps.toList as bd st.h.next) (obj := lo) (w' := (w.alloc (.deferred (some []))).alloc lo) hs1.wr hf2 (Nat.lt_succ_self _) (Nat.le_succ _) (fun j => Hp.get_new _ _ _) ?_ rfl rfl rfl rfl
      have := OR.loop (st := .ready) (pend := none) (fn := b.fn) (ps := ps.toList) (p := ⟨(w.alloc (.deferred (some []))).heap.size, 0, 0⟩) (((hr.env.mono hs1.emb).mono hle2).of_tmps (a' := ⟨a.tmps, []⟩) rfl) (hle2 _ _ hd1) ⟨hc.1, hc.2⟩
      simpa [lo] using this
    · exact .cons (.coll (hle2 _ _ hd1)) ((hr.ds.mono hs1.emb).mono hle2)
  cases kd with
  | normal => cases hk with | normal h1 h2 => exact hother h2 harr
  | deferred => cases hk with | deferred h1 h2 => exact hother h2 harr
  | round l =>
    simp only [aroundV] at harr
    split at harr
    · rename_i s pend env ps' as' bd' d' hg
      simp only [Option.some.injEq, Prod.mk.injEq] at harr
      obtain ⟨rfl, rfl, rfl⟩ := harr
      cases hk with | round hp h1 h2 =>
      rename_i p
      obtain ⟨p', q, tmps, fn, hp', hb, he', hd, hok1, hok2⟩ := loop_live hw hg
      rw [hp] at hp'; cases hp'
      have hf : φ st.h.next = none := hw.fresh _ (Nat.le_refl _)
      have hle := Emb.le_upd ⟨w.heap.size, 0, 0⟩ hf
      let lo : Obj := .loop { state := .ready, pending := none, fn := b.fn, tmps := a.tmps, params := ps, assign := as, body := bd, defers := q.b }
      refine ⟨φ.upd st.h.next ⟨w.heap.size, 0, 0⟩, w.alloc lo, [], w.heap.size, ?_, ?_, Emb.upd_self _ _ _, ?_⟩
      · simp only [Instr.enterLoop, h2, Instr.getLoop, Sem.run_bind, run_getObj hb (by simp), Result.andThen_ok, Sem.run_pure, run_newObj_alloc]; rfl
      · refine Stp.fresh (o := 0) (sz := 0) (lo := .loop .ready none st.env ps.toList as bd d') (obj := lo) (w' := w.alloc lo) hw hf (Nat.lt_succ_self _) (Nat.le_succ _) (fun j => Hp.get_new _ _ _) ?_ rfl rfl rfl rfl
        have := OR.loop (φ := φ.upd st.h.next ⟨w.heap.size, 0, 0⟩) (st := .ready) (pend := none) (fn := b.fn) (ps := ps.toList) (p := ⟨w.heap.size, 0, 0⟩) ((hr.env.mono hle).of_tmps (a' := ⟨a.tmps, []⟩) rfl) (hle _ _ hd) ⟨hc.1, hc.2⟩
        simpa [lo] using this
      · exact hr.ds.mono hle
    · cases harr
theorem evRange_rel {F : Fns} (hF : FnsOk P F) {kd : Kd} {f : Operand} {ps : Array Tmp} {as bd : Code} {st st' : St} {e : Ex} (he : evRange F kd f ps as bd st = some (e, st')) (hc : CodeOk as ∧ CodeOk bd) {b : Frame} {a : Act} {c0 : Frame} {cs0 cs : List Frame}
    (hk : KR φ b kd) (hw : WR φ st.h w) (hr : SR φ kd c0 cs0 st a cs) (k : List Item) : Res P (lone (b.atR a (.code (.rangeFunc f ps as bd) :: k)) cs w) b k kd c0 cs0 φ st.h w e st' := by
  unfold evRange at he
  split at he
  · rename_i fn xs ys d ds h0 hfv harr
    have hfr := ρ_rel hr.env hfv
    obtain ⟨φ1, w1, mark, pl, e1, e2, e3, e4⟩ := around_rel (P := P) ps hk hw hr hc harr
    have hfr1 := hfr.mono e2.emb
    generalize hpf : a.eval f = pf at hfr1
    cases hfr1 with | func hx hy =>
    rename_i pxs pys
    have hres : (resolve a.eval (rangeCall f pl) 0).run P w1 = .ok ⟨.fn (.func fn) pys.toArray, pxs.toArray ++ #[Value.func (.yield pl) #[] #[]]⟩ w1 := by
      have hm : (#[Operand.const (.func (.yield pl) #[] #[])] : Array Operand).map a.eval = #[Value.func (.yield pl) #[] #[]] := by simp [Act.eval]
      unfold resolve
      simp only [hm, hpf, Deferred.ofValue, Sem.run_pure]
    have hargs : VRs φ1 (xs ++ [.yield h0.next] ++ ys) (pxs.toArray ++ #[Value.func (.yield pl) #[] #[]] ++ pys.toArray).toList := by
      have := (hx.append (.cons (.yield e3) .nil)).append hy
      simpa using this
    have main : ∀ r, F.cl fn (xs ++ [.yield h0.next] ++ ys) (h0.new (.loop .ready none st.env ps.toList as bd d)).2 = some r →
        ∃ φ2 w2 fr en, Stp φ st.h w φ2 r.h w2 ∧ φ1.le φ2 ∧ ends φ2 r en ∧ Steps P (lone (b.atR a (.code (.rangeFunc f ps as bd) :: k)) cs w) (lone fr (b.atR { a with defers := mark ++ a.defers } (.inRangeFunc pl :: k) :: cs) w2) ∧ fr.leaving P w2 en := by
      intro r hcl
      obtain ⟨hok, hcall⟩ := hF.cl _ _ _ _ hcl
      have hinv := run_invoke hok (pxs.toArray ++ #[Value.func (.yield pl) #[] #[]]) pys.toArray w1
      have hs1 := stepR_rangeFunc (P := P) (b := b) (a := a) (k := k) (cs := cs) e1 hres hinv
      obtain ⟨φ2, w2, fr, en, s1, s2, s3, s4, s5⟩ := hcall φ1 w1 _ e2.wr hargs (b.atR { a with defers := mark ++ a.defers } (.inRangeFunc pl :: k) :: cs)
      exact ⟨φ2, w2, fr, en, e2.trans s1, s1.emb, s2, .head hs1 s3, s5⟩
    split at he
    · rename_i v h2 hcl
      obtain ⟨φ2, w2, fr, en, s1, s0, s2, s3, s5⟩ := main _ hcl
      obtain ⟨pv, hpv, rfl⟩ := s2
      unfold rangeEnd at he
      split at he
      · rename_i s j env2 ps2 as2 bd2 d2 hg2
        have hback := step_leave_returned (c := b.atR { a with defers := mark ++ a.defers } (.inRangeFunc pl :: k)) (cs := cs) s5
        rw [finish_atR_inRangeFunc] at hback
        obtain ⟨p', q', tmps', fn', hp', hb', he', hd', ok1, ok2⟩ := loop_live s1.wr hg2
        have hpe := s0 _ _ e3
        rw [hpe] at hp'; cases hp'
        simp only at hb'
        have hset := Stp.set s1.wr hg2 rfl hpe (BlockSet.of_setObj (o' := .loop { state := .exhausted, pending := j, fn := fn', tmps := tmps', params := ps2.toArray, assign := as2, body := bd2, defers := q'.b }) hb') (.loop he' hd' ⟨ok1, ok2⟩) rfl
        have hset2 := hset.sub (h'' := h2.put h0.next none) ⟨rfl, fun i o hi => by
          rw [Hp.get_put] at hi ⊢
          split at hi
          · cases hi
          · rename_i hne; rw [if_neg hne]; exact hi⟩
        have fin : s ≠ .busy → rangeJump j ⟨st.env, ds, st.pm, h2.put h0.next none⟩ = some (e, st') → Res P (lone (b.atR a (.code (.rangeFunc f ps as bd) :: k)) cs w) b k kd c0 cs0 φ st.h w e st' := by
          intro hs hj
          have hend : (Instr.endLoop pl).run P w2 = .ok j { w2 with heap := w2.heap.setIfInBounds pl (.loop { state := .exhausted, pending := j, fn := fn', tmps := tmps', params := ps2.toArray, assign := as2, body := bd2, defers := q'.b }) } := by
            have : (s == LoopState.busy) = false := by cases s <;> first | rfl | exact absurd rfl hs
            simp only [Instr.endLoop, Instr.getLoop, Sem.run_bind, run_getObj hb' (by simp), Result.andThen_ok, Sem.run_pure, this, Bool.false_eq_true, if_false, run_setObj hb' (by simp)]
          have hstep := stepR_endRangeFunc (P := P) (b := b) (a := { a with defers := mark ++ a.defers }) (k := k) (cs := cs) hend
          have hall := Steps.trans s3 (.head hback (.one hstep))
          have hsr : SR φ2 kd c0 cs0 ⟨st.env, ds, st.pm, h2.put h0.next none⟩ { a with defers := mark ++ a.defers } cs :=
            ⟨(hr.env.mono s1.emb).of_tmps rfl, e4.mono s0, hr.cs.mono s1.emb⟩
          unfold rangeJump at hj
          split at hj
          · cases hj; exact ⟨φ2, _, cs, _, s1.trans hset2, hsr, hall⟩
          · cases hj; exact ⟨φ2, _, cs, _, s1.trans hset2, hsr, k, hall⟩
          · cases hj; exact ⟨φ2, _, cs, _, s1.trans hset2, hsr, k, rfl, hall⟩
          · cases hj; exact ⟨φ2, _, cs, _, s1.trans hset2, hsr, k, rfl, hall⟩
          · cases hj
        cases s with
        | busy => cases he
        | ready => exact fin (by simp) he
        | done => exact fin (by simp) he
        | exhausted => exact fin (by simp) he
      · cases he
    · rename_i v h2 hcl
      cases he
      obtain ⟨φ2, w2, fr, en, s1, s0, s2, s3, s5⟩ := main _ hcl
      obtain ⟨pv, hpv, rfl⟩ := s2
      have hback := step_leave_panicked (c := b.atR { a with defers := mark ++ a.defers } (.inRangeFunc pl :: k)) (cs := cs) s5
      rw [Frame.raise_atR] at hback
      exact ⟨φ2, { a with defers := mark ++ a.defers }, cs, w2, s1, ⟨(hr.env.mono s1.emb).of_tmps rfl, e4.mono s0, hr.cs.mono s1.emb⟩, _, pv, hpv, Steps.trans s3 (.one hback)⟩
    · cases he
  · cases he
theorem evCode_rel {F : Fns} (hF : FnsOk P F) (hD : DrawOk P F) {kd : Kd} {c : Code} {st st' : St} {e : Ex} (he : evCode P F kd c st = some (e, st')) : ScS P kd c st e st' := by
  intro hc φ b a c0 cs0 cs w hk hw hr k
  unfold evCode at he
  split at he
  · cases he; exact ⟨φ, a, cs, w, Stp.refl hw, hr, .one stepR_skip⟩
  · cases he; exact ⟨φ, a, cs, w, Stp.refl hw, hr, .one stepR_label⟩
  · rename_i id ops
    exact Res.of_steps (.one stepR_region) (evOps_rel hF ops.toList (List.range ops.size) st e st' he range_ops φ w b a c0 cs0 cs hk hw hr k)
  · rename_i id ops
    exact hD kd id ops st e st' hc he φ b a c0 cs0 cs w hk hw hr k
  · rename_i x y
    split at he
    · rename_i st1 h1
      obtain ⟨φ1, a1, cs1, w1, s1, s2, s3⟩ := hF.sc _ _ _ _ _ h1 hc.1 φ b a c0 cs0 cs w hk hw hr (.code y :: k)
      obtain ⟨φ2, a2, cs2, w2, t1, t2, t3⟩ := hF.sc _ _ _ _ _ he hc.2 φ1 b a1 c0 cs0 cs1 w1 (hk.mono s1.emb) s1.wr s2 k
      exact ⟨φ2, a2, cs2, w2, s1.trans t1, t2, t3.of_steps (.head stepR_seq s3)⟩
    · rename_i hne
      refine Res.of_steps (.one stepR_seq) (Res.pass (x := .code y) rfl ?_ (hF.sc _ _ _ _ _ he hc.1 φ b a c0 cs0 cs w hk hw hr (.code y :: k)))
      rintro rfl
      exact hne _ he
  · rename_i x t f
    split at he
    · rename_i hv
      have hv := ρ_rel hr.env hv
      generalize hpv : a.eval x = pv at hv
      cases hv
      exact Res.of_steps (.one (stepR_cond hpv)) (hF.sc _ _ _ _ _ he hc.1 φ b a c0 cs0 cs w hk hw hr k)
    · rename_i hv
      have hv := ρ_rel hr.env hv
      generalize hpv : a.eval x = pv at hv
      cases hv
      exact Res.of_steps (.one (stepR_cond hpv)) (hF.sc _ _ _ _ _ he hc.2 φ b a c0 cs0 cs w hk hw hr k)
    · cases he
  · rename_i id body
    split at he
    · rename_i id' st1 h1
      obtain ⟨φ1, a1, cs1, w1, s1, s2, k₁, hk1, s3⟩ := hF.sc _ _ _ _ _ h1 hc φ b a c0 cs0 cs w hk hw hr (.inBlock id :: k)
      split at he
      · rename_i hid
        cases he
        exact ⟨φ1, a1, cs1, w1, s1, s2, .head stepR_block (Steps.trans s3 (.one (stepR_exit (by rw [hk1]; simp [exitTo, hid]))))⟩
      · rename_i hid
        cases he
        refine ⟨φ1, a1, cs1, w1, s1, s2, k₁, ?_, .head stepR_block s3⟩
        have : (id == id') = false := by simp; exact fun h => hid h.symm
        rw [hk1]; simp [exitTo, this]
    · rename_i hne
      obtain ⟨φ1, a1, cs1, w1, s1, s2, s3⟩ := hF.sc _ _ _ _ _ he hc φ b a c0 cs0 cs w hk hw hr (.inBlock id :: k)
      refine ⟨φ1, a1, cs1, w1, s1, s2, Arr.of_steps (.one stepR_block) ?_⟩
      cases e with
      | norm => exact Steps.trans s3 (.one stepR_inBlock)
      | exit id' => exact absurd he (hne id' st')
      | goto l => obtain ⟨k₁, h1, h2⟩ := s3; exact ⟨k₁, by rw [h1]; rfl, h2⟩
      | ret => exact s3
      | pan v => exact s3
  · rename_i body
    exact Res.of_steps (.one stepR_loop) (hF.lp _ _ _ _ _ he hc φ b a c0 cs0 cs w hk hw hr k)
  · rename_i f ps as bd
    exact evRange_rel hF he hc hk hw hr k
  · rename_i id
    cases he
    exact ⟨φ, a, cs, w, Stp.refl hw, hr, k, rfl, Steps.refl P _⟩
  · rename_i body
    exact Res.of_steps (.one stepR_scope) (hF.sp _ _ _ _ _ _ he hc hc φ b a c0 cs0 cs w hk hw hr k)
  · rename_i l
    cases he
    exact ⟨φ, a, cs, w, Stp.refl hw, hr, k, rfl, Steps.refl P _⟩
  · cases he
    exact ⟨φ, a, cs, w, Stp.refl hw, hr, k, Steps.refl P _⟩
  · cases he
def SumsOk (P : Program) (sm : Sums) : Prop := ∀ f args h r, sm f args h = some r → ClS P f args h r
theorem sm0_ok : SumsOk P sm0 := fun _ _ _ _ e => by cases e
theorem FnsOk.step {F : Fns} {sm : Sums} (hP : ProgOk P) (hS : SumsOk P sm) (hF : FnsOk P F) (hD : DrawOk P F) : FnsOk P (F.step P sm) where
  sc _ _ _ _ _ e := evCode_rel hF hD e
  lp _ _ _ _ _ e hc _ _ _ _ _ _ _ hk hw hr k := evLoop_rel hF e hc hk hw hr k
  sp _ _ _ _ _ _ e hb hc _ _ _ _ _ _ _ hk hw hr k := evScope_rel hF e hb hc hk hw hr k
  cl f args h r e := by
    have e : evCall P sm F f args h = some r := e
    unfold evCall at e
    split at e
    · rename_i r' hr
      cases e
      exact hS _ _ _ _ hr
    · exact evBody_rel hP hF e
  cd _ _ _ _ _ _ e := evCallD_rel hP hF e
  rd _ _ _ _ e := evRound_rel hF e
theorem fns_ok {sm : Sums} (hP : ProgOk P) (hS : SumsOk P sm) (hD : ∀ F, FnsOk P F → DrawOk P F) : ∀ n, FnsOk P (fns P sm n)
  | 0 => by
    constructor
    · intro _ _ _ _ _ e; cases e
    · intro _ _ _ _ _ e; cases e
    · intro _ _ _ _ _ _ e; cases e
    · intro _ _ _ _ e; cases e
    · intro _ _ _ _ _ _ e; cases e
    · intro _ _ _ _ e; cases e
  | n + 1 => (fns_ok hP hS hD n).step hP hS (hD _ (fns_ok hP hS hD n))
end Go.Ev
end
