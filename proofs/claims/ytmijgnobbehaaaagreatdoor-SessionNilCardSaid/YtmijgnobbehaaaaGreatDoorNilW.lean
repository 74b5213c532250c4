/- Part of the proof that SessionNil answers true for every input. -/
import Derived.Test.YtmijgnobbehaaaaGreatDoorNilTy
import Derived.KernelRfl
set_option linter.all false
set_option linter.unusedVariables false
set_option linter.unusedSimpArgs false
namespace Go.Ev.Nil
open Go Go.Ev Go.Proofs
set_option maxRecDepth 4000
@[simp] theorem ne2 (n : Nat) : (n = n + 1 + 1) = False := eq_false (by omega)
@[simp] theorem ne3 (n : Nat) : (n = n + 1 + 1 + 1) = False := eq_false (by omega)
def sumL : Sums := fun f args h => match args with
  | [] => br (Nat.beq f 5) (some (.ret (.bool true) h)) none
  | _ => none
def NilS (h : Hp) (s : V) : Prop := s = .nilP ∨ ∃ i cs, s = .ptr i 0 ∧ i < h.next ∧ h.get i = some (.row cs false false) ∧ cs[2]? = some .nilM
def Ext (h h' : Hp) : Prop := h.next ≤ h'.next ∧ ∀ i, i < h.next → h'.get i = h.get i
theorem Ext.rfl {h : Hp} : Ext h h := ⟨Nat.le_refl _, fun _ _ => Eq.refl _⟩
theorem Ext.trans {a b c : Hp} (x : Ext a b) (y : Ext b c) : Ext a c := ⟨Nat.le_trans x.1 y.1, fun i hi => (y.2 i (Nat.lt_of_lt_of_le hi x.1)).trans (x.2 i hi)⟩
theorem Ext.new {h h' : Hp} (x : Ext h h') (o : LO) : Ext h (h'.new o).2 := ⟨Nat.le_succ_of_le x.1, fun i hi => by
  rw [hget_new, if_neg (by have := x.1; omega)]; exact x.2 i hi⟩
theorem Ext.put {h h' : Hp} (x : Ext h h') (i : Nat) (o : Option LO) (hi : h.next ≤ i) : Ext h (h'.put i o) := ⟨x.1, fun j hj => by
  rw [hget_put, if_neg (by omega)]; exact x.2 j hj⟩
theorem Ext.bump {h h' : Hp} (x : Ext h h') (k : Nat) : Ext h (h'.bump k) := ⟨Nat.le_trans x.1 (Nat.le_add_right _ _), x.2⟩
def BoolQ (h : Hp) : VRes → Prop
  | .ret (.bool _) h' => Ext h h'
  | _ => False
theorem NilS.mono {h h' : Hp} {s : V} (n : NilS h s) (x : Ext h h') : NilS h' s := by
  rcases n with rfl | ⟨i, cs, rfl, hi, hg, hc⟩
  · exact .inl rfl
  · exact .inr ⟨i, cs, rfl, Nat.lt_of_lt_of_le hi x.1, (x.2 i hi).trans hg, hc⟩
theorem heavy (k : Int) (a b : List UInt8) (src : V) (n : Int) (hs : src = .nilS ∨ ∃ id off len cap, src = .slice id off 1 len cap) (h : Hp) (id : Nat) (hg : h.get id = some (.row [.int .i8 k, .str a, .str b, src, .int .i64 n] false false)) :
    WCall Tryz.prog sumL 4 [.slice id 0 5 1 (some 1)] h (BoolQ h) := by
  refine WCall.enter Tryz.func4 rfl rfl rfl (by kernel_rfl) ?_
  by_cases hk : k = 6
  · subst hk
    by_cases hn : n < 0 <;> by_cases hm : 40 < n <;> rcases hs with rfl | ⟨i2, o2, l2, mm2, rfl⟩ <;>
    · simp
      refine WLp.once (by kernel_rfl) ?_
      simp [hg, hn, hm]
      refine WLp.once (by kernel_rfl) ?_
      simp [hg, hn, hm]
      refine ifB_dec (fun h1 => ?_) (fun h1 => ?_) <;>
      · simp [h1]
        first | done | exact Ext.rfl.bump 23 | exact Ext.rfl
  · rcases hs with rfl | ⟨i2, o2, l2, mm2, rfl⟩ <;>
    · simp
      refine WLp.once (by kernel_rfl) ?_
      simp [hg, hk]
      refine WLp.once (by kernel_rfl) ?_
      simp [hg, hk]
      refine ifB_dec (fun h1 => ?_) (fun h1 => ?_) <;>
      · simp [h1]
        first | done | exact Ext.rfl.bump 23 | exact Ext.rfl
theorem mm24 {h : Hp} {s : V} (n : NilS h s) (k : KO VRes) (hk : k.run (.ret (.bool true) h)) : @sCall Tryz.prog sumL 24 [s] h k := by
  refine WCall.enter Tryz.func24 rfl rfl rfl (by kernel_rfl) ?_
  rcases n with rfl | ⟨i, cs, rfl, hi, hg, hc⟩
  · simp
    exact hk
  · simp [hg, hc]
    exact hk
theorem mm34 {h : Hp} {s : V} (n : NilS h s) (a : List UInt8) (f : V) (k : KO VRes) (hk : ∀ h', Ext h h' → k.run (.ret (.tuple [(.bool false), (.int .i64 1)]) h')) : @sCall Tryz.prog sumL 34 [s, .str a, f] h k := by
  have ns : s = .nilP ∨ ∃ i o, s = .ptr i o := by
    rcases n with rfl | ⟨i, cs, rfl, -⟩
    · exact .inl rfl
    · exact .inr ⟨_, _, rfl⟩
  refine WCall.enter Tryz.func34 rfl rfl rfl (by kernel_rfl) ?_
  simp
  refine mm24 (n.mono (by repeat' (first | exact Ext.rfl | apply Ext.new | apply Ext.bump | (refine Ext.put ?_ _ _ ?_; rotate_left; ((try simp only [next_new, next_put, next_bump]); omega))))) _ ?_
  simp
  exact hk _ (by repeat' (first | exact Ext.rfl | apply Ext.new | apply Ext.bump | (refine Ext.put ?_ _ _ ?_; rotate_left; ((try simp only [next_new, next_put, next_bump]); omega))))
theorem mm41 {h : Hp} {s : V} (n : NilS h s) (a : List UInt8) (f : V) (k : KO VRes) (hk : ∀ h', Ext h h' → k.run (.ret (.tuple [(.str []), (.int .i64 1)]) h')) : @sCall Tryz.prog sumL 41 [s, .str a, f] h k := by
  have ns : s = .nilP ∨ ∃ i o, s = .ptr i o := by
    rcases n with rfl | ⟨i, cs, rfl, -⟩
    · exact .inl rfl
    · exact .inr ⟨_, _, rfl⟩
  refine WCall.enter Tryz.func41 rfl rfl rfl (by kernel_rfl) ?_
  simp
  refine mm24 (n.mono (by repeat' (first | exact Ext.rfl | apply Ext.new | apply Ext.bump | (refine Ext.put ?_ _ _ ?_; rotate_left; ((try simp only [next_new, next_put, next_bump]); omega))))) _ ?_
  simp
  exact hk _ (by repeat' (first | exact Ext.rfl | apply Ext.new | apply Ext.bump | (refine Ext.put ?_ _ _ ?_; rotate_left; ((try simp only [next_new, next_put, next_bump]); omega))))
theorem mm47 {h : Hp} {s : V} (n : NilS h s) (a : List UInt8) (f : V) (k : KO VRes) (hk : ∀ h', Ext h h' → k.run (.ret (.tuple [(.agg [.nilS, (.int .i64 0), .nilS]), (.int .i64 1)]) h')) : @sCall Tryz.prog sumL 47 [s, .str a, f] h k := by
  have ns : s = .nilP ∨ ∃ i o, s = .ptr i o := by
    rcases n with rfl | ⟨i, cs, rfl, -⟩
    · exact .inl rfl
    · exact .inr ⟨_, _, rfl⟩
  refine WCall.enter Tryz.func47 rfl rfl rfl (by kernel_rfl) ?_
  simp
  refine mm24 (n.mono (by repeat' (first | exact Ext.rfl | apply Ext.new | apply Ext.bump | (refine Ext.put ?_ _ _ ?_; rotate_left; ((try simp only [next_new, next_put, next_bump]); omega))))) _ ?_
  simp
  exact hk _ (by repeat' (first | exact Ext.rfl | apply Ext.new | apply Ext.bump | (refine Ext.put ?_ _ _ ?_; rotate_left; ((try simp only [next_new, next_put, next_bump]); omega))))
theorem mm53 {h : Hp} {s : V} (n : NilS h s) (a : List UInt8) (f : V) (k : KO VRes) (hk : ∀ h', Ext h h' → k.run (.ret (.tuple [(.agg [(.int .i64 0), (.int .i64 0), (.int .i64 0), (.int .i64 0), (.bool false), (.int .i64 0), (.int .i64 0), (.int .i64 0)]), (.int .i64 1)]) h')) : @sCall Tryz.prog sumL 53 [s, .str a, f] h k := by
  have ns : s = .nilP ∨ ∃ i o, s = .ptr i o := by
    rcases n with rfl | ⟨i, cs, rfl, -⟩
    · exact .inl rfl
    · exact .inr ⟨_, _, rfl⟩
  refine WCall.enter Tryz.func53 rfl rfl rfl (by kernel_rfl) ?_
  simp
  refine mm24 (n.mono (by repeat' (first | exact Ext.rfl | apply Ext.new | apply Ext.bump | (refine Ext.put ?_ _ _ ?_; rotate_left; ((try simp only [next_new, next_put, next_bump]); omega))))) _ ?_
  simp
  exact hk _ (by repeat' (first | exact Ext.rfl | apply Ext.new | apply Ext.bump | (refine Ext.put ?_ _ _ ?_; rotate_left; ((try simp only [next_new, next_put, next_bump]); omega))))
theorem mm93 {h : Hp} {s : V} (n : NilS h s) (a : List UInt8) (f : V) (k : KO VRes) (hk : ∀ h', Ext h h' → k.run (.ret (.tuple [(.int .i64 0), (.int .i64 1)]) h')) : @sCall Tryz.prog sumL 93 [s, .str a, f] h k := by
  have ns : s = .nilP ∨ ∃ i o, s = .ptr i o := by
    rcases n with rfl | ⟨i, cs, rfl, -⟩
    · exact .inl rfl
    · exact .inr ⟨_, _, rfl⟩
  refine WCall.enter Tryz.func93 rfl rfl rfl (by kernel_rfl) ?_
  simp
  refine mm24 (n.mono (by repeat' (first | exact Ext.rfl | apply Ext.new | apply Ext.bump | (refine Ext.put ?_ _ _ ?_; rotate_left; ((try simp only [next_new, next_put, next_bump]); omega))))) _ ?_
  simp
  exact hk _ (by repeat' (first | exact Ext.rfl | apply Ext.new | apply Ext.bump | (refine Ext.put ?_ _ _ ?_; rotate_left; ((try simp only [next_new, next_put, next_bump]); omega))))
theorem mm98 {h : Hp} {s : V} (n : NilS h s) (a : List UInt8) (f : V) (k : KO VRes) (hk : ∀ h', Ext h h' → k.run (.ret (.tuple [(.agg [(.int .i64 0), (.int .i64 0), .nilS, (.int .i64 0)]), (.int .i64 1)]) h')) : @sCall Tryz.prog sumL 98 [s, .str a, f] h k := by
  have ns : s = .nilP ∨ ∃ i o, s = .ptr i o := by
    rcases n with rfl | ⟨i, cs, rfl, -⟩
    · exact .inl rfl
    · exact .inr ⟨_, _, rfl⟩
  refine WCall.enter Tryz.func98 rfl rfl rfl (by kernel_rfl) ?_
  simp
  refine mm24 (n.mono (by repeat' (first | exact Ext.rfl | apply Ext.new | apply Ext.bump | (refine Ext.put ?_ _ _ ?_; rotate_left; ((try simp only [next_new, next_put, next_bump]); omega))))) _ ?_
  simp
  exact hk _ (by repeat' (first | exact Ext.rfl | apply Ext.new | apply Ext.bump | (refine Ext.put ?_ _ _ ?_; rotate_left; ((try simp only [next_new, next_put, next_bump]); omega))))
theorem mm38 {h : Hp} {s : V} (n : NilS h s) (a : List UInt8) (f : Nat) (l : List V) (k : KO VRes) (hk : ∀ h', Ext h h' → k.run (.ret (.tuple [(.int .i64 0), (.int .i64 1)]) h')) : @sCall Tryz.prog sumL 38 [s, .str a, .func f [] l] h k := by
  have ns : s = .nilP ∨ ∃ i o, s = .ptr i o := by
    rcases n with rfl | ⟨i, cs, rfl, -⟩
    · exact .inl rfl
    · exact .inr ⟨_, _, rfl⟩
  refine WCall.enter Tryz.func38 rfl rfl rfl (by kernel_rfl) ?_
  simp
  refine mm93 (n.mono (by repeat' (first | exact Ext.rfl | apply Ext.new | apply Ext.bump | (refine Ext.put ?_ _ _ ?_; rotate_left; ((try simp only [next_new, next_put, next_bump]); omega))))) _ _ _ ?_
  intro h' x
  have e0 := fun hh => x.2 h.next hh
  have e1 := fun hh => x.2 (h.next + 1) hh
  simp at e0 e1
  simp [e0, e1]
  exact hk _ (by
    have x0 : Ext h h' := Ext.trans (by repeat' (first | exact Ext.rfl | apply Ext.new | apply Ext.bump | (refine Ext.put ?_ _ _ ?_; rotate_left; ((try simp only [next_new, next_put, next_bump]); omega)))) x
    repeat' (first | exact x0 | apply Ext.new | apply Ext.bump | (refine Ext.put ?_ _ _ ?_; rotate_left; ((have := x.1); (try simp only [next_new, next_put, next_bump] at this ⊢); omega))))
theorem mm44 {h : Hp} {s : V} (n : NilS h s) (a : List UInt8) (f : Nat) (l : List V) (k : KO VRes) (hk : ∀ h', Ext h h' → k.run (.ret (.tuple [(.agg [(.int .i64 0), (.int .i64 0), .nilS, (.int .i64 0)]), (.int .i64 1)]) h')) : @sCall Tryz.prog sumL 44 [s, .str a, .func f [] l] h k := by
  have ns : s = .nilP ∨ ∃ i o, s = .ptr i o := by
    rcases n with rfl | ⟨i, cs, rfl, -⟩
    · exact .inl rfl
    · exact .inr ⟨_, _, rfl⟩
  refine WCall.enter Tryz.func44 rfl rfl rfl (by kernel_rfl) ?_
  simp
  refine mm98 (n.mono (by repeat' (first | exact Ext.rfl | apply Ext.new | apply Ext.bump | (refine Ext.put ?_ _ _ ?_; rotate_left; ((try simp only [next_new, next_put, next_bump]); omega))))) _ _ _ ?_
  intro h' x
  have e0 := fun hh => x.2 h.next hh
  have e1 := fun hh => x.2 (h.next + 1) hh
  simp at e0 e1
  simp [e0, e1]
  exact hk _ (by
    have x0 : Ext h h' := Ext.trans (by repeat' (first | exact Ext.rfl | apply Ext.new | apply Ext.bump | (refine Ext.put ?_ _ _ ?_; rotate_left; ((try simp only [next_new, next_put, next_bump]); omega)))) x
    repeat' (first | exact x0 | apply Ext.new | apply Ext.bump | (refine Ext.put ?_ _ _ ?_; rotate_left; ((have := x.1); (try simp only [next_new, next_put, next_bump] at this ⊢); omega))))
theorem mm8 {h : Hp} {s : V} (n : NilS h s) (a : List UInt8) (m : Int) (k : KO VRes) (hk : ∀ h', Ext h h' → k.run (.ret (.int .i64 1) h')) : @sCall Tryz.prog sumL 8 [s, .str a, .int .i64 m] h k := by
  have ns : s = .nilP ∨ ∃ i o, s = .ptr i o := by
    rcases n with rfl | ⟨i, cs, rfl, -⟩
    · exact .inl rfl
    · exact .inr ⟨_, _, rfl⟩
  refine WCall.enter Tryz.func8 rfl rfl rfl (by kernel_rfl) ?_
  simp
  refine mm24 (n.mono (by repeat' (first | exact Ext.rfl | apply Ext.new | apply Ext.bump | (refine Ext.put ?_ _ _ ?_; rotate_left; ((try simp only [next_new, next_put, next_bump]); omega))))) _ ?_
  simp
  exact hk _ (by repeat' (first | exact Ext.rfl | apply Ext.new | apply Ext.bump | (refine Ext.put ?_ _ _ ?_; rotate_left; ((try simp only [next_new, next_put, next_bump]); omega))))
theorem mm9 {h : Hp} {s : V} (n : NilS h s) (src : V) (k : KO VRes) (hk : ∀ h', Ext h h' → k.run (.ret (.tuple [(.int .i64 1), (.int .i64 0)]) h')) : @sCall Tryz.prog sumL 9 [s, src] h k := by
  have ns : s = .nilP ∨ ∃ i o, s = .ptr i o := by
    rcases n with rfl | ⟨i, cs, rfl, -⟩
    · exact .inl rfl
    · exact .inr ⟨_, _, rfl⟩
  refine WCall.enter Tryz.func9 rfl rfl rfl (by kernel_rfl) ?_
  simp
  refine mm24 (n.mono (by repeat' (first | exact Ext.rfl | apply Ext.new | apply Ext.bump | (refine Ext.put ?_ _ _ ?_; rotate_left; ((try simp only [next_new, next_put, next_bump]); omega))))) _ ?_
  simp
  exact hk _ (by repeat' (first | exact Ext.rfl | apply Ext.new | apply Ext.bump | (refine Ext.put ?_ _ _ ?_; rotate_left; ((try simp only [next_new, next_put, next_bump]); omega))))
theorem mm10 {h : Hp} {s : V} (n : NilS h s) (a : List UInt8) (src : V) (k : KO VRes) (hk : ∀ h', Ext h h' → k.run (.ret (.tuple [(.int .i64 1), (.int .i64 0)]) h')) : @sCall Tryz.prog sumL 10 [s, .str a, src] h k := by
  have ns : s = .nilP ∨ ∃ i o, s = .ptr i o := by
    rcases n with rfl | ⟨i, cs, rfl, -⟩
    · exact .inl rfl
    · exact .inr ⟨_, _, rfl⟩
  refine WCall.enter Tryz.func10 rfl rfl rfl (by kernel_rfl) ?_
  simp
  refine mm24 (n.mono (by repeat' (first | exact Ext.rfl | apply Ext.new | apply Ext.bump | (refine Ext.put ?_ _ _ ?_; rotate_left; ((try simp only [next_new, next_put, next_bump]); omega))))) _ ?_
  simp
  exact hk _ (by repeat' (first | exact Ext.rfl | apply Ext.new | apply Ext.bump | (refine Ext.put ?_ _ _ ?_; rotate_left; ((try simp only [next_new, next_put, next_bump]); omega))))
theorem mm11 {h : Hp} {s : V} (n : NilS h s) (a : List UInt8) (m : Int) (k : KO VRes) (hk : ∀ h', Ext h h' → k.run (.ret (.int .i64 1) h')) : @sCall Tryz.prog sumL 11 [s, .str a, .int .i64 m] h k := by
  have ns : s = .nilP ∨ ∃ i o, s = .ptr i o := by
    rcases n with rfl | ⟨i, cs, rfl, -⟩
    · exact .inl rfl
    · exact .inr ⟨_, _, rfl⟩
  refine WCall.enter Tryz.func11 rfl rfl rfl (by kernel_rfl) ?_
  rcases ns with rfl | ⟨i, o, rfl⟩ <;>
  · simp
    refine mm34 (n.mono (by repeat' (first | exact Ext.rfl | apply Ext.new | apply Ext.bump | (refine Ext.put ?_ _ _ ?_; rotate_left; ((try simp only [next_new, next_put, next_bump]); omega))))) _ _ _ ?_
    intro h' x
    have e0 := fun hh => x.2 h.next hh
    have e1 := fun hh => x.2 (h.next + 1) hh
    simp at e0 e1
    simp [e0, e1]
    exact hk _ (by
      have x0 : Ext h h' := Ext.trans (by repeat' (first | exact Ext.rfl | apply Ext.new | apply Ext.bump | (refine Ext.put ?_ _ _ ?_; rotate_left; ((try simp only [next_new, next_put, next_bump]); omega)))) x
      repeat' (first | exact x0 | apply Ext.new | apply Ext.bump | (refine Ext.put ?_ _ _ ?_; rotate_left; ((have := x.1); (try simp only [next_new, next_put, next_bump] at this ⊢); omega))))
theorem mm12 {h : Hp} {s : V} (n : NilS h s) (a : List UInt8) (m : Int) (k : KO VRes) (hk : ∀ h', Ext h h' → k.run (.ret (.tuple [(.int .i64 0), (.int .i64 1)]) h')) : @sCall Tryz.prog sumL 12 [s, .str a, .int .i64 m] h k := by
  have ns : s = .nilP ∨ ∃ i o, s = .ptr i o := by
    rcases n with rfl | ⟨i, cs, rfl, -⟩
    · exact .inl rfl
    · exact .inr ⟨_, _, rfl⟩
  refine WCall.enter Tryz.func12 rfl rfl rfl (by kernel_rfl) ?_
  simp
  refine mm38 (n.mono (by repeat' (first | exact Ext.rfl | apply Ext.new | apply Ext.bump | (refine Ext.put ?_ _ _ ?_; rotate_left; ((try simp only [next_new, next_put, next_bump]); omega))))) _ _ _ _ ?_
  intro h' x
  have e0 := fun hh => x.2 h.next hh
  have e1 := fun hh => x.2 (h.next + 1) hh
  simp at e0 e1
  simp [e0, e1]
  exact hk _ (by
    have x0 : Ext h h' := Ext.trans (by repeat' (first | exact Ext.rfl | apply Ext.new | apply Ext.bump | (refine Ext.put ?_ _ _ ?_; rotate_left; ((try simp only [next_new, next_put, next_bump]); omega)))) x
    repeat' (first | exact x0 | apply Ext.new | apply Ext.bump | (refine Ext.put ?_ _ _ ?_; rotate_left; ((have := x.1); (try simp only [next_new, next_put, next_bump] at this ⊢); omega))))
theorem mm13 {h : Hp} {s : V} (n : NilS h s) (a : List UInt8) (k : KO VRes) (hk : ∀ h', Ext h h' → k.run (.ret (.tuple [(.str []), (.int .i64 1)]) h')) : @sCall Tryz.prog sumL 13 [s, .str a] h k := by
  have ns : s = .nilP ∨ ∃ i o, s = .ptr i o := by
    rcases n with rfl | ⟨i, cs, rfl, -⟩
    · exact .inl rfl
    · exact .inr ⟨_, _, rfl⟩
  refine WCall.enter Tryz.func13 rfl rfl rfl (by kernel_rfl) ?_
  rcases ns with rfl | ⟨i, o, rfl⟩ <;>
  · simp
    refine mm41 (n.mono (by repeat' (first | exact Ext.rfl | apply Ext.new | apply Ext.bump | (refine Ext.put ?_ _ _ ?_; rotate_left; ((try simp only [next_new, next_put, next_bump]); omega))))) _ _ _ ?_
    intro h' x
    have e0 := fun hh => x.2 h.next hh
    have e1 := fun hh => x.2 (h.next + 1) hh
    simp at e0 e1
    simp [e0, e1]
    exact hk _ (by
      have x0 : Ext h h' := Ext.trans (by repeat' (first | exact Ext.rfl | apply Ext.new | apply Ext.bump | (refine Ext.put ?_ _ _ ?_; rotate_left; ((try simp only [next_new, next_put, next_bump]); omega)))) x
      repeat' (first | exact x0 | apply Ext.new | apply Ext.bump | (refine Ext.put ?_ _ _ ?_; rotate_left; ((have := x.1); (try simp only [next_new, next_put, next_bump] at this ⊢); omega))))
theorem mm14 {h : Hp} {s : V} (n : NilS h s) (a : List UInt8) (m : Int) (k : KO VRes) (hk : ∀ h', Ext h h' → k.run (.ret (.tuple [(.agg [(.int .i64 0), (.int .i64 0), .nilS, (.int .i64 0)]), (.int .i64 1)]) h')) : @sCall Tryz.prog sumL 14 [s, .str a, .int .i64 m] h k := by
  have ns : s = .nilP ∨ ∃ i o, s = .ptr i o := by
    rcases n with rfl | ⟨i, cs, rfl, -⟩
    · exact .inl rfl
    · exact .inr ⟨_, _, rfl⟩
  refine WCall.enter Tryz.func14 rfl rfl rfl (by kernel_rfl) ?_
  simp
  refine mm44 (n.mono (by repeat' (first | exact Ext.rfl | apply Ext.new | apply Ext.bump | (refine Ext.put ?_ _ _ ?_; rotate_left; ((try simp only [next_new, next_put, next_bump]); omega))))) _ _ _ _ ?_
  intro h' x
  have e0 := fun hh => x.2 h.next hh
  have e1 := fun hh => x.2 (h.next + 1) hh
  simp at e0 e1
  simp [e0, e1]
  exact hk _ (by
    have x0 : Ext h h' := Ext.trans (by repeat' (first | exact Ext.rfl | apply Ext.new | apply Ext.bump | (refine Ext.put ?_ _ _ ?_; rotate_left; ((try simp only [next_new, next_put, next_bump]); omega)))) x
    repeat' (first | exact x0 | apply Ext.new | apply Ext.bump | (refine Ext.put ?_ _ _ ?_; rotate_left; ((have := x.1); (try simp only [next_new, next_put, next_bump] at this ⊢); omega))))
theorem mm15 {h : Hp} {s : V} (n : NilS h s) (a : List UInt8) (k : KO VRes) (hk : ∀ h', Ext h h' → k.run (.ret (.tuple [(.agg [.nilS, (.int .i64 0), .nilS]), (.int .i64 1)]) h')) : @sCall Tryz.prog sumL 15 [s, .str a] h k := by
  have ns : s = .nilP ∨ ∃ i o, s = .ptr i o := by
    rcases n with rfl | ⟨i, cs, rfl, -⟩
    · exact .inl rfl
    · exact .inr ⟨_, _, rfl⟩
  refine WCall.enter Tryz.func15 rfl rfl rfl (by kernel_rfl) ?_
  simp
  refine mm47 (n.mono (by repeat' (first | exact Ext.rfl | apply Ext.new | apply Ext.bump | (refine Ext.put ?_ _ _ ?_; rotate_left; ((try simp only [next_new, next_put, next_bump]); omega))))) _ _ _ ?_
  intro h' x
  have e0 := fun hh => x.2 h.next hh
  have e1 := fun hh => x.2 (h.next + 1) hh
  simp at e0 e1
  simp [e0, e1]
  exact hk _ (by
    have x0 : Ext h h' := Ext.trans (by repeat' (first | exact Ext.rfl | apply Ext.new | apply Ext.bump | (refine Ext.put ?_ _ _ ?_; rotate_left; ((try simp only [next_new, next_put, next_bump]); omega)))) x
    repeat' (first | exact x0 | apply Ext.new | apply Ext.bump | (refine Ext.put ?_ _ _ ?_; rotate_left; ((have := x.1); (try simp only [next_new, next_put, next_bump] at this ⊢); omega))))
theorem mm16 {h : Hp} {s : V} (n : NilS h s) (a b : List UInt8) (k : KO VRes) (hk : ∀ h', Ext h h' → k.run (.ret (.tuple [(.bool false), (.int .i64 1)]) h')) : @sCall Tryz.prog sumL 16 [s, .str a, .str b] h k := by
  have ns : s = .nilP ∨ ∃ i o, s = .ptr i o := by
    rcases n with rfl | ⟨i, cs, rfl, -⟩
    · exact .inl rfl
    · exact .inr ⟨_, _, rfl⟩
  refine WCall.enter Tryz.func16 rfl rfl rfl (by kernel_rfl) ?_
  rcases ns with rfl | ⟨i, o, rfl⟩ <;>
  · simp
    refine mm34 (n.mono (by repeat' (first | exact Ext.rfl | apply Ext.new | apply Ext.bump | (refine Ext.put ?_ _ _ ?_; rotate_left; ((try simp only [next_new, next_put, next_bump]); omega))))) _ _ _ ?_
    intro h' x
    have e0 := fun hh => x.2 h.next hh
    have e1 := fun hh => x.2 (h.next + 1) hh
    simp at e0 e1
    simp [e0, e1]
    exact hk _ (by
      have x0 : Ext h h' := Ext.trans (by repeat' (first | exact Ext.rfl | apply Ext.new | apply Ext.bump | (refine Ext.put ?_ _ _ ?_; rotate_left; ((try simp only [next_new, next_put, next_bump]); omega)))) x
      repeat' (first | exact x0 | apply Ext.new | apply Ext.bump | (refine Ext.put ?_ _ _ ?_; rotate_left; ((have := x.1); (try simp only [next_new, next_put, next_bump] at this ⊢); omega))))
theorem mm17 {h : Hp} {s : V} (n : NilS h s) (a : List UInt8) (k : KO VRes) (hk : ∀ h', Ext h h' → k.run (.ret (.tuple [(.agg [(.int .i64 0), (.int .i64 0), (.int .i64 0), (.int .i64 0), (.bool false), (.int .i64 0), (.int .i64 0), (.int .i64 0)]), (.int .i64 1)]) h')) : @sCall Tryz.prog sumL 17 [s, .str a] h k := by
  have ns : s = .nilP ∨ ∃ i o, s = .ptr i o := by
    rcases n with rfl | ⟨i, cs, rfl, -⟩
    · exact .inl rfl
    · exact .inr ⟨_, _, rfl⟩
  refine WCall.enter Tryz.func17 rfl rfl rfl (by kernel_rfl) ?_
  rcases ns with rfl | ⟨i, o, rfl⟩ <;>
  · simp
    refine mm53 (n.mono (by repeat' (first | exact Ext.rfl | apply Ext.new | apply Ext.bump | (refine Ext.put ?_ _ _ ?_; rotate_left; ((try simp only [next_new, next_put, next_bump]); omega))))) _ _ _ ?_
    intro h' x
    have e0 := fun hh => x.2 h.next hh
    have e1 := fun hh => x.2 (h.next + 1) hh
    simp at e0 e1
    simp [e0, e1]
    exact hk _ (by
      have x0 : Ext h h' := Ext.trans (by repeat' (first | exact Ext.rfl | apply Ext.new | apply Ext.bump | (refine Ext.put ?_ _ _ ?_; rotate_left; ((try simp only [next_new, next_put, next_bump]); omega)))) x
      repeat' (first | exact x0 | apply Ext.new | apply Ext.bump | (refine Ext.put ?_ _ _ ?_; rotate_left; ((have := x.1); (try simp only [next_new, next_put, next_bump] at this ⊢); omega))))
theorem mm18 {h : Hp} {s : V} (n : NilS h s) (a b : List UInt8) (k : KO VRes) (hk : ∀ h', Ext h h' → k.run (.ret (.int .i64 1) h')) : @sCall Tryz.prog sumL 18 [s, .str a, .str b] h k := by
  have ns : s = .nilP ∨ ∃ i o, s = .ptr i o := by
    rcases n with rfl | ⟨i, cs, rfl, -⟩
    · exact .inl rfl
    · exact .inr ⟨_, _, rfl⟩
  refine WCall.enter Tryz.func18 rfl rfl rfl (by kernel_rfl) ?_
  rcases ns with rfl | ⟨i, o, rfl⟩ <;>
  · simp
    refine mm34 (n.mono (by repeat' (first | exact Ext.rfl | apply Ext.new | apply Ext.bump | (refine Ext.put ?_ _ _ ?_; rotate_left; ((try simp only [next_new, next_put, next_bump]); omega))))) _ _ _ ?_
    intro h' x
    have e0 := fun hh => x.2 h.next hh
    have e1 := fun hh => x.2 (h.next + 1) hh
    simp at e0 e1
    simp [e0, e1]
    exact hk _ (by
      have x0 : Ext h h' := Ext.trans (by repeat' (first | exact Ext.rfl | apply Ext.new | apply Ext.bump | (refine Ext.put ?_ _ _ ?_; rotate_left; ((try simp only [next_new, next_put, next_bump]); omega)))) x
      repeat' (first | exact x0 | apply Ext.new | apply Ext.bump | (refine Ext.put ?_ _ _ ?_; rotate_left; ((have := x.1); (try simp only [next_new, next_put, next_bump] at this ⊢); omega))))
theorem mm21 {h : Hp} {s : V} (n : NilS h s)  (k : KO VRes) (hk : ∀ h', Ext h h' → k.run (.ret .nilS h')) : @sCall Tryz.prog sumL 21 [s] h k := by
  have ns : s = .nilP ∨ ∃ i o, s = .ptr i o := by
    rcases n with rfl | ⟨i, cs, rfl, -⟩
    · exact .inl rfl
    · exact .inr ⟨_, _, rfl⟩
  refine WCall.enter Tryz.func21 rfl rfl rfl (by kernel_rfl) ?_
  simp
  refine mm24 (n.mono (by repeat' (first | exact Ext.rfl | apply Ext.new | apply Ext.bump | (refine Ext.put ?_ _ _ ?_; rotate_left; ((try simp only [next_new, next_put, next_bump]); omega))))) _ ?_
  simp
  exact hk _ (by repeat' (first | exact Ext.rfl | apply Ext.new | apply Ext.bump | (refine Ext.put ?_ _ _ ?_; rotate_left; ((try simp only [next_new, next_put, next_bump]); omega))))
theorem mm22 {h : Hp} {s : V} (n : NilS h s)  (k : KO VRes) (hk : ∀ h', Ext h h' → k.run (.ret .nilS h')) : @sCall Tryz.prog sumL 22 [s] h k := by
  have ns : s = .nilP ∨ ∃ i o, s = .ptr i o := by
    rcases n with rfl | ⟨i, cs, rfl, -⟩
    · exact .inl rfl
    · exact .inr ⟨_, _, rfl⟩
  refine WCall.enter Tryz.func22 rfl rfl rfl (by kernel_rfl) ?_
  simp
  refine mm24 (n.mono (by repeat' (first | exact Ext.rfl | apply Ext.new | apply Ext.bump | (refine Ext.put ?_ _ _ ?_; rotate_left; ((try simp only [next_new, next_put, next_bump]); omega))))) _ ?_
  simp
  exact hk _ (by repeat' (first | exact Ext.rfl | apply Ext.new | apply Ext.bump | (refine Ext.put ?_ _ _ ?_; rotate_left; ((try simp only [next_new, next_put, next_bump]); omega))))
theorem mm23 {h : Hp} {s : V} (n : NilS h s)  (k : KO VRes) (hk : ∀ h', Ext h h' → k.run (.ret .nilS h')) : @sCall Tryz.prog sumL 23 [s] h k := by
  have ns : s = .nilP ∨ ∃ i o, s = .ptr i o := by
    rcases n with rfl | ⟨i, cs, rfl, -⟩
    · exact .inl rfl
    · exact .inr ⟨_, _, rfl⟩
  refine WCall.enter Tryz.func23 rfl rfl rfl (by kernel_rfl) ?_
  simp
  refine mm24 (n.mono (by repeat' (first | exact Ext.rfl | apply Ext.new | apply Ext.bump | (refine Ext.put ?_ _ _ ?_; rotate_left; ((try simp only [next_new, next_put, next_bump]); omega))))) _ ?_
  simp
  exact hk _ (by repeat' (first | exact Ext.rfl | apply Ext.new | apply Ext.bump | (refine Ext.put ?_ _ _ ?_; rotate_left; ((try simp only [next_new, next_put, next_bump]); omega))))
end Go.Ev.Nil
