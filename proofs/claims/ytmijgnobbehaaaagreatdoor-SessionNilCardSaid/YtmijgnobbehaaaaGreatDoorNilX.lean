/- Part of the proof that SessionNil answers true for every input. -/
import Derived.Test.YtmijgnobbehaaaaGreatDoorNilW
set_option linter.all false
set_option linter.unusedVariables false
set_option linter.unusedSimpArgs false

namespace Go.Ev.Nil
open Go Go.Ev Go.Proofs
set_option maxRecDepth 4000
theorem mm63 {h : Hp} (k : KO VRes) (hk : ∀ h', Ext h h' → k.run (.ret (.bool true) h')) : @sCall Tryz.prog sumL 63 [.nilS, .nilS] h k := by
  refine WCall.enter Tryz.func63 rfl rfl rfl (by kernel_rfl) ?_
  simp
  refine WLp.once (by kernel_rfl) ?_
  simp
  exact hk _ Ext.rfl
theorem mm64 {h : Hp} (k : KO VRes) (hk : ∀ h', Ext h h' → k.run (.ret (.bool true) h')) : @sCall Tryz.prog sumL 64 [.nilS, .nilS] h k := by
  refine WCall.enter Tryz.func64 rfl rfl rfl (by kernel_rfl) ?_
  simp
  refine WLp.once (by kernel_rfl) ?_
  simp
  exact hk _ Ext.rfl
theorem mm19 {h : Hp} (k : KO VRes) (hk : ∀ h', Ext h h' → k.run (.ret (.bool true) h')) : @sCall Tryz.prog sumL 19 [.agg [.int .i64 0, .int .i64 0, .nilS, .int .i64 0], .agg [.int .i64 0, .int .i64 0, .nilS, .int .i64 0]] h k := by
  refine WCall.enter Tryz.func19 rfl rfl rfl (by kernel_rfl) ?_
  simp
  refine mm63 _ fun h' x => ?_
  simp
  exact hk _ (Ext.trans (Ext.new (Ext.new Ext.rfl _) _) x)
theorem mm20 {h : Hp} (k : KO VRes) (hk : ∀ h', Ext h h' → k.run (.ret (.bool true) h')) : @sCall Tryz.prog sumL 20 [.agg [.nilS, .int .i64 0, .nilS], .agg [.nilS, .int .i64 0, .nilS]] h k := by
  refine WCall.enter Tryz.func20 rfl rfl rfl (by kernel_rfl) ?_
  simp
  refine mm63 _ fun h1 x1 => ?_
  have e0 := x1.2 h.next (by simp only [next_new]; omega)
  have e1 := x1.2 (h.next + 1) (by simp only [next_new]; omega)
  simp at e0 e1
  simp [e0, e1]
  refine mm64 _ fun h2 x2 => ?_
  simp
  exact hk _ (Ext.trans (Ext.trans (Ext.new (Ext.new Ext.rfl _) _) x1) x2)
theorem mm6 {h : Hp} {s : V} (n : NilS h s) (kd : Int) (a b : List UInt8) (src : V) (m : Int) (hs : src = .nilS ∨ ∃ id off len cap, src = .slice id off 1 len cap) (k : KO VRes) (hk : ∀ h', Ext h h' → k.run (.ret (.bool true) h')) :
    @sCall Tryz.prog sumL 6 [s, .agg [.int .i8 kd, .str a, .str b, src, .int .i64 m]] h k := by
  refine WCall.enter Tryz.func6 rfl rfl rfl (by kernel_rfl) ?_
  have hone : ([V.int .i8 kd, .str a, .str b, src, .int .i64 m].all V.one) = true := by
    rcases hs with rfl | ⟨_, _, _, _, rfl⟩ <;> rfl
  have hbox : gBox (gEnter [s, .agg [.int .i8 kd, .str a, .str b, src, .int .i64 m]]) h.next (.tmp 1) = some (.ptr h.next 0, .row [.int .i8 kd, .str a, .str b, src, .int .i64 m] false false) := by
    show (if ([V.int .i8 kd, .str a, .str b, src, .int .i64 m].all V.one) = true then _ else _) = _
    rw [if_pos hone]; rfl
  have ns : NilS (h.new (.row [.int .i8 kd, .str a, .str b, src, .int .i64 m] false false)).2 s := n.mono (Ext.new Ext.rfl _)
  have hcell : (h.new (.row [.int .i8 kd, .str a, .str b, src, .int .i64 m] false false)).2.get h.next = some (.row [.int .i8 kd, .str a, .str b, src, .int .i64 m] false false) := by simp
  have hx0 : Ext h (h.new (.row [.int .i8 kd, .str a, .str b, src, .int .i64 m] false false)).2 := Ext.new Ext.rfl _
  have hlt : h.next < (h.new (.row [.int .i8 kd, .str a, .str b, src, .int .i64 m] false false)).2.next := by simp
  simp [-gBox, hbox]
  generalize (h.new (.row [.int .i8 kd, .str a, .str b, src, .int .i64 m] false false)).2 = H at *
  generalize h.next = q at *
  refine mm9 ns _ _ fun h1 x1 => ?_
  have g1 := (x1.2 q hlt).trans hcell
  have l1 := Nat.lt_of_lt_of_le hlt x1.1
  have n1 := ns.mono x1
  simp [g1]
  refine mm10 n1 _ _ _ fun h2 x2 => ?_
  have g2 := (x2.2 q l1).trans g1
  have l2 := Nat.lt_of_lt_of_le l1 x2.1
  have n2 := n1.mono x2
  simp [g2]
  refine mm14 n2 _ _ _ fun h3 x3 => ?_
  have g3 := (x3.2 q l2).trans g2
  have l3 := Nat.lt_of_lt_of_le l2 x3.1
  have n3 := n2.mono x3
  have d3 : q ≠ h3.next := by omega
  simp [g3, d3]
  refine mm12 (n3.mono (by repeat' (first | exact Ext.rfl | apply Ext.new | apply Ext.bump | (refine Ext.put ?_ _ _ ?_; rotate_left; ((try simp only [next_new, next_put, next_bump]); omega))))) _ _ _ fun h4 x4 => ?_
  have g4 := (x4.2 q (by (try simp only [next_put, next_new, next_bump]); omega)).trans (show _ = some (LO.row [V.int .i8 kd, .str a, .str b, src, .int .i64 m] false false) by simp [g3, d3])
  have f4 := (x4.2 h3.next (by (try simp only [next_put, next_new, next_bump]); omega)).trans (show _ = some (LO.row [.int .i64 0, .int .i64 0, .nilS, .int .i64 0] false false) by simp)
  have l4 : q < h4.next ∧ h3.next < h4.next := by have := x4.1; simp only [next_put, next_new] at this; omega
  have n4 := (n3.mono (by repeat' (first | exact Ext.rfl | apply Ext.new | apply Ext.bump | (refine Ext.put ?_ _ _ ?_; rotate_left; ((try simp only [next_new, next_put, next_bump]); omega))))).mono x4
  have X4 : Ext H h4 := Ext.trans (x1.trans (x2.trans (x3.trans (by repeat' (first | exact Ext.rfl | apply Ext.new | apply Ext.bump | (refine Ext.put ?_ _ _ ?_; rotate_left; ((try simp only [next_new, next_put, next_bump]); omega))))))) x4
  clear x4 x3 x2 x1 n3 n2 n1 g3 g2 g1
  generalize h3.next = qf at *
  simp [g4]
  refine mm15 n4 _ _ fun h5 x5 => ?_
  have g5 := (x5.2 q l4.1).trans g4
  have f5 := (x5.2 qf l4.2).trans f4
  have l5 : q < h5.next ∧ qf < h5.next := by have := x5.1; omega
  have n5 := n4.mono x5
  have d5 : q ≠ h5.next ∧ qf ≠ h5.next := by omega
  simp [g5, d5]
  refine mm13 (n5.mono (by repeat' (first | exact Ext.rfl | apply Ext.new | apply Ext.bump | (refine Ext.put ?_ _ _ ?_; rotate_left; ((try simp only [next_new, next_put, next_bump]); omega))))) _ _ fun h6 x6 => ?_
  have g6 := (x6.2 q (by (try simp only [next_put, next_new, next_bump]); omega)).trans (show _ = some (LO.row [V.int .i8 kd, .str a, .str b, src, .int .i64 m] false false) by simp [g5, d5])
  have f6 := (x6.2 qf (by (try simp only [next_put, next_new, next_bump]); omega)).trans (show _ = some (LO.row [.int .i64 0, .int .i64 0, .nilS, .int .i64 0] false false) by simp [f5, d5])
  have t6 := (x6.2 h5.next (by (try simp only [next_put, next_new, next_bump]); omega)).trans (show _ = some (LO.row [.nilS, .int .i64 0, .nilS] false false) by simp)
  have l6 : q < h6.next ∧ qf < h6.next ∧ h5.next < h6.next := by have := x6.1; simp only [next_put, next_new] at this; omega
  have n6 := (n5.mono (by repeat' (first | exact Ext.rfl | apply Ext.new | apply Ext.bump | (refine Ext.put ?_ _ _ ?_; rotate_left; ((try simp only [next_new, next_put, next_bump]); omega))))).mono x6
  have X6 : Ext H h6 := Ext.trans (X4.trans (x5.trans (by repeat' (first | exact Ext.rfl | apply Ext.new | apply Ext.bump | (refine Ext.put ?_ _ _ ?_; rotate_left; ((try simp only [next_new, next_put, next_bump]); omega)))))) x6
  clear x6 x5 X4 n5 n4 g5 g4 f5 f4
  generalize h5.next = qt at *
  simp [g6]
  refine mm16 n6 _ _ _ fun h7 x7 => ?_
  have g7 := (x7.2 q l6.1).trans g6
  have f7 := (x7.2 qf l6.2.1).trans f6
  have t7 := (x7.2 qt l6.2.2).trans t6
  have l7 : q < h7.next ∧ qf < h7.next ∧ qt < h7.next := by have := x7.1; omega
  have n7 := n6.mono x7
  simp [g7]
  refine mm17 n7 _ _ fun h8 x8 => ?_
  have g8 := (x8.2 q l7.1).trans g7
  have f8 := (x8.2 qf l7.2.1).trans f7
  have t8 := (x8.2 qt l7.2.2).trans t7
  have l8 : q < h8.next ∧ qf < h8.next ∧ qt < h8.next := by have := x8.1; omega
  have n8 := n7.mono x8
  have d8 : q ≠ h8.next ∧ qf ≠ h8.next ∧ qt ≠ h8.next := by omega
  simp [g8, d8]
  refine mm8 (n8.mono (by repeat' (first | exact Ext.rfl | apply Ext.new | apply Ext.bump | (refine Ext.put ?_ _ _ ?_; rotate_left; ((try simp only [next_new, next_put, next_bump]); omega))))) _ _ _ fun h9 x9 => ?_
  have g9 := (x9.2 q (by (try simp only [next_put, next_new, next_bump]); omega)).trans (show _ = some (LO.row [V.int .i8 kd, .str a, .str b, src, .int .i64 m] false false) by simp [g8, d8])
  have f9 := (x9.2 qf (by (try simp only [next_put, next_new, next_bump]); omega)).trans (show _ = some (LO.row [.int .i64 0, .int .i64 0, .nilS, .int .i64 0] false false) by simp [f8, d8])
  have t9 := (x9.2 qt (by (try simp only [next_put, next_new, next_bump]); omega)).trans (show _ = some (LO.row [.nilS, .int .i64 0, .nilS] false false) by simp [t8, d8])
  have u9 := (x9.2 h8.next (by (try simp only [next_put, next_new, next_bump]); omega)).trans (show _ = some (LO.row [.int .i64 0, .int .i64 0, .int .i64 0, .int .i64 0, .bool false, .int .i64 0, .int .i64 0, .int .i64 0] false false) by simp)
  have l9 : q < h9.next ∧ qf < h9.next ∧ qt < h9.next ∧ h8.next < h9.next := by have := x9.1; simp only [next_put, next_new] at this; omega
  have n9 := (n8.mono (by repeat' (first | exact Ext.rfl | apply Ext.new | apply Ext.bump | (refine Ext.put ?_ _ _ ?_; rotate_left; ((try simp only [next_new, next_put, next_bump]); omega))))).mono x9
  have X9 : Ext H h9 := Ext.trans (X6.trans (x7.trans (x8.trans (by repeat' (first | exact Ext.rfl | apply Ext.new | apply Ext.bump | (refine Ext.put ?_ _ _ ?_; rotate_left; ((try simp only [next_new, next_put, next_bump]); omega))))))) x9
  clear x9 x8 x7 X6 n8 n7 n6 g8 g7 g6 f8 f7 f6 t8 t7 t6
  generalize h8.next = qu at *
  simp [g9]
  refine mm11 n9 _ _ _ fun h10 x10 => ?_
  have g10 := (x10.2 q l9.1).trans g9
  have f10 := (x10.2 qf l9.2.1).trans f9
  have t10 := (x10.2 qt l9.2.2.1).trans t9
  have u10 := (x10.2 qu l9.2.2.2).trans u9
  have l10 : q < h10.next ∧ qf < h10.next ∧ qt < h10.next ∧ qu < h10.next := by have := x10.1; omega
  have n10 := n9.mono x10
  have X10 := X9.trans x10
  clear x10 X9 n9 g9 f9 t9 u9 l9
  simp [g10, f10, t10, u10]
  refine mm18 n10 _ _ _ fun h11 x11 => ?_
  have g11 := (x11.2 q l10.1).trans g10
  have f11 := (x11.2 qf l10.2.1).trans f10
  have t11 := (x11.2 qt l10.2.2.1).trans t10
  have u11 := (x11.2 qu l10.2.2.2).trans u10
  have l11 : q < h11.next ∧ qf < h11.next ∧ qt < h11.next ∧ qu < h11.next := by have := x11.1; omega
  have n11 := n10.mono x11
  have X11 := X10.trans x11
  clear x11 X10 n10 g10 f10 t10 u10 l10
  simp [g11, f11, t11, u11]
  refine mm19 _ fun h12 x12 => ?_
  have g12 := (x12.2 q l11.1).trans g11
  have f12 := (x12.2 qf l11.2.1).trans f11
  have t12 := (x12.2 qt l11.2.2.1).trans t11
  have u12 := (x12.2 qu l11.2.2.2).trans u11
  have l12 : q < h12.next ∧ qf < h12.next ∧ qt < h12.next ∧ qu < h12.next := by have := x12.1; omega
  have n12 := n11.mono x12
  have X12 := X11.trans x12
  clear x12 X11 n11 g11 f11 t11 u11 l11
  simp [g12, f12, t12, u12]
  refine mm20 _ fun h13 x13 => ?_
  have g13 := (x13.2 q l12.1).trans g12
  have f13 := (x13.2 qf l12.2.1).trans f12
  have t13 := (x13.2 qt l12.2.2.1).trans t12
  have u13 := (x13.2 qu l12.2.2.2).trans u12
  have l13 : q < h13.next ∧ qf < h13.next ∧ qt < h13.next ∧ qu < h13.next := by have := x13.1; omega
  have n13 := n12.mono x13
  have X13 := X12.trans x13
  clear x13 X12 n12 g12 f12 t12 u12 l12
  simp [g13, f13, t13, u13]
  refine mm21 n13 _ fun h14 x14 => ?_
  have g14 := (x14.2 q l13.1).trans g13
  have f14 := (x14.2 qf l13.2.1).trans f13
  have t14 := (x14.2 qt l13.2.2.1).trans t13
  have u14 := (x14.2 qu l13.2.2.2).trans u13
  have l14 : q < h14.next ∧ qf < h14.next ∧ qt < h14.next ∧ qu < h14.next := by have := x14.1; omega
  have n14 := n13.mono x14
  have X14 := X13.trans x14
  clear x14 X13 n13 g13 f13 t13 u13 l13
  simp [g14, f14, t14, u14]
  refine mm22 n14 _ fun h15 x15 => ?_
  have g15 := (x15.2 q l14.1).trans g14
  have f15 := (x15.2 qf l14.2.1).trans f14
  have t15 := (x15.2 qt l14.2.2.1).trans t14
  have u15 := (x15.2 qu l14.2.2.2).trans u14
  have l15 : q < h15.next ∧ qf < h15.next ∧ qt < h15.next ∧ qu < h15.next := by have := x15.1; omega
  have n15 := n14.mono x15
  have X15 := X14.trans x15
  clear x15 X14 n14 g14 f14 t14 u14 l14
  simp [g15, f15, t15, u15]
  refine mm23 n15 _ fun h16 x16 => ?_
  have g16 := (x16.2 q l15.1).trans g15
  have f16 := (x16.2 qf l15.2.1).trans f15
  have t16 := (x16.2 qt l15.2.2.1).trans t15
  have u16 := (x16.2 qu l15.2.2.2).trans u15
  have l16 : q < h16.next ∧ qf < h16.next ∧ qt < h16.next ∧ qu < h16.next := by have := x16.1; omega
  have n16 := n15.mono x16
  have X16 := X15.trans x16
  clear x16 X15 n15 g15 f15 t15 u15 l15
  simp [g16, f16, t16, u16]
  exact hk _ (hx0.trans X16)
theorem mm3 (kd : Int) (a b : List UInt8) (src : V) (m : Int) (hs : src = .nilS ∨ ∃ id off len cap, src = .slice id off 1 len cap) (h : Hp) :
    WCall Tryz.prog sumL 3 [.agg [.int .i8 kd, .str a, .str b, src, .int .i64 m]] h (fun r => ∃ h', r = .ret (.bool true) h') := by
  refine WCall.enter Tryz.func3 rfl rfl rfl (by kernel_rfl) ?_
  have hbox : gBox (gEnter [.agg [.int .i8 kd, .str a, .str b, src, .int .i64 m]]) h.next (.tmp 0) = some (.ptr h.next 0, .row [.int .i8 kd, .str a, .str b, src, .int .i64 m] false false) := by
    have hone : ([V.int .i8 kd, .str a, .str b, src, .int .i64 m].all V.one) = true := by
      rcases hs with rfl | ⟨_, _, _, _, rfl⟩ <;> rfl
    show (if ([V.int .i8 kd, .str a, .str b, src, .int .i64 m].all V.one) = true then _ else _) = _
    rw [if_pos hone]; rfl
  simp [-gBox, hbox]
  simp [buildSliceV, fillV, rep, -gBox, hbox]
  refine WCall.mono (heavy kd a b src m hs _ (h.next + 1) (by simp)) ?_
  intro r hr
  cases r with
  | pan v k => exact hr.elim
  | ret v h1 =>
    cases v with
    | bool x =>
      have x1 : Ext _ h1 := hr
      cases x with
      | true =>
        simp
        refine WCall.sum (r := .ret (.bool true) h1) rfl ?_
        simp
      | false =>
        have g1 := (x1.2 h.next (by (try simp only [next_put, next_new, next_bump]); omega)).trans (show _ = some (LO.row [V.int .i8 kd, .str a, .str b, src, .int .i64 m] false false) by simp)
        have l1 : h.next < h1.next := by have := x1.1; simp only [next_put, next_new] at this; omega
        have d1 : h.next ≠ h1.next := by omega
        simp [g1, d1]
        refine mm6 (.inl rfl) _ _ _ _ _ hs _ fun h2 x2 => ?_
        have g2 := (x2.2 h.next (by (try simp only [next_put, next_new, next_bump]); omega)).trans (show _ = some (LO.row [V.int .i8 kd, .str a, .str b, src, .int .i64 m] false false) by simp [g1, d1])
        have z2 := (x2.2 h1.next (by (try simp only [next_put, next_new, next_bump]); omega)).trans (show _ = some (LO.row [.nilS, .nilS, .nilM, .nilS] false false) by simp)
        have l2 : h1.next < h2.next := by have := x2.1; simp only [next_put, next_new] at this; omega
        simp [g2]
        refine mm6 (.inr ⟨_, _, rfl, l2, z2, rfl⟩) _ _ _ _ _ hs _ fun h3 x3 => ?_
        simp
        refine WCall.sum (r := .ret (.bool true) h3) rfl ?_
        simp
    | _ => exact hr.elim
end Go.Ev.Nil
