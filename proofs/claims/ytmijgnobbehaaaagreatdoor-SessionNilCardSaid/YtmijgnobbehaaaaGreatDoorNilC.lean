/- Part of the proof that SessionNil answers true for every input. -/
import Derived.Test.YtmijgnobbehaaaaGreatDoorNilN
import Derived.Test.YtmijgnobbehaaaaGreatDoorEvW
import Derived.Test.YtmijgnobbehaaaaGreatDoorNilTa
import Derived.Test.YtmijgnobbehaaaaGreatDoorNilTb
import Derived.Test.YtmijgnobbehaaaaGreatDoorNilTc
import Derived.Test.YtmijgnobbehaaaaGreatDoorNilTd
import Derived.Test.YtmijgnobbehaaaaGreatDoorNilTe
import Derived.Test.YtmijgnobbehaaaaGreatDoorNilTf
set_option linter.all false
set_option linter.unusedVariables false
set_option linter.unusedSimpArgs false

namespace Go.Ev.Nil
open Go Go.Ev Go.Proofs
theorem s0_ok : SumsOk Tryz.prog s0 := by
  intro f args h r e
  unfold s0 sums at e
  rcases br_cases e with ⟨hb, e⟩ | ⟨-, e⟩
  · have := Nat.eq_of_beq_eq_true hb
    subst this
    exact twice_ok e
  · rw [br_some] at e
    have := Nat.eq_of_beq_eq_true e.1
    subst this
    exact join_ok e.2
theorem cl0 : ClS Tryz.prog i0.f i0.args i0.h i0.r := comesTo_ok ok s0_ok c0
theorem s1_ok : SumsOk Tryz.prog s1 := sumOr_ok (Inst.sum_ok cl0) s0_ok
theorem cl1 : ClS Tryz.prog i1.f i1.args i1.h i1.r := comesTo_ok ok s1_ok c1
theorem s2_ok : SumsOk Tryz.prog s2 := sumOr_ok (Inst.sum_ok cl1) s1_ok
theorem cl2 : ClS Tryz.prog i2.f i2.args i2.h i2.r := comesTo_ok ok s2_ok c2
theorem s3_ok : SumsOk Tryz.prog s3 := sumOr_ok (Inst.sum_ok cl2) s2_ok
theorem cl3 : ClS Tryz.prog i3.f i3.args i3.h i3.r := comesTo_ok ok s3_ok c3
theorem s4_ok : SumsOk Tryz.prog s4 := sumOr_ok (Inst.sum_ok cl3) s3_ok
theorem cl4 : ClS Tryz.prog i4.f i4.args i4.h i4.r := comesTo_ok ok s4_ok c4
theorem s5_ok : SumsOk Tryz.prog s5 := sumOr_ok (Inst.sum_ok cl4) s4_ok
theorem cl5 : ClS Tryz.prog i5.f i5.args i5.h i5.r := comesTo_ok ok s5_ok c5
theorem s6_ok : SumsOk Tryz.prog s6 := sumOr_ok (Inst.sum_ok cl5) s5_ok
theorem cl6 : ClS Tryz.prog i6.f i6.args i6.h i6.r := comesTo_ok ok s6_ok c6
theorem s7_ok : SumsOk Tryz.prog s7 := sumOr_ok (Inst.sum_ok cl6) s6_ok
theorem cl7 : ClS Tryz.prog i7.f i7.args i7.h i7.r := comesTo_ok ok s7_ok c7
theorem s8_ok : SumsOk Tryz.prog s8 := sumOr_ok (Inst.sum_ok cl7) s7_ok
theorem cl8 : ClS Tryz.prog i8.f i8.args i8.h i8.r := comesTo_ok ok s8_ok c8
theorem s9_ok : SumsOk Tryz.prog s9 := sumOr_ok (Inst.sum_ok cl8) s8_ok
theorem cl9 : ClS Tryz.prog i9.f i9.args i9.h i9.r := comesTo_ok ok s9_ok c9
theorem s10_ok : SumsOk Tryz.prog s10 := sumOr_ok (Inst.sum_ok cl9) s9_ok
theorem cl10 : ClS Tryz.prog i10.f i10.args i10.h i10.r := comesTo_ok ok s10_ok c10
theorem s11_ok : SumsOk Tryz.prog s11 := sumOr_ok (Inst.sum_ok cl10) s10_ok
theorem cl11 : ClS Tryz.prog i11.f i11.args i11.h i11.r := comesTo_ok ok s11_ok c11
theorem s12_ok : SumsOk Tryz.prog s12 := sumOr_ok (Inst.sum_ok cl11) s11_ok
theorem cl12 : ClS Tryz.prog i12.f i12.args i12.h i12.r := comesTo_ok ok s12_ok c12
theorem s13_ok : SumsOk Tryz.prog s13 := sumOr_ok (Inst.sum_ok cl12) s12_ok
theorem cl13 : ClS Tryz.prog i13.f i13.args i13.h i13.r := comesTo_ok ok s13_ok c13
theorem s14_ok : SumsOk Tryz.prog s14 := sumOr_ok (Inst.sum_ok cl13) s13_ok
theorem cl14 : ClS Tryz.prog i14.f i14.args i14.h i14.r := comesTo_ok ok s14_ok c14
theorem s15_ok : SumsOk Tryz.prog s15 := sumOr_ok (Inst.sum_ok cl14) s14_ok
theorem cl15 : ClS Tryz.prog i15.f i15.args i15.h i15.r := comesTo_ok ok s15_ok c15
theorem s16_ok : SumsOk Tryz.prog s16 := sumOr_ok (Inst.sum_ok cl15) s15_ok
theorem cl16 : ClS Tryz.prog i16.f i16.args i16.h i16.r := comesTo_ok ok s16_ok c16
theorem s17_ok : SumsOk Tryz.prog s17 := sumOr_ok (Inst.sum_ok cl16) s16_ok
theorem cl17 : ClS Tryz.prog i17.f i17.args i17.h i17.r := comesTo_ok ok s17_ok c17
theorem s18_ok : SumsOk Tryz.prog s18 := sumOr_ok (Inst.sum_ok cl17) s17_ok
theorem cl18 : ClS Tryz.prog i18.f i18.args i18.h i18.r := comesTo_ok ok s18_ok c18
theorem s19_ok : SumsOk Tryz.prog s19 := sumOr_ok (Inst.sum_ok cl18) s18_ok
theorem cl19 : ClS Tryz.prog i19.f i19.args i19.h i19.r := comesTo_ok ok s19_ok c19
theorem s20_ok : SumsOk Tryz.prog s20 := sumOr_ok (Inst.sum_ok cl19) s19_ok
theorem cl20 : ClS Tryz.prog i20.f i20.args i20.h i20.r := comesTo_ok ok s20_ok c20
theorem s21_ok : SumsOk Tryz.prog s21 := sumOr_ok (Inst.sum_ok cl20) s20_ok
theorem cl21 : ClS Tryz.prog i21.f i21.args i21.h i21.r := comesTo_ok ok s21_ok c21
theorem s22_ok : SumsOk Tryz.prog s22 := sumOr_ok (Inst.sum_ok cl21) s21_ok
theorem closed {f : FuncId} {b : Bool} {k : Hp} (hc : ClS Tryz.prog f [] ⟨0, .lf⟩ (.ret (.bool b) k)) (hb : Hp) : ClS Tryz.prog f [] hb (.ret (.bool b) hb) := by
  refine ⟨hc.1, fun φ w pargs hw ha cs => ?_⟩
  have hw0 : WR (fun _ => none) ⟨0, .lf⟩ w := ⟨fun i o e => (by cases e), fun i j oi oj p q e => (by cases e), fun _ _ => rfl⟩
  have ha0 : VRs (fun _ => none) [] pargs.toList := by
    obtain ⟨l⟩ := pargs
    cases ha
    exact .nil
  obtain ⟨φ', w', fr, e, hs, he, h3, h4, h5⟩ := hc.2 _ w pargs hw0 ha0 cs
  obtain ⟨pv, hv, rfl⟩ := he
  cases hv
  refine ⟨φ, w', fr, _, Stp.below hw ⟨hs.os, hs.tape, hs.output, hs.size, fun k hk => hs.frame k hk ?_⟩, ⟨_, .bool b, rfl⟩, h3, h4, h5⟩
  rintro ⟨i, o, p, e, -⟩
  cases e
theorem lives_any (hb : Hp) : ClS Tryz.prog 5 [] hb (.ret (.bool true) hb) := closed cl21 hb
end Go.Ev.Nil
