/- SessionNil answers true for every input, and its input reads as it did: the row and its tied card. No condition of its own; the three listed tables are tied to the text by the given tie. -/
import Derived.Test.YtmijgnobbehaaaaGreatDoorNilX
import Derived.Test.YtmijgnobbehaaaaGreatDoorNilC
import Derived.Test.YtmijgnobbehaaaaGreatDoorCards
import Derived.Test.YtmijgnobbehaaaaGreatDoorTie
import Derived.ProofKit
import Derived.LaidMore
import Derived.Lay
import Derived.MakeChecks
import Derived.SevenTiedAt
import Derived.Stop.Joined
set_option linter.all false
set_option linter.unusedVariables false
set_option linter.unusedSimpArgs false

namespace Go.Ev.Nil
open Go Go.Ev Go.Proofs Go.RowKit
theorem sumL_ok : SumsOk Tryz.prog sumL := by
  intro f args h r e
  unfold sumL at e
  split at e
  · rw [br_some] at e
    obtain ⟨h1, e⟩ := e
    have := Nat.eq_of_beq_eq_true h1
    subst this
    cases e
    exact lives_any h
  · cases e
theorem law_any (k : Int) (a b : ByteArray) (src : Value) (n : Int) (W : World) (hs : src = .slice none 0 0 ∨ ∃ ad len cap, src = .slice (some ad) len cap ∧ len ≤ cap ∧ (cap ≠ 0 → ad.spot = none)) :
    Calls Tryz.prog 3 #[.agg #[.int .i8 k, .string a, .string b, src, .int .i64 n]] W fun e w' => e = .returned (.bool true) ∧ Below W.heap.size W w' := by
  obtain ⟨φ, h, sv, hw, hv, hsv, hno⟩ : ∃ (φ : Emb) (h : Hp) (sv : V), WR φ h W ∧ VR φ sv src ∧ (sv = .nilS ∨ ∃ id off len cap, sv = .slice id off 1 len cap) ∧ (∀ i o, h.get i ≠ some o) := by
    rcases hs with rfl | ⟨ad, len, cap, rfl, hl, hsp⟩
    · exact ⟨fun _ => none, ⟨0, .lf⟩, .nilS, ⟨fun i o e => (by cases e), fun i j oi oj p q e => (by cases e), fun _ _ => rfl⟩, .nilS, .inl rfl, fun i o e => (by cases e)⟩
    · refine ⟨fun i => if i = 0 then some ⟨ad.block, ad.off, 0⟩ else none, ⟨1, .lf⟩, .slice 0 0 1 len (some cap), ⟨fun i o e => (by cases e), fun i j oi oj p q e => (by cases e), fun i hi => if_neg (by have : 1 ≤ i := hi; omega)⟩, ?_, .inr ⟨_, _, _, _, rfl⟩, fun i o e => (by cases e)⟩
      refine .slice (p := ⟨ad.block, ad.off, 0⟩) (if_pos rfl) hl (fun hc => ?_) (fun c hc => by cases hc; rfl) (fun hc => by cases hc)
      have := hsp hc
      obtain ⟨bl, of, sp⟩ := ad
      simp only at this
      subst this
      rfl
  obtain ⟨m, r, hr, h', hq⟩ := mm3 k a.data.toList b.data.toList sv n hsv h
  subst hq
  have ha : VRs φ [.agg [.int .i8 k, .str a.data.toList, .str b.data.toList, sv, .int .i64 n]] (#[Value.agg #[.int .i8 k, .string a, .string b, src, .int .i64 n]] : Array Value).toList :=
    .cons (.agg (.cons (.int _ _) (.cons (.str _) (.cons (.str _) (.cons hv (.cons (.int _ _) .nil)))))) .nil
  refine (cl_of ok sumL_ok hr).calls hw ha fun φ' w' e hs he => ?_
  obtain ⟨pv, hpv, he⟩ := he
  cases hpv
  refine ⟨he, hs.os, hs.tape, hs.output, hs.size, fun b hb => hs.frame b hb ?_⟩
  rintro ⟨i, o, p, e, -⟩
  exact hno i o e
end Go.Ev.Nil
namespace Go.Proofs.YtmijgnobbehaaaaGreatDoor
open Go Go.ChangeShapes Go.WideShapes Go.ChangeAt Go.RowKit
abbrev laidAll : List (String × DataW Unit) := [("math/bits.deBruijn32tab", Rows.laid_math_bits_deBruijn32tab), ("math/bits.deBruijn64tab", Rows.laid_math_bits_deBruijn64tab), ("internal/strconv.uint64pow10", Rows.laid_internal_strconv_uint64pow10)]
theorem own : ownKnob Tryz.prog.godebug = none := by kernel_rfl
theorem laidOut : laidOutB Tryz.prog = true := by kernel_rfl
theorem array5 {α : Type} {cs : Array α} (h : cs.size = 5) : ∃ c0 c1 c2 c3 c4, cs = #[c0, c1, c2, c3, c4] := by
  obtain ⟨l⟩ := cs
  match l, h with
  | [c0, c1, c2, c3, c4], _ => exact ⟨c0, c1, c2, c3, c4, rfl⟩
theorem cells25 : Tryz.prog.cellsOf 25 = 5 := by kernel_rfl
theorem cells22 : Tryz.prog.cellsOf 22 = 1 := by kernel_rfl
theorem cells9 : Tryz.prog.cellsOf 9 = 1 := by kernel_rfl
theorem cells23 : Tryz.prog.cellsOf 23 = 1 := by kernel_rfl
theorem cells3 : Tryz.prog.cellsOf 3 = 1 := by kernel_rfl
set_option maxRecDepth 100000 in
theorem lifted (os : Os) (started : os.Started) (H : Type) (enc : TypeId × Value → H) :
    ReturnsInHanded {} Tryz.checked os 3 .any (fun w args => (Rows.sessionNilSpec.pre enc Tryz.prog Tryz.f3 Rows.sessionNilRow.domain false w args ∧ laidMetH Tryz.prog laidAll w) ∧ sizedMet enc Tryz.prog Tryz.f3 (OpenSpec.ofChange Rows.sessionNilSpec) false w args)
      (Rows.sessionNilSpec.post enc Tryz.prog Tryz.f3 false true false false) := by
  refine returnsInHanded_of_change_and (C := Tryz.checked) (X := fun w _ => laidMetH Tryz.prog laidAll w) (fun _ _ _ hh h => h.of_heap hh) own started (by kernel_rfl) Tryz.func3
    (ChangeSpec.witness_shaped (enc := enc) (C := Tryz.checked) (os := os) (X := fun w _ => laidMetH Tryz.prog laidAll w) false (World.laidAll Tryz.prog os laidAll) #[.agg #[.int .i8 0, .string ⟨#[]⟩, .string ⟨#[]⟩, .slice none 0 0, .int .i64 0]] 8 (World.laidAll_os _ _ _)
      (World.shaped_of_ZipB (by kernel_rfl) (by kernel_rfl)) (by kernel_rfl) (by kernel_rfl) (by kernel_rfl)
      (by rw [MakeChecks.laidMetH_plain _ _ _ (by kernel_rfl)]; exact laidMet_laidAll _ (by kernel_rfl) (by kernel_rfl))) ?_
  intro W base args ds gs before hval0 hW hc _ hL _
  have hval : ∀ (j : Nat) t v, Tryz.f3.params[j]? = some t → args[j]? = some v → Value.okWide Tryz.prog W .any base t v := hval0
  have hW' := hW
  obtain ⟨p, q, hA0, hV, rfl, _, _⟩ := hW
  have hA : DataW.TrodAll enc Tryz.prog W 0 (fun _ => true) true Tryz.f3.params.toList args.toList ds p := hA0
  rw [Tryz.params3] at hA hval
  obtain ⟨v0, d0, rfl, rfl, h0⟩ := trodAll_one hA
  obtain ⟨rfl, rfl⟩ := trodVars_none hV
  simp only [List.append_nil] at hW'
  have hlt : ∀ x ∈ p, x.block < W.heap.size := fun x hx => hW'.lt x hx
  have h0k := h0
  obtain ⟨cs, rfl, hsz⟩ := okWide_struct Tryz.underlying25 (hval 0 25 v0 rfl rfl)
  obtain ⟨c0, c1, c2, c3, c4, rfl⟩ := array5 (hsz.trans cells25)
  obtain ⟨fuel, hf⟩ := h0
  obtain ⟨xs, n, _, _, hl, hlen, hfe⟩ := DataW.trod_struct Tryz.underlying25 hf
  have w0 : DataW.trod enc Tryz.prog W 0 (fun _ => true) true n 22 [c0] = xs[0]? := by simpa [cells22, Value.cells] using hfe 0 _ rfl
  have w1 : DataW.trod enc Tryz.prog W 0 (fun _ => true) true n 9 [c1] = xs[1]? := by simpa [cells9, Value.cells] using hfe 1 _ rfl
  have w2 : DataW.trod enc Tryz.prog W 0 (fun _ => true) true n 9 [c2] = xs[2]? := by simpa [cells9, Value.cells] using hfe 2 _ rfl
  have w3 : DataW.trod enc Tryz.prog W 0 (fun _ => true) true n 23 [c3] = xs[3]? := by simpa [cells23, Value.cells] using hfe 3 _ rfl
  have w4 : DataW.trod enc Tryz.prog W 0 (fun _ => true) true n 3 [c4] = xs[4]? := by simpa [cells3, Value.cells] using hfe 4 _ rfl
  have hl5 : xs.length = 5 := hlen
  obtain ⟨x0, x1, x2, x3, x4, rfl⟩ : ∃ x0 x1 x2 x3 x4, xs = [x0, x1, x2, x3, x4] := by
    match xs, hl5 with
    | [x0, x1, x2, x3, x4], _ => exact ⟨x0, x1, x2, x3, x4, rfl⟩
  clear hfe hf hval hval0 hA hA0
  obtain ⟨z0, e0, -, -⟩ := DataW.trod_int Tryz.underlying22 w0
  obtain ⟨s1, e1, -, -⟩ := DataW.trod_string Tryz.underlying9 w1
  obtain ⟨s2, e2, -, -⟩ := DataW.trod_string Tryz.underlying9 w2
  obtain ⟨z4, e4, -, -⟩ := DataW.trod_int Tryz.underlying3 w4
  cases e0; cases e1; cases e2; cases e4
  have hs : c3 = .slice none 0 0 ∨ ∃ ad len cap, c3 = .slice (some ad) len cap ∧ len ≤ cap ∧ (cap ≠ 0 → ad.spot = none) := by
    rcases open_ints Tryz.underlying23 Tryz.underlying5 (by kernel_rfl) w3 with ⟨h1, -⟩ | ⟨ad, len, cap, zs, h1, -, h2, -, h3, -, h4, -⟩
    · cases h1; exact .inl rfl
    · cases h1
      refine .inr ⟨ad, len, cap, rfl, h2, fun hc0 => ?_⟩
      have h5 := h4 0 (by rw [h3]; exact Nat.pos_of_ne_zero hc0)
      unfold World.cell? at h5
      split at h5
      · split at h5
        · cases h5
        · rename_i hsp
          have : (ad.add 0).spot = ad.spot := by rfl
          rw [this] at hsp
          cases hx : ad.spot with
          | none => rfl
          | some v => rw [hx] at hsp; exact absurd rfl hsp
      · cases h5
  refine (Go.Ev.Nil.law_any z0 s1 s2 c3 z4 W hs).mono fun e W' ⟨he, hB⟩ => ?_
  subst he
  have ef : Rows.sessionNilSpec.fn H ([d0] ++ []) = { results := [.lit (.bool true)], args := [d0] } := rfl
  have hback := Below.trod laidOut (by kernel_rfl) (of_decide_eq_true (by kernel_rfl)) h0k hB hlt
  refine ⟨_, rfl, _, _, _, [], p, [], by simpa using hW', ?_, ?_, ?_, hB.frame _, fun h => by cases h⟩
  · rw [ef]; exact trodAll_mk1 (shut_bool Tryz.underlying4 true)
  · rw [ef]; exact trodAll_mk1 hback
  · rw [ef]; rfl
theorem row_facts : joinedFacts Tryz.pinned.checked.prog 3 Tryz.f3 Rows.sessionNilSpec Rows.sessionNilRow = true := by kernel_rfl
theorem row_func : Tryz.pinned.checked.prog.funcNamed Rows.sessionNilRow.func = some 3 := by kernel_rfl
theorem row_inst : Tryz.f3.isInstance Tryz.pinned.checked.prog Rows.sessionNilRow.origin Rows.sessionNilRow.targs := of_decide_eq_true (by kernel_rfl)
theorem row_wrap : Tryz.f3.isWrapper Tryz.pinned.checked.prog Rows.sessionNilRow.wrapper Rows.sessionNilRow.mainSum := by
  unfold Func.isWrapper
  first | (rw [if_pos (by decide +kernel)]; kernel_rfl) | (rw [if_neg (by decide +kernel)]; exact ⟨rfl, rfl⟩)
theorem row_holds : Rows.SessionNilSaid :=
  OpenClaim.holds_of_wide 3 Tryz.f3 rfl rfl rfl rfl rfl rfl rfl ⟨rfl, rfl, rfl, rfl, rfl⟩ rfl rfl rfl rfl rfl row_func Tryz.func3 row_facts row_inst row_wrap
    (fun os started H enc _ => lifted os started H enc)
theorem sessionNil_card : Rows.SessionNilCardSaid :=
  Claim7.holds_tied_plain_at .later [] [.data, .data, .data] true (true, "edf8efd344a5dd3f08237a7de20ea8b75b9c6d6a82ee187032d06bac8b8b39ee") true row_holds (fun _ h => by cases h) (by kernel_rfl) (fun _ h => by cases h) sessionNil_row_tie rfl ⟨rfl, rfl⟩ (by kernel_rfl) rfl
    (fun f fn hf hfn => by
      obtain rfl : f = 3 := Option.some.inj ((show Tryz.prog.funcNamed "skein/skeinlaw30.SessionNil" = some 3 by kernel_rfl).symm.trans hf) |>.symm
      obtain rfl : fn = Tryz.f3 := (Option.some.inj (Tryz.func3.symm.trans hfn)).symm
      exact ⟨by kernel_rfl, fun j t ht => by
        rw [Tryz.params3] at ht
        have hm : t ∈ [25] := by simpa using Array.mem_of_getElem? ht
        have hall : ([25].all fun u => !Tryz.prog.wantsStandIn u) = true := by kernel_rfl
        exact (show Tryz.prog.wantsStandIn t = false by simpa using List.all_eq_true.1 hall t hm)⟩)
    (by kernel_rfl)
#print axioms sessionNil_card
end Go.Proofs.YtmijgnobbehaaaaGreatDoor
