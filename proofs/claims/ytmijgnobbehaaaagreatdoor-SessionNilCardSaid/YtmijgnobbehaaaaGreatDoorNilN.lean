/- Part of the proof that SessionNil answers true for every input. -/
import Derived.Test.YtmijgnobbehaaaaGreatDoorNilS
import Derived.Test.YtmijgnobbehaaaaGreatDoorShelf
import Derived.Test.YtmijgnobbehaaaaGreatDoorNilM
set_option linter.all false
set_option linter.unusedVariables false
set_option linter.unusedSimpArgs false
section
namespace Go.Ev.Nil
open Go Go.Ev Go.Proofs
theorem strsV_spec : ∀ (cs : List V) (l : List (List UInt8)), strsV cs = some l → cs = l.map .str
  | [], l, e => by cases e; rfl
  | c :: cs, l, e => by
    cases c with
    | str s =>
      have e' : (match strsV cs with | some r => some (s :: r) | none => none) = some l := e
      cases hr : strsV cs with
      | none => rw [hr] at e'; cases e'
      | some r =>
        rw [hr] at e'
        cases e'
        rw [strsV_spec _ _ hr]; rfl
    | _ => cases e
theorem joinL_eq (sep : List UInt8) : ∀ l : List (List UInt8), joinL sep l = Lib.join l sep
  | [] => rfl
  | [x] => by rw [Lib.join_one]; rfl
  | x :: y :: l => by
    show x ++ sep ++ joinL sep (y :: l) = _
    rw [joinL_eq sep (y :: l)]
    unfold Lib.join
    simp [List.intercalate]
theorem VRs.strs {φ : Emb} : ∀ {l : List (List UInt8)} {pl : List Value}, VRs φ (l.map .str) pl → pl = l.map fun s => .string ⟨s.toArray⟩
  | [], _, .nil => rfl
  | s :: l, _, .cons h hl => by
    cases h
    rw [VRs.strs hl]; rfl
theorem callOk {f : Nat} {fn : Func} {c : Code} (hf : Tryz.prog.funcs[f]? = some fn) (hb : fn.body = some c) : CallOk Tryz.prog f := (ok.call f fn c hf hb).1
theorem join_ok {args : List V} {h : Hp} {r : VRes} (e : joinV args h = some r) : ClS Tryz.prog 141 args h r := by
  unfold joinV at e
  split at e
  · rename_i id off len cap sep
    split at e
    · rename_i cs hcs
      split at e
      · rename_i l hl
        rw [br_some] at e
        obtain ⟨hb, e⟩ := e
        cases e
        rw [Bool.and_eq_true] at hb
        have hb1 := Nat.le_of_ble_eq_true hb.1
        have hb2 := Nat.le_of_ble_eq_true hb.2
        have hstr := strsV_spec _ _ hl
        subst hstr
        refine ClS.of_calls (callOk Tryz.func141 rfl) fun φ w pargs hw ha => ?_
        obtain ⟨p, pl, hp, hr, hlen, hcell⟩ := rowAt_rel hw hcs
        have hpl := VRs.strs hr
        have hll : l.length = len := by rw [← hlen, hpl, List.length_map]
        obtain ⟨pargs⟩ := pargs
        cases ha with
        | cons h1 ha =>
          cases ha with
          | cons h2 ha =>
            cases ha
            cases h2
            cases h1 with
            | slice hid hcp haddr hc hn =>
              rename_i p' a pcap
              have : p' = p := by rw [hp] at hid; exact (Option.some.inj hid).symm
              subst this
              have hfin : (Lib.join ((l.map fun s => (⟨s.toArray⟩ : ByteArray)).map (·.data.toList)) (⟨sep.toArray⟩ : ByteArray).data.toList) = joinL sep l := by
                rw [joinL_eq, List.map_map]
                congr 1
                have : (l.map ((fun x : ByteArray => x.data.toList) ∘ fun s : List UInt8 => (⟨s.toArray⟩ : ByteArray))) = l.map (fun s => s) := List.map_congr_left fun s _ => rfl
                rw [this]
                exact List.map_id' l
              by_cases hp0 : pcap = 0
              · have h0 : len = 0 := by omega
                have hl0 : l = [] := by
                  cases l with
                  | nil => rfl
                  | cons x l => rw [List.length_cons] at hll; omega
                subst h0; subst hl0
                refine (Tryz.strings_Join_none (some a) pcap _ w).mono fun e w' ⟨he, hw'⟩ => ?_
                subst hw'
                exact ⟨_, .str [], he, RowKit.Below.refl _ _⟩
              · have ha' := haddr hp0
                subst ha'
                have hbk : p'.b < w.heap.size := by
                  have hg := hcs
                  unfold rowAt at hg
                  split at hg
                  · rename_i cs sh ext hgg
                    obtain ⟨q, C, t, fz, hq, hblk, -⟩ := row_live hw hgg
                    rw [hp] at hq
                    cases hq
                    exact (Array.getElem?_eq_some_iff.1 hblk).1
                  · cases hg
                have main := Tryz.strings_Join p'.b (p'.o + off) pcap (l.map fun s => ⟨s.toArray⟩) ⟨sep.toArray⟩ w (fun j x hx => ?_) hbk (by rw [List.length_map]; omega) (by rw [List.length_map]; omega) (by rw [hfin]; omega)
                · rw [List.length_map, hll] at main
                  refine main.mono fun e w' ⟨he, hw'⟩ => ?_
                  rw [hfin] at he
                  exact ⟨_, .str _, he, hw'⟩
                · have := hcell j (.string x) (by rw [hpl, List.getElem?_map]; rw [List.getElem?_map] at hx; revert hx; cases l[j]? <;> simp)
                  rwa [addr_add] at this
      · cases e
    · cases e
  · cases e
end Go.Ev.Nil
end
section
namespace Go.Ev.Nil
open Go Go.Ev Go.Proofs
theorem bornOk_spec (hi : Nat) : ∀ (l : List ME) (lo : Nat), bornOk hi lo l = true → (∀ e ∈ l, lo ≤ e.born ∧ e.born < hi) ∧ (l.map (·.born)).Nodup
  | [], _, _ => ⟨fun _ h => (by cases h), .nil⟩
  | x :: l, lo, h => by
    unfold bornOk at h
    rw [Bool.and_eq_true, Bool.and_eq_true] at h
    have h1 := Nat.le_of_ble_eq_true h.1.1
    have h2 : x.born < hi := by simpa [Nat.blt_eq] using h.1.2
    obtain ⟨h3, h4⟩ := bornOk_spec hi l _ h.2
    refine ⟨fun e he => ?_, ?_⟩
    · rcases List.mem_cons.1 he with rfl | he
      · exact ⟨h1, h2⟩
      · have := h3 e he
        omega
    · rw [List.map_cons, List.nodup_cons]
      refine ⟨fun hm => ?_, h4⟩
      obtain ⟨e, he, hb⟩ := List.mem_map.1 hm
      have := h3 e he
      omega
theorem MRs.born {φ : Emb} : ∀ {es : List ME} {pes : List MapEntry}, MRs φ es pes → pes.map (·.born) = es.map (·.born)
  | _, _, .nil => rfl
  | _, _, .cons h hl => by
    cases h
    rw [List.map_cons, List.map_cons, MRs.born hl]
theorem MRs.mem {φ : Emb} : ∀ {es : List ME} {pes : List MapEntry}, MRs φ es pes → ∀ x ∈ pes, ∃ e ∈ es, VR φ e.v x.val ∧ e.born = x.born
  | _, _, .nil, x, hx => by cases hx
  | _, _, .cons h hl, x, hx => by
    rcases List.mem_cons.1 hx with rfl | hx
    · cases h with
      | mk hk hv => exact ⟨_, List.mem_cons_self, hv, rfl⟩
    · obtain ⟨e, he, h⟩ := MRs.mem hl x hx
      exact ⟨e, List.mem_cons_of_mem _ he, h⟩
theorem cell_rel {φ : Emb} {h : Hp} {w : World} (hw : WR φ h w) {id o : Nat} {cs : List V} {sh ext : Bool} {v : V} (e : h.get id = some (.row cs sh ext)) (hv : cs[o]? = some v) {p : PB} (hp : φ id = some p) : ∃ pv, w.cell? ⟨p.b, p.o + o, none⟩ = some pv ∧ VR φ v pv := by
  obtain ⟨q, C, t, fz, hq, hb, -, -, hc, -⟩ := row_live hw e
  rw [hp] at hq
  cases hq
  obtain ⟨pv, h1, h2⟩ := hc _ _ hv
  exact ⟨pv, by rw [cell_of_block hb]; exact h1, h2⟩
theorem twice_ok {args : List V} {h : Hp} {r : VRes} (e : twiceV args h = some r) : ClS Tryz.prog 121 args h r := by
  unfold twiceV at e
  split at e
  · rename_i id off
    split at e
    · rename_i cs sh ext hg
      split at e
      · rename_i m hm
        split at e
        · rename_i es clock hmap
          rw [br_some] at e
          obtain ⟨hb, e⟩ := e
          cases e
          rw [Bool.and_eq_true] at hb
          obtain ⟨hb1, hb2⟩ := hb
          obtain ⟨hborn, hnd⟩ := bornOk_spec _ _ _ hb1
          refine ClS.of_calls (callOk Tryz.func121 rfl) fun φ w pargs hw ha => ?_
          obtain ⟨pargs⟩ := pargs
          cases ha with
          | cons h1 ha =>
            cases ha
            cases h1 with
            | ptr hid =>
              rename_i p
              obtain ⟨pv, hc, hv⟩ := cell_rel hw hg hm hid
              cases hv with
              | map hmid =>
                rename_i q
                obtain ⟨q', obj, hq, hblk, ho⟩ := hw.live _ _ hmap
                rw [hmid] at hq
                cases hq
                cases ho with
                | mapo hmr =>
                  rename_i pes
                  have hbs := MRs.born hmr
                  refine (SknNil.twice_walk p.b (p.o + off) q.b pes.toArray clock w (by rw [Nat.add_assoc]; exact hc) hblk ⟨fun x hx => ?_, ?_⟩ (fun x hx => ?_)).mono fun e w' ⟨he, w1, seen, hal, htp, hw'⟩ => ?_
                  · obtain ⟨e, he, -, h2⟩ := MRs.mem hmr x (by simpa using hx)
                    rw [← h2]
                    exact (hborn e he).2
                  · show (pes.map (·.born)).Nodup
                    rw [hbs]; exact hnd
                  · obtain ⟨e, he, h2, -⟩ := MRs.mem hmr x (by simpa using hx)
                    have h3 := List.all_eq_true.1 hb2 e he
                    unfold twoSpots at h3
                    split at h3
                    · rename_i id2 off2 hev
                      rw [hev] at h2
                      split at h3
                      · rename_i cs2 sh2 ext2 hg2
                        split at h3
                        · rename_i i3 o3 e3 c3 hs
                          generalize x.val = xv at h2 ⊢
                          cases h2 with
                          | ptr hid2 =>
                            rename_i p2
                            obtain ⟨pv2, hc2, hv2⟩ := cell_rel hw hg2 hs hid2
                            cases hv2 with
                            | slice _ _ _ _ _ => exact ⟨_, _, _, _, rfl, by rw [Nat.add_assoc]; exact hc2⟩
                        · cases h3
                      · cases h3
                    · cases h3
                  · subst hw'
                    refine ⟨_, VR.undef, he, ?_⟩
                    have hsz : w1.heap.size = w.heap.size := by rw [hal.1]
                    refine ⟨?_, ?_, ?_, ?_, ?_⟩
                    · exact hal.2.1
                    · exact htp
                    · exact hal.2.2
                    · show w.heap.size ≤ (w1.heap.push _).size
                      rw [Array.size_push, hsz]
                      exact Nat.le_succ _
                    · intro k hk
                      rw [heap_alloc_old w1 _ (by rw [hsz]; exact hk), hal.1]
        · cases e
      · cases e
    · cases e
  · cases e
end Go.Ev.Nil
end
