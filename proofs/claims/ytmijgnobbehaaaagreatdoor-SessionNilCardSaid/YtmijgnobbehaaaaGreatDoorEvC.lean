/- The evaluator: regions that draw their order; its soundness; its use. -/
import Derived.Test.YtmijgnobbehaaaaGreatDoorEvB
set_option linter.all false
set_option linter.unusedVariables false
set_option linter.unusedSimpArgs false
section
namespace Go.Ev
theorem one_bit (look : Nat → Nat) (o : Oper) (j : Nat) : (CheckFast.one look o).testBit j = true ↔ ∃ e ∈ o.after, Region.binds .any e = true ∧ (e.on = j ∨ (look e.on).testBit j = true) := by
  unfold CheckFast.one
  rw [← Array.foldl_toList]
  have key : ∀ (l : List Edge) (s : Nat), (l.foldl (fun s e => if Region.binds .any e then s ||| 2 ^ e.on ||| look e.on else s) s).testBit j = true ↔ s.testBit j = true ∨ ∃ e ∈ l, Region.binds .any e = true ∧ (e.on = j ∨ (look e.on).testBit j = true) := by
    intro l
    induction l with
    | nil => intro s; simp
    | cons e l ih =>
      intro s
      rw [List.foldl_cons, ih]
      by_cases hb : Region.binds .any e = true
      · simp only [hb, if_true, Nat.testBit_or, Nat.testBit_two_pow, Bool.or_eq_true, decide_eq_true_eq, List.mem_cons, exists_eq_or_imp, true_and]
        constructor
        · rintro (((h | h) | h) | h)
          · exact .inl h
          · exact .inr (.inl (.inl h))
          · exact .inr (.inl (.inr h))
          · exact .inr (.inr h)
        · rintro (h | (h | h) | h)
          · exact .inl (.inl (.inl h))
          · exact .inl (.inl (.inr h))
          · exact .inl (.inr h)
          · exact .inr h
      · simp only [hb, Bool.false_eq_true, if_false, List.mem_cons, exists_eq_or_imp, false_and, false_or]
  rw [key]
  simp
def bf (l : List Oper) : Array Nat := l.foldl (fun acc o => acc.push (CheckFast.one (fun i => acc.getD i 0) o)) #[]
theorem bf_snoc (l : List Oper) (o : Oper) : bf (l ++ [o]) = (bf l).push (CheckFast.one (fun i => (bf l).getD i 0) o) := by
  unfold bf; rw [List.foldl_append]; rfl
theorem bf_fold_size (m : List Oper) : ∀ A : Array Nat, (m.foldl (fun acc o => acc.push (CheckFast.one (fun i => acc.getD i 0) o)) A).size = A.size + m.length := by
  induction m with
  | nil => intro A; simp
  | cons o m ih => intro A; rw [List.foldl_cons, ih]; simp; omega
theorem bf_fold_get (m : List Oper) : ∀ (A : Array Nat) (i : Nat), i < A.size → (m.foldl (fun acc o => acc.push (CheckFast.one (fun i => acc.getD i 0) o)) A).getD i 0 = A.getD i 0 := by
  induction m with
  | nil => intro A i _; rfl
  | cons o m ih =>
    intro A i hi
    rw [List.foldl_cons, ih _ _ (by simp; omega)]
    simp only [Array.getD_eq_getD_getElem?]
    rw [Array.getElem?_push, if_neg (by omega)]
theorem bf_size (l : List Oper) : (bf l).size = l.length := by
  unfold bf; rw [bf_fold_size]; simp
theorem bf_append (l m : List Oper) (i : Nat) (hi : i < l.length) : (bf (l ++ m)).getD i 0 = (bf l).getD i 0 := by
  have : bf (l ++ m) = m.foldl (fun acc o => acc.push (CheckFast.one (fun i => acc.getD i 0) o)) (bf l) := by unfold bf; rw [List.foldl_append]
  rw [this, bf_fold_get _ _ _ (by rw [bf_size]; exact hi)]
theorem beforeL_bf (l : List Oper) : CheckFast.beforeL l 0 [] = (bf l).toList := by
  have := CheckFast.beforeL_eq l #[]
  simpa [bf] using this
section
variable {ops : Array Oper}
theorem edges_of (he : edgesOk ops.toList = true) {i : Nat} {o : Oper} (hi : ops[i]? = some o) {e : Edge} (hm : e ∈ o.after) (hb : Region.binds .any e = true) : e.on < i := by
  unfold edgesOk at he
  rw [List.all_eq_true] at he
  have hmem : (o, i) ∈ ops.toList.zipIdx := by
    rw [List.mem_zipIdx_iff_getElem?]
    simpa using hi
  have h1 := he _ hmem
  simp only [Array.all_eq_true_iff_forall_mem, Bool.or_eq_true, Bool.not_eq_true'] at h1
  rcases h1 e hm with h2 | h2
  · rw [hb] at h2; cases h2
  · simpa [Nat.blt_eq] using h2
abbrev bl (ops : Array Oper) : List Nat := CheckFast.beforeL ops.toList 0 []
theorem isB_spec (he : edgesOk ops.toList = true) {i : Nat} {o : Oper} (hi : ops[i]? = some o) (j : Nat) : isB (bl ops) i j = true ↔ ∃ e ∈ o.after, Region.binds .any e = true ∧ (e.on = j ∨ isB (bl ops) e.on j = true) := by
  have hlt : i < ops.size := (Array.getElem?_eq_some_iff.1 hi).1
  have hget : ops.toList = ops.toList.take i ++ [o] ++ ops.toList.drop (i + 1) := by
    have : ops.toList[i]? = some o := by simpa using hi
    have h2 := List.getElem?_eq_some_iff.1 this
    obtain ⟨h3, h4⟩ := h2
    rw [← h4, List.append_assoc, List.singleton_append, ← List.drop_eq_getElem_cons h3, List.take_append_drop]
  have hlen : (ops.toList.take i).length = i := by simp; omega
  have hb : ∀ k, (bl ops).getD k 0 = (bf ops.toList).getD k 0 := by
    intro k
    rw [bl, beforeL_bf]
    simp [List.getD_eq_getElem?_getD, Array.getD_eq_getD_getElem?]
  have hi2 : (bf ops.toList).getD i 0 = CheckFast.one (fun k => (bf (ops.toList.take i)).getD k 0) o := by
    conv => lhs; rw [hget]
    rw [bf_append _ _ _ (by simp; omega), bf_snoc]
    simp only [Array.getD_eq_getD_getElem?]
    rw [Array.getElem?_push, if_pos (by rw [bf_size, hlen])]
    rfl
  have hlow : ∀ k, k < i → (bf (ops.toList.take i)).getD k 0 = (bf ops.toList).getD k 0 := by
    intro k hk
    conv => rhs; rw [hget, List.append_assoc]
    rw [bf_append _ _ _ (by rw [hlen]; exact hk)]
  unfold isB
  rw [hb, hi2, one_bit]
  constructor
  · rintro ⟨e, hm, hbd, h⟩
    refine ⟨e, hm, hbd, ?_⟩
    rw [hb, ← hlow _ (edges_of he hi hm hbd)]; exact h
  · rintro ⟨e, hm, hbd, h⟩
    refine ⟨e, hm, hbd, ?_⟩
    rw [hb, ← hlow _ (edges_of he hi hm hbd)] at h; exact h
theorem isB_out {i j : Nat} (hi : ops.size ≤ i) : isB (bl ops) i j = false := by
  unfold isB
  rw [bl, beforeL_bf, List.getD_eq_getElem?_getD, List.getElem?_eq_none (by rw [Array.length_toList, bf_size]; simpa using hi)]
  simp
theorem isB_lt (he : edgesOk ops.toList = true) : ∀ (i j : Nat), isB (bl ops) i j = true → j < i := by
  intro i
  induction i using Nat.strongRecOn with
  | _ i ih =>
    intro j h
    cases hi : ops[i]? with
    | none => rw [isB_out (by simpa using hi)] at h; cases h
    | some o =>
      obtain ⟨e, hm, hb, h2⟩ := (isB_spec he hi j).1 h
      have h3 := edges_of he hi hm hb
      rcases h2 with h2 | h2
      · omega
      · have := ih e.on h3 j h2; omega
theorem isB_trans (he : edgesOk ops.toList = true) : ∀ (i j k : Nat), isB (bl ops) i j = true → isB (bl ops) j k = true → isB (bl ops) i k = true := by
  intro i
  induction i using Nat.strongRecOn with
  | _ i ih =>
    intro j k h1 h2
    cases hi : ops[i]? with
    | none => rw [isB_out (by simpa using hi)] at h1; cases h1
    | some o =>
      obtain ⟨e, hm, hb, h3⟩ := (isB_spec he hi j).1 h1
      refine (isB_spec he hi k).2 ⟨e, hm, hb, .inr ?_⟩
      rcases h3 with h3 | h3
      · rw [h3]; exact h2
      · exact ih e.on (edges_of he hi hm hb) j k h3 h2
theorem isB_size {i j : Nat} (h : isB (bl ops) i j = true) : i < ops.size := by
  rcases Nat.lt_or_ge i ops.size with h1 | h1
  · exact h1
  · rw [isB_out h1] at h; cases h
def names (o : Oper) : List Tmp := o.dst.toList ++ o.op.operands.toList.filterMap fun | .tmp t => some t | _ => none
theorem temps_ordered (ht : Region.temporariesOk ops (Region.before ops) = true) {i j : Nat} {oi oj : Oper} (hi : ops[i]? = some oi) (hj : ops[j]? = some oj) {t : Tmp} (hd : oi.dst = some t) (hn : t ∈ names oj) (hne : i ≠ j) :
    isB (bl ops) (max i j) (min i j) = true := by
  have hlt : i < ops.size := (Array.getElem?_eq_some_iff.1 hi).1
  have hpos : 0 < ops.size := by omega
  have hbb : ∀ k, (bl ops).getD k 0 = (Region.before ops).getD k 0 := by
    intro k
    rw [← CheckFast.beforeF_eq]
    unfold CheckFast.beforeF
    simp [List.getD_eq_getElem?_getD, Array.getD_eq_getD_getElem?]
  unfold Region.temporariesOk at ht
  simp only [List.all_eq_true] at ht
  have hmemj : (oj, j) ∈ ops.toList.zipIdx := by
    rw [List.mem_zipIdx_iff_getElem?]; simpa using hj
  have hmemi : (oi, i) ∈ ops.toList.zipIdx := by
    rw [List.mem_zipIdx_iff_getElem?]; simpa using hi
  have h1 := ht _ hmemj t hn
  have hw : ∀ (l : List (Oper × Nat)) (W : Array (List (Tmp × Nat))), W.size = ops.size → ((oi, i) ∈ l ∨ (t, i) ∈ W.getD (t % ops.size) []) →
      (t, i) ∈ (l.foldl (fun w (x : Oper × Nat) => match x.1.dst with | some d => w.modify (d % ops.size) ((d, x.2) :: ·) | none => w) W).getD (t % ops.size) [] := by
    intro l
    induction l with
    | nil => intro W _ h; simpa using h
    | cons x l ih =>
      intro W hW h
      obtain ⟨o, k⟩ := x
      rw [List.foldl_cons]
      apply ih
      · cases o.dst <;> simp [hW]
      · have hmod : t % ops.size < W.size := by rw [hW]; exact Nat.mod_lt _ hpos
        have keep : (t, i) ∈ W.getD (t % ops.size) [] → (t, i) ∈ (match o.dst with | some d => W.modify (d % ops.size) ((d, k) :: ·) | none => W).getD (t % ops.size) [] := by
          intro h
          cases o.dst with
          | none => exact h
          | some d =>
            simp only [Array.getD_eq_getD_getElem?, Array.getElem?_modify] at h ⊢
            split
            · rw [Array.getElem?_eq_getElem hmod] at h ⊢
              simp at h ⊢
              exact .inr h
            · exact h
        rcases h with h | h
        · rcases List.mem_cons.1 h with h | h
          · cases h
            right
            rw [hd]
            simp only [Array.getD_eq_getD_getElem?, Array.getElem?_modify, if_true]
            rw [Array.getElem?_eq_getElem hmod]
            simp
          · exact .inl h
        · exact .inr (keep h)
  have h2 := hw ops.toList.zipIdx (Array.replicate ops.size []) (by simp) (.inl hmemi)
  have h3 := h1 (t, i) h2
  simp only [bne_self_eq_false, Bool.false_or, Bool.or_eq_true, beq_iff_eq] at h3
  rcases h3 with h3 | h3
  · exact absurd h3 hne
  · unfold isB; rw [hbb]; exact h3
end
end Go.Ev
end
section
namespace Go.Ev
theorem sameList_eq (same : V → V → Bool) (hs : ∀ a b, same a b = true → a = b) : ∀ (l m : List V), sameList same l m = true → l = m
  | [], [], _ => rfl
  | [], _ :: _, h => by simp [sameList] at h
  | _ :: _, [], h => by simp [sameList] at h
  | x :: l, y :: m, h => by
    simp only [sameList, Bool.and_eq_true] at h
    rw [hs _ _ h.1, sameList_eq same hs l m h.2]
theorem V.same_eq : ∀ (n : Nat) (a b : V), V.same n a b = true → a = b
  | 0, _, _, h => by cases h
  | n + 1, a, b, h => by
    have hl := sameList_eq (V.same n) (V.same_eq n)
    simp only [V.same, sameStep] at h
    split at h
    all_goals first
      | (simp only [Bool.and_eq_true, beq_iff_eq] at h; simp_all; done)
      | rfl
      | skip
    · rename_i f xs ys g zs ws
      simp only [Bool.and_eq_true, beq_iff_eq] at h
      rw [h.1.1, hl _ _ h.1.2, hl _ _ h.2]
    · rename_i t v u w
      simp only [Bool.and_eq_true, beq_iff_eq] at h
      rw [h.1, V.same_eq n _ _ h.2]
    · rw [hl _ _ h]
    · rw [hl _ _ h]
    · cases h
variable {P : Program}
theorem ρs_congr {env env' : Env} : ∀ {l : List Operand}, (∀ x ∈ l, ρ env x = ρ env' x) → ρs env l = ρs env' l
  | [], _ => rfl
  | x :: l, h => by
    simp only [ρs]
    rw [h x (by simp), ρs_congr (l := l) (fun y hy => h y (by simp [hy]))]
theorem ρparts_congr {env env' : Env} : ∀ {l : List (Nat × Operand)}, (∀ x ∈ l.map (·.2), ρ env x = ρ env' x) → ρparts env l = ρparts env' l
  | [], _ => rfl
  | (i, x) :: l, h => by
    simp only [ρparts]
    rw [h x (by simp), ρparts_congr (l := l) (fun y hy => h y (by simp only [List.map_cons, List.mem_cons]; exact .inr hy))]
theorem ρo_congr {env env' : Env} {x : Option Operand} (h : ∀ y ∈ x.toList, ρ env y = ρ env' y) : ρo env x = ρo env' x := by
  cases x with
  | none => rfl
  | some x => simp only [ρo]; rw [h x (by simp)]
theorem evRead_congr {env env' : Env} {h : Hp} {o : Oper} (he : ∀ x ∈ o.op.operands.toList, ρ env x = ρ env' x) : evRead P env h o = evRead P env' h o := by
  obtain ⟨dst, op, ty, pos, after, guard⟩ := o
  simp only at he
  unfold evRead evReadOp
  cases op <;> simp only [Op.operands] at he <;> simp only
  case move x => rw [he x (by simp)]
  case assign x => rw [he x (by simp)]
  case pick c a b => unfold rdPick; rw [he c (by simp), he a (by simp), he b (by simp)]
  case load t a => unfold rdLoad; rw [he a (by simp)]
  case nilCheck x => unfold rdNil; rw [he x (by simp)]
  case binOp op t x y _ => unfold rdBin; rw [he x (by simp), he y (by simp)]
  case unOp op _ x => unfold rdUn; rw [he x (by simp)]
  case convert s d x => unfold rdConv; rw [he x (by simp)]
  case makeInterface t x => unfold rdIface; rw [he x (by simp)]
  case makeFunc fn a b =>
    unfold rdFunc
    rw [ρs_congr (env := env) (env' := env') (l := a.toList) (fun x hx => he x (by simp only [Array.toList_append, List.mem_append]; exact .inl hx)), ρs_congr (env := env) (env' := env') (l := b.toList) (fun x hx => he x (by simp only [Array.toList_append, List.mem_append]; exact .inr hx))]
  case slice t x lo hi mx =>
    unfold rdSlice
    rw [he x (by simp), ρo_congr (env := env) (env' := env') (x := lo) (fun y hy => he y (by cases lo <;> simp_all)), ρo_congr (env := env) (env' := env') (x := hi) (fun y hy => he y (by cases hi <;> simp_all)),
      ρo_congr (env := env) (env' := env') (x := mx) (fun y hy => he y (by cases mx <;> simp_all))]
  case fieldAddr s x f => unfold rdFieldAddr; rw [he x (by simp)]
  case field s x f => unfold rdField; rw [he x (by simp)]
  case indexAddr t x i => unfold rdIndexAddr; rw [he x (by simp), he i (by simp)]
  case index t x i => unfold rdIndex; rw [he x (by simp), he i (by simp)]
  case lookup t m k ok => unfold rdLookup; rw [he m (by simp), he k (by simp)]
  case typeAssert x _ t ok => unfold rdAssert; rw [he x (by simp)]
  case extract x i => unfold rdExtract; rw [he x (by simp)]
  case build t ps => unfold rdBuild; rw [ρparts_congr (env := env) (env' := env') (l := ps.toList) (fun x hx => he x (by simpa using hx))]
  case call c =>
    unfold rdCall rdBuiltin
    rw [ρs_congr (env := env) (env' := env') (l := c.args.toList) (fun x hx => he x (by simp only [Call.operands]; cases c.callee <;> simp_all))]
theorem evAlloc_congr {env env' : Env} {id : Nat} {o : Oper} (he : ∀ x ∈ o.op.operands.toList, ρ env x = ρ env' x) : evAlloc P env id o = evAlloc P env' id o := by
  obtain ⟨dst, op, ty, pos, after, guard⟩ := o
  simp only at he
  unfold evAlloc evAllocOp
  cases op <;> simp only [Op.operands] at he <;> simp only
  case box t x => unfold alBox; rw [he x (by simp)]
  case buildSlice t n ps => unfold alBuild; rw [ρparts_congr (env := env) (env' := env') (l := ps.toList) (fun x hx => he x (by simpa using hx))]
  case makeMap t r => unfold alMap; rw [ρs_congr (env := env) (env' := env') (l := r.toList) (fun x hx => he x (by cases r <;> simp_all))]
  case makeSlice t l c => unfold alSlice; rw [he l (by simp), he c (by simp)]
theorem evAct_congr {F : Fns} {env env' : Env} {h : Hp} {o : Oper} (he : ∀ x ∈ o.op.operands.toList, ρ env x = ρ env' x) : evAct P F env h o = evAct P F env' h o := by
  obtain ⟨dst, op, ty, pos, after, guard⟩ := o
  simp only at he
  unfold evAct evActOp
  cases op <;> simp only [Op.operands] at he <;> simp only
  case store t a x => unfold acStore; rw [he x (by simp), he a (by simp)]
  case convert s d x => unfold acConv; rw [he x (by simp)]
  case mapUpdate t m k v => unfold acMapSet; rw [he m (by simp), he k (by simp), he v (by simp)]
  case insert t m k v => unfold acMapSet; rw [he m (by simp), he k (by simp), he v (by simp)]
  case mapEntry t m k => unfold acMapEntry; rw [he m (by simp), he k (by simp)]
  case entryStore t m s v => unfold acEntryStore; rw [he m (by simp), he s (by simp), he v (by simp)]
  case range t x => unfold acRange; rw [he x (by simp)]
  case next it b => unfold acNext; rw [he it (by simp)]
  case call c =>
    have h1 : ρs env c.args.toList = ρs env' c.args.toList := ρs_congr fun x hx => he x (by simp only [Call.operands]; cases c.callee <;> simp_all)
    unfold acCall acBuiltin
    rw [h1]
    cases hc : c.callee with
    | builtin b => rfl
    | value f => simp only; rw [he f (by simp [Call.operands, hc])]
    | invoke r m => rfl
  case defer c =>
    have h1 : ρs env c.args.toList = ρs env' c.args.toList := ρs_congr fun x hx => he x (by simp only [Call.operands]; cases c.callee <;> simp_all)
    unfold acDefer
    rw [h1]
    cases hc : c.callee with
    | builtin b => rfl
    | value f => simp only; rw [he f (by simp [Call.operands, hc])]
    | invoke r m => rfl
  case panic x => unfold acPanic; rw [he x (by simp)]
end Go.Ev
end
section
namespace Go.Ev
variable {P : Program}
inductive Fact (P : Program) (F : Fns) (b : List Nat) (n0 : Nat) (ops : List Oper) (cf : Course) (i : Nat) (o : Oper) (env : Env) : V → Prop where
  | U (hw : wantedV ops env o = false) (hn : i ∉ cf.ws) (hp : ∀ p ∈ cf.pd, p.i ≠ i) : Fact P F b n0 ops cf i o env .undef
  | R {v : V} (hw : wantedV ops env o = true) (hn : i ∉ cf.ws) (hp : ∀ p ∈ cf.pd, p.i ≠ i) {h : Hp} (hv : evRead P env h o = some v) (hm : (⟨o, i, env, v⟩ : Rec) ∈ cf.rs) : Fact P F b n0 ops cf i o env v
  | A {v : V} {lo : LO} (hw : wantedV ops env o = true) (hn : i ∉ cf.ws) (ha : evAlloc P env (n0 + i) o = some (v, lo)) (hm : (⟨i, n0 + i, lo⟩ : Pend) ∈ cf.pd) : Fact P F b n0 ops cf i o env v
  | W {v : V} (hw : wantedV ops env o = true) (hp : ∀ p ∈ cf.pd, p.i ≠ i) {l1 done : List Nat} {hl1 hrest : List Hp} {H' H : Hp} (e1 : cf.ws = l1 ++ i :: done) (e2 : cf.hs = hl1 ++ H' :: H :: hrest) (e3 : hl1.length = l1.length)
      (ha : evAct P F env (addAll H (cf.pd.filter (wants b i done))) o = some (.val v H')) : Fact P F b n0 ops cf i o env v
def Facts (P : Program) (F : Fns) (b : List Nat) (n0 : Nat) (ops : List Oper) (cf : Course) : Nat → List Oper → Env → List V → Prop
  | _, [], env, [] => env = cf.env
  | i, o :: rest, env, v :: vs => Fact P F b n0 ops cf i o env v ∧ Facts P F b n0 ops cf (i + 1) rest (put env o.dst v) vs
  | _, _, _, _ => False
structure Ext (n0 : Nat) (i j : Nat) (c cf : Course) : Prop where
  ex : ∃ lw lh lp lr, cf.ws = lw ++ c.ws ∧ cf.hs = lh ++ c.hs ∧ lh.length = lw.length ∧ cf.pd = lp ++ c.pd ∧ cf.rs = lr ++ c.rs ∧ (∀ w ∈ lw, i ≤ w ∧ w < j) ∧ (∀ p ∈ lp, i ≤ p.i ∧ p.i < j ∧ p.id = n0 + p.i) ∧ lp.Pairwise (fun p q => p.i ≠ q.i)
theorem Ext.refl {n0 i j : Nat} (c : Course) : Ext n0 i j c c := ⟨[], [], [], [], rfl, rfl, rfl, rfl, rfl, by simp, by simp, .nil⟩
theorem drawOps_facts {F : Fns} {b : List Nat} {n0 : Nat} {ops : List Oper} (hb : ∀ i j, isB b i j = true → j < i) : ∀ (rest : List Oper) (i : Nat) (c cf : Course), drawOps P F b n0 ops i rest c = some cf → (∀ w ∈ c.ws, w < i) → (∀ p ∈ c.pd, p.i < i) →
    Ext n0 i (i + rest.length) c cf ∧ ∃ vs, vs.length = rest.length ∧ Facts P F b n0 ops cf i rest c.env vs
  | [], i, c, cf, e, hw, hp => by
    cases e
    exact ⟨.refl c, [], rfl, rfl⟩
  | o :: rest, i, c, cf, e, hw, hp => by
    simp only [drawOps] at e
    split at e
    · rename_i c' hc'
      have main : (∀ w ∈ c'.ws, w < i + 1) → (∀ p ∈ c'.pd, p.i < i + 1) → (∃ lw lh lp lr, c'.ws = lw ++ c.ws ∧ c'.hs = lh ++ c.hs ∧ lh.length = lw.length ∧ c'.pd = lp ++ c.pd ∧ c'.rs = lr ++ c.rs ∧ (∀ w ∈ lw, w = i) ∧ (∀ p ∈ lp, p.i = i ∧ p.id = n0 + i) ∧ lp.length ≤ 1) →
          ∀ v, c'.env = put c.env o.dst v → (Ext n0 (i + 1) (i + 1 + rest.length) c' cf → Fact P F b n0 ops cf i o c.env v) →
          Ext n0 i (i + (o :: rest).length) c cf ∧ ∃ vs, vs.length = (o :: rest).length ∧ Facts P F b n0 ops cf i (o :: rest) c.env vs := by
        intro h1 h2 h3 v hv h4
        obtain ⟨hE, vs, hl, hF⟩ := drawOps_facts hb rest (i + 1) c' cf e h1 h2
        have hfact := h4 hE
        obtain ⟨lw, lh, lp, lr, x1, x2, x3, x4, x5, x6, x7, x8⟩ := h3
        obtain ⟨lw', lh', lp', lr', y1, y2, y3, y4, y5, y6, y7, y8⟩ := hE.ex
        refine ⟨⟨lw' ++ lw, lh' ++ lh, lp' ++ lp, lr' ++ lr, by rw [y1, x1]; simp, by rw [y2, x2]; simp, by simp [y3, x3], by rw [y4, x4]; simp, by rw [y5, x5]; simp, ?_, ?_, ?_⟩, v :: vs, by simp [hl], hfact, by rw [← hv]; exact hF⟩
        · intro w hw'
          simp only [List.length_cons]
          rcases List.mem_append.1 hw' with h | h
          · have := y6 w h; omega
          · have := x6 w h; omega
        · intro p hp'
          simp only [List.length_cons]
          rcases List.mem_append.1 hp' with h | h
          · obtain ⟨z1, z2, z3⟩ := y7 p h; exact ⟨by omega, by omega, z3⟩
          · obtain ⟨z1, z2⟩ := x7 p h; exact ⟨by omega, by omega, by rw [z1]; exact z2⟩
        · rw [List.pairwise_append]
          refine ⟨y8, ?_, ?_⟩
          · match lp, x8 with
            | [], _ => exact .nil
            | [p], _ => exact List.pairwise_singleton _ _
          · intro p hp' q hq'
            have z1 := (y7 p hp').1
            have z2 := (x7 q hq').1
            omega
      have notin : ∀ (_ : Ext n0 (i + 1) (i + 1 + rest.length) c' cf) (_ : ∀ w ∈ c'.ws, w < i), i ∉ cf.ws := by
        intro hE h1 hmem
        obtain ⟨lw', lh', lp', lr', y1, -, -, -, -, y6, -, -⟩ := hE.ex
        rw [y1] at hmem
        rcases List.mem_append.1 hmem with h | h
        · have := (y6 i h).1; omega
        · have := h1 i h; omega
      have nopd : ∀ (_ : Ext n0 (i + 1) (i + 1 + rest.length) c' cf) (_ : ∀ p ∈ c'.pd, p.i < i), ∀ p ∈ cf.pd, p.i ≠ i := by
        intro hE h1 p hmem
        obtain ⟨lw', lh', lp', lr', -, -, -, y4, -, -, y7, -⟩ := hE.ex
        rw [y4] at hmem
        rcases List.mem_append.1 hmem with h | h
        · have := (y7 p h).1; omega
        · have := h1 p h; omega
      unfold drawOp at hc'
      split at hc'
      · cases hc'
      · rename_i h hs hhs
        rw [br_eq] at hc'
        split at hc'
        · rename_i hwant
          split at hc'
          · 
            rename_i c1 hrd
            cases hc'
            simp only [dwRead] at hrd
            split at hrd
            · rename_i v hv
              cases hrd
              refine main (fun w h => Nat.lt_succ_of_lt (hw w h)) (fun p h => Nat.lt_succ_of_lt (hp p h)) ⟨[], [], [], [⟨o, i, c.env, v⟩], rfl, rfl, rfl, rfl, rfl, by simp, by simp, by simp⟩ v rfl ?_
              intro hE
              refine .R hwant (notin hE hw) (nopd hE hp) hv ?_
              obtain ⟨lw', lh', lp', lr', -, -, -, -, y5, -, -, -⟩ := hE.ex
              rw [y5]; simp
            · cases hrd
          · split at hc'
            · rename_i c1 hal
              cases hc'
              simp only [dwAlloc] at hal
              split at hal
              · rename_i v lo hv
                cases hal
                refine main (fun w h => Nat.lt_succ_of_lt (hw w h)) ?_ ⟨[], [], [⟨i, n0 + i, lo⟩], [], rfl, rfl, rfl, rfl, rfl, by simp, by simp, by simp⟩ v rfl ?_
                · intro p h
                  rcases List.mem_cons.1 h with rfl | h
                  · exact Nat.lt_succ_self _
                  · exact Nat.lt_succ_of_lt (hp p h)
                · intro hE
                  refine .A hwant (notin hE hw) hv ?_
                  obtain ⟨lw', lh', lp', lr', -, -, -, y4, -, -, -, -⟩ := hE.ex
                  rw [y4]; simp
              · cases hal
            · simp only [dwAct] at hc'
              split at hc'
              · rename_i v h' hv
                cases hc'
                refine main ?_ (fun p h => Nat.lt_succ_of_lt (hp p h)) ⟨[i], [h'], [], [], rfl, rfl, rfl, rfl, rfl, by simp, by simp, by simp⟩ v rfl ?_
                · intro w h
                  rcases List.mem_cons.1 h with rfl | h
                  · exact Nat.lt_succ_self _
                  · exact Nat.lt_succ_of_lt (hw w h)
                · intro hE
                  have hnp := nopd hE hp
                  obtain ⟨lw', lh', lp', lr', y1, y2, y3, y4, -, -, y7, -⟩ := hE.ex
                  refine .W (H := h) (H' := h') (l1 := lw') (done := c.ws) (hl1 := lh') (hrest := hs) hwant hnp y1 (by rw [y2, hhs]) y3 ?_
                  rw [y4, List.filter_append]
                  have : lp'.filter (wants b i c.ws) = [] := by
                    rw [List.filter_eq_nil_iff]
                    intro p hp' hwn
                    have z1 := (y7 p hp').1
                    unfold wants at hwn
                    rw [Bool.and_eq_true] at hwn
                    have := hb _ _ hwn.1
                    omega
                  rw [this, List.nil_append]
                  exact hv
              · cases hc'
        · rename_i hwant
          have hwant : wantedV ops c.env o = false := by simpa using hwant
          cases hc'
          refine main (fun w h => Nat.lt_succ_of_lt (hw w h)) (fun p h => Nat.lt_succ_of_lt (hp p h)) ⟨[], [], [], [], rfl, rfl, rfl, rfl, rfl, by simp, by simp, by simp⟩ .undef rfl ?_
          intro hE
          exact .U hwant (notin hE hw) (nopd hE hp)
    · cases e
def envAt (ops : Array Oper) (vs : List V) (e0 : Env) : Nat → Env
  | 0 => e0
  | k + 1 => put (envAt ops vs e0 k) ((ops[k]?).bind (·.dst)) (vs.getD k .undef)
theorem Facts.at_ {F : Fns} {b : List Nat} {n0 : Nat} {ops : Array Oper} {cf : Course} {e0 : Env} {VS : List V} : ∀ (rest : List Oper) (i : Nat) (env : Env) (vs : List V), Facts P F b n0 ops.toList cf i rest env vs → VS.drop i = vs → ops.toList.drop i = rest → env = envAt ops VS e0 i →
    (∀ k o, i ≤ k → ops[k]? = some o → Fact P F b n0 ops.toList cf k o (envAt ops VS e0 k) (VS.getD k .undef)) ∧ (i ≤ ops.size → cf.env = envAt ops VS e0 ops.size)
  | [], i, env, vs, h, hv, hr, he => by
    have hlen : ops.size ≤ i := by
      have := congrArg List.length hr
      simp at this; omega
    refine ⟨fun k o hk ho => ?_, fun hi => ?_⟩
    · have := (Array.getElem?_eq_some_iff.1 ho).1; omega
    · cases vs with
      | nil =>
        have : i = ops.size := by omega
        rw [← this, ← he]; exact h.symm
      | cons _ _ => exact h.elim
  | o :: rest, i, env, vs, h, hv, hr, he => by
    cases vs with
    | nil => exact h.elim
    | cons v vs =>
      obtain ⟨h1, h2⟩ := h
      have hoi : ops[i]? = some o := by
        have : (ops.toList.drop i)[0]? = some o := by rw [hr]; rfl
        simpa using this
      have hvi : VS.getD i .undef = v := by
        have : (VS.drop i)[0]? = some v := by rw [hv]; rfl
        rw [List.getElem?_drop] at this
        rw [List.getD_eq_getElem?_getD]
        simp at this
        simp [this]
      have hlt : i < ops.size := (Array.getElem?_eq_some_iff.1 hoi).1
      have henv : put env o.dst v = envAt ops VS e0 (i + 1) := by
        simp only [envAt, hoi, hvi, ← he, Option.bind_some]
      obtain ⟨k1, k2⟩ := Facts.at_ rest (i + 1) _ vs h2 (by rw [← List.drop_drop, hv]; rfl) (by rw [← List.drop_drop, hr]; rfl) henv
      refine ⟨fun k o' hk ho => ?_, fun _ => k2 hlt⟩
      rcases Nat.eq_or_lt_of_le hk with rfl | hk
      · rw [hoi] at ho; cases ho
        rw [hvi, ← he]; exact h1
      · exact k1 k o' hk ho
end Go.Ev
end
section
namespace Go.Ev
variable {P : Program}
theorem put_get (env : Env) (dst : Option Tmp) (v : V) (t : Tmp) : (put env dst v).get t = if dst = some t ∧ t < env.n then v else env.get t := by
  cases dst with
  | none => simp [put]
  | some d =>
    simp only [put, Env.get_set, Option.some.injEq]
    by_cases h : d = t
    · subst h; simp
    · have : ¬ t = d := fun e => h e.symm
      simp [h, this]
theorem put_n (env : Env) (dst : Option Tmp) (v : V) : (put env dst v).n = env.n := by
  cases dst with
  | none => rfl
  | some d => exact Env.n_set env d v
def lat (ops : Array Oper) (vs : List V) (e0 : Env) (D : Nat → Bool) (t : Tmp) : Nat → V
  | 0 => e0.get t
  | m + 1 => if D m = true ∧ (ops[m]?).bind (·.dst) = some t ∧ t < e0.n then vs.getD m .undef else lat ops vs e0 D t m
theorem envAt_n (ops : Array Oper) (vs : List V) (e0 : Env) : ∀ k, (envAt ops vs e0 k).n = e0.n
  | 0 => rfl
  | k + 1 => by rw [envAt, put_n, envAt_n ops vs e0 k]
theorem envAt_get (ops : Array Oper) (vs : List V) (e0 : Env) (t : Tmp) : ∀ k, (envAt ops vs e0 k).get t = lat ops vs e0 (fun _ => true) t k
  | 0 => rfl
  | k + 1 => by rw [envAt, put_get, envAt_n, envAt_get ops vs e0 t k, lat]; simp
section
variable {ops : Array Oper} {vs : List V} {e0 : Env} {D : Nat → Bool}
theorem lat_ready {i : Nat} {t : Tmp} (hD : D i = false) (hB : ∀ j, isB (bl ops) i j = true → D j = true) (hcl : ∀ x y, D x = true → isB (bl ops) x y = true → D y = true)
    (hord : ∀ (m : Nat) (o' : Oper), ops[m]? = some o' → o'.dst = some t → m ≠ i → isB (bl ops) (max m i) (min m i) = true) (hi : i ≤ ops.size) :
    lat ops vs e0 D t ops.size = lat ops vs e0 (fun _ => true) t i := by
  have hwr : ∀ m, (ops[m]?).bind (·.dst) = some t → m ≠ i → isB (bl ops) (max m i) (min m i) = true := by
    intro m hm hne
    cases ho : ops[m]? with
    | none => rw [ho] at hm; cases hm
    | some o' => rw [ho] at hm; exact hord m o' ho hm hne
  have low : ∀ m, m ≤ i → lat ops vs e0 D t m = lat ops vs e0 (fun _ => true) t m := by
    intro m
    induction m with
    | zero => intro _; rfl
    | succ m ih =>
      intro hm
      simp only [lat]
      by_cases hw : (ops[m]?).bind (·.dst) = some t
      · have h1 := hwr m hw (by omega)
        rw [Nat.max_eq_right (by omega), Nat.min_eq_left (by omega)] at h1
        simp only [hB m h1, true_and]
        rw [ih (by omega)]
      · simp only [hw, false_and, and_false, if_false]
        exact ih (by omega)
  have high : ∀ m, i ≤ m → lat ops vs e0 D t m = lat ops vs e0 (fun _ => true) t i := by
    intro m
    induction m with
    | zero => intro h; have : i = 0 := by omega
              subst this; rfl
    | succ m ih =>
      intro hm
      rcases Nat.eq_or_lt_of_le hm with h | h
      · rw [← h]; exact low i (Nat.le_refl _)
      · simp only [lat]
        have hne : ¬ (D m = true ∧ (ops[m]?).bind (·.dst) = some t ∧ t < e0.n) := by
          rintro ⟨d1, d2, -⟩
          by_cases hmi : m = i
          · subst hmi; rw [hD] at d1; cases d1
          · have h1 := hwr m d2 hmi
            rw [Nat.max_eq_left (by omega), Nat.min_eq_right (by omega)] at h1
            rw [hcl m i d1 h1] at hD; cases hD
        rw [if_neg hne]
        exact ih (by omega)
  exact high _ hi
theorem lat_add {D' : Nat → Bool} {i : Nat} {o : Oper} (hD1 : D' i = true) (hD2 : ∀ j, j ≠ i → D' j = D j) (ho : ops[i]? = some o) (hD : D i = false) (hcl : ∀ x y, D x = true → isB (bl ops) x y = true → D y = true)
    (ht : Region.temporariesOk ops (Region.before ops) = true) (t : Tmp) :
    lat ops vs e0 D' t ops.size = if o.dst = some t ∧ t < e0.n then vs.getD i .undef else lat ops vs e0 D t ops.size := by
  have hlt : i < ops.size := (Array.getElem?_eq_some_iff.1 ho).1
  have low : ∀ m, m ≤ i → lat ops vs e0 D' t m = lat ops vs e0 D t m := by
    intro m
    induction m with
    | zero => intro _; rfl
    | succ m ih =>
      intro hm
      simp only [lat]
      rw [hD2 m (by omega), ih (by omega)]
  have high : ∀ m, i < m → lat ops vs e0 D' t m = if o.dst = some t ∧ t < e0.n then vs.getD i .undef else lat ops vs e0 D t m := by
    intro m
    induction m with
    | zero => intro h; omega
    | succ m ih =>
      intro hm
      simp only [lat]
      by_cases hmi : m = i
      · subst hmi
        rw [low m (Nat.le_refl _), ho, hD, hD1]
        simp
      · rw [hD2 m hmi, ih (by omega)]
        by_cases hw : D m = true ∧ (ops[m]?).bind (·.dst) = some t ∧ t < e0.n
        · rw [if_pos hw, if_pos hw]
          have hne : ¬ (o.dst = some t ∧ t < e0.n) := by
            rintro ⟨hd, -⟩
            obtain ⟨d1, d2, -⟩ := hw
            cases hom : ops[m]? with
            | none => rw [hom] at d2; cases d2
            | some o' =>
              rw [hom] at d2
              have hn : t ∈ names o := by simp [names, hd]
              have h1 := temps_ordered ht hom ho d2 hn hmi
              rw [Nat.max_eq_left (by omega), Nat.min_eq_right (by omega)] at h1
              rw [hcl m i d1 h1] at hD; cases hD
          rw [if_neg hne]
        · rw [if_neg hw, if_neg hw]
  exact high _ hlt
end
theorem addAll_next (l : List Pend) : ∀ h : Hp, (addAll h l).next = h.next := by
  induction l with
  | nil => intro h; rfl
  | cons p l ih => intro h; rw [addAll, ih]; rfl
theorem addAll_not {j : Nat} : ∀ (l : List Pend) (h : Hp), (∀ p ∈ l, p.id ≠ j) → (addAll h l).get j = h.get j
  | [], h, _ => rfl
  | p :: l, h, hn => by
    rw [addAll, addAll_not l _ (fun q hq => hn q (by simp [hq])), Hp.get_put, if_neg (fun e => hn p (by simp) e.symm)]
theorem addAll_mem : ∀ (l : List Pend) (h : Hp), l.Pairwise (fun p q => p.id ≠ q.id) → ∀ p ∈ l, (addAll h l).get p.id = some p.o
  | [], _, _, _, hp => by cases hp
  | q :: l, h, hpw, p, hp => by
    rw [List.pairwise_cons] at hpw
    rw [addAll]
    rcases List.mem_cons.1 hp with rfl | hp
    · rw [addAll_not l _ (fun r hr => (hpw.1 r hr).symm), Hp.get_put, if_pos rfl]
    · exact addAll_mem l _ hpw.2 p hp
theorem addAll_cases {l : List Pend} {h : Hp} (hpw : l.Pairwise (fun p q => p.id ≠ q.id)) (j : Nat) : (∃ p ∈ l, p.id = j ∧ (addAll h l).get j = some p.o) ∨ ((∀ p ∈ l, p.id ≠ j) ∧ (addAll h l).get j = h.get j) := by
  by_cases hx : ∃ p ∈ l, p.id = j
  · obtain ⟨p, hp, rfl⟩ := hx
    exact .inl ⟨p, hp, rfl, addAll_mem l h hpw p hp⟩
  · have hx : ∀ p ∈ l, p.id ≠ j := fun p hp e => hx ⟨p, hp, e⟩
    exact .inr ⟨hx, addAll_not l h hx⟩
theorem addAll_sub {l l' : List Pend} {h : Hp} (hpw : l.Pairwise (fun p q => p.id ≠ q.id)) (hpw' : l'.Pairwise (fun p q => p.id ≠ q.id)) (hs : ∀ p ∈ l, p ∈ l') (hn : ∀ p ∈ l', p ∉ l → h.get p.id = none) : (addAll h l).sub (addAll h l') := by
  refine ⟨by rw [addAll_next, addAll_next], ?_⟩
  intro j o hj
  rcases addAll_cases (h := h) hpw j with ⟨p, hp, rfl, e⟩ | ⟨hno, e⟩
  · rw [e] at hj; cases hj
    exact addAll_mem l' h hpw' p (hs p hp)
  · rw [e] at hj
    rcases addAll_cases (h := h) hpw' j with ⟨p, hp, rfl, e'⟩ | ⟨hno', e'⟩
    · have := hn p hp (fun hin => hno p hin rfl)
      rw [this] at hj; cases hj
    · rw [e']; exact hj
theorem StpN.extend {n : Nat} {φ φ' : Emb} {Hs Hb H' Hn : Hp} {w w' : World} (hw : WR φ Hb w) (hsub : Hs.sub Hb) (t : StpN n φ Hs w φ' H' w') (hn : Hn.next = H'.next)
    (hg : ∀ j o, Hn.get j = some o → (Hs.get j = none ∧ Hb.get j = some o ∧ o.ext = false) ∨ H'.get j = some o) : StpN n φ Hb w φ' Hn w' := by
  have hold : ∀ j o, Hs.get j = none → Hb.get j = some o → o.ext = false → ∃ p obj, φ j = some p ∧ φ' j = some p ∧ w.heap[p.b]? = some obj ∧ w'.heap[p.b]? = some obj ∧ OR φ o obj p ∧ ¬ Owns φ Hs p.b ∧ p.b < w.heap.size := by
    intro j o h1 h2 h3
    obtain ⟨p, obj, hp, hb, ho⟩ := hw.live j o h2
    have hlt := (Array.getElem?_eq_some_iff.1 hb).1
    have hno : ¬ Owns φ Hs p.b := by
      rintro ⟨i, oi, q, g1, g2, g3, g4⟩
      have hne : i ≠ j := by rintro rfl; rw [h1] at g1; cases g1
      exact hw.inj i j oi o q p (hsub.2 _ _ g1) h2 hne g3 hp (.inl g2) g4
    exact ⟨p, obj, hp, t.emb _ _ hp, hb, (t.frame _ hlt hno).trans hb, ho, hno, hlt⟩
  refine ⟨t.emb, ⟨?_, ?_, fun i hi => t.wr.fresh i (by rw [← hn]; exact hi)⟩, t.size, fun b hb hno => t.frame b hb (fun h => hno (h.sub hsub)), ?_, t.os, t.tape, t.output, ?_, t.old, ?_, ?_⟩
  · intro j o hj
    rcases hg j o hj with ⟨h1, h2, h3⟩ | h1
    · obtain ⟨p, obj, -, hp', -, hb', ho, -, -⟩ := hold j o h1 h2 h3
      exact ⟨p, obj, hp', hb', ho.mono t.emb⟩
    · exact t.wr.live j o h1
  · intro i j oi oj p q hi hj hne hp hq hx
    have mixed : ∀ i j oi oj p q, Hs.get i = none → Hb.get i = some oi → oi.ext = false → H'.get j = some oj → i ≠ j → φ' i = some p → φ' j = some q → p.b ≠ q.b := by
      intro i j oi oj p q h1 h2 h3 h4 hne hp hq
      obtain ⟨p0, obj, hp0, hp', hb, -, -, hno, hlt⟩ := hold i oi h1 h2 h3
      rw [hp'] at hp; cases hp
      cases hext : oj.ext with
      | true =>
        have hsj := t.ext j oj h4 hext
        obtain ⟨q0, obj', hq0, -, -⟩ := hw.live j oj (hsub.2 _ _ hsj)
        have := t.emb _ _ hq0
        rw [hq] at this; cases this
        exact hw.inj i j oi oj p q h2 (hsub.2 _ _ hsj) hne hp0 hq0 (.inl h3)
      | false =>
        intro e
        rcases t.own q.b ⟨j, oj, q, h4, hext, hq, rfl⟩ with h5 | h5
        · exact hno (by rw [e]; exact h5)
        · omega
    rcases hg i oi hi with ⟨h1, h2, h3⟩ | h1
    · rcases hg j oj hj with ⟨g1, g2, g3⟩ | g1
      · obtain ⟨p0, -, hp0, hp', -⟩ := hold i oi h1 h2 h3
        obtain ⟨q0, -, hq0, hq', -⟩ := hold j oj g1 g2 g3
        rw [hp'] at hp; cases hp
        rw [hq'] at hq; cases hq
        exact hw.inj i j oi oj p q h2 g2 hne hp0 hq0 hx
      · exact mixed i j oi oj p q h1 h2 h3 g1 hne hp hq
    · rcases hg j oj hj with ⟨g1, g2, g3⟩ | g1
      · exact (mixed j i oj oi q p g1 g2 g3 h1 (Ne.symm hne) hq hp).symm
      · exact t.wr.inj i j oi oj p q h1 g1 hne hp hq hx
  · rintro b ⟨j, o, p, h1, h2, h3, h4⟩
    rcases hg j o h1 with ⟨g1, g2, g3⟩ | g1
    · obtain ⟨p0, -, hp0, hp', -⟩ := hold j o g1 g2 g3
      rw [hp'] at h3; cases h3
      exact .inl ⟨j, o, p, g2, h2, hp0, h4⟩
    · rcases t.own b ⟨j, o, p, g1, h2, h3, h4⟩ with h5 | h5
      · exact .inl (h5.sub hsub)
      · exact .inr h5
  · rw [hn, ← hsub.1]; exact t.next
  · intro i o hi ho
    rcases hg i o ho with ⟨g1, g2, g3⟩ | g1
    · exact ⟨o, g2⟩
    · obtain ⟨o', ho'⟩ := t.dom i o hi g1
      exact ⟨o', hsub.2 _ _ ho'⟩
  · intro i o ho hx
    rcases hg i o ho with ⟨g1, g2, g3⟩ | g1
    · rw [g3] at hx; cases hx
    · exact hsub.2 _ _ (t.ext i o g1 hx)
end Go.Ev
end
section
namespace Go.Ev
variable {P : Program} {F : Fns} {ops : Array Oper} {n0 : Nat} {cf : Course} {vs : List V} {e0 : Env}
structure Ctx (P : Program) (F : Fns) (ops : Array Oper) (n0 : Nat) (cf : Course) (vs : List V) (e0 : Env) : Prop where
  temps : Region.temporariesOk ops (Region.before ops) = true
  edges : edgesOk ops.toList = true
  guards : guardsOk ops.toList (bl ops) = true
  facts : ∀ k o, ops[k]? = some o → Fact P F (bl ops) n0 ops.toList cf k o (envAt ops vs e0 k) (vs.getD k .undef)
  pids : ∀ p ∈ cf.pd, p.id = n0 + p.i ∧ p.i < ops.size
  ppw : cf.pd.Pairwise (fun p q => p.i ≠ q.i)
  ws : ∀ w ∈ cf.ws, w < ops.size
  chain : cf.ws.Pairwise (fun j i => isB (bl ops) j i = true)
  looks : ∀ r ∈ cf.rs, looks P (bl ops) cf.pd r cf.ws cf.hs = true
def laid (ops : Array Oper) (cf : Course) (D : Nat → Bool) (done : List Nat) : List Pend := cf.pd.filter fun p => and (D p.i) (not (inHeap (bl ops) done p))
theorem mem_laid {D : Nat → Bool} {done : List Nat} {p : Pend} : p ∈ laid ops cf D done ↔ p ∈ cf.pd ∧ D p.i = true ∧ inHeap (bl ops) done p = false := by
  unfold laid
  rw [List.mem_filter, Bool.and_eq_true, Bool.not_eq_true']
theorem mem_wants {i : Nat} {done : List Nat} {p : Pend} : p ∈ cf.pd.filter (wants (bl ops) i done) ↔ p ∈ cf.pd ∧ isB (bl ops) i p.i = true ∧ inHeap (bl ops) done p = false := by
  rw [List.mem_filter]
  unfold wants
  rw [Bool.and_eq_true, Bool.not_eq_true']
structure DInv (ops : Array Oper) (n0 : Nat) (cf : Course) (vs : List V) (e0 : Env) (φ0 : Emb) (h0 : Hp) (w0 : World) (D : Nat → Bool) (φ : Emb) (a : Act) (w : World) : Prop where
  closed : ∀ x y, D x = true → isB (bl ops) x y = true → D y = true
  env : ∃ envD, ER φ envD a ∧ envD.n = e0.n ∧ ∀ t, envD.get t = lat ops vs e0 D t ops.size
  res : ∀ j, j < ops.size → D j = false → φ (n0 + j) = none
  heap : ∃ later done hl H hr, cf.ws = later ++ done ∧ cf.hs = hl ++ H :: hr ∧ hl.length = later.length ∧ (∀ x ∈ done, D x = true) ∧ (∀ x ∈ later, D x = false) ∧ n0 + ops.size ≤ H.next ∧
    (∀ p ∈ cf.pd, inHeap (bl ops) done p = false → H.get p.id = none) ∧ StpN n0 φ0 h0 w0 φ (addAll H (laid ops cf D done)) w
theorem Ctx.idpw (C : Ctx P F ops n0 cf vs e0) (f : Pend → Bool) : (cf.pd.filter f).Pairwise (fun p q => p.id ≠ q.id) := by
  have h1 : cf.pd.Pairwise (fun p q => p.id ≠ q.id) := by
    have := C.ppw
    rw [List.pairwise_iff_getElem] at this ⊢
    intro i j hi hj hij
    have h2 := this i j hi hj hij
    rw [(C.pids _ (List.getElem_mem hi)).1, (C.pids _ (List.getElem_mem hj)).1]
    omega
  exact h1.sublist List.filter_sublist
theorem pair_uniq {l : List Pend} (hpw : l.Pairwise (fun p q => p.i ≠ q.i)) {p q : Pend} (hp : p ∈ l) (hq : q ∈ l) (he : p.i = q.i) : p = q := by
  induction l with
  | nil => cases hp
  | cons x l ih =>
    rw [List.pairwise_cons] at hpw
    rcases List.mem_cons.1 hp with e1 | hp'
    · rcases List.mem_cons.1 hq with e2 | hq'
      · rw [e1, e2]
      · exact absurd he (by rw [e1]; exact hpw.1 q hq')
    · rcases List.mem_cons.1 hq with e2 | hq'
      · exact absurd he.symm (by rw [e2]; exact hpw.1 p hp')
      · exact ih hpw.2 hp' hq'
theorem evAlloc_ext {env : Env} {id : Nat} {o : Oper} {v : V} {lo : LO} (e : evAlloc P env id o = some (v, lo)) : lo.ext = false := by
  unfold evAlloc evAllocOp at e
  split at e
  · unfold alZero at e
    split at e
    · cases e; rfl
    · cases e
  · unfold alBox at e
    split at e
    · split at e
      · cases e; rfl
      · cases e
    · cases e
  · unfold alBuild at e
    split at e
    · unfold buildSliceV at e
      split at e
      · split at e
        · rw [br_some] at e
          obtain ⟨-, e⟩ := e
          split at e
          · cases e; rfl
          · cases e
        · cases e
      · cases e
    · cases e
  · unfold alMap at e
    split at e
    · cases e; rfl
    · cases e; rfl
    · cases e
  · unfold alSlice at e
    split at e
    · unfold makeSliceV at e
      split at e
      · split at e
        · rw [br_some] at e
          obtain ⟨-, e⟩ := e
          cases e; rfl
        · cases e
      · cases e
    · cases e
  · cases e
theorem Ctx.pext (C : Ctx P F ops n0 cf vs e0) {p : Pend} (hp : p ∈ cf.pd) : p.o.ext = false := by
  obtain ⟨h1, h2⟩ := C.pids p hp
  have ho : ops[p.i]? = some ops[p.i] := Array.getElem?_eq_getElem h2
  have hf := C.facts p.i _ ho
  generalize vs.getD p.i .undef = v at hf
  cases hf with
  | U _ _ hn => exact absurd rfl (hn p hp)
  | R _ _ hn => exact absurd rfl (hn p hp)
  | A _ _ ha hm =>
    have := pair_uniq C.ppw hp hm rfl
    rw [this]; exact evAlloc_ext ha
  | W _ hn => exact absurd rfl (hn p hp)
theorem split_uniq {D : Nat → Bool} : ∀ {l1 d1 l2 d2 : List Nat}, l1 ++ d1 = l2 ++ d2 → (∀ x ∈ l1, D x = false) → (∀ x ∈ d1, D x = true) → (∀ x ∈ l2, D x = false) → (∀ x ∈ d2, D x = true) → l1 = l2 ∧ d1 = d2
  | [], d1, [], d2, e, _, _, _, _ => ⟨rfl, e⟩
  | [], d1, y :: l2, d2, e, _, h2, h3, _ => by
    rw [List.nil_append, List.cons_append] at e
    have := h2 y (by rw [e]; simp)
    rw [h3 y (by simp)] at this; cases this
  | x :: l1, d1, [], d2, e, h1, _, _, h4 => by
    rw [List.nil_append, List.cons_append] at e
    have := h4 x (by rw [← e]; simp)
    rw [h1 x (by simp)] at this; cases this
  | x :: l1, d1, y :: l2, d2, e, h1, h2, h3, h4 => by
    simp only [List.cons_append, List.cons.injEq] at e
    obtain ⟨k1, k2⟩ := split_uniq e.2 (fun z hz => h1 z (by simp [hz])) h2 (fun z hz => h3 z (by simp [hz])) h4
    exact ⟨by rw [e.1, k1], k2⟩
theorem looks_at {b : List Nat} {pd : List Pend} {r : Rec} {H : Hp} {hr : List Hp} : ∀ (later done : List Nat) (hl : List Hp), hl.length = later.length → looks P b pd r (later ++ done) (hl ++ H :: hr) = true → (∀ x ∈ later, isB b r.i x = false) → (∀ x ∈ done, isB b x r.i = false) →
    look1 P b pd r done H = true
  | [], done, hl, hlen, e, _, h2 => by
    have : hl = [] := List.eq_nil_of_length_eq_zero hlen
    subst this
    cases done with
    | nil => exact e
    | cons x done =>
      simp only [List.nil_append, looks, Bool.and_eq_true] at e
      have hany : (x :: done).any (fun y => isB b y r.i) = false := by
        rw [List.any_eq_false]
        intro y hy
        rw [h2 y hy]; simp
      rw [hany, br_false] at e
      exact e.1
  | x :: later, done, [], hlen, _, _, _ => by simp at hlen
  | x :: later, done, h :: hl, hlen, e, h1, h2 => by
    simp only [List.cons_append, looks, Bool.and_eq_true] at e
    have := e.2
    rw [h1 x (by simp), br_false] at this
    exact looks_at later done hl (by simpa using hlen) this (fun y hy => h1 y (by simp [hy])) h2
theorem chain_pairwise (he : edgesOk ops.toList = true) : ∀ l : List Nat, chain (bl ops) l = true → l.Pairwise (fun j i => isB (bl ops) j i = true)
  | [], _ => .nil
  | j :: l, h => by
    simp only [chain, Bool.and_eq_true] at h
    have ih := chain_pairwise he l h.2
    rw [List.pairwise_cons]
    refine ⟨?_, ih⟩
    cases l with
    | nil => intro x hx; cases hx
    | cons i l =>
      have h1 := h.1
      intro x hx
      rcases List.mem_cons.1 hx with rfl | hx
      · exact h1
      · rw [List.pairwise_cons] at ih
        exact isB_trans he j i x h1 (ih.1 x hx)
theorem Ctx.guard_ordered (C : Ctx P F ops n0 cf vs e0) {i : Nat} {o : Oper} (ho : ops[i]? = some o) {j : Nat} {want : Bool} (hg : o.guard = some (j, want)) {d : Tmp} (hd : (ops[j]?).bind (·.dst) = some d) :
    ∀ (m : Nat) (o' : Oper), ops[m]? = some o' → o'.dst = some d → m ≠ i → isB (bl ops) (max m i) (min m i) = true := by
  intro m o' hm hdm hne
  have h := C.guards
  unfold guardsOk at h
  rw [List.all_eq_true] at h
  have hmem : (o, i) ∈ ops.toList.zipIdx := by
    rw [List.mem_zipIdx_iff_getElem?]; simpa using ho
  have h1 := h _ hmem
  simp only [hg, Bool.and_eq_true] at h1
  have h2 := h1.2
  have hd' : (ops.toList[j]?).bind (·.dst) = some d := by rw [Array.getElem?_toList]; exact hd
  rw [hd'] at h2
  simp only [List.all_eq_true] at h2
  have hmem' : (o', m) ∈ ops.toList.zipIdx := by
    rw [List.mem_zipIdx_iff_getElem?]; simpa using hm
  have h3 := h2 _ hmem'
  simp only [hdm, bne_self_eq_false, Bool.false_or, Bool.or_eq_true, beq_iff_eq] at h3
  rcases h3 with h3 | h3
  · exact absurd h3 hne
  · exact h3
theorem inv_step (hF : FnsOk P F) (C : Ctx P F ops n0 cf vs e0) {φ0 : Emb} {h0 : Hp} {w0 : World} {D D' : Nat → Bool} {φ : Emb} {a : Act} {w : World} (I : DInv ops n0 cf vs e0 φ0 h0 w0 D φ a w) {i : Nat} {o : Oper} (ho : ops[i]? = some o) (hDi : D i = false)
    (hready : ∀ e ∈ o.after, Region.binds .any e = true → D e.on = true) (hD1 : D' i = true) (hD2 : ∀ j, j ≠ i → D' j = D j) (b : Frame) (k : List Item) (cs : List Frame) (rest : List Nat) :
    ∃ φ' a' w', DInv ops n0 cf vs e0 φ0 h0 w0 D' φ' a' w' ∧ a'.defers = a.defers ∧ Steps P (lone (b.atR a (.inRegion ops (i :: rest) :: k)) cs w) (lone (b.atR a' (.inRegion ops rest :: k)) cs w') := by
  have hlt : i < ops.size := (Array.getElem?_eq_some_iff.1 ho).1
  have hB : ∀ j, isB (bl ops) i j = true → D j = true := by
    intro j hj
    obtain ⟨e, hm, hb, h⟩ := (isB_spec C.edges ho j).1 hj
    rcases h with rfl | h
    · exact hready e hm hb
    · exact I.closed _ _ (hready e hm hb) h
  have hcl' : ∀ x y, D' x = true → isB (bl ops) x y = true → D' y = true := by
    intro x y hx hxy
    by_cases hxi : x = i
    · subst hxi
      have := isB_lt C.edges _ _ hxy
      rw [hD2 y (by omega)]; exact hB y hxy
    · rw [hD2 x hxi] at hx
      have := I.closed x y hx hxy
      by_cases hyi : y = i
      · rw [hyi, hDi] at this; cases this
      · rw [hD2 y hyi]; exact this
  obtain ⟨envD, hE, hEn, hEg⟩ := I.env
  have hsame : ∀ t, (∀ (m : Nat) (o' : Oper), ops[m]? = some o' → o'.dst = some t → m ≠ i → isB (bl ops) (max m i) (min m i) = true) → envD.get t = (envAt ops vs e0 i).get t := by
    intro t hord
    rw [hEg, envAt_get]
    exact lat_ready hDi hB I.closed hord (Nat.le_of_lt hlt)
  have hops : ∀ x ∈ o.op.operands.toList, ρ (envAt ops vs e0 i) x = ρ envD x := by
    intro x hx
    cases x with
    | tmp t =>
      simp only [ρ]
      rw [hsame t]
      intro m o' hm hdm hne
      refine temps_ordered C.temps hm ho hdm ?_ hne
      unfold names
      rw [List.mem_append]
      exact .inr (List.mem_filterMap.2 ⟨.tmp t, hx, rfl⟩)
    | const v => rfl
    | global g => rfl
    | func f => rfl
  have hwanted : Region.wanted o (yielded ops a.tmps) = wantedV ops.toList (envAt ops vs e0 i) o := by
    rw [wanted_rel hE ops o]
    unfold wantedV
    cases hg : o.guard with
    | none => rfl
    | some jw =>
      obtain ⟨j, want⟩ := jw
      simp only
      have : yieldedV ops.toList envD j = yieldedV ops.toList (envAt ops vs e0 i) j := by
        unfold yieldedV
        cases hd : (ops.toList[j]?).bind (·.dst) with
        | none => rfl
        | some d =>
          simp only
          rw [hsame d (C.guard_ordered ho hg (by rw [← Array.getElem?_toList]; exact hd))]
      rw [this]
  have henv : ∀ {φ' : Emb} {v : V} {pv : Value}, vs.getD i .undef = v → φ.le φ' → VR φ' v pv → ∃ env', ER φ' env' (a.put o.dst pv) ∧ env'.n = e0.n ∧ ∀ t, env'.get t = lat ops vs e0 D' t ops.size := by
    intro φ' v pv hv hle hr
    refine ⟨put envD o.dst v, (hE.mono hle).put o.dst hr, by rw [put_n, hEn], fun t => ?_⟩
    rw [put_get, hEn, hEg, lat_add hD1 hD2 ho hDi I.closed C.temps t, hv]
  obtain ⟨later, done, hl, H, hr, e1, e2, e3, e4, e5, e6, e7, e8⟩ := I.heap
  have hDdone : ∀ x ∈ done, D' x = true := fun x hx => by
    have := e4 x hx
    by_cases hxi : x = i
    · rw [hxi]; exact hD1
    · rw [hD2 x hxi]; exact this
  have hres' : ∀ j, j < ops.size → D' j = false → D j = false ∧ j ≠ i := by
    intro j _ hj
    by_cases hji : j = i
    · rw [hji, hD1] at hj; cases hj
    · rw [hD2 j hji] at hj; exact ⟨hj, hji⟩
  have quiet : i ∉ cf.ws → (∀ p ∈ cf.pd, p.i ≠ i) → ∀ pv, VR φ (vs.getD i .undef) pv → DInv ops n0 cf vs e0 φ0 h0 w0 D' φ (a.put o.dst pv) w := by
    intro hn hp pv hv
    have hlaid : laid ops cf D' done = laid ops cf D done := by
      unfold laid
      refine List.filter_congr ?_
      intro p hpm
      rw [hD2 p.i (hp p hpm)]
    refine ⟨hcl', henv rfl (Emb.le_refl φ) hv, fun j hj hdj => I.res j hj (hres' j hj hdj).1, later, done, hl, H, hr, e1, e2, e3, hDdone, ?_, e6, e7, by rw [hlaid]; exact e8⟩
    intro x hx
    rw [hD2 x (fun e => hn (by rw [e1, ← e]; simp [hx]))]
    exact e5 x hx
  have hf := C.facts i o ho
  generalize hv : vs.getD i .undef = v at hf
  cases hf with
  | U hw hn hp =>
    refine ⟨φ, a.put o.dst undef, w, quiet hn hp undef (by rw [hv]; exact .undef), put_defers _ _ _, .one (stepR_notwanted ho (by rw [hwanted]; exact hw))⟩
  | R hw hn hp hvv hm =>
    have hlk := looks_at later done hl e3 (by rw [← e1, ← e2]; exact C.looks _ hm) (fun x hx => by
      cases hb : isB (bl ops) i x with
      | false => rfl
      | true => have := hB x hb; rw [e5 x hx] at this; cases this) (fun x hx => by
      cases hb : isB (bl ops) x i with
      | false => rfl
      | true => rw [I.closed x i (e4 x hx) hb] at hDi; cases hDi)
    unfold look1 at hlk
    simp only at hlk
    split at hlk
    · rename_i v' hv'
      have := V.same_eq 20 _ _ hlk
      subst this
      rw [evRead_congr hops] at hv'
      have hsub : (addAll H (cf.pd.filter (wants (bl ops) i done))).sub (addAll H (laid ops cf D done)) := by
        refine addAll_sub (C.idpw _) (C.idpw _) ?_ ?_
        · intro p hp'
          obtain ⟨q1, q2, q3⟩ := mem_wants.1 hp'
          exact mem_laid.2 ⟨q1, hB _ q2, q3⟩
        · intro p hp' _
          obtain ⟨q1, q2, q3⟩ := mem_laid.1 hp'
          exact e7 p q1 q3
      obtain ⟨pv, h1, h2⟩ := evRead_rel (P := P) (e8.wr.sub hsub) hE hv'
      refine ⟨φ, a.put o.dst pv, w, quiet hn hp pv (by rw [hv]; exact h2), put_defers _ _ _, .one (stepR_value ho (by rw [hwanted]; exact hw) ?_)⟩
      rw [Oper.semAt_eq _ _ _ (isRead_of hv')]; exact h1
    · cases hlk
  | A hw hn ha hm =>
    rename_i lo
    rw [evAlloc_congr hops] at ha
    obtain ⟨obj, sz, pv, h1, h2, h3⟩ := evAlloc_rel (P := P) hE ha w
    have hf := I.res i hlt hDi
    have hle := Emb.le_upd ⟨w.heap.size, 0, sz⟩ hf
    obtain ⟨hv', ho'⟩ := h3 _ hle (Emb.upd_self _ _ _)
    have hid : ∀ p ∈ cf.pd, p.id = n0 + i → p = ⟨i, n0 + i, lo⟩ := by
      intro p hp he
      refine pair_uniq C.ppw hp hm ?_
      have := (C.pids p hp).1
      simp only; omega
    have hnd : inHeap (bl ops) done ⟨i, n0 + i, lo⟩ = false := by
      unfold inHeap
      rw [List.any_eq_false]
      intro x hx hb
      rw [I.closed x i (e4 x hx) hb] at hDi; cases hDi
    have hget : ∀ j, (addAll H (laid ops cf D' done)).get j = if j = n0 + i then some lo else (addAll H (laid ops cf D done)).get j := by
      intro j
      by_cases hj : j = n0 + i
      · rw [if_pos hj, hj]
        exact addAll_mem (laid ops cf D' done) H (C.idpw _) ⟨i, n0 + i, lo⟩ (mem_laid.2 ⟨hm, hD1, hnd⟩)
      · rw [if_neg hj]
        have hmem : ∀ p, p.id = j → (p ∈ laid ops cf D' done ↔ p ∈ laid ops cf D done) := by
          intro p hpj
          rw [mem_laid, mem_laid]
          constructor
          · rintro ⟨q1, q2, q3⟩
            have : p.i ≠ i := fun e => hj (by rw [← hpj, (C.pids p q1).1, e])
            rw [hD2 _ this] at q2
            exact ⟨q1, q2, q3⟩
          · rintro ⟨q1, q2, q3⟩
            have : p.i ≠ i := fun e => hj (by rw [← hpj, (C.pids p q1).1, e])
            exact ⟨q1, by rw [hD2 _ this]; exact q2, q3⟩
        rcases addAll_cases (h := H) (C.idpw (fun p => and (D' p.i) (not (inHeap (bl ops) done p)))) j with ⟨p, hp, hpj, e⟩ | ⟨hno, e⟩
        · have := addAll_mem (laid ops cf D done) H (C.idpw _) p ((hmem p hpj).1 hp)
          rw [hpj] at this
          exact e.trans this.symm
        · refine e.trans (addAll_not (laid ops cf D done) H ?_).symm
          intro p hp hpj
          exact hno p ((hmem p hpj).2 hp) hpj
    have hst : StpN n0 φ (addAll H (laid ops cf D done)) w (φ.upd (n0 + i) ⟨w.heap.size, 0, sz⟩) (addAll H (laid ops cf D' done)) { w with heap := w.heap.push obj } := by
      refine StpN.fresh (lo := lo) (obj := obj) (o := 0) (sz := sz) (w' := { w with heap := w.heap.push obj }) e8.wr (Nat.le_add_right _ _) h2 hf ?_ ?_ hget ho' rfl rfl rfl rfl
      · rw [addAll_next]; omega
      · rw [addAll_next, addAll_next]; exact Nat.le_refl _
    refine ⟨_, a.put o.dst pv, { w with heap := w.heap.push obj }, ⟨hcl', henv hv hle hv', ?_, later, done, hl, H, hr, e1, e2, e3, hDdone, ?_, e6, e7, e8.trans hst⟩, put_defers _ _ _, .one (stepR_value ho (by rw [hwanted]; exact hw) ?_)⟩
    · intro j hj hdj
      obtain ⟨q1, q2⟩ := hres' j hj hdj
      rw [Emb.upd_ne φ _ (by omega)]
      exact I.res j hj q1
    · intro x hx
      rw [hD2 x (fun e => hn (by rw [e1, ← e]; simp [hx]))]
      exact e5 x hx
    · rw [Oper.semAt_eq _ _ _ (isAlloc_of ha)]; exact h1
  | @W _ hw hp l1 done2 hl1 hrest H' H2 f1 f2 f3 ha =>
    have hpw := C.chain
    rw [f1, List.pairwise_append] at hpw
    obtain ⟨-, hpw2, hpw3⟩ := hpw
    rw [List.pairwise_cons] at hpw2
    have hx := split_uniq (D := D) (l1 := l1 ++ [i]) (d1 := done2) (l2 := later) (d2 := done) (by rw [List.append_assoc, List.singleton_append, ← f1, e1]) (by
        intro x hx
        rcases List.mem_append.1 hx with hx | hx
        · cases hd : D x with
          | false => rfl
          | true =>
            have := I.closed x i hd (hpw3 x hx i (by simp))
            rw [hDi] at this; cases this
        · rw [List.mem_singleton] at hx; rw [hx]; exact hDi) (fun x hx => hB x (hpw2.1 x hx)) e5 e4
    obtain ⟨hx1, hx2⟩ := hx
    subst hx2
    have hhs := List.append_inj (s₁ := hl1 ++ [H']) (s₂ := hl) (t₁ := H2 :: hrest) (t₂ := H :: hr) (by rw [List.append_assoc, List.singleton_append, ← f2, e2]) (by rw [e3, ← hx1]; simp [f3])
    obtain ⟨hh1, hh2⟩ := hhs
    simp only [List.cons.injEq] at hh2
    obtain ⟨rfl, rfl⟩ := hh2
    rw [evAct_congr hops] at ha
    have hsub : (addAll H2 (cf.pd.filter (wants (bl ops) i done2))).sub (addAll H2 (laid ops cf D done2)) := by
      refine addAll_sub (C.idpw _) (C.idpw _) ?_ ?_
      · intro p hp'
        obtain ⟨q1, q2, q3⟩ := mem_wants.1 hp'
        exact mem_laid.2 ⟨q1, hB _ q2, q3⟩
      · intro p hp' _
        obtain ⟨q1, q2, q3⟩ := mem_laid.1 hp'
        exact e7 p q1 q3
    have hA := evAct_rel hF (e8.wr.sub hsub) hE ha
    have hsem := semAt_of o ha (by simp) b.roundOf
    obtain ⟨φ', w', pv, s1, s2, s3⟩ := act_steps (b := b) (k := k) (cs := cs) (rest := rest) hA (e8.wr.sub hsub) (hsem _) ho (by rw [hwanted]; exact hw)
    have hnx : (addAll H2 (cf.pd.filter (wants (bl ops) i done2))).next = H2.next := addAll_next _ _
    have hsnone : ∀ p ∈ cf.pd, inHeap (bl ops) (i :: done2) p = false → (addAll H2 (cf.pd.filter (wants (bl ops) i done2))).get p.id = none := by
      intro p hpm hin
      unfold inHeap at hin
      rw [List.any_cons, Bool.or_eq_false_iff] at hin
      rw [addAll_not _ _ ?_]
      · exact e7 p hpm hin.2
      · intro q hq hqe
        obtain ⟨q1, q2, q3⟩ := mem_wants.1 hq
        have : q = p := pair_uniq C.ppw q1 hpm (by have := (C.pids q q1).1; have := (C.pids p hpm).1; omega)
        subst this
        rw [hin.1] at q2
        cases q2
    have hext : StpN n0 φ (addAll H2 (laid ops cf D done2)) w φ' (addAll H' (laid ops cf D' (i :: done2))) w' := by
      refine StpN.extend e8.wr hsub (s1.less (by rw [hnx]; omega)) (addAll_next _ _) ?_
      intro j oj hj
      rcases addAll_cases (h := H') (C.idpw (fun p => and (D' p.i) (not (inHeap (bl ops) (i :: done2) p)))) j with ⟨p, hpm, hpj, e⟩ | ⟨hno, e⟩
      · have e := e
        rw [show (addAll H' (laid ops cf D' (i :: done2))).get j = some p.o from e] at hj
        cases hj
        obtain ⟨q1, q2, q3⟩ := mem_laid.1 hpm
        left
        refine ⟨?_, ?_, C.pext q1⟩
        · rw [← hpj]; exact hsnone p q1 q3
        · rw [← hpj]
          refine addAll_mem (laid ops cf D done2) H2 (C.idpw _) p (mem_laid.2 ?_)
          refine ⟨q1, by rw [← hD2 _ (hp p q1)]; exact q2, ?_⟩
          unfold inHeap at q3 ⊢
          rw [List.any_cons, Bool.or_eq_false_iff] at q3
          exact q3.2
      · right
        rw [show (addAll H' (laid ops cf D' (i :: done2))).get j = H'.get j from e] at hj
        exact hj
    refine ⟨φ', a.put o.dst pv, w', ⟨hcl', henv hv s1.emb s2, ?_, l1, i :: done2, hl1, H', H2 :: hrest, f1, f2, f3, ?_, ?_, ?_, ?_, e8.trans hext⟩, put_defers _ _ _, s3⟩
    · intro j hj hdj
      obtain ⟨q1, q2⟩ := hres' j hj hdj
      rw [s1.old _ (by rw [hnx]; omega)]
      exact I.res j hj q1
    · intro x hx
      rcases List.mem_cons.1 hx with rfl | hx
      · exact hD1
      · exact hDdone x hx
    · intro x hx
      have hxl := e5 x (by rw [← hx1]; simp [hx])
      have hxi : x ≠ i := by
        rintro rfl
        have := isB_lt C.edges _ _ (hpw3 x hx x (by simp))
        omega
      rw [hD2 x hxi]; exact hxl
    · have := s1.next
      rw [hnx] at this
      omega
    · intro p hpm hin
      cases hg : H'.get p.id with
      | none => rfl
      | some og =>
        have hpid := (C.pids p hpm)
        obtain ⟨o', ho'⟩ := s1.dom p.id og (by rw [hnx, hpid.1]; omega) hg
        rw [hsnone p hpm hin] at ho'
        cases ho'
end Go.Ev
end
section
namespace Go.Ev
variable {P : Program} {F : Fns} {ops : Array Oper} {n0 : Nat} {cf : Course} {vs : List V} {e0 : Env}
theorem count_set : ∀ (l : List Bool) (i : Nat), l[i]? = some false → (l.set i true).count false + 1 = l.count false
  | [], i, h => by simp at h
  | b :: l, 0, h => by
    simp only [List.getElem?_cons_zero, Option.some.injEq] at h
    subst h
    simp
  | b :: l, i + 1, h => by
    simp only [List.getElem?_cons_succ] at h
    have := count_set l i h
    simp only [List.set_cons_succ, List.count_cons]
    omega
theorem least {p : Nat → Prop} : ∀ n, p n → ∃ j, p j ∧ ∀ m, m < j → ¬ p m := by
  intro n
  induction n using Nat.strongRecOn with
  | _ n ih =>
    intro hn
    by_cases hx : ∃ m, m < n ∧ p m
    · obtain ⟨m, hm, hp⟩ := hx
      exact ih m hm hp
    · exact ⟨n, hn, fun m hm hp => hx ⟨m, hm, hp⟩⟩
theorem getD_false_of {listed : Array Bool} {i : Nat} (h : listed.getD i true = false) : listed[i]? = some false := by
  rw [Array.getD_eq_getD_getElem?] at h
  cases hx : listed[i]? with
  | none => rw [hx] at h; cases h
  | some b => rw [hx] at h; simp at h; rw [h]
theorem go_steps (hF : FnsOk P F) (C : Ctx P F ops n0 cf vs e0) {φ0 : Emb} {h0 : Hp} {w0 : World} (b : Frame) (k : List Item) (cs : List Frame) : ∀ (fuel t : Nat) (listed : Array Bool), listed.size = ops.size → listed.toList.count false = fuel →
    ∀ (φ : Emb) (a : Act) (w : World), DInv ops n0 cf vs e0 φ0 h0 w0 (fun j => listed.getD j false) φ a w →
    ∃ D φ' a' w', (∀ j, j < ops.size → D j = true) ∧ DInv ops n0 cf vs e0 φ0 h0 w0 D φ' a' w' ∧ a'.defers = a.defers ∧ Steps P (lone (b.atR a (.inRegion ops (Region.linearise.go .any ops fuel t listed []) :: k)) cs w) (lone (b.atR a' (.inRegion ops [] :: k)) cs w') := by
  intro fuel
  induction fuel with
  | zero =>
    intro t listed hsz hcnt φ a w I
    refine ⟨_, φ, a, w, ?_, I, rfl, ?_⟩
    · intro j hj
      have hl : j < listed.size := by omega
      have hne : listed[j]? ≠ some false := by
        intro he
        have hmem : false ∈ listed.toList := List.mem_of_getElem? (by rw [Array.getElem?_toList]; exact he)
        have := List.count_pos_iff.2 hmem
        omega
      rw [Array.getElem?_eq_getElem hl] at hne
      have : listed[j] = true := by
        cases hx : listed[j] with
        | true => rfl
        | false => rw [hx] at hne; exact absurd rfl hne
      simp [Array.getD_eq_getD_getElem?, hl, this]
    · simp only [Region.linearise.go, List.reverse_nil]
      exact Steps.refl P _
  | succ fuel ih =>
    intro t listed hsz hcnt φ a w I
    have hmem : false ∈ listed.toList := List.count_pos_iff.1 (by omega)
    obtain ⟨j0, hj0⟩ := List.mem_iff_getElem?.1 hmem
    rw [Array.getElem?_toList] at hj0
    obtain ⟨j, hj, hmin⟩ := least (p := fun j => listed[j]? = some false) j0 hj0
    have hjlt : j < ops.size := by
      have := (Array.getElem?_eq_some_iff.1 hj).1; omega
    have hready : j ∈ Region.ready .any ops listed := by
      rw [mem_ready]
      refine ⟨by rw [Array.getD_eq_getD_getElem?, hj]; rfl, ops[j], Array.getElem?_eq_getElem hjlt, ?_⟩
      intro e he hb
      have hlt := edges_of C.edges (Array.getElem?_eq_getElem hjlt) he hb
      have h1 := hmin _ hlt
      have h2 : e.on < listed.size := by omega
      rw [Array.getD_eq_getD_getElem?, Array.getElem?_eq_getElem h2]
      rw [Array.getElem?_eq_getElem h2] at h1
      cases hx : listed[e.on] with
      | true => rfl
      | false => rw [hx] at h1; exact absurd rfl h1
    have hsched : ∃ i ∈ Region.ready .any ops listed, Region.linearise.go .any ops (fuel + 1) t listed [] = i :: Region.linearise.go .any ops fuel (t / (Region.ready .any ops listed).length) (listed.setIfInBounds i true) [] := by
      simp only [Region.linearise.go]
      change ∃ i ∈ Region.ready .any ops listed, (match (Region.ready .any ops listed)[t % (Region.ready .any ops listed).length]? with
        | some i => Region.linearise.go .any ops fuel (t / (Region.ready .any ops listed).length) (listed.setIfInBounds i true) [i]
        | none => [].reverse) = _
      cases hi : (Region.ready .any ops listed)[t % (Region.ready .any ops listed).length]? with
      | none =>
        exfalso
        cases hr : Region.ready .any ops listed with
        | nil => rw [hr] at hready; cases hready
        | cons x xs =>
          rw [hr] at hi
          have hlt : t % (x :: xs).length < (x :: xs).length := Nat.mod_lt _ (by simp)
          simp at hi
          simp at hlt
          omega
      | some i =>
        refine ⟨i, List.mem_of_getElem? hi, ?_⟩
        simp only []
        rw [linearise_go_acc, List.reverse_singleton, List.singleton_append]
    obtain ⟨i, hir, hgo⟩ := hsched
    rw [hgo]
    obtain ⟨hil, o, ho, hedges⟩ := mem_ready.1 hir
    have hif := getD_false_of hil
    have hilt : i < listed.size := (Array.getElem?_eq_some_iff.1 hif).1
    obtain ⟨φ1, a1, w1, I1, hd1, hs1⟩ := inv_step hF C (D' := fun j => (listed.setIfInBounds i true).getD j false) I ho (by simp only [Array.getD_eq_getD_getElem?, hif]; rfl) hedges
      (by simp only [Array.getD_eq_getD_getElem?, Array.getElem?_setIfInBounds_self, hilt, if_true]; rfl) (fun j hj => getD_set_ne false (Ne.symm hj)) b k cs (Region.linearise.go .any ops fuel (t / (Region.ready .any ops listed).length) (listed.setIfInBounds i true) [])
    obtain ⟨D, φ2, a2, w2, hD, I2, hd2, hs2⟩ := ih (t / (Region.ready .any ops listed).length) (listed.setIfInBounds i true) (by simpa using hsz) (by
      rw [Array.toList_setIfInBounds]
      have := count_set listed.toList i (by rw [Array.getElem?_toList]; exact hif)
      omega) φ1 a1 w1 I1
    exact ⟨D, φ2, a2, w2, hD, I2, hd2.trans hd1, hs1.trans hs2⟩
theorem lat_none (t : Tmp) : ∀ m, lat ops vs e0 (fun j => (Array.replicate ops.size false).getD j false) t m = e0.get t
  | 0 => rfl
  | m + 1 => by
    simp only [lat]
    rw [if_neg, lat_none t m]
    rintro ⟨h, -⟩
    simp only [Array.getD_eq_getD_getElem?, Array.getElem?_replicate] at h
    split at h <;> cases h
theorem lat_all {D : Nat → Bool} (t : Tmp) : ∀ m, (∀ j, j < m → D j = true) → lat ops vs e0 D t m = lat ops vs e0 (fun _ => true) t m
  | 0, _ => rfl
  | m + 1, h => by
    simp only [lat]
    rw [h m (Nat.lt_succ_self m), lat_all t m (fun j hj => h j (Nat.lt_succ_of_lt hj))]
    simp only [true_and]
theorem draw_ok (hm : P.follows .mixedOrders = true) (hF : FnsOk P F) : DrawOk P F := by
  intro kd id ops st e st' hreg he φ b a c0 cs0 cs w hk hw hr k
  obtain ⟨env, ds, pm, h⟩ := st
  obtain ⟨htemps, hedges, hguards, hsel⟩ := hreg
  simp only [evRegionDraw] at he
  split at he
  · rename_i c hc
    obtain ⟨hE, vs, hvl, hfacts⟩ := drawOps_facts (n0 := h.next) (isB_lt hedges) ops.toList 0 _ c hc (by simp) (by simp)
    obtain ⟨hf1, hf2⟩ := Facts.at_ (VS := vs) (e0 := env) ops.toList 0 env vs hfacts rfl rfl rfl
    obtain ⟨lw, lh, lp, lr, x1, x2, x3, x4, x5, x6, x7, x8⟩ := hE.ex
    simp only [List.append_nil] at x1 x4 x5
    obtain ⟨cenv, ws, hs, pd, rs⟩ := c
    simp only at x1 x2 x4 x5 hf2
    simp only [drawEnd] at he
    split at he
    · rename_i H' hs'
      rw [br_some, Bool.and_eq_true] at he
      obtain ⟨⟨hch, hlk⟩, he⟩ := he
      simp only [Option.some.injEq, Prod.mk.injEq] at he
      obtain ⟨rfl, rfl⟩ := he
      have C : Ctx P F ops h.next ⟨cenv, ws, H' :: hs', pd, rs⟩ vs env := by
        refine ⟨htemps, hedges, hguards, fun k o ho => hf1 k o (Nat.zero_le _) ho, ?_, ?_, ?_, chain_pairwise hedges _ hch, ?_⟩
        · intro p hp
          simp only at hp
          rw [x4] at hp
          obtain ⟨y1, y2, y3⟩ := x7 p hp
          exact ⟨y3, by simpa using y2⟩
        · simp only; rw [x4]; exact x8
        · intro x hx
          simp only at hx
          rw [x1] at hx
          have := (x6 x hx).2
          simpa using this
        · rw [List.all_eq_true] at hlk
          exact hlk
      let w1 : World := { w with drawn := w.drawn + 1 }
      have hw1 : WR φ h w1 := hw.same (SameHeap.drew w)
      have hH0 : StpN h.next φ h w φ ⟨h.next + ops.size, h.tr⟩ w1 := by
        refine ⟨Emb.le_refl φ, ⟨hw1.live, hw1.inj, fun i hi => hw1.fresh i ?_⟩, Nat.le_refl _, fun _ _ _ => rfl, fun _ => .inl, rfl, rfl, rfl, Nat.le_add_right _ _, fun _ _ => rfl, fun _ o _ hi => ⟨o, hi⟩, fun _ _ hi _ => hi⟩
        have : h.next + ops.size ≤ i := hi
        omega
      have hlaid0 : laid ops ⟨cenv, ws, H' :: hs', pd, rs⟩ (fun j => (Array.replicate ops.size false).getD j false) [] = [] := by
        unfold laid
        rw [List.filter_eq_nil_iff]
        intro p _ hp
        rw [Bool.and_eq_true] at hp
        have := hp.1
        simp only [Array.getD_eq_getD_getElem?, Array.getElem?_replicate] at this
        split at this <;> cases this
      have I0 : DInv ops h.next ⟨cenv, ws, H' :: hs', pd, rs⟩ vs env φ h w (fun j => (Array.replicate ops.size false).getD j false) φ a w1 := by
        refine ⟨?_, ⟨env, hr.env, rfl, fun t => (lat_none t _).symm⟩, fun j _ _ => hw.fresh _ (Nat.le_add_right _ _), ws, [], lh, ⟨h.next + ops.size, h.tr⟩, [], by simp, x2, by rw [x3, x1], by simp, ?_, Nat.le_refl _, ?_, ?_⟩
        · intro x y hx
          simp only [Array.getD_eq_getD_getElem?, Array.getElem?_replicate] at hx
          split at hx <;> cases hx
        · intro x _
          simp only [Array.getD_eq_getD_getElem?, Array.getElem?_replicate]
          split <;> rfl
        · intro p hp _
          have hpid := (C.pids p hp).1
          cases hg : Hp.get ⟨h.next + ops.size, h.tr⟩ p.id with
          | none => rfl
          | some lo =>
            have hg' : h.get p.id = some lo := hg
            obtain ⟨q, obj, hq, -, -⟩ := hw.live _ _ hg'
            have := hw.fresh p.id (by show h.next ≤ p.id; omega)
            rw [this] at hq; cases hq
        · rw [hlaid0]; exact hH0
      obtain ⟨D, φ', a', w', hD, I, hd, hsteps⟩ := go_steps hF C b k cs ops.size (w.tape w.drawn (.order b.fn id)) (Array.replicate ops.size false) (by simp) (by simp) φ a w1 I0
      obtain ⟨later, done, hl, H, hr', e1, e2, e3, e4, e5, e6, e7, e8⟩ := I.heap
      have hlater : later = [] := by
        cases later with
        | nil => rfl
        | cons x l =>
          have h1 := e5 x (by simp)
          have h2 := C.ws x (by rw [e1]; simp)
          rw [hD x h2] at h1; cases h1
      subst hlater
      have hhl : hl = [] := List.eq_nil_of_length_eq_zero (by simpa using e3)
      subst hhl
      simp only [List.nil_append] at e1 e2
      simp only [List.cons.injEq] at e2
      obtain ⟨rfl, -⟩ := e2
      subst e1
      have hlaid : laid ops ⟨cenv, ws, H' :: hs', pd, rs⟩ D ws = pd.filter (fun p => not (inHeap (bl ops) ws p)) := by
        unfold laid
        refine List.filter_congr ?_
        intro p hp
        rw [hD p.i (C.pids p hp).2]; rfl
      rw [hlaid] at e8
      obtain ⟨envD, hE', hEn, hEg⟩ := I.env
      have hcenv := hf2 (Nat.zero_le _)
      refine ⟨φ', a', cs, w', e8, ⟨⟨?_, fun t => ?_⟩, by rw [hd]; exact hr.ds.mono e8.emb, hr.cs.mono e8.emb⟩, ?_⟩
      · show cenv.n = a'.tmps.size
        rw [hcenv, envAt_n, ← hEn]; exact hE'.n
      · have : cenv.get t = envD.get t := by
          rw [hcenv, envAt_get, hEg, lat_all t _ hD]
        show VR φ' (cenv.get t) _
        rw [this]; exact hE'.get t
      · refine Steps.head (stepR_region_draw (P := P)) ?_
        have hsch : Region.schedule (P.follows .mixedOrders) ops (w.tape w.drawn (.order b.fn id)) = Region.linearise.go .any ops ops.size (w.tape w.drawn (.order b.fn id)) (Array.replicate ops.size false) [] := by
          simp only [Region.schedule, hm, Bool.true_or, if_true, Region.linearise]
        rw [hsch]
        exact hsteps.trans (.one stepR_region_end)
    · cases he
  · cases he
theorem fns_sound {sm : Sums} (hP : ProgOk P) (hS : SumsOk P sm) (n : Nat) : FnsOk P (fns P sm n) := fns_ok hP hS (fun _ hF => draw_ok hP.any hF) n
end Go.Ev
end
section
namespace Go.Ev
def regOkB (ops : Array Oper) : Bool := Region.temporariesOk ops (CheckFast.beforeF ops) && edgesOk ops.toList && guardsOk ops.toList (CheckFast.beforeL ops.toList 0 []) && Region.noSelect ops
theorem regOkB_ok {ops : Array Oper} (h : regOkB ops = true) : RegOk ops := by
  unfold regOkB at h
  rw [Bool.and_eq_true, Bool.and_eq_true, Bool.and_eq_true, CheckFast.beforeF_eq] at h
  exact ⟨h.1.1.1, h.1.1.2, h.1.2, h.2⟩
def codeOkB : Code → Bool
  | .region _ ops d => br d (regOkB ops) true
  | .seq a b | .cond _ a b | .rangeFunc _ _ a b => and (codeOkB a) (codeOkB b)
  | .block _ c | .loop c | .scope c => codeOkB c
  | _ => true
theorem codeOkB_ok : ∀ c : Code, codeOkB c = true → CodeOk c
  | .region _ ops d, h => by
    cases d with
    | true => exact regOkB_ok h
    | false => trivial
  | .seq a b, h => by
    rw [codeOkB, Bool.and_eq_true] at h
    exact ⟨codeOkB_ok a h.1, codeOkB_ok b h.2⟩
  | .cond _ a b, h => by
    rw [codeOkB, Bool.and_eq_true] at h
    exact ⟨codeOkB_ok a h.1, codeOkB_ok b h.2⟩
  | .rangeFunc _ _ a b, h => by
    rw [codeOkB, Bool.and_eq_true] at h
    exact ⟨codeOkB_ok a h.1, codeOkB_ok b h.2⟩
  | .block _ c, h => codeOkB_ok c h
  | .loop c, h => codeOkB_ok c h
  | .scope c, h => codeOkB_ok c h
  | .skip, _ => trivial
  | .label _, _ => trivial
  | .exit _, _ => trivial
  | .goto _, _ => trivial
  | .ret, _ => trivial
  | .refuse _, _ => trivial
def funcOkB (fn : Func) : Bool :=
  match fn.body with
  | none => true
  | some c => and (not (fn.name == "runtime.NumGoroutine")) (codeOkB c)
def funcsOkB : List Func → Bool
  | [] => true
  | fn :: l => and (funcOkB fn) (funcsOkB l)
theorem funcsOkB_at : ∀ (l : List Func), funcsOkB l = true → ∀ (i : Nat) (fn : Func), l[i]? = some fn → funcOkB fn = true
  | [], _, i, fn, e => by simp at e
  | x :: l, h, 0, fn, e => by
    simp only [List.getElem?_cons_zero, Option.some.injEq] at e
    subst e
    rw [funcsOkB, Bool.and_eq_true] at h
    exact h.1
  | x :: l, h, i + 1, fn, e => by
    rw [funcsOkB, Bool.and_eq_true] at h
    exact funcsOkB_at l h.2 i fn (by simpa using e)
theorem progOk {P : Program} (h : funcsOkB P.funcs.toList = true) (hany : P.follows .mixedOrders = true) : ProgOk P := by
  refine ⟨fun f fn c hf hb => ?_, hany⟩
  have h1 := funcsOkB_at _ h f fn (by simpa using hf)
  unfold funcOkB at h1
  rw [hb] at h1
  simp only [Bool.and_eq_true, Bool.not_eq_true'] at h1
  exact ⟨⟨fn, c, hf, hb, h1.1⟩, codeOkB_ok c h1.2⟩
end Go.Ev
end
section
namespace Go.Ev
variable {P : Program}
theorem ClS.calls {f : FuncId} {args : List V} {h : Hp} {r : VRes} (hc : ClS P f args h r) {φ : Emb} {W : World} {pargs : Array Value} (hw : WR φ h W) (ha : VRs φ args pargs.toList) {R : Ending → World → Prop}
    (hR : ∀ φ' w' e, Stp φ h W φ' r.h w' → ends φ' r e → R e w') : Calls P f pargs W R := by
  intro cs
  obtain ⟨φ', w', fr, e, h1, h2, h3, h4, h5⟩ := hc.2 φ W pargs hw ha cs
  refine ⟨e, w', fr, hR φ' w' e h1 h2, ?_, h4, h5⟩
  cases e with
  | returned v => exact h3
  | panicked c => exact h3
  | outgrown =>
    cases r with
    | ret v h => obtain ⟨pv, -, he⟩ := h2; cases he
    | pan v h => obtain ⟨pv, -, he⟩ := h2; cases he
theorem cl_of {sm : Sums} (hP : ProgOk P) (hS : SumsOk P sm) {n : Nat} {f : FuncId} {args : List V} {h : Hp} {r : VRes} (e : (fns P sm n).cl f args h = some r) : ClS P f args h r := (fns_sound hP hS n).cl f args h r e
theorem ClS.less {f : FuncId} {args : List V} {h h' : Hp} {r : VRes} (hc : ClS P f args h r) (hs : h.sub h') : ∀ (φ : Emb) (w : World) (pargs : Array Value), WR φ h' w → VRs φ args pargs.toList → ∀ cs : List Frame,
    ∃ φ' w' fr e, Stp φ h w φ' r.h w' ∧ ends φ' r e ∧ Steps P (lone (Frame.enter P f pargs .normal) cs w) (lone fr cs w') ∧ fr.fn = f ∧ fr.leaving P w' e :=
  fun φ w pargs hw ha cs => hc.2 φ w pargs (hw.sub hs) ha cs
theorem Stp.below {φ : Emb} {h : Hp} {w w' : World} (hw : WR φ h w) (hb : RowKit.Below w.heap.size w w') : Stp φ h w φ h w' := by
  have hk : ∀ k, k < w.heap.size → w'.heap[k]? = w.heap[k]? := hb.block
  refine ⟨Emb.le_refl φ, ⟨?_, hw.inj, hw.fresh⟩, hb.size, fun b hbl _ => hk b hbl, fun _ => .inl, hb.os, hb.tape, hb.output, Nat.le_refl _, fun _ _ => rfl, fun _ o _ hi => ⟨o, hi⟩, fun _ _ hi _ => hi⟩
  intro i o hi
  obtain ⟨p, obj, h1, h2, h3⟩ := hw.live i o hi
  exact ⟨p, obj, h1, (hk _ (Array.getElem?_eq_some_iff.1 h2).1).trans h2, h3⟩
theorem ClS.of_calls {f : FuncId} {args : List V} {h : Hp} {v : V} (hok : CallOk P f)
    (hc : ∀ (φ : Emb) (w : World) (pargs : Array Value), WR φ h w → VRs φ args pargs.toList → Calls P f pargs w fun e w' => ∃ pv, VR φ v pv ∧ e = .returned pv ∧ RowKit.Below w.heap.size w w') : ClS P f args h (.ret v h) := by
  refine ⟨hok, fun φ w pargs hw ha cs => ?_⟩
  obtain ⟨e, w', fr, ⟨pv, hv, rfl, hb⟩, hs, hfn, hl⟩ := hc φ w pargs hw ha cs
  exact ⟨φ, w', fr, .returned pv, Stp.below hw hb, ⟨pv, hv, rfl⟩, hs, hfn, hl⟩
end Go.Ev
end
section
namespace Go.Ev
variable {P : Program}
def ME.same (a b : ME) : Bool := and (and (V.same 20 a.k b.k) (V.same 20 a.v b.v)) (Nat.beq a.born b.born)
def sameME : List ME → List ME → Bool
  | [], [] => true
  | x :: l, y :: m => and (ME.same x y) (sameME l m)
  | _, _ => false
def beqB : Bool → Bool → Bool
  | true, b => b
  | false, b => not b
def LO.same : LO → LO → Bool
  | .row a s e, .row b t f => and (and (beqB s t) (beqB e f)) (sameList (V.same 20) a b)
  | .mapo a c, .mapo b d => and (Nat.beq c d) (sameME a b)
  | .siter a p, .siter b q => and (a == b) (Nat.beq p q)
  | .dfr, .dfr => true
  | _, _ => false
def sameO : Option LO → Option LO → Bool
  | none, none => true
  | some a, some b => LO.same a b
  | _, _ => false
def Tr.same : Tr LO → Tr LO → Bool
  | .lf, .lf => true
  | .nd v l r, .nd w m s => and (sameO v w) (and (Tr.same l m) (Tr.same r s))
  | _, _ => false
def Hp.same : Hp → Hp → Bool
  | ⟨n, s⟩, ⟨m, t⟩ => and (Nat.beq n m) (Tr.same s t)
theorem beqB_eq {a b : Bool} (h : beqB a b = true) : a = b := by cases a <;> cases b <;> first | rfl | cases h
theorem ME.same_eq {a b : ME} (h : ME.same a b = true) : a = b := by
  obtain ⟨k, v, n⟩ := a
  obtain ⟨k', v', n'⟩ := b
  unfold ME.same at h
  rw [Bool.and_eq_true, Bool.and_eq_true] at h
  obtain ⟨⟨h1, h2⟩, h3⟩ := h
  have e1 : k = k' := V.same_eq _ _ _ h1
  have e2 : v = v' := V.same_eq _ _ _ h2
  have e3 : n = n' := Nat.eq_of_beq_eq_true h3
  rw [e1, e2, e3]
theorem sameME_eq : ∀ (l m : List ME), sameME l m = true → l = m
  | [], [], _ => rfl
  | [], _ :: _, h => by cases h
  | _ :: _, [], h => by cases h
  | x :: l, y :: m, h => by
    unfold sameME at h
    rw [Bool.and_eq_true] at h
    rw [ME.same_eq h.1, sameME_eq l m h.2]
theorem LO.same_eq {a b : LO} (h : LO.same a b = true) : a = b := by
  unfold LO.same at h
  split at h
  · rw [Bool.and_eq_true, Bool.and_eq_true] at h
    rw [beqB_eq h.1.1, beqB_eq h.1.2, sameList_eq _ (V.same_eq 20) _ _ h.2]
  · rw [Bool.and_eq_true] at h
    rw [Nat.eq_of_beq_eq_true h.1, sameME_eq _ _ h.2]
  · rw [Bool.and_eq_true] at h
    rw [eq_of_beq h.1, Nat.eq_of_beq_eq_true h.2]
  · rfl
  · cases h
theorem Tr.same_eq : ∀ (s t : Tr LO), Tr.same s t = true → s = t
  | .lf, .lf, _ => rfl
  | .lf, .nd .., h => by cases h
  | .nd .., .lf, h => by cases h
  | .nd v l r, .nd w m s, h => by
    unfold Tr.same at h
    rw [Bool.and_eq_true, Bool.and_eq_true] at h
    have hv : v = w := by
      cases v <;> cases w
      · rfl
      · cases h.1
      · cases h.1
      · rw [LO.same_eq h.1]
    rw [hv, Tr.same_eq l m h.2.1, Tr.same_eq r s h.2.2]
theorem Hp.same_eq {a b : Hp} (h : Hp.same a b = true) : a = b := by
  obtain ⟨n, s⟩ := a
  obtain ⟨m, t⟩ := b
  unfold Hp.same at h
  rw [Bool.and_eq_true] at h
  rw [Nat.eq_of_beq_eq_true h.1, Tr.same_eq _ _ h.2]
structure Inst where
  f : Nat
  args : List V
  h : Hp
  r : VRes
def Inst.sum (i : Inst) : Sums := fun f args h => match i with
  | ⟨g, as, k, r⟩ => br (Nat.beq f g) (br (and (sameList (V.same 20) args as) (Hp.same h k)) (some r) none) none
def sumOr (a b : Sums) : Sums := fun f args h => match a f args h with
  | some r => some r
  | none => b f args h
theorem sumOr_ok {a b : Sums} (ha : SumsOk P a) (hb : SumsOk P b) : SumsOk P (sumOr a b) := by
  intro f args h r e
  unfold sumOr at e
  split at e
  · rename_i r' hr
    cases e
    exact ha _ _ _ _ hr
  · exact hb _ _ _ _ e
theorem Inst.sum_ok {i : Inst} (hc : ClS P i.f i.args i.h i.r) : SumsOk P i.sum := by
  obtain ⟨g, as, k, r0⟩ := i
  intro f args h r e
  unfold Inst.sum at e
  simp only at e
  rw [br_some, br_some, Bool.and_eq_true] at e
  obtain ⟨h1, ⟨h2, h3⟩, h4⟩ := e
  have h1 := Nat.eq_of_beq_eq_true h1
  have h2 := sameList_eq _ (V.same_eq 20) _ _ h2
  have h3 := Hp.same_eq h3
  subst h1; subst h2; subst h3
  cases h4
  exact hc
end Go.Ev
end
section
namespace Go.Ev
variable {P : Program}
def Tr.subB : Tr LO → Tr LO → Bool
  | .lf, _ => true
  | .nd v l r, .lf => and (match v with | none => true | some _ => false) (and (Tr.subB l .lf) (Tr.subB r .lf))
  | .nd v l r, .nd w m s => and (match v with | none => true | some _ => sameO v w) (and (Tr.subB l m) (Tr.subB r s))
def Hp.subB : Hp → Hp → Bool
  | ⟨n, s⟩, ⟨m, t⟩ => and (Nat.beq n m) (Tr.subB s t)
theorem sameO_eq {a b : Option LO} (h : sameO a b = true) : a = b := by
  cases a <;> cases b
  · rfl
  · cases h
  · cases h
  · rw [LO.same_eq h]
theorem Tr.subB_get : ∀ (s t : Tr LO), Tr.subB s t = true → ∀ i o, s.get i = some o → t.get i = some o
  | .lf, _, _, i, o, e => by rw [Tr.get_lf] at e; cases e
  | .nd v l r, .lf, h, i, o, e => by
    unfold Tr.subB at h
    rw [Bool.and_eq_true, Bool.and_eq_true] at h
    rw [Tr.get_nd] at e
    split at e
    · subst e; cases h.1
    · split at e
      · exact absurd (Tr.subB_get l .lf h.2.1 _ _ e) (by rw [Tr.get_lf]; simp)
      · exact absurd (Tr.subB_get r .lf h.2.2 _ _ e) (by rw [Tr.get_lf]; simp)
  | .nd v l r, .nd w m s, h, i, o, e => by
    unfold Tr.subB at h
    rw [Bool.and_eq_true, Bool.and_eq_true] at h
    rw [Tr.get_nd] at e ⊢
    split at e
    · rename_i hi
      subst e
      rw [if_pos hi]
      have := sameO_eq h.1
      exact this.symm
    · rename_i hi
      rw [if_neg hi]
      split at e
      · rename_i h1
        rw [if_pos h1]
        exact Tr.subB_get l m h.2.1 _ _ e
      · rename_i h1
        rw [if_neg h1]
        exact Tr.subB_get r s h.2.2 _ _ e
theorem Hp.subB_sub {a b : Hp} (h : Hp.subB a b = true) : a.sub b := by
  obtain ⟨n, s⟩ := a
  obtain ⟨m, t⟩ := b
  unfold Hp.subB at h
  rw [Bool.and_eq_true] at h
  exact ⟨Nat.eq_of_beq_eq_true h.1, fun i o e => Tr.subB_get s t h.2 i o e⟩
def comesTo (P : Program) (sm : Sums) (n : Nat) (f : Nat) (args : List V) (h : Hp) (v : V) (k : Hp) : Bool :=
  match evBody P (fns P sm n) f args h with
  | some (.ret v' h') => and (V.same 20 v' v) (Hp.subB k h')
  | _ => false
theorem comesTo_ok (hP : ProgOk P) {sm : Sums} (hS : SumsOk P sm) {n f : Nat} {args : List V} {h : Hp} {v : V} {k : Hp} (e : comesTo P sm n f args h v k = true) : ClS P f args h (.ret v k) := by
  unfold comesTo at e
  split at e
  · rename_i v' h' hb
    rw [Bool.and_eq_true] at e
    have hv := V.same_eq _ _ _ e.1
    subst hv
    have hc := evBody_rel hP (fns_sound hP hS n) hb
    refine ⟨hc.1, fun φ w pargs hw ha cs => ?_⟩
    obtain ⟨φ', w', fr, en, h1, h2, h3⟩ := hc.2 φ w pargs hw ha cs
    exact ⟨φ', w', fr, en, Stp.sub h1 (Hp.subB_sub e.2), h2, h3⟩
  · cases e
end Go.Ev
end
