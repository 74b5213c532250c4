/- What code comes to, as a proposition over the evaluator; laws for simp. -/
import Derived.Test.YtmijgnobbehaaaaGreatDoorEvA
set_option linter.all false
set_option linter.unusedVariables false
set_option linter.unusedSimpArgs false
section
namespace Go.Ev
variable {P : Program} {sm : Sums} {F G : Fns}
structure Fns.le (F G : Fns) : Prop where
  sc : ∀ kd c st r, F.sc kd c st = some r → G.sc kd c st = some r
  lp : ∀ kd c st r, F.lp kd c st = some r → G.lp kd c st = some r
  sp : ∀ kd b c st r, F.sp kd b c st = some r → G.sp kd b c st = some r
  cl : ∀ f a h r, F.cl f a h = some r → G.cl f a h = some r
  cd : ∀ f a m h r, F.cd f a m h = some r → G.cd f a m h = some r
  rd : ∀ l a h r, F.rd l a h = some r → G.rd l a h = some r
theorem callV_mono (k : F.le G) {fv : V} {args : List V} {h : Hp} {r} (e : callV F fv args h = some r) : callV G fv args h = some r := by
  unfold callV at e ⊢
  split at e
  · exact k.cl _ _ _ _ e
  · exact k.rd _ _ _ _ e
  · cases e
theorem acCall_mono (k : F.le G) {env : Env} {h : Hp} {c : Go.Call} {r} (e : acCall P F env h c = some r) : acCall P G env h c = some r := by
  unfold acCall at e ⊢
  split at e
  · exact e
  · split at e
    · rw [Option.map_eq_some_iff] at e ⊢
      obtain ⟨a, h1, h2⟩ := e
      exact ⟨a, callV_mono k h1, h2⟩
    · cases e
  · cases e
theorem evAct_mono (k : F.le G) {env : Env} {h : Hp} {o : Oper} {r} (e : evAct P F env h o = some r) : evAct P G env h o = some r := by
  unfold evAct evActOp at e ⊢
  split at e <;> first | exact e | exact acCall_mono k e | cases e
theorem opAct_mono (k : F.le G) {kd : Kd} {o : Oper} {st : St} {r} (e : opAct P F kd o st = some r) : opAct P G kd o st = some r := by
  obtain ⟨env, ds, pm, h⟩ := st
  unfold opAct at e ⊢
  simp only at e ⊢
  cases hc : evAct P F env h o with
  | none => rw [hc] at e; cases e
  | some v => rw [evAct_mono k hc]; rw [hc] at e; exact e
theorem opStep_mono (k : F.le G) {kd : Kd} {o : Oper} {st : St} {r} (e : opStep P F kd o st = some r) : opStep P G kd o st = some r := by
  unfold opStep at e ⊢
  split at e
  · exact e
  · split at e
    · exact e
    · exact opAct_mono k e
theorem br_cases {α : Type} {b : Bool} {x y r : α} (h : br b x y = r) : (b = true ∧ x = r) ∨ (b = false ∧ y = r) := by
  cases b
  · exact .inr ⟨rfl, h⟩
  · exact .inl ⟨rfl, h⟩
theorem evOps_mono (k : F.le G) {kd : Kd} {all : List Oper} : ∀ (l : List Oper) {st : St} {r}, evOps P F kd all l st = some r → evOps P G kd all l st = some r
  | [], st, r, e => e
  | o :: l, st, r, e => by
    unfold evOps at e ⊢
    rcases br_cases e with ⟨hb, e⟩ | ⟨hb, e⟩
    · rw [hb]
      show (match opStep P G kd o st with | some (.on st') => evOps P G kd all l st' | some (.pan v st') => some (.pan v, st') | none => none) = some r
      cases hc : opStep P F kd o st with
      | none => rw [hc] at e; cases e
      | some g =>
        rw [opStep_mono k hc]
        rw [hc] at e
        cases g with
        | on st' => exact evOps_mono k l e
        | pan v st' => exact e
    · rw [hb]
      exact evOps_mono k l e
theorem dwAct_mono (k : F.le G) {b : List Nat} {i : Nat} {o : Oper} {c : Course} {h : Hp} {r} (e : dwAct P F b i o c h = some r) : dwAct P G b i o c h = some r := by
  unfold dwAct at e ⊢
  cases hc : evAct P F c.env (addAll h (c.pd.filter (wants b i c.ws))) o with
  | none => rw [hc] at e; cases e
  | some v => rw [evAct_mono k hc]; rw [hc] at e; exact e
theorem drawOp_mono (k : F.le G) {b : List Nat} {n0 : Nat} {ops : List Oper} {i : Nat} {o : Oper} {c : Course} {r} (e : drawOp P F b n0 ops i o c = some r) : drawOp P G b n0 ops i o c = some r := by
  unfold drawOp at e ⊢
  split at e
  · cases e
  · rcases br_cases e with ⟨hb, e⟩ | ⟨hb, e⟩
    · rw [hb]
      show (match dwRead P b i o c _ with | some c' => some c' | none => match dwAlloc P n0 i o c with | some c' => some c' | none => dwAct P G b i o c _) = some r
      split at e
      · rename_i hr; rw [hr]; exact e
      · rename_i hr; rw [hr]
        split at e
        · rename_i ha; rw [ha]; exact e
        · rename_i ha; rw [ha]; exact dwAct_mono k e
    · rw [hb]; exact e
theorem drawOps_mono (k : F.le G) {b : List Nat} {n0 : Nat} {ops : List Oper} : ∀ (l : List Oper) (i : Nat) {c : Course} {r}, drawOps P F b n0 ops i l c = some r → drawOps P G b n0 ops i l c = some r
  | [], i, c, r, e => e
  | o :: l, i, c, r, e => by
    unfold drawOps at e ⊢
    cases hc : drawOp P F b n0 ops i o c with
    | none => rw [hc] at e; cases e
    | some c' => rw [drawOp_mono k hc]; rw [hc] at e; exact drawOps_mono k l (i + 1) e
theorem evRegionDraw_mono (k : F.le G) {ops : Array Oper} {st : St} {r} (e : evRegionDraw P F ops st = some r) : evRegionDraw P G ops st = some r := by
  obtain ⟨env, ds, pm, h⟩ := st
  unfold evRegionDraw at e ⊢
  simp only at e ⊢
  split at e
  · rename_i hc; rw [drawOps_mono k _ _ hc]; exact e
  · cases e
theorem leave_mono (k : F.le G) {fn : Func} {env : Env} : ∀ (ds : List Dfr) (m : PM) (h : Hp) {r}, leave P F fn env ds m h = some r → leave P G fn env ds m h = some r
  | [], .ret, h, r, e => e
  | [], .pan v false, h, r, e => e
  | [], .pan v true, h, r, e => by cases e
  | .coll id :: ds, m, h, r, e => by
    unfold leave at e ⊢
    split at e
    · exact leave_mono k ds m _ e
    · cases e
  | .call f args :: ds, m, h, r, e => by
    unfold leave at e ⊢
    cases hc : F.cd f args m h with
    | none => rw [hc] at e; cases e
    | some v =>
      rw [k.cd _ _ _ _ _ hc]
      rw [hc] at e
      split at e
      · exact leave_mono k ds _ _ e
      · exact leave_mono k ds _ _ e
      · cases e
theorem evBody_mono (k : F.le G) {f : Nat} {args : List V} {h : Hp} {r} (e : evBody P F f args h = some r) : evBody P G f args h = some r := by
  unfold evBody at e ⊢
  split at e
  · cases e
  · split at e
    · cases e
    · cases hc : F.sc .normal _ _ with
      | none => rw [hc] at e; cases e
      | some v =>
        rw [k.sc _ _ _ _ hc]
        rw [hc] at e
        split at e <;> first | exact leave_mono k _ _ _ e | cases e
theorem evCall_mono (k : F.le G) {f : Nat} {args : List V} {h : Hp} {r} (e : evCall P sm F f args h = some r) : evCall P sm G f args h = some r := by
  unfold evCall at e ⊢
  split at e
  · exact e
  · exact evBody_mono k e
theorem evCallD_mono (k : F.le G) {f : Nat} {args : List V} {m : PM} {h : Hp} {r} (e : evCallD P F f args m h = some r) : evCallD P G f args m h = some r := by
  unfold evCallD at e ⊢
  split at e
  · cases e
  · split at e
    · cases e
    · cases hc : F.sc .deferred _ _ with
      | none => rw [hc] at e; cases e
      | some v => rw [k.sc _ _ _ _ hc]; rw [hc] at e; exact e
theorem evRound_mono (k : F.le G) {l : Nat} {args : List V} {h : Hp} {r} (e : evRound F l args h = some r) : evRound G l args h = some r := by
  unfold evRound at e ⊢
  split at e
  · split at e
    · rename_i hl
      rw [if_pos hl]
      cases hc : F.sc (.round l) _ _ with
      | none => rw [hc] at e; cases e
      | some v =>
        rw [k.sc _ _ _ _ hc]
        rw [hc] at e
        obtain ⟨ex, st1⟩ := v
        cases ex <;> simp only at e ⊢ <;> try (cases e; done)
        split at e
        · rename_i hg
          cases hc2 : F.sc (.round l) _ _ with
          | none => rw [hc2] at e; cases e
          | some v2 =>
            rw [k.sc _ _ _ _ hc2]
            rw [hc2] at e
            exact e
        · cases e
    · cases e
  · cases e
theorem evRange_mono (k : F.le G) {kd : Kd} {f : Operand} {ps : Array Tmp} {a b : Code} {st : St} {r} (e : evRange F kd f ps a b st = some r) : evRange G kd f ps a b st = some r := by
  unfold evRange at e ⊢
  split at e
  · cases hc : F.cl _ _ _ with
    | none => rw [hc] at e; cases e
    | some v => rw [k.cl _ _ _ _ hc]; rw [hc] at e; exact e
  · cases e
theorem evCode_mono (k : F.le G) {kd : Kd} {c : Code} {st : St} {r} (e : evCode P F kd c st = some r) : evCode P G kd c st = some r := by
  unfold evCode at e ⊢
  split at e
  · exact e
  · exact e
  · exact evOps_mono k _ e
  · exact evRegionDraw_mono k e
  · cases hc : F.sc kd _ st with
    | none => rw [hc] at e; cases e
    | some v =>
      rw [k.sc _ _ _ _ hc]
      rw [hc] at e
      obtain ⟨ex, st1⟩ := v
      cases ex <;> first | exact k.sc _ _ _ _ e | exact e
  · split at e
    · exact k.sc _ _ _ _ e
    · exact k.sc _ _ _ _ e
    · cases e
  · cases hc : F.sc kd _ st with
    | none => rw [hc] at e; cases e
    | some v => rw [k.sc _ _ _ _ hc]; rw [hc] at e; exact e
  · exact k.lp _ _ _ _ e
  · exact evRange_mono k e
  · exact e
  · exact k.sp _ _ _ _ _ e
  · exact e
  · exact e
  · cases e
theorem evLoop_mono (k : F.le G) {kd : Kd} {c : Code} {st : St} {r} (e : evLoop F kd c st = some r) : evLoop G kd c st = some r := by
  unfold evLoop at e ⊢
  cases hc : F.sc kd _ st with
  | none => rw [hc] at e; cases e
  | some v =>
    rw [k.sc _ _ _ _ hc]
    rw [hc] at e
    obtain ⟨ex, st1⟩ := v
    cases ex <;> first | exact k.lp _ _ _ _ e | exact e
theorem evScope_mono (k : F.le G) {kd : Kd} {b c : Code} {st : St} {r} (e : evScope F kd b c st = some r) : evScope G kd b c st = some r := by
  unfold evScope at e ⊢
  cases hc : F.sc kd _ st with
  | none => rw [hc] at e; cases e
  | some v =>
    rw [k.sc _ _ _ _ hc]
    rw [hc] at e
    obtain ⟨ex, st1⟩ := v
    cases ex <;> simp only at e ⊢ <;> try exact e
    split at e
    · exact k.sp _ _ _ _ _ e
    · exact e
theorem step_mono (k : F.le G) : (F.step P sm).le (G.step P sm) where
  sc _ _ _ _ e := evCode_mono k e
  lp _ _ _ _ e := evLoop_mono k e
  sp _ _ _ _ _ e := evScope_mono k e
  cl _ _ _ _ e := evCall_mono k e
  cd _ _ _ _ _ e := evCallD_mono k e
  rd _ _ _ _ e := evRound_mono k e
theorem fns_step_le : ∀ n, (fns P sm n).le (fns P sm (n + 1))
  | 0 => ⟨fun _ _ _ _ e => (by cases e), fun _ _ _ _ e => (by cases e), fun _ _ _ _ _ e => (by cases e), fun _ _ _ _ e => (by cases e), fun _ _ _ _ _ e => (by cases e), fun _ _ _ _ e => (by cases e)⟩
  | n + 1 => step_mono (fns_step_le n)
theorem Fns.le.trans {H : Fns} (a : F.le G) (b : G.le H) : F.le H :=
  ⟨fun _ _ _ _ e => b.sc _ _ _ _ (a.sc _ _ _ _ e), fun _ _ _ _ e => b.lp _ _ _ _ (a.lp _ _ _ _ e), fun _ _ _ _ _ e => b.sp _ _ _ _ _ (a.sp _ _ _ _ _ e), fun _ _ _ _ e => b.cl _ _ _ _ (a.cl _ _ _ _ e), fun _ _ _ _ _ e => b.cd _ _ _ _ _ (a.cd _ _ _ _ _ e), fun _ _ _ _ e => b.rd _ _ _ _ (a.rd _ _ _ _ e)⟩
theorem Fns.le.rfl : F.le F := ⟨fun _ _ _ _ e => e, fun _ _ _ _ e => e, fun _ _ _ _ _ e => e, fun _ _ _ _ e => e, fun _ _ _ _ _ e => e, fun _ _ _ _ e => e⟩
theorem fns_le {n m : Nat} (h : n ≤ m) : (fns P sm n).le (fns P sm m) := by
  induction h with
  | refl => exact .rfl
  | step _ ih => exact ih.trans (fns_step_le _)
end Go.Ev
end
section
namespace Go.Ev
abbrev G := Nat → V
def upd (g : G) (i : Nat) (v : V) : G := fun j => if j = i then v else g j
theorem upd_same (g : G) (i : Nat) (v : V) : upd g i v i = v := if_pos rfl
theorem upd_ne (g : G) (i j : Nat) (v : V) (h : j ≠ i) : upd g i v j = g j := if_neg h
def updo (g : G) (d : Option Tmp) (v : V) : G := match d with
  | some d => upd g d v
  | none => g
def ρG (g : G) : Operand → Option V
  | .tmp t => some (g t)
  | .const v => V.ofConst v
  | .global _ => none
  | .func f => some (.func f [] [])
def ρsG (g : G) : List Operand → Option (List V)
  | [] => some []
  | x :: l => match ρG g x, ρsG g l with
    | some a, some b => some (a :: b)
    | _, _ => none
def ρpartsG (g : G) : List (Nat × Operand) → Option (List (Nat × V))
  | [] => some []
  | (i, x) :: l => match ρG g x, ρpartsG g l with
    | some a, some b => some ((i, a) :: b)
    | _, _ => none
def ρoG (g : G) : Option Operand → Option (Option V)
  | none => some none
  | some x => match ρG g x with
    | some v => some (some v)
    | none => none
theorem ρ_eq (env : Env) (x : Operand) : ρ env x = ρG env.get x := by cases x <;> rfl
theorem ρs_eq (env : Env) (l : List Operand) : ρs env l = ρsG env.get l := by
  induction l with
  | nil => rfl
  | cons x l ih => unfold ρs ρsG; rw [ρ_eq, ih]; rfl
theorem ρparts_eq (env : Env) (l : List (Nat × Operand)) : ρparts env l = ρpartsG env.get l := by
  induction l with
  | nil => rfl
  | cons x l ih => obtain ⟨i, x⟩ := x; unfold ρparts ρpartsG; rw [ρ_eq, ih]; rfl
theorem ρo_eq (env : Env) (x : Option Operand) : ρo env x = ρoG env.get x := by
  cases x
  · rfl
  · rename_i x
    show (match ρ env x with | some v => some (some v) | none => none) = _
    rw [ρ_eq]; rfl
variable (P : Program)
def gPick (g : G) (c a b : Operand) : Option V :=
  match ρG g c with
  | some (.bool true) => ρG g a
  | some (.bool false) => ρG g b
  | _ => none
def gLoad (g : G) (h : Hp) (t : TypeId) (a : Operand) : Option V :=
  match ρG g a with
  | some a => loadV P t a h
  | none => none
def nilCk (x : Option V) : Option V :=
  match x with
  | some (.ptr i o) => some (.ptr i o)
  | some (.slice i o e l c) => some (.slice i o e l c)
  | some (.map r) => some (.map r)
  | some (.func f a b) => some (.func f a b)
  | some (.yield l) => some (.yield l)
  | _ => none
def gBin (g : G) (h : Hp) (op : BinOp) (t : TypeId) (x y : Operand) : Option V :=
  match ρG g x, ρG g y with
  | some .nilI, some .nilI => nilEq P op t x y
  | some a, some b => binV P op t a b h
  | _, _ => none
def gUn (g : G) (op : UnOp) (x : Operand) : Option V :=
  match ρG g x with
  | some a => unV op a
  | none => none
def gConv (g : G) (s d : TypeId) (x : Operand) : Option V :=
  match ρG g x with
  | some a => convV P s d a
  | none => none
def gIface (g : G) (t : TypeId) (x : Operand) : Option V :=
  match P.underlying t, ρG g x with
  | some (.interface _), _ => none
  | some _, some a => some (.iface t a)
  | _, _ => none
def gFunc (g : G) (fn : Fn) (a b : Array Operand) : Option V :=
  match fn with
  | .func f => match ρsG g a.toList, ρsG g b.toList with
    | some a, some b => some (.func f a b)
    | _, _ => none
  | _ => none
def gSlice (g : G) (h : Hp) (t : TypeId) (x : Operand) (lo hi mx : Option Operand) : Option V :=
  match ρG g x, ρoG g lo, ρoG g hi, ρoG g mx with
  | some x, some lo, some hi, some mx => sliceV P t x lo hi mx h
  | _, _, _, _ => none
def gFieldAddr (g : G) (s : TypeId) (x : Operand) (f : Nat) : Option V :=
  match ρG g x, fieldOf P s f with
  | some (.ptr id off), some fd => match szT P fd.type with
    | some (.succ _) => some (.ptr id (off + fd.offset))
    | _ => none
  | _, _ => none
def gField (g : G) (s : TypeId) (x : Operand) (f : Nat) : Option V :=
  match ρG g x, fieldOf P s f with
  | some (.agg cs), some fd => partV P fd.type cs fd.offset
  | _, _ => none
def gIndexAddr (g : G) (t : TypeId) (x i : Operand) : Option V :=
  match ρG g x, ρG g i with
  | some x, some i => indexAddrV P t x i
  | _, _ => none
def gIndex (g : G) (t : TypeId) (x i : Operand) : Option V :=
  match ρG g x, ρG g i with
  | some x, some i => indexV P t x i
  | _, _ => none
def gLookup (g : G) (h : Hp) (t : TypeId) (m k : Operand) (ok : Bool) : Option V :=
  match ρG g m, ρG g k with
  | some m, some k => lookupV P t m k ok h
  | _, _ => none
def gAssert (g : G) (x : Operand) (t : TypeId) (ok : Bool) : Option V :=
  match ρG g x with
  | some x => assertV P t x ok
  | none => none
def gExtract (g : G) (x : Operand) (i : Nat) : Option V :=
  match ρG g x with
  | some (.tuple vs) => vs[i]?
  | _ => none
def gBuild (g : G) (t : TypeId) (ps : Array (Nat × Operand)) : Option V :=
  match ρpartsG g ps.toList with
  | some ps => buildV P t ps
  | none => none
def gBuiltin (g : G) (h : Hp) (b : Builtin) (args : Array Operand) (argTypes : Array TypeId) : Option V :=
  match ρsG g args.toList with
  | some vs => match b, vs, argTypes.toList with
    | .len, [x], t :: _ => lenV P t x h
    | .cap, [x], t :: _ => capV P t x
    | .min, x :: l, _ => minmax false x l
    | .max, x :: l, _ => minmax true x l
    | _, _, _ => none
  | none => none
def gCall (g : G) (h : Hp) (c : Call) : Option V :=
  match c.callee with
  | .builtin b => gBuiltin P g h b c.args c.argTypes
  | _ => none
def gRead (g : G) (h : Hp) (o : Op) : Option V :=
  match o with
  | .move x | .assign x => ρG g x
  | .pick c a b => gPick g c a b
  | .load t a => gLoad P g h t a
  | .nilCheck x => nilCk (ρG g x)
  | .binOp op t x y _ => gBin P g h op t x y
  | .unOp op _ x => gUn g op x
  | .convert s d x => gConv P g s d x
  | .makeInterface t x => gIface P g t x
  | .makeFunc fn a b => gFunc g fn a b
  | .slice t x lo hi mx => gSlice P g h t x lo hi mx
  | .fieldAddr s x f => gFieldAddr P g s x f
  | .field s x f => gField P g s x f
  | .indexAddr t x i => gIndexAddr P g t x i
  | .index t x i => gIndex P g t x i
  | .lookup t m k ok => gLookup P g h t m k ok
  | .typeAssert x _ t ok => gAssert P g x t ok
  | .extract x i => gExtract g x i
  | .build t ps => gBuild P g t ps
  | .call c => gCall P g h c
  | _ => none
theorem rdBuild_eq (env : Env) (t : TypeId) (ps : Array (Nat × Operand)) : rdBuild P env t ps = gBuild P env.get t ps := by
  unfold rdBuild gBuild
  rw [ρparts_eq]
  rfl
theorem gRead_eq (env : Env) (h : Hp) (o : Op) : evReadOp P env h o = gRead P env.get h o := by
  unfold evReadOp gRead
  cases o <;> first
    | rfl
    | exact ρ_eq env _
    | (unfold rdPick gPick; rw [ρ_eq, ρ_eq, ρ_eq])
    | (unfold rdLoad gLoad; rw [ρ_eq])
    | (unfold rdNil nilCk; rw [ρ_eq])
    | (unfold rdBin gBin; rw [ρ_eq, ρ_eq])
    | (unfold rdUn gUn; rw [ρ_eq])
    | (unfold rdConv gConv; rw [ρ_eq])
    | (unfold rdIface gIface; rw [ρ_eq])
    | (unfold rdFunc gFunc; simp only [ρs_eq]; rfl)
    | (unfold rdSlice gSlice; rw [ρ_eq, ρo_eq, ρo_eq, ρo_eq])
    | (unfold rdFieldAddr gFieldAddr; rw [ρ_eq])
    | (unfold rdField gField; rw [ρ_eq])
    | (unfold rdIndexAddr gIndexAddr; rw [ρ_eq, ρ_eq])
    | (unfold rdIndex gIndex; rw [ρ_eq, ρ_eq])
    | (unfold rdLookup gLookup; rw [ρ_eq, ρ_eq])
    | (unfold rdAssert gAssert; rw [ρ_eq])
    | (unfold rdExtract gExtract; rw [ρ_eq])
    | exact rdBuild_eq P env _ _
    | (unfold rdCall gCall rdBuiltin gBuiltin; simp only [ρs_eq]; rfl)
def gBox (g : G) (id : Nat) (x : Operand) : Option (V × LO) :=
  match ρG g x with
  | some v => if v.cells.all V.one then some (.ptr id 0, .row v.cells false false) else none
  | none => none
def gBuildSlice (g : G) (id : Nat) (t : TypeId) (n : Nat) (ps : Array (Nat × Operand)) : Option (V × LO) :=
  match ρpartsG g ps.toList with
  | some ps => buildSliceV P t n ps id
  | none => none
def gMakeMap (g : G) (id : Nat) (t : TypeId) (r : Option Operand) : Option (V × LO) :=
  match mapT P t, ρsG g r.toList with
  | some _, some [] => some (.map id, .mapo [] 0)
  | some _, some [.int _ _] => some (.map id, .mapo [] 0)
  | _, _ => none
def gMakeSlice (g : G) (id : Nat) (t : TypeId) (l c : Operand) : Option (V × LO) :=
  match ρG g l, ρG g c with
  | some l, some c => makeSliceV P t l c id
  | _, _ => none
def gAlloc (g : G) (id : Nat) (o : Op) : Option (V × LO) :=
  match o with
  | .alloc e => alZero P id e
  | .box _ x => gBox g id x
  | .buildSlice t n ps => gBuildSlice P g id t n ps
  | .makeMap t r => gMakeMap P g id t r
  | .makeSlice t l c => gMakeSlice P g id t l c
  | _ => none
theorem alBox_eq (env : Env) (id : Nat) (x : Operand) : alBox env id x = gBox env.get id x := by unfold alBox gBox; rw [ρ_eq]; rfl
theorem alBuild_eq (env : Env) (id : Nat) (t : TypeId) (n : Nat) (ps : Array (Nat × Operand)) : alBuild P env id t n ps = gBuildSlice P env.get id t n ps := by unfold alBuild gBuildSlice; rw [ρparts_eq]; rfl
theorem alMap_eq (env : Env) (id : Nat) (t : TypeId) (r : Option Operand) : alMap P env id t r = gMakeMap P env.get id t r := by unfold alMap gMakeMap; rw [ρs_eq]; rfl
theorem alSlice_eq (env : Env) (id : Nat) (t : TypeId) (l c : Operand) : alSlice P env id t l c = gMakeSlice P env.get id t l c := by unfold alSlice gMakeSlice; rw [ρ_eq, ρ_eq]; rfl
theorem gAlloc_eq (env : Env) (id : Nat) (o : Op) : evAllocOp P env id o = gAlloc P env.get id o := by
  unfold evAllocOp gAlloc
  cases o <;> first
    | rfl
    | exact alBox_eq env id _
    | exact alBuild_eq P env id _ _ _
    | exact alMap_eq P env id _ _
    | exact alSlice_eq P env id _ _ _
def gStore (g : G) (h : Hp) (t : TypeId) (a x : Operand) : Option (V × Hp) :=
  match ρG g a, ρG g x with
  | some a, some x => (storeV P t a x h).map fun h' => (.undef, h')
  | _, _ => none
def gConvA (g : G) (h : Hp) (s d : TypeId) (x : Operand) : Option (V × Hp) :=
  match ρG g x with
  | some x => convActV P s d x h
  | none => none
def gMapSet (g : G) (h : Hp) (t : TypeId) (m k v : Operand) : Option (V × Hp) :=
  match ρG g m, ρG g k, ρG g v with
  | some m, some k, some v => (mapSet P t m k v h).map fun h' => (.undef, h')
  | _, _, _ => none
def gMapEntry (g : G) (h : Hp) (t : TypeId) (m k : Operand) : Option (V × Hp) :=
  match ρG g m, ρG g k with
  | some m, some k => mapEntryV P t m k h
  | _, _ => none
def gEntryStore (g : G) (h : Hp) (m s v : Operand) : Option (V × Hp) :=
  match ρG g m, ρG g s, ρG g v with
  | some m, some s, some v => (entryStoreV m s v h).map fun h' => (.undef, h')
  | _, _, _ => none
def gRange (g : G) (h : Hp) (t : TypeId) (x : Operand) : Option (V × Hp) :=
  match P.underlying t, ρG g x with
  | some .string, some (.str s) => some (.ptr h.next 0, (h.new (.siter s 0)).2)
  | _, _ => none
def gNext (g : G) (h : Hp) (it : Operand) (b : Bool) : Option (V × Hp) :=
  match b, ρG g it with
  | true, some it => nextV it h
  | _, _ => none
def gBuiltinA (g : G) (h : Hp) (b : Builtin) (args : Array Operand) (argTypes : Array TypeId) : Option (V × Hp) :=
  match ρsG g args.toList with
  | some vs => match b, vs, argTypes.toList with
    | .append, [s, x], st :: xt :: _ => appendV P st xt s x h
    | .copy, [d, x], t :: _ => copyV P t d x h
    | .delete, [m, k], t :: _ => (deleteV P t m k h).map fun h' => (.undef, h')
    | _, _, _ => none
  | none => none
def gAct (g : G) (h : Hp) (o : Op) : Option (V × Hp) :=
  match o with
  | .store t a x => gStore P g h t a x
  | .convert s d x => gConvA P g h s d x
  | .mapUpdate t m k v | .insert t m k v => gMapSet P g h t m k v
  | .mapEntry t m k => gMapEntry P g h t m k
  | .entryStore _ m s v => gEntryStore g h m s v
  | .range t x => gRange P g h t x
  | .next it b => gNext g h it b
  | .call c => match c.callee with
    | .builtin b => gBuiltinA P g h b c.args c.argTypes
    | _ => none
  | _ => none
section
variable {P} {self : Fns} {env : Env} {h : Hp} {v : V} {h' : Hp}
theorem some_map {α β : Type} {f : α → β} {x : Option α} {y : β} (e : x.map f = some y) : ∃ a, x = some a ∧ f a = y := Option.map_eq_some_iff.1 e
theorem acStore_g {t : TypeId} {a x : Operand} (e : gStore P env.get h t a x = some (v, h')) : acStore P env h t a x = some (.val v h') := by
  unfold gStore at e
  unfold acStore
  rw [ρ_eq, ρ_eq]
  split at e
  · rename_i h1 h2
    rw [h1, h2]
    obtain ⟨k, hk, e⟩ := some_map e
    cases e
    show (storeV P t _ _ h).map _ = _
    rw [hk]; rfl
  · cases e
theorem acConv_g {s d : TypeId} {x : Operand} (e : gConvA P env.get h s d x = some (v, h')) : acConv P env h s d x = some (.val v h') := by
  unfold gConvA at e
  unfold acConv
  rw [ρ_eq]
  split at e
  · rename_i h1
    rw [h1]
    show (convActV P s d _ h).map _ = _
    rw [e]; rfl
  · cases e
theorem acMapSet_g {t : TypeId} {m k x : Operand} (e : gMapSet P env.get h t m k x = some (v, h')) : acMapSet P env h t m k x = some (.val v h') := by
  unfold gMapSet at e
  unfold acMapSet
  rw [ρ_eq, ρ_eq, ρ_eq]
  split at e
  · rename_i h1 h2 h3
    rw [h1, h2, h3]
    obtain ⟨k, hk, e⟩ := some_map e
    cases e
    show (mapSet P t _ _ _ h).map _ = _
    rw [hk]; rfl
  · cases e
theorem acMapEntry_g {t : TypeId} {m k : Operand} (e : gMapEntry P env.get h t m k = some (v, h')) : acMapEntry P env h t m k = some (.val v h') := by
  unfold gMapEntry at e
  unfold acMapEntry
  rw [ρ_eq, ρ_eq]
  split at e
  · rename_i h1 h2
    rw [h1, h2]
    show (mapEntryV P t _ _ h).map _ = _
    rw [e]; rfl
  · cases e
theorem acEntryStore_g {m k x : Operand} (e : gEntryStore env.get h m k x = some (v, h')) : acEntryStore env h m k x = some (.val v h') := by
  unfold gEntryStore at e
  unfold acEntryStore
  rw [ρ_eq, ρ_eq, ρ_eq]
  split at e
  · rename_i h1 h2 h3
    rw [h1, h2, h3]
    obtain ⟨k, hk, e⟩ := some_map e
    cases e
    show (entryStoreV _ _ _ h).map _ = _
    rw [hk]; rfl
  · cases e
theorem acRange_g {t : TypeId} {x : Operand} (e : gRange P env.get h t x = some (v, h')) : acRange P env h t x = some (.val v h') := by
  unfold gRange at e
  unfold acRange
  rw [ρ_eq]
  split at e
  · rename_i h1 h2
    rw [h1, h2]
    cases e; rfl
  · cases e
theorem acNext_g {x : Operand} {b : Bool} (e : gNext env.get h x b = some (v, h')) : acNext env h x b = some (.val v h') := by
  unfold gNext at e
  unfold acNext
  rw [ρ_eq]
  split at e
  · rename_i h1
    rw [h1]
    show (nextV _ h).map _ = _
    rw [e]; rfl
  · cases e
theorem acBuiltin_g {b : Builtin} {as : Array Operand} {ts : Array TypeId} (e : gBuiltinA P env.get h b as ts = some (v, h')) : acBuiltin P env h b as ts = some (.val v h') := by
  unfold gBuiltinA at e
  unfold acBuiltin
  rw [ρs_eq]
  split at e
  · rename_i h1
    rw [h1]
    split at e
    · rename_i h2
      simp only [h2]
      rw [e]; rfl
    · rename_i h2
      simp only [h2]
      rw [e]; rfl
    · rename_i h2
      obtain ⟨k, hk, e⟩ := some_map e
      cases e
      simp only [h2]
      rw [hk]; rfl
    · cases e
  · cases e
theorem gAct_ev {o : Op} (e : gAct P env.get h o = some (v, h')) : evActOp P self env h o = some (.val v h') := by
  cases o <;> first
    | exact acStore_g e
    | exact acConv_g e
    | exact acMapSet_g e
    | exact acMapEntry_g e
    | exact acEntryStore_g e
    | exact acRange_g e
    | exact acNext_g e
    | (cases e; done)
    | skip
  rename_i c
  obtain ⟨cal, as, ts⟩ := c
  cases cal <;> first
    | exact acBuiltin_g e
    | (cases e; done)
end
end Go.Ev
end
section
namespace Go.Ev
abbrev Post := Ex → G → List Dfr → PM → Hp → Prop
def onNorm (K : G → List Dfr → PM → Hp → Prop) (Q : Post) : Post := fun e g ds pm h => match e with
  | .norm => K g ds pm h
  | e => Q e g ds pm h
def onExit (id : Nat) (Q : Post) : Post := fun e g ds pm h => match e with
  | .exit i => if i = id then Q .norm g ds pm h else Q (.exit i) g ds pm h
  | e => Q e g ds pm h
def Hp.bump (h : Hp) (k : Nat) : Hp := ⟨h.next + k, h.tr⟩
def RunTo (N : Nat) (x : Nat → Option (Ex × St)) (Q : Post) : Prop := ∃ n e st', x n = some (e, st') ∧ st'.env.n = N ∧ Q e st'.env.get st'.ds st'.pm st'.h
section
variable (P : Program) (sm : Sums)
def WCall (f : Nat) (args : List V) (h : Hp) (Q : VRes → Prop) : Prop := ∃ n r, (fns P sm n).cl f args h = some r ∧ Q r
def WVal (fv : V) (args : List V) (h : Hp) (Q : VRes → Prop) : Prop := ∃ n r, callV (fns P sm n) fv args h = some r ∧ Q r
def convAny (g : G) (h : Hp) (s d : TypeId) (x : Operand) : Option (V × Hp) :=
  match gConv P g s d x with
  | some v => some (v, h)
  | none => gConvA P g h s d x
def biAny (g : G) (h : Hp) (b : Builtin) (as : Array Operand) (ts : Array TypeId) : Option (V × Hp) :=
  match gBuiltin P g h b as ts with
  | some v => some (v, h)
  | none => gBuiltinA P g h b as ts
def onRet (K : V → Hp → Prop) (Q : V → Hp → Prop) : VRes → Prop
  | .ret v h => K v h
  | .pan v h => Q v h
variable (N : Nat) (kd : Kd)
def WOp (o : Oper) (g : G) (ds : List Dfr) (pm : PM) (h : Hp) (K : G → List Dfr → PM → Hp → Prop) (Q : Post) : Prop :=
  match o.op with
  | .alloc _ | .box .. | .buildSlice .. | .makeMap .. | .makeSlice .. => ∃ v lo, gAlloc P g h.next o.op = some (v, lo) ∧ K (updo g o.dst v) ds pm (h.new lo).2
  | .store .. | .mapUpdate .. | .insert .. | .mapEntry .. | .entryStore .. | .range .. | .next .. => ∃ v h', gAct P g h o.op = some (v, h') ∧ K (updo g o.dst v) ds pm h'
  | .convert s d x => ∃ v h', convAny P g h s d x = some (v, h') ∧ K (updo g o.dst v) ds pm h'
  | .call c => match c.callee with
    | .builtin .panic => ∃ t v, ρsG g c.args.toList = some [.iface t v] ∧ Q (.pan (.iface t v)) g ds pm h
    | .builtin .recover => (match kd with
      | .deferred => (match pm with
        | .pan v false => K (updo g o.dst v) ds (.pan v true) h
        | pm' => K (updo g o.dst .nilI) ds pm' h)
      | _ => False) ∧ c.args = #[]
    | .builtin b => ∃ v h', biAny P g h b c.args c.argTypes = some (v, h') ∧ K (updo g o.dst v) ds pm h'
    | .value f => ∃ fv vs, ρG g f = some fv ∧ ρsG g c.args.toList = some vs ∧ WVal P sm fv vs h (onRet (fun v h' => K (updo g o.dst v) ds pm h') (fun v h' => Q (.pan v) g ds pm h'))
    | _ => False
  | .defer c => (match kd with | .round _ => False | _ => True) ∧ ∃ f a b vs, (match c.callee with | .value f => ρG g f | _ => none) = some (.func f a b) ∧ ρsG g c.args.toList = some vs ∧ K (updo g o.dst .undef) (.call f (a ++ vs ++ b) :: ds) pm h
  | .panic x => ∃ t v, ρG g x = some (.iface t v) ∧ Q (.pan (.iface t v)) g ds pm h
  | _ => ∃ v, gRead P g h o.op = some v ∧ K (updo g o.dst v) ds pm h
def guardV (ops : List Oper) (g : G) (j : Nat) : Option Bool :=
  match (ops[j]?).bind (·.dst) with
  | some d => match g d with
    | .bool b => some b
    | _ => none
  | none => none
def wantB (x : Option Bool) (want : Bool) : Bool := match x with
  | some b => br want b (not b)
  | none => false
def WO (ops : List Oper) : List Oper → G → List Dfr → PM → Hp → Post → Prop
  | [], g, ds, pm, h, Q => Q .norm g ds pm h
  | o :: rest, g, ds, pm, h, Q =>
    match o.guard with
    | none => WOp P sm kd o g ds pm h (fun g ds pm h => WO ops rest g ds pm h Q) Q
    | some (j, want) => (wantB (guardV ops g j) want = true → WOp P sm kd o g ds pm h (fun g ds pm h => WO ops rest g ds pm h Q) Q) ∧ (wantB (guardV ops g j) want = false → WO ops rest (updo g o.dst .undef) ds pm h Q)
end
theorem onRet_ret (K Q : V → Hp → Prop) (v : V) (h : Hp) : onRet K Q (.ret v h) = K v h := rfl
section
variable {P : Program} {sm : Sums} {N : Nat} {kd : Kd}
theorem get_put {env : Env} {g : G} {d : Option Tmp} {v : V} (hn : env.n = N) (hg : env.get = g) (hd : ∀ t, d = some t → t < N) : (Ev.put env d v).n = N ∧ (Ev.put env d v).get = updo g d v := by
  subst hg
  cases d with
  | none => exact ⟨hn, rfl⟩
  | some t =>
    refine ⟨(Env.n_set env t v).trans hn, ?_⟩
    funext j
    show (env.set t v).get j = upd env.get t v j
    rw [Env.get_set, upd]
    have : t < env.n := by rw [hn]; exact hd t rfl
    simp [this]
def dstOk (N : Nat) (o : Oper) : Bool := match o.dst with
  | some d => Nat.blt d N
  | none => true
theorem dstOk_lt {o : Oper} (h : dstOk N o = true) : ∀ t, o.dst = some t → t < N := by
  intro t ht
  unfold dstOk at h
  rw [ht] at h
  simpa [Nat.blt_eq] using h
theorem WOp_run {o : Oper} {g : G} {ds : List Dfr} {pm : PM} {h : Hp} {K : G → List Dfr → PM → Hp → Prop} {Q : Post} (w : WOp P sm kd o g ds pm h K Q) (hd : dstOk N o = true) {env : Env} (hn : env.n = N) (hg : env.get = g) :
    (∃ n env' ds' pm' h', opStep P (fns P sm n) kd o ⟨env, ds, pm, h⟩ = some (.on ⟨env', ds', pm', h'⟩) ∧ env'.n = N ∧ K env'.get ds' pm' h') ∨
    (∃ n v h', opStep P (fns P sm n) kd o ⟨env, ds, pm, h⟩ = some (.pan v ⟨env, ds, pm, h'⟩) ∧ Q (.pan v) env.get ds pm h') := by
  have hd' := dstOk_lt hd
  obtain ⟨dst, op, ty, pos, after, guard⟩ := o
  have rd : (∃ v, gRead P g h op = some v ∧ K (updo g dst v) ds pm h) → ∃ n env' ds' pm' h', opStep P (fns P sm n) kd ⟨dst, op, ty, pos, after, guard⟩ ⟨env, ds, pm, h⟩ = some (.on ⟨env', ds', pm', h'⟩) ∧ env'.n = N ∧ K env'.get ds' pm' h' := by
    rintro ⟨v, e, k⟩
    obtain ⟨h1, h2⟩ := get_put (v := v) hn hg hd'
    refine ⟨0, Ev.put env dst v, ds, pm, h, ?_, h1, by rw [h2]; exact k⟩
    have : opRead P ⟨dst, op, ty, pos, after, guard⟩ ⟨env, ds, pm, h⟩ = some ⟨Ev.put env dst v, ds, pm, h⟩ := by
      show (match evReadOp P env h op with | some v => some (⟨Ev.put env dst v, ds, pm, h⟩ : St) | none => none) = _
      rw [gRead_eq, hg, e]
    unfold opStep
    rw [this]
  have al : (gRead P g h op = none) → (∃ v lo, gAlloc P g h.next op = some (v, lo) ∧ K (updo g dst v) ds pm (h.new lo).2) → ∃ n env' ds' pm' h', opStep P (fns P sm n) kd ⟨dst, op, ty, pos, after, guard⟩ ⟨env, ds, pm, h⟩ = some (.on ⟨env', ds', pm', h'⟩) ∧ env'.n = N ∧ K env'.get ds' pm' h' := by
    rintro e0 ⟨v, lo, e, k⟩
    obtain ⟨h1, h2⟩ := get_put (v := v) hn hg hd'
    refine ⟨0, Ev.put env dst v, ds, pm, (h.new lo).2, ?_, h1, by rw [h2]; exact k⟩
    have r0 : opRead P ⟨dst, op, ty, pos, after, guard⟩ ⟨env, ds, pm, h⟩ = none := by
      show (match evReadOp P env h op with | some v => some (⟨Ev.put env dst v, ds, pm, h⟩ : St) | none => none) = _
      rw [gRead_eq, hg, e0]
    have r1 : opAlloc P ⟨dst, op, ty, pos, after, guard⟩ ⟨env, ds, pm, h⟩ = some ⟨Ev.put env dst v, ds, pm, (h.new lo).2⟩ := by
      show (match evAllocOp P env h.next op with | some (v, lo) => some (⟨Ev.put env dst v, ds, pm, (h.new lo).2⟩ : St) | none => none) = _
      rw [gAlloc_eq, hg, e]
    unfold opStep
    rw [r0, r1]
  have acr : ∀ {n : Nat} {r : OpR} {x : Go1}, (gRead P g h op = none) → (gAlloc P g h.next op = none) → evActOp P (fns P sm n) env h op = some r → opAct P (fns P sm n) kd ⟨dst, op, ty, pos, after, guard⟩ ⟨env, ds, pm, h⟩ = some x → opStep P (fns P sm n) kd ⟨dst, op, ty, pos, after, guard⟩ ⟨env, ds, pm, h⟩ = some x := by
    intro n r x e0 e1 _ hx
    have r0 : opRead P ⟨dst, op, ty, pos, after, guard⟩ ⟨env, ds, pm, h⟩ = none := by
      show (match evReadOp P env h op with | some v => some (⟨Ev.put env dst v, ds, pm, h⟩ : St) | none => none) = _
      rw [gRead_eq, hg, e0]
    have r1 : opAlloc P ⟨dst, op, ty, pos, after, guard⟩ ⟨env, ds, pm, h⟩ = none := by
      show (match evAllocOp P env h.next op with | some (v, lo) => some (⟨Ev.put env dst v, ds, pm, (h.new lo).2⟩ : St) | none => none) = _
      rw [gAlloc_eq, hg, e1]
    unfold opStep
    rw [r0, r1]
    exact hx
  have ac : (gRead P g h op = none) → (gAlloc P g h.next op = none) → (∃ v h', gAct P g h op = some (v, h') ∧ K (updo g dst v) ds pm h') → ∃ n env' ds' pm' h', opStep P (fns P sm n) kd ⟨dst, op, ty, pos, after, guard⟩ ⟨env, ds, pm, h⟩ = some (.on ⟨env', ds', pm', h'⟩) ∧ env'.n = N ∧ K env'.get ds' pm' h' := by
    rintro e0 e1 ⟨v, h', e, k⟩
    obtain ⟨h1, h2⟩ := get_put (v := v) hn hg hd'
    have r2 : evActOp P (fns P sm 0) env h op = some (.val v h') := gAct_ev (by rw [hg]; exact e)
    refine ⟨0, Ev.put env dst v, ds, pm, h', acr e0 e1 r2 ?_, h1, by rw [h2]; exact k⟩
    show (match evActOp P (fns P sm 0) env h op with | some (.val v h') => some (Go1.on ⟨Ev.put env dst v, ds, pm, h'⟩) | some (.pan v h') => some (.pan v ⟨env, ds, pm, h'⟩) | some (.dfr d) => _ | some .rcv => _ | none => none) = _
    rw [r2]
  cases op <;> first
    | exact .inl (rd w)
    | exact .inl (al rfl w)
    | exact .inl (ac rfl rfl w)
    | skip
  · 
    rename_i s d x
    obtain ⟨v, h', e, k⟩ := w
    unfold convAny at e
    split at e
    · rename_i v' hv
      cases e
      exact .inl (rd ⟨v, hv, k⟩)
    · rename_i hv
      exact .inl (ac hv rfl ⟨v, h', e, k⟩)
  · 
    rename_i c
    obtain ⟨cal, as, ts⟩ := c
    cases cal with
    | builtin b =>
      have gen : (∃ v h', biAny P g h b as ts = some (v, h') ∧ K (updo g dst v) ds pm h') → ∃ n env' ds' pm' h', opStep P (fns P sm n) kd ⟨dst, .call ⟨.builtin b, as, ts⟩, ty, pos, after, guard⟩ ⟨env, ds, pm, h⟩ = some (.on ⟨env', ds', pm', h'⟩) ∧ env'.n = N ∧ K env'.get ds' pm' h' := by
        rintro ⟨v, h', e, k⟩
        unfold biAny at e
        split at e
        · rename_i v' hv
          cases e
          exact rd ⟨v, hv, k⟩
        · rename_i hv
          exact ac hv rfl ⟨v, h', e, k⟩
      cases b <;> first
        | exact .inl (gen w)
        | skip
      · 
        obtain ⟨t, v, e, k⟩ := w
        refine .inr ⟨0, .iface t v, h, acr (r := .pan (.iface t v) h) ?_ rfl ?_ ?_, by rw [hg]; exact k⟩
        · show (match ρsG g as.toList with | some vs => (match Builtin.panic, vs, ts.toList with | .len, [x], t :: _ => lenV P t x h | .cap, [x], t :: _ => capV P t x | .min, x :: l, _ => minmax false x l | .max, x :: l, _ => minmax true x l | _, _, _ => none) | none => none) = none
          rw [show ρsG g as.toList = _ from e]
        · show acBuiltin P env h .panic as ts = _
          unfold acBuiltin
          rw [ρs_eq, hg, show ρsG g as.toList = _ from e]
        · show (match acBuiltin P env h .panic as ts with | some (.val v h') => some (Go1.on ⟨Ev.put env dst v, ds, pm, h'⟩) | some (.pan v h') => some (.pan v ⟨env, ds, pm, h'⟩) | some (.dfr d) => _ | some .rcv => _ | none => none) = _
          unfold acBuiltin
          rw [ρs_eq, hg, show ρsG g as.toList = _ from e]
      · 
        obtain ⟨w, has⟩ := w
        have has : as = #[] := has
        subst has
        have r2 : ∀ n, evActOp P (fns P sm n) env h (.call ⟨.builtin .recover, #[], ts⟩) = some .rcv := fun n => rfl
        have r3 : opStep P (fns P sm 0) kd ⟨dst, .call ⟨.builtin .recover, #[], ts⟩, ty, pos, after, guard⟩ ⟨env, ds, pm, h⟩ = opRcv kd ⟨dst, .call ⟨.builtin .recover, #[], ts⟩, ty, pos, after, guard⟩ ⟨env, ds, pm, h⟩ := rfl
        cases kd with
        | normal => exact w.elim
        | round l => exact w.elim
        | deferred =>
          cases pm with
          | ret =>
            obtain ⟨h1, h2⟩ := get_put (v := .nilI) hn hg hd'
            exact .inl ⟨0, Ev.put env dst .nilI, ds, .ret, h, r3, h1, by rw [h2]; exact w⟩
          | pan v rc =>
            cases rc with
            | false =>
              obtain ⟨h1, h2⟩ := get_put (v := v) hn hg hd'
              exact .inl ⟨0, Ev.put env dst v, ds, .pan v true, h, r3, h1, by rw [h2]; exact w⟩
            | true =>
              obtain ⟨h1, h2⟩ := get_put (v := .nilI) hn hg hd'
              exact .inl ⟨0, Ev.put env dst .nilI, ds, .pan v true, h, r3, h1, by rw [h2]; exact w⟩
    | value f =>
      obtain ⟨fv, vs, e1, e2, n, r, hc, hq⟩ := w
      have r2 : evActOp P (fns P sm n) env h (.call ⟨.value f, as, ts⟩) = some r.op := by
        show (match ρ env f, ρs env as.toList with | some fv, some vs => (callV (fns P sm n) fv vs h).map VRes.op | _, _ => none) = _
        rw [ρ_eq, ρs_eq, hg, e1, show ρsG g as.toList = _ from e2]
        show (callV (fns P sm n) fv vs h).map VRes.op = _
        rw [hc]; rfl
      cases r with
      | ret v h' =>
        obtain ⟨h1, h2⟩ := get_put (v := v) hn hg hd'
        refine .inl ⟨n, Ev.put env dst v, ds, pm, h', acr rfl rfl r2 ?_, h1, by rw [h2]; exact hq⟩
        show (match evActOp P (fns P sm n) env h (.call ⟨.value f, as, ts⟩) with | some (.val v h') => some (Go1.on ⟨Ev.put env dst v, ds, pm, h'⟩) | some (.pan v h') => some (.pan v ⟨env, ds, pm, h'⟩) | some (.dfr d) => _ | some .rcv => _ | none => none) = _
        rw [r2]; rfl
      | pan v h' =>
        refine .inr ⟨n, v, h', acr rfl rfl r2 ?_, by rw [hg]; exact hq⟩
        show (match evActOp P (fns P sm n) env h (.call ⟨.value f, as, ts⟩) with | some (.val v h') => some (Go1.on ⟨Ev.put env dst v, ds, pm, h'⟩) | some (.pan v h') => some (.pan v ⟨env, ds, pm, h'⟩) | some (.dfr d) => _ | some .rcv => _ | none => none) = _
        rw [r2]; rfl
    | invoke r m => exact w.elim
  · 
    rename_i c
    obtain ⟨hk, f, a, b, vs, e1, e2, k⟩ := w
    obtain ⟨cal, as, ts⟩ := c
    cases cal with
    | value fo =>
      have r2 : evActOp P (fns P sm 0) env h (.defer ⟨.value fo, as, ts⟩) = some (.dfr (.call f (a ++ vs ++ b))) := by
        show (match ρ env fo, ρs env as.toList with | some (.func f a b), some vs => some (OpR.dfr (.call f (a ++ vs ++ b))) | _, _ => none) = _
        rw [ρ_eq, ρs_eq, hg, show ρG g fo = _ from e1, show ρsG g as.toList = _ from e2]
      obtain ⟨h1, h2⟩ := get_put (v := .undef) hn hg hd'
      refine .inl ⟨0, Ev.put env dst .undef, .call f (a ++ vs ++ b) :: ds, pm, h, acr rfl rfl r2 ?_, h1, by rw [h2]; exact k⟩
      have r2' : evAct P (fns P sm 0) env h ⟨dst, .defer ⟨.value fo, as, ts⟩, ty, pos, after, guard⟩ = some (.dfr (.call f (a ++ vs ++ b))) := r2
      unfold opAct
      cases kd with
      | round l => exact hk.elim
      | normal => simp only [r2']
      | deferred => simp only [r2']
    | invoke r m => cases e1
    | builtin b => cases e1
  · 
    rename_i x
    obtain ⟨t, v, e, k⟩ := w
    have r2 : evActOp P (fns P sm 0) env h (.panic x) = some (.pan (.iface t v) h) := by
      show (match ρ env x with | some (.iface t v) => some (OpR.pan (.iface t v) h) | _ => none) = _
      rw [ρ_eq, hg, e]
    refine .inr ⟨0, .iface t v, h, acr rfl rfl r2 ?_, by rw [hg]; exact k⟩
    show (match evActOp P (fns P sm 0) env h (.panic x) with | some (.val v h') => some (Go1.on ⟨Ev.put env dst v, ds, pm, h'⟩) | some (.pan v h') => some (.pan v ⟨env, ds, pm, h'⟩) | some (.dfr d) => _ | some .rcv => _ | none => none) = _
    rw [r2]
end
end Go.Ev
end
section
namespace Go.Ev
structure Chk where
  i : Nat
  f : Hp → Option V
  v : V
def needsHp : Op → Bool
  | .load .. | .binOp .. | .slice .. | .lookup .. | .call _ => true
  | _ => false
section
variable (P : Program) (sm : Sums) (N : Nat) (kd : Kd)
def look1G (b : List Nat) (pd : List Pend) (c : Chk) (ws : List Nat) (h : Hp) : Prop := ∃ v, c.f (addAll h (pd.filter (wants b c.i ws))) = some v ∧ V.same 20 v c.v = true
def looksG (b : List Nat) (pd : List Pend) (c : Chk) : List Nat → List Hp → Prop
  | [], h :: _ => look1G b pd c [] h
  | w :: ws, h :: hs => (((w :: ws).any fun x => isB b x c.i) = true ∨ look1G b pd c (w :: ws) h) ∧ (isB b c.i w = true ∨ looksG b pd c ws hs)
  | _, [] => False
def allG (b : List Nat) (pd : List Pend) (ws : List Nat) (hs : List Hp) : List Chk → Prop
  | [] => True
  | c :: l => looksG b pd c ws hs ∧ allG b pd ws hs l
abbrev DPost := G → List Nat → List Hp → List Pend → List Chk → Prop
def WDRead (o : Oper) (i : Nat) (g : G) (h : Hp) (K : G → List Chk → Prop) (rs : List Chk) : Prop :=
  ∃ v, gRead P g h o.op = some v ∧ V.same 20 v v = true ∧ K (updo g o.dst v) (br (needsHp o.op) (⟨i, fun h' => gRead P g h' o.op, v⟩ :: rs) rs)
def WDAct (o : Oper) (g : G) (h : Hp) (K : G → Hp → Prop) : Prop := ∃ v h', gAct P g h o.op = some (v, h') ∧ K (updo g o.dst v) h'
def WDOp (b : List Nat) (n0 i : Nat) (o : Oper) (g : G) (ws : List Nat) (hs : List Hp) (h : Hp) (pd : List Pend) (rs : List Chk) (K : DPost) : Prop :=
  match o.op with
  | .alloc _ | .box .. | .buildSlice .. | .makeMap .. | .makeSlice .. => ∃ v lo, gAlloc P g (n0 + i) o.op = some (v, lo) ∧ K (updo g o.dst v) ws hs (⟨i, n0 + i, lo⟩ :: pd) rs
  | .store .. | .mapUpdate .. | .insert .. | .mapEntry .. | .entryStore .. | .range .. | .next .. => WDAct P o g (addAll h (pd.filter (wants b i ws))) (fun g h' => K g (i :: ws) (h' :: hs) pd rs)
  | .convert s d x => (gConv P g s d x ≠ none ∧ WDRead P o i g (addAll h (pd.filter (wants b i ws))) (fun g rs => K g ws hs pd rs) rs) ∨
      (gConv P g s d x = none ∧ WDAct P o g (addAll h (pd.filter (wants b i ws))) (fun g h' => K g (i :: ws) (h' :: hs) pd rs))
  | .call c => match c.callee with
    | .builtin .len | .builtin .cap | .builtin .min | .builtin .max => WDRead P o i g (addAll h (pd.filter (wants b i ws))) (fun g rs => K g ws hs pd rs) rs
    | .builtin .append | .builtin .copy | .builtin .delete => WDAct P o g (addAll h (pd.filter (wants b i ws))) (fun g h' => K g (i :: ws) (h' :: hs) pd rs)
    | .value f => ∃ fv vs, ρG g f = some fv ∧ ρsG g c.args.toList = some vs ∧ WVal P sm fv vs (addAll h (pd.filter (wants b i ws))) (onRet (fun v h' => K (updo g o.dst v) (i :: ws) (h' :: hs) pd rs) (fun _ _ => False))
    | _ => False
  | .defer _ | .panic _ => False
  | _ => WDRead P o i g (addAll h (pd.filter (wants b i ws))) (fun g rs => K g ws hs pd rs) rs
def WDops (b : List Nat) (n0 : Nat) (ops : List Oper) : Nat → List Oper → G → List Nat → List Hp → List Pend → List Chk → DPost → Prop
  | _, [], g, ws, hs, pd, rs, K => K g ws hs pd rs
  | i, o :: rest, g, ws, hs, pd, rs, K =>
    match hs with
    | [] => False
    | h :: hs' => match o.guard with
      | none => WDOp P sm b n0 i o g ws (h :: hs') h pd rs (fun g ws hs pd rs => WDops b n0 ops (i + 1) rest g ws hs pd rs K)
      | some (j, want) => (wantB (guardV ops g j) want = true → WDOp P sm b n0 i o g ws (h :: hs') h pd rs (fun g ws hs pd rs => WDops b n0 ops (i + 1) rest g ws hs pd rs K)) ∧
          (wantB (guardV ops g j) want = false → WDops b n0 ops (i + 1) rest (updo g o.dst .undef) ws (h :: hs') pd rs K)
def WDEnd (b : List Nat) (ds : List Dfr) (pm : PM) (Q : Post) : DPost := fun g ws hs pd rs =>
  chain b ws = true ∧ allG b pd ws hs rs ∧ match hs with
    | h :: _ => Q .norm g ds pm (addAll h (pd.filter (fun p => not (inHeap b ws p))))
    | [] => False
def WD (ops : List Oper) (g : G) (ds : List Dfr) (pm : PM) (h : Hp) (Q : Post) : Prop :=
  WDops P sm (CheckFast.beforeL ops 0 []) h.next ops 0 ops g [] [h.bump ops.length] [] [] (WDEnd (CheckFast.beforeL ops 0 []) ds pm Q)
def WLp (b : Code) (g : G) (ds : List Dfr) (pm : PM) (h : Hp) (Q : Post) : Prop := ∀ env : Env, env.n = N → env.get = g → RunTo N (fun n => (fns P sm n).lp kd b ⟨env, ds, pm, h⟩) Q
def WSp (b c : Code) (g : G) (ds : List Dfr) (pm : PM) (h : Hp) (Q : Post) : Prop := ∀ env : Env, env.n = N → env.get = g → RunTo N (fun n => (fns P sm n).sp kd b c ⟨env, ds, pm, h⟩) Q
def WRg (f : Operand) (ps : Array Tmp) (a b : Code) (g : G) (ds : List Dfr) (pm : PM) (h : Hp) (Q : Post) : Prop := ∀ env : Env, env.n = N → env.get = g → RunTo N (fun n => evRange (fns P sm n) kd f ps a b ⟨env, ds, pm, h⟩) Q
def W : Code → G → List Dfr → PM → Hp → Post → Prop
  | .skip, g, ds, pm, h, Q => Q .norm g ds pm h
  | .label _, g, ds, pm, h, Q => Q .norm g ds pm h
  | .region _ ops false, g, ds, pm, h, Q => WO P sm kd ops.toList ops.toList g ds pm h Q
  | .region _ ops true, g, ds, pm, h, Q => WD P sm ops.toList g ds pm h Q
  | .seq a b, g, ds, pm, h, Q => W a g ds pm h (onNorm (fun g ds pm h => W b g ds pm h Q) Q)
  | .cond c a b, g, ds, pm, h, Q => ∃ x, ρG g c = some (.bool x) ∧ (x = true → W a g ds pm h Q) ∧ (x = false → W b g ds pm h Q)
  | .block id b, g, ds, pm, h, Q => W b g ds pm h (onExit id Q)
  | .loop b, g, ds, pm, h, Q => WLp P sm N kd b g ds pm h Q
  | .rangeFunc f ps a b, g, ds, pm, h, Q => WRg P sm N kd f ps a b g ds pm h Q
  | .exit id, g, ds, pm, h, Q => Q (.exit id) g ds pm h
  | .scope b, g, ds, pm, h, Q => WSp P sm N kd b b g ds pm h Q
  | .goto l, g, ds, pm, h, Q => Q (.goto l) g ds pm h
  | .ret, g, ds, pm, h, Q => Q .ret g ds pm h
  | .refuse _, _, _, _, _, _ => False
end
def dstsOk (N : Nat) : List Oper → Bool
  | [] => true
  | o :: l => and (dstOk N o) (dstsOk N l)
def codeDst (N : Nat) : Code → Bool
  | .region _ ops _ => dstsOk N ops.toList
  | .seq a b | .cond _ a b => and (codeDst N a) (codeDst N b)
  | .block _ c | .loop c | .scope c => codeDst N c
  | .rangeFunc _ _ a b => and (codeDst N a) (codeDst N b)
  | _ => true
section
variable {P : Program} {sm : Sums} {N : Nat} {kd : Kd}
theorem WO_run {ops : List Oper} {Q : Post} : ∀ (l : List Oper) {g : G} {ds : List Dfr} {pm : PM} {h : Hp}, WO P sm kd ops l g ds pm h Q → dstsOk N l = true → ∀ env : Env, env.n = N → env.get = g → RunTo N (fun n => evOps P (fns P sm n) kd ops l ⟨env, ds, pm, h⟩) Q
  | [], g, ds, pm, h, w, _, env, hn, hg => ⟨0, .norm, ⟨env, ds, pm, h⟩, rfl, hn, by rw [hg]; exact w⟩
  | o :: l, g, ds, pm, h, w, hd, env, hn, hg => by
    unfold dstsOk at hd
    rw [Bool.and_eq_true] at hd
    have run : WOp P sm kd o g ds pm h (fun g ds pm h => WO P sm kd ops l g ds pm h Q) Q → wantedV ops env o = true → RunTo N (fun n => evOps P (fns P sm n) kd ops (o :: l) ⟨env, ds, pm, h⟩) Q := by
      intro w hw
      rcases WOp_run w hd.1 hn hg with ⟨n, env', ds', pm', h', e, hn', k⟩ | ⟨n, v, h', e, k⟩
      · obtain ⟨m, ex, st', em, hm, hq⟩ := WO_run l k hd.2 env' hn' rfl
        refine ⟨max n m, ex, st', ?_, hm, hq⟩
        show br (wantedV ops env o) (match opStep P (fns P sm (max n m)) kd o ⟨env, ds, pm, h⟩ with | some (.on st') => evOps P (fns P sm (max n m)) kd ops l st' | some (.pan v st') => some (.pan v, st') | none => none) _ = _
        rw [hw, opStep_mono (fns_le (Nat.le_max_left n m)) e]
        exact evOps_mono (fns_le (Nat.le_max_right n m)) l em
      · refine ⟨n, .pan v, ⟨env, ds, pm, h'⟩, ?_, hn, k⟩
        show br (wantedV ops env o) (match opStep P (fns P sm n) kd o ⟨env, ds, pm, h⟩ with | some (.on st') => evOps P (fns P sm n) kd ops l st' | some (.pan v st') => some (.pan v, st') | none => none) _ = _
        rw [hw, e]
        first | done | rfl
    unfold WO at w
    cases hgd : o.guard with
    | none =>
      rw [hgd] at w
      exact run w (by unfold wantedV; rw [hgd])
    | some jw =>
      obtain ⟨j, want⟩ := jw
      rw [hgd] at w
      obtain ⟨w1, w2⟩ := w
      have hwv : wantedV ops env o = wantB (guardV ops g j) want := by
        unfold wantedV
        rw [hgd, ← hg]
        rfl
      cases hxw : wantB (guardV ops g j) want with
      | true => exact run (w1 hxw) (hwv.trans hxw)
      | false =>
        have hxw' := hxw
        have hwf : wantedV ops env o = false := hwv.trans hxw
        obtain ⟨h1, h2⟩ := get_put (v := .undef) hn hg (dstOk_lt hd.1)
        obtain ⟨m, ex, st', em, hm, hq⟩ := WO_run l (w2 hxw') hd.2 _ h1 h2
        refine ⟨m, ex, st', ?_, hm, hq⟩
        show br (wantedV ops env o) _ (evOps P (fns P sm m) kd ops l ⟨Ev.put env o.dst .undef, ds, pm, h⟩) = _
        rw [hwf]
        exact em
def RecOk (P : Program) (rs : List Chk) (r : Rec) : Prop :=
  ((∀ h, evRead P r.env h r.o = some r.v) ∧ V.same 20 r.v r.v = true) ∨ ∃ c ∈ rs, c.i = r.i ∧ c.v = r.v ∧ ∀ h, c.f h = evRead P r.env h r.o
theorem RecOk.mono {rs rs' : List Chk} {r : Rec} (h : RecOk P rs r) (hs : ∀ c ∈ rs, c ∈ rs') : RecOk P rs' r := by
  rcases h with h | ⟨c, hc, h⟩
  · exact .inl h
  · exact .inr ⟨c, hs c hc, h⟩
theorem needsHp_false {op : Op} (hh : needsHp op = false) (hcv : ∀ s d x, op ≠ .convert s d x) (g : G) (h h' : Hp) : gRead P g h op = gRead P g h' op := by
  cases op <;> first
    | rfl
    | cases hh
theorem gRead_conv (g : G) (h : Hp) (s d : TypeId) (x : Operand) (h' : Hp) : gRead P g h (.convert s d x) = gRead P g h' (.convert s d x) := rfl
structure CourseR (P : Program) (N : Nat) (c : Course) (g : G) (ws : List Nat) (hs : List Hp) (pd : List Pend) (rs : List Chk) : Prop where
  n : c.env.n = N
  g : c.env.get = g
  len : hs.length = ws.length + 1
  rs : ∀ r ∈ c.rs, RecOk P rs r
  ws : c.ws = ws
  hs : c.hs = hs
  pd : c.pd = pd
theorem WDRead_run {o : Oper} {i : Nat} {c : Course} {g : G} {ws : List Nat} {hs : List Hp} {pd : List Pend} {rs : List Chk} {b : List Nat} {h : Hp} {K : G → List Chk → Prop}
    (w : WDRead P o i g (addAll h (pd.filter (wants b i ws))) K rs) (hc : CourseR P N c g ws hs pd rs) (hd : dstOk N o = true) :
    ∃ c' g' rs', dwRead P b i o c h = some c' ∧ CourseR P N c' g' ws hs pd rs' ∧ K g' rs' := by
  obtain ⟨v, e, hv, k⟩ := w
  obtain ⟨h1, h2⟩ := get_put (v := v) hc.n hc.g (dstOk_lt hd)
  have er : evRead P c.env (addAll h (pd.filter (wants b i ws))) o = some v := by
    show evReadOp P c.env _ o.op = _
    rw [gRead_eq, hc.g, e]
  refine ⟨⟨Ev.put c.env o.dst v, c.ws, c.hs, c.pd, ⟨o, i, c.env, v⟩ :: c.rs⟩, updo g o.dst v, _, ?_, ⟨h1, h2, hc.len, ?_, hc.ws, hc.hs, hc.pd⟩, k⟩
  · unfold dwRead
    rw [hc.pd, hc.ws, er]
  · intro r hr
    have hsub : ∀ x ∈ rs, x ∈ br (needsHp o.op) (⟨i, fun h' => gRead P g h' o.op, v⟩ :: rs) rs := by
      intro x hx
      cases needsHp o.op
      · exact hx
      · exact List.mem_cons_of_mem _ hx
    rcases List.mem_cons.1 hr with rfl | hr
    · cases hn : needsHp o.op with
      | true =>
        refine .inr ⟨_, List.mem_cons_self, rfl, rfl, fun h' => ?_⟩
        show gRead P g h' o.op = evReadOp P c.env h' o.op
        rw [gRead_eq, hc.g]
      | false =>
        refine .inl ⟨fun h' => ?_, hv⟩
        show evReadOp P c.env h' o.op = some v
        rw [gRead_eq, hc.g, ← e]
        obtain ⟨dst, op, ty, pos, after, guard⟩ := o
        cases op <;> first
          | rfl
          | cases hn
    · exact (hc.rs r hr).mono hsub
theorem WDOp_run {o : Oper} {i n0 : Nat} {c : Course} {g : G} {ws : List Nat} {hs' : List Hp} {pd : List Pend} {rs : List Chk} {b : List Nat} {h : Hp} {K : DPost}
    (w : WDOp P sm b n0 i o g ws (h :: hs') h pd rs K) (hc : CourseR P N c g ws (h :: hs') pd rs) (hd : dstOk N o = true) :
    ∃ n c' g' ws' hs'' pd' rs', (match dwRead P b i o c h with | some c' => some c' | none => match dwAlloc P n0 i o c with | some c' => some c' | none => dwAct P (fns P sm n) b i o c h) = some c' ∧ CourseR P N c' g' ws' hs'' pd' rs' ∧ K g' ws' hs'' pd' rs' := by
  have hd' := dstOk_lt hd
  have rd : WDRead P o i g (addAll h (pd.filter (wants b i ws))) (fun g rs => K g ws (h :: hs') pd rs) rs → ∃ n c' g' ws' hs'' pd' rs', (match dwRead P b i o c h with | some c' => some c' | none => match dwAlloc P n0 i o c with | some c' => some c' | none => dwAct P (fns P sm n) b i o c h) = some c' ∧ CourseR P N c' g' ws' hs'' pd' rs' ∧ K g' ws' hs'' pd' rs' := by
    intro w
    obtain ⟨c', g', rs', e, hr, k⟩ := WDRead_run w hc hd
    exact ⟨0, c', g', ws, h :: hs', pd, rs', by rw [e], hr, k⟩
  have noRd : gRead P g (addAll h (pd.filter (wants b i ws))) o.op = none → dwRead P b i o c h = none := by
    intro e
    unfold dwRead
    have : evRead P c.env (addAll h (c.pd.filter (wants b i c.ws))) o = none := by
      show evReadOp P c.env _ o.op = _
      rw [gRead_eq, hc.g, hc.pd, hc.ws, e]
    rw [this]
  have noAl : gAlloc P g (n0 + i) o.op = none → dwAlloc P n0 i o c = none := by
    intro e
    unfold dwAlloc
    have : evAlloc P c.env (n0 + i) o = none := by
      show evAllocOp P c.env _ o.op = _
      rw [gAlloc_eq, hc.g, e]
    rw [this]
  have al : gRead P g (addAll h (pd.filter (wants b i ws))) o.op = none → (∃ v lo, gAlloc P g (n0 + i) o.op = some (v, lo) ∧ K (updo g o.dst v) ws (h :: hs') (⟨i, n0 + i, lo⟩ :: pd) rs) → ∃ n c' g' ws' hs'' pd' rs', (match dwRead P b i o c h with | some c' => some c' | none => match dwAlloc P n0 i o c with | some c' => some c' | none => dwAct P (fns P sm n) b i o c h) = some c' ∧ CourseR P N c' g' ws' hs'' pd' rs' ∧ K g' ws' hs'' pd' rs' := by
    rintro e0 ⟨v, lo, e, k⟩
    obtain ⟨h1, h2⟩ := get_put (v := v) hc.n hc.g hd'
    have e2 : dwAlloc P n0 i o c = some ⟨Ev.put c.env o.dst v, c.ws, c.hs, ⟨i, n0 + i, lo⟩ :: c.pd, c.rs⟩ := by
      unfold dwAlloc
      have : evAlloc P c.env (n0 + i) o = some (v, lo) := by
        show evAllocOp P c.env _ o.op = _
        rw [gAlloc_eq, hc.g, e]
      rw [this]
    exact ⟨0, ⟨Ev.put c.env o.dst v, c.ws, c.hs, ⟨i, n0 + i, lo⟩ :: c.pd, c.rs⟩, _, _, _, _, _, by rw [noRd e0, e2], ⟨h1, h2, hc.len, hc.rs, hc.ws, hc.hs, by rw [← hc.pd]⟩, k⟩
  have acv : ∀ {n : Nat} {v : V} {h' : Hp}, gRead P g (addAll h (pd.filter (wants b i ws))) o.op = none → gAlloc P g (n0 + i) o.op = none → evActOp P (fns P sm n) c.env (addAll h (pd.filter (wants b i ws))) o.op = some (.val v h') → K (updo g o.dst v) (i :: ws) (h' :: h :: hs') pd rs → ∃ n c' g' ws' hs'' pd' rs', (match dwRead P b i o c h with | some c' => some c' | none => match dwAlloc P n0 i o c with | some c' => some c' | none => dwAct P (fns P sm n) b i o c h) = some c' ∧ CourseR P N c' g' ws' hs'' pd' rs' ∧ K g' ws' hs'' pd' rs' := by
    intro n v h' e0 e1 e2 k
    obtain ⟨h1, h2⟩ := get_put (v := v) hc.n hc.g hd'
    have e3 : dwAct P (fns P sm n) b i o c h = some ⟨Ev.put c.env o.dst v, i :: c.ws, h' :: c.hs, c.pd, c.rs⟩ := by
      unfold dwAct
      have : evAct P (fns P sm n) c.env (addAll h (c.pd.filter (wants b i c.ws))) o = some (.val v h') := by
        show evActOp P _ c.env _ o.op = _
        rw [hc.pd, hc.ws, e2]
      rw [this]
    exact ⟨n, ⟨Ev.put c.env o.dst v, i :: c.ws, h' :: c.hs, c.pd, c.rs⟩, _, _, _, _, _, by rw [noRd e0, noAl e1, e3], ⟨h1, h2, by have := hc.len; simp only [List.length_cons] at this ⊢; omega, hc.rs, by rw [← hc.ws], by rw [← hc.hs], hc.pd⟩, k⟩
  have ac : gRead P g (addAll h (pd.filter (wants b i ws))) o.op = none → gAlloc P g (n0 + i) o.op = none → WDAct P o g (addAll h (pd.filter (wants b i ws))) (fun g h' => K g (i :: ws) (h' :: h :: hs') pd rs) → ∃ n c' g' ws' hs'' pd' rs', (match dwRead P b i o c h with | some c' => some c' | none => match dwAlloc P n0 i o c with | some c' => some c' | none => dwAct P (fns P sm n) b i o c h) = some c' ∧ CourseR P N c' g' ws' hs'' pd' rs' ∧ K g' ws' hs'' pd' rs' := by
    rintro e0 e1 ⟨v, h', e, k⟩
    exact acv (n := 0) e0 e1 (gAct_ev (by rw [hc.g]; exact e)) k
  obtain ⟨dst, op, ty, pos, after, guard⟩ := o
  cases op <;> first
    | exact rd w
    | exact al rfl w
    | exact ac rfl rfl w
    | exact w.elim
    | skip
  · 
    rename_i s d x
    rcases w with ⟨-, w⟩ | ⟨e, w⟩
    · exact rd w
    · exact ac e rfl w
  · 
    rename_i cc
    obtain ⟨cal, as, ts⟩ := cc
    cases cal with
    | builtin bi =>
      have nr : (bi = .append ∨ bi = .copy ∨ bi = .delete) → gRead P g (addAll h (pd.filter (wants b i ws))) (.call ⟨.builtin bi, as, ts⟩) = none := by
        rintro (rfl | rfl | rfl) <;>
        · unfold gRead gCall gBuiltin
          simp only
          split <;> rfl
      cases bi <;> first
        | exact rd w
        | exact ac (nr (.inl rfl)) rfl w
        | exact ac (nr (.inr (.inl rfl))) rfl w
        | exact ac (nr (.inr (.inr rfl))) rfl w
        | exact w.elim
    | value f =>
      obtain ⟨fv, vs, e1, e2, n, r, hcv, hq⟩ := w
      cases r with
      | ret v h' =>
        refine acv (n := n) rfl rfl ?_ hq
        show (match ρ c.env f, ρs c.env as.toList with | some fv, some vs => (callV (fns P sm n) fv vs (addAll h (pd.filter (wants b i ws)))).map VRes.op | _, _ => none) = _
        rw [ρ_eq, ρs_eq, hc.g, e1, show ρsG g as.toList = _ from e2]
        show (callV (fns P sm n) fv vs _).map VRes.op = _
        rw [hcv]; rfl
      | pan v h' => exact hq.elim
    | invoke r m => exact w.elim
theorem WDops_run {b : List Nat} {n0 : Nat} {ops : List Oper} {K : DPost} : ∀ (l : List Oper) (i : Nat) {c : Course} {g : G} {ws : List Nat} {hs : List Hp} {pd : List Pend} {rs : List Chk},
    WDops P sm b n0 ops i l g ws hs pd rs K → CourseR P N c g ws hs pd rs → dstsOk N l = true →
    ∃ n c' g' ws' hs' pd' rs', drawOps P (fns P sm n) b n0 ops i l c = some c' ∧ CourseR P N c' g' ws' hs' pd' rs' ∧ K g' ws' hs' pd' rs'
  | [], i, c, g, ws, hs, pd, rs, w, hc, _ => ⟨0, c, g, ws, hs, pd, rs, rfl, hc, w⟩
  | o :: l, i, c, g, ws, hs, pd, rs, w, hc, hd => by
    unfold dstsOk at hd
    rw [Bool.and_eq_true] at hd
    cases hs with
    | nil => exact w.elim
    | cons h hs' =>
      have run : WDOp P sm b n0 i o g ws (h :: hs') h pd rs (fun g ws hs pd rs => WDops P sm b n0 ops (i + 1) l g ws hs pd rs K) → wantedV ops c.env o = true →
          ∃ n c' g' ws' hs' pd' rs', drawOps P (fns P sm n) b n0 ops i (o :: l) c = some c' ∧ CourseR P N c' g' ws' hs' pd' rs' ∧ K g' ws' hs' pd' rs' := by
        intro w hw
        obtain ⟨n, c1, g1, ws1, hs1, pd1, rs1, e1, hc1, k1⟩ := WDOp_run w hc hd.1
        obtain ⟨m, c2, g2, ws2, hs2, pd2, rs2, e2, hc2, k2⟩ := WDops_run l (i + 1) k1 hc1 hd.2
        refine ⟨max n m, c2, g2, ws2, hs2, pd2, rs2, ?_, hc2, k2⟩
        have ed : drawOp P (fns P sm n) b n0 ops i o c = some c1 := by
          unfold drawOp
          rw [hc.hs]
          show br (wantedV ops c.env o) _ _ = _
          rw [hw]
          exact e1
        unfold drawOps
        rw [drawOp_mono (fns_le (Nat.le_max_left n m)) ed]
        exact drawOps_mono (fns_le (Nat.le_max_right n m)) l (i + 1) e2
      unfold WDops at w
      simp only at w
      cases hgd : o.guard with
      | none =>
        rw [hgd] at w
        exact run w (by unfold wantedV; rw [hgd])
      | some jw =>
        obtain ⟨j, want⟩ := jw
        rw [hgd] at w
        obtain ⟨w1, w2⟩ := w
        have hwv : wantedV ops c.env o = wantB (guardV ops g j) want := by
          unfold wantedV
          rw [hgd, ← hc.g]
          rfl
        cases hxw : wantB (guardV ops g j) want with
        | true => exact run (w1 hxw) (hwv.trans hxw)
        | false =>
          have hxw' := hxw
          have hwf : wantedV ops c.env o = false := hwv.trans hxw
          obtain ⟨h1, h2⟩ := get_put (v := .undef) hc.n hc.g (dstOk_lt hd.1)
          obtain ⟨m, c2, g2, ws2, hs2, pd2, rs2, e2, hc2, k2⟩ := WDops_run (c := ⟨Ev.put c.env o.dst .undef, c.ws, c.hs, c.pd, c.rs⟩) l (i + 1) (w2 hxw') ⟨h1, h2, hc.len, hc.rs, hc.ws, hc.hs, hc.pd⟩ hd.2
          refine ⟨m, c2, g2, ws2, hs2, pd2, rs2, ?_, hc2, k2⟩
          have ed : drawOp P (fns P sm m) b n0 ops i o c = some ⟨Ev.put c.env o.dst .undef, c.ws, c.hs, c.pd, c.rs⟩ := by
            unfold drawOp
            rw [hc.hs]
            show br (wantedV ops c.env o) _ _ = _
            rw [hwf, ← hc.hs]
            first | done | rfl
          unfold drawOps
          rw [ed]
          exact e2
theorem allG_mem {b : List Nat} {pd : List Pend} {ws : List Nat} {hs : List Hp} : ∀ {rs : List Chk}, allG b pd ws hs rs → ∀ c ∈ rs, looksG b pd c ws hs
  | [], _, c, hc => by cases hc
  | x :: l, h, c, hc => by
    rcases List.mem_cons.1 hc with rfl | hc
    · exact h.1
    · exact allG_mem h.2 c hc
theorem looks_of {b : List Nat} {pd : List Pend} {r : Rec} {rs : List Chk} (hr : RecOk P rs r) : ∀ (ws : List Nat) (hs : List Hp), hs.length = ws.length + 1 → (∀ c ∈ rs, c.i = r.i → c.v = r.v → (∀ h, c.f h = evRead P r.env h r.o) → looksG b pd c ws hs) → looks P b pd r ws hs = true
  | [], h :: hs, _, hl => by
    show look1 P b pd r [] h = true
    unfold look1
    rcases hr with ⟨h1, h2⟩ | ⟨c, hc, hi, hv, hf⟩
    · rw [h1]; exact h2
    · obtain ⟨v, e, hs⟩ := hl c hc hi hv hf
      rw [hi, hf] at e
      rw [e]
      show V.same 20 v r.v = true
      rw [← hv]; exact hs
  | w :: ws, h :: hs, hlen, hl => by
    show and (br ((w :: ws).any fun x => isB b x r.i) true (look1 P b pd r (w :: ws) h)) (br (isB b r.i w) true (looks P b pd r ws hs)) = true
    rw [Bool.and_eq_true]
    constructor
    · cases hb : ((w :: ws).any fun x => isB b x r.i) with
      | true => rfl
      | false =>
        show look1 P b pd r (w :: ws) h = true
        unfold look1
        rcases hr with ⟨h1, h2⟩ | ⟨c, hc, hi, hv, hf⟩
        · rw [h1]; exact h2
        · obtain ⟨h1, -⟩ := hl c hc hi hv hf
          rcases h1 with h1 | ⟨v, e, hs⟩
          · rw [hi] at h1
            rw [h1] at hb; cases hb
          · rw [hi, hf] at e
            rw [e]
            show V.same 20 v r.v = true
            rw [← hv]; exact hs
    · cases hb : isB b r.i w with
      | true => rfl
      | false =>
        show looks P b pd r ws hs = true
        refine looks_of hr ws hs (by simpa using hlen) (fun c hc hi hv hf => ?_)
        obtain ⟨-, h2⟩ := hl c hc hi hv hf
        rcases h2 with h2 | h2
        · rw [hi] at h2
          rw [h2] at hb; cases hb
        · exact h2
  | [], [], h, _ => by simp at h
  | _ :: _, [], h, _ => by simp at h
theorem WD_run {ops : Array Oper} {g : G} {ds : List Dfr} {pm : PM} {h : Hp} {Q : Post} (w : WD P sm ops.toList g ds pm h Q) (hd : dstsOk N ops.toList = true) (env : Env) (hn : env.n = N) (hg : env.get = g) :
    RunTo N (fun n => evRegionDraw P (fns P sm n) ops ⟨env, ds, pm, h⟩) Q := by
  obtain ⟨n, c', g', ws', hs', pd', rs', e, hc, hch, hal, hq⟩ := WDops_run (c := ⟨env, [], [⟨h.next + ops.size, h.tr⟩], [], []⟩) ops.toList 0 w ⟨hn, hg, rfl, fun r hr => (by cases hr), rfl, rfl, rfl⟩ hd
  obtain ⟨env', cws, chs, cpd, crs⟩ := c'
  obtain rfl : cws = ws' := hc.ws
  obtain rfl : chs = hs' := hc.hs
  obtain rfl : cpd = pd' := hc.pd
  cases chs with
  | nil => exact hq.elim
  | cons h1 hs1 =>
    refine ⟨n, .norm, ⟨env', ds, pm, addAll h1 (cpd.filter (fun p => not (inHeap (CheckFast.beforeL ops.toList 0 []) cws p)))⟩, ?_, hc.n, by rw [hc.g]; exact hq⟩
    show (match drawOps P (fns P sm n) (CheckFast.beforeL ops.toList 0 []) h.next ops.toList 0 ops.toList ⟨env, [], [⟨h.next + ops.size, h.tr⟩], [], []⟩ with | some c => drawEnd P (CheckFast.beforeL ops.toList 0 []) ds pm c | none => none) = _
    rw [e]
    show br (and (chain (CheckFast.beforeL ops.toList 0 []) cws) (crs.all (fun r => looks P (CheckFast.beforeL ops.toList 0 []) cpd r cws (h1 :: hs1)))) _ _ = _
    have : crs.all (fun r => looks P (CheckFast.beforeL ops.toList 0 []) cpd r cws (h1 :: hs1)) = true := by
      rw [List.all_eq_true]
      intro r hr
      exact looks_of (hc.rs r hr) cws (h1 :: hs1) hc.len (fun c hc _ _ _ => allG_mem hal c hc)
    rw [this, hch]
    rfl
end
end Go.Ev
end
section
namespace Go.Ev
variable {P : Program} {sm : Sums} {N : Nat} {kd : Kd}
theorem RunTo.mono {x : Nat → Option (Ex × St)} {Q Q' : Post} (h : RunTo N x Q) (k : ∀ e g ds pm h, Q e g ds pm h → Q' e g ds pm h) : RunTo N x Q' := by
  obtain ⟨n, e, st', h1, h2, h3⟩ := h
  try dsimp only at h1
  exact ⟨n, e, st', h1, h2, k _ _ _ _ _ h3⟩
theorem WCall.mono {f : Nat} {args : List V} {h : Hp} {Q Q' : VRes → Prop} (w : WCall P sm f args h Q) (k : ∀ r, Q r → Q' r) : WCall P sm f args h Q' := by
  obtain ⟨n, r, h1, h2⟩ := w
  exact ⟨n, r, h1, k r h2⟩
theorem RunTo.up {c : Code} {st : St} {Q : Post} (h : RunTo N (fun n => evCode P (fns P sm n) kd c st) Q) : RunTo N (fun n => (fns P sm n).sc kd c st) Q := by
  obtain ⟨n, e, st', h1, h2⟩ := h
  try dsimp only at h1
  exact ⟨n + 1, e, st', h1, h2⟩
theorem W_run : ∀ (c : Code) {g : G} {ds : List Dfr} {pm : PM} {h : Hp} {Q : Post}, W P sm N kd c g ds pm h Q → codeDst N c = true → ∀ env : Env, env.n = N → env.get = g → RunTo N (fun n => (fns P sm n).sc kd c ⟨env, ds, pm, h⟩) Q
  | .skip, g, ds, pm, h, Q, w, _, env, hn, hg => ⟨1, .norm, ⟨env, ds, pm, h⟩, rfl, hn, by rw [hg]; exact w⟩
  | .label _, g, ds, pm, h, Q, w, _, env, hn, hg => ⟨1, .norm, ⟨env, ds, pm, h⟩, rfl, hn, by rw [hg]; exact w⟩
  | .region _ ops false, g, ds, pm, h, Q, w, hd, env, hn, hg => (WO_run ops.toList w hd env hn hg).up
  | .region _ ops true, g, ds, pm, h, Q, w, hd, env, hn, hg => RunTo.up (c := .region _ ops true) (WD_run w hd env hn hg)
  | .seq a b, g, ds, pm, h, Q, w, hd, env, hn, hg => by
    unfold codeDst at hd
    rw [Bool.and_eq_true] at hd
    obtain ⟨n, e, st', h1, h2, h3⟩ := W_run a w hd.1 env hn hg
    try dsimp only at h1
    obtain ⟨env', ds', pm', h'⟩ := st'
    have done : e ≠ .norm → Q e env'.get ds' pm' h' → RunTo N (fun n => (fns P sm n).sc kd (.seq a b) ⟨env, ds, pm, h⟩) Q := by
      intro he hq
      refine ⟨n + 1, e, ⟨env', ds', pm', h'⟩, ?_, h2, hq⟩
      show (match (fns P sm n).sc kd a ⟨env, ds, pm, h⟩ with | some (.norm, st') => (fns P sm n).sc kd b st' | r => r) = _
      rw [h1]
      cases e <;> first | rfl | exact absurd rfl he
    cases e with
    | norm =>
      obtain ⟨m, e2, st2, k1, k2, k3⟩ := W_run b h3 hd.2 env' h2 rfl
      try dsimp only at k1
      refine ⟨max n m + 1, e2, st2, ?_, k2, k3⟩
      show (match (fns P sm (max n m)).sc kd a ⟨env, ds, pm, h⟩ with | some (.norm, st') => (fns P sm (max n m)).sc kd b st' | r => r) = _
      rw [(fns_le (Nat.le_max_left n m)).sc _ _ _ _ h1]
      exact (fns_le (Nat.le_max_right n m)).sc _ _ _ _ k1
    | exit i => exact done (by simp) h3
    | goto l => exact done (by simp) h3
    | ret => exact done (by simp) h3
    | pan v => exact done (by simp) h3
  | .cond c a b, g, ds, pm, h, Q, w, hd, env, hn, hg => by
    unfold codeDst at hd
    rw [Bool.and_eq_true] at hd
    obtain ⟨x, hx, w1, w2⟩ := w
    have hx' : ρ env c = some (.bool x) := by rw [ρ_eq, hg]; exact hx
    cases x with
    | true =>
      obtain ⟨n, e, st', h1, h2⟩ := W_run a (w1 rfl) hd.1 env hn hg
      try dsimp only at h1
      refine ⟨n + 1, e, st', ?_, h2⟩
      show (match ρ env c with | some (.bool true) => (fns P sm n).sc kd a ⟨env, ds, pm, h⟩ | some (.bool false) => (fns P sm n).sc kd b ⟨env, ds, pm, h⟩ | _ => none) = _
      rw [hx']
      exact h1
    | false =>
      obtain ⟨n, e, st', h1, h2⟩ := W_run b (w2 rfl) hd.2 env hn hg
      try dsimp only at h1
      refine ⟨n + 1, e, st', ?_, h2⟩
      show (match ρ env c with | some (.bool true) => (fns P sm n).sc kd a ⟨env, ds, pm, h⟩ | some (.bool false) => (fns P sm n).sc kd b ⟨env, ds, pm, h⟩ | _ => none) = _
      rw [hx']
      exact h1
  | .block id b, g, ds, pm, h, Q, w, hd, env, hn, hg => by
    obtain ⟨n, e, st', h1, h2, h3⟩ := W_run b w hd env hn hg
    try dsimp only at h1
    have go : ∀ r, (match (some (e, st') : Option (Ex × St)) with | some (.exit id', st') => if id' = id then some (Ex.norm, st') else some (Ex.exit id', st') | r => r) = r → (fns P sm (n + 1)).sc kd (.block id b) ⟨env, ds, pm, h⟩ = r := by
      intro r hr
      have h0 : (fns P sm (n + 1)).sc kd (.block id b) ⟨env, ds, pm, h⟩ = match (fns P sm n).sc kd b ⟨env, ds, pm, h⟩ with | some (.exit id', st') => if id' = id then some (Ex.norm, st') else some (Ex.exit id', st') | r => r := rfl
      rw [h0, h1]
      exact hr
    cases e with
    | exit i =>
      have h3' : if i = id then Q .norm st'.env.get st'.ds st'.pm st'.h else Q (.exit i) st'.env.get st'.ds st'.pm st'.h := h3
      by_cases hi : i = id
      · rw [if_pos hi] at h3'
        exact ⟨n + 1, .norm, st', go _ (if_pos hi), h2, h3'⟩
      · rw [if_neg hi] at h3'
        exact ⟨n + 1, .exit i, st', go _ (if_neg hi), h2, h3'⟩
    | norm => exact ⟨n + 1, _, st', go _ rfl, h2, h3⟩
    | goto l => exact ⟨n + 1, _, st', go _ rfl, h2, h3⟩
    | ret => exact ⟨n + 1, _, st', go _ rfl, h2, h3⟩
    | pan v => exact ⟨n + 1, _, st', go _ rfl, h2, h3⟩
  | .loop b, g, ds, pm, h, Q, w, _, env, hn, hg => by
    obtain ⟨n, e, st', h1, h2⟩ := w env hn hg
    try dsimp only at h1
    exact ⟨n + 1, e, st', h1, h2⟩
  | .rangeFunc f ps a b, g, ds, pm, h, Q, w, _, env, hn, hg => by
    obtain ⟨n, e, st', h1, h2⟩ := w env hn hg
    try dsimp only at h1
    exact ⟨n + 1, e, st', h1, h2⟩
  | .exit id, g, ds, pm, h, Q, w, _, env, hn, hg => ⟨1, .exit id, ⟨env, ds, pm, h⟩, rfl, hn, by rw [hg]; exact w⟩
  | .scope b, g, ds, pm, h, Q, w, _, env, hn, hg => by
    obtain ⟨n, e, st', h1, h2⟩ := w env hn hg
    try dsimp only at h1
    exact ⟨n + 1, e, st', h1, h2⟩
  | .goto l, g, ds, pm, h, Q, w, _, env, hn, hg => ⟨1, .goto l, ⟨env, ds, pm, h⟩, rfl, hn, by rw [hg]; exact w⟩
  | .ret, g, ds, pm, h, Q, w, _, env, hn, hg => ⟨1, .ret, ⟨env, ds, pm, h⟩, rfl, hn, by rw [hg]; exact w⟩
  | .refuse _, g, ds, pm, h, Q, w, _, _, _, _ => w.elim
theorem WLp.intro {b : Code} {ds : List Dfr} {pm : PM} {Q : Post} (hd : codeDst N b = true) (I : Nat → G → Hp → Prop)
    (step : ∀ m g h, I m g h → W P sm N kd b g ds pm h (onNorm (fun g' ds' pm' h' => ds' = ds ∧ pm' = pm ∧ ∃ m', m' < m ∧ I m' g' h') Q)) {m : Nat} {g : G} {h : Hp} (h0 : I m g h) : WLp P sm N kd b g ds pm h Q := by
  induction m using Nat.strongRecOn generalizing g h with
  | _ m ih =>
    intro env hn hg
    obtain ⟨n, e, st', h1, h2, h3⟩ := W_run b (step m g h h0) hd env hn hg
    try dsimp only at h1
    obtain ⟨env', ds', pm', h'⟩ := st'
    have done : e ≠ .norm → Q e env'.get ds' pm' h' → RunTo N (fun n => (fns P sm n).lp kd b ⟨env, ds, pm, h⟩) Q := by
      intro he hq
      refine ⟨n + 1, e, ⟨env', ds', pm', h'⟩, ?_, h2, hq⟩
      show (match (fns P sm n).sc kd b ⟨env, ds, pm, h⟩ with | some (.norm, st') => (fns P sm n).lp kd b st' | r => r) = _
      rw [h1]
      cases e <;> first | rfl | exact absurd rfl he
    cases e with
    | norm =>
      obtain ⟨hds, hpm, m', hm, hi⟩ := h3
      obtain ⟨k, e2, st2, k1, k2, k3⟩ := ih m' hm hi env' h2 rfl
      try dsimp only at k1
      refine ⟨max n k + 1, e2, st2, ?_, k2, k3⟩
      show (match (fns P sm (max n k)).sc kd b ⟨env, ds, pm, h⟩ with | some (.norm, st') => (fns P sm (max n k)).lp kd b st' | r => r) = _
      rw [(fns_le (Nat.le_max_left n k)).sc _ _ _ _ h1]
      cases hds; cases hpm
      exact (fns_le (Nat.le_max_right n k)).lp _ _ _ _ k1
    | exit i => exact done (by simp) h3
    | goto l => exact done (by simp) h3
    | ret => exact done (by simp) h3
    | pan v => exact done (by simp) h3
def onGoto (b : Code) (K : Code → G → List Dfr → PM → Hp → Prop) (Q : Post) : Post := fun e g ds pm h => match e with
  | .goto l => match findLabel b l with
    | some rest => K rest g ds pm h
    | none => Q (.goto l) g ds pm h
  | e => Q e g ds pm h
theorem WSp.intro {b : Code} {ds : List Dfr} {pm : PM} {Q : Post} (I : Nat → Code → G → Hp → Prop)
    (hd : ∀ m c g h, I m c g h → codeDst N c = true)
    (step : ∀ m c g h, I m c g h → W P sm N kd c g ds pm h (onGoto b (fun c' g' ds' pm' h' => ds' = ds ∧ pm' = pm ∧ ∃ m', m' < m ∧ I m' c' g' h') Q)) {m : Nat} {c : Code} {g : G} {h : Hp} (h0 : I m c g h) : WSp P sm N kd b c g ds pm h Q := by
  induction m using Nat.strongRecOn generalizing c g h with
  | _ m ih =>
    intro env hn hg
    obtain ⟨n, e, st', h1, h2, h3⟩ := W_run c (step m c g h h0) (hd _ _ _ _ h0) env hn hg
    try dsimp only at h1
    obtain ⟨env', ds', pm', h'⟩ := st'
    have done : (∀ l, e ≠ .goto l) → Q e env'.get ds' pm' h' → RunTo N (fun n => (fns P sm n).sp kd b c ⟨env, ds, pm, h⟩) Q := by
      intro he hq
      refine ⟨n + 1, e, ⟨env', ds', pm', h'⟩, ?_, h2, hq⟩
      show (match (fns P sm n).sc kd c ⟨env, ds, pm, h⟩ with | some (.goto l, st') => (match findLabel b l with | some rest => (fns P sm n).sp kd b rest st' | none => some (.goto l, st')) | r => r) = _
      rw [h1]
      cases e <;> first | rfl | exact absurd rfl (he _)
    cases e with
    | goto l =>
      have h3' : (match findLabel b l with | some rest => ds' = ds ∧ pm' = pm ∧ ∃ m', m' < m ∧ I m' rest env'.get h' | none => Q (.goto l) env'.get ds' pm' h') := h3
      cases hl : findLabel b l with
      | none =>
        rw [hl] at h3'
        refine ⟨n + 1, .goto l, ⟨env', ds', pm', h'⟩, ?_, h2, h3'⟩
        show (match (fns P sm n).sc kd c ⟨env, ds, pm, h⟩ with | some (.goto l, st') => (match findLabel b l with | some rest => (fns P sm n).sp kd b rest st' | none => some (.goto l, st')) | r => r) = _
        rw [h1]
        show (match findLabel b l with | some rest => (fns P sm n).sp kd b rest _ | none => some (.goto l, _)) = _
        rw [hl]
      | some rest =>
        rw [hl] at h3'
        obtain ⟨hds, hpm, m', hm, hi⟩ := h3'
        obtain ⟨k, e2, st2, k1, k2, k3⟩ := ih m' hm hi env' h2 rfl
        try dsimp only at k1
        refine ⟨max n k + 1, e2, st2, ?_, k2, k3⟩
        show (match (fns P sm (max n k)).sc kd c ⟨env, ds, pm, h⟩ with | some (.goto l, st') => (match findLabel b l with | some rest => (fns P sm (max n k)).sp kd b rest st' | none => some (.goto l, st')) | r => r) = _
        rw [(fns_le (Nat.le_max_left n k)).sc _ _ _ _ h1]
        show (match findLabel b l with | some rest => (fns P sm (max n k)).sp kd b rest _ | none => some (.goto l, _)) = _
        rw [hl]
        cases hds; cases hpm
        exact (fns_le (Nat.le_max_right n k)).sp _ _ _ _ _ k1
    | norm => exact done (by simp) h3
    | exit i => exact done (by simp) h3
    | ret => exact done (by simp) h3
    | pan v => exact done (by simp) h3
def gEnter (args : List V) : G := fun i => args.getD i .undef
def gResl (P : Program) (g : G) (h : Hp) : List ResultVar → Option (List V)
  | [] => some []
  | .tmp t :: l => (gResl P g h l).map (g t :: ·)
  | .cell a t :: l => match loadV P t (g a) h, gResl P g h l with
    | some v, some vs => some (v :: vs)
    | _, _ => none
def gRes (P : Program) (fn : Func) (g : G) (h : Hp) : Option V :=
  match gResl P g h fn.results.toList with
  | some [v] => some v
  | some vs => some (.tuple vs)
  | none => none
theorem gResl_eq (env : Env) (h : Hp) : ∀ l, loadRes P env h l = gResl P env.get h l
  | [] => rfl
  | .tmp t :: l => by unfold loadRes gResl; rw [gResl_eq env h l]
  | .cell a t :: l => by unfold loadRes gResl; rw [gResl_eq env h l]; rfl
theorem gRes_eq (fn : Func) (env : Env) (h : Hp) : resultsV P fn env h = gRes P fn env.get h := by
  unfold resultsV gRes
  rw [gResl_eq]
  rfl
def WLv (P : Program) (sm : Sums) (N : Nat) (fn : Func) (g : G) (ds : List Dfr) (m : PM) (h : Hp) (Q : VRes → Prop) : Prop :=
  match ds, m with
  | [], .ret => ∃ v, gRes P fn g h = some v ∧ Q (.ret v h)
  | [], .pan v false => Q (.pan v h)
  | ds, m => ∀ env : Env, env.n = N → env.get = g → ∃ n r, leave P (fns P sm n) fn env ds m h = some r ∧ Q r
def WLeave (P : Program) (sm : Sums) (N : Nat) (fn : Func) (Q : VRes → Prop) : Post := fun e g ds _ h => match e with
  | .norm => WLv P sm N fn g ds .ret h Q
  | .ret => WLv P sm N fn g ds .ret h Q
  | .pan v => WLv P sm N fn g ds (.pan v false) h Q
  | _ => False
theorem WLv_run {fn : Func} {g : G} {ds : List Dfr} {m : PM} {h : Hp} {Q : VRes → Prop} (w : WLv P sm N fn g ds m h Q) {env : Env} (hn : env.n = N) (hg : env.get = g) : ∃ n r, leave P (fns P sm n) fn env ds m h = some r ∧ Q r := by
  unfold WLv at w
  split at w
  · obtain ⟨v, e, hq⟩ := w
    refine ⟨0, .ret v h, ?_, hq⟩
    show (resultsV P fn env h).map (fun v => VRes.ret v h) = _
    rw [gRes_eq, hg, e]; rfl
  · exact ⟨0, _, rfl, w⟩
  · exact w env hn hg
theorem sets_get : ∀ (l : List V) (e : Env) (i j : Nat), i + l.length ≤ e.n → (e.sets i l).n = e.n ∧ (e.sets i l).get j = if i ≤ j ∧ j < i + l.length then l.getD (j - i) .undef else e.get j
  | [], e, i, j, _ => ⟨rfl, by
    rw [if_neg]
    · rfl
    · simp only [List.length_nil]; omega⟩
  | v :: l, e, i, j, hn => by
    simp only [List.length_cons] at hn
    have h1 := sets_get l (e.set i v) (i + 1) j (by rw [Env.n_set]; omega)
    refine ⟨h1.1.trans (Env.n_set _ _ _), ?_⟩
    show ((e.set i v).sets (i + 1) l).get j = _
    rw [h1.2, Env.get_set]
    simp only [List.length_cons]
    by_cases h2 : i + 1 ≤ j ∧ j < i + 1 + l.length
    · rw [if_pos h2, if_pos (by omega)]
      rw [show j - i = (j - (i + 1)) + 1 by omega]
      rfl
    · rw [if_neg h2]
      by_cases h3 : j = i
      · subst h3
        rw [if_pos ⟨by omega, rfl⟩, if_pos (by omega)]
        simp
      · rw [if_neg (by omega), if_neg (by omega)]
theorem enter_get (n : Nat) (args : List V) : (Env.enter n args).n = max args.length n ∧ (Env.enter n args).get = gEnter args := by
  have h := fun j => sets_get args ⟨max args.length n, .lf⟩ 0 j (by simp only; omega)
  refine ⟨(h 0).1, ?_⟩
  funext j
  refine (h j).2.trans ?_
  unfold gEnter
  by_cases hj : j < args.length
  · rw [if_pos (by omega)]; rfl
  · rw [if_neg (by omega)]
    have : args.getD j V.undef = V.undef := by
      rw [List.getD_eq_getElem?_getD, List.getElem?_eq_none (by omega)]; rfl
    rw [this]; rfl
theorem WCall.enter {f : Nat} {fn : Func} {c : Code} {args : List V} {h : Hp} {Q : VRes → Prop} (hf : P.funcs[f]? = some fn) (hb : fn.body = some c) (hs : sm f args h = none)
    (hN : N = max args.length fn.ntmps) (hd : codeDst N c = true) (w : W P sm N .normal c (gEnter args) [] .ret h (WLeave P sm N fn Q)) : WCall P sm f args h Q := by
  obtain ⟨e1, e2⟩ := enter_get fn.ntmps args
  obtain ⟨n, e, ⟨env, ds, pm, h'⟩, k1, k2, k3⟩ := W_run c w hd (Env.enter fn.ntmps args) (e1.trans hN.symm) e2
  try dsimp only at k1
  have fin : ∀ (m : PM), WLv P sm N fn env.get ds m h' Q → (match (some (e, (⟨env, ds, pm, h'⟩ : St)) : Option (Ex × St)) with
      | some (.norm, st) => some (st, PM.ret)
      | some (.ret, st) => some (st, PM.ret)
      | some (.pan v, st) => some (st, PM.pan v false)
      | _ => none) = some (⟨env, ds, pm, h'⟩, m) → WCall P sm f args h Q := by
    intro m wl hm
    obtain ⟨k, r, l1, l2⟩ := WLv_run wl (env := env) k2 rfl
    refine ⟨max n k + 1, r, ?_, l2⟩
    show (match sm f args h with | some r => some r | none => evBody P (fns P sm (max n k)) f args h) = _
    rw [hs]
    show evBody P (fns P sm (max n k)) f args h = _
    unfold evBody
    rw [hf]
    simp only
    rw [hb]
    simp only
    rw [(fns_le (Nat.le_max_left n k)).sc _ _ _ _ k1]
    have l1' := leave_mono (fns_le (P := P) (sm := sm) (Nat.le_max_right n k)) _ _ _ l1
    cases e <;> simp only at hm ⊢ <;> first | (cases hm; done) | (cases hm; exact l1')
  cases e with
  | norm => exact fin _ k3 rfl
  | ret => exact fin _ k3 rfl
  | pan v => exact fin _ k3 rfl
  | exit i => exact k3.elim
  | goto l => exact k3.elim
theorem WCall.sum {f : Nat} {args : List V} {h : Hp} {r : VRes} {Q : VRes → Prop} (hs : sm f args h = some r) (hq : Q r) : WCall P sm f args h Q := by
  refine ⟨1, r, ?_, hq⟩
  show (match sm f args h with | some r => some r | none => _) = _
  rw [hs]
theorem WVal_func {f : Nat} {a b args : List V} {h : Hp} {Q : VRes → Prop} : WVal P sm (.func f a b) args h Q = WCall P sm f (a ++ args ++ b) h Q := rfl
end Go.Ev
end
section
namespace Go.Ev
class KO (α : Type) where
  run : α → Prop
class KP where
  p : Prop
@[simp] theorem KO.run_mk {α : Type} (f : α → Prop) (v : α) : @KO.run α ⟨f⟩ v = f v := rfl
@[simp] theorem KP.p_mk (p : Prop) : @KP.p ⟨p⟩ = p := rfl
def bindO {α : Type} (x : Option α) [k : KO α] : Prop := ∃ v, x = some v ∧ k.run v
@[simp] theorem bindO_some {α : Type} (v : α) (k : KO α) : @bindO α (some v) k = k.run v := by
  unfold bindO
  refine propext ⟨fun ⟨w, h, k⟩ => ?_, fun k => ⟨v, rfl, k⟩⟩
  cases h; exact k
@[simp] theorem bindO_none {α : Type} (k : KO α) : @bindO α none k = False := propext ⟨fun e => (by obtain ⟨_, h, _⟩ := e; cases h), fun h => h.elim⟩
theorem bindO_intro {α : Type} {x : Option α} {K : KO α} {v : α} (h : x = some v) (k : K.run v) : bindO x := ⟨v, h, k⟩
def ifB (b : Bool) [A : KP] [B : KP] : Prop := (b = true → A.p) ∧ (b = false → B.p)
@[simp] theorem ifB_true (A B : KP) : @ifB true A B = A.p := propext ⟨fun h => h.1 rfl, fun h => ⟨fun _ => h, fun e => (by cases e)⟩⟩
@[simp] theorem ifB_false (A B : KP) : @ifB false A B = B.p := propext ⟨fun h => h.2 rfl, fun h => ⟨fun e => (by cases e), fun _ => h⟩⟩
theorem ifB_intro {b : Bool} {A B : KP} (h1 : b = true → A.p) (h2 : b = false → B.p) : @ifB b A B := ⟨h1, h2⟩
theorem ifB_dec {p : Prop} [Decidable p] {A B : KP} (h1 : p → A.p) (h2 : ¬ p → B.p) : @ifB (decide p) A B := ⟨fun h => h1 (of_decide_eq_true h), fun h => h2 (of_decide_eq_false h)⟩
@[simp] theorem ifB_not (b : Bool) (A B : KP) : @ifB (!b) A B = @ifB b B A := by cases b <;> simp
@[simp] theorem ifB_eqF (b : Bool) (A B : KP) : @ifB (b == false) A B = @ifB b B A := by cases b <;> simp
@[simp] theorem ifB_eqT (b : Bool) (A B : KP) : @ifB (b == true) A B = @ifB b A B := by cases b <;> simp
def andL (p : Prop) [A : KP] : Prop := p ∧ A.p
@[simp] theorem andL_true (A : KP) : @andL True A = A.p := by unfold andL; simp
theorem andL_intro {p : Prop} {A : KP} (h : p) (k : A.p) : andL p := ⟨h, k⟩
def sCall (P : Program) (sm : Sums) (f : Nat) (args : List V) (h : Hp) [k : KO VRes] : Prop := WCall P sm f args h k.run
def sVal (P : Program) (sm : Sums) (f : V) (args : List V) (h : Hp) [k : KO VRes] : Prop := WVal P sm f args h k.run
def atLoop (h : Hp) [k : KO Hp] : Prop := k.run h
def atScope (h : Hp) [k : KO Hp] : Prop := k.run h
def atRange (h : Hp) [k : KO Hp] : Prop := k.run h
section
variable (P : Program) (sm : Sums) (N : Nat) (kd : Kd)
variable (dst : Option Tmp) (ty : TypeId) (pos : String) (af : Array Edge) (ops rest : List Oper) (g : G) (ds : List Dfr) (pm : PM) (h : Hp) (Q : Post)
@[simp] theorem sVal_fn (f : Nat) (a b args : List V) (k : KO VRes) : @sVal P sm (.func f a b) args h k = @sCall P sm f (a ++ args ++ b) h k := rfl
def boolOf : V → Option Bool
  | .bool b => some b
  | _ => none
@[simp] theorem boolOf_bool (b : Bool) : boolOf (.bool b) = some b := rfl
@[simp ↓] theorem W_skip : W P sm N kd .skip g ds pm h Q = Q .norm g ds pm h := rfl
@[simp ↓] theorem W_label (l : Nat) : W P sm N kd (.label l) g ds pm h Q = Q .norm g ds pm h := rfl
@[simp ↓] theorem W_reg (i : Nat) (l : List Oper) : W P sm N kd (.region i l.toArray false) g ds pm h Q = WO P sm kd l l g ds pm h Q := rfl
@[simp ↓] theorem W_regD (i : Nat) (l : List Oper) : W P sm N kd (.region i l.toArray true) g ds pm h Q = WD P sm l g ds pm h Q := rfl
@[simp ↓] theorem W_seq (a b : Code) : W P sm N kd (.seq a b) g ds pm h Q = W P sm N kd a g ds pm h (onNorm (fun g ds pm h => W P sm N kd b g ds pm h Q) Q) := rfl
@[simp ↓] theorem W_cond (c : Operand) (a b : Code) : W P sm N kd (.cond c a b) g ds pm h Q = @bindO V (ρG g c) ⟨fun v => @bindO Bool (boolOf v) ⟨fun x => @ifB x ⟨W P sm N kd a g ds pm h Q⟩ ⟨W P sm N kd b g ds pm h Q⟩⟩⟩ := by
  refine propext ⟨fun ⟨x, e, k⟩ => ⟨.bool x, e, x, rfl, k⟩, fun ⟨v, e, x, e2, k⟩ => ⟨x, ?_, k⟩⟩
  cases v <;> first | (cases e2; exact e) | cases e2
@[simp ↓] theorem W_block (i : Nat) (b : Code) : W P sm N kd (.block i b) g ds pm h Q = W P sm N kd b g ds pm h (onExit i Q) := rfl
@[simp ↓] theorem W_loop (b : Code) : W P sm N kd (.loop b) g ds pm h Q = @atLoop h ⟨fun h => WLp P sm N kd b g ds pm h Q⟩ := rfl
@[simp ↓] theorem W_rangeFunc (f : Operand) (ps : Array Tmp) (a b : Code) : W P sm N kd (.rangeFunc f ps a b) g ds pm h Q = @atRange h ⟨fun h => WRg P sm N kd f ps a b g ds pm h Q⟩ := rfl
@[simp ↓] theorem W_exit (i : Nat) : W P sm N kd (.exit i) g ds pm h Q = Q (.exit i) g ds pm h := rfl
@[simp ↓] theorem W_scope (b : Code) : W P sm N kd (.scope b) g ds pm h Q = @atScope h ⟨fun h => WSp P sm N kd b b g ds pm h Q⟩ := rfl
@[simp ↓] theorem W_goto (l : Nat) : W P sm N kd (.goto l) g ds pm h Q = Q (.goto l) g ds pm h := rfl
@[simp ↓] theorem W_ret : W P sm N kd .ret g ds pm h Q = Q .ret g ds pm h := rfl
variable (K : G → List Dfr → PM → Hp → Prop) (i : Nat) (v : V)
@[simp ↓] theorem onNorm_norm : onNorm K Q .norm g ds pm h = K g ds pm h := rfl
@[simp ↓] theorem onNorm_ret : onNorm K Q .ret g ds pm h = Q .ret g ds pm h := rfl
@[simp ↓] theorem onNorm_exit : onNorm K Q (.exit i) g ds pm h = Q (.exit i) g ds pm h := rfl
@[simp ↓] theorem onNorm_goto : onNorm K Q (.goto i) g ds pm h = Q (.goto i) g ds pm h := rfl
@[simp ↓] theorem onNorm_pan : onNorm K Q (.pan v) g ds pm h = Q (.pan v) g ds pm h := rfl
@[simp ↓] theorem onExit_norm : onExit i Q .norm g ds pm h = Q .norm g ds pm h := rfl
@[simp ↓] theorem onExit_ret : onExit i Q .ret g ds pm h = Q .ret g ds pm h := rfl
@[simp ↓] theorem onExit_self : onExit i Q (.exit i) g ds pm h = Q .norm g ds pm h := if_pos rfl
@[simp ↓] theorem onExit_other (j : Nat) (hne : i ≠ j) : onExit j Q (.exit i) g ds pm h = Q (.exit i) g ds pm h := if_neg hne
@[simp ↓] theorem onExit_goto (j : Nat) : onExit j Q (.goto i) g ds pm h = Q (.goto i) g ds pm h := rfl
@[simp ↓] theorem onExit_pan : onExit i Q (.pan v) g ds pm h = Q (.pan v) g ds pm h := rfl
def dstAt : List Oper → Nat → Option Tmp
  | [], _ => none
  | o :: _, 0 => o.dst
  | _ :: l, n + 1 => dstAt l n
@[simp ↓] theorem dstAt_zero (o : Oper) (l : List Oper) : dstAt (o :: l) 0 = o.dst := rfl
@[simp ↓] theorem dstAt_succ (o : Oper) (l : List Oper) (n : Nat) : dstAt (o :: l) (n + 1) = dstAt l n := rfl
theorem dstAt_eq : ∀ (l : List Oper) (j : Nat), (l[j]?).bind (·.dst) = dstAt l j
  | [], _ => rfl
  | _ :: _, 0 => rfl
  | _ :: l, n + 1 => by rw [List.getElem?_cons_succ]; exact dstAt_eq l n
def gd (g : G) : Option Tmp → Option Bool
  | some d => boolOf (g d)
  | none => none
@[simp] theorem gd_some (g : G) (d : Tmp) : gd g (some d) = boolOf (g d) := rfl
@[simp ↓] theorem guardV_eq (ops : List Oper) (g : G) (j : Nat) : guardV ops g j = gd g (dstAt ops j) := by
  unfold guardV
  rw [dstAt_eq]
  rfl
@[simp ↓] theorem WO_nil : WO P sm kd ops [] g ds pm h Q = Q .norm g ds pm h := rfl
@[simp ↓] theorem WO_guard (op : Op) (j : Nat) (want : Bool) : WO P sm kd ops (⟨dst, op, ty, pos, af, some (j, want)⟩ :: rest) g ds pm h Q =
    @ifB (wantB (guardV ops g j) want) ⟨WO P sm kd ops (⟨dst, op, ty, pos, af, none⟩ :: rest) g ds pm h Q⟩ ⟨WO P sm kd ops rest (updo g dst .undef) ds pm h Q⟩ := rfl
@[simp] theorem wantB_t (b : Bool) : wantB (some b) true = b := rfl
@[simp] theorem wantB_f (b : Bool) : wantB (some b) false = !b := rfl
@[simp] theorem wantB_n (w : Bool) : wantB none w = false := rfl
@[simp] theorem boolOf_undef : boolOf V.undef = none := rfl
theorem two {α β : Type} (x : Option (α × β)) (K : α → β → Prop) : (∃ v w, x = some (v, w) ∧ K v w) = @bindO (α × β) x ⟨fun p => K p.1 p.2⟩ :=
  propext ⟨fun ⟨v, w, e, k⟩ => ⟨(v, w), e, k⟩, fun ⟨(v, w), e, k⟩ => ⟨v, w, e, k⟩⟩
variable (x y a b c m k : Operand) (t u s d : TypeId) (f : Nat)
@[simp ↓] theorem WO_move : WO P sm kd ops (⟨dst, .move x, ty, pos, af, none⟩ :: rest) g ds pm h Q = @bindO V (ρG g x) ⟨fun v => WO P sm kd ops rest (updo g dst v) ds pm h Q⟩ := rfl
@[simp ↓] theorem WO_assign : WO P sm kd ops (⟨dst, .assign x, ty, pos, af, none⟩ :: rest) g ds pm h Q = @bindO V (ρG g x) ⟨fun v => WO P sm kd ops rest (updo g dst v) ds pm h Q⟩ := rfl
@[simp ↓] theorem WO_pick : WO P sm kd ops (⟨dst, .pick c a b, ty, pos, af, none⟩ :: rest) g ds pm h Q = @bindO V (gPick g c a b) ⟨fun v => WO P sm kd ops rest (updo g dst v) ds pm h Q⟩ := rfl
@[simp ↓] theorem WO_load : WO P sm kd ops (⟨dst, .load t a, ty, pos, af, none⟩ :: rest) g ds pm h Q = @bindO V (gLoad P g h t a) ⟨fun v => WO P sm kd ops rest (updo g dst v) ds pm h Q⟩ := rfl
@[simp ↓] theorem WO_nilCheck : WO P sm kd ops (⟨dst, .nilCheck x, ty, pos, af, none⟩ :: rest) g ds pm h Q = @bindO V (nilCk (ρG g x)) ⟨fun v => WO P sm kd ops rest (updo g dst v) ds pm h Q⟩ := rfl
@[simp ↓] theorem WO_binOp (op : BinOp) : WO P sm kd ops (⟨dst, .binOp op t x y u, ty, pos, af, none⟩ :: rest) g ds pm h Q = @bindO V (gBin P g h op t x y) ⟨fun v => WO P sm kd ops rest (updo g dst v) ds pm h Q⟩ := rfl
@[simp ↓] theorem WO_unOp (op : UnOp) : WO P sm kd ops (⟨dst, .unOp op t x, ty, pos, af, none⟩ :: rest) g ds pm h Q = @bindO V (gUn g op x) ⟨fun v => WO P sm kd ops rest (updo g dst v) ds pm h Q⟩ := rfl
@[simp ↓] theorem WO_convert : WO P sm kd ops (⟨dst, .convert s d x, ty, pos, af, none⟩ :: rest) g ds pm h Q = @bindO (V × Hp) (convAny P g h s d x) ⟨fun x => WO P sm kd ops rest (updo g dst x.1) ds pm x.2 Q⟩ := two _ _
@[simp ↓] theorem WO_makeInterface : WO P sm kd ops (⟨dst, .makeInterface t x, ty, pos, af, none⟩ :: rest) g ds pm h Q = @bindO V (gIface P g t x) ⟨fun v => WO P sm kd ops rest (updo g dst v) ds pm h Q⟩ := rfl
@[simp ↓] theorem WO_makeFunc (fn : Fn) (xs ys : Array Operand) : WO P sm kd ops (⟨dst, .makeFunc fn xs ys, ty, pos, af, none⟩ :: rest) g ds pm h Q = @bindO V (gFunc g fn xs ys) ⟨fun v => WO P sm kd ops rest (updo g dst v) ds pm h Q⟩ := rfl
@[simp ↓] theorem WO_slice (lo hi mx : Option Operand) : WO P sm kd ops (⟨dst, .slice t x lo hi mx, ty, pos, af, none⟩ :: rest) g ds pm h Q = @bindO V (gSlice P g h t x lo hi mx) ⟨fun v => WO P sm kd ops rest (updo g dst v) ds pm h Q⟩ := rfl
@[simp ↓] theorem WO_fieldAddr : WO P sm kd ops (⟨dst, .fieldAddr s x f, ty, pos, af, none⟩ :: rest) g ds pm h Q = @bindO V (gFieldAddr P g s x f) ⟨fun v => WO P sm kd ops rest (updo g dst v) ds pm h Q⟩ := rfl
@[simp ↓] theorem WO_field : WO P sm kd ops (⟨dst, .field s x f, ty, pos, af, none⟩ :: rest) g ds pm h Q = @bindO V (gField P g s x f) ⟨fun v => WO P sm kd ops rest (updo g dst v) ds pm h Q⟩ := rfl
@[simp ↓] theorem WO_indexAddr : WO P sm kd ops (⟨dst, .indexAddr t x y, ty, pos, af, none⟩ :: rest) g ds pm h Q = @bindO V (gIndexAddr P g t x y) ⟨fun v => WO P sm kd ops rest (updo g dst v) ds pm h Q⟩ := rfl
@[simp ↓] theorem WO_index : WO P sm kd ops (⟨dst, .index t x y, ty, pos, af, none⟩ :: rest) g ds pm h Q = @bindO V (gIndex P g t x y) ⟨fun v => WO P sm kd ops rest (updo g dst v) ds pm h Q⟩ := rfl
@[simp ↓] theorem WO_lookup (ok : Bool) : WO P sm kd ops (⟨dst, .lookup t m k ok, ty, pos, af, none⟩ :: rest) g ds pm h Q = @bindO V (gLookup P g h t m k ok) ⟨fun v => WO P sm kd ops rest (updo g dst v) ds pm h Q⟩ := rfl
@[simp ↓] theorem WO_typeAssert (ok : Bool) : WO P sm kd ops (⟨dst, .typeAssert x u t ok, ty, pos, af, none⟩ :: rest) g ds pm h Q = @bindO V (gAssert P g x t ok) ⟨fun v => WO P sm kd ops rest (updo g dst v) ds pm h Q⟩ := rfl
@[simp ↓] theorem WO_extract : WO P sm kd ops (⟨dst, .extract x i, ty, pos, af, none⟩ :: rest) g ds pm h Q = @bindO V (gExtract g x i) ⟨fun v => WO P sm kd ops rest (updo g dst v) ds pm h Q⟩ := rfl
@[simp ↓] theorem WO_build (ps : Array (Nat × Operand)) : WO P sm kd ops (⟨dst, .build t ps, ty, pos, af, none⟩ :: rest) g ds pm h Q = @bindO V (gBuild P g t ps) ⟨fun v => WO P sm kd ops rest (updo g dst v) ds pm h Q⟩ := rfl
@[simp ↓] theorem WO_alloc : WO P sm kd ops (⟨dst, .alloc t, ty, pos, af, none⟩ :: rest) g ds pm h Q = @bindO (V × LO) (alZero P h.next t) ⟨fun x => WO P sm kd ops rest (updo g dst x.1) ds pm (h.new x.2).2 Q⟩ := two _ _
@[simp ↓] theorem WO_box : WO P sm kd ops (⟨dst, .box t x, ty, pos, af, none⟩ :: rest) g ds pm h Q = @bindO (V × LO) (gBox g h.next x) ⟨fun x => WO P sm kd ops rest (updo g dst x.1) ds pm (h.new x.2).2 Q⟩ := two _ _
@[simp ↓] theorem WO_buildSlice (n : Nat) (ps : Array (Nat × Operand)) : WO P sm kd ops (⟨dst, .buildSlice t n ps, ty, pos, af, none⟩ :: rest) g ds pm h Q = @bindO (V × LO) (gBuildSlice P g h.next t n ps) ⟨fun x => WO P sm kd ops rest (updo g dst x.1) ds pm (h.new x.2).2 Q⟩ := two _ _
@[simp ↓] theorem WO_makeMap (r : Option Operand) : WO P sm kd ops (⟨dst, .makeMap t r, ty, pos, af, none⟩ :: rest) g ds pm h Q = @bindO (V × LO) (gMakeMap P g h.next t r) ⟨fun x => WO P sm kd ops rest (updo g dst x.1) ds pm (h.new x.2).2 Q⟩ := two _ _
@[simp ↓] theorem WO_makeSlice : WO P sm kd ops (⟨dst, .makeSlice t x y, ty, pos, af, none⟩ :: rest) g ds pm h Q = @bindO (V × LO) (gMakeSlice P g h.next t x y) ⟨fun x => WO P sm kd ops rest (updo g dst x.1) ds pm (h.new x.2).2 Q⟩ := two _ _
@[simp ↓] theorem WO_store : WO P sm kd ops (⟨dst, .store t a x, ty, pos, af, none⟩ :: rest) g ds pm h Q = @bindO (V × Hp) (gStore P g h t a x) ⟨fun x => WO P sm kd ops rest (updo g dst x.1) ds pm x.2 Q⟩ := two _ _
@[simp ↓] theorem WO_mapUpdate : WO P sm kd ops (⟨dst, .mapUpdate t m k x, ty, pos, af, none⟩ :: rest) g ds pm h Q = @bindO (V × Hp) (gMapSet P g h t m k x) ⟨fun x => WO P sm kd ops rest (updo g dst x.1) ds pm x.2 Q⟩ := two _ _
@[simp ↓] theorem WO_insert : WO P sm kd ops (⟨dst, .insert t m k x, ty, pos, af, none⟩ :: rest) g ds pm h Q = @bindO (V × Hp) (gMapSet P g h t m k x) ⟨fun x => WO P sm kd ops rest (updo g dst x.1) ds pm x.2 Q⟩ := two _ _
@[simp ↓] theorem WO_mapEntry : WO P sm kd ops (⟨dst, .mapEntry t m k, ty, pos, af, none⟩ :: rest) g ds pm h Q = @bindO (V × Hp) (gMapEntry P g h t m k) ⟨fun x => WO P sm kd ops rest (updo g dst x.1) ds pm x.2 Q⟩ := two _ _
@[simp ↓] theorem WO_entryStore : WO P sm kd ops (⟨dst, .entryStore t m a x, ty, pos, af, none⟩ :: rest) g ds pm h Q = @bindO (V × Hp) (gEntryStore g h m a x) ⟨fun x => WO P sm kd ops rest (updo g dst x.1) ds pm x.2 Q⟩ := two _ _
@[simp ↓] theorem WO_range : WO P sm kd ops (⟨dst, .range t x, ty, pos, af, none⟩ :: rest) g ds pm h Q = @bindO (V × Hp) (gRange P g h t x) ⟨fun x => WO P sm kd ops rest (updo g dst x.1) ds pm x.2 Q⟩ := two _ _
@[simp ↓] theorem WO_next (b : Bool) : WO P sm kd ops (⟨dst, .next x b, ty, pos, af, none⟩ :: rest) g ds pm h Q = @bindO (V × Hp) (gNext g h x b) ⟨fun x => WO P sm kd ops rest (updo g dst x.1) ds pm x.2 Q⟩ := two _ _
@[simp ↓] theorem WO_len (as : Array Operand) (ts : Array TypeId) : WO P sm kd ops (⟨dst, .call ⟨.builtin .len, as, ts⟩, ty, pos, af, none⟩ :: rest) g ds pm h Q = @bindO (V × Hp) (biAny P g h .len as ts) ⟨fun x => WO P sm kd ops rest (updo g dst x.1) ds pm x.2 Q⟩ := two _ _
@[simp ↓] theorem WO_cap (as : Array Operand) (ts : Array TypeId) : WO P sm kd ops (⟨dst, .call ⟨.builtin .cap, as, ts⟩, ty, pos, af, none⟩ :: rest) g ds pm h Q = @bindO (V × Hp) (biAny P g h .cap as ts) ⟨fun x => WO P sm kd ops rest (updo g dst x.1) ds pm x.2 Q⟩ := two _ _
@[simp ↓] theorem WO_min (as : Array Operand) (ts : Array TypeId) : WO P sm kd ops (⟨dst, .call ⟨.builtin .min, as, ts⟩, ty, pos, af, none⟩ :: rest) g ds pm h Q = @bindO (V × Hp) (biAny P g h .min as ts) ⟨fun x => WO P sm kd ops rest (updo g dst x.1) ds pm x.2 Q⟩ := two _ _
@[simp ↓] theorem WO_max (as : Array Operand) (ts : Array TypeId) : WO P sm kd ops (⟨dst, .call ⟨.builtin .max, as, ts⟩, ty, pos, af, none⟩ :: rest) g ds pm h Q = @bindO (V × Hp) (biAny P g h .max as ts) ⟨fun x => WO P sm kd ops rest (updo g dst x.1) ds pm x.2 Q⟩ := two _ _
@[simp ↓] theorem WO_append (as : Array Operand) (ts : Array TypeId) : WO P sm kd ops (⟨dst, .call ⟨.builtin .append, as, ts⟩, ty, pos, af, none⟩ :: rest) g ds pm h Q = @bindO (V × Hp) (biAny P g h .append as ts) ⟨fun x => WO P sm kd ops rest (updo g dst x.1) ds pm x.2 Q⟩ := two _ _
@[simp ↓] theorem WO_copy (as : Array Operand) (ts : Array TypeId) : WO P sm kd ops (⟨dst, .call ⟨.builtin .copy, as, ts⟩, ty, pos, af, none⟩ :: rest) g ds pm h Q = @bindO (V × Hp) (biAny P g h .copy as ts) ⟨fun x => WO P sm kd ops rest (updo g dst x.1) ds pm x.2 Q⟩ := two _ _
@[simp ↓] theorem WO_delete (as : Array Operand) (ts : Array TypeId) : WO P sm kd ops (⟨dst, .call ⟨.builtin .delete, as, ts⟩, ty, pos, af, none⟩ :: rest) g ds pm h Q = @bindO (V × Hp) (biAny P g h .delete as ts) ⟨fun x => WO P sm kd ops rest (updo g dst x.1) ds pm x.2 Q⟩ := two _ _
@[simp ↓] theorem WO_call (as : Array Operand) (ts : Array TypeId) : WO P sm kd ops (⟨dst, .call ⟨.value x, as, ts⟩, ty, pos, af, none⟩ :: rest) g ds pm h Q =
    @bindO V (ρG g x) ⟨fun fv => @bindO (List V) (ρsG g as.toList) ⟨fun vs => @sVal P sm fv vs h ⟨onRet (fun v h' => WO P sm kd ops rest (updo g dst v) ds pm h' Q) (fun v h' => Q (.pan v) g ds pm h')⟩⟩⟩ := by
  refine propext ⟨fun ⟨fv, vs, e1, e2, k⟩ => ⟨fv, e1, vs, e2, k⟩, fun ⟨fv, e1, vs, e2, k⟩ => ⟨fv, vs, e1, e2, k⟩⟩
def ifaceOf : V → Option (TypeId × V)
  | .iface t v => some (t, v)
  | _ => none
@[simp] theorem ifaceOf_iface (t : TypeId) (v : V) : ifaceOf (.iface t v) = some (t, v) := rfl
@[simp ↓] theorem WO_panic : WO P sm kd ops (⟨dst, .panic x, ty, pos, af, none⟩ :: rest) g ds pm h Q = @bindO V (ρG g x) ⟨fun v => @bindO (TypeId × V) (ifaceOf v) ⟨fun p => Q (.pan (.iface p.1 p.2)) g ds pm h⟩⟩ := by
  refine propext ⟨fun ⟨t, v, e, k⟩ => ⟨.iface t v, e, (t, v), rfl, k⟩, fun ⟨v, e, (t, w), e2, k⟩ => ⟨t, w, ?_, k⟩⟩
  cases v <;> first | (cases e2; exact e) | cases e2
@[simp ↓] theorem WLeave_ret (fn : Func) (R : VRes → Prop) (pm : PM) (h : Hp) : WLeave P sm N fn R .ret g [] pm h = @bindO V (gRes P fn g h) ⟨fun v => R (.ret v h)⟩ := rfl
@[simp ↓] theorem WLeave_norm (fn : Func) (R : VRes → Prop) (pm : PM) (h : Hp) : WLeave P sm N fn R .norm g [] pm h = @bindO V (gRes P fn g h) ⟨fun v => R (.ret v h)⟩ := rfl
@[simp ↓] theorem WLeave_pan (fn : Func) (R : VRes → Prop) (pm : PM) (h : Hp) : WLeave P sm N fn R (.pan v) g [] pm h = R (.pan v h) := rfl
@[simp ↓] theorem onRet_ret' (K Q : V → Hp → Prop) (v : V) (h : Hp) : onRet K Q (.ret v h) = K v h := rfl
@[simp ↓] theorem onRet_pan (K Q : V → Hp → Prop) (v : V) (h : Hp) : onRet K Q (.pan v h) = Q v h := rfl
attribute [simp] upd_same
@[simp] theorem upd_ne' (g : G) (i j : Nat) (v : V) (h : j ≠ i) : upd g i v j = g j := upd_ne g i j v h
@[simp] theorem updo_some (v : V) : updo g (some i) v = upd g i v := rfl
@[simp] theorem updo_none (v : V) : updo g none v = g := rfl
@[simp] theorem gEnter_0 (a : V) (l : List V) : gEnter (a :: l) 0 = a := rfl
@[simp] theorem gEnter_1 (a b : V) (l : List V) : gEnter (a :: b :: l) 1 = b := rfl
@[simp] theorem gEnter_2 (a b c : V) (l : List V) : gEnter (a :: b :: c :: l) 2 = c := rfl
@[simp] theorem gEnter_3 (a b c d : V) (l : List V) : gEnter (a :: b :: c :: d :: l) 3 = d := rfl
@[simp] theorem gEnter_4 (a b c d e : V) (l : List V) : gEnter (a :: b :: c :: d :: e :: l) 4 = e := rfl
@[simp] theorem gEnter_5 (a b c d e f : V) (l : List V) : gEnter (a :: b :: c :: d :: e :: f :: l) 5 = f := rfl
@[simp] theorem ρG_tmp (t : Nat) : ρG g (.tmp t) = some (g t) := rfl
@[simp] theorem ρG_const (v : Value) : ρG g (.const v) = V.ofConst v := rfl
@[simp] theorem ρG_func (f : Nat) : ρG g (.func f) = some (.func f [] []) := rfl
@[simp] theorem ofConst_int (k : IntKind) (n : Int) : V.ofConst (.int k n) = some (.int k n) := rfl
@[simp] theorem ofConst_bool (b : Bool) : V.ofConst (.bool b) = some (.bool b) := rfl
@[simp] theorem ofConst_str (b : ByteArray) : V.ofConst (.string b) = some (.str b.data.toList) := rfl
@[simp] theorem ofConst_nilP : V.ofConst (.pointer none) = some .nilP := rfl
@[simp] theorem ofConst_nilS : V.ofConst (.slice none 0 0) = some .nilS := rfl
@[simp] theorem ofConst_nilM : V.ofConst (.map none) = some .nilM := rfl
@[simp] theorem ofConst_nilF : V.ofConst .nilFunc = some .nilF := rfl
@[simp] theorem ofConst_nilI : V.ofConst .nilIface = some .nilI := rfl
@[simp] theorem ofConst_agg (cs : Array Value) : V.ofConst (.agg cs) = (V.ofCells cs.toList).map .agg := rfl
attribute [simp] ρsG ρpartsG ρoG gPick gLoad nilCk gBin gUn gConv gIface gFunc gSlice gIndexAddr gIndex gLookup gAssert gExtract gBuild gBuiltin gBuiltinA convAny biAny gConvA gBox gBuildSlice gMakeMap gMakeSlice gStore gMapSet gMapEntry gEntryStore gRange gNext gRes gResl kbeq br_true br_false kidx
end
end Go.Ev
end
section
namespace Go.Ev
class KF where
  run : Nat → List Nat
def bfN (n : Nat) [k : KF] : List Nat := k.run n
@[simp] theorem bfN_mk (n : Nat) (f : Nat → List Nat) : @bfN n ⟨f⟩ = f n := rfl
def lookB (j : Nat) (acc : List Nat) (i : Nat) : Nat := if i < j then acc.getD (j - 1 - i) 0 else 0
def onesL (j : Nat) (acc : List Nat) : List Edge → Nat → Nat
  | [], s => s
  | e :: l, s => onesL j acc l (if Region.binds .any e then s ||| 2 ^ e.on ||| lookB j acc e.on else s)
section
variable (j : Nat) (acc : List Nat) (l : List Edge) (s i : Nat)
@[simp] theorem onesL_nil : onesL j acc [] s = s := rfl
@[simp] theorem onesL_data : onesL j acc (⟨i, .data⟩ :: l) s = onesL j acc l (s ||| 2 ^ i ||| lookB j acc i) := rfl
@[simp] theorem onesL_chain : onesL j acc (⟨i, .chain⟩ :: l) s = onesL j acc l (s ||| 2 ^ i ||| lookB j acc i) := rfl
@[simp] theorem onesL_guard : onesL j acc (⟨i, .guard⟩ :: l) s = onesL j acc l (s ||| 2 ^ i ||| lookB j acc i) := rfl
@[simp] theorem onesL_phase : onesL j acc (⟨i, .phase⟩ :: l) s = onesL j acc l (s ||| 2 ^ i ||| lookB j acc i) := rfl
@[simp] theorem onesL_text (d : Departure) : onesL j acc (⟨i, .textOnly d⟩ :: l) s = onesL j acc l s := rfl
@[simp] theorem onesL_gc (d : Departure) : onesL j acc (⟨i, .gcOnly d⟩ :: l) s = onesL j acc l s := rfl
@[simp] theorem lookB_eq : lookB j acc i = if i < j then acc.getD (j - 1 - i) 0 else 0 := rfl
def befs : List Oper → Nat → List Nat → List Nat := CheckFast.beforeL
@[simp ↓] theorem befs_nil : befs [] j acc = acc.reverse := rfl
theorem foldl_ones (j : Nat) (acc : List Nat) : ∀ (l : List Edge) (s : Nat), l.foldl (fun s e => if Region.binds .any e then s ||| 2 ^ e.on ||| (if e.on < j then acc.getD (j - 1 - e.on) 0 else 0) else s) s = onesL j acc l s
  | [], _ => rfl
  | e :: l, s => foldl_ones j acc l _
@[simp ↓] theorem befs_cons (dst : Option Tmp) (op : Op) (ty : TypeId) (pos : String) (gd : Option (Nat × Bool)) (rest : List Oper) : befs (⟨dst, op, ty, pos, l.toArray, gd⟩ :: rest) j acc = @bfN (onesL j acc l 0) ⟨fun n => befs rest (j + 1) (n :: acc)⟩ := by
  show CheckFast.force (CheckFast.one (fun i => if i < j then acc.getD (j - 1 - i) 0 else 0) ⟨dst, op, ty, pos, l.toArray, gd⟩) (fun v => CheckFast.beforeL rest (j + 1) (v :: acc)) = CheckFast.beforeL rest (j + 1) (onesL j acc l 0 :: acc)
  rw [CheckFast.force_eq]
  congr 2
  unfold CheckFast.one
  rw [← foldl_ones]
  simp
end
def bindL (b : List Nat) [k : KO (List Nat)] : Prop := k.run b
@[simp] theorem bindL_mk (b : List Nat) (k : KO (List Nat)) : @bindL b k = k.run b := rfl
@[simp] theorem isB_eq (b : List Nat) (i j : Nat) : isB b i j = (b.getD i 0 / 2 ^ j % 2 == 1) := by
  unfold isB
  rw [Nat.testBit_eq_decide_div_mod_eq]
  rw [Bool.eq_iff_iff]; simp
@[simp] theorem inHeap_eq (b ws : List Nat) (i id : Nat) (o : LO) : inHeap b ws ⟨i, id, o⟩ = ws.any fun w => isB b w i := rfl
@[simp] theorem wants_eq (b : List Nat) (i : Nat) (ws : List Nat) (j id : Nat) (o : LO) : wants b i ws ⟨j, id, o⟩ = (isB b i j && !(ws.any fun w => isB b w j)) := rfl
@[simp] theorem addAll_nil (h : Hp) : addAll h [] = h := rfl
@[simp] theorem addAll_cons (h : Hp) (i id : Nat) (o : LO) (l : List Pend) : addAll h (⟨i, id, o⟩ :: l) = addAll (h.put id (some o)) l := rfl
@[simp] theorem chain_nil (b : List Nat) : chain b [] = true := rfl
@[simp] theorem chain_one (b : List Nat) (i : Nat) : chain b [i] = true := rfl
@[simp] theorem chain_two (b : List Nat) (j i : Nat) (l : List Nat) : chain b (j :: i :: l) = (isB b j i && chain b (i :: l)) := rfl
@[simp] theorem allG_nil (b : List Nat) (pd : List Pend) (ws : List Nat) (hs : List Hp) : allG b pd ws hs [] = True := rfl
@[simp] theorem allG_cons (b : List Nat) (pd : List Pend) (ws : List Nat) (hs : List Hp) (c : Chk) (l : List Chk) : allG b pd ws hs (c :: l) = (looksG b pd c ws hs ∧ allG b pd ws hs l) := rfl
@[simp] theorem looksG_nil (b : List Nat) (pd : List Pend) (c : Chk) (h : Hp) (hs : List Hp) : looksG b pd c [] (h :: hs) = look1G b pd c [] h := rfl
@[simp] theorem looksG_cons (b : List Nat) (pd : List Pend) (c : Chk) (w : Nat) (ws : List Nat) (h : Hp) (hs : List Hp) : looksG b pd c (w :: ws) (h :: hs) = ((((w :: ws).any fun x => isB b x c.i) = true ∨ look1G b pd c (w :: ws) h) ∧ (isB b c.i w = true ∨ looksG b pd c ws hs)) := rfl
@[simp] theorem look1G_mk (b : List Nat) (pd : List Pend) (i : Nat) (f : Hp → Option V) (v : V) (ws : List Nat) (h : Hp) : look1G b pd ⟨i, f, v⟩ ws h = @bindO V (f (addAll h (pd.filter (wants b i ws)))) ⟨fun w => V.same 20 w v = true⟩ := rfl
section
variable (P : Program) (sm : Sums) (b : List Nat) (n0 : Nat) (ops rest : List Oper) (i : Nat) (dst : Option Tmp) (ty : TypeId) (pos : String) (af : Array Edge) (g : G) (ds : List Dfr) (pm : PM) (ws : List Nat) (h : Hp) (hs : List Hp) (pd : List Pend) (rs : List Chk) (K : DPost) (Q : Post)
@[simp ↓] theorem WD_eq (l : List Oper) : WD P sm l g ds pm h Q = @bindL (befs l 0 []) ⟨fun b => WDops P sm b h.next l 0 l g [] [h.bump l.length] [] [] (WDEnd b ds pm Q)⟩ := rfl
@[simp ↓] theorem WDEnd_eq : WDEnd b ds pm Q g ws (h :: hs) pd rs = @andL (chain b ws = true) ⟨@andL (allG b pd ws (h :: hs) rs) ⟨Q .norm g ds pm (addAll h (pd.filter (fun p => not (inHeap b ws p))))⟩⟩ := rfl
@[simp ↓] theorem WDops_nil : WDops P sm b n0 ops i [] g ws hs pd rs K = K g ws hs pd rs := rfl
@[simp ↓] theorem WDops_guard (op : Op) (j : Nat) (want : Bool) : WDops P sm b n0 ops i (⟨dst, op, ty, pos, af, some (j, want)⟩ :: rest) g ws (h :: hs) pd rs K =
    @ifB (wantB (guardV ops g j) want) ⟨WDops P sm b n0 ops i (⟨dst, op, ty, pos, af, none⟩ :: rest) g ws (h :: hs) pd rs K⟩ ⟨WDops P sm b n0 ops (i + 1) rest (updo g dst .undef) ws (h :: hs) pd rs K⟩ := rfl
theorem rdO {x : Option V} {K : V → Prop} : (∃ v, x = some v ∧ V.same 20 v v = true ∧ K v) = @bindO V x ⟨fun v => @andL (V.same 20 v v = true) ⟨K v⟩⟩ := rfl
variable (op : BinOp) (uop : UnOp) (fn : Fn) (xs ys : Array Operand) (lo hi mx : Option Operand) (ok bb : Bool) (i2 n f : Nat) (ps : Array (Nat × Operand)) (r : Option Operand) (x y a c m k : Operand) (t u s d : TypeId)
@[simp ↓] theorem WD_move : WDops P sm b n0 ops i (⟨dst, .move x, ty, pos, af, none⟩ :: rest) g ws (h :: hs) pd rs K = @bindO V (ρG g x) ⟨fun v => @andL (V.same 20 v v = true) ⟨WDops P sm b n0 ops (i + 1) rest (updo g dst v) ws (h :: hs) pd rs K⟩⟩ := rfl
@[simp ↓] theorem WD_assign : WDops P sm b n0 ops i (⟨dst, .assign x, ty, pos, af, none⟩ :: rest) g ws (h :: hs) pd rs K = @bindO V (ρG g x) ⟨fun v => @andL (V.same 20 v v = true) ⟨WDops P sm b n0 ops (i + 1) rest (updo g dst v) ws (h :: hs) pd rs K⟩⟩ := rfl
@[simp ↓] theorem WD_pick : WDops P sm b n0 ops i (⟨dst, .pick c a y, ty, pos, af, none⟩ :: rest) g ws (h :: hs) pd rs K = @bindO V (gPick g c a y) ⟨fun v => @andL (V.same 20 v v = true) ⟨WDops P sm b n0 ops (i + 1) rest (updo g dst v) ws (h :: hs) pd rs K⟩⟩ := rfl
@[simp ↓] theorem WD_load : WDops P sm b n0 ops i (⟨dst, .load t a, ty, pos, af, none⟩ :: rest) g ws (h :: hs) pd rs K = @bindO V (gLoad P g (addAll h (pd.filter (wants b i ws))) t a) ⟨fun v => @andL (V.same 20 v v = true) ⟨WDops P sm b n0 ops (i + 1) rest (updo g dst v) ws (h :: hs) pd (⟨i, fun h' => gLoad P g h' t a, v⟩ :: rs) K⟩⟩ := rfl
@[simp ↓] theorem WD_nilCheck : WDops P sm b n0 ops i (⟨dst, .nilCheck x, ty, pos, af, none⟩ :: rest) g ws (h :: hs) pd rs K = @bindO V (nilCk (ρG g x)) ⟨fun v => @andL (V.same 20 v v = true) ⟨WDops P sm b n0 ops (i + 1) rest (updo g dst v) ws (h :: hs) pd rs K⟩⟩ := rfl
@[simp ↓] theorem WD_binOp : WDops P sm b n0 ops i (⟨dst, .binOp op t x y u, ty, pos, af, none⟩ :: rest) g ws (h :: hs) pd rs K = @bindO V (gBin P g (addAll h (pd.filter (wants b i ws))) op t x y) ⟨fun v => @andL (V.same 20 v v = true) ⟨WDops P sm b n0 ops (i + 1) rest (updo g dst v) ws (h :: hs) pd (⟨i, fun h' => gBin P g h' op t x y, v⟩ :: rs) K⟩⟩ := rfl
@[simp ↓] theorem WD_unOp : WDops P sm b n0 ops i (⟨dst, .unOp uop t x, ty, pos, af, none⟩ :: rest) g ws (h :: hs) pd rs K = @bindO V (gUn g uop x) ⟨fun v => @andL (V.same 20 v v = true) ⟨WDops P sm b n0 ops (i + 1) rest (updo g dst v) ws (h :: hs) pd rs K⟩⟩ := rfl
@[simp ↓] theorem WD_makeInterface : WDops P sm b n0 ops i (⟨dst, .makeInterface t x, ty, pos, af, none⟩ :: rest) g ws (h :: hs) pd rs K = @bindO V (gIface P g t x) ⟨fun v => @andL (V.same 20 v v = true) ⟨WDops P sm b n0 ops (i + 1) rest (updo g dst v) ws (h :: hs) pd rs K⟩⟩ := rfl
@[simp ↓] theorem WD_makeFunc : WDops P sm b n0 ops i (⟨dst, .makeFunc fn xs ys, ty, pos, af, none⟩ :: rest) g ws (h :: hs) pd rs K = @bindO V (gFunc g fn xs ys) ⟨fun v => @andL (V.same 20 v v = true) ⟨WDops P sm b n0 ops (i + 1) rest (updo g dst v) ws (h :: hs) pd rs K⟩⟩ := rfl
@[simp ↓] theorem WD_slice : WDops P sm b n0 ops i (⟨dst, .slice t x lo hi mx, ty, pos, af, none⟩ :: rest) g ws (h :: hs) pd rs K = @bindO V (gSlice P g (addAll h (pd.filter (wants b i ws))) t x lo hi mx) ⟨fun v => @andL (V.same 20 v v = true) ⟨WDops P sm b n0 ops (i + 1) rest (updo g dst v) ws (h :: hs) pd (⟨i, fun h' => gSlice P g h' t x lo hi mx, v⟩ :: rs) K⟩⟩ := rfl
@[simp ↓] theorem WD_fieldAddr : WDops P sm b n0 ops i (⟨dst, .fieldAddr s x f, ty, pos, af, none⟩ :: rest) g ws (h :: hs) pd rs K = @bindO V (gFieldAddr P g s x f) ⟨fun v => @andL (V.same 20 v v = true) ⟨WDops P sm b n0 ops (i + 1) rest (updo g dst v) ws (h :: hs) pd rs K⟩⟩ := rfl
@[simp ↓] theorem WD_field : WDops P sm b n0 ops i (⟨dst, .field s x f, ty, pos, af, none⟩ :: rest) g ws (h :: hs) pd rs K = @bindO V (gField P g s x f) ⟨fun v => @andL (V.same 20 v v = true) ⟨WDops P sm b n0 ops (i + 1) rest (updo g dst v) ws (h :: hs) pd rs K⟩⟩ := rfl
@[simp ↓] theorem WD_indexAddr : WDops P sm b n0 ops i (⟨dst, .indexAddr t x y, ty, pos, af, none⟩ :: rest) g ws (h :: hs) pd rs K = @bindO V (gIndexAddr P g t x y) ⟨fun v => @andL (V.same 20 v v = true) ⟨WDops P sm b n0 ops (i + 1) rest (updo g dst v) ws (h :: hs) pd rs K⟩⟩ := rfl
@[simp ↓] theorem WD_index : WDops P sm b n0 ops i (⟨dst, .index t x y, ty, pos, af, none⟩ :: rest) g ws (h :: hs) pd rs K = @bindO V (gIndex P g t x y) ⟨fun v => @andL (V.same 20 v v = true) ⟨WDops P sm b n0 ops (i + 1) rest (updo g dst v) ws (h :: hs) pd rs K⟩⟩ := rfl
@[simp ↓] theorem WD_lookup : WDops P sm b n0 ops i (⟨dst, .lookup t m k ok, ty, pos, af, none⟩ :: rest) g ws (h :: hs) pd rs K = @bindO V (gLookup P g (addAll h (pd.filter (wants b i ws))) t m k ok) ⟨fun v => @andL (V.same 20 v v = true) ⟨WDops P sm b n0 ops (i + 1) rest (updo g dst v) ws (h :: hs) pd (⟨i, fun h' => gLookup P g h' t m k ok, v⟩ :: rs) K⟩⟩ := rfl
@[simp ↓] theorem WD_typeAssert : WDops P sm b n0 ops i (⟨dst, .typeAssert x u t ok, ty, pos, af, none⟩ :: rest) g ws (h :: hs) pd rs K = @bindO V (gAssert P g x t ok) ⟨fun v => @andL (V.same 20 v v = true) ⟨WDops P sm b n0 ops (i + 1) rest (updo g dst v) ws (h :: hs) pd rs K⟩⟩ := rfl
@[simp ↓] theorem WD_extract : WDops P sm b n0 ops i (⟨dst, .extract x i2, ty, pos, af, none⟩ :: rest) g ws (h :: hs) pd rs K = @bindO V (gExtract g x i2) ⟨fun v => @andL (V.same 20 v v = true) ⟨WDops P sm b n0 ops (i + 1) rest (updo g dst v) ws (h :: hs) pd rs K⟩⟩ := rfl
@[simp ↓] theorem WD_build : WDops P sm b n0 ops i (⟨dst, .build t ps, ty, pos, af, none⟩ :: rest) g ws (h :: hs) pd rs K = @bindO V (gBuild P g t ps) ⟨fun v => @andL (V.same 20 v v = true) ⟨WDops P sm b n0 ops (i + 1) rest (updo g dst v) ws (h :: hs) pd rs K⟩⟩ := rfl
@[simp ↓] theorem WD_alloc : WDops P sm b n0 ops i (⟨dst, .alloc t, ty, pos, af, none⟩ :: rest) g ws (h :: hs) pd rs K = @bindO (V × LO) (alZero P (n0 + i) t) ⟨fun p => WDops P sm b n0 ops (i + 1) rest (updo g dst p.1) ws (h :: hs) (⟨i, n0 + i, p.2⟩ :: pd) rs K⟩ := two _ _
@[simp ↓] theorem WD_box : WDops P sm b n0 ops i (⟨dst, .box t x, ty, pos, af, none⟩ :: rest) g ws (h :: hs) pd rs K = @bindO (V × LO) (gBox g (n0 + i) x) ⟨fun p => WDops P sm b n0 ops (i + 1) rest (updo g dst p.1) ws (h :: hs) (⟨i, n0 + i, p.2⟩ :: pd) rs K⟩ := two _ _
@[simp ↓] theorem WD_buildSlice : WDops P sm b n0 ops i (⟨dst, .buildSlice t n ps, ty, pos, af, none⟩ :: rest) g ws (h :: hs) pd rs K = @bindO (V × LO) (gBuildSlice P g (n0 + i) t n ps) ⟨fun p => WDops P sm b n0 ops (i + 1) rest (updo g dst p.1) ws (h :: hs) (⟨i, n0 + i, p.2⟩ :: pd) rs K⟩ := two _ _
@[simp ↓] theorem WD_makeMap : WDops P sm b n0 ops i (⟨dst, .makeMap t r, ty, pos, af, none⟩ :: rest) g ws (h :: hs) pd rs K = @bindO (V × LO) (gMakeMap P g (n0 + i) t r) ⟨fun p => WDops P sm b n0 ops (i + 1) rest (updo g dst p.1) ws (h :: hs) (⟨i, n0 + i, p.2⟩ :: pd) rs K⟩ := two _ _
@[simp ↓] theorem WD_makeSlice : WDops P sm b n0 ops i (⟨dst, .makeSlice t x y, ty, pos, af, none⟩ :: rest) g ws (h :: hs) pd rs K = @bindO (V × LO) (gMakeSlice P g (n0 + i) t x y) ⟨fun p => WDops P sm b n0 ops (i + 1) rest (updo g dst p.1) ws (h :: hs) (⟨i, n0 + i, p.2⟩ :: pd) rs K⟩ := two _ _
@[simp ↓] theorem WD_store : WDops P sm b n0 ops i (⟨dst, .store t a x, ty, pos, af, none⟩ :: rest) g ws (h :: hs) pd rs K = @bindO (V × Hp) (gStore P g (addAll h (pd.filter (wants b i ws))) t a x) ⟨fun p => WDops P sm b n0 ops (i + 1) rest (updo g dst p.1) (i :: ws) (p.2 :: h :: hs) pd rs K⟩ := two _ _
@[simp ↓] theorem WD_mapUpdate : WDops P sm b n0 ops i (⟨dst, .mapUpdate t m k x, ty, pos, af, none⟩ :: rest) g ws (h :: hs) pd rs K = @bindO (V × Hp) (gMapSet P g (addAll h (pd.filter (wants b i ws))) t m k x) ⟨fun p => WDops P sm b n0 ops (i + 1) rest (updo g dst p.1) (i :: ws) (p.2 :: h :: hs) pd rs K⟩ := two _ _
@[simp ↓] theorem WD_insert : WDops P sm b n0 ops i (⟨dst, .insert t m k x, ty, pos, af, none⟩ :: rest) g ws (h :: hs) pd rs K = @bindO (V × Hp) (gMapSet P g (addAll h (pd.filter (wants b i ws))) t m k x) ⟨fun p => WDops P sm b n0 ops (i + 1) rest (updo g dst p.1) (i :: ws) (p.2 :: h :: hs) pd rs K⟩ := two _ _
@[simp ↓] theorem WD_mapEntry : WDops P sm b n0 ops i (⟨dst, .mapEntry t m k, ty, pos, af, none⟩ :: rest) g ws (h :: hs) pd rs K = @bindO (V × Hp) (gMapEntry P g (addAll h (pd.filter (wants b i ws))) t m k) ⟨fun p => WDops P sm b n0 ops (i + 1) rest (updo g dst p.1) (i :: ws) (p.2 :: h :: hs) pd rs K⟩ := two _ _
@[simp ↓] theorem WD_entryStore : WDops P sm b n0 ops i (⟨dst, .entryStore t m a x, ty, pos, af, none⟩ :: rest) g ws (h :: hs) pd rs K = @bindO (V × Hp) (gEntryStore g (addAll h (pd.filter (wants b i ws))) m a x) ⟨fun p => WDops P sm b n0 ops (i + 1) rest (updo g dst p.1) (i :: ws) (p.2 :: h :: hs) pd rs K⟩ := two _ _
@[simp ↓] theorem WD_range : WDops P sm b n0 ops i (⟨dst, .range t x, ty, pos, af, none⟩ :: rest) g ws (h :: hs) pd rs K = @bindO (V × Hp) (gRange P g (addAll h (pd.filter (wants b i ws))) t x) ⟨fun p => WDops P sm b n0 ops (i + 1) rest (updo g dst p.1) (i :: ws) (p.2 :: h :: hs) pd rs K⟩ := two _ _
@[simp ↓] theorem WD_next : WDops P sm b n0 ops i (⟨dst, .next x bb, ty, pos, af, none⟩ :: rest) g ws (h :: hs) pd rs K = @bindO (V × Hp) (gNext g (addAll h (pd.filter (wants b i ws))) x bb) ⟨fun p => WDops P sm b n0 ops (i + 1) rest (updo g dst p.1) (i :: ws) (p.2 :: h :: hs) pd rs K⟩ := two _ _
variable (as : Array Operand) (ts : Array TypeId)
@[simp ↓] theorem WD_len : WDops P sm b n0 ops i (⟨dst, .call ⟨.builtin .len, as, ts⟩, ty, pos, af, none⟩ :: rest) g ws (h :: hs) pd rs K = @bindO V (gBuiltin P g (addAll h (pd.filter (wants b i ws))) .len as ts) ⟨fun v => @andL (V.same 20 v v = true) ⟨WDops P sm b n0 ops (i + 1) rest (updo g dst v) ws (h :: hs) pd (⟨i, fun h' => gBuiltin P g h' .len as ts, v⟩ :: rs) K⟩⟩ := rfl
@[simp ↓] theorem WD_cap : WDops P sm b n0 ops i (⟨dst, .call ⟨.builtin .cap, as, ts⟩, ty, pos, af, none⟩ :: rest) g ws (h :: hs) pd rs K = @bindO V (gBuiltin P g (addAll h (pd.filter (wants b i ws))) .cap as ts) ⟨fun v => @andL (V.same 20 v v = true) ⟨WDops P sm b n0 ops (i + 1) rest (updo g dst v) ws (h :: hs) pd (⟨i, fun h' => gBuiltin P g h' .cap as ts, v⟩ :: rs) K⟩⟩ := rfl
@[simp ↓] theorem WD_min : WDops P sm b n0 ops i (⟨dst, .call ⟨.builtin .min, as, ts⟩, ty, pos, af, none⟩ :: rest) g ws (h :: hs) pd rs K = @bindO V (gBuiltin P g (addAll h (pd.filter (wants b i ws))) .min as ts) ⟨fun v => @andL (V.same 20 v v = true) ⟨WDops P sm b n0 ops (i + 1) rest (updo g dst v) ws (h :: hs) pd (⟨i, fun h' => gBuiltin P g h' .min as ts, v⟩ :: rs) K⟩⟩ := rfl
@[simp ↓] theorem WD_max : WDops P sm b n0 ops i (⟨dst, .call ⟨.builtin .max, as, ts⟩, ty, pos, af, none⟩ :: rest) g ws (h :: hs) pd rs K = @bindO V (gBuiltin P g (addAll h (pd.filter (wants b i ws))) .max as ts) ⟨fun v => @andL (V.same 20 v v = true) ⟨WDops P sm b n0 ops (i + 1) rest (updo g dst v) ws (h :: hs) pd (⟨i, fun h' => gBuiltin P g h' .max as ts, v⟩ :: rs) K⟩⟩ := rfl
@[simp ↓] theorem WD_append : WDops P sm b n0 ops i (⟨dst, .call ⟨.builtin .append, as, ts⟩, ty, pos, af, none⟩ :: rest) g ws (h :: hs) pd rs K = @bindO (V × Hp) (gBuiltinA P g (addAll h (pd.filter (wants b i ws))) .append as ts) ⟨fun p => WDops P sm b n0 ops (i + 1) rest (updo g dst p.1) (i :: ws) (p.2 :: h :: hs) pd rs K⟩ := two _ _
@[simp ↓] theorem WD_copy : WDops P sm b n0 ops i (⟨dst, .call ⟨.builtin .copy, as, ts⟩, ty, pos, af, none⟩ :: rest) g ws (h :: hs) pd rs K = @bindO (V × Hp) (gBuiltinA P g (addAll h (pd.filter (wants b i ws))) .copy as ts) ⟨fun p => WDops P sm b n0 ops (i + 1) rest (updo g dst p.1) (i :: ws) (p.2 :: h :: hs) pd rs K⟩ := two _ _
@[simp ↓] theorem WD_delete : WDops P sm b n0 ops i (⟨dst, .call ⟨.builtin .delete, as, ts⟩, ty, pos, af, none⟩ :: rest) g ws (h :: hs) pd rs K = @bindO (V × Hp) (gBuiltinA P g (addAll h (pd.filter (wants b i ws))) .delete as ts) ⟨fun p => WDops P sm b n0 ops (i + 1) rest (updo g dst p.1) (i :: ws) (p.2 :: h :: hs) pd rs K⟩ := two _ _
@[simp ↓] theorem WD_call : WDops P sm b n0 ops i (⟨dst, .call ⟨.value x, as, ts⟩, ty, pos, af, none⟩ :: rest) g ws (h :: hs) pd rs K = @bindO V (ρG g x) ⟨fun fv => @bindO (List V) (ρsG g as.toList) ⟨fun vs => @sVal P sm fv vs (addAll h (pd.filter (wants b i ws))) ⟨onRet (fun v h' => WDops P sm b n0 ops (i + 1) rest (updo g dst v) (i :: ws) (h' :: h :: hs) pd rs K) (fun _ _ => False)⟩⟩⟩ := by
  refine propext ⟨fun ⟨fv, vs, e1, e2, k⟩ => ⟨fv, e1, vs, e2, k⟩, fun ⟨fv, e1, vs, e2, k⟩ => ⟨fv, vs, e1, e2, k⟩⟩
def cvt (x : Option V) (y : Option (V × Hp)) : Option (V ⊕ (V × Hp)) := match x with
  | some v => some (.inl v)
  | none => y.map .inr
@[simp] theorem cvt_some (v : V) (y : Option (V × Hp)) : cvt (some v) y = some (.inl v) := rfl
@[simp] theorem cvt_none (y : Option (V × Hp)) : cvt none y = y.map .inr := rfl
class KS where
  a : V → Prop
  b : V × Hp → Prop
def bindS (x : Option (V ⊕ (V × Hp))) [k : KS] : Prop := match x with
  | some (.inl v) => k.a v
  | some (.inr p) => k.b p
  | none => False
@[simp] theorem bindS_inl (v : V) (f : V → Prop) (e : V × Hp → Prop) : @bindS (some (.inl v)) ⟨f, e⟩ = f v := rfl
@[simp] theorem bindS_inr (v : V × Hp) (f : V → Prop) (e : V × Hp → Prop) : @bindS (some (.inr v)) ⟨f, e⟩ = e v := rfl
@[simp ↓] theorem WD_convert : WDops P sm b n0 ops i (⟨dst, .convert s d x, ty, pos, af, none⟩ :: rest) g ws (h :: hs) pd rs K = @bindS (cvt (gConv P g s d x) (gConvA P g (addAll h (pd.filter (wants b i ws))) s d x)) ⟨fun v => @andL (V.same 20 v v = true) ⟨WDops P sm b n0 ops (i + 1) rest (updo g dst v) ws (h :: hs) pd rs K⟩,
    fun p => WDops P sm b n0 ops (i + 1) rest (updo g dst p.1) (i :: ws) (p.2 :: h :: hs) pd rs K⟩ := by
  show ((gConv P g s d x ≠ none ∧ WDRead P _ i g _ _ rs) ∨ (gConv P g s d x = none ∧ WDAct P _ g _ _)) = _
  cases hc : gConv P g s d x with
  | some v =>
    refine propext ⟨fun hh => ?_, fun hh => .inl ⟨by simp, v, hc, hh.1, hh.2⟩⟩
    rcases hh with ⟨-, w, e, h1, h2⟩ | ⟨e, -⟩
    · have : w = v := by
        have e' : gConv P g s d x = some w := e
        rw [hc] at e'; cases e'; rfl
      subst this
      exact ⟨h1, h2⟩
    · cases e
  | none =>
    refine propext ⟨fun hh => ?_, fun hh => .inr ⟨rfl, ?_⟩⟩
    · rcases hh with ⟨e, -⟩ | ⟨-, w, h', e, h2⟩
      · exact absurd rfl e
      · have e' : gConvA P g (addAll h (pd.filter (wants b i ws))) s d x = some (w, h') := e
        rw [cvt_none, e']
        exact h2
    · rw [cvt_none] at hh
      cases hy : gConvA P g (addAll h (pd.filter (wants b i ws))) s d x with
      | none => rw [hy] at hh; exact hh.elim
      | some p =>
        rw [hy] at hh
        exact ⟨p.1, p.2, hy, hh⟩
end
end Go.Ev
end
section
namespace Go.Ev
theorem fle_dec (a b : Int) : fle a b = decide (a ≤ b) := by
  cases a <;> cases b <;> unfold fle
  · rename_i a b; rw [Bool.eq_iff_iff]; simp [Nat.ble_eq]
  · rename_i a b; symm; simp; omega
  · rename_i a b; symm; simp; omega
  · rename_i a b; rw [Bool.eq_iff_iff]; simp [Nat.ble_eq]; omega
theorem not_fle (a b : Int) : (!(fle a b)) = decide (b < a) := by rw [fle_dec, Bool.eq_iff_iff]; simp
theorem fbeq_dec (a b : Int) : fbeq a b = decide (a = b) := by rw [fbeq_eq, Bool.eq_iff_iff]; simp
section
variable (P : Program) (k : IntKind) (a b : Int) (t : TypeId) (h : Hp)
@[simp] theorem kbeq_self : kbeq k k = true := by cases k <;> rfl
theorem binV_int (op : BinOp) (h1 : op ≠ .shl) (h2 : op ≠ .shr) : binV P op t (.int k a) (.int k b) h = intBin op k a b := by
  cases op <;> first | exact absurd rfl h1 | exact absurd rfl h2 | (show br (kbeq k k) _ none = _; rw [kbeq_self]; first | done | rfl)
@[simp] theorem b_add : binV P .add t (.int k a) (.int k b) h = some (.int k (fwrap k (a + b))) := binV_int P k a b t h .add (by simp) (by simp)
@[simp] theorem b_sub : binV P .sub t (.int k a) (.int k b) h = some (.int k (fwrap k (a - b))) := binV_int P k a b t h .sub (by simp) (by simp)
@[simp] theorem b_mul : binV P .mul t (.int k a) (.int k b) h = some (.int k (fwrap k (a * b))) := binV_int P k a b t h .mul (by simp) (by simp)
@[simp] theorem b_lss : binV P .lss t (.int k a) (.int k b) h = some (.bool (decide (a < b))) := by
  rw [binV_int P k a b t h .lss (by simp) (by simp)]
  show some (V.bool (!(fle b a))) = _
  rw [not_fle]
@[simp] theorem b_leq : binV P .leq t (.int k a) (.int k b) h = some (.bool (decide (a ≤ b))) := by
  rw [binV_int P k a b t h .leq (by simp) (by simp)]
  show some (V.bool (fle a b)) = _
  rw [fle_dec]
@[simp] theorem b_gtr : binV P .gtr t (.int k a) (.int k b) h = some (.bool (decide (b < a))) := by
  rw [binV_int P k a b t h .gtr (by simp) (by simp)]
  show some (V.bool (!(fle a b))) = _
  rw [not_fle]
@[simp] theorem b_geq : binV P .geq t (.int k a) (.int k b) h = some (.bool (decide (b ≤ a))) := by
  rw [binV_int P k a b t h .geq (by simp) (by simp)]
  show some (V.bool (fle b a)) = _
  rw [fle_dec]
@[simp] theorem b_eql : binV P .eql t (.int k a) (.int k b) h = some (.bool (decide (a = b))) := by
  rw [binV_int P k a b t h .eql (by simp) (by simp)]
  show some (V.bool (fbeq a b)) = _
  rw [fbeq_dec]
@[simp] theorem b_neq : binV P .neq t (.int k a) (.int k b) h = some (.bool (!decide (a = b))) := by
  rw [binV_int P k a b t h .neq (by simp) (by simp)]
  show some (V.bool (!(fbeq a b))) = _
  rw [fbeq_dec]
theorem b_rem (hb : b ≠ 0) : binV P .rem t (.int k a) (.int k b) h = some (.int k (a.tmod b)) := by
  rw [binV_int P k a b t h .rem (by simp) (by simp)]
  show br (fbeq b 0) none _ = _
  rw [fbeq_dec, decide_eq_false hb]; first | done | rfl
theorem b_quo (hb : b ≠ 0) : binV P .quo t (.int k a) (.int k b) h = some (.int k (fwrap k (a.tdiv b))) := by
  rw [binV_int P k a b t h .quo (by simp) (by simp)]
  show br (fbeq b 0) none _ = _
  rw [fbeq_dec, decide_eq_false hb]; first | done | rfl
@[simp] theorem b_and : binV P .and t (.int k a) (.int k b) h = some (.int k (k.wrap (BitVec.ofInt k.bits a &&& BitVec.ofInt k.bits b).toNat)) := binV_int P k a b t h .and (by simp) (by simp)
@[simp] theorem b_or : binV P .or t (.int k a) (.int k b) h = some (.int k (k.wrap (BitVec.ofInt k.bits a ||| BitVec.ofInt k.bits b).toNat)) := binV_int P k a b t h .or (by simp) (by simp)
@[simp] theorem b_andNot : binV P .andNot t (.int k a) (.int k b) h = some (.int k (k.wrap (BitVec.ofInt k.bits a &&& ~~~(BitVec.ofInt k.bits b)).toNat)) := binV_int P k a b t h .andNot (by simp) (by simp)
variable (x y : List UInt8)
@[simp] theorem s_eql : binV P .eql t (.str x) (.str y) h = some (.bool (x == y)) := rfl
@[simp] theorem s_neq : binV P .neq t (.str x) (.str y) h = some (.bool !(x == y)) := rfl
theorem s_add (hl : x.length + y.length < 2 ^ 62) : binV P .add t (.str x) (.str y) h = some (.str (x ++ y)) := if_pos hl
@[simp] theorem u_not (b : Bool) : unV .not (.bool b) = some (.bool !b) := rfl
@[simp] theorem u_neg : unV .neg (.int k a) = some (.int k (fwrap k (0 - a))) := rfl
end
theorem fwrap_wrap (k : IntKind) (n : Int) : fwrap k n = k.wrap n ∨ (fwrap k n = n ∧ -9223372036854775808 ≤ n ∧ n ≤ 9223372036854775807) := by
  unfold fwrap
  split
  · rename_i m
    by_cases h : m ≤ 127
    · right; rw [br_eq, if_pos (Nat.ble_eq ▸ h)]; exact ⟨rfl, by simp only [Int.ofNat_eq_natCast]; omega, by simp only [Int.ofNat_eq_natCast]; omega⟩
    · rw [br_eq, if_neg (by rw [Nat.ble_eq]; exact h)]
      split
      · by_cases h2 : m ≤ 9223372036854775807
        · right; rw [br_eq, if_pos (Nat.ble_eq ▸ h2)]; exact ⟨rfl, by simp only [Int.ofNat_eq_natCast]; omega, by simp only [Int.ofNat_eq_natCast]; omega⟩
        · left; rw [br_eq, if_neg (by rw [Nat.ble_eq]; exact h2)]
      · left; rfl
  · rename_i m
    split
    · by_cases h2 : m ≤ 9223372036854775807
      · right; rw [br_eq, if_pos (Nat.ble_eq ▸ h2)]; exact ⟨rfl, by omega, by omega⟩
      · left; rw [br_eq, if_neg (by rw [Nat.ble_eq]; exact h2)]
    · left; rfl
@[simp] theorem fwrap64 {n : Int} (h1 : -9223372036854775808 ≤ n) (h2 : n ≤ 9223372036854775807) : fwrap .i64 n = n := by
  rcases fwrap_wrap .i64 n with h | h
  · rw [h]
    show (if (true && decide (n % 18446744073709551616 ≥ 9223372036854775808)) = true then n % 18446744073709551616 - 18446744073709551616 else n % 18446744073709551616) = n
    by_cases hc : n % 18446744073709551616 ≥ 9223372036854775808
    · rw [if_pos (by simp [hc])]; omega
    · rw [if_neg (by simp [hc])]; omega
  · exact h.1
def cellAt (h : Hp) (i o : Nat) : Option V := match h.get i with
  | some (.row cs _ _) => cs[o]?
  | _ => none
theorem cellAt_row {h : Hp} {i o : Nat} {cs : List V} {a b : Bool} (e : h.get i = some (.row cs a b)) : cellAt h i o = cs[o]? := by unfold cellAt; rw [e]
attribute [simp] cellAt rowAt writeRow splice V.cells V.one
@[simp] theorem hget_put (h : Hp) (i j : Nat) (x : Option LO) : (h.put i x).get j = if j = i then x else h.get j := Hp.get_put h i j x
@[simp] theorem hget_new (h : Hp) (o : LO) (j : Nat) : (h.new o).2.get j = if j = h.next then some o else h.get j := Hp.get_new h o j
@[simp] theorem next_put (h : Hp) (i : Nat) (x : Option LO) : (h.put i x).next = h.next := rfl
@[simp] theorem next_new (h : Hp) (o : LO) : (h.new o).2.next = h.next + 1 := rfl
@[simp] theorem hget_bump (h : Hp) (k j : Nat) : (h.bump k).get j = h.get j := rfl
@[simp] theorem next_bump (h : Hp) (k : Nat) : (h.bump k).next = h.next + k := rfl
theorem br_dec {α : Type} (p : Prop) [Decidable p] (x y : α) : br (decide p) x y = if p then x else y := by
  by_cases h : p <;> simp [h, br]
@[simp] theorem beq_nat (a b : Nat) : Nat.beq a b = decide (a = b) := by
  rw [Bool.eq_iff_iff]; simp
@[simp] theorem ble_nat (a b : Nat) : Nat.ble a b = decide (a ≤ b) := by
  rw [Bool.eq_iff_iff]; simp [Nat.ble_eq]
@[simp] theorem blt_nat (a b : Nat) : Nat.blt a b = decide (a < b) := by
  rw [Bool.eq_iff_iff]; simp [Nat.blt_eq]
attribute [simp] br_dec
def fOff (P : Program) (s : TypeId) (f : Nat) : Option Nat := match fieldOf P s f with
  | some fd => match szT P fd.type with
    | some (.succ _) => some fd.offset
    | _ => none
  | none => none
def fAddr (x : Option V) (o : Option Nat) : Option V := match x, o with
  | some (.ptr id off), some o => some (.ptr id (off + o))
  | _, _ => none
theorem gFieldAddr_eq (P : Program) (g : G) (s : TypeId) (x : Operand) (f : Nat) : gFieldAddr P g s x f = fAddr (ρG g x) (fOff P s f) := by
  unfold gFieldAddr fAddr fOff
  cases ρG g x with
  | none => rfl
  | some v =>
    cases v <;> first | rfl | skip
    cases fieldOf P s f with
    | none => rfl
    | some fd =>
      simp only
      cases szT P fd.type with
      | none => rfl
      | some n => cases n <;> rfl
@[simp] theorem fAddr_ptr (id off o : Nat) : fAddr (some (.ptr id off)) (some o) = some (.ptr id (off + o)) := rfl
attribute [simp] gFieldAddr_eq
inductive Pl where
  | cell (o : Nat)
  | many (o n : Nat)
def partP (cs : List V) : Pl → Option V
  | .cell o => cs[o]?
  | .many o n => if o + n ≤ cs.length then some (.agg ((cs.drop o).take n)) else none
def fPl (P : Program) (s : TypeId) (f : Nat) : Option Pl := match fieldOf P s f with
  | some fd => match isAggT P fd.type with
    | some true => (szT P fd.type).map fun n => .many fd.offset n
    | some false => some (.cell fd.offset)
    | none => none
  | none => none
def fPart (x : Option V) (p : Option Pl) : Option V := match x, p with
  | some (.agg cs), some p => partP cs p
  | _, _ => none
theorem gField_eq (P : Program) (g : G) (s : TypeId) (x : Operand) (f : Nat) : gField P g s x f = fPart (ρG g x) (fPl P s f) := by
  unfold gField fPart fPl
  cases ρG g x with
  | none => rfl
  | some v =>
    cases v <;> first | rfl | skip
    cases fieldOf P s f with
    | none => rfl
    | some fd =>
      simp only
      unfold partV
      cases isAggT P fd.type with
      | none => rfl
      | some b =>
        cases b
        · rfl
        · simp only
          cases szT P fd.type with
          | none => rfl
          | some n => simp [partP]
attribute [simp] gField_eq
@[simp] theorem fPart_cell (cs : List V) (o : Nat) : fPart (some (.agg cs)) (some (.cell o)) = cs[o]? := rfl
@[simp] theorem fPart_many (cs : List V) (o n : Nat) : fPart (some (.agg cs)) (some (.many o n)) = if o + n ≤ cs.length then some (.agg ((cs.drop o).take n)) else none := rfl
def plT (P : Program) (t : TypeId) : Option (List (Nat × Nat)) := match P.underlying t with
  | some (.struct fs) => if fs.toList.all (fun f => (szT P f.type).isSome) then some (fs.toList.map fun f => (f.offset, (szT P f.type).getD 0)) else none
  | _ => none
def fillL (pl : List (Nat × Nat)) (cells : List V) (parts : List (Nat × V)) : Option (List V) := fillV (fun i => pl[i]?) cells parts
theorem buildV_eq {P : Program} {t : TypeId} {pl : List (Nat × Nat)} {z : V} {zc : List V} (h1 : plT P t = some pl) (h2 : zeroT P t = some z) (h3 : z.cells = zc) (parts : List (Nat × V)) : buildV P t parts = (fillL pl zc parts).map .agg := by
  unfold plT at h1
  unfold buildV
  rw [h2]
  simp only
  split at h1
  · rename_i fs hfs
    split at h1
    · rename_i hall
      cases h1
      rw [hfs]
      simp only [hall, if_true]
      unfold fillL
      rw [h3]
      congr 2
      funext i
      unfold placeS
      rw [List.getElem?_map]
      cases hi : fs.toList[i]? with
      | none => rfl
      | some f =>
        have := List.all_eq_true.1 hall f (List.mem_of_getElem? hi)
        cases hs : szT P f.type with
        | none => rw [hs] at this; cases this
        | some n => simp [hs]
    · cases h1
  · cases h1
@[simp] theorem fillL_nil (pl : List (Nat × Nat)) (cells : List V) : fillL pl cells [] = some cells := rfl
@[simp] theorem fillL_cons (pl : List (Nat × Nat)) (cells : List V) (i : Nat) (v : V) (rest : List (Nat × V)) : fillL pl cells ((i, v) :: rest) = match pl[i]? with
    | none => none
    | some (off, size) => br (and (Nat.beq v.cells.length size) (Nat.ble (off + size) cells.length)) (fillL pl (splice cells off v.cells) rest) none := rfl
def sElem (P : Program) (t : TypeId) : Option Nat := match P.underlying t with
  | some (.slice e) => szT P e
  | _ => none
def aElem (P : Program) (t : TypeId) : Option (Nat × Nat) := match P.underlying t with
  | some (.array n e) => (szT P e).map fun s => (n, s)
  | _ => none
def idxS (s : Option Nat) (id off es len : Nat) (i : Int) : Option V := match s with
  | some s => if s = es ∧ 0 ≤ i ∧ i < len then some (.ptr id (off + i.toNat * es)) else none
  | none => none
def idxA (s : Option (Nat × Nat)) (id off : Nat) (i : Int) : Option V := match s with
  | some (n, s) => if 0 ≤ i ∧ i < n then some (.ptr id (off + i.toNat * s)) else none
  | none => none
attribute [simp] sElem aElem idxS idxA
@[simp] theorem idx_slice (P : Program) (t : TypeId) (id off es len : Nat) (cap : Option Nat) (k : IntKind) (i : Int) : indexAddrV P t (.slice id off es len cap) (.int k i) = idxS (sElem P t) id off es len i := by
  cases i with
  | ofNat i =>
    show (match P.underlying t, V.slice id off es len cap with
      | some (.array n e), .ptr id off => match szT P e with
        | some s => br (Nat.blt i n) (some (V.ptr id (off + i * s))) none
        | none => none
      | some (.slice e), .slice id off es len _ => match szT P e with
        | some s => br (and (Nat.beq s es) (Nat.blt i len)) (some (V.ptr id (off + i * es))) none
        | none => none
      | _, _ => none) = _
    unfold sElem
    cases P.underlying t with
    | none => rfl
    | some d =>
      cases d <;> first | rfl | skip
      rename_i e
      simp only
      cases szT P e with
      | none => rfl
      | some s =>
        simp only [idxS]
        rw [br_eq]
        have : (and (Nat.beq s es) (Nat.blt i len) = true) ↔ (s = es ∧ (0:Int) ≤ Int.ofNat i ∧ Int.ofNat i < (len : Int)) := by
          rw [Bool.and_eq_true, Nat.blt_eq, Nat.beq_eq]
          simp
        simp only [this]
        rfl
  | negSucc i =>
    show none = _
    unfold idxS
    cases sElem P t with
    | none => rfl
    | some s => simp only; rw [if_neg]; rintro ⟨-, h, -⟩; omega
@[simp] theorem idx_array (P : Program) (t : TypeId) (id off : Nat) (k : IntKind) (i : Int) : indexAddrV P t (.ptr id off) (.int k i) = idxA (aElem P t) id off i := by
  cases i with
  | ofNat i =>
    show (match P.underlying t, V.ptr id off with
      | some (.array n e), .ptr id off => match szT P e with
        | some s => br (Nat.blt i n) (some (V.ptr id (off + i * s))) none
        | none => none
      | some (.slice e), .slice id off es len _ => match szT P e with
        | some s => br (and (Nat.beq s es) (Nat.blt i len)) (some (V.ptr id (off + i * es))) none
        | none => none
      | _, _ => none) = _
    unfold aElem
    cases P.underlying t with
    | none => rfl
    | some d =>
      cases d <;> first | rfl | skip
      rename_i n e
      simp only
      cases szT P e with
      | none => rfl
      | some s =>
        simp only [idxA, Option.map_some]
        rw [br_eq]
        have : (Nat.blt i n = true) ↔ ((0:Int) ≤ Int.ofNat i ∧ Int.ofNat i < (n : Int)) := by
          rw [Nat.blt_eq]
          simp
        simp only [this]
        rfl
  | negSucc i =>
    show none = _
    unfold idxA
    cases aElem P t with
    | none => rfl
    | some s => simp only; rw [if_neg]; rintro ⟨h, -⟩; omega
attribute [simp] lenV capV
def is_pointer (P : Program) (t : TypeId) : Bool := match P.underlying t with
  | some (.pointer _) => true
  | _ => false
attribute [simp] is_pointer
@[simp] theorem eql_nilP (P : Program) (t : TypeId) (h : Hp)  : binV P .eql t .nilP .nilP h = if is_pointer P t then some (.bool true) else none := by
  show br true (br false none ((eqStep P h (eqIn P h 15) t .nilP .nilP).map (eqRes .eql))) none = _
  unfold eqStep is_pointer
  cases P.underlying t with
  | none => rfl
  | some d => cases d <;> rfl
@[simp] theorem neq_nilP (P : Program) (t : TypeId) (h : Hp)  : binV P .neq t .nilP .nilP h = if is_pointer P t then some (.bool false) else none := by
  show br true (br false none ((eqStep P h (eqIn P h 15) t .nilP .nilP).map (eqRes .neq))) none = _
  unfold eqStep is_pointer
  cases P.underlying t with
  | none => rfl
  | some d => cases d <;> rfl
@[simp] theorem eql_ptrN (P : Program) (t : TypeId) (h : Hp) (i o : Nat) : binV P .eql t (.ptr i o) .nilP h = if is_pointer P t then some (.bool false) else none := by
  show br true (br false none ((eqStep P h (eqIn P h 15) t (.ptr i o) .nilP).map (eqRes .eql))) none = _
  unfold eqStep is_pointer
  cases P.underlying t with
  | none => rfl
  | some d => cases d <;> rfl
@[simp] theorem neq_ptrN (P : Program) (t : TypeId) (h : Hp) (i o : Nat) : binV P .neq t (.ptr i o) .nilP h = if is_pointer P t then some (.bool true) else none := by
  show br true (br false none ((eqStep P h (eqIn P h 15) t (.ptr i o) .nilP).map (eqRes .neq))) none = _
  unfold eqStep is_pointer
  cases P.underlying t with
  | none => rfl
  | some d => cases d <;> rfl
@[simp] theorem eql_Nptr (P : Program) (t : TypeId) (h : Hp) (i o : Nat) : binV P .eql t .nilP (.ptr i o) h = if is_pointer P t then some (.bool false) else none := by
  show br true (br false none ((eqStep P h (eqIn P h 15) t .nilP (.ptr i o)).map (eqRes .eql))) none = _
  unfold eqStep is_pointer
  cases P.underlying t with
  | none => rfl
  | some d => cases d <;> rfl
@[simp] theorem neq_Nptr (P : Program) (t : TypeId) (h : Hp) (i o : Nat) : binV P .neq t .nilP (.ptr i o) h = if is_pointer P t then some (.bool true) else none := by
  show br true (br false none ((eqStep P h (eqIn P h 15) t .nilP (.ptr i o)).map (eqRes .neq))) none = _
  unfold eqStep is_pointer
  cases P.underlying t with
  | none => rfl
  | some d => cases d <;> rfl
def is_slice (P : Program) (t : TypeId) : Bool := match P.underlying t with
  | some (.slice _) => true
  | _ => false
attribute [simp] is_slice
@[simp] theorem eql_nilS (P : Program) (t : TypeId) (h : Hp)  : binV P .eql t .nilS .nilS h = if is_slice P t then some (.bool true) else none := by
  show br true (br false none ((eqStep P h (eqIn P h 15) t .nilS .nilS).map (eqRes .eql))) none = _
  unfold eqStep is_slice
  cases P.underlying t with
  | none => rfl
  | some d => cases d <;> rfl
@[simp] theorem neq_nilS (P : Program) (t : TypeId) (h : Hp)  : binV P .neq t .nilS .nilS h = if is_slice P t then some (.bool false) else none := by
  show br true (br false none ((eqStep P h (eqIn P h 15) t .nilS .nilS).map (eqRes .neq))) none = _
  unfold eqStep is_slice
  cases P.underlying t with
  | none => rfl
  | some d => cases d <;> rfl
@[simp] theorem eql_sliceN (P : Program) (t : TypeId) (h : Hp) (i o e l : Nat) (c : Option Nat) : binV P .eql t (.slice i o e l c) .nilS h = if is_slice P t then some (.bool false) else none := by
  show br true (br false none ((eqStep P h (eqIn P h 15) t (.slice i o e l c) .nilS).map (eqRes .eql))) none = _
  unfold eqStep is_slice
  cases P.underlying t with
  | none => rfl
  | some d => cases d <;> rfl
@[simp] theorem neq_sliceN (P : Program) (t : TypeId) (h : Hp) (i o e l : Nat) (c : Option Nat) : binV P .neq t (.slice i o e l c) .nilS h = if is_slice P t then some (.bool true) else none := by
  show br true (br false none ((eqStep P h (eqIn P h 15) t (.slice i o e l c) .nilS).map (eqRes .neq))) none = _
  unfold eqStep is_slice
  cases P.underlying t with
  | none => rfl
  | some d => cases d <;> rfl
def is_map (P : Program) (t : TypeId) : Bool := match P.underlying t with
  | some (.map _ _) => true
  | _ => false
attribute [simp] is_map
@[simp] theorem eql_nilM (P : Program) (t : TypeId) (h : Hp)  : binV P .eql t .nilM .nilM h = if is_map P t then some (.bool true) else none := by
  show br true (br false none ((eqStep P h (eqIn P h 15) t .nilM .nilM).map (eqRes .eql))) none = _
  unfold eqStep is_map
  cases P.underlying t with
  | none => rfl
  | some d => cases d <;> rfl
@[simp] theorem neq_nilM (P : Program) (t : TypeId) (h : Hp)  : binV P .neq t .nilM .nilM h = if is_map P t then some (.bool false) else none := by
  show br true (br false none ((eqStep P h (eqIn P h 15) t .nilM .nilM).map (eqRes .neq))) none = _
  unfold eqStep is_map
  cases P.underlying t with
  | none => rfl
  | some d => cases d <;> rfl
@[simp] theorem eql_mapN (P : Program) (t : TypeId) (h : Hp) (i : Nat) : binV P .eql t (.map i) .nilM h = if is_map P t then some (.bool false) else none := by
  show br true (br false none ((eqStep P h (eqIn P h 15) t (.map i) .nilM).map (eqRes .eql))) none = _
  unfold eqStep is_map
  cases P.underlying t with
  | none => rfl
  | some d => cases d <;> rfl
@[simp] theorem neq_mapN (P : Program) (t : TypeId) (h : Hp) (i : Nat) : binV P .neq t (.map i) .nilM h = if is_map P t then some (.bool true) else none := by
  show br true (br false none ((eqStep P h (eqIn P h 15) t (.map i) .nilM).map (eqRes .neq))) none = _
  unfold eqStep is_map
  cases P.underlying t with
  | none => rfl
  | some d => cases d <;> rfl
def is_func (P : Program) (t : TypeId) : Bool := match P.underlying t with
  | some (.func _ _ _) => true
  | _ => false
attribute [simp] is_func
@[simp] theorem eql_nilF (P : Program) (t : TypeId) (h : Hp)  : binV P .eql t .nilF .nilF h = if is_func P t then some (.bool true) else none := by
  show br true (br false none ((eqStep P h (eqIn P h 15) t .nilF .nilF).map (eqRes .eql))) none = _
  unfold eqStep is_func
  cases P.underlying t with
  | none => rfl
  | some d => cases d <;> rfl
@[simp] theorem neq_nilF (P : Program) (t : TypeId) (h : Hp)  : binV P .neq t .nilF .nilF h = if is_func P t then some (.bool false) else none := by
  show br true (br false none ((eqStep P h (eqIn P h 15) t .nilF .nilF).map (eqRes .neq))) none = _
  unfold eqStep is_func
  cases P.underlying t with
  | none => rfl
  | some d => cases d <;> rfl
@[simp] theorem eql_funcN (P : Program) (t : TypeId) (h : Hp) (i : Nat) (a b : List V) : binV P .eql t (.func i a b) .nilF h = if is_func P t then some (.bool false) else none := by
  show br true (br false none ((eqStep P h (eqIn P h 15) t (.func i a b) .nilF).map (eqRes .eql))) none = _
  unfold eqStep is_func
  cases P.underlying t with
  | none => rfl
  | some d => cases d <;> rfl
@[simp] theorem neq_funcN (P : Program) (t : TypeId) (h : Hp) (i : Nat) (a b : List V) : binV P .neq t (.func i a b) .nilF h = if is_func P t then some (.bool true) else none := by
  show br true (br false none ((eqStep P h (eqIn P h 15) t (.func i a b) .nilF).map (eqRes .neq))) none = _
  unfold eqStep is_func
  cases P.underlying t with
  | none => rfl
  | some d => cases d <;> rfl
def is_interface (P : Program) (t : TypeId) : Bool := match P.underlying t with
  | some (.interface _) => true
  | _ => false
attribute [simp] is_interface
@[simp] theorem eql_ifaceN (P : Program) (t : TypeId) (h : Hp) (i : Nat) (a : V) : binV P .eql t (.iface i a) .nilI h = if is_interface P t then some (.bool false) else none := by
  show br true (br false none ((eqStep P h (eqIn P h 15) t (.iface i a) .nilI).map (eqRes .eql))) none = _
  unfold eqStep is_interface
  cases P.underlying t with
  | none => rfl
  | some d => cases d <;> rfl
@[simp] theorem neq_ifaceN (P : Program) (t : TypeId) (h : Hp) (i : Nat) (a : V) : binV P .neq t (.iface i a) .nilI h = if is_interface P t then some (.bool true) else none := by
  show br true (br false none ((eqStep P h (eqIn P h 15) t (.iface i a) .nilI).map (eqRes .neq))) none = _
  unfold eqStep is_interface
  cases P.underlying t with
  | none => rfl
  | some d => cases d <;> rfl
section
variable (n : Nat)
@[simp] theorem sameList_nil (f : V → V → Bool) : sameList f [] [] = true := rfl
@[simp] theorem sameList_cons (f : V → V → Bool) (a b : V) (l m : List V) : sameList f (a :: l) (b :: m) = (f a b && sameList f l m) := rfl
@[simp] theorem same_bool (a b : Bool) : V.same (n + 1) (.bool a) (.bool b) = (a == b) := rfl
@[simp] theorem same_int (k j : IntKind) (a b : Int) : V.same (n + 1) (.int k a) (.int j b) = (k == j && a == b) := rfl
@[simp] theorem same_str (a b : List UInt8) : V.same (n + 1) (.str a) (.str b) = (a == b) := rfl
@[simp] theorem same_nilP : V.same (n + 1) .nilP .nilP = true := rfl
@[simp] theorem same_nilS : V.same (n + 1) .nilS .nilS = true := rfl
@[simp] theorem same_nilM : V.same (n + 1) .nilM .nilM = true := rfl
@[simp] theorem same_nilF : V.same (n + 1) .nilF .nilF = true := rfl
@[simp] theorem same_nilI : V.same (n + 1) .nilI .nilI = true := rfl
@[simp] theorem same_ptr (i o j q : Nat) : V.same (n + 1) (.ptr i o) (.ptr j q) = (i == j && o == q) := rfl
@[simp] theorem same_slice (i o e l : Nat) (c : Option Nat) (j q f m : Nat) (d : Option Nat) : V.same (n + 1) (.slice i o e l c) (.slice j q f m d) = (i == j && o == q && e == f && l == m && c == d) := rfl
@[simp] theorem same_map (i j : Nat) : V.same (n + 1) (.map i) (.map j) = (i == j) := rfl
@[simp] theorem same_yield (i j : Nat) : V.same (n + 1) (.yield i) (.yield j) = (i == j) := rfl
@[simp] theorem same_func (f : Nat) (a b : List V) (g : Nat) (c d : List V) : V.same (n + 1) (.func f a b) (.func g c d) = (f == g && sameList (V.same n) a c && sameList (V.same n) b d) := rfl
@[simp] theorem same_iface (t u : Nat) (v w : V) : V.same (n + 1) (.iface t v) (.iface u w) = (t == u && V.same n v w) := rfl
@[simp] theorem same_agg (a b : List V) : V.same (n + 1) (.agg a) (.agg b) = sameList (V.same n) a b := rfl
@[simp] theorem same_tuple (a b : List V) : V.same (n + 1) (.tuple a) (.tuple b) = sameList (V.same n) a b := rfl
end
theorem WLp.once {P : Program} {sm : Sums} {N : Nat} {kd : Kd} {b : Code} {g : G} {ds : List Dfr} {pm : PM} {h : Hp} {Q : Post} (hd : codeDst N b = true) (w : W P sm N kd b g ds pm h (onNorm (fun g ds pm h => WLp P sm N kd b g ds pm h Q) Q)) : WLp P sm N kd b g ds pm h Q := by
  intro env hn hg
  obtain ⟨n, e, ⟨env', ds', pm', h'⟩, h1, h2, h3⟩ := W_run b w hd env hn hg
  try dsimp only at h1
  have done : e ≠ .norm → Q e env'.get ds' pm' h' → RunTo N (fun n => (fns P sm n).lp kd b ⟨env, ds, pm, h⟩) Q := by
    intro he hq
    refine ⟨n + 1, e, ⟨env', ds', pm', h'⟩, ?_, h2, hq⟩
    show (match (fns P sm n).sc kd b ⟨env, ds, pm, h⟩ with | some (.norm, st') => (fns P sm n).lp kd b st' | r => r) = _
    rw [h1]
    cases e <;> first | rfl | exact absurd rfl he
  cases e with
  | norm =>
    obtain ⟨k, e2, st2, k1, k2, k3⟩ := (h3 : WLp P sm N kd b env'.get ds' pm' h' Q) env' h2 rfl
    try dsimp only at k1
    refine ⟨max n k + 1, e2, st2, ?_, k2, k3⟩
    show (match (fns P sm (max n k)).sc kd b ⟨env, ds, pm, h⟩ with | some (.norm, st') => (fns P sm (max n k)).lp kd b st' | r => r) = _
    rw [(fns_le (Nat.le_max_left n k)).sc _ _ _ _ h1]
    exact (fns_le (Nat.le_max_right n k)).lp _ _ _ _ k1
  | exit i => exact done (by simp) h3
  | goto l => exact done (by simp) h3
  | ret => exact done (by simp) h3
  | pan v => exact done (by simp) h3
end Go.Ev
end
