/- The evaluator of the proofs: its definitions, what relates it to the model, operations that look. -/
import Derived.RangeFuncIn
import Derived.OrdersIn
import Derived.DefersIn
import Derived.Laws.StructEq
import Derived.CheckFast
import Derived.Below
import Derived.Laws.Sem
import Derived.Laws.Cells
import Derived.ChangeKeysEq
import Derived.IntWalk
set_option linter.all false
set_option linter.unusedVariables false
set_option linter.unusedSimpArgs false
section
namespace Go.Ev
@[reducible] def br {α : Type} (b : Bool) (x y : α) : α := Bool.casesOn b y x
inductive V where
  | bool (b : Bool)
  | int (k : IntKind) (n : Int)
  | str (s : List UInt8)
  | nilP
  | ptr (id off : Nat)
  | nilS
  | slice (id off es len : Nat) (cap : Option Nat)
  | nilM
  | map (id : Nat)
  | nilF
  | func (f : Nat) (first caps : List V)
  | yield (l : Nat)
  | nilI
  | iface (t : Nat) (v : V)
  | agg (cs : List V)
  | tuple (vs : List V)
  deriving Inhabited
def V.undef : V := .tuple []
def V.cells : V → List V
  | .agg cs => cs
  | v => [v]
def V.one : V → Bool
  | .agg _ | .tuple _ => false
  | _ => true
inductive Tr (α : Type) where
  | lf
  | nd (v : Option α) (l r : Tr α)
def Tr.get {α : Type} : Tr α → Nat → Option α
  | .lf, _ => none
  | .nd v l r, n => br (Nat.beq n 0) v (br (Nat.beq (Nat.mod n 2) 1) (l.get (Nat.div n 2)) (r.get (Nat.pred (Nat.div n 2))))
def Tr.set {α : Type} (x : Option α) : Nat → Tr α → Nat → Tr α
  | 0, t, _ => t
  | f + 1, .lf, n => br (Nat.beq n 0) (.nd x .lf .lf) (br (Nat.beq (Nat.mod n 2) 1) (.nd none (Tr.set x f .lf (Nat.div n 2)) .lf) (.nd none .lf (Tr.set x f .lf (Nat.pred (Nat.div n 2)))))
  | f + 1, .nd v l r, n => br (Nat.beq n 0) (.nd x l r) (br (Nat.beq (Nat.mod n 2) 1) (.nd v (Tr.set x f l (Nat.div n 2)) r) (.nd v l (Tr.set x f r (Nat.pred (Nat.div n 2)))))
structure Env where
  n : Nat
  tr : Tr V
def Env.get : Env → Nat → V
  | ⟨_, tr⟩, i => match tr.get i with
    | some v => v
    | none => .undef
def Env.set : Env → Nat → V → Env
  | ⟨n, tr⟩, i, v => br (Nat.blt i n) ⟨n, tr.set (some v) (Nat.succ i) i⟩ ⟨n, tr⟩
def Env.sets : Env → Nat → List V → Env
  | e, _, [] => e
  | e, i, v :: l => Env.sets (e.set i v) (i + 1) l
def Env.enter (ntmps : Nat) (args : List V) : Env := Env.sets ⟨max args.length ntmps, .lf⟩ 0 args
structure ME where
  k : V
  v : V
  born : Nat
  deriving Inhabited
inductive LO where
  | row (cells : List V) (sh ext : Bool)
  | mapo (es : List ME) (clock : Nat)
  | siter (s : List UInt8) (pos : Nat)
  | dfr
  | loop (st : LoopState) (pend : Option Code) (env : Env) (ps : List Tmp) (assign body : Code) (dfr : Nat)
structure Hp where
  next : Nat
  tr : Tr LO
def Hp.get : Hp → Nat → Option LO
  | ⟨_, tr⟩, i => tr.get i
def Hp.put : Hp → Nat → Option LO → Hp
  | ⟨n, tr⟩, i, x => ⟨n, tr.set x (Nat.succ i) i⟩
def Hp.new : Hp → LO → Nat × Hp
  | ⟨n, tr⟩, o => (n, ⟨Nat.succ n, tr.set (some o) (Nat.succ n) n⟩)
def V.ofCell : Value → Option V
  | .bool b => some (.bool b)
  | .int k n => some (.int k n)
  | .string s => some (.str s.data.toList)
  | .pointer none => some .nilP
  | .slice none 0 0 => some .nilS
  | .map none => some .nilM
  | .nilFunc => some .nilF
  | .nilIface => some .nilI
  | _ => none
def V.ofCells : List Value → Option (List V)
  | [] => some []
  | x :: l => match V.ofCell x, V.ofCells l with
    | some a, some b => some (a :: b)
    | _, _ => none
def V.ofConst : Value → Option V
  | .agg cs => (V.ofCells cs.toList).map .agg
  | .tuple vs => if vs.toList.isEmpty then some .undef else none
  | .iface t v => (V.ofCell v).map (.iface t)
  | v => V.ofCell v
def ρ (env : Env) : Operand → Option V
  | .tmp t => some (env.get t)
  | .const v => V.ofConst v
  | .global _ => none
  | .func f => some (.func f [] [])
def ρs (env : Env) : List Operand → Option (List V)
  | [] => some []
  | x :: l => match ρ env x, ρs env l with
    | some a, some b => some (a :: b)
    | _, _ => none
variable (P : Program)
set_option linter.unusedVariables false
def isAggT (t : TypeId) : Option Bool :=
  match P.underlying t with
  | some (.struct _) => some true
  | some (.array _ _) => some true
  | some _ => some false
  | none => none
def szT (t : TypeId) : Option Nat := (P.info? t).map (·.size)
def bytesT (t : TypeId) : Option Nat := (P.info? t).map (·.bytes)
def zeroT (t : TypeId) : Option V := (P.info? t).bind fun i => i.zero.bind V.ofConst
def rowAt (h : Hp) (id off n : Nat) : Option (List V) :=
  match h.get id with
  | some (.row cs _ _) => br (Nat.ble (off + n) cs.length) (some ((cs.drop off).take n)) none
  | _ => none
def loadV (t : TypeId) (a : V) (h : Hp) : Option V :=
  match a with
  | .ptr id off =>
    match isAggT P t with
    | some true => match szT P t with
      | some n => (rowAt h id off n).map .agg
      | none => none
    | some false => match h.get id with
      | some (.row cs _ _) => cs[off]?
      | _ => none
    | none => none
  | _ => none
def splice (cs : List V) (off : Nat) (vs : List V) : List V := cs.take off ++ vs ++ cs.drop (off + vs.length)
def writeRow (h : Hp) (id off : Nat) (vs : List V) : Option Hp :=
  match h.get id with
  | some (.row cs sh false) => br (Nat.ble (off + vs.length) cs.length) (some (h.put id (some (.row (splice cs off vs) sh false)))) none
  | _ => none
def storeV (t : TypeId) (a v : V) (h : Hp) : Option Hp :=
  match a with
  | .ptr id off => match szT P t with
    | some n => br (and (Nat.beq n v.cells.length) (v.cells.all V.one)) (writeRow h id off v.cells) none
    | none => none
  | _ => none
def fieldOf (s : TypeId) (f : Nat) : Option Field :=
  match P.underlying s with
  | some (.struct fs) => fs.toList[f]?
  | _ => none
def partV (t : TypeId) (cs : List V) (off : Nat) : Option V :=
  match isAggT P t with
  | some true => match szT P t with
    | some n => br (Nat.ble (off + n) cs.length) (some (.agg ((cs.drop off).take n))) none
    | none => none
  | some false => cs[off]?
  | none => none
def fwrap (k : IntKind) (n : Int) : Int :=
  match n with
  | .ofNat m => br (Nat.ble m 127) n (match k with
    | .i64 => br (Nat.ble m 9223372036854775807) n (k.wrap n)
    | _ => k.wrap n)
  | .negSucc m => match k with
    | .i64 => br (Nat.ble m 9223372036854775807) n (k.wrap n)
    | _ => k.wrap n
def fbeq : Int → Int → Bool
  | .ofNat a, .ofNat b => Nat.beq a b
  | .negSucc a, .negSucc b => Nat.beq a b
  | _, _ => false
def fle : Int → Int → Bool
  | .ofNat a, .ofNat b => Nat.ble a b
  | .negSucc a, .negSucc b => Nat.ble b a
  | .negSucc _, .ofNat _ => true
  | .ofNat _, .negSucc _ => false
def kidx : IntKind → Nat
  | .i8 => 0 | .i16 => 1 | .i32 => 2 | .i64 => 3 | .u8 => 4 | .u16 => 5 | .u32 => 6 | .u64 => 7
def kbeq (a b : IntKind) : Bool := Nat.beq (kidx a) (kidx b)
def eqFields (eq : TypeId → V → V → Option Bool) (xs ys : List V) : List Field → Option Bool
  | [] => some true
  | f :: fs =>
    if f.name = "_" then none else
    match partV P f.type xs f.offset, partV P f.type ys f.offset with
    | some a, some b => match eq f.type a b with
      | some true => eqFields eq xs ys fs
      | r => r
    | _, _ => none
def eqItems (eq : TypeId → V → V → Option Bool) (e n : Nat) (xs ys : List V) : List Nat → Option Bool
  | [] => some true
  | i :: is =>
    match partV P e xs (i * n), partV P e ys (i * n) with
    | some a, some b => match eq e a b with
      | some true => eqItems eq e n xs ys is
      | r => r
    | _, _ => none
def eqStep (h : Hp) (eq : TypeId → V → V → Option Bool) (t : TypeId) (x y : V) : Option Bool :=
    match P.underlying t, x, y with
    | some .bool, .bool a, .bool b => some (a == b)
    | some (.int _), .int k a, .int k' b => br (kbeq k k') (some (fbeq a b)) none
    | some .string, .str a, .str b => some (a == b)
    | some (.pointer _), .nilP, .nilP => some true
    | some (.pointer _), .nilP, .ptr _ _ => some false
    | some (.pointer _), .ptr _ _, .nilP => some false
    | some (.pointer e), .ptr i o, .ptr j o' =>
      if szT P e = some 0 ∨ szT P e = none then none
      else if i = j then some (o == o')
      else match h.get i, h.get j with
        | some (.row _ false false), some (.row _ false false) => some false
        | _, _ => none
    | some (.interface _), .nilI, .nilI => some true
    | some (.interface _), .nilI, .iface _ _ => some false
    | some (.interface _), .iface _ _, .nilI => some false
    | some (.slice _), .nilS, .nilS => some true
    | some (.slice _), .nilS, .slice .. => some false
    | some (.slice _), .slice .., .nilS => some false
    | some (.map _ _), .nilM, .nilM => some true
    | some (.map _ _), .nilM, .map _ => some false
    | some (.map _ _), .map _, .nilM => some false
    | some (.func _ _ _), .nilF, .nilF => some true
    | some (.func _ _ _), .nilF, .func .. => some false
    | some (.func _ _ _), .func .., .nilF => some false
    | some (.struct fs), .agg xs, .agg ys => if P.stoodInHeld t then none else eqFields P eq xs ys fs.toList
    | some (.array n e), .agg xs, .agg ys => match szT P e with
      | some s => eqItems P eq e s xs ys (List.range n)
      | none => none
    | _, _, _ => none
def eqIn (h : Hp) : Nat → TypeId → V → V → Option Bool
  | 0 => fun _ _ _ => none
  | d + 1 => eqStep P h (eqIn h d)
def ckFields (ck : TypeId → V → Bool) (xs : List V) : List Field → Bool
  | [] => true
  | f :: fs => f.name != "_" && (match partV P f.type xs f.offset with | some a => ck f.type a | none => false) && ckFields ck xs fs
def ckItems (ck : TypeId → V → Bool) (e n : Nat) (xs : List V) : List Nat → Bool
  | [] => true
  | i :: is => (match partV P e xs (i * n) with | some a => ck e a | none => false) && ckItems ck e n xs is
def ckStep (ck : TypeId → V → Bool) (t : TypeId) (v : V) : Bool :=
    match P.underlying t, v with
    | some .bool, .bool _ => true
    | some (.int _), .int _ _ => true
    | some .string, .str _ => true
    | some (.struct fs), .agg xs => ckFields P ck xs fs.toList
    | some (.array n e), .agg xs => match szT P e with
      | some s => ckItems P ck e s xs (List.range n)
      | none => false
    | _, _ => false
def ckOk : Nat → TypeId → V → Bool
  | 0 => fun _ _ => false
  | d + 1 => ckStep P (ckOk d)
def findV (h : Hp) (kt : TypeId) (k : V) : List ME → Nat → Option (Option (Nat × ME))
  | [], _ => some none
  | e :: es, i => match eqIn P h 8 kt k e.k with
    | some true => some (some (i, e))
    | some false => findV h kt k es (i + 1)
    | none => none
def mapT (t : TypeId) : Option (TypeId × TypeId) :=
  match P.underlying t with
  | some (.map k e) => some (k, e)
  | _ => none
def entriesV (h : Hp) : V → Option (List ME)
  | .nilM => some []
  | .map r => match h.get r with
    | some (.mapo es _) => some es
    | _ => none
  | _ => none
def lookupV (t : TypeId) (m k : V) (ok : Bool) (h : Hp) : Option V :=
  match mapT P t with
  | none => none
  | some (kt, et) =>
    match entriesV h m with
    | none => none
    | some es =>
      if ckOk P 8 kt k then
        match findV P h kt k es 0 with
        | some (some (_, e)) => some (if ok then .tuple [e.v, .bool true] else e.v)
        | some none => (zeroT P et).map fun z => if ok then .tuple [z, .bool false] else z
        | none => none
      else none
def intBin (op : BinOp) (k : IntKind) (a b : Int) : Option V :=
  match op with
  | .add => some (.int k (fwrap k (Int.add a b)))
  | .sub => some (.int k (fwrap k (Int.sub a b)))
  | .mul => some (.int k (fwrap k (Int.mul a b)))
  | .quo => br (fbeq b 0) none (some (.int k (fwrap k (a.tdiv b))))
  | .rem => br (fbeq b 0) none (some (.int k (a.tmod b)))
  | .and => some (.int k (k.wrap (BitVec.ofInt k.bits a &&& BitVec.ofInt k.bits b).toNat))
  | .or => some (.int k (k.wrap (BitVec.ofInt k.bits a ||| BitVec.ofInt k.bits b).toNat))
  | .xor => some (.int k (k.wrap (BitVec.ofInt k.bits a ^^^ BitVec.ofInt k.bits b).toNat))
  | .andNot => some (.int k (k.wrap (BitVec.ofInt k.bits a &&& ~~~(BitVec.ofInt k.bits b)).toNat))
  | .eql => some (.bool (fbeq a b))
  | .neq => some (.bool (not (fbeq a b)))
  | .lss => some (.bool (not (fle b a)))
  | .leq => some (.bool (fle a b))
  | .gtr => some (.bool (not (fle a b)))
  | .geq => some (.bool (fle b a))
  | _ => none
def strBin (op : BinOp) (a b : List UInt8) : Option V :=
  match op with
  | .add => if a.length + b.length < 2 ^ 62 then some (.str (a ++ b)) else none
  | .eql => some (.bool (a == b))
  | .neq => some (.bool !(a == b))
  | .lss => some (.bool (Op.bytesLess a b))
  | .leq => some (.bool (Op.bytesLess a b || (a == b)))
  | .gtr => some (.bool !(Op.bytesLess a b || (a == b)))
  | .geq => some (.bool !(Op.bytesLess a b))
  | _ => none
def isEqOp : BinOp → Bool
  | .eql | .neq => true
  | _ => false
def eqOpen (t : TypeId) (x y : V) : Bool :=
  match x, y with
  | .agg _, .agg _ => P.eqGuardType P.depth t
  | _, _ => false
def eqRes (op : BinOp) (b : Bool) : V :=
  match op with
  | .eql => .bool b
  | _ => .bool (not b)
def binV (op : BinOp) (t : TypeId) (x y : V) (h : Hp) : Option V :=
  match x, y with
  | .int k a, .int k' b =>
    match op with
    | .shl => br (fle 0 b) (some (.int k (fwrap k (Int.mul a (2 ^ (min b.toNat k.bits)))))) none
    | .shr => br (fle 0 b) (some (.int k (a.fdiv (2 ^ (min b.toNat k.bits))))) none
    | _ => br (kbeq k k') (intBin op k a b) none
  | .str a, .str b => strBin op a b
  | .nilI, .nilI => none
  | x, y =>
    br (isEqOp op) (br (eqOpen P t x y) none ((eqIn P h 16 t x y).map (eqRes op))) none
def unV (op : UnOp) (x : V) : Option V :=
  match op, x with
  | .neg, .int k n => some (.int k (fwrap k (Int.sub 0 n)))
  | .xor, .int k n => some (.int k (k.wrap (BitVec.ofInt k.bits (if k.signed then -1 else k.max) ^^^ BitVec.ofInt k.bits n).toNat))
  | .not, .bool b => some (.bool !b)
  | _, _ => none
def bnd (x : V) (y : Nat) : Option Nat :=
  match x with
  | .int _ (.ofNat i) => br (Nat.ble i y) (some i) none
  | _ => none
def bndM (mx : Option V) (cap : Nat) : Option Nat :=
  match mx with
  | some v => bnd v cap
  | none => some cap
def bndH (hi mx : Option V) (len m : Nat) : Option Nat :=
  match hi with
  | some v => bnd v m
  | none => match mx with
    | some _ => none
    | none => some len
def bndL (lo : Option V) (h : Nat) : Option Nat :=
  match lo with
  | some v => bnd v h
  | none => some 0
def bounds (len cap : Nat) (lo hi mx : Option V) : Option (Nat × Nat × Nat) :=
  match bndM mx cap with
  | none => none
  | some m => match bndH hi mx len m with
    | none => none
    | some h => match bndL lo h with
      | none => none
      | some l => some (l, h, m)
def atLeast (h : Hp) (id off es len : Nat) : Nat :=
  match h.get id with
  | some (.row cs _ _) => max len (Nat.div (cs.length - off) es)
  | _ => len
def sliceS (s : List UInt8) (lo hi mx : Option V) : Option V :=
  match mx with
  | some _ => none
  | none => match bounds s.length s.length lo hi none with
    | some (l, h, _) => some (.str ((s.drop l).take (h - l)))
    | none => none
def sliceNil (lo hi mx : Option V) : Option V :=
  match bounds 0 0 lo hi mx with
  | some _ => some .nilS
  | none => none
def sliceL (h : Hp) (id off es len : Nat) (cap : Option Nat) (lo hi mx : Option V) : Option V :=
  match cap with
  | some c => match bounds len c lo hi mx with
    | some (l, h', m) => some (.slice id (off + l * es) es (h' - l) (some (m - l)))
    | none => none
  | none => match bounds len (atLeast h id off es len) lo hi mx with
    | some (l, h', m) => some (.slice id (off + l * es) es (h' - l) (match mx with | some _ => some (m - l) | none => none))
    | none => none
def sliceA (h : Hp) (n es id off : Nat) (lo hi mx : Option V) : Option V :=
  match mx with
  | some _ => none
  | none => match bounds n n lo hi none with
    | some (l, h', _) => match h.get id with
      | some (.row cs _ _) => br (Nat.ble (off + n * es) cs.length) (some (.slice id (off + l * es) es (h' - l) (some (n - l)))) none
      | _ => none
    | none => none
def sliceV (t : TypeId) (x : V) (lo hi mx : Option V) (h : Hp) : Option V :=
  match P.underlying t, x with
  | some .string, .str s => sliceS s lo hi mx
  | some (.slice e), .nilS => match szT P e with
    | some _ => sliceNil lo hi mx
    | none => none
  | some (.slice e), .slice id off es len cap => match szT P e with
    | some s => br (and (Nat.beq s es) (Nat.blt 0 es)) (sliceL h id off es len cap lo hi mx) none
    | none => none
  | some (.array n e), .ptr id off => match szT P e with
    | some es => sliceA h n es id off lo hi mx
    | none => none
  | _, _ => none
def indexAddrV (t : TypeId) (x i : V) : Option V :=
  match i with
  | .int _ (.ofNat i) =>
    match P.underlying t, x with
    | some (.array n e), .ptr id off => match szT P e with
      | some s => br (Nat.blt i n) (some (.ptr id (off + i * s))) none
      | none => none
    | some (.slice e), .slice id off es len _ => match szT P e with
      | some s => br (and (Nat.beq s es) (Nat.blt i len)) (some (.ptr id (off + i * es))) none
      | none => none
    | _, _ => none
  | _ => none
def indexV (t : TypeId) (x i : V) : Option V :=
  match i with
  | .int _ (.ofNat i) =>
    match P.underlying t, x with
    | some (.array n e), .agg cs => match szT P e with
      | some s => br (Nat.blt i n) (partV P e cs (i * s)) none
      | none => none
    | some .string, .str s => (s[i]?).map fun b => .int .u8 b.toNat
    | _, _ => none
  | _ => none
def lenV (t : TypeId) (x : V) (h : Hp) : Option V :=
  match P.underlying t, x with
  | some .string, .str s => some (.int .i64 s.length)
  | some (.slice _), .nilS => some (.int .i64 0)
  | some (.slice _), .slice _ _ _ n _ => some (.int .i64 n)
  | some (.map _ _), .nilM => some (.int .i64 0)
  | some (.map _ _), .map r => match h.get r with
    | some (.mapo es _) => some (.int .i64 es.length)
    | _ => none
  | some (.array n _), _ => some (.int .i64 n)
  | _, _ => none
def capV (t : TypeId) (x : V) : Option V :=
  match P.underlying t, x with
  | some (.slice _), .nilS => some (.int .i64 0)
  | some (.slice _), .slice _ _ _ _ (some c) => some (.int .i64 c)
  | some (.array n _), _ => some (.int .i64 n)
  | _, _ => none
def minmax (big : Bool) : V → List V → Option V
  | x, [] => some x
  | .int k a, .int _ b :: l => minmax big (.int k (br big (br (fle b a) a b) (br (fle a b) a b))) l
  | _, _ => none
def fillV (place : Nat → Option (Nat × Nat)) (cells : List V) : List (Nat × V) → Option (List V)
  | [] => some cells
  | (i, v) :: rest =>
    match place i with
    | none => none
    | some (off, size) => br (and (Nat.beq v.cells.length size) (Nat.ble (off + size) cells.length)) (fillV place (splice cells off v.cells) rest) none
def placeS (fs : List Field) (i : Nat) : Option (Nat × Nat) :=
  match fs[i]? with
  | some f => (szT P f.type).map fun s => (f.offset, s)
  | none => none
def ρparts (env : Env) : List (Nat × Operand) → Option (List (Nat × V))
  | [] => some []
  | (i, x) :: l => match ρ env x, ρparts env l with
    | some a, some b => some ((i, a) :: b)
    | _, _ => none
def buildV (t : TypeId) (parts : List (Nat × V)) : Option V :=
  match zeroT P t with
  | none => none
  | some z =>
    match P.underlying t with
    | some (.struct fs) => if fs.toList.all (fun f => (szT P f.type).isSome) then (fillV (placeS P fs.toList) z.cells parts).map .agg else none
    | some (.array _ e) => match szT P e with
      | some s => (fillV (fun i => some (i * s, s)) z.cells parts).map .agg
      | none => none
    | _ => none
def convV (src dst : TypeId) (x : V) : Option V :=
  match P.underlying src, P.underlying dst, x with
  | some _, some (.int k), .int _ n => some (.int k (fwrap k n))
  | some _, some .string, .str s => some (.str s)
  | _, _, _ => none
def assertV (t : TypeId) (x : V) (ok : Bool) : Option V :=
  match P.underlying t, x with
  | some (.interface _), _ => none
  | some _, .nilI => if ok then (zeroT P t).map fun z => .tuple [z, .bool false] else none
  | some _, .iface u v => if u = t then some (if ok then .tuple [v, .bool true] else v) else if ok then (zeroT P t).map fun z => .tuple [z, .bool false] else none
  | _, _ => none
def isRead (o : Op) : Bool :=
  match o with
  | .move _ | .assign _ | .pick .. | .load .. | .nilCheck _ | .binOp .. | .unOp .. | .makeInterface .. | .makeFunc .. | .slice .. | .fieldAddr .. | .field .. | .indexAddr .. | .index .. | .lookup .. | .typeAssert .. | .extract .. | .build .. => true
  | .convert src dst _ => (match P.underlying src, P.underlying dst with
    | some (.slice _), some .string => false
    | some .string, some (.slice _) => false
    | some (.slice _), some (.slice _) => false
    | _, _ => true)
  | .call c => (match c.callee with | .builtin b => (match b with | .len | .cap | .min | .max => true | _ => false) | _ => false)
  | _ => false
def isConstO : Operand → Bool
  | .const _ => true
  | _ => false
def rdPick (env : Env) (c a b : Operand) : Option V :=
  match ρ env c with
  | some (.bool true) => ρ env a
  | some (.bool false) => ρ env b
  | _ => none
def rdLoad (env : Env) (h : Hp) (t : TypeId) (a : Operand) : Option V :=
  match ρ env a with
  | some a => loadV P t a h
  | none => none
def rdNil (env : Env) (x : Operand) : Option V :=
  match ρ env x with
  | some (.ptr i o) => some (.ptr i o)
  | some (.slice i o e l c) => some (.slice i o e l c)
  | some (.map r) => some (.map r)
  | some (.func f a b) => some (.func f a b)
  | some (.yield l) => some (.yield l)
  | _ => none
def nilEq (op : BinOp) (t : TypeId) (x y : Operand) : Option V :=
  match P.underlying t with
  | some (.interface _) => if isConstO x || isConstO y then (match op with | .eql => some (.bool true) | .neq => some (.bool false) | _ => none) else none
  | _ => none
def rdBin (env : Env) (h : Hp) (op : BinOp) (t : TypeId) (x y : Operand) : Option V :=
  match ρ env x, ρ env y with
  | some .nilI, some .nilI => nilEq P op t x y
  | some a, some b => binV P op t a b h
  | _, _ => none
def rdUn (env : Env) (op : UnOp) (x : Operand) : Option V :=
  match ρ env x with
  | some a => unV op a
  | none => none
def rdConv (env : Env) (s d : TypeId) (x : Operand) : Option V :=
  match ρ env x with
  | some a => convV P s d a
  | none => none
def rdIface (env : Env) (t : TypeId) (x : Operand) : Option V :=
  match P.underlying t, ρ env x with
  | some (.interface _), _ => none
  | some _, some a => some (.iface t a)
  | _, _ => none
def rdFunc (env : Env) (fn : Fn) (a b : Array Operand) : Option V :=
  match fn with
  | .func f => match ρs env a.toList, ρs env b.toList with
    | some a, some b => some (.func f a b)
    | _, _ => none
  | _ => none
def ρo (env : Env) : Option Operand → Option (Option V)
  | none => some none
  | some x => match ρ env x with
    | some v => some (some v)
    | none => none
def rdSlice (env : Env) (h : Hp) (t : TypeId) (x : Operand) (lo hi mx : Option Operand) : Option V :=
  match ρ env x, ρo env lo, ρo env hi, ρo env mx with
  | some x, some lo, some hi, some mx => sliceV P t x lo hi mx h
  | _, _, _, _ => none
def rdFieldAddr (env : Env) (s : TypeId) (x : Operand) (f : Nat) : Option V :=
  match ρ env x, fieldOf P s f with
  | some (.ptr id off), some fd => match szT P fd.type with
    | some (.succ _) => some (.ptr id (off + fd.offset))
    | _ => none
  | _, _ => none
def rdField (env : Env) (s : TypeId) (x : Operand) (f : Nat) : Option V :=
  match ρ env x, fieldOf P s f with
  | some (.agg cs), some fd => partV P fd.type cs fd.offset
  | _, _ => none
def rdIndexAddr (env : Env) (t : TypeId) (x i : Operand) : Option V :=
  match ρ env x, ρ env i with
  | some x, some i => indexAddrV P t x i
  | _, _ => none
def rdIndex (env : Env) (t : TypeId) (x i : Operand) : Option V :=
  match ρ env x, ρ env i with
  | some x, some i => indexV P t x i
  | _, _ => none
def rdLookup (env : Env) (h : Hp) (t : TypeId) (m k : Operand) (ok : Bool) : Option V :=
  match ρ env m, ρ env k with
  | some m, some k => lookupV P t m k ok h
  | _, _ => none
def rdAssert (env : Env) (x : Operand) (t : TypeId) (ok : Bool) : Option V :=
  match ρ env x with
  | some x => assertV P t x ok
  | none => none
def rdExtract (env : Env) (x : Operand) (i : Nat) : Option V :=
  match ρ env x with
  | some (.tuple vs) => vs[i]?
  | _ => none
def rdBuild (env : Env) (t : TypeId) (ps : Array (Nat × Operand)) : Option V :=
  match ρparts env ps.toList with
  | some ps => buildV P t ps
  | none => none
def rdBuiltin (env : Env) (h : Hp) (b : Builtin) (args : Array Operand) (argTypes : Array TypeId) : Option V :=
  match ρs env args.toList with
  | some vs => match b, vs, argTypes.toList with
    | .len, [x], t :: _ => lenV P t x h
    | .cap, [x], t :: _ => capV P t x
    | .min, x :: l, _ => minmax false x l
    | .max, x :: l, _ => minmax true x l
    | _, _, _ => none
  | none => none
def rdCall (env : Env) (h : Hp) (c : Call) : Option V :=
  match c.callee with
  | .builtin b => rdBuiltin P env h b c.args c.argTypes
  | _ => none
def evReadOp (env : Env) (h : Hp) (o : Op) : Option V :=
  match o with
  | .move x | .assign x => ρ env x
  | .pick c a b => rdPick env c a b
  | .load t a => rdLoad P env h t a
  | .nilCheck x => rdNil env x
  | .binOp op t x y _ => rdBin P env h op t x y
  | .unOp op _ x => rdUn env op x
  | .convert s d x => rdConv P env s d x
  | .makeInterface t x => rdIface P env t x
  | .makeFunc fn a b => rdFunc env fn a b
  | .slice t x lo hi mx => rdSlice P env h t x lo hi mx
  | .fieldAddr s x f => rdFieldAddr P env s x f
  | .field s x f => rdField P env s x f
  | .indexAddr t x i => rdIndexAddr P env t x i
  | .index t x i => rdIndex P env t x i
  | .lookup t m k ok => rdLookup P env h t m k ok
  | .typeAssert x _ t ok => rdAssert P env x t ok
  | .extract x i => rdExtract env x i
  | .build t ps => rdBuild P env t ps
  | .call c => rdCall P env h c
  | _ => none
def evRead (env : Env) (h : Hp) (o : Oper) : Option V := evReadOp P env h o.op
def srcCells (es n : Nat) (x : V) (h : Hp) : Option (List V) :=
  match x with
  | .nilS => some []
  | .slice id off es' len _ => match n with
    | 0 => some []
    | _ => br (and (Nat.beq es es') (Nat.ble n len)) (rowAt h id off (n * es)) none
  | .str s => br (Nat.beq es 1) (some ((s.take n).map fun b => .int .u8 b.toNat)) none
  | _ => none
def lenOfV : V → Option Nat
  | .nilS => some 0
  | .slice _ _ _ n _ => some n
  | .str s => some s.length
  | _ => none
def appNew (es need : Nat) (cs : List V) (sh : Bool) (h : Hp) : Option (V × Hp) :=
  br (Nat.blt need 1073741824) (some (.slice h.next 0 es need none, (h.new (.row cs sh false)).2)) none
def appendRow (es n : Nat) (new : List V) (id off len : Nat) (cap : Option Nat) (h : Hp) : Option (V × Hp) :=
  match h.get id with
  | some (.row cs sh ext) =>
    br (Nat.ble (off + len * es) cs.length)
      (match cap with
        | some c => br (Nat.ble (len + n) c) ((writeRow h id (off + len * es) new).map fun h' => (.slice id off es (len + n) (some c), h')) (appNew es (len + n) ((cs.drop off).take (len * es) ++ new) false h)
        | none => br ext none (br (Nat.ble (off + (len + n) * es) cs.length) ((writeRow h id (off + len * es) new).map fun h' => (.slice id off es (len + n) none, h'))
            (appNew es (len + n) ((cs.drop off).take (len * es) ++ new) sh (h.put id none))))
      none
  | _ => none
def appendTo (es n : Nat) (new : List V) (s : V) (h : Hp) : Option (V × Hp) :=
  match s with
  | .nilS => match n with
    | 0 => some (.nilS, h)
    | _ => appNew es n new false h
  | .slice id off es' len cap => br (Nat.beq es' es)
      (match n with
        | 0 => some (.slice id off es' len cap, h)
        | _ => appendRow es n new id off len cap h) none
  | _ => none
def appOk (es by_ : Nat) (z : V) : Bool := and (Nat.blt 0 es) (and (Nat.ble by_ 65536) (Nat.beq z.cells.length es))
def isIntD : TypeDesc → Bool
  | .int _ => true
  | _ => false
def appendV (st xt : TypeId) (s x : V) (h : Hp) : Option (V × Hp) :=
  match P.underlying st, P.underlying xt with
  | some (.slice e), some xd =>
    br (isIntD xd) none
      (match szT P e, bytesT P e, zeroT P e, lenOfV x with
        | some es, some by_, some z, some n => br (appOk es by_ z)
            (match srcCells es n x h with
              | some new => br (new.all V.one) (appendTo es n new s h) none
              | none => none) none
        | _, _, _, _ => none)
  | _, _ => none
def copyTo (es n : Nat) (x : V) (id off : Nat) (h : Hp) : Option (V × Hp) :=
  match n with
  | 0 => some (.int .i64 0, h)
  | _ => match srcCells es n x h with
    | some new => br (and (Nat.beq new.length (n * es)) (new.all V.one)) ((writeRow h id off new).map fun h' => (.int .i64 n, h')) none
    | none => none
def copyV (dt : TypeId) (d x : V) (h : Hp) : Option (V × Hp) :=
  match P.underlying dt with
  | some (.slice e) => match szT P e, lenOfV x with
    | some es, some n0 =>
      match d with
      | .nilS => some (.int .i64 0, h)
      | .slice id off es' len _ => br (Nat.beq es' es) (copyTo es (Nat.min n0 len) x id off h) none
      | _ => none
    | _, _ => none
  | _ => none
def deleteV (t : TypeId) (m k : V) (h : Hp) : Option Hp :=
  match mapT P t with
  | none => none
  | some (kt, _) =>
    if ckOk P 8 kt k then
      match m with
      | .nilM => some h
      | .map r => match h.get r with
        | some (.mapo es clock) => match findV P h kt k es 0 with
          | some (some (i, _)) => some (h.put r (some (.mapo (es.eraseIdx i) clock)))
          | some none => some h
          | none => none
        | _ => none
      | _ => none
    else none
def sameList (same : V → V → Bool) : List V → List V → Bool
  | [], [] => true
  | x :: l, y :: m => same x y && sameList same l m
  | _, _ => false
def sameStep (same : V → V → Bool) (a b : V) : Bool :=
    match a, b with
    | .bool a, .bool b => a == b
    | .int k a, .int j b => k == j && a == b
    | .str a, .str b => a == b
    | .nilP, .nilP | .nilS, .nilS | .nilM, .nilM | .nilF, .nilF | .nilI, .nilI => true
    | .ptr i o, .ptr j q => i == j && o == q
    | .slice i o e l c, .slice j q f m d => i == j && o == q && e == f && l == m && c == d
    | .map a, .map b => a == b
    | .func f a b, .func g c d => f == g && sameList same a c && sameList same b d
    | .yield a, .yield b => a == b
    | .iface t v, .iface u w => t == u && same v w
    | .agg a, .agg b => sameList same a b
    | .tuple a, .tuple b => sameList same a b
    | _, _ => false
def V.same : Nat → V → V → Bool
  | 0 => fun _ _ => false
  | n + 1 => sameStep (V.same n)
def bitsStep (same : V → V → Bool) (a b : V) : Bool :=
    match a, b with
    | .bool a, .bool b => a == b
    | .int k a, .int j b => and (kbeq k j) (fbeq a b)
    | .str a, .str b => a == b
    | .agg a, .agg b => sameList same a b
    | _, _ => false
def V.bits : Nat → V → V → Bool
  | 0 => fun _ _ => false
  | n + 1 => bitsStep (V.bits n)
def mapSet (t : TypeId) (m k v : V) (h : Hp) : Option Hp :=
  match mapT P t, m with
  | some (kt, _), .map r =>
    if ckOk P 8 kt k then
      match h.get r with
      | some (.mapo es clock) => match findV P h kt k es 0 with
        | some (some (i, e)) => if V.bits 8 e.k k then some (h.put r (some (.mapo (es.set i ⟨k, v, e.born⟩) clock))) else none
        | some none => some (h.put r (some (.mapo (es ++ [⟨k, v, clock⟩]) (clock + 1))))
        | none => none
      | _ => none
    else none
  | _, _ => none
def mapEntryV (t : TypeId) (m k : V) (h : Hp) : Option (V × Hp) :=
  match mapT P t, m with
  | some (kt, et), .map r =>
    if ckOk P 8 kt k then
      match h.get r with
      | some (.mapo es clock) => match findV P h kt k es 0 with
        | some (some (i, e)) => if V.bits 8 e.k k then some (.tuple [e.v, .int .i64 e.born], h.put r (some (.mapo (es.set i ⟨k, e.v, e.born⟩) clock))) else none
        | some none => match zeroT P et with
          | some z => some (.tuple [z, .int .i64 clock], h.put r (some (.mapo (es ++ [⟨k, z, clock⟩]) (clock + 1))))
          | none => none
        | none => none
      | _ => none
    else none
  | _, _ => none
def entryStoreV (m s v : V) (h : Hp) : Option Hp :=
  match m, s with
  | .map r, .int _ n => match h.get r with
    | some (.mapo es clock) => match es.findIdx? (fun e => (e.born : Int) == n) with
      | some i => match es[i]? with
        | some e => some (h.put r (some (.mapo (es.set i ⟨e.k, v, e.born⟩) clock)))
        | none => none
      | none => none
    | _ => none
  | _, _ => none
def rep (n : Nat) (l : List V) : List V := (List.replicate n l).flatten
def makeSliceV (t : TypeId) (l c : V) (id : Nat) : Option (V × LO) :=
  match P.underlying t, l, c with
  | some (.slice e), .int _ (.ofNat l), .int _ (.ofNat c) =>
      match szT P e, bytesT P e, zeroT P e with
      | some es, some by_, some z =>
        br (and (and (Nat.ble l c) (Nat.blt c 1073741824)) (and (Nat.beq z.cells.length es) (Nat.ble by_ 65536))) (some (.slice id 0 es l (some c), .row (rep c z.cells) false false)) none
      | _, _, _ => none
  | _, _, _ => none
def buildSliceV (t : TypeId) (len : Nat) (parts : List (Nat × V)) (id : Nat) : Option (V × LO) :=
  match P.underlying t with
  | some (.slice e) =>
    match szT P e, zeroT P e with
    | some es, some z =>
      br (and (Nat.beq z.cells.length es) (Nat.ble (len * es) 1048576))
        (match fillV (fun i => some (i * es, es)) (rep len z.cells) parts with
        | some cs => some (.slice id 0 es len (some len), .row cs false false)
        | none => none) none
    | _, _ => none
  | _ => none
def bytesV : List V → Option (List UInt8)
  | [] => some []
  | .int .u8 n :: l => (bytesV l).map (UInt8.ofNat n.toNat :: ·)
  | _ => none
def convActV (src dst : TypeId) (x : V) (h : Hp) : Option (V × Hp) :=
  match P.underlying src, P.underlying dst, x with
  | some .string, some (.slice e), .str s =>
    match P.underlying e with
    | some (.int .u8) => some (.slice h.next 0 1 s.length none, (h.new (.row (s.map fun b => .int .u8 b.toNat) true false)).2)
    | _ => none
  | some (.slice _), some (.slice e), .slice id off es len cap =>
    match P.underlying e, h.get id with
    | some (.int .u8), some (.row cs _ false) => if src = dst ∧ 0 < len then some (.slice id off es len cap, h.put id (some (.row cs true false))) else none
    | _, _ => none
  | some (.slice e), some .string, .nilS =>
    match P.underlying e with
    | some (.int .u8) => some (.str [], h)
    | _ => none
  | some (.slice e), some .string, .slice id off _ len _ =>
    match P.underlying e with
    | some (.int .u8) => match rowAt h id off len with
      | some cs => (bytesV cs).map fun s => (.str s, h)
      | none => none
    | _ => none
  | _, _, _ => none
def nextV (it : V) (h : Hp) : Option (V × Hp) :=
  match it with
  | .ptr r 0 => match h.get r with
    | some (.siter s pos) =>
      if pos < s.length then
        match Utf8.decode ⟨s.toArray⟩ pos with
        | (c, w) => some (.tuple [.bool true, .int .i64 pos, .int .i32 c], h.put r (some (.siter s (pos + w))))
      else some (.tuple [.bool false], h)
    | _ => none
  | _ => none
end Go.Ev
end
section
namespace Go.Ev
inductive Dfr where
  | coll (id : Nat)
  | call (f : Nat) (args : List V)
inductive Ex where
  | norm
  | exit (id : Nat)
  | goto (l : Nat)
  | ret
  | pan (v : V)
inductive PM where
  | ret
  | pan (v : V) (recovered : Bool)
structure St where
  env : Env
  ds : List Dfr
  pm : PM
  h : Hp
inductive VRes where
  | ret (v : V) (h : Hp)
  | pan (v : V) (h : Hp)
inductive Kd where
  | normal
  | round (l : Nat)
  | deferred
structure Fns where
  sc : Kd → Code → St → Option (Ex × St)
  lp : Kd → Code → St → Option (Ex × St)
  sp : Kd → Code → Code → St → Option (Ex × St)
  cl : Nat → List V → Hp → Option VRes
  cd : Nat → List V → PM → Hp → Option (VRes × PM)
  rd : Nat → List V → Hp → Option VRes
def Fns.none : Fns := ⟨fun _ _ _ => Option.none, fun _ _ _ => Option.none, fun _ _ _ _ => Option.none, fun _ _ _ => Option.none, fun _ _ _ _ => Option.none, fun _ _ _ => Option.none⟩
inductive OpR where
  | val (v : V) (h : Hp)
  | pan (v : V) (h : Hp)
  | dfr (d : Dfr)
  | rcv
def put (env : Env) (dst : Option Tmp) (v : V) : Env :=
  match dst with
  | some d => env.set d v
  | none => env
def St.put : St → Option Tmp → V → St
  | ⟨env, ds, pm, h⟩, dst, v => ⟨Ev.put env dst v, ds, pm, h⟩
abbrev Sums := Nat → List V → Hp → Option VRes
variable (P : Program) (sm : Sums) (self : Fns)
def callV (fv : V) (args : List V) (h : Hp) : Option VRes :=
  match fv with
  | .func f a b => self.cl f (a ++ args ++ b) h
  | .yield l => self.rd l args h
  | _ => none
def VRes.op : VRes → OpR
  | .ret v h => .val v h
  | .pan v h => .pan v h
def acStore (env : Env) (h : Hp) (t : TypeId) (a x : Operand) : Option OpR :=
  match ρ env a, ρ env x with
  | some a, some x => (storeV P t a x h).map fun h' => .val .undef h'
  | _, _ => none
def acConv (env : Env) (h : Hp) (s d : TypeId) (x : Operand) : Option OpR :=
  match ρ env x with
  | some x => (convActV P s d x h).map fun r => .val r.1 r.2
  | none => none
def acMapSet (env : Env) (h : Hp) (t : TypeId) (m k v : Operand) : Option OpR :=
  match ρ env m, ρ env k, ρ env v with
  | some m, some k, some v => (mapSet P t m k v h).map fun h' => .val .undef h'
  | _, _, _ => none
def acMapEntry (env : Env) (h : Hp) (t : TypeId) (m k : Operand) : Option OpR :=
  match ρ env m, ρ env k with
  | some m, some k => (mapEntryV P t m k h).map fun r => .val r.1 r.2
  | _, _ => none
def acEntryStore (env : Env) (h : Hp) (m s v : Operand) : Option OpR :=
  match ρ env m, ρ env s, ρ env v with
  | some m, some s, some v => (entryStoreV m s v h).map fun h' => .val .undef h'
  | _, _, _ => none
def acRange (env : Env) (h : Hp) (t : TypeId) (x : Operand) : Option OpR :=
  match P.underlying t, ρ env x with
  | some .string, some (.str s) => some (.val (.ptr h.next 0) (h.new (.siter s 0)).2)
  | _, _ => none
def acNext (env : Env) (h : Hp) (it : Operand) (b : Bool) : Option OpR :=
  match b, ρ env it with
  | true, some it => (nextV it h).map fun r => .val r.1 r.2
  | _, _ => none
def acBuiltin (env : Env) (h : Hp) (b : Builtin) (args : Array Operand) (argTypes : Array TypeId) : Option OpR :=
  match ρs env args.toList with
  | some vs => match b, vs, argTypes.toList with
    | .append, [s, x], st :: xt :: _ => (appendV P st xt s x h).map fun r => .val r.1 r.2
    | .copy, [d, x], t :: _ => (copyV P t d x h).map fun r => .val r.1 r.2
    | .delete, [m, k], t :: _ => (deleteV P t m k h).map fun h' => .val .undef h'
    | .panic, [.iface t v], _ => some (.pan (.iface t v) h)
    | .recover, [], _ => some .rcv
    | _, _, _ => none
  | none => none
def acCall (env : Env) (h : Hp) (c : Call) : Option OpR :=
  match c.callee with
  | .builtin b => acBuiltin P env h b c.args c.argTypes
  | .value f => match ρ env f, ρs env c.args.toList with
    | some fv, some vs => (callV self fv vs h).map VRes.op
    | _, _ => none
  | _ => none
def acDefer (env : Env) (c : Call) : Option OpR :=
  match c.callee with
  | .value f => match ρ env f, ρs env c.args.toList with
    | some (.func f a b), some vs => some (.dfr (.call f (a ++ vs ++ b)))
    | _, _ => none
  | _ => none
def acPanic (env : Env) (h : Hp) (x : Operand) : Option OpR :=
  match ρ env x with
  | some (.iface t v) => some (.pan (.iface t v) h)
  | _ => none
def evActOp (env : Env) (h : Hp) (o : Op) : Option OpR :=
  match o with
  | .store t a x => acStore P env h t a x
  | .convert s d x => acConv P env h s d x
  | .mapUpdate t m k v | .insert t m k v => acMapSet P env h t m k v
  | .mapEntry t m k => acMapEntry P env h t m k
  | .entryStore _ m s v => acEntryStore env h m s v
  | .range t x => acRange P env h t x
  | .next it b => acNext env h it b
  | .call c => acCall P self env h c
  | .defer c => acDefer env c
  | .panic x => acPanic env h x
  | _ => none
def evAct (env : Env) (h : Hp) (o : Oper) : Option OpR := evActOp P self env h o.op
def isAlloc (o : Op) : Bool :=
  match o with
  | .alloc _ | .box .. | .buildSlice .. | .makeMap .. | .makeSlice .. => true
  | _ => false
def alZero (id : Nat) (e : TypeId) : Option (V × LO) :=
  match zeroT P e with
  | some z => some (.ptr id 0, .row z.cells false false)
  | none => none
def alBox (env : Env) (id : Nat) (x : Operand) : Option (V × LO) :=
  match ρ env x with
  | some v => if v.cells.all V.one then some (.ptr id 0, .row v.cells false false) else none
  | none => none
def alBuild (env : Env) (id : Nat) (t : TypeId) (n : Nat) (ps : Array (Nat × Operand)) : Option (V × LO) :=
  match ρparts env ps.toList with
  | some ps => buildSliceV P t n ps id
  | none => none
def alMap (env : Env) (id : Nat) (t : TypeId) (r : Option Operand) : Option (V × LO) :=
  match mapT P t, ρs env r.toList with
  | some _, some [] => some (.map id, .mapo [] 0)
  | some _, some [.int _ _] => some (.map id, .mapo [] 0)
  | _, _ => none
def alSlice (env : Env) (id : Nat) (t : TypeId) (l c : Operand) : Option (V × LO) :=
  match ρ env l, ρ env c with
  | some l, some c => makeSliceV P t l c id
  | _, _ => none
def evAllocOp (env : Env) (id : Nat) (o : Op) : Option (V × LO) :=
  match o with
  | .alloc e => alZero P id e
  | .box _ x => alBox env id x
  | .buildSlice t n ps => alBuild P env id t n ps
  | .makeMap t r => alMap P env id t r
  | .makeSlice t l c => alSlice P env id t l c
  | _ => none
def evAlloc (env : Env) (id : Nat) (o : Oper) : Option (V × LO) := evAllocOp P env id o.op
def yieldedV (ops : List Oper) (env : Env) (j : Nat) : Option Bool :=
  match (ops[j]?).bind (·.dst) with
  | some d => match env.get d with
    | .bool b => some b
    | _ => none
  | none => none
def wantedV (ops : List Oper) (env : Env) (o : Oper) : Bool :=
  match o.guard with
  | none => true
  | some (j, want) => match yieldedV ops env j with
    | some b => br want b (not b)
    | none => false
def opRead (o : Oper) : St → Option St
  | ⟨env, ds, pm, h⟩ => match evRead P env h o with
    | some v => some ⟨Ev.put env o.dst v, ds, pm, h⟩
    | none => none
def opAlloc (o : Oper) : St → Option St
  | ⟨env, ds, pm, h⟩ => match evAlloc P env h.next o with
    | some (v, lo) => some ⟨Ev.put env o.dst v, ds, pm, (h.new lo).2⟩
    | none => none
inductive Go1 where
  | on (st : St)
  | pan (v : V) (st : St)
def opRcv (kd : Kd) (o : Oper) : St → Option Go1
  | ⟨env, ds, pm, h⟩ => match kd with
    | .deferred => match pm with
      | .pan v false => some (.on ⟨Ev.put env o.dst v, ds, .pan v true, h⟩)
      | pm' => some (.on ⟨Ev.put env o.dst .nilI, ds, pm', h⟩)
    | _ => none
def opAct (kd : Kd) (o : Oper) : St → Option Go1
  | ⟨env, ds, pm, h⟩ => match evAct P self env h o with
    | some (.val v h') => some (.on ⟨Ev.put env o.dst v, ds, pm, h'⟩)
    | some (.pan v h') => some (.pan v ⟨env, ds, pm, h'⟩)
    | some (.dfr d) => match kd with
      | .round _ => none
      | _ => some (.on ⟨Ev.put env o.dst .undef, d :: ds, pm, h⟩)
    | some .rcv => opRcv kd o ⟨env, ds, pm, h⟩
    | none => none
def opStep (kd : Kd) (o : Oper) (st : St) : Option Go1 :=
  match opRead P o st with
  | some st' => some (.on st')
  | none => match opAlloc P o st with
    | some st' => some (.on st')
    | none => opAct P self kd o st
def evOps (kd : Kd) (ops : List Oper) : List Oper → St → Option (Ex × St)
  | [], st => some (.norm, st)
  | o :: rest, st =>
    br (wantedV ops st.env o)
      (match opStep P self kd o st with
        | some (.on st') => evOps kd ops rest st'
        | some (.pan v st') => some (.pan v, st')
        | none => none)
      (evOps kd ops rest (st.put o.dst .undef))
structure Rec where
  o : Oper
  i : Nat
  env : Env
  v : V
structure Pend where
  i : Nat
  id : Nat
  o : LO
structure Course where
  env : Env
  ws : List Nat
  hs : List Hp
  pd : List Pend
  rs : List Rec
def addAll (h : Hp) : List Pend → Hp
  | [] => h
  | p :: l => addAll (h.put p.id (some p.o)) l
def isB (b : List Nat) (i j : Nat) : Bool := (b.getD i 0).testBit j
def inHeap (b : List Nat) (ws : List Nat) (p : Pend) : Bool := ws.any fun w => isB b w p.i
def wants (b : List Nat) (i : Nat) (ws : List Nat) (p : Pend) : Bool := and (isB b i p.i) (not (inHeap b ws p))
def dwRead (b : List Nat) (i : Nat) (o : Oper) (c : Course) (h : Hp) : Option Course :=
  match evRead P c.env (addAll h (c.pd.filter (wants b i c.ws))) o with
  | some v => some ⟨put c.env o.dst v, c.ws, c.hs, c.pd, ⟨o, i, c.env, v⟩ :: c.rs⟩
  | none => none
def dwAlloc (n0 : Nat) (i : Nat) (o : Oper) (c : Course) : Option Course :=
  match evAlloc P c.env (n0 + i) o with
  | some (v, lo) => some ⟨put c.env o.dst v, c.ws, c.hs, ⟨i, n0 + i, lo⟩ :: c.pd, c.rs⟩
  | none => none
def dwAct (b : List Nat) (i : Nat) (o : Oper) (c : Course) (h : Hp) : Option Course :=
  match evAct P self c.env (addAll h (c.pd.filter (wants b i c.ws))) o with
  | some (.val v h') => some ⟨put c.env o.dst v, i :: c.ws, h' :: c.hs, c.pd, c.rs⟩
  | _ => none
def drawOp (b : List Nat) (n0 : Nat) (ops : List Oper) (i : Nat) (o : Oper) (c : Course) : Option Course :=
  match c.hs with
  | [] => none
  | h :: _ =>
    br (wantedV ops c.env o)
      (match dwRead P b i o c h with
        | some c' => some c'
        | none => match dwAlloc P n0 i o c with
          | some c' => some c'
          | none => dwAct P self b i o c h)
      (some ⟨put c.env o.dst .undef, c.ws, c.hs, c.pd, c.rs⟩)
def drawOps (b : List Nat) (n0 : Nat) (ops : List Oper) : Nat → List Oper → Course → Option Course
  | _, [], c => some c
  | i, o :: rest, c => match drawOp P self b n0 ops i o c with
    | some c' => drawOps b n0 ops (i + 1) rest c'
    | none => none
def chain (b : List Nat) : List Nat → Bool
  | [] => true
  | j :: l => and (match l with | [] => true | i :: _ => isB b j i) (chain b l)
def look1 (b : List Nat) (pd : List Pend) (r : Rec) (ws : List Nat) (h : Hp) : Bool :=
  match evRead P r.env (addAll h (pd.filter (wants b r.i ws))) r.o with
  | some v => V.same 20 v r.v
  | none => false
def looks (b : List Nat) (pd : List Pend) (r : Rec) : List Nat → List Hp → Bool
  | [], h :: _ => look1 P b pd r [] h
  | w :: ws, h :: hs => and (br ((w :: ws).any fun x => isB b x r.i) true (look1 P b pd r (w :: ws) h)) (br (isB b r.i w) true (looks b pd r ws hs))
  | _, [] => false
def drawEnd (b : List Nat) (ds : List Dfr) (pm : PM) : Course → Option (Ex × St)
  | ⟨env, ws, hs, pd, rs⟩ =>
    match hs with
    | h :: _ => br (and (chain b ws) (rs.all (fun r => looks P b pd r ws hs))) (some (.norm, ⟨env, ds, pm, addAll h (pd.filter (fun p => not (inHeap b ws p)))⟩)) none
    | [] => none
def evRegionDraw (ops : Array Oper) : St → Option (Ex × St)
  | ⟨env, ds, pm, h⟩ =>
    match drawOps P self (CheckFast.beforeL ops.toList 0 []) h.next ops.toList 0 ops.toList ⟨env, [], [⟨h.next + ops.size, h.tr⟩], [], []⟩ with
    | some c => drawEnd P (CheckFast.beforeL ops.toList 0 []) ds pm c
    | none => none
def loadRes (env : Env) (h : Hp) : List ResultVar → Option (List V)
  | [] => some []
  | .tmp t :: l => (loadRes env h l).map (env.get t :: ·)
  | .cell a t :: l => match loadV P t (env.get a) h, loadRes env h l with
    | some v, some vs => some (v :: vs)
    | _, _ => none
def resultsV (fn : Func) (env : Env) (h : Hp) : Option V :=
  match loadRes P env h fn.results.toList with
  | some [v] => some v
  | some vs => some (.tuple vs)
  | none => none
def PM.settle : PM → PM
  | .pan _ true => .ret
  | m => m
def leave (fn : Func) (env : Env) : List Dfr → PM → Hp → Option VRes
  | [], .ret, h => (resultsV P fn env h).map fun v => .ret v h
  | [], .pan v false, h => some (.pan v h)
  | [], .pan _ true, _ => none
  | .coll id :: ds, m, h => match h.get id with
    | some .dfr => leave fn env ds m (h.put id none)
    | _ => none
  | .call f args :: ds, m, h => match self.cd f args m h with
    | some (.ret _ h', m') => leave fn env ds m'.settle h'
    | some (.pan v h', .ret) => leave fn env ds (.pan v false) h'
    | _ => none
def evBody (f : Nat) (args : List V) (h : Hp) : Option VRes :=
  match P.funcs[f]? with
  | none => none
  | some fn => match fn.body with
    | none => none
    | some c => match self.sc .normal c ⟨Env.enter fn.ntmps args, [], .ret, h⟩ with
      | some (.norm, st) => leave P self fn st.env st.ds .ret st.h
      | some (.ret, st) => leave P self fn st.env st.ds .ret st.h
      | some (.pan v, st) => leave P self fn st.env st.ds (.pan v false) st.h
      | _ => none
def evCall (f : Nat) (args : List V) (h : Hp) : Option VRes :=
  match sm f args h with
  | some r => some r
  | none => evBody P self f args h
def evCallD (f : Nat) (args : List V) (m : PM) (h : Hp) : Option (VRes × PM) :=
  match P.funcs[f]? with
  | none => none
  | some fn => match fn.body with
    | none => none
    | some c => match self.sc .deferred c ⟨Env.enter fn.ntmps args, [], m, h⟩ with
      | some (.norm, ⟨env, [], m', h'⟩) => (resultsV P fn env h').map fun v => (.ret v h', m')
      | some (.ret, ⟨env, [], m', h'⟩) => (resultsV P fn env h').map fun v => (.ret v h', m')
      | some (.pan v, ⟨_, [], m', h'⟩) => some (.pan v h', m')
      | _ => none
def setAll : Env → List (Tmp × V) → Env
  | env, [] => env
  | env, (t, v) :: l => setAll (env.set t v) l
def Ex.jump : Ex → Option (Option Code)
  | .norm => some none
  | .ret => some (some .ret)
  | .exit id => some (some (.exit id))
  | .goto l => some (some (.goto l))
  | .pan _ => none
def evRound (l : Nat) (args : List V) (h : Hp) : Option VRes :=
  match h.get l with
  | some (.loop _ _ env ps assign body _) =>
    if ps.length = args.length then
      match self.sc (.round l) assign ⟨setAll env (ps.zip args), [], .ret, h⟩ with
      | some (.norm, st1) =>
        match st1.h.get l with
        | some (.loop .ready pend env1 ps1 a1 b1 d1) =>
          match self.sc (.round l) body { st1 with h := st1.h.put l (some (.loop .busy pend env1 ps1 a1 b1 d1)) } with
          | some (e, st2) =>
            match e.jump with
            | some j => match st2.h.get l with
              | some (.loop _ _ env2 ps2 a2 b2 d2) => some (.ret (.bool j.isNone) (st2.h.put l (some (.loop (if j.isNone then .ready else .done) j env2 ps2 a2 b2 d2))))
              | _ => none
            | none => none
          | none => none
        | _ => none
      | _ => none
    else none
  | _ => none
def aroundV (kd : Kd) (st : St) : Option (Nat × List Dfr × Hp) :=
  match kd with
  | .round l => match st.h.get l with
    | some (.loop _ _ _ _ _ _ d) => some (d, st.ds, st.h)
    | _ => none
  | _ => some (st.h.next, .coll st.h.next :: st.ds, (st.h.new .dfr).2)
def rangeJump (j : Option Code) (st : St) : Option (Ex × St) :=
  match j with
  | none => some (.norm, st)
  | some .ret => some (.ret, st)
  | some (.exit id) => some (.exit id, st)
  | some (.goto g) => some (.goto g, st)
  | _ => none
def rangeEnd (env : Env) (ds : List Dfr) (pm : PM) (l : Nat) (h2 : Hp) : Option (Ex × St) :=
  match h2.get l with
  | some (.loop s j env2 ps2 a2 b2 d2) => match s with
    | .busy => none
    | _ => rangeJump j ⟨env, ds, pm, h2.put l none⟩
  | _ => none
def evRange (kd : Kd) (f : Operand) (ps : Array Tmp) (assign body : Code) (st : St) : Option (Ex × St) :=
  match ρ st.env f, aroundV kd st with
  | some (.func fn a b), some (d, ds, h) =>
    match self.cl fn (a ++ [.yield h.next] ++ b) (h.new (.loop .ready none st.env ps.toList assign body d)).2 with
    | some (.ret _ h2) => rangeEnd st.env ds st.pm h.next h2
    | some (.pan v h2) => some (.pan v, ⟨st.env, ds, st.pm, h2⟩)
    | none => none
  | _, _ => none
def evCode (kd : Kd) (c : Code) (st : St) : Option (Ex × St) :=
  match c with
  | .skip | .label _ => some (.norm, st)
  | .region _ ops false => evOps P self kd ops.toList ops.toList st
  | .region _ ops true => evRegionDraw P self ops st
  | .seq a b => match self.sc kd a st with
    | some (.norm, st') => self.sc kd b st'
    | r => r
  | .cond c a b => match ρ st.env c with
    | some (.bool true) => self.sc kd a st
    | some (.bool false) => self.sc kd b st
    | _ => none
  | .block id b => match self.sc kd b st with
    | some (.exit id', st') => if id' = id then some (.norm, st') else some (.exit id', st')
    | r => r
  | .loop b => self.lp kd b st
  | .rangeFunc f ps a b => evRange self kd f ps a b st
  | .exit id => some (.exit id, st)
  | .scope b => self.sp kd b b st
  | .goto l => some (.goto l, st)
  | .ret => some (.ret, st)
  | .refuse _ => none
def evLoop (kd : Kd) (c : Code) (st : St) : Option (Ex × St) :=
  match self.sc kd c st with
  | some (.norm, st') => self.lp kd c st'
  | r => r
def evScope (kd : Kd) (b cur : Code) (st : St) : Option (Ex × St) :=
  match self.sc kd cur st with
  | some (.goto l, st') => match findLabel b l with
    | some rest => self.sp kd b rest st'
    | none => some (.goto l, st')
  | r => r
def Fns.step : Fns :=
  { sc := evCode P self, lp := evLoop self, sp := evScope self, cl := evCall P sm self, cd := evCallD P self, rd := evRound self }
def fns : Nat → Fns
  | 0 => .none
  | n + 1 => (fns n).step P sm
def sm0 : Sums := fun _ _ _ => none
end Go.Ev
end
section
namespace Go.Ev
structure PB where
  b : Nat
  o : Nat
  sz : Nat
abbrev Emb := Nat → Option PB
mutual
inductive VR (φ : Emb) : V → Value → Prop where
  | bool (b : Bool) : VR φ (.bool b) (.bool b)
  | int (k : IntKind) (n : Int) : VR φ (.int k n) (.int k n)
  | str (s : List UInt8) : VR φ (.str s) (.string ⟨s.toArray⟩)
  | nilP : VR φ .nilP (.pointer none)
  | ptr {id off : Nat} {p : PB} (h : φ id = some p) : VR φ (.ptr id off) (.pointer (some ⟨p.b, p.o + off, none⟩))
  | nilS : VR φ .nilS (.slice none 0 0)
  | slice {id off es len : Nat} {cap : Option Nat} {p : PB} {a : Addr} {pcap : Nat} (h : φ id = some p) (hl : len ≤ pcap) (ha : pcap ≠ 0 → a = ⟨p.b, p.o + off, none⟩)
      (hc : ∀ c, cap = some c → pcap = c) (hn : cap = none → p.o + off + pcap * es = p.sz) : VR φ (.slice id off es len cap) (.slice (some a) len pcap)
  | nilM : VR φ .nilM (.map none)
  | map {id : Nat} {p : PB} (h : φ id = some p) : VR φ (.map id) (.map (some p.b))
  | nilF : VR φ .nilF .nilFunc
  | func {f : Nat} {xs ys : List V} {pxs pys : List Value} (hx : VRs φ xs pxs) (hy : VRs φ ys pys) : VR φ (.func f xs ys) (.func (.func f) pxs.toArray pys.toArray)
  | yield {l : Nat} {p : PB} (h : φ l = some p) : VR φ (.yield l) (.func (.yield p.b) #[] #[])
  | nilI : VR φ .nilI .nilIface
  | iface {t : Nat} {v : V} {pv : Value} (h : VR φ v pv) : VR φ (.iface t v) (.iface t pv)
  | agg {cs : List V} {pcs : List Value} (h : VRs φ cs pcs) : VR φ (.agg cs) (.agg pcs.toArray)
  | tuple {cs : List V} {pcs : List Value} (h : VRs φ cs pcs) : VR φ (.tuple cs) (.tuple pcs.toArray)
inductive VRs (φ : Emb) : List V → List Value → Prop where
  | nil : VRs φ [] []
  | cons {v : V} {pv : Value} {l : List V} {pl : List Value} (h : VR φ v pv) (hl : VRs φ l pl) : VRs φ (v :: l) (pv :: pl)
end
def Emb.le (φ ψ : Emb) : Prop := ∀ i p, φ i = some p → ψ i = some p
theorem Emb.le_refl (φ : Emb) : φ.le φ := fun _ _ h => h
theorem Emb.le.trans {φ ψ χ : Emb} (h : φ.le ψ) (k : ψ.le χ) : φ.le χ := fun i p e => k i p (h i p e)
mutual
theorem VR.mono {φ ψ : Emb} (h : φ.le ψ) : ∀ {v : V} {pv : Value}, VR φ v pv → VR ψ v pv
  | _, _, .bool b => .bool b
  | _, _, .int k n => .int k n
  | _, _, .str s => .str s
  | _, _, .nilP => .nilP
  | _, _, .ptr e => .ptr (h _ _ e)
  | _, _, .nilS => .nilS
  | _, _, .slice e hl ha hc hn => .slice (h _ _ e) hl ha hc hn
  | _, _, .nilM => .nilM
  | _, _, .map e => .map (h _ _ e)
  | _, _, .nilF => .nilF
  | _, _, .func hx hy => .func (VRs.mono h hx) (VRs.mono h hy)
  | _, _, .yield e => .yield (h _ _ e)
  | _, _, .nilI => .nilI
  | _, _, .iface e => .iface (VR.mono h e)
  | _, _, .agg e => .agg (VRs.mono h e)
  | _, _, .tuple e => .tuple (VRs.mono h e)
theorem VRs.mono {φ ψ : Emb} (h : φ.le ψ) : ∀ {l : List V} {pl : List Value}, VRs φ l pl → VRs ψ l pl
  | _, _, .nil => .nil
  | _, _, .cons e el => .cons (VR.mono h e) (VRs.mono h el)
end
namespace VRs
variable {φ : Emb}
theorem length {l : List V} {pl : List Value} (h : VRs φ l pl) : l.length = pl.length := by
  induction l generalizing pl with
  | nil => cases h; rfl
  | cons v l ih => cases h with | cons _ hl => simp [ih hl]
theorem get {l : List V} {pl : List Value} (h : VRs φ l pl) {i : Nat} {v : V} (hi : l[i]? = some v) : ∃ pv, pl[i]? = some pv ∧ VR φ v pv := by
  induction l generalizing pl i with
  | nil => simp at hi
  | cons x l ih =>
    cases h with
    | cons hx hl =>
      cases i with
      | zero => simp at hi; subst hi; exact ⟨_, rfl, hx⟩
      | succ i => simp at hi ⊢; exact ih hl hi
theorem getP {l : List V} {pl : List Value} (h : VRs φ l pl) {i : Nat} {pv : Value} (hi : pl[i]? = some pv) : ∃ v, l[i]? = some v ∧ VR φ v pv := by
  induction l generalizing pl i with
  | nil => cases h; simp at hi
  | cons x l ih =>
    cases h with
    | cons hx hl =>
      cases i with
      | zero => simp at hi; subst hi; exact ⟨_, rfl, hx⟩
      | succ i => simp at hi ⊢; exact ih hl hi
theorem append {l m : List V} {pl pm : List Value} (h : VRs φ l pl) (k : VRs φ m pm) : VRs φ (l ++ m) (pl ++ pm) := by
  induction l generalizing pl with
  | nil => cases h; exact k
  | cons x l ih => cases h with | cons hx hl => exact .cons hx (ih hl)
theorem take {l : List V} {pl : List Value} (h : VRs φ l pl) (n : Nat) : VRs φ (l.take n) (pl.take n) := by
  induction l generalizing pl n with
  | nil => cases h; simp; exact .nil
  | cons x l ih =>
    cases h with
    | cons hx hl => cases n with
      | zero => simp; exact .nil
      | succ n => simp; exact .cons hx (ih hl n)
theorem drop {l : List V} {pl : List Value} (h : VRs φ l pl) (n : Nat) : VRs φ (l.drop n) (pl.drop n) := by
  induction l generalizing pl n with
  | nil => cases h; simp; exact .nil
  | cons x l ih =>
    cases h with
    | cons hx hl => cases n with
      | zero => simp; exact .cons hx hl
      | succ n => simp; exact ih hl n
theorem set {l : List V} {pl : List Value} (h : VRs φ l pl) (n : Nat) {v : V} {pv : Value} (hv : VR φ v pv) : VRs φ (l.set n v) (pl.set n pv) := by
  induction l generalizing pl n with
  | nil => cases h; simp; exact .nil
  | cons x l ih =>
    cases h with
    | cons hx hl => cases n with
      | zero => simp; exact .cons hv hl
      | succ n => simp; exact .cons hx (ih hl n)
theorem replicate (n : Nat) {v : V} {pv : Value} (hv : VR φ v pv) : VRs φ (List.replicate n v) (List.replicate n pv) := by
  induction n with
  | zero => exact .nil
  | succ n ih => exact .cons hv ih
theorem of_get {l : List V} {pl : List Value} (hl : l.length = pl.length) (h : ∀ (i : Nat) (v : V), l[i]? = some v → ∃ pv, pl[i]? = some pv ∧ VR φ v pv) : VRs φ l pl := by
  induction l generalizing pl with
  | nil => cases pl with
    | nil => exact .nil
    | cons _ _ => simp at hl
  | cons x l ih => cases pl with
    | nil => simp at hl
    | cons y pl =>
      obtain ⟨pv, e, hv⟩ := h 0 x rfl
      simp at e; subst e
      exact .cons hv (ih (by simpa using hl) fun i v hi => by simpa using h (i + 1) v (by simpa using hi))
end VRs
theorem VR.undef {φ : Emb} : VR φ .undef Go.undef := .tuple .nil
theorem VR.getD {φ : Emb} {l : List V} {pl : List Value} (h : VRs φ l pl) (i : Nat) : VR φ (l.getD i .undef) (pl.getD i Go.undef) := by
  simp only [List.getD_eq_getElem?_getD]
  cases hi : l[i]? with
  | none =>
    have : pl[i]? = none := by
      rw [List.getElem?_eq_none_iff] at hi ⊢
      rw [← h.length]; exact hi
    simp [this, VR.undef]
  | some v =>
    obtain ⟨pv, e, hv⟩ := h.get hi
    simp [e, hv]
theorem VR.oneCell {φ : Emb} {v : V} {pv : Value} (h : VR φ v pv) : v.one = pv.oneCell' := by
  cases h <;> rfl
theorem VR.cells {φ : Emb} {v : V} {pv : Value} (h : VR φ v pv) : VRs φ v.cells pv.cells.toList := by
  cases h
  case agg h => simpa [V.cells, Value.cells] using h
  all_goals exact .cons (by first | exact .bool _ | exact .int _ _ | exact .str _ | exact .nilP | exact .ptr ‹_› | exact .nilS | exact .slice ‹_› ‹_› ‹_› ‹_› ‹_› | exact .nilM | exact .map ‹_› | exact .nilF | exact .func ‹_› ‹_› | exact .yield ‹_› | exact .nilI | exact .iface ‹_› | exact .tuple ‹_›) .nil
theorem VR.ofCell {φ : Emb} {pv : Value} {v : V} (h : V.ofCell pv = some v) : VR φ v pv := by
  unfold V.ofCell at h
  split at h
  all_goals (first | (simp only [Option.some.injEq] at h; subst h) | exact absurd h (by simp))
  case h_3 s => exact .str s.data.toList
  all_goals constructor
theorem VR.ofCells {φ : Emb} : ∀ {pl : List Value} {l : List V}, V.ofCells pl = some l → VRs φ l pl
  | [], l, h => by simp [V.ofCells] at h; subst h; exact .nil
  | x :: pl, l, h => by
    simp only [V.ofCells] at h
    split at h
    · rename_i a b ha hb
      simp only [Option.some.injEq] at h
      subst h
      exact .cons (VR.ofCell ha) (VR.ofCells hb)
    · exact absurd h (by simp)
theorem VR.ofConst {φ : Emb} {pv : Value} {v : V} (h : V.ofConst pv = some v) : VR φ v pv := by
  unfold V.ofConst at h
  split at h
  · rename_i cs
    simp only [Option.map_eq_some_iff] at h
    obtain ⟨l, hl, rfl⟩ := h
    have := VR.agg (φ := φ) (VR.ofCells hl)
    simpa using this
  · rename_i vs
    split at h
    · rename_i he
      simp only [Option.some.injEq] at h
      subst h
      have : vs = #[] := by
        obtain ⟨l⟩ := vs
        simp at he
        simp [he]
      subst this
      exact .tuple .nil
    · exact absurd h (by simp)
  · simp only [Option.map_eq_some_iff] at h
    obtain ⟨a, ha, rfl⟩ := h
    exact .iface (VR.ofCell ha)
  · exact VR.ofCell h
theorem br_true {α : Type} (x y : α) : br true x y = x := rfl
theorem br_false {α : Type} (x y : α) : br false x y = y := rfl
theorem br_eq {α : Type} (b : Bool) (x y : α) : br b x y = if b = true then x else y := by cases b <;> rfl
theorem Tr.get_nd {α : Type} (v : Option α) (l r : Tr α) (n : Nat) : (Tr.nd v l r).get n = if n = 0 then v else if n % 2 = 1 then l.get (n / 2) else r.get (n / 2 - 1) := by
  show br (Nat.beq n 0) v (br (Nat.beq (Nat.mod n 2) 1) (l.get (Nat.div n 2)) (r.get (Nat.pred (Nat.div n 2)))) = _
  rw [br_eq, br_eq]
  simp only [Nat.beq_eq]
  rfl
theorem Tr.get_lf {α : Type} (n : Nat) : (Tr.lf : Tr α).get n = none := rfl
theorem Tr.set_lf {α : Type} (x : Option α) (f n : Nat) : Tr.set x (f + 1) (.lf : Tr α) n = if n = 0 then .nd x .lf .lf else if n % 2 = 1 then .nd none (Tr.set x f .lf (n / 2)) .lf else .nd none .lf (Tr.set x f .lf (n / 2 - 1)) := by
  show br (Nat.beq n 0) _ (br (Nat.beq (Nat.mod n 2) 1) _ _) = _
  rw [br_eq, br_eq]
  simp only [Nat.beq_eq]
  rfl
theorem Tr.set_nd {α : Type} (x : Option α) (f n : Nat) (v : Option α) (l r : Tr α) : Tr.set x (f + 1) (.nd v l r) n = if n = 0 then .nd x l r else if n % 2 = 1 then .nd v (Tr.set x f l (n / 2)) r else .nd v l (Tr.set x f r (n / 2 - 1)) := by
  show br (Nat.beq n 0) _ (br (Nat.beq (Nat.mod n 2) 1) _ _) = _
  rw [br_eq, br_eq]
  simp only [Nat.beq_eq]
  rfl
theorem Tr.get_set {α : Type} (x : Option α) : ∀ (f : Nat) (t : Tr α) (n m : Nat), n < f → (Tr.set x f t n).get m = if m = n then x else t.get m
  | 0, _, _, _, h => absurd h (Nat.not_lt_zero _)
  | f + 1, t, n, m, h => by
    have main : ∀ (v : Option α) (l r : Tr α), (if n = 0 then Tr.nd x l r else if n % 2 = 1 then .nd v (Tr.set x f l (n / 2)) r else .nd v l (Tr.set x f r (n / 2 - 1))).get m = if m = n then x else (Tr.nd v l r).get m := by
      intro v l r
      by_cases h0 : n = 0
      · subst h0
        rw [if_pos rfl, Tr.get_nd, Tr.get_nd]
        by_cases hm : m = 0 <;> simp [hm]
      · rw [if_neg h0]
        by_cases h1 : n % 2 = 1
        · rw [if_pos h1, Tr.get_nd, Tr.get_nd]
          by_cases hm : m = 0
          · subst hm; simp [Ne.symm h0]
          · rw [if_neg hm, if_neg hm]
            by_cases hm1 : m % 2 = 1
            · rw [if_pos hm1, if_pos hm1, Tr.get_set x f l (n / 2) (m / 2) (by omega)]
              have : (m / 2 = n / 2) ↔ m = n := by omega
              simp [this]
            · rw [if_neg hm1, if_neg hm1]
              have : m ≠ n := by rintro rfl; exact hm1 h1
              simp [this]
        · rw [if_neg h1, Tr.get_nd, Tr.get_nd]
          by_cases hm : m = 0
          · subst hm; simp [Ne.symm h0]
          · rw [if_neg hm, if_neg hm]
            by_cases hm1 : m % 2 = 1
            · have : m ≠ n := by rintro rfl; exact h1 hm1
              simp [hm1, this]
            · rw [if_neg hm1, if_neg hm1, Tr.get_set x f r (n / 2 - 1) (m / 2 - 1) (by omega)]
              have : (m / 2 - 1 = n / 2 - 1) ↔ m = n := by omega
              simp [this]
    cases t with
    | lf =>
      rw [Tr.set_lf, main none .lf .lf, Tr.get_nd]
      have : (if m = 0 then (none : Option α) else if m % 2 = 1 then (Tr.lf : Tr α).get (m / 2) else (Tr.lf : Tr α).get (m / 2 - 1)) = none := by
        split
        · rfl
        · split <;> rfl
      rw [this]; rfl
    | nd v l r => rw [Tr.set_nd, main v l r]
theorem Env.get_set (e : Env) (i j : Nat) (v : V) : (e.set i v).get j = if i < e.n ∧ j = i then v else e.get j := by
  obtain ⟨n, tr⟩ := e
  show (br (Nat.blt i n) (⟨n, tr.set (some v) (Nat.succ i) i⟩ : Env) ⟨n, tr⟩).get j = _
  rw [br_eq]
  have hb : (Nat.blt i n = true) ↔ i < n := by simp [Nat.blt_eq]
  by_cases hi : i < n
  · rw [if_pos (hb.2 hi)]
    show (match (Tr.set (some v) (Nat.succ i) tr i).get j with | some v => v | none => V.undef) = _
    rw [Tr.get_set _ _ _ _ _ (Nat.lt_succ_self i)]
    by_cases hj : j = i
    · simp [hj, hi]
    · simp only [hj, if_false, and_false]; rfl
  · rw [if_neg (fun h => hi (hb.1 h))]
    simp [hi]
theorem Env.n_set (e : Env) (i : Nat) (v : V) : (e.set i v).n = e.n := by
  obtain ⟨n, tr⟩ := e
  show (br (Nat.blt i n) (⟨n, tr.set (some v) (Nat.succ i) i⟩ : Env) ⟨n, tr⟩).n = n
  rw [br_eq]; split <;> rfl
theorem Hp.get_put (h : Hp) (i j : Nat) (x : Option LO) : (h.put i x).get j = if j = i then x else h.get j := by
  obtain ⟨n, tr⟩ := h
  exact Tr.get_set x (i + 1) tr i j (Nat.lt_succ_self i)
theorem Hp.next_put (h : Hp) (i : Nat) (x : Option LO) : (h.put i x).next = h.next := rfl
theorem Hp.get_new (h : Hp) (o : LO) (j : Nat) : (h.new o).2.get j = if j = h.next then some o else h.get j := by
  obtain ⟨n, tr⟩ := h
  exact Tr.get_set (some o) (n + 1) tr n j (Nat.lt_succ_self _)
theorem Hp.next_new (h : Hp) (o : LO) : (h.new o).2.next = h.next + 1 := rfl
theorem Hp.id_new (h : Hp) (o : LO) : (h.new o).1 = h.next := rfl
structure ER (φ : Emb) (env : Env) (a : Act) : Prop where
  n : env.n = a.tmps.size
  get : ∀ t, VR φ (env.get t) (a.tmps.getD t Go.undef)
theorem ER.mono {φ ψ : Emb} (h : φ.le ψ) {env : Env} {a : Act} (e : ER φ env a) : ER ψ env a := ⟨e.n, fun t => (e.get t).mono h⟩
theorem ER.put {φ : Emb} {env : Env} {a : Act} (e : ER φ env a) (dst : Option Tmp) {v : V} {pv : Value} (hv : VR φ v pv) : ER φ (Ev.put env dst v) (a.put dst pv) := by
  cases dst with
  | none => exact e
  | some d =>
    refine ⟨by simp [Ev.put, Env.n_set, Act.put, e.n], fun t => ?_⟩
    simp only [Ev.put, Act.put, Env.get_set, Array.getD_eq_getD_getElem?, Array.getElem?_setIfInBounds]
    by_cases hd : d < env.n ∧ t = d
    · obtain ⟨h1, rfl⟩ := hd
      have : t < a.tmps.size := by rw [← e.n]; exact h1
      simp [h1, this, hv]
    · rw [if_neg hd]
      have hg := e.get t
      simp only [Array.getD_eq_getD_getElem?] at hg
      by_cases h2 : d = t
      · subst h2
        have h3 : ¬ d < a.tmps.size := fun h => hd ⟨by rw [e.n]; exact h, rfl⟩
        simp only [if_true, h3, if_false]
        rw [Array.getElem?_eq_none (Nat.le_of_not_lt h3)] at hg
        simpa using hg
      · simpa [h2] using hg
theorem ρ_rel {φ : Emb} {env : Env} {a : Act} (h : ER φ env a) {x : Operand} {v : V} (e : ρ env x = some v) : VR φ v (a.eval x) := by
  cases x with
  | tmp t =>
    simp only [ρ, Option.some.injEq] at e
    subst e
    exact h.get t
  | const c => exact VR.ofConst e
  | global g => simp [ρ] at e
  | func f =>
    simp only [ρ, Option.some.injEq] at e
    subst e
    exact .func .nil .nil
theorem ρs_rel {φ : Emb} {env : Env} {a : Act} (h : ER φ env a) : ∀ {xs : List Operand} {vs : List V}, ρs env xs = some vs → VRs φ vs (xs.map a.eval)
  | [], vs, e => by simp [ρs] at e; subst e; exact .nil
  | x :: xs, vs, e => by
    simp only [ρs] at e
    split at e
    · rename_i v vs' hv hvs
      simp only [Option.some.injEq] at e
      subst e
      exact .cons (ρ_rel h hv) (ρs_rel h hvs)
    · exact absurd e (by simp)
def LO.ext : LO → Bool
  | .row _ _ e => e
  | _ => false
inductive MR (φ : Emb) : ME → MapEntry → Prop where
  | mk {k v : V} {pk pv : Value} {n : Nat} (hk : VR φ k pk) (hv : VR φ v pv) : MR φ ⟨k, v, n⟩ ⟨pk, pv, n⟩
inductive MRs (φ : Emb) : List ME → List MapEntry → Prop where
  | nil : MRs φ [] []
  | cons {e : ME} {pe : MapEntry} {l : List ME} {pl : List MapEntry} (h : MR φ e pe) (hl : MRs φ l pl) : MRs φ (e :: l) (pe :: pl)
def guardsOk (ops : List Oper) (b : List Nat) : Bool :=
  ops.zipIdx.all fun (o, i) => match o.guard with
    | none => true
    | some (j, _) => isB b i j && (match (ops[j]?).bind (·.dst) with
      | none => true
      | some d => ops.zipIdx.all fun (x, k) => x.dst != some d || k == i || isB b (max k i) (min k i))
def edgesOk (ops : List Oper) : Bool := ops.zipIdx.all fun (o, i) => o.after.all fun e => !Region.binds .any e || Nat.blt e.on i
def RegOk (ops : Array Oper) : Prop := Region.temporariesOk ops (Region.before ops) = true ∧ edgesOk ops.toList = true ∧ guardsOk ops.toList (CheckFast.beforeL ops.toList 0 []) = true ∧ Region.noSelect ops = true
def CodeOk : Code → Prop
  | .region _ ops true => RegOk ops
  | .seq a b | .cond _ a b | .rangeFunc _ _ a b => CodeOk a ∧ CodeOk b
  | .block _ c | .loop c | .scope c => CodeOk c
  | _ => True
inductive OR (φ : Emb) : LO → Obj → PB → Prop where
  | row {cs : List V} {sh ext : Bool} {C : Array Value} {e : TypeId} {fz : Nat × Nat} {p : PB} (hsz : C.size = p.sz) (hle : p.o + cs.length ≤ p.sz)
      (hc : ∀ (i : Nat) (v : V), cs[i]? = some v → ∃ pv, C[p.o + i]? = some pv ∧ VR φ v pv)
      (hf : ext = false → (∀ k, k < C.size → ¬ (fz.1 ≤ k ∧ k < fz.2)) ∧ (sh = false → fz = (0, 0)) ∧ fz.1 ≤ fz.2) : OR φ (.row cs sh ext) (.cells C e fz) p
  | mapo {es : List ME} {pes : List MapEntry} {clock : Nat} {p : PB} (h : MRs φ es pes) : OR φ (.mapo es clock) (.map pes.toArray clock) p
  | siter {s : List UInt8} {pos : Nat} {p : PB} (ho : p.o = 0) : OR φ (.siter s pos) (.stringIter ⟨s.toArray⟩ pos) p
  | dfr {p : PB} : OR φ .dfr (.deferred (some [])) p
  | loop {st : LoopState} {pend : Option Code} {env : Env} {tmps : Array Value} {ps : List Tmp} {assign body : Code} {d : Nat} {fn : FuncId} {p q : PB} (he : ER φ env ⟨tmps, []⟩)
      (hd : φ d = some q) (hok : CodeOk assign ∧ CodeOk body) : OR φ (.loop st pend env ps assign body d) (.loop { state := st, pending := pend, fn := fn, tmps := tmps, params := ps.toArray, assign := assign, body := body, defers := q.b }) p
structure WR (φ : Emb) (h : Hp) (w : World) : Prop where
  live : ∀ i o, h.get i = some o → ∃ p obj, φ i = some p ∧ w.heap[p.b]? = some obj ∧ OR φ o obj p
  inj : ∀ i j oi oj p q, h.get i = some oi → h.get j = some oj → i ≠ j → φ i = some p → φ j = some q → (oi.ext = false ∨ oj.ext = false) → p.b ≠ q.b
  fresh : ∀ i, h.next ≤ i → φ i = none
def Owns (φ : Emb) (h : Hp) (b : Nat) : Prop := ∃ i o p, h.get i = some o ∧ o.ext = false ∧ φ i = some p ∧ p.b = b
structure StpN (n : Nat) (φ : Emb) (h : Hp) (w : World) (φ' : Emb) (h' : Hp) (w' : World) : Prop where
  emb : φ.le φ'
  wr : WR φ' h' w'
  size : w.heap.size ≤ w'.heap.size
  frame : ∀ b, b < w.heap.size → ¬ Owns φ h b → w'.heap[b]? = w.heap[b]?
  own : ∀ b, Owns φ' h' b → Owns φ h b ∨ w.heap.size ≤ b
  os : w'.os = w.os
  tape : w'.tape = w.tape
  output : w'.output = w.output
  next : h.next ≤ h'.next
  old : ∀ i, i < n → φ' i = φ i
  dom : ∀ i o, i < n → h'.get i = some o → ∃ o', h.get i = some o'
  ext : ∀ i o, h'.get i = some o → o.ext = true → h.get i = some o
abbrev Stp (φ : Emb) (h : Hp) (w : World) (φ' : Emb) (h' : Hp) (w' : World) : Prop := StpN h.next φ h w φ' h' w'
theorem StpN.refl {n : Nat} {φ : Emb} {h : Hp} {w : World} (hw : WR φ h w) : StpN n φ h w φ h w :=
  ⟨Emb.le_refl φ, hw, Nat.le_refl _, fun _ _ _ => rfl, fun _ => .inl, rfl, rfl, rfl, Nat.le_refl _, fun _ _ => rfl, fun _ o _ hi => ⟨o, hi⟩, fun _ _ hi _ => hi⟩
theorem Stp.refl {φ : Emb} {h : Hp} {w : World} (hw : WR φ h w) : Stp φ h w φ h w := StpN.refl hw
theorem StpN.trans {n : Nat} {φ φ' φ'' : Emb} {h h' h'' : Hp} {w w' w'' : World} (s : StpN n φ h w φ' h' w') (t : StpN n φ' h' w' φ'' h'' w'') : StpN n φ h w φ'' h'' w'' where
  emb := s.emb.trans t.emb
  wr := t.wr
  size := Nat.le_trans s.size t.size
  frame b hb hn := by
    have h1 : ¬ Owns φ' h' b := fun ho => (s.own b ho).elim hn (fun h => absurd hb (Nat.not_lt.2 h))
    exact (t.frame b (Nat.lt_of_lt_of_le hb s.size) h1).trans (s.frame b hb hn)
  own b ho := by
    rcases t.own b ho with h1 | h1
    · exact s.own b h1
    · exact .inr (Nat.le_trans s.size h1)
  os := t.os.trans s.os
  tape := t.tape.trans s.tape
  output := t.output.trans s.output
  next := Nat.le_trans s.next t.next
  old i hi := (t.old i hi).trans (s.old i hi)
  dom i o hi ho := by
    obtain ⟨o', ho'⟩ := t.dom i o hi ho
    exact s.dom i o' hi ho'
  ext i o hi he := s.ext i o (t.ext i o hi he) he
theorem StpN.less {n m : Nat} {φ φ' : Emb} {h h' : Hp} {w w' : World} (s : StpN n φ h w φ' h' w') (hm : m ≤ n) : StpN m φ h w φ' h' w' :=
  { s with old := fun i hi => s.old i (Nat.lt_of_lt_of_le hi hm), dom := fun i o hi => s.dom i o (Nat.lt_of_lt_of_le hi hm) }
theorem Stp.trans {φ φ' φ'' : Emb} {h h' h'' : Hp} {w w' w'' : World} (s : Stp φ h w φ' h' w') (t : Stp φ' h' w' φ'' h'' w'') : Stp φ h w φ'' h'' w'' :=
  StpN.trans s (t.less s.next)
theorem WR.lt {φ : Emb} {h : Hp} {w : World} (hw : WR φ h w) {i : Nat} {p : PB} (e : φ i = some p) : i < h.next := by
  rcases Nat.lt_or_ge i h.next with hl | hl
  · exact hl
  · rw [hw.fresh i hl] at e; cases e
end Go.Ev
end
section
namespace Go.Ev
variable {P : Program} {φ : Emb} {h : Hp} {w : World}
theorem br_some {α : Type} {c : Bool} {x : Option α} {v : α} : br c x none = some v ↔ c = true ∧ x = some v := by cases c <;> simp [br]
theorem kbeq_iff {a b : IntKind} : kbeq a b = true ↔ a = b := by cases a <;> cases b <;> decide
theorem fbeq_eq (a b : Int) : fbeq a b = (a == b) := by
  cases a <;> cases b <;> simp only [fbeq] <;> rw [Bool.eq_iff_iff] <;> simp <;> omega
theorem addr_add (b o j : Nat) : (⟨b, o, none⟩ : Addr).add j = ⟨b, o + j, none⟩ := by
  unfold Addr.add
  split
  · rename_i e; subst e; rfl
  · rfl
theorem run_isAgg {t : TypeId} {b : Bool} (e : isAggT P t = some b) : (isAgg t).run P w = .ok b w := by
  unfold isAggT at e
  split at e
  case h_4 => cases e
  all_goals (rename_i hu; cases e; simp only [isAgg, Sem.run_bind, run_underlying hu, Result.andThen_ok])
  all_goals first
    | rfl
    | (rename_i d _ _; cases d <;> first | rfl | (exfalso; simp_all))
theorem run_szT {t : TypeId} {n : Nat} (e : szT P t = some n) : (sizeOf t).run P w = .ok n w := by
  simp only [szT, Option.map_eq_some_iff] at e
  obtain ⟨i, hi, rfl⟩ := e
  simp [sizeOf, typeInfo, hi]
theorem run_info {t : TypeId} {i : TypeInfo} (e : P.info? t = some i) : (typeInfo t).run P w = .ok i w := by simp [typeInfo, e]
theorem run_zeroT {t : TypeId} {z : V} (e : zeroT P t = some z) : ∃ pz, (zeroValue t).run P w = .ok pz w ∧ VR φ z pz := by
  simp only [zeroT, Option.bind_eq_some_iff] at e
  obtain ⟨i, hi, pz, hz, hv⟩ := e
  exact ⟨pz, by simp [zeroValue, typeInfo, hi, hz], VR.ofConst hv⟩
theorem row_live (hw : WR φ h w) {id : Nat} {cs : List V} {sh ext : Bool} (e : h.get id = some (.row cs sh ext)) :
    ∃ p C t fz, φ id = some p ∧ w.heap[p.b]? = some (.cells C t fz) ∧ C.size = p.sz ∧ p.o + cs.length ≤ p.sz ∧ (∀ (i : Nat) (v : V), cs[i]? = some v → ∃ pv, C[p.o + i]? = some pv ∧ VR φ v pv) ∧
      (ext = false → (∀ k, k < C.size → ¬ (fz.1 ≤ k ∧ k < fz.2)) ∧ (sh = false → fz = (0, 0)) ∧ fz.1 ≤ fz.2) := by
  obtain ⟨p, obj, hp, hb, ho⟩ := hw.live _ _ e
  cases ho with
  | row hsz hle hc hf => exact ⟨p, _, _, _, hp, hb, hsz, hle, hc, hf⟩
theorem cell_of_block {b : Nat} {C : Array Value} {t : TypeId} {fz : Nat × Nat} (hb : w.heap[b]? = some (.cells C t fz)) (o : Nat) : w.cell? ⟨b, o, none⟩ = C[o]? := by
  simp [World.cell?, hb]
theorem rowAt_rel (hw : WR φ h w) {id off n : Nat} {l : List V} (e : rowAt h id off n = some l) :
    ∃ p pl, φ id = some p ∧ VRs φ l pl ∧ pl.length = n ∧ ∀ (j : Nat) (v : Value), pl[j]? = some v → w.cell? ((⟨p.b, p.o + off, none⟩ : Addr).add j) = some v := by
  unfold rowAt at e
  split at e
  · rename_i cs sh ext hg
    rw [br_some] at e
    obtain ⟨hle, e⟩ := e
    have hle := Nat.le_of_ble_eq_true hle
    · cases e
      obtain ⟨p, C, t, fz, hp, hb, hsz, hle', hc, -⟩ := row_live hw hg
      refine ⟨p, (C.toList.drop (p.o + off)).take n, hp, ?_, ?_, ?_⟩
      · refine VRs.of_get ?_ ?_
        · simp only [List.length_take, List.length_drop, Array.length_toList]; omega
        · intro i v hi
          have hi' : i < n := by
            rcases Nat.lt_or_ge i n with hl | hl
            · exact hl
            · simp [List.getElem?_take, Nat.not_lt.2 hl] at hi
          simp only [List.getElem?_take, hi', if_true, List.getElem?_drop] at hi ⊢
          obtain ⟨pv, h1, h2⟩ := hc _ _ hi
          refine ⟨pv, ?_, h2⟩
          rw [Array.getElem?_toList, Nat.add_assoc]; exact h1
      · simp only [List.length_take, List.length_drop, Array.length_toList]; omega
      · intro j v hj
        rw [addr_add, cell_of_block hb]
        have hj' : j < n := by
          rcases Nat.lt_or_ge j n with hl | hl
          · exact hl
          · simp [List.getElem?_take, Nat.not_lt.2 hl] at hj
        simp only [List.getElem?_take, hj', if_true, List.getElem?_drop, Array.getElem?_toList] at hj
        exact hj
  · cases e
theorem loadV_rel (hw : WR φ h w) {t : TypeId} {a v : V} {pa : Value} (ha : VR φ a pa) (e : loadV P t a h = some v) : ∃ pv, (Instr.loadAt t pa).run P w = .ok pv w ∧ VR φ v pv := by
  unfold loadV at e
  split at e
  · rename_i id off
    cases ha with | ptr hp =>
    rename_i p
    simp only [Instr.loadAt, Instr.sureAddr, loadVar, Sem.run_bind, Sem.run_pure, Result.andThen_ok]
    split at e
    · rename_i hagg
      split at e
      · rename_i n hn
        simp only [Option.map_eq_some_iff] at e
        obtain ⟨l, hl, rfl⟩ := e
        obtain ⟨p', pl, hp', hrel, hlen, hcell⟩ := rowAt_rel hw hl
        rw [hp] at hp'; cases hp'
        refine ⟨.agg pl.toArray, ?_, .agg hrel⟩
        rw [run_isAgg hagg]
        simp only [Result.andThen_ok, if_true, Sem.run_bind, run_szT hn]
        have := run_loadCells_list (P := P) w _ pl hcell
        rw [hlen] at this
        simp [this]
      · cases e
    · rename_i hagg
      split at e
      · rename_i cs sh ext hg
        obtain ⟨p', C, ty, fz, hp', hb, hsz, hle', hc, -⟩ := row_live hw hg
        rw [hp] at hp'; cases hp'
        obtain ⟨pv, h1, h2⟩ := hc _ _ e
        refine ⟨pv, ?_, h2⟩
        rw [run_isAgg hagg]
        simp [cell_of_block hb, h1]
      · cases e
    · cases e
  · cases e
theorem partV_rel {t : TypeId} {cs : List V} {pcs : List Value} (hr : VRs φ cs pcs) {off : Nat} {v : V} (e : partV P t cs off = some v) :
    ∃ pv, (part t pcs.toArray off).run P w = .ok pv w ∧ VR φ v pv := by
  unfold partV at e
  split at e
  · rename_i hagg
    split at e
    · rename_i n hn
      rw [br_some] at e
      obtain ⟨-, e⟩ := e
      · cases e
        refine ⟨.agg ((pcs.drop off).take n).toArray, ?_, .agg ((hr.drop off).take n)⟩
        simp only [part, Sem.run_bind, run_isAgg hagg, Result.andThen_ok, if_true, run_szT hn, Sem.run_pure]
        congr 2
        apply Array.ext'
        simp
    · cases e
  · rename_i hagg
    obtain ⟨pv, h1, h2⟩ := hr.get e
    refine ⟨pv, ?_, h2⟩
    simp only [part, Sem.run_bind, run_isAgg hagg, Result.andThen_ok, Bool.false_eq_true, if_false]
    simp [h1]
  · cases e
theorem VR.agg_inv {cs : List V} {pv : Value} (hr : VR φ (.agg cs) pv) : ∃ pcs : List Value, pv = .agg pcs.toArray ∧ VRs φ cs pcs := by
  cases hr with | agg h => exact ⟨_, rfl, h⟩
theorem eq_toArrayBytes (a b : List UInt8) : ((⟨a.toArray⟩ : ByteArray).toList == (⟨b.toArray⟩ : ByteArray).toList) = (a == b) := by
  rw [ByteArray.toList_eq, ByteArray.toList_eq]
theorem shape_row (hw : WR φ h w) {id : Nat} {cs : List V} (e : h.get id = some (.row cs false false)) {p : PB} (hp : φ id = some p) :
    ∃ t n, w.shape? p.b = some (t, n) ∧ ∀ o, w.frozen? ⟨p.b, o, none⟩ = false := by
  obtain ⟨p', C, t, fz, hp', hb, -, -, -, hf⟩ := row_live hw e
  rw [hp] at hp'; cases hp'
  obtain ⟨-, hz, -⟩ := hf rfl
  have := hz rfl
  subst this
  exact ⟨t, C.size, by simp [World.shape?, hb], fun o => by simp [World.frozen?, hb]⟩
theorem run_sameAddr_apart {b c o q : Nat} {t u : TypeId} {n m : Nat} (hb : w.shape? b = some (t, n)) (hc : w.shape? c = some (u, m)) (hf : ∀ o, w.frozen? ⟨b, o, none⟩ = false) (hg : ∀ o, w.frozen? ⟨c, o, none⟩ = false) (hne : b ≠ c) :
    (sameAddr ⟨b, o, none⟩ ⟨c, q, none⟩).run P w = .ok false w := by
  simp [sameAddr, hne, noView, viewAt, mayBeOne, stringish, hb, hc, hf, hg]
theorem eqIn_rel (hw : WR φ h w) : ∀ (d : Nat) (t : TypeId) (x y : V) (px py : Value) (r : Bool), VR φ x px → VR φ y py → eqIn P h d t x y = some r →
    ∀ k, (Op.equalIn (d + k) t px py).run P w = .ok r w
  | 0, _, _, _, _, _, _, _, _, e => by simp [eqIn] at e
  | d + 1, t, x, y, px, py, r, hx, hy, e => by
    have IH := eqIn_rel hw d
    have fieldsR : ∀ (fs : List Field) (xs ys : List V) (pxs pys : List Value) (r : Bool), VRs φ xs pxs → VRs φ ys pys → eqFields P (eqIn P h d) xs ys fs = some r →
        ∀ k, (Op.eqFields (d + k) pxs.toArray pys.toArray fs).run P w = .ok r w := by
      intro fs
      induction fs with
      | nil => intro xs ys pxs pys r _ _ e k; simp [eqFields] at e; subst e; simp [Op.eqFields]
      | cons f fs ih =>
        intro xs ys pxs pys r hxs hys e k
        simp only [eqFields] at e
        split at e
        · cases e
        · rename_i hn
          split at e
          · rename_i a b ha hb
            obtain ⟨pa, h1, ra⟩ := partV_rel (P := P) (w := w) hxs ha
            obtain ⟨pb, h2, rb⟩ := partV_rel (P := P) (w := w) hys hb
            simp only [Op.eqFields, ne_eq, hn, not_false_eq_true, if_true, Sem.run_bind, h1, h2, Result.andThen_ok]
            split at e
            · rename_i he
              simp only [IH f.type a b pa pb true ra rb he k, Result.andThen_ok, Bool.not_true, Bool.false_eq_true, if_false]
              exact ih xs ys pxs pys r hxs hys e k
            · rename_i r' hne
              cases r with
              | true => exact absurd e hne
              | false => simp [IH f.type a b pa pb false ra rb e k]
          · cases e
    have itemsR : ∀ (E n : Nat) (is : List Nat) (xs ys : List V) (pxs pys : List Value) (r : Bool), VRs φ xs pxs → VRs φ ys pys → eqItems P (eqIn P h d) E n xs ys is = some r →
        ∀ k, (Op.eqItems (d + k) E n pxs.toArray pys.toArray is).run P w = .ok r w := by
      intro E n is
      induction is with
      | nil => intro xs ys pxs pys r _ _ e k; simp [eqItems] at e; subst e; simp [Op.eqItems]
      | cons i is ih =>
        intro xs ys pxs pys r hxs hys e k
        simp only [eqItems] at e
        split at e
        · rename_i a b ha hb
          obtain ⟨pa, h1, ra⟩ := partV_rel (P := P) (w := w) hxs ha
          obtain ⟨pb, h2, rb⟩ := partV_rel (P := P) (w := w) hys hb
          simp only [Op.eqItems, Sem.run_bind, h1, h2, Result.andThen_ok]
          split at e
          · rename_i he
            simp only [IH E a b pa pb true ra rb he k, Result.andThen_ok, Bool.not_true, Bool.false_eq_true, if_false]
            exact ih xs ys pxs pys r hxs hys e k
          · rename_i r' hne
            cases r with
            | true => exact absurd e hne
            | false => simp [IH E a b pa pb false ra rb e k]
        · cases e
    intro k
    have ek : d + 1 + k = (d + k) + 1 := by omega
    rw [ek]
    simp only [eqIn, eqStep] at e
    split at e
    all_goals first
      | (rename P.underlying t = some _ => hu; cases hx; cases hy; cases e; simp [Op.equalIn, run_underlying hu, beq_toListBytes]; done)
      | skip
    · rename P.underlying t = some _ => hu
      cases hx; cases hy
      rw [br_some] at e
      obtain ⟨hk, e⟩ := e
      have hk := kbeq_iff.1 hk
      subst hk
      cases e
      simp [Op.equalIn, run_underlying hu, fbeq_eq]
    · rename P.underlying t = some _ => hu
      rename_i E i o j o'
      cases hx with | ptr hp => cases hy with | ptr hq =>
      rename_i p q
      split at e
      · cases e
      · rename_i hs
        have hs' : ∃ n, szT P E = some n ∧ n ≠ 0 := by
          cases hn : szT P E with
          | none => exact absurd (Or.inr hn) hs
          | some n => exact ⟨n, rfl, fun h0 => hs (.inl (by rw [hn, h0]))⟩
        obtain ⟨n, hn, hn0⟩ := hs'
        simp only [Op.equalIn, Sem.run_bind, run_underlying hu, Result.andThen_ok, run_szT hn, ne_eq, hn0, not_false_eq_true, if_true]
        split at e
        · rename_i hij
          cases e
          subst hij
          rw [hp] at hq; cases hq
          simp [sameAddr]
          rw [Bool.eq_iff_iff]; simp
        · rename_i hij
          split at e
          · rename_i hgi hgj
            cases e
            obtain ⟨t1, n1, s1, f1⟩ := shape_row hw hgi hp
            obtain ⟨t2, n2, s2, f2⟩ := shape_row hw hgj hq
            exact run_sameAddr_apart s1 s2 f1 f2 (hw.inj i j _ _ p q hgi hgj hij hp hq (.inl rfl))
          · cases e
    · rename P.underlying t = some _ => hu
      rename_i fs xs ys
      obtain ⟨pxs, rfl, hxs⟩ := hx.agg_inv
      obtain ⟨pys, rfl, hys⟩ := hy.agg_inv
      split at e
      · cases e
      · rename_i hst
        have hf : P.fieldsOf t = fs := by simp [Program.fieldsOf, hu]
        rw [run_equalIn_struct w (d + k) t _ _ (by rw [hf]; exact hu) (by simpa using hst), hf]
        exact fieldsR _ _ _ _ _ _ hxs hys e k
    · rename P.underlying t = some _ => hu
      rename_i n E xs ys
      obtain ⟨pxs, rfl, hxs⟩ := hx.agg_inv
      obtain ⟨pys, rfl, hys⟩ := hy.agg_inv
      split at e
      · rename_i s hs
        have hi := hs
        simp only [szT, Option.map_eq_some_iff] at hi
        obtain ⟨i, hi, rfl⟩ := hi
        have hc : P.cellsOf E = i.size := by simp [Program.cellsOf, hi]
        rw [run_equalIn_array w (d + k) pxs.toArray pys.toArray hu hi, hc]
        exact itemsR _ _ _ _ _ _ _ _ hxs hys e k
      · cases e
    · cases e
end Go.Ev
end
section
namespace Go.Ev
variable {P : Program} {φ : Emb} {h : Hp} {w : World}
theorem forIn_fields_ck (em : Bool) (k : Nat) (pxs : Array Value) : ∀ (fs : List Field), (∀ f ∈ fs, f.name ≠ "_" → ∃ pa, (part f.type pxs f.offset).run P w = .ok pa w ∧ (Instr.checkKey em k f.type pa).run P w = .ok () w) →
    Sem.run P (forIn fs PUnit.unit fun f _ =>
      if f.name ≠ "_" then do
        let x ← part f.type pxs f.offset
        Instr.checkKey em k f.type x
        pure (ForInStep.yield PUnit.unit)
      else pure (ForInStep.yield PUnit.unit)) w = .ok PUnit.unit w
  | [], _ => rfl
  | f :: fs, hall => by
    rw [List.forIn_cons]
    by_cases hn : f.name = "_"
    · simp only [hn, ne_eq, not_true_eq_false, if_false, Sem.run_bind, Sem.run_pure, Result.andThen_ok]
      exact forIn_fields_ck em k pxs fs fun g hg => hall g (by simp [hg])
    · obtain ⟨pa, h1, h2⟩ := hall f (by simp) hn
      simp only [ne_eq, hn, not_false_eq_true, if_true, Sem.run_bind, Sem.run_pure, Result.andThen_ok, h1, h2]
      exact forIn_fields_ck em k pxs fs fun g hg => hall g (by simp [hg])
theorem ckOk_rel : ∀ (d : Nat) (t : TypeId) (x : V) (px : Value), VR φ x px → ckOk P d t x = true → ∀ (em : Bool) (k : Nat), (Instr.checkKey em (d + k) t px).run P w = .ok () w
  | 0, _, _, _, _, e => by simp [ckOk] at e
  | d + 1, t, x, px, hx, e => by
    have IH := ckOk_rel d
    intro em k
    have ek : d + 1 + k = (d + k) + 1 := by omega
    rw [ek]
    simp only [ckOk, ckStep] at e
    split at e
    · rename P.underlying t = some _ => hu; cases hx; simp [Instr.checkKey, run_underlying hu]
    · rename P.underlying t = some _ => hu; cases hx; simp [Instr.checkKey, run_underlying hu]
    · rename P.underlying t = some _ => hu; cases hx; simp [Instr.checkKey, run_underlying hu]
    · rename P.underlying t = some _ => hu
      rename_i fs xs
      obtain ⟨pxs, rfl, hxs⟩ := hx.agg_inv
      have hall : ∀ f ∈ fs.toList, f.name ≠ "_" → ∃ pa, (part f.type pxs.toArray f.offset).run P w = .ok pa w ∧ (Instr.checkKey em (d + k) f.type pa).run P w = .ok () w := by
        clear hu hx
        generalize fs.toList = L at e
        induction L with
        | nil => intro f hf; cases hf
        | cons g L ih =>
          simp only [ckFields, Bool.and_eq_true] at e
          obtain ⟨⟨-, e1⟩, e2⟩ := e
          intro f hf hn
          rcases List.mem_cons.1 hf with rfl | hf
          · split at e1
            · rename_i a ha
              obtain ⟨pa, h1, ra⟩ := partV_rel (P := P) (w := w) hxs ha
              exact ⟨pa, h1, IH _ _ _ ra e1 em k⟩
            · cases e1
          · exact ih e2 f hf hn
      have := forIn_fields_ck (P := P) (w := w) em (d + k) pxs.toArray fs.toList hall
      simp only [Instr.checkKey, Sem.run_bind, run_underlying hu, Result.andThen_ok]
      rw [← Array.forIn_toList, this]
      rfl
    · rename P.underlying t = some _ => hu
      rename_i n E xs
      obtain ⟨pxs, rfl, hxs⟩ := hx.agg_inv
      split at e
      · rename_i s hs
        simp only [Instr.checkKey, Sem.run_bind, run_underlying hu, Result.andThen_ok]
        simp only [Std.Legacy.Range.forIn_eq_forIn_range', Std.Legacy.Range.size, Nat.sub_zero, Nat.add_one_sub_one, Nat.div_one, List.range_eq_range'] at e ⊢
        generalize List.range' 0 n = is at e
        clear hu hx
        induction is with
        | nil => rfl
        | cons i is ih =>
          simp only [ckItems, Bool.and_eq_true] at e
          obtain ⟨e1, e2⟩ := e
          split at e1
          · rename_i a ha
            obtain ⟨pa, h1, ra⟩ := partV_rel (P := P) (w := w) hxs ha
            rw [List.forIn_cons]
            simp only [Sem.run_bind, run_szT hs, h1, IH _ _ _ ra e1 em k, Result.andThen_ok, Sem.run_pure]
            exact ih e2
          · cases e1
      · cases e
    · cases e
theorem MRs.length {es : List ME} {pes : List MapEntry} (hr : MRs φ es pes) : es.length = pes.length := by
  induction es generalizing pes with
  | nil => cases hr; rfl
  | cons _ _ ih => cases hr with | cons _ hl => simp [ih hl]
theorem MRs.get {es : List ME} {pes : List MapEntry} (hr : MRs φ es pes) {i : Nat} {e : ME} (hi : es[i]? = some e) : ∃ pe, pes[i]? = some pe ∧ MR φ e pe := by
  induction es generalizing pes i with
  | nil => simp at hi
  | cons x l ih =>
    cases hr with
    | cons hx hl =>
      cases i with
      | zero => simp at hi; subst hi; exact ⟨_, rfl, hx⟩
      | succ i => simp at hi ⊢; exact ih hl hi
theorem findNow_asking (kt : TypeId) {d : TypeDesc} (hd : P.underlying kt = some d) (k : Value) : ∀ (l : List MapEntry) (i : Nat) (r : Option (Nat × Value)), Instr.findNow d k l i = some r → (Instr.findAsking kt k l i).run P w = .ok r w
  | [], i, r, e => by simp [Instr.findNow] at e; subst e; rfl
  | x :: l, i, r, e => by
    simp only [Instr.findNow] at e
    simp only [Instr.findAsking, Sem.run_bind]
    have key : ∀ y b, Instr.sameNow d k y = some b → (Op.equal kt k y).run P w = .ok b w := by
      intro y b hb
      unfold Instr.sameNow at hb
      split at hb
      · split at hb
        · rename_i hk; cases hb; subst hk
          exact run_equalIn_int w 9999 kt _ _ _ _ hd
        · cases hb
      · rename_i x y
        cases hb
        have := run_equalIn_string w 9999 kt x y hd
        rw [← beq_toListBytes] at this
        exact this
      · cases hb
        exact run_equalIn_bool' w 9999 kt _ _ hd
      · cases hb
    split at e
    · rename_i hs
      cases e
      simp [key _ _ hs]
    · rename_i hs
      simp only [key _ _ hs, Result.andThen_ok, Bool.false_eq_true, if_false]
      exact findNow_asking kt hd k l (i + 1) r e
    · cases e
theorem findV_rel (hw : WR φ h w) (kt : TypeId) {k : V} {pk : Value} (hk : VR φ k pk) : ∀ (es : List ME) (pes : List MapEntry) (i : Nat) (r : Option (Nat × ME)), MRs φ es pes → findV P h kt k es i = some r →
    ∃ pr, (Instr.findAsking kt pk pes i).run P w = .ok pr w ∧
      (match r with | none => pr = none | some (j, e) => ∃ n pe, j = i + n ∧ es[n]? = some e ∧ pes[n]? = some pe ∧ MR φ e pe ∧ pr = some (j, pe.val))
  | [], pes, i, r, hr, e => by cases hr; simp [findV] at e; subst e; exact ⟨none, rfl, rfl⟩
  | x :: es, pes, i, r, hr, e => by
    cases hr with | cons hx hl =>
    rename_i px pl
    simp only [findV] at e
    cases hx with | mk hxk hxv =>
    rename_i a b pa pb n
    have heq : ∀ r, eqIn P h 8 kt k a = some r → (Op.equal kt pk pa).run P w = .ok r w := fun r he => by
      have := eqIn_rel hw 8 kt _ _ _ _ r hk hxk he 9992
      exact this
    split at e
    · rename_i he
      cases e
      refine ⟨some (i, pb), ?_, 0, ⟨pa, pb, n⟩, rfl, rfl, rfl, .mk hxk hxv, rfl⟩
      simp [Instr.findAsking, heq _ he]
    · rename_i he
      obtain ⟨pr, h1, h2⟩ := findV_rel hw kt hk es pl (i + 1) r hl e
      refine ⟨pr, ?_, ?_⟩
      · simp [Instr.findAsking, heq _ he, h1]
      · cases r with
        | none => exact h2
        | some je =>
          obtain ⟨m, pe, e1, e2, e3, e4, e5⟩ := h2
          exact ⟨m + 1, pe, by omega, by simpa using e2, by simpa using e3, e4, e5⟩
    · cases e
theorem run_findKey_of (kt : TypeId) {pk : Value} {pes : List MapEntry} {pr : Option (Nat × Value)} (hu : (P.underlying kt).isSome = true) (e : (Instr.findAsking kt pk pes).run P w = .ok pr w) :
    (Instr.findKey kt pk pes).run P w = .ok pr w := by
  obtain ⟨d, hd⟩ := Option.isSome_iff_exists.1 hu
  simp only [Instr.findKey, Sem.run_bind, run_underlying hd, Result.andThen_ok]
  split
  · rename_i r hr
    have := findNow_asking (w := w) kt hd pk pes 0 r hr
    rw [this] at e
    cases e
    rfl
  · exact e
theorem ckOk_under {d : Nat} {t : TypeId} {x : V} (e : ckOk P d t x = true) : (P.underlying t).isSome = true := by
  cases d with
  | zero => simp [ckOk] at e
  | succ d =>
    simp only [ckOk, ckStep] at e
    split at e
    all_goals first
      | (rename P.underlying t = some _ => hu; simp [hu]; done)
      | cases e
theorem mapT_under {t : TypeId} {k e : TypeId} (h : mapT P t = some (k, e)) : P.underlying t = some (.map k e) := by
  unfold mapT at h
  split at h
  · cases h; assumption
  · cases h
theorem map_live (hw : WR φ h w) {id : Nat} {es : List ME} {c : Nat} (e : h.get id = some (.mapo es c)) : ∃ p pes, φ id = some p ∧ w.heap[p.b]? = some (.map pes c) ∧ MRs φ es pes.toList := by
  obtain ⟨p, obj, hp, hb, ho⟩ := hw.live _ _ e
  cases ho with
  | mapo h => exact ⟨p, _, hp, hb, by simpa using h⟩
theorem run_getObj {r : Nat} {o : Obj} (hb : w.heap[r]? = some o) (hc : ∀ c t f, o ≠ .cells c t f) : (getObj r).run P w = .ok o w := by
  cases o <;> first
    | exact absurd rfl (hc _ _ _)
    | simp only [getObj, Sem.run, hb]
theorem lookupV_rel (hw : WR φ h w) {t : TypeId} {m k v : V} {pm pk : Value} {ok : Bool} (hm : VR φ m pm) (hk : VR φ k pk) (e : lookupV P t m k ok h = some v) :
    ∃ pv, (Instr.lookup t pm pk ok).run P w = .ok pv w ∧ VR φ v pv := by
  unfold lookupV at e
  split at e
  · cases e
  · rename_i kt et hmt
    have hu := mapT_under hmt
    split at e
    · cases e
    · rename_i es hes
      split at e
      · rename_i hck
        have hent : ∃ pes : Array MapEntry, MRs φ es pes.toList ∧ ((pm = .map none ∧ pes = #[]) ∨ ∃ r c, pm = .map (some r) ∧ w.heap[r]? = some (.map pes c)) := by
          unfold entriesV at hes
          split at hes
          · cases hes; cases hm
            exact ⟨#[], .nil, .inl ⟨rfl, rfl⟩⟩
          · split at hes
            · rename_i hg
              cases hes
              obtain ⟨p, pes, hp, hb, hr⟩ := map_live hw hg
              cases hm with | map hp' =>
              rw [hp] at hp'; cases hp'
              exact ⟨pes, hr, .inr ⟨_, _, rfl, hb⟩⟩
            · cases hes
          · cases hes
        obtain ⟨pes, hr, hpm⟩ := hent
        have hck2 : (Instr.checkKey pes.isEmpty 10000 kt pk).run P w = .ok () w := ckOk_rel (P := P) (φ := φ) (w := w) 8 kt k pk hk hck _ 9992
        split at e
        · rename_i j x hf
          cases e
          obtain ⟨pr, h1, n, pe, e1, e2, e3, hme, rfl⟩ := findV_rel hw kt hk es pes.toList 0 _ hr hf
          have h2 := run_findKey_of kt (ckOk_under hck) h1
          cases hme with | mk hmk hmv =>
          rename_i pv n'
          refine ⟨if ok then .tuple #[pv, .bool true] else pv, ?_, ?_⟩
          · rcases hpm with ⟨rfl, rfl⟩ | ⟨r, c, rfl, hb⟩
            · simp only [Instr.lookup, Sem.run_bind, run_underlying hu, Result.andThen_ok, Sem.run_pure, hck2, h2]
            · simp only [Instr.lookup, Sem.run_bind, run_underlying hu, Result.andThen_ok, Sem.run_pure, run_getObj hb (by simp), hck2, h2]
          · cases ok
            · exact hmv
            · exact .tuple (.cons hmv (.cons (.bool true) .nil))
        · rename_i hf
          obtain ⟨pr, h1, rfl⟩ := findV_rel hw kt hk es pes.toList 0 _ hr hf
          have h2 := run_findKey_of kt (ckOk_under hck) h1
          simp only [Option.map_eq_some_iff] at e
          obtain ⟨z, hz, rfl⟩ := e
          obtain ⟨pz, hz1, hz2⟩ := run_zeroT (P := P) (φ := φ) (w := w) hz
          refine ⟨if ok then .tuple #[pz, .bool false] else pz, ?_, ?_⟩
          · rcases hpm with ⟨rfl, rfl⟩ | ⟨r, c, rfl, hb⟩
            · simp only [Instr.lookup, Sem.run_bind, run_underlying hu, Result.andThen_ok, Sem.run_pure, hck2, h2, hz1]
            · simp only [Instr.lookup, Sem.run_bind, run_underlying hu, Result.andThen_ok, Sem.run_pure, run_getObj hb (by simp), hck2, h2, hz1]
          · cases ok
            · exact hz2
            · exact .tuple (.cons hz2 (.cons (.bool false) .nil))
        · cases e
      · cases e
theorem fwrap_eq (k : IntKind) (n : Int) : fwrap k n = k.wrap n := by
  have small : ∀ m : Nat, m ≤ 127 → k.wrap (.ofNat m) = .ofNat m := by
    intro m hm
    unfold IntKind.wrap
    cases k <;> simp [IntKind.bits, IntKind.signed] <;> omega
  have lim : (9223372036854775807 : Nat) = 2 ^ 63 - 1 := by decide
  have big : ∀ m : Nat, Nat.ble m 9223372036854775807 = true → IntKind.wrap .i64 (.ofNat m) = .ofNat m := by
    intro m hm
    have hm := Nat.le_of_ble_eq_true hm
    exact IntWalk.i64_in _ ⟨by simp only [Int.ofNat_eq_natCast]; omega, by simp only [Int.ofNat_eq_natCast]; omega⟩
  have neg : ∀ m : Nat, Nat.ble m 9223372036854775807 = true → IntKind.wrap .i64 (.negSucc m) = .negSucc m := by
    intro m hm
    have hm := Nat.le_of_ble_eq_true hm
    exact IntWalk.i64_in _ ⟨by omega, by omega⟩
  cases n with
  | ofNat m =>
    have e1 : fwrap k (Int.ofNat m) = br (Nat.ble m 127) (Int.ofNat m) (match (generalizing := false) k with | .i64 => br (Nat.ble m 9223372036854775807) (Int.ofNat m) (k.wrap (Int.ofNat m)) | _ => k.wrap (Int.ofNat m)) := rfl
    rw [e1, br_eq]
    by_cases hb : Nat.ble m 127 = true
    · rw [if_pos hb]; exact (small m (Nat.le_of_ble_eq_true hb)).symm
    · rw [if_neg hb]
      cases k
      case i64 =>
        show br (Nat.ble m 9223372036854775807) (Int.ofNat m) (IntKind.wrap .i64 (Int.ofNat m)) = _
        rw [br_eq]
        generalize hl : Nat.ble m 9223372036854775807 = c
        cases c with
        | true => exact (big m hl).symm
        | false => simp only [Bool.false_eq_true, if_false]
      all_goals rfl
  | negSucc m =>
    cases k
    case i64 =>
      show br (Nat.ble m 9223372036854775807) (Int.negSucc m) (IntKind.wrap .i64 (Int.negSucc m)) = _
      rw [br_eq]
      generalize hl : Nat.ble m 9223372036854775807 = c
      cases c with
      | true => exact (neg m hl).symm
      | false => simp only [Bool.false_eq_true, if_false]
    all_goals rfl
theorem fle_eq (a b : Int) : fle a b = decide (a ≤ b) := by
  cases a <;> cases b <;> simp only [fle] <;> rw [Bool.eq_iff_iff] <;> simp <;> omega
end Go.Ev
end
section
namespace Go.Ev
variable {P : Program} {φ : Emb} {h : Hp} {w : World}
theorem intBin_rel {op : BinOp} {k : IntKind} {a b : Int} {v : V} (e : intBin op k a b = some v) (h1 : op ≠ .shl) (h2 : op ≠ .shr) (t : TypeId) :
    ∃ pv, (binOp op t (.int k a) (.int k b)).run P w = .ok pv w ∧ VR φ v pv := by
  have nz : ∀ b : Int, fbeq b 0 = false → b ≠ 0 := fun b hb h0 => by rw [fbeq_eq, h0] at hb; simp at hb
  cases op <;> simp only [intBin, br_eq] at e
  case shl => exact absurd rfl h1
  case shr => exact absurd rfl h2
  case add => cases e; exact ⟨_, by simp [binOp, Op.intArith] <;> rfl, by rw [fwrap_eq]; exact .int _ _⟩
  case sub => cases e; exact ⟨_, by simp [binOp, Op.intArith] <;> rfl, by rw [fwrap_eq]; exact .int _ _⟩
  case mul => cases e; exact ⟨_, by simp [binOp, Op.intArith] <;> rfl, by rw [fwrap_eq]; exact .int _ _⟩
  case quo =>
    split at e
    · cases e
    · rename_i hb
      cases e
      exact ⟨_, by simp [binOp, Op.intDiv, nz b (by simpa using hb)] <;> rfl, by rw [fwrap_eq]; exact .int _ _⟩
  case rem =>
    split at e
    · cases e
    · rename_i hb
      cases e
      exact ⟨_, by simp [binOp, Op.intDiv, nz b (by simpa using hb)] <;> rfl, .int _ _⟩
  case and => cases e; exact ⟨_, by simp [binOp, Op.intBits] <;> rfl, .int _ _⟩
  case or => cases e; exact ⟨_, by simp [binOp, Op.intBits] <;> rfl, .int _ _⟩
  case xor => cases e; exact ⟨_, by simp [binOp, Op.intBits] <;> rfl, .int _ _⟩
  case andNot => cases e; exact ⟨_, by simp [binOp, Op.intBits] <;> rfl, .int _ _⟩
  case eql => cases e; exact ⟨_, by simp [binOp, Op.intCmp] <;> rfl, by rw [fbeq_eq]; exact .bool _⟩
  case neq => cases e; exact ⟨_, by simp [binOp, Op.intCmp] <;> rfl, by rw [fbeq_eq]; exact .bool _⟩
  case lss =>
    cases e
    refine ⟨.bool (decide (a < b)), by simp [binOp, Op.intCmp], ?_⟩
    rw [fle_eq]
    have : (!decide (b ≤ a)) = decide (a < b) := by rw [Bool.eq_iff_iff]; simp
    rw [this]
    exact .bool _
  case leq => cases e; exact ⟨_, by simp [binOp, Op.intCmp] <;> rfl, by rw [fle_eq]; exact .bool _⟩
  case gtr =>
    cases e
    refine ⟨.bool (decide (b < a)), by simp [binOp, Op.intCmp], ?_⟩
    rw [fle_eq]
    have : (!decide (a ≤ b)) = decide (b < a) := by rw [Bool.eq_iff_iff]; simp
    rw [this]
    exact .bool _
  case geq => cases e; exact ⟨_, by simp [binOp, Op.intCmp] <;> rfl, by rw [fle_eq]; exact .bool _⟩
  all_goals (cases e; done)
theorem toList_arr (s : List UInt8) : (⟨s.toArray⟩ : ByteArray).toList = s := by rw [ByteArray.toList_eq]
theorem strBin_rel {op : BinOp} {a b : List UInt8} {v : V} (e : strBin op a b = some v) (t : TypeId) : ∃ pv, (binOp op t (.string ⟨a.toArray⟩) (.string ⟨b.toArray⟩)).run P w = .ok pv w ∧ VR φ v pv := by
  have lim : IntKind.max .i64 = 9223372036854775807 := by decide
  have sz : ∀ l : List UInt8, (⟨l.toArray⟩ : ByteArray).size = l.length := fun l => by simp [ByteArray.size]
  cases op <;> simp only [strBin] at e
  case add =>
    split at e
    · rename_i hl
      cases e
      refine ⟨.string ⟨(a ++ b).toArray⟩, ?_, .str _⟩
      have h0 : ¬ (((a.length + b.length : Nat) : Int) > 9223372036854775807) := by omega
      have h1 : (⟨a.toArray⟩ : ByteArray) ++ ⟨b.toArray⟩ = ⟨(a ++ b).toArray⟩ := by
        apply ByteArray.ext
        simp
      simp only [binOp, Op.stringOp, sz, lim, h1]
      rw [if_neg h0]
      rfl
    · cases e
  case eql => cases e; exact ⟨_, by simp only [binOp, Op.stringOp, toList_arr] <;> rfl, .bool _⟩
  case neq => cases e; exact ⟨_, by simp only [binOp, Op.stringOp, toList_arr] <;> rfl, .bool _⟩
  case lss => cases e; exact ⟨_, by simp only [binOp, Op.stringOp, toList_arr] <;> rfl, .bool _⟩
  case leq => cases e; exact ⟨_, by simp only [binOp, Op.stringOp, toList_arr] <;> rfl, .bool _⟩
  case gtr => cases e; refine ⟨.bool (!(Op.bytesLess a b || (a == b))), by simp only [binOp, Op.stringOp, toList_arr] <;> rfl, .bool _⟩
  case geq => cases e; exact ⟨_, by simp only [binOp, Op.stringOp, toList_arr] <;> rfl, .bool _⟩
  all_goals (cases e; done)
theorem run_eq_op {t : TypeId} {px py : Value} {r : Bool} (hg : ∀ (op : BinOp) (x y : Operand), (eqGuard op t x y px py).run P w = .ok () w)
    (he : (Op.equal t px py).run P w = .ok r w) (hi : ∀ k a j b, ¬ (px = .int k a ∧ py = .int j b)) (hs : ∀ a b, ¬ (px = .string a ∧ py = .string b))
    (hf : ∀ k a, px ≠ .float k a) (hc : ∀ k a b, px ≠ .complex k a b) (op : BinOp) (hop : isEqOp op = true) (x y : Operand) :
    ∃ pv, (do eqGuard op t x y px py; binOp op t px py : Sem Value).run P w = .ok pv w ∧ VR φ (eqRes op r) pv := by
  simp only [Sem.run_bind, hg, Result.andThen_ok]
  cases op
  case eql =>
    refine ⟨.bool r, ?_, .bool r⟩
    unfold binOp
    split
    all_goals first
      | (exfalso; exact hi _ _ _ _ ⟨rfl, rfl⟩)
      | (exfalso; exact hs _ _ ⟨rfl, rfl⟩)
      | (exfalso; exact hf _ _ rfl)
      | (exfalso; exact hc _ _ _ rfl)
      | (rw [Sem.run_bind, he]; rfl)
      | contradiction
  case neq =>
    refine ⟨.bool (!r), ?_, .bool _⟩
    unfold binOp
    split
    all_goals first
      | (exfalso; exact hi _ _ _ _ ⟨rfl, rfl⟩)
      | (exfalso; exact hs _ _ ⟨rfl, rfl⟩)
      | (exfalso; exact hf _ _ rfl)
      | (exfalso; exact hc _ _ _ rfl)
      | (rw [Sem.run_bind, he]; rfl)
      | contradiction
  all_goals (exfalso; revert hop; decide)
theorem eqIn_op (hw : WR φ h w) {t : TypeId} {x y : V} {px py : Value} {r : Bool} (hx : VR φ x px) (hy : VR φ y py) (e : eqIn P h 16 t x y = some r) : (Op.equal t px py).run P w = .ok r w :=
  eqIn_rel hw 16 t x y px py r hx hy e 9984
theorem binV_rel (hw : WR φ h w) {op : BinOp} {t : TypeId} {x y : V} {px py : Value} {v : V} (hx : VR φ x px) (hy : VR φ y py) (e : binV P op t x y h = some v) (ox oy : Operand) :
    ∃ pv, (do eqGuard op t ox oy px py; binOp op t px py : Sem Value).run P w = .ok pv w ∧ VR φ v pv := by
  unfold binV at e
  split at e
  · rename_i k a k' b
    cases hx; cases hy
    have hg : (eqGuard op t ox oy (.int k a) (.int k' b)).run P w = .ok () w := by
      unfold eqGuard
      split <;> rfl
    simp only [Sem.run_bind, hg, Result.andThen_ok]
    have sh : ∀ b : Int, fle 0 b = true → ¬ b < 0 := fun b hb => by rw [fle_eq] at hb; simpa using hb
    split at e
    · rw [br_some] at e
      obtain ⟨hb, e⟩ := e
      cases e
      exact ⟨_, by simp [binOp, Op.shift, sh _ hb] <;> rfl, by rw [fwrap_eq]; exact .int _ _⟩
    · rw [br_some] at e
      obtain ⟨hb, e⟩ := e
      cases e
      exact ⟨_, by simp [binOp, Op.shift, sh _ hb] <;> rfl, .int _ _⟩
    · rename_i h1 h2
      rw [br_some] at e
      obtain ⟨hb, e⟩ := e
      have := kbeq_iff.1 hb
      subst this
      exact intBin_rel e h1 h2 t
  · rename_i a b
    cases hx; cases hy
    have hg : (eqGuard op t ox oy (.string ⟨a.toArray⟩) (.string ⟨b.toArray⟩)).run P w = .ok () w := by
      unfold eqGuard
      split <;> rfl
    simp only [Sem.run_bind, hg, Result.andThen_ok]
    exact strBin_rel e t
  · cases e
  · rename_i hni hns hnn
    rw [br_some, br_eq] at e
    obtain ⟨hop, e⟩ := e
    split at e
    · cases e
    · rename_i hgt
      simp only [Option.map_eq_some_iff] at e
      obtain ⟨r, he, rfl⟩ := e
      refine run_eq_op ?_ (eqIn_op hw hx hy he) ?_ ?_ ?_ ?_ op hop ox oy
      · intro op x' y'
        have hmain : ∀ (S : Sem Unit), (match px, py with | .nilIface, .nilIface => S | .agg _, .agg _ => (do
            if !(← program).eqGuardType (← program).depth t then return
            if ← Op.eqGuardIn Op.maxDepth t px py then unsupported (.noEntry "binop/eql: two nil values of an interface type with methods, in a part of a struct or an array")) | _, _ => pure ()).run P w = .ok () w := by
          intro S
          split
          · cases hx; cases hy; exact (hnn rfl rfl).elim
          · cases hx with | agg hcs =>
            cases hy with | agg hds =>
            have : P.eqGuardType P.depth t = false := by simpa [eqOpen] using hgt
            simp [this]
          · rfl
        unfold eqGuard
        cases op <;> first
          | rfl
          | exact hmain _
      · rintro k a j b ⟨rfl, rfl⟩
        cases hx; cases hy
        exact hni _ _ _ _ rfl rfl
      · rintro a b ⟨rfl, rfl⟩
        cases hx; cases hy
        exact hns _ _ rfl rfl
      · rintro k a rfl; cases hx
      · rintro k a b rfl; cases hx
theorem unV_rel {op : UnOp} {x v : V} {px : Value} (hx : VR φ x px) (e : unV op x = some v) : ∃ pv, (Op.unary op px).run P w = .ok pv w ∧ VR φ v pv := by
  unfold unV at e
  split at e
  · cases hx; cases e
    exact ⟨_, rfl, by rw [fwrap_eq]; exact .int _ _⟩
  · cases hx; cases e
    exact ⟨_, rfl, .int _ _⟩
  · cases hx; cases e
    exact ⟨_, rfl, .bool _⟩
  · cases e
theorem convV_rel {s d : TypeId} {x v : V} {px : Value} (hx : VR φ x px) (e : convV P s d x = some v) : ∃ pv, (convert s d px).run P w = .ok pv w ∧ VR φ v pv := by
  unfold convV at e
  split at e
  · rename_i ds k k' n hs hd
    cases hx; cases e
    refine ⟨.int k (k.wrap n), ?_, by rw [fwrap_eq]; exact .int _ _⟩
    simp only [convert, Sem.run_bind, run_underlying hs, run_underlying hd, Result.andThen_ok]
    cases ds <;> rfl
  · rename_i ds s hs hd
    cases hx; cases e
    refine ⟨.string ⟨s.toArray⟩, ?_, .str _⟩
    simp only [convert, Sem.run_bind, run_underlying hs, run_underlying hd, Result.andThen_ok]
    cases ds <;> rfl
  · cases e
end Go.Ev
end
section
namespace Go.Ev
variable {P : Program} {φ : Emb} {h : Hp} {w : World}
inductive OV (φ : Emb) : Option V → Option Value → Prop where
  | none : OV φ none none
  | some {v : V} {pv : Value} (hv : VR φ v pv) : OV φ (some v) (some pv)
theorem bnd_rel {x : V} {px : Value} (hx : VR φ x px) {y n : Nat} (e : bnd x y = some n) {z : Nat} (hz : y ≤ z) (code : BoundsCode) : (Instr.sliceBound px z code).run P w = .ok n w ∧ n ≤ y := by
  unfold bnd at e
  split at e
  · rename_i k i
    rw [br_some] at e
    obtain ⟨hb, e⟩ := e
    cases e
    cases hx
    have hle := Nat.le_of_ble_eq_true hb
    refine ⟨?_, hle⟩
    have : n ≤ z := by omega
    simp [Instr.sliceBound, asIntOf, this]
  · cases e
def capOf (mx : Option V) (m c : Nat) : Nat :=
  match mx with
  | some _ => m
  | none => c
theorem bounds_rel {lo hi mx : Option V} {plo phi pmx : Option Value} (hlo : OV φ lo plo) (hhi : OV φ hi phi) (hmx : OV φ mx pmx) {len cap cap2 l h m : Nat} (e : bounds len cap lo hi mx = some (l, h, m)) (hcap : cap ≤ cap2) (isS : Bool) :
    (Instr.sliceBounds isS len cap2 plo phi pmx).run P w = .ok (l, h, capOf mx m cap2) w ∧ l ≤ h ∧ (len ≤ cap → h ≤ m) ∧ m ≤ cap ∧ (mx = none → m = cap) := by
  unfold bounds bndM bndH bndL at e
  cases hmx with
  | none =>
    simp only at e
    cases hhi with
    | none =>
      cases hlo with
      | none =>
        cases e
        exact ⟨by simp [capOf, Instr.sliceBounds], Nat.zero_le _, fun h => h, Nat.le_refl _, fun _ => rfl⟩
      | some hv =>
        simp only at e
        split at e
        · cases e
        · rename_i l' hl
          cases e
          obtain ⟨h1, h2⟩ := bnd_rel (P := P) (w := w) hv hl (Nat.le_refl _) .sliceB
          exact ⟨by simp [capOf, Instr.sliceBounds, h1], h2, fun h => h, Nat.le_refl _, fun _ => rfl⟩
    | some hv =>
      simp only at e
      split at e
      · cases e
      · rename_i h' hh
        obtain ⟨g1, g2⟩ := bnd_rel (P := P) (w := w) hv hh hcap (if isS then .sliceAcap else .sliceAlen)
        cases hlo with
        | none =>
          cases e
          exact ⟨by simp [capOf, Instr.sliceBounds, g1], Nat.zero_le _, fun _ => g2, Nat.le_refl _, fun _ => rfl⟩
        | some hv' =>
          simp only at e
          split at e
          · cases e
          · rename_i l' hl
            cases e
            obtain ⟨h1, h2⟩ := bnd_rel (P := P) (w := w) hv' hl (Nat.le_refl _) .sliceB
            exact ⟨by simp [capOf, Instr.sliceBounds, g1, h1], h2, fun _ => g2, Nat.le_refl _, fun _ => rfl⟩
  | some hvm =>
    simp only at e
    split at e
    · cases e
    · rename_i m' hm
      obtain ⟨k1, k2⟩ := bnd_rel (P := P) (w := w) hvm hm hcap (if isS then .slice3Acap else .slice3Alen)
      cases hhi with
      | none => cases e
      | some hv =>
        simp only at e
        split at e
        · cases e
        · rename_i h' hh
          obtain ⟨g1, g2⟩ := bnd_rel (P := P) (w := w) hv hh (Nat.le_refl _) .slice3B
          cases hlo with
          | none =>
            cases e
            exact ⟨by simp [capOf, Instr.sliceBounds, k1, g1], Nat.zero_le _, fun _ => g2, k2, fun h => by cases h⟩
          | some hv' =>
            simp only at e
            split at e
            · cases e
            · rename_i l' hl
              cases e
              obtain ⟨h1, h2⟩ := bnd_rel (P := P) (w := w) hv' hl (Nat.le_refl _) .slice3C
              exact ⟨by simp [capOf, Instr.sliceBounds, k1, g1, h1], h2, fun _ => g2, k2, fun h => by cases h⟩
theorem extract_bytes (s : List UInt8) (l h : Nat) : (⟨s.toArray⟩ : ByteArray).extract l h = ⟨((s.drop l).take (h - l)).toArray⟩ := by
  apply ByteArray.ext
  apply Array.ext'
  simp [ByteArray.data_extract]
theorem ov_none_inv {pv : Option Value} (hr : OV φ Option.none pv) : pv = Option.none := by cases hr; rfl
theorem sliceV_rel (hw : WR φ h w) {t : TypeId} {x v : V} {px : Value} {lo hi mx : Option V} {plo phi pmx : Option Value} (hx : VR φ x px) (hlo : OV φ lo plo) (hhi : OV φ hi phi) (hmx : OV φ mx pmx)
    (e : sliceV P t x lo hi mx h = some v) : ∃ pv, (Instr.sliceAt t px plo phi pmx).run P w = .ok pv w ∧ VR φ v pv := by
  unfold sliceV at e
  split at e
  · rename_i s hu
    cases hx
    unfold sliceS at e
    split at e
    · cases e
    · split at e
      · rename_i l h' m hb
        cases e
        obtain ⟨h1, h2, h3, h4, h5⟩ := bounds_rel (P := P) (w := w) hlo hhi .none hb (Nat.le_refl _) false
        cases ov_none_inv hmx
        refine ⟨_, ?_, .str _⟩
        have sz : (⟨s.toArray⟩ : ByteArray).size = s.length := by simp [ByteArray.size]
        simp only [Instr.sliceAt, Sem.run_bind, run_underlying hu, Result.andThen_ok, Instr.slice, Option.isSome_none, Bool.false_eq_true, if_false, sz, h1, extract_bytes]
        rfl
      · cases e
  · rename_i E hu
    cases hx
    split at e
    · rename_i es hs
      unfold sliceNil at e
      split at e
      · rename_i b hb
        cases e
        obtain ⟨l, h', m⟩ := b
        obtain ⟨h1, h2, h3, h4, h5⟩ := bounds_rel (P := P) (w := w) hlo hhi hmx hb (Nat.le_refl _) true
        have hm : m = 0 := by omega
        have hh : h' = 0 := by have := h3 (Nat.le_refl _); omega
        have hl : l = 0 := by omega
        subst hm hh hl
        refine ⟨.slice none 0 0, ?_, .nilS⟩
        have h1' : (Instr.sliceBounds true 0 0 plo phi pmx).run P w = .ok (0, 0, 0) w := by rw [h1]; cases mx <;> rfl
        simp [Instr.sliceAt, Instr.slice, run_underlying hu, h1', run_szT hs]
      · cases e
    · cases e
  · rename_i E id off es len cap hu
    cases hx with | slice hp hl ha hc hn =>
    rename_i p a pcap
    split at e
    · rename_i s hs
      rw [br_some, Bool.and_eq_true] at e
      obtain ⟨⟨hse, hes⟩, e⟩ := e
      have hse : s = es := Nat.eq_of_beq_eq_true hse
      have hes : 0 < es := by simpa [Nat.blt_eq] using hes
      subst hse
      have key : ∀ (c' l h' m : Nat) (cap' : Option Nat), c' = pcap → (Instr.sliceBounds true len c' plo phi pmx).run P w = .ok (l, h', m) w → l ≤ h' → h' ≤ m → m ≤ pcap → (∀ c, cap' = some c → m - l = c) → (cap' = none → m = pcap ∧ cap = none) →
          ∃ pv, (Instr.sliceAt t (.slice (some a) len pcap) plo phi pmx).run P w = .ok pv w ∧ VR φ (.slice id (off + l * s) s (h' - l) cap') pv := by
        intro c' l h' m cap' hc' hb h2 h3 h4 hcap hcapn
        subst hc'
        refine ⟨.slice (some (if m = l then a else a.add (l * s))) (h' - l) (m - l), ?_, ?_⟩
        · simp only [Instr.sliceAt, Instr.slice, Sem.run_bind, run_underlying hu, Result.andThen_ok, hb, run_szT hs, Sem.run_pure]
          congr 2
          split <;> simp
        · refine .slice hp (by omega) ?_ hcap ?_
          · intro hne
            have hml : ¬ m = l := by omega
            rw [if_neg hml, ha (by omega), addr_add]
            simp [Nat.add_assoc]
          · intro hcn
            obtain ⟨rfl, hcn'⟩ := hcapn hcn
            have := hn hcn'
            have h5 : (m - l) * s = m * s - l * s := Nat.sub_mul ..
            have h6 : l * s ≤ m * s := Nat.mul_le_mul_right _ (by omega)
            omega
      unfold sliceL at e
      cases cap with
      | some c =>
        simp only at e
        split at e
        · rename_i l h' m hb
          cases e
          have hcc : pcap = c := hc c rfl
          obtain ⟨h1, h2, h3, h4, h5⟩ := bounds_rel (P := P) (w := w) hlo hhi hmx hb (Nat.le_refl _) true
          have h1' : (Instr.sliceBounds true len c plo phi pmx).run P w = .ok (l, h', m) w := by
            rw [h1]
            cases mx with
            | none => simp [capOf, h5 rfl]
            | some _ => rfl
          exact key c l h' m _ hcc.symm h1' h2 (h3 (by omega)) (by omega) (fun c hc => by cases hc; rfl) (fun hc => by cases hc)
        · cases e
      | none =>
        simp only at e
        split at e
        · rename_i l h' m hb
          cases e
          have hat : len ≤ atLeast h id off s len ∧ atLeast h id off s len ≤ pcap := by
            unfold atLeast
            split
            · rename_i cs sh ext hg
              obtain ⟨p', C, ty, fz, hp', hbk, hsz, hle', hcc, -⟩ := row_live hw hg
              rw [hp] at hp'; cases hp'
              have := hn rfl
              refine ⟨Nat.le_max_left _ _, Nat.max_le.2 ⟨hl, ?_⟩⟩
              show (cs.length - off) / s ≤ pcap
              refine Nat.div_le_of_le_mul ?_
              have h9 : s * pcap = pcap * s := Nat.mul_comm ..
              omega
            · exact ⟨Nat.le_refl _, hl⟩
          obtain ⟨h1, h2, h3, h4, h5⟩ := bounds_rel (P := P) (w := w) hlo hhi hmx hb hat.2 true
          cases mx with
          | none => exact key pcap l h' pcap _ rfl h1 h2 (by have := h3 hat.1; omega) (Nat.le_refl _) (fun c hc => by cases hc) (fun _ => ⟨rfl, rfl⟩)
          | some _ => exact key pcap l h' m _ rfl h1 h2 (h3 hat.1) (by omega) (fun c hc => by cases hc; rfl) (fun hc => by cases hc)
        · cases e
    · cases e
  · rename_i n E id off hu
    cases hx with | ptr hp =>
    rename_i p
    split at e
    · rename_i es hs
      unfold sliceA at e
      split at e
      · cases e
      · split at e
        · rename_i l h' m hb
          split at e
          · rename_i cs sh ext hg
            rw [br_some] at e
            obtain ⟨-, e⟩ := e
            cases e
            cases ov_none_inv hmx
            obtain ⟨h1, h2, h3, h4, h5⟩ := bounds_rel (P := P) (w := w) hlo hhi .none hb (Nat.le_refl _) false
            have hm : m = n := h5 rfl
            subst hm
            refine ⟨.slice (some (if m = l then ⟨p.b, p.o + off, none⟩ else (⟨p.b, p.o + off, none⟩ : Addr).add (l * es))) (h' - l) (m - l), ?_, ?_⟩
            · simp only [Instr.sliceAt, Instr.sureAddr, Sem.run_bind, run_underlying hu, Result.andThen_ok, h1, run_szT hs, Sem.run_pure]
              rfl
            · refine .slice hp (by have := h3 (Nat.le_refl _); omega) ?_ (fun c hc => by cases hc; rfl) (fun hc => by cases hc)
              intro hne
              have hml : ¬ m = l := by omega
              rw [if_neg hml, addr_add]
              simp [Nat.add_assoc]
          · cases e
        · cases e
    · cases e
  · cases e
theorem indexAddrV_rel {t : TypeId} {x i v : V} {px pi : Value} (hx : VR φ x px) (hi : VR φ i pi) (e : indexAddrV P t x i = some v) : ∃ pv, (Instr.indexAt t px pi).run P w = .ok pv w ∧ VR φ v pv := by
  unfold indexAddrV at e
  split at e
  · rename_i k i
    cases hi
    split at e
    · rename_i n E id off hu
      cases hx with | ptr hp =>
      rename_i p
      split at e
      · rename_i s hs
        rw [br_some] at e
        obtain ⟨hb, e⟩ := e
        cases e
        have hlt : i < n := by simpa [Nat.blt_eq] using hb
        refine ⟨.pointer (some ⟨p.b, p.o + (off + i * s), none⟩), ?_, .ptr hp⟩
        simp [Instr.indexAt, asIntOf, run_underlying hu, Instr.sureAddr, hlt, run_szT hs, addr_add, Nat.add_assoc]
      · cases e
    · rename_i E id off es len cap hu
      cases hx with | slice hp hl ha hc hn =>
      rename_i p a pcap
      split at e
      · rename_i s hs
        rw [br_some, Bool.and_eq_true] at e
        obtain ⟨⟨hse, hb⟩, e⟩ := e
        cases e
        have hse : s = es := Nat.eq_of_beq_eq_true hse
        subst hse
        have hlt : i < len := by simpa [Nat.blt_eq] using hb
        have hne : pcap ≠ 0 := by omega
        refine ⟨.pointer (some ⟨p.b, p.o + (off + i * s), none⟩), ?_, .ptr hp⟩
        rw [ha hne]
        simp [Instr.indexAt, asIntOf, run_underlying hu, hlt, run_szT hs, addr_add, Nat.add_assoc]
      · cases e
    · cases e
  · cases e
theorem indexV_rel {t : TypeId} {x i v : V} {px pi : Value} (hx : VR φ x px) (hi : VR φ i pi) (e : indexV P t x i = some v) : ∃ pv, (Instr.index t px pi).run P w = .ok pv w ∧ VR φ v pv := by
  unfold indexV at e
  split at e
  · rename_i k i
    cases hi
    split at e
    · rename_i n E cs hu
      obtain ⟨pcs, rfl, hcs⟩ := hx.agg_inv
      split at e
      · rename_i s hs
        rw [br_some] at e
        obtain ⟨hb, e⟩ := e
        have hlt : i < n := by simpa [Nat.blt_eq] using hb
        obtain ⟨pv, h1, h2⟩ := partV_rel (P := P) (w := w) hcs e
        refine ⟨pv, ?_, h2⟩
        simp [Instr.index, asIntOf, run_underlying hu, hlt, run_szT hs, h1]
      · cases e
    · rename_i s hu
      cases hx
      simp only [Option.map_eq_some_iff] at e
      obtain ⟨c, hc, rfl⟩ := e
      refine ⟨.int .u8 c.toNat, ?_, .int _ _⟩
      have hg : (⟨s.toArray⟩ : ByteArray)[i]? = some c := by
        obtain ⟨hlt, he⟩ := List.getElem?_eq_some_iff.1 hc
        have hl : i < (⟨s.toArray⟩ : ByteArray).size := by simpa [ByteArray.size] using hlt
        rw [getElem?_pos (⟨s.toArray⟩ : ByteArray) i hl]
        congr 1
      simp [Instr.index, asIntOf, run_underlying hu, hg]
    · cases e
  · cases e
theorem lenV_rel (hw : WR φ h w) {t : TypeId} {x v : V} {px : Value} (hx : VR φ x px) (e : lenV P t x h = some v) (ats : Array TypeId) (hat : ats[0]? = some t) (ty : TypeId) (args : Array Value) (har : args[0]? = some px) :
    ∃ pv, (Builtin.len_ ats ty args).run P w = .ok pv w ∧ VR φ v pv := by
  unfold lenV at e
  unfold Builtin.len_
  simp only [hat, har]
  split at e
  · rename P.underlying t = some _ => hu; cases hx; cases e; exact ⟨_, by simp [run_underlying hu]; rfl, by simp [goInt, ByteArray.size]; exact .int _ _⟩
  · rename P.underlying t = some _ => hu; cases hx; cases e; exact ⟨_, by simp [run_underlying hu]; rfl, .int _ _⟩
  · rename P.underlying t = some _ => hu; cases hx; cases e; exact ⟨_, by simp [run_underlying hu]; rfl, .int _ _⟩
  · rename P.underlying t = some _ => hu; cases hx; cases e; exact ⟨_, by simp [run_underlying hu]; rfl, .int _ _⟩
  · rename P.underlying t = some _ => hu
    cases hx with | map hp =>
    split at e
    · rename_i es clock hg
      cases e
      obtain ⟨p, pes, hp', hb, hr⟩ := map_live hw hg
      rw [hp] at hp'; cases hp'
      refine ⟨goInt pes.size, by simp [run_underlying hu, run_getObj hb], ?_⟩
      have := hr.length
      simp only [Array.length_toList] at this
      rw [goInt, ← this]
      exact .int _ _
    · cases e
  · rename P.underlying t = some _ => hu
    cases e
    exact ⟨_, by simp [run_underlying hu]; rfl, .int _ _⟩
  · cases e
theorem capV_rel {t : TypeId} {x v : V} {px : Value} (hx : VR φ x px) (e : capV P t x = some v) (ats : Array TypeId) (hat : ats[0]? = some t) (ty : TypeId) (args : Array Value) (har : args[0]? = some px) :
    ∃ pv, (Builtin.cap_ ats ty args).run P w = .ok pv w ∧ VR φ v pv := by
  unfold capV at e
  unfold Builtin.cap_
  simp only [hat, har]
  split at e
  · rename P.underlying t = some _ => hu; cases hx; cases e; exact ⟨_, by simp [run_underlying hu]; rfl, .int _ _⟩
  · rename P.underlying t = some _ => hu
    cases hx with | slice hp hl ha hc hn =>
    cases e
    rename_i c p a pcap
    have := hc c rfl
    subst this
    exact ⟨_, by simp [run_underlying hu]; rfl, .int _ _⟩
  · rename P.underlying t = some _ => hu; cases e; exact ⟨_, by simp [run_underlying hu]; rfl, .int _ _⟩
  · cases e
theorem minmax_rel (big : Bool) : ∀ (l : List V) (pl : List Value) (x v : V) (px : Value), VR φ x px → VRs φ l pl → minmax big x l = some v →
    ∃ pv, (pl.foldlM (if big then Builtin.max2 else Builtin.min2) px : Sem Value).run P w = .ok pv w ∧ VR φ v pv
  | [], pl, x, v, px, hx, hl, e => by
    cases hl
    simp [minmax] at e
    subst e
    exact ⟨px, rfl, hx⟩
  | y :: l, pl, x, v, px, hx, hl, e => by
    cases hl with | cons hy hl =>
    unfold minmax at e
    split at e
    · rename_i heq
      cases heq
    · rename_i k a k' b l' heq
      cases heq
      cases hx; cases hy
      have hstep : ∀ (S : Int), S = (br big (br (fle b a) a b) (br (fle a b) a b)) → ((if big then Builtin.max2 else Builtin.min2) (.int k a) (.int k' b)).run P w = .ok (.int k S) w := by
        intro S hS
        cases big
        · have hS : S = if decide (a ≤ b) = true then a else b := by rw [hS]; show br (fle a b) a b = _; rw [br_eq, fle_eq]
          simp only [Bool.false_eq_true, if_false, Builtin.min2, Sem.run_pure]
          congr 2
          rw [hS]
          by_cases hab : a ≤ b
          · rw [if_neg (by omega), if_pos (by simpa using hab)]
          · rw [if_pos (by omega), if_neg (by simpa using hab)]
        · have hS : S = if decide (b ≤ a) = true then a else b := by rw [hS]; show br (fle b a) a b = _; rw [br_eq, fle_eq]
          simp only [if_true, Builtin.max2, Sem.run_pure]
          congr 2
          rw [hS]
          by_cases hab : b ≤ a
          · rw [if_neg (by omega), if_pos (by simpa using hab)]
          · rw [if_pos (by omega), if_neg (by simpa using hab)]
      rw [List.foldlM_cons, Sem.run_bind, hstep _ rfl, Result.andThen_ok]
      exact minmax_rel big l _ _ v _ (.int _ _) hl e
    · cases e
theorem assertV_rel {t : TypeId} {x v : V} {px : Value} {ok : Bool} (hx : VR φ x px) (e : assertV P t x ok = some v) (xt : TypeId) : ∃ pv, (Instr.typeAssert px xt t ok).run P w = .ok pv w ∧ VR φ v pv := by
  unfold assertV at e
  split at e
  · cases e
  · rename_i d hni hu
    cases hx
    cases ok
    · cases e
    · simp only [if_true, Option.map_eq_some_iff] at e
      obtain ⟨z, hz, rfl⟩ := e
      obtain ⟨pz, h1, h2⟩ := run_zeroT (P := P) (φ := φ) (w := w) hz
      refine ⟨.tuple #[pz, .bool false], ?_, .tuple (.cons h2 (.cons (.bool false) .nil))⟩
      simp only [Instr.typeAssert, Sem.run_bind, run_underlying hu, Result.andThen_ok]
      cases d <;> first
        | exact absurd rfl (hni _)
        | simp [h1]
  · rename_i d u y hni hu
    cases hx with | iface hy =>
    rename_i py
    split at e
    · rename_i hut
      cases e
      subst hut
      refine ⟨if ok then .tuple #[py, .bool true] else py, ?_, ?_⟩
      · simp only [Instr.typeAssert, Sem.run_bind, run_underlying hu, Result.andThen_ok]
        cases d <;> first
          | exact absurd rfl (hni _)
          | simp
      · cases ok
        · exact hy
        · exact .tuple (.cons hy (.cons (.bool true) .nil))
    · rename_i hut
      cases ok
      · cases e
      · simp only [if_true, Option.map_eq_some_iff] at e
        obtain ⟨z, hz, rfl⟩ := e
        obtain ⟨pz, h1, h2⟩ := run_zeroT (P := P) (φ := φ) (w := w) hz
        refine ⟨.tuple #[pz, .bool false], ?_, .tuple (.cons h2 (.cons (.bool false) .nil))⟩
        simp only [Instr.typeAssert, Sem.run_bind, run_underlying hu, Result.andThen_ok]
        cases d <;> first
          | exact absurd rfl (hni _)
          | simp [h1, hut]
  · cases e
theorem cells_foldl (off : Nat) : ∀ (vs : List Value) (j : Nat) (cs : Array Value), off + j + vs.length ≤ cs.size →
    ((vs.zipIdx j).foldl (fun cs (x : Value × Nat) => cs.setIfInBounds (off + x.2) x.1) cs).toList = cs.toList.take (off + j) ++ vs ++ cs.toList.drop (off + j + vs.length)
  | [], j, cs, _ => by simp
  | v :: vs, j, cs, hle => by
    simp only [List.length_cons] at hle
    rw [List.zipIdx_cons, List.foldl_cons, cells_foldl off vs (j + 1) _ (by simp; omega)]
    have hlt : off + j < cs.toList.length := by simp; omega
    simp only [Array.toList_setIfInBounds]
    have e1 : List.take (off + (j + 1)) (cs.toList.set (off + j) v) = List.take (off + j) cs.toList ++ [v] := by
      rw [show off + (j + 1) = (off + j) + 1 from by omega, List.take_succ_eq_append_getElem (by simp; omega)]
      simp [List.take_set_of_le]
    have e2 : List.drop (off + (j + 1) + vs.length) (cs.toList.set (off + j) v) = List.drop (off + j + (vs.length + 1)) cs.toList := by
      rw [show off + j + (vs.length + 1) = off + (j + 1) + vs.length from by omega]
      exact List.drop_set_of_lt (by omega)
    rw [e1, e2]
    simp
theorem fill_rel (place : Nat → Option (Nat × Nat)) : ∀ (parts : List (Nat × V)) (pparts : List (Nat × Value)) (cs : List V) (pcs : Array Value) (out : List V),
    parts.map (·.1) = pparts.map (·.1) → VRs φ (parts.map (·.2)) (pparts.map (·.2)) → VRs φ cs pcs.toList → fillV place cs parts = some out →
    ∃ pout, Instr.fill place pcs pparts = some pout ∧ VRs φ out pout.toList
  | [], pparts, cs, pcs, out, hi, hv, hc, e => by
    cases pparts with
    | nil => simp [fillV] at e; subst e; exact ⟨pcs, rfl, hc⟩
    | cons _ _ => simp at hi
  | (i, v) :: parts, pparts, cs, pcs, out, hi, hv, hc, e => by
    cases pparts with
    | nil => simp at hi
    | cons q pparts =>
      obtain ⟨i', pv⟩ := q
      simp only [List.map_cons, List.cons.injEq] at hi
      obtain ⟨rfl, hi⟩ := hi
      cases hv with | cons hv hvs =>
      simp only [fillV] at e
      split at e
      · cases e
      · rename_i off size hp
        rw [br_some, Bool.and_eq_true] at e
        obtain ⟨⟨hs, hb⟩, e⟩ := e
        have hs := Nat.eq_of_beq_eq_true hs
        have hb := Nat.le_of_ble_eq_true hb
        have hcl := hc.length
        have hvc := (VR.cells hv).length
        simp only [Array.length_toList] at hcl hvc
        simp only [Instr.fill, hp]
        have hcond : ¬ ((decide (pv.cells.size ≠ size) || decide (off + pv.cells.size > pcs.size)) = true) := by
          simp; omega
        rw [if_neg hcond]
        refine fill_rel place parts pparts (splice cs off v.cells) _ out hi hvs ?_ e
        have := cells_foldl off pv.cells.toList 0 pcs (by simp; omega)
        simp only [Nat.add_zero, Array.length_toList] at this
        have e2 : (pv.cells.zipIdx.foldl (fun cs (x : Value × Nat) => cs.setIfInBounds (off + x.2) x.1) pcs).toList = pcs.toList.take off ++ pv.cells.toList ++ pcs.toList.drop (off + pv.cells.size) := by
          rw [← this, ← Array.foldl_toList, Array.toList_zipIdx]
        have e3 : (pv.cells.zipIdx.foldl (fun cs x => match x with | (c, j) => cs.setIfInBounds (off + j) c) pcs).toList = pcs.toList.take off ++ pv.cells.toList ++ pcs.toList.drop (off + pv.cells.size) := e2
        rw [e3]
        unfold splice
        rw [hs, ← hs, hvc]
        exact ((hc.take off).append (VR.cells hv)).append (hc.drop _)
theorem ρparts_rel {env : Env} {a : Act} (he : ER φ env a) : ∀ {ps : List (Nat × Operand)} {vs : List (Nat × V)}, ρparts env ps = some vs →
    vs.map (·.1) = (ps.map fun (i, x) => (i, a.eval x)).map (·.1) ∧ VRs φ (vs.map (·.2)) ((ps.map fun (i, x) => (i, a.eval x)).map (·.2))
  | [], vs, e => by simp [ρparts] at e; subst e; exact ⟨rfl, .nil⟩
  | (i, x) :: ps, vs, e => by
    simp only [ρparts] at e
    split at e
    · rename_i v vs' hv hvs
      cases e
      obtain ⟨h1, h2⟩ := ρparts_rel he hvs
      refine ⟨?_, .cons (ρ_rel he hv) h2⟩
      simp only [List.map_cons, h1]
    · cases e
theorem mapM_places (fs : List Field) (hall : fs.all (fun f => (szT P f.type).isSome) = true) :
    (fs.mapM fun f => (do pure (f.offset, ← sizeOf f.type) : Sem (Nat × Nat))).run P w = .ok (fs.map fun f => (f.offset, (szT P f.type).getD 0)) w := by
  induction fs with
  | nil => rfl
  | cons f fs ih =>
    simp only [List.all_cons, Bool.and_eq_true] at hall
    obtain ⟨h1, h2⟩ := hall
    obtain ⟨n, hn⟩ := Option.isSome_iff_exists.1 h1
    rw [List.mapM_cons]
    simp only [Sem.run_bind, run_szT hn, Result.andThen_ok, Sem.run_pure, ih h2, List.map_cons, hn, Option.getD_some]
theorem fillV_congr {p q : Nat → Option (Nat × Nat)} (hpq : ∀ i, p i = q i) : ∀ (parts : List (Nat × V)) (cs : List V), fillV p cs parts = fillV q cs parts := by
  have : p = q := funext hpq
  subst this
  intro _ _; rfl
theorem buildV_rel {t : TypeId} {parts : List (Nat × V)} {pparts : Array (Nat × Value)} {v : V} (h1 : parts.map (·.1) = pparts.toList.map (·.1)) (h2 : VRs φ (parts.map (·.2)) (pparts.toList.map (·.2)))
    (e : buildV P t parts = some v) : ∃ pv, (Instr.build t pparts).run P w = .ok pv w ∧ VR φ v pv := by
  unfold buildV at e
  split at e
  · cases e
  · rename_i z hz
    obtain ⟨pz, hz1, hz2⟩ := run_zeroT (P := P) (φ := φ) (w := w) hz
    split at e
    · rename_i fs hu
      split at e
      · rename_i hall
        simp only [Option.map_eq_some_iff] at e
        obtain ⟨out, hf, rfl⟩ := e
        have hm := mapM_places (P := P) (w := w) fs.toList hall
        have hplace : ∀ i, placeS P fs.toList i = (fs.toList.map fun f => (f.offset, (szT P f.type).getD 0)).toArray[i]? := by
          intro i
          unfold placeS
          simp only [List.getElem?_toArray, List.getElem?_map]
          split
          · rename_i f hfi
            rw [hfi]
            simp only [Option.map_some]
            have hmem : f ∈ fs.toList := List.mem_of_getElem? hfi
            have := List.all_eq_true.1 hall f hmem
            obtain ⟨n, hn⟩ := Option.isSome_iff_exists.1 this
            simp [hn]
          · rename_i hfi
            rw [hfi]; rfl
        rw [fillV_congr hplace] at hf
        obtain ⟨pout, hp1, hp2⟩ := fill_rel _ parts pparts.toList z.cells pz.cells out h1 h2 (VR.cells hz2) hf
        refine ⟨.agg pout, ?_, ?_⟩
        · have hmA : (fs.mapM fun f => (do pure (f.offset, ← sizeOf f.type) : Sem (Nat × Nat))).run P w = .ok (fs.toList.map fun f => (f.offset, (szT P f.type).getD 0)).toArray w := by
            rw [← Array.toArray_toList (xs := fs)]
            simp only [List.mapM_toArray, Sem.run_map]
            rw [hm]; simp
          simp only [Instr.build, Sem.run_bind, hz1, run_underlying hu, Result.andThen_ok, hmA, hp1, Sem.run_pure]
        · have := VR.agg hp2; simpa using this
      · cases e
    · rename_i n E hu
      split at e
      · rename_i s hs
        simp only [Option.map_eq_some_iff] at e
        obtain ⟨out, hf, rfl⟩ := e
        obtain ⟨pout, hp1, hp2⟩ := fill_rel _ parts pparts.toList z.cells pz.cells out h1 h2 (VR.cells hz2) hf
        refine ⟨.agg pout, ?_, ?_⟩
        · simp only [Instr.build, Sem.run_bind, hz1, run_underlying hu, Result.andThen_ok, run_szT hs, hp1, Sem.run_pure]
        · have := VR.agg hp2; simpa using this
      · cases e
    · cases e
theorem ρo_rel {env : Env} {a : Act} (he : ER φ env a) {x : Option Operand} {v : Option V} (e : ρo env x = some v) : OV φ v (x.map a.eval) := by
  cases x with
  | none => simp only [ρo, Option.some.injEq] at e; subst e; exact .none
  | some x =>
    simp only [ρo] at e
    split at e
    · rename_i u hu
      cases e
      exact .some (ρ_rel he hu)
    · cases e
theorem fieldOf_under {s : TypeId} {f : Nat} {fd : Field} (e : fieldOf P s f = some fd) : ∃ fs : Array Field, P.underlying s = some (.struct fs) ∧ fs[f]? = some fd := by
  unfold fieldOf at e
  split at e
  · rename_i fs hu
    exact ⟨fs, hu, by simpa using e⟩
  · cases e
theorem eq_nil_nil {t : TypeId} {ms : Array (String × TypeId)} (hu : P.underlying t = some (.interface ms)) (d : Nat) : (Op.equalIn (d + 1) t .nilIface .nilIface).run P w = .ok true w := by
  simp only [Op.equalIn, Sem.run_bind, run_underlying hu, Result.andThen_ok, Sem.run_pure]
theorem evRead_rel (hw : WR φ h w) {env : Env} {a : Act} (he : ER φ env a) {o : Oper} {v : V} (e : evRead P env h o = some v) :
    ∃ pv, (execOp a.eval o).run P w = .ok (.value pv) w ∧ VR φ v pv := by
  have wrap : ∀ {S : Sem Value}, (∃ pv, S.run P w = .ok pv w ∧ VR φ v pv) → ∃ pv, (do pure (.value (← S)) : Sem Next).run P w = .ok (.value pv) w ∧ VR φ v pv := by
    rintro S ⟨pv, h1, h2⟩
    exact ⟨pv, by simp [h1], h2⟩
  obtain ⟨dst, op, ty, pos, after, guard⟩ := o
  unfold evRead evReadOp at e
  simp only at e
  unfold execOp
  simp only
  split at e
  · exact ⟨_, rfl, ρ_rel he e⟩
  · exact ⟨_, rfl, ρ_rel he e⟩
  · 
    rename_i c x y
    unfold rdPick at e
    split at e
    · rename_i hc
      have hc' := ρ_rel he hc
      generalize hce : a.eval c = pc at hc'
      cases hc'
      exact ⟨_, by simp [asBool, hce], ρ_rel he e⟩
    · rename_i hc
      have hc' := ρ_rel he hc
      generalize hce : a.eval c = pc at hc'
      cases hc'
      exact ⟨_, by simp [asBool, hce], ρ_rel he e⟩
    · cases e
  · 
    unfold rdLoad at e
    split at e
    · rename_i x hx
      exact wrap (loadV_rel hw (ρ_rel he hx) e)
    · cases e
  · 
    rename_i x
    unfold rdNil at e
    split at e
    all_goals first
      | (rename_i hx
         have hx' := ρ_rel he hx
         cases e
         generalize hpx : a.eval x = px at hx'
         refine ⟨px, ?_, hx'⟩
         cases hx' <;> simp [hpx])
      | (cases e; done)
  · 
    rename_i op t x y yt
    unfold rdBin at e
    split at e
    · rename_i hx hy
      have hx' := ρ_rel he hx
      have hy' := ρ_rel he hy
      unfold nilEq at e
      split at e
      · rename_i ms hu
        split at e
        · rename_i hco
          have hx2 : a.eval x = .nilIface := by generalize a.eval x = px at hx'; cases hx'; rfl
          have hy2 : a.eval y = .nilIface := by generalize a.eval y = py at hy'; cases hy'; rfl
          have hg : ∀ op, (eqGuard op t x y (a.eval x) (a.eval y)).run P w = .ok () w := by
            intro op
            rw [hx2, hy2]
            have hco' : ((match x with | .const _ => true | _ => false) || (match y with | .const _ => true | _ => false)) = true := by
              cases x <;> cases y <;> exact hco
            unfold eqGuard
            cases op <;> first
              | rfl
              | (cases x <;> cases y <;> first
                  | rfl
                  | (exfalso; revert hco'; simp))
          split at e
          · cases e
            refine wrap ⟨.bool true, ?_, .bool _⟩
            simp only [Sem.run_bind, hg, Result.andThen_ok]
            rw [hx2, hy2]
            have : (Op.equal t .nilIface .nilIface).run P w = .ok true w := eq_nil_nil hu 9999
            simp only [binOp, Sem.run_bind, this, Result.andThen_ok, Sem.run_pure]
          · cases e
            refine wrap ⟨.bool false, ?_, .bool _⟩
            simp only [Sem.run_bind, hg, Result.andThen_ok]
            rw [hx2, hy2]
            have : (Op.equal t .nilIface .nilIface).run P w = .ok true w := eq_nil_nil hu 9999
            simp only [binOp, Sem.run_bind, this, Result.andThen_ok, Sem.run_pure]
            rfl
          · cases e
        · cases e
      · cases e
    · rename ρ env x = some _ => hx
      rename ρ env y = some _ => hy
      exact wrap (binV_rel hw (ρ_rel he hx) (ρ_rel he hy) e x y)
    · cases e
  · 
    unfold rdUn at e
    split at e
    · rename_i hx
      exact wrap (unV_rel (ρ_rel he hx) e)
    · cases e
  · 
    unfold rdConv at e
    split at e
    · rename_i hx
      exact wrap (convV_rel (ρ_rel he hx) e)
    · cases e
  · 
    rename_i t x
    unfold rdIface at e
    split at e
    · cases e
    · rename_i d u hni hu hx
      cases e
      refine wrap ⟨.iface t (a.eval x), ?_, .iface (ρ_rel he hx)⟩
      simp only [Instr.makeInterface, Sem.run_bind, run_underlying hu, Result.andThen_ok]
      cases d <;> first
        | exact absurd rfl (hni _)
        | rfl
    · cases e
  · 
    rename_i fn x y
    unfold rdFunc at e
    split at e
    · rename_i f
      split at e
      · rename ρs env x.toList = some _ => hx
        rename ρs env y.toList = some _ => hy
        cases e
        refine wrap ⟨_, rfl, ?_⟩
        have e1 : ∀ z : Array Operand, (z.toList.map a.eval).toArray = z.map a.eval := fun z => by apply Array.ext'; simp
        have := VR.func (f := f) (ρs_rel he hx) (ρs_rel he hy)
        rw [e1, e1] at this
        exact this
      · cases e
    · cases e
  · 
    unfold rdSlice at e
    split at e
    · rename_i hx hlo hhi hmx
      exact wrap (sliceV_rel hw (ρ_rel he hx) (ρo_rel he hlo) (ρo_rel he hhi) (ρo_rel he hmx) e)
    · cases e
  · 
    rename_i s x f
    unfold rdFieldAddr at e
    split at e
    · rename_i id off fd hx hf
      split at e
      · rename_i n hsz
        have hx' := ρ_rel he hx
        obtain ⟨fs, hu, hfd⟩ := fieldOf_under hf
        cases e
        generalize hpx : a.eval x = px at hx'
        cases hx' with | ptr hp =>
        rename_i p
        refine wrap ⟨.pointer (some ⟨p.b, p.o + (off + fd.offset), none⟩), ?_, .ptr hp⟩
        rw [hpx]
        simp [Instr.fieldAt, run_underlying hu, hfd, Instr.sureAddr, fieldPlace, run_szT hsz, addr_add, Nat.add_assoc]
      · cases e
    · cases e
  · 
    rename_i s x f
    unfold rdField at e
    split at e
    · rename_i cs fd hx hf
      have hx' := ρ_rel he hx
      obtain ⟨fs, hu, hfd⟩ := fieldOf_under hf
      obtain ⟨pcs, hpx, hcs⟩ := hx'.agg_inv
      obtain ⟨pv, h1, h2⟩ := partV_rel (P := P) (w := w) hcs e
      refine wrap ⟨pv, ?_, h2⟩
      rw [hpx]
      simp [Instr.field, run_underlying hu, hfd, asAgg, h1]
    · cases e
  · 
    unfold rdIndexAddr at e
    split at e
    · rename_i hx hi
      exact wrap (indexAddrV_rel (ρ_rel he hx) (ρ_rel he hi) e)
    · cases e
  · 
    unfold rdIndex at e
    split at e
    · rename_i hx hi
      exact wrap (indexV_rel (ρ_rel he hx) (ρ_rel he hi) e)
    · cases e
  · 
    unfold rdLookup at e
    split at e
    · rename_i hm hk
      exact wrap (lookupV_rel hw (ρ_rel he hm) (ρ_rel he hk) e)
    · cases e
  · 
    unfold rdAssert at e
    split at e
    · rename_i hx
      exact wrap (assertV_rel (ρ_rel he hx) e _)
    · cases e
  · 
    rename_i x i
    unfold rdExtract at e
    split at e
    · rename_i vs hx
      have hx' := ρ_rel he hx
      generalize hpx : a.eval x = px at hx'
      cases hx' with | tuple hvs =>
      obtain ⟨pv, h1, h2⟩ := hvs.get e
      refine wrap ⟨pv, ?_, h2⟩
      rw [hpx]
      simp [Instr.extract, h1]
    · cases e
  · 
    rename_i t ps
    unfold rdBuild at e
    split at e
    · rename_i vs hps
      obtain ⟨h1, h2⟩ := ρparts_rel he hps
      refine wrap (buildV_rel (pparts := ps.map fun (i, x) => (i, a.eval x)) ?_ ?_ e)
      · simpa using h1
      · simpa using h2
    · cases e
  · 
    rename_i c
    unfold rdCall at e
    split at e
    · rename_i b hcal
      unfold rdBuiltin at e
      split at e
      · rename_i vs hvs
        have hr := ρs_rel he hvs
        have hargs : ∀ k, (c.args.map a.eval)[k]? = (c.args.toList.map a.eval)[k]? := fun k => by rw [← Array.getElem?_toList, Array.toList_map]
        have hgo : ∀ (S : Sem Value), (∀ cs, builtin b c.argTypes ty cs (c.args.map a.eval) = (do pure (.value (← S)))) → (∃ pv, S.run P w = .ok pv w ∧ VR φ v pv) →
            ∃ pv, (do let d ← resolve a.eval c ty; invoke d.target d.args : Sem Next).run P w = .ok (.value pv) w ∧ VR φ v pv := by
          rintro S hS ⟨pv, h1, h2⟩
          refine ⟨pv, ?_, h2⟩
          simp only [resolve, hcal, Sem.run_bind, Sem.run_pure, Result.andThen_ok, invoke]
          rw [hS]
          simp [h1]
        split at e
        · rename_i x t tl hat
          generalize hl : c.args.toList.map a.eval = pl at hr
          cases hr with | cons hx hn =>
          refine hgo _ (fun _ => rfl) (lenV_rel hw hx e c.argTypes ?_ ty _ ?_)
          · rw [← Array.getElem?_toList, hat]; rfl
          · rw [hargs, hl]; rfl
        · rename_i x t tl hat
          generalize hl : c.args.toList.map a.eval = pl at hr
          cases hr with | cons hx hn =>
          refine hgo _ (fun _ => rfl) (capV_rel hx e c.argTypes ?_ ty _ ?_)
          · rw [← Array.getElem?_toList, hat]; rfl
          · rw [hargs, hl]; rfl
        · generalize hl : c.args.toList.map a.eval = pl at hr
          cases hr with | cons hx hn =>
          refine hgo (Builtin.min_ c.argTypes ty (c.args.map a.eval)) (fun _ => rfl) ?_
          have : (c.args.map a.eval).toList = _ := (by simpa using hl)
          unfold Builtin.min_
          rw [this]
          exact minmax_rel (P := P) (w := w) false _ _ _ _ _ hx hn e
        · generalize hl : c.args.toList.map a.eval = pl at hr
          cases hr with | cons hx hn =>
          refine hgo (Builtin.max_ c.argTypes ty (c.args.map a.eval)) (fun _ => rfl) ?_
          have : (c.args.map a.eval).toList = _ := (by simpa using hl)
          unfold Builtin.max_
          rw [this]
          exact minmax_rel (P := P) (w := w) true _ _ _ _ _ hx hn e
        · cases e
      · cases e
    · cases e
  · cases e
end Go.Ev
end
