/- What is to be shown of a function's code: reckoned from the code by 'vc'. -/
import Derived.Test.YtkmoeokfgkmlhaaVcBase

namespace Go.Vc
open Go

/-! ### Kinds of values -/
inductive STy where
  | int (k : IntKind) | bool | str | ptr | addr | slice | map | any
inductive Ty where
  | s (t : STy)
  | agg (ts : List STy)
def STy.Fun : STy → Type → Type
  | .int _, α => Int → α
  | .bool, α => Bool → α
  | .str, α => ByteArray → α
  | .ptr, α => Option Addr → α
  | .addr, α => Addr → α
  | .slice, α => Option Addr → Nat → Nat → α
  | .map, α => Option Nat → α
  | .any, α => Value → α
def STys.Fun : List STy → Type → Type
  | [], α => α
  | t :: ts, α => t.Fun (STys.Fun ts α)
def Ty.Fun : Ty → Type → Type
  | .s t, α => t.Fun α
  | .agg ts, α => STys.Fun ts α
def Tys.Fun : List Ty → Type → Type
  | [], α => α
  | t :: ts, α => t.Fun (Tys.Fun ts α)

def IntKind.same : IntKind → IntKind → Bool
  | .i8, .i8 | .i16, .i16 | .i32, .i32 | .i64, .i64 | .u8, .u8 | .u16, .u16 | .u32, .u32 | .u64, .u64 => true
  | _, _ => false

/-- A function of a value of a kind, at a value. -/
def STy.app {α : Type} : (t : STy) → t.Fun α → Value → Option α
  | .int k, f, .int k' n => match IntKind.same k k' with | true => some (f n) | false => none
  | .bool, f, .bool b => some (f b)
  | .str, f, .string s => some (f s)
  | .ptr, f, .pointer p => some (f p)
  | .addr, f, .pointer p => match p with | some a => some (f a) | none => none
  | .slice, f, .slice p n c => some (f p n c)
  | .map, f, .map r => some (f r)
  | .any, f, v => some (f v)
  | _, _, _ => none
def STys.app {α : Type} : (ts : List STy) → STys.Fun ts α → List Value → Option α
  | [], f, [] => some f
  | t :: ts, f, v :: vs => match t.app f v with | some g => STys.app ts g vs | none => none
  | _, _, _ => none
def Ty.app {α : Type} : (t : Ty) → t.Fun α → Value → Option α
  | .s t, f, v => t.app f v
  | .agg ts, f, .agg cs => STys.app ts f cs.toList
  | _, _, _ => none
def Tys.app {α : Type} : (ts : List Ty) → Tys.Fun ts α → List Value → Option α
  | [], f, [] => some f
  | t :: ts, f, v :: vs => match t.app f v with | some g => Tys.app ts g vs | none => none
  | _, _, _ => none

/-- For all values of a kind. -/
def STy.all (t : STy) (P : Value → Prop) : Prop := match t with
  | .int k => ∀ n : Int, P (.int k n)
  | .bool => ∀ b : Bool, P (.bool b)
  | .str => ∀ s : ByteArray, P (.string s)
  | .ptr => ∀ p : Option Addr, P (.pointer p)
  | .addr => ∀ a : Addr, P (.pointer (some a))
  | .slice => ∀ (p : Option Addr) (n c : Nat), P (.slice p n c)
  | .map => ∀ r : Option Nat, P (.map r)
  | .any => ∀ v : Value, P v
def STys.all : List STy → (List Value → Prop) → Prop
  | [], P => P []
  | t :: ts, P => t.all fun v => STys.all ts fun vs => P (v :: vs)
def Ty.all : Ty → (Value → Prop) → Prop
  | .s t, P => t.all P
  | .agg ts, P => STys.all ts fun vs => P (.agg vs.toArray)
def Tys.all : List Ty → (List Value → Prop) → Prop
  | [], P => P []
  | t :: ts, P => t.all fun v => Tys.all ts fun vs => P (v :: vs)

/-- There is a value of a kind. -/
def STy.ex (t : STy) (P : Value → Prop) : Prop := match t with
  | .int k => ∃ n : Int, P (.int k n)
  | .bool => ∃ b : Bool, P (.bool b)
  | .str => ∃ s : ByteArray, P (.string s)
  | .ptr => ∃ p : Option Addr, P (.pointer p)
  | .addr => ∃ a : Addr, P (.pointer (some a))
  | .slice => ∃ (p : Option Addr) (n c : Nat), P (.slice p n c)
  | .map => ∃ r : Option Nat, P (.map r)
  | .any => ∃ v : Value, P v
def STys.ex : List STy → (List Value → Prop) → Prop
  | [], P => P []
  | t :: ts, P => t.ex fun v => STys.ex ts fun vs => P (v :: vs)
def Ty.ex : Ty → (Value → Prop) → Prop
  | .s t, P => t.ex P
  | .agg ts, P => STys.ex ts fun vs => P (.agg vs.toArray)
def Tys.ex : List Ty → (List Value → Prop) → Prop
  | [], P => P []
  | t :: ts, P => t.ex fun v => Tys.ex ts fun vs => P (v :: vs)

/-- The kind of a type. -/
def styOf (P : Program) (t : TypeId) : Option STy := match P.underlying t with
  | some (.int k) => some (.int k)
  | some .bool => some .bool
  | some .string => some .str
  | some (.pointer _) => some .ptr
  | some (.slice _) => some .slice
  | some (.map _ _) => some .map
  | some (.func _ _ _) => some .any
  | some (.interface _) => some .any
  | _ => none
def repL (n : Nat) (l : List STy) : List STy := n.rec [] fun _ r => l ++ r
def stysOf (P : Program) : Nat → TypeId → Option (List STy)
  | 0, _ => none
  | d + 1, t => match P.underlying t with
    | some (.struct fs) => fs.toList.foldr (fun f r => match stysOf P d f.type, r with | some a, some b => some (a ++ b) | _, _ => none) (some [])
    | some (.array n e) => match stysOf P d e with | some l => some (repL n l) | none => none
    | _ => match styOf P t with | some s => some [s] | none => none
def isAggT (P : Program) (t : TypeId) : Bool := match P.underlying t with
  | some (.struct _) => true
  | some (.array _ _) => true
  | _ => false
def sizeT (P : Program) (t : TypeId) : Option Nat := match P.info? t with | some i => some i.size | none => none
def tyOf (P : Program) (t : TypeId) : Option Ty := match isAggT P t with
  | true => match stysOf P 8 t, sizeT P t with
    | some l, some n => match Nat.beq l.length n with | true => some (.agg l) | false => none
    | _, _ => none
  | false => match styOf P t with | some s => some (.s s) | none => none
def tysOf (P : Program) : List TypeId → Option (List Ty)
  | [] => some []
  | t :: ts => match tyOf P t, tysOf P ts with | some a, some b => some (a :: b) | _, _ => none
def bytesT (P : Program) (t : TypeId) : Option Nat := match P.info? t with | some i => some i.bytes | none => none
def zeroT (P : Program) (t : TypeId) : Option Value := match P.info? t with | some i => i.zero | none => none

/-! ### What the slots hold -/
inductive Ent where
  | w (t : Nat) (v : Value)
  | h (lo hi : Nat)
abbrev Env := List Ent
def Env.get : Env → Nat → Option Value
  | [], _ => none
  | .w t v :: r, s => match Nat.beq t s with | true => some v | false => Env.get r s
  | .h lo hi :: r, s => match Nat.ble lo s with
    | true => match Nat.ble (s + 1) hi with | true => none | false => Env.get r s
    | false => Env.get r s
def Env.ev (e : Env) : Operand → Option Value
  | .tmp t => e.get t
  | .const v => some v
  | .global g => some (.pointer (some ⟨g, 0, none⟩))
  | .func f => some (.func (.func f) #[] #[])
def Env.evD (e : Env) (x : Operand) : Value := match e.ev x with | some v => v | none => undef
def Env.known (e : Env) (xs : List Operand) : Bool := xs.all fun x => (e.ev x).isSome
def Env.put (e : Env) : Option Tmp → Value → Env
  | none, _ => e
  | some d, v => .w d v :: e
def Env.evs (e : Env) : List Operand → Option (List Value)
  | [] => some []
  | x :: xs => match e.ev x, e.evs xs with | some v, some vs => some (v :: vs) | _, _ => none

/-! ### Words -/
/-- A branch. -/
def Br (b : Bool) (X Y : Prop) : Prop := match b with | true => X | false => Y
/-- In a kind's range. -/
def InR (k : IntKind) (n : Int) : Prop := k.min ≤ n ∧ n ≤ k.max
def NonNil (p : Option Addr) (K : Addr → Prop) : Prop := match p with | some a => K a | none => False
def LdI (k : IntKind) (c : Option Value) (K : Int → Prop) : Prop := ∃ n, c = some (.int k n) ∧ K n
def LdB (c : Option Value) (K : Bool → Prop) : Prop := ∃ b, c = some (.bool b) ∧ K b
def LdStr (c : Option Value) (K : ByteArray → Prop) : Prop := ∃ s, c = some (.string s) ∧ K s
def LdP (c : Option Value) (K : Option Addr → Prop) : Prop := ∃ p, c = some (.pointer p) ∧ K p
def LdSl (c : Option Value) (K : Option Addr → Nat → Nat → Prop) : Prop := ∃ p n m, c = some (.slice p n m) ∧ K p n m
def LdM (c : Option Value) (K : Option Nat → Prop) : Prop := ∃ r, c = some (.map r) ∧ K r
def LdV (c : Option Value) (K : Value → Prop) : Prop := ∃ v, c = some v ∧ K v
def LdS (t : STy) (c : Option Value) (K : Value → Prop) : Prop := match t with
  | .int k => LdI k c fun n => K (.int k n)
  | .bool => LdB c fun b => K (.bool b)
  | .str => LdStr c fun s => K (.string s)
  | .ptr => LdP c fun p => K (.pointer p)
  | .addr => ∃ a, c = some (.pointer (some a)) ∧ K (.pointer (some a))
  | .slice => LdSl c fun p n m => K (.slice p n m)
  | .map => LdM c fun r => K (.map r)
  | .any => LdV c fun v => K v
def LdCells (w : World) (a : Addr) : List STy → Nat → List Value → (List Value → Prop) → Prop
  | [], _, acc, K => K acc.reverse
  | t :: ts, i, acc, K => LdS t (w.cell? (a.add i)) fun v => LdCells w a ts (i + 1) (v :: acc) K
def LdT (t : Ty) (w : World) (a : Addr) (K : Value → Prop) : Prop := match t with
  | .s t => LdS t (w.cell? a) K
  | .agg ts => LdCells w a ts 0 [] fun vs => K (.agg vs.toArray)
/-- In all worlds of a class. -/
def Held (S : World → Prop) (a : Addr) (v : Value) : Prop := ∀ w, S w → w.cell? a = some v
def HdS (t : STy) (S : World → Prop) (a : Addr) (K : Value → Prop) : Prop := t.ex fun v => Held S a v ∧ K v
def HdCells (S : World → Prop) (a : Addr) : List STy → Nat → List Value → (List Value → Prop) → Prop
  | [], _, acc, K => K acc.reverse
  | t :: ts, i, acc, K => HdS t S (a.add i) fun v => HdCells S a ts (i + 1) (v :: acc) K
def HdT (t : Ty) (S : World → Prop) (a : Addr) (K : Value → Prop) : Prop := match t with
  | .s t => HdS t S a K
  | .agg ts => HdCells S a ts 0 [] fun vs => K (.agg vs.toArray)
/-- A store. -/
def St (w : World) (a : Addr) (v : Value) (K : World → Prop) : Prop := (∃ old, w.cell? a = some old) ∧ w.frozen? a = false ∧ K (w.setCell a v)
/-- Only a value of one cell. -/
def oneC (v : Value) (X : Prop) : Prop := match v with | .agg _ => False | .tuple _ => False | _ => X
def StCells (a : Addr) : World → List Value → Nat → (World → Prop) → Prop
  | w, [], _, K => K w
  | w, v :: vs, i, K => oneC v (St w (a.add i) v fun w' => StCells a w' vs (i + 1) K)
def IdxA (p : Option Addr) (n : Nat) (i : Int) (sz : Nat) (K : Addr → Prop) : Prop := match p with
  | some a => 0 ≤ i ∧ i < n ∧ K (a.add (i.toNat * sz))
  | none => False
def IdxR (a : Addr) (n : Nat) (i : Int) (sz : Nat) (K : Addr → Prop) : Prop := 0 ≤ i ∧ i < n ∧ K (a.add (i.toNat * sz))
def IdxS (s : ByteArray) (i : Int) (K : Int → Prop) : Prop := 0 ≤ i ∧ ∃ b, s[i.toNat]? = some b ∧ K b.toNat
def SlA (p : Option Addr) (m l sz : Nat) : Option Addr := if m = l then p else p.map fun a => a.add (l * sz)
def SlB (l h m : Int) (K : Prop) : Prop := 0 ≤ l ∧ l ≤ h ∧ h ≤ m ∧ K
def zrow (z : Array Value) (n : Nat) : Array Value := (Array.range n).map (z[· % z.size]!)
/-- Two addresses that may be compared. -/
def PtrOk (w : World) (p q : Option Addr) : Prop := ∀ a b, p = some a → q = some b → a.block ≠ b.block →
  (∃ c t, w.heap[a.block]? = some (.cells c t (0, 0))) ∧ (∃ c t, w.heap[b.block]? = some (.cells c t (0, 0)))
def nilF (v : Value) (K : Bool → Prop) : Prop := match v with
  | .nilFunc => K true
  | .func _ _ _ => K false
  | _ => False
def nilI (v : Value) (K : Bool → Prop) : Prop := match v with
  | .nilIface => K true
  | .iface _ _ => K false
  | _ => False
/-- A new variable. -/
def Al (w : World) (c : Array Value) (t : TypeId) (K : Addr → World → Prop) : Prop := K ⟨w.heap.size, 0, none⟩ (w.alloc (.cells c t))
def AlM (w : World) (K : Nat → World → Prop) : Prop := K w.heap.size (w.alloc (.map #[] 0))
def Dr (w : World) (K : World → Prop) : Prop := K w.drew
def bAnd (k : IntKind) (x y : Int) : Int := k.wrap (BitVec.ofInt k.bits x &&& BitVec.ofInt k.bits y).toNat
def bOr (k : IntKind) (x y : Int) : Int := k.wrap (BitVec.ofInt k.bits x ||| BitVec.ofInt k.bits y).toNat
def bXor (k : IntKind) (x y : Int) : Int := k.wrap (BitVec.ofInt k.bits x ^^^ BitVec.ofInt k.bits y).toNat
def bAndNot (k : IntKind) (x y : Int) : Int := k.wrap (BitVec.ofInt k.bits x &&& ~~~(BitVec.ofInt k.bits y)).toNat
/-- What a call hands on. -/
def post (R : Ending → World → Prop) (K : Value → World → Prop) : Ending → World → Prop
  | .returned v, w => K v w
  | .panicked ch, w => R (.panicked ch) w
  | .outgrown, w => R .outgrown w
def okF (P : Program) (f : FuncId) : Bool := match P.funcs[f]? with
  | some fn => fn.body.isSome && !(fn.name == "runtime.NumGoroutine")
  | none => false
/-- A call of a function value. -/
def CallV (P : Program) (v : Value) (args : Array Value) (w : World) (R : Ending → World → Prop) (K : Value → World → Prop) : Prop := match v with
  | .func (.func f) first cap => okF P f = true ∧ Calls P f (first ++ args ++ cap) w (post R K)
  | _ => False
/-- An operation of the machine as it is. -/
def Raw {α : Type} (P : Program) (s : Sem α) (w : World) (K : α → World → Prop) : Prop := ∃ v w', s.run P w = .ok v w' ∧ K v w'

def pure? {α : Type} (P : Program) : Sem α → Option α
  | .pure a => some a
  | .program k => pure? P (k P)
  | .mark _ k => pure? P k
  | _ => none

/-! ### One operation that looks at no world -/
/-- Is this a number that is not 0, for sure? -/
def surely0 (y : Operand) (b : Int) (X : Prop) : Prop := match y with
  | .const _ => match (match b with | .ofNat n => Nat.beq n 0 | .negSucc _ => false) with | true => False | false => X
  | _ => b ≠ 0 ∧ X
def surelyPos (y : Operand) (b : Int) (X : Prop) : Prop := match y with
  | .const _ => match b with | .ofNat _ => X | .negSucc _ => False
  | _ => 0 ≤ b ∧ X
def num (ex : Bool) (k : IntKind) (n : Int) (K : Value → Prop) : Prop := match ex with
  | true => InR k n ∧ K (.int k n)
  | false => K (.int k (k.wrap n))
def isNil : Operand → Bool
  | .const (.pointer none) => true
  | .const (.slice none _ _) => true
  | .const (.map none) => true
  | .const .nilFunc => true
  | .const .nilIface => true
  | _ => false
def isSel : Op → Bool
  | .select _ _ => true
  | _ => false
def general (P : Program) (o : Oper) (e : Env) (K : Value → Prop) : Prop :=
  match e.known o.op.operands.toList && !isSel o.op with
  | true => match pure? P (execOp e.evD o) with
    | some (.value v) => K v
    | _ => False
  | false => False
def binI (P : Program) (ex : Bool) (o : Oper) (e : Env) (op : BinOp) (y : Operand) (k : IntKind) (a b : Int) (K : Value → Prop) : Prop := match op with
  | .add => num ex k (a + b) K
  | .sub => num ex k (a - b) K
  | .mul => num ex k (a * b) K
  | .quo => surely0 y b (num ex k (a.tdiv b) K)
  | .rem => surely0 y b (K (.int k (a.tmod b)))
  | _ => general P o e K
def shI (ex : Bool) (op : BinOp) (y : Operand) (k : IntKind) (a b : Int) (K : Value → Prop) : Prop := match op with
  | .shl => surelyPos y b (num ex k (a * 2 ^ (min b.toNat k.bits)) K)
  | .shr => surelyPos y b (K (.int k (a.fdiv (2 ^ (min b.toNat k.bits)))))
  | _ => False
def eqB (op : BinOp) (b : Bool) (K : Value → Prop) : Prop := match op with
  | .eql => K (.bool b)
  | .neq => K (.bool !b)
  | _ => False
def eqNil (d : TypeDesc) (c : Operand) (op : BinOp) (v : Value) (K : Value → Prop) : Prop := match d with
  | .pointer _ => match c, v with | .const (.pointer none), .pointer p => eqB op p.isNone K | _, _ => False
  | .slice _ => match c, v with | .const (.slice none _ _), .slice p _ _ => eqB op p.isNone K | _, _ => False
  | .map _ _ => match c, v with | .const (.map none), .map r => eqB op r.isNone K | _, _ => False
  | .func _ _ _ => match c with | .const .nilFunc => nilF v fun b => eqB op b K | _ => False
  | .interface _ => match c with | .const .nilIface => nilI v fun b => eqB op b K | _ => False
  | _ => False
def wInt (v : Option Value) (F : IntKind → Int → Prop) : Prop := match v with | some (.int k n) => F k n | _ => False
def bound (v : Option (Option Value)) (d : Int) (F : Int → Prop) : Prop := match v with
  | none => F d
  | some (some (.int _ n)) => F n
  | _ => False

/-- Are two structs the same? Of numbers (0), strings (1) and bools (2). -/
def eqL : List Nat → List Value → List Value → Option Bool
  | [], [], [] => some true
  | 0 :: ks, .int k a :: xs, .int k' b :: ys => match IntKind.same k k', eqL ks xs ys with | true, some r => some ((a == b) && r) | _, _ => none
  | 1 :: ks, .string a :: xs, .string b :: ys => match eqL ks xs ys with | some r => some ((a == b) && r) | none => none
  | 2 :: ks, .bool a :: xs, .bool b :: ys => match eqL ks xs ys with | some r => some ((a == b) && r) | none => none
  | _, _, _ => none
/-- Of numbers, strings and bools only, one behind the other: which. -/
def flatFs (rec : TypeId → Option (List Nat)) : List Field → Nat → Option (List Nat)
  | [], _ => some []
  | f :: fs, i => match Nat.beq f.offset i && !(f.name == "_") with
    | true => match rec f.type with
      | some (c :: n) => match flatFs rec fs (i + (c :: n).length) with | some r => some ((c :: n) ++ r) | none => none
      | _ => none
    | false => none
def flatT (P : Program) : Nat → TypeId → Option (List Nat)
  | 0, _ => none
  | d + 1, t => match P.underlying t, sizeT P t with
    | some (.struct fs), some sz => match P.stoodInHeld t with
      | true => none
      | false => match flatFs (flatT P d) fs.toList 0 with
        | some n => match Nat.beq n.length sz with | true => some n | false => none
        | none => none
    | some (.int _), some 1 => some [0]
    | some .string, some 1 => some [1]
    | some .bool, some 1 => some [2]
    | _, _ => none

def vcPure (P : Program) (ex : Bool) (o : Oper) (e : Env) (K : Value → Prop) : Prop := match o.op with
  | .move x => match e.ev x with | some v => K v | none => False
  | .assign x => match e.ev x with | some v => K v | none => False
  | .pick c a b => match e.ev c, e.ev a, e.ev b with
    | some (.bool c), some a, some b => Br c (K a) (K b)
    | _, _, _ => False
  | .nilCheck x => match e.ev x with
    | some (.pointer p) => NonNil p fun a => K (.pointer (some a))
    | _ => general P o e K
  | .indexAddr t x i => match e.ev x, e.ev i with
    | some (.slice p n _), some (.int _ i) => match P.underlying t with
      | some (.slice el) => match sizeT P el with | some sz => IdxA p n i sz fun a => K (.pointer (some a)) | none => False
      | _ => False
    | some (.pointer (some a)), some (.int _ i) => match P.underlying t with
      | some (.array n el) => match Nat.ble n 1 with
        | true => False
        | false => match sizeT P el with | some sz => IdxR a n i sz fun a => K (.pointer (some a)) | none => False
      | _ => False
    | _, _ => False
  | .index t x i => match e.ev x, e.ev i with
    | some (.string s), some (.int _ i) => match P.underlying t with
      | some .string => IdxS s i fun n => K (.int .u8 n)
      | _ => False
    | _, _ => False
  | .slice t x lo hi none => match e.ev x with
    | some (.string s) => match P.underlying t with
      | some .string => bound (lo.map e.ev) 0 fun l => bound (hi.map e.ev) s.size fun h => SlB l h s.size (K (.string (s.extract l.toNat h.toNat)))
      | _ => False
    | some (.slice p n c) => match P.underlying t with
      | some (.slice el) => match sizeT P el with
        | some sz => match lo with
          | none => bound (hi.map e.ev) n fun h => SlB 0 h c (K (.slice p h.toNat c))
          | some lo => bound (some (e.ev lo)) 0 fun l => bound (hi.map e.ev) n fun h => SlB l h c (K (.slice (SlA p c l.toNat sz) (h.toNat - l.toNat) (c - l.toNat)))
        | none => False
      | _ => False
    | _ => False
  | .binOp op t x y _ => match e.ev x, e.ev y with
    | some (.int k a), some (.int k' b) => match op with
      | .shl => shI ex op y k a b K
      | .shr => shI ex op y k a b K
      | _ => match IntKind.same k k' with | true => binI P ex o e op y k a b K | false => False
    | some (.string a), some (.string b) => match op with
      | .add => ((a.size + b.size : Nat) : Int) ≤ 9223372036854775807 ∧ K (.string (a ++ b))
      | _ => general P o e K
    | some (.bool _), some (.bool _) => general P o e K
    | some (.agg xs), some (.agg ys) => match isAggT P t, flatT P 8 t, P.eqGuardType P.depth t with
      | true, some ks, false => match eqL ks xs.toList ys.toList with
        | some r => eqB op r K
        | none => False
      | _, _, _ => False
    | some v, some u => match isNil y with
      | true => match P.underlying t with
        | some d => eqNil d y op v K
        | none => False
      | false => match isNil x with
        | true => match P.underlying t with
          | some d => eqNil d x op u K
          | none => False
        | false => general P o e K
    | _, _ => False
  | .convert src dst x => match e.ev x with
    | some (.int _ n) => match P.underlying dst, P.underlying src with
      | some (.int k), some _ => num ex k n K
      | _, _ => general P o e K
    | some (.string s) => match P.underlying dst, P.underlying src with
      | some .string, some _ => K (.string s)
      | _, _ => False
    | _ => general P o e K
  | _ => general P o e K

/-! ### One operation -/
def callK (P : Program) (R : Ending → World → Prop) (t : TypeId) (K : Value → World → Prop) : Option (Value → World → Prop) := match P.underlying t with
  | some (.tuple ts) => match tysOf P ts.toList with
    | some tys => some fun v w => Tys.ex tys fun vs => v = .tuple vs.toArray ∧ K v w
    | none => none
  | _ => match tyOf P t with
    | some ty => some fun v w => ty.ex fun u => v = u ∧ K u w
    | none => none
def tupK (P : Program) (t : TypeId) (K : Value → World → Prop) : Option (Value → World → Prop) := match P.underlying t with
  | some (.tuple ts) => match tysOf P ts.toList with
    | some tys => some fun v w => Tys.ex tys fun vs => v = .tuple vs.toArray ∧ K (.tuple vs.toArray) w
    | none => none
  | _ => match tyOf P t with
    | some ty => some fun v w => ty.ex fun u => v = u ∧ K u w
    | none => none
/-- The value of an operation of the machine, by its kind. -/
def rawK (P : Program) (t : TypeId) (s : Sem Value) (w : World) (K : Value → World → Prop) : Prop := match tupK P t K with
  | some K' => Raw P s w K'
  | none => False
def vcCall (P : Program) (R : Ending → World → Prop) (o : Oper) (c : Call) (e : Env) (w : World) (K : Value → World → Prop) : Prop := match c.callee with
  | .value (.func f) => match okF P f with
    | true => match e.evs c.args.toList, tupK P o.type K with
      | some vs, some K' => Calls P f vs.toArray w (post R K')
      | _, _ => False
    | false => False
  | .value x => match e.ev x, e.evs c.args.toList, tupK P o.type K with
    | some v, some vs, some K' => CallV P v vs.toArray w R K'
    | _, _, _ => False
  | .builtin .append => match e.evs c.args.toList with
    | some vs => rawK P o.type (Builtin.append_ c.argTypes o.type vs.toArray) w K
    | none => False
  | .builtin .copy => match e.evs c.args.toList with
    | some vs => rawK P o.type (Builtin.copy_ c.argTypes o.type vs.toArray) w K
    | none => False
  | .builtin .delete => match e.evs c.args.toList with
    | some vs => Raw P (Builtin.delete_ c.argTypes o.type vs.toArray) w K
    | none => False
  | .builtin .clear => match e.evs c.args.toList with
    | some vs => Raw P (Builtin.clear_ c.argTypes o.type vs.toArray) w K
    | none => False
  | .builtin .len => match e.evs c.args.toList with
    | some [.map r] => rawK P o.type (Builtin.len_ c.argTypes o.type #[.map r]) w K
    | _ => general P o e fun v => K v w
  | .builtin .panic => match e.evs c.args.toList with
    | some [.iface t v] => R (.panicked [{ v := .iface t v, recovered := false }]) w
    | _ => False
  | .builtin .cap => general P o e fun v => K v w
  | .builtin .min => general P o e fun v => K v w
  | .builtin .max => general P o e fun v => K v w
  | _ => False
/-- Is this a call's callee that came in? -/
def ptrEq (P : Program) (op : BinOp) (t : TypeId) (p q : Option Addr) (w : World) (K : Value → World → Prop) : Prop := match P.underlying t with
  | some (.pointer el) => match sizeT P el with
    | some (_ + 1) => PtrOk w p q ∧ eqB op (decide (p = q)) fun v => K v w
    | _ => False
  | _ => False
def vcOp (P : Program) (R : Ending → World → Prop) (ex : Bool) (o : Oper) (e : Env) (w : World) (K : Value → World → Prop) : Prop := match o.op with
  | .alloc t => match zeroT P t with
    | some z => K (.pointer (some ⟨w.heap.size, 0, none⟩)) (w.alloc (.cells z.cells t))
    | none => False
  | .box t x => match e.ev x with
    | some v => K (.pointer (some ⟨w.heap.size, 0, none⟩)) (w.alloc (.cells v.cells t))
    | none => False
  | .buildSlice t len parts => match e.known (parts.toList.map (·.2)), P.underlying t with
    | true, some (.slice el) => match sizeT P el, zeroT P el with
      | some sz, some z => match Nat.ble (len * sz) 16777216, Instr.fill (fun i => some (i * sz, sz)) ((Array.range (len * sz)).map (z.cells[· % z.cells.size]!)) (parts.toList.map fun p => (p.1, e.evD p.2)) with
        | true, some cells => K (.slice (some ⟨w.heap.size, 0, none⟩) len len) (w.alloc (.cells cells el))
        | _, _ => False
      | _, _ => False
    | _, _ => False
  | .load t x => match e.ev x, tyOf P t with
    | some (.pointer (some a)), some ty => LdT ty w a fun v => K v w
    | _, _ => False
  | .store t x y => match e.ev x, e.ev y, sizeT P t with
    | some (.pointer (some a)), some v, some n => match Nat.beq v.cells.size n with
      | true => StCells a w v.cells.toList 0 fun w' => K undef w'
      | false => False
    | _, _, _ => False
  | .makeMap t r => match r with
    | none => K (.map (some w.heap.size)) (w.alloc (.map #[] 0))
    | some x => match e.ev x, P.underlying t with
      | some (.int _ _), some (.map _ _) => K (.map (some w.heap.size)) (w.alloc (.map #[] 0))
      | _, _ => False
  | .makeSlice t l c => match e.ev l, e.ev c, P.underlying t with
    | some (.int _ l), some (.int _ c), some (.slice el) => match sizeT P el, bytesT P el, zeroT P el with
      | some sz, some (by_ + 1), some z => 0 ≤ l ∧ l ≤ c ∧ ((by_ + 1 : Nat) : Int) * c ≤ 281474976710656 ∧
          K (.slice (some ⟨w.heap.size, 0, none⟩) l.toNat c.toNat) (w.alloc (.cells (zrow z.cells (c.toNat * sz)) el))
      | _, _, _ => False
    | _, _, _ => False
  | .binOp op t x y _ => match isNil x || isNil y with
    | true => vcPure P ex o e fun v => K v w
    | false => match e.ev x, e.ev y with
      | some (.pointer p), some (.pointer q) => ptrEq P op t p q w K
      | _, _ => vcPure P ex o e fun v => K v w
  | .convert src dst x => match e.ev x, P.underlying dst with
    | some (.string s), some (.slice el) => rawK P o.type (convert src dst (.string s)) w K
    | some (.slice p n c), some .string => rawK P o.type (convert src dst (.slice p n c)) w K
    | some (.slice p n c), some (.slice _) => rawK P o.type (convert src dst (.slice p n c)) w K
    | _, _ => vcPure P ex o e fun v => K v w
  | .lookup t m k ok => match e.ev m, e.ev k with
    | some m, some k => rawK P o.type (Instr.lookup t m k ok) w K
    | _, _ => False
  | .mapUpdate t m k x => match e.ev m, e.ev k, e.ev x with
    | some m, some k, some v => Raw P (Instr.mapUpdate t m k v) w fun _ w' => K undef w'
    | _, _, _ => False
  | .insert t m k x => match e.ev m, e.ev k, e.ev x with
    | some m, some k, some v => Raw P (Instr.mapUpdate t m k v) w fun _ w' => K undef w'
    | _, _, _ => False
  | .mapEntry t m k => match e.ev m, e.ev k with
    | some m, some k => rawK P o.type (Instr.mapEntry t m k) w K
    | _, _ => False
  | .entryStore t m s x => match e.ev m, e.ev s, e.ev x with
    | some m, some s, some v => Raw P (Instr.entryStore t m s v) w fun _ w' => K undef w'
    | _, _, _ => False
  | .range t x => match e.ev x with
    | some v => Raw P (Instr.range t v) w fun v w' => ∃ g, v = .pointer (some ⟨g, 0, none⟩) ∧ K (.pointer (some ⟨g, 0, none⟩)) w'
    | none => False
  | .next it s => match e.ev it with
    | some v => Raw P (Instr.next v s o.type) w fun v w' => (v = .tuple #[.bool false] ∧ K (.tuple #[.bool false]) w') ∨ (match tupK P o.type K with | some K' => K' v w' | none => False)
    | none => False
  | .entry it => match e.ev it with
    | some v => rawK P o.type (Instr.entry v) w K
    | none => False
  | .panic x => match e.ev x with
    | some (.iface t v) => R (.panicked [{ v := .iface t v, recovered := false }]) w
    | _ => False
  | .call c => vcCall P R o c e w K
  | _ => vcPure P ex o e fun v => K v w

/-! ### A region -/
structure Flags where
  wraps : List (Nat × Nat)
def Flags.ex (fl : Flags) (r i : Nat) : Bool := fl.wraps.all fun p => !(Nat.beq p.1 r && Nat.beq p.2 i)
def isFree (o : Oper) : Bool := match o.op with
  | .move _ | .assign _ | .pick .. | .nilCheck _ | .indexAddr .. | .index .. | .slice .. | .fieldAddr .. | .field .. | .unOp .. | .extract .. | .makeInterface .. | .makeFunc .. | .build .. => true
  | .load .. => true
  | .binOp _ _ x y _ => true
  | .convert .. => true
  | .call c => match c.callee with
    | .builtin .len | .builtin .cap | .builtin .min | .builtin .max => true
    | _ => false
  | _ => false
/-- One operation's guard. -/
def guarded (ops : Array Oper) (o : Oper) (e : Env) (F : Bool → Env → Prop) : Prop := match o.guard with
  | none => F true e
  | some (j, want) => match (ops[j]?).bind (·.dst) with
    | none => False
    | some d => match e.get d with
      | some (.bool c) => Br c (F want (.w d (.bool true) :: e)) (F (!want) (.w d (.bool false) :: e))
      | some (.tuple _) => F false e
      | _ => False
def okDst (n : Nat) (o : Oper) : Bool := match o.dst with | none => true | some d => Nat.ble (d + 1) n
def vcOps (P : Program) (R : Ending → World → Prop) (fl : Flags) (n r : Nat) (ops : Array Oper) : List Oper → Nat → Env → World → (Env → World → Prop) → Prop
  | [], _, e, w, K => K e w
  | o :: rest, i, e, w, K => match okDst n o with
    | false => False
    | true => guarded ops o e fun b e => match b with
      | true => vcOp P R (fl.ex r i) o e w fun v w' => vcOps P R fl n r ops rest (i + 1) (e.put o.dst v) w' K
      | false => vcOps P R fl n r ops rest (i + 1) (e.put o.dst undef) w K
def vcFree (P : Program) (ex : Bool) (o : Oper) (e : Env) (S : Option (World → Prop)) (w : World) (K : Value → Prop) : Prop := match o.op with
  | .load t x => match e.ev x, tyOf P t with
    | some (.pointer (some a)), some ty => match S with
      | none => LdT ty w a K
      | some S => HdT ty S a K
    | _, _ => False
  | _ => vcPure P ex o e K
/-- Operation o loads. -/
def isLoad (o : Oper) : Bool := match o.op with | .load .. => true | _ => false
/-- Those that come before number m in every order, and m. -/
def markB (ops : Array Oper) (k : Nat) (acc : Array Bool) : Array Bool := match acc.getD k false with
  | true => match ops[k]? with
    | some o => o.after.toList.foldl (fun acc e => match Region.binds .any e with | true => acc.setIfInBounds e.on true | false => acc) acc
    | none => acc
  | false => acc
def marks (ops : Array Oper) (m : Nat) : Array Bool := (List.range ops.size).foldr (markB ops) ((Array.replicate ops.size false).setIfInBounds m true)
/-- Every load comes before number m. -/
def past (ops : Array Oper) (m : Nat) : Bool := (List.range ops.size).all fun i => match ops[i]? with
  | some o => !isLoad o || (marks ops m).getD i false
  | none => true
/-- No load can be to come. -/
def late (ops : Array Oper) (l : Array Bool) : Bool := (List.range ops.size).any fun m => l.getD m false && match ops[m]? with
  | some o => !isFree o && past ops m
  | none => false
def Unl (b : Bool) (X Y : Prop) : Prop := match b with | true => Y | false => X ∧ Y
def allP : List Prop → Prop
  | [] => True
  | [p] => p
  | p :: q :: r => p ∧ allP (q :: r)
def vcDraw (P : Program) (R : Ending → World → Prop) (fl : Flags) (n r : Nat) (ops : Array Oper) (S : Option (World → Prop)) : Nat → Array Bool → Env → World → (Env → World → Prop) → Prop
  | 0, l, e, w, K => match Region.ready .any ops l with | [] => K e w | _ => False
  | f + 1, l, e, w, K =>
    let rs := Region.ready .any ops l
    match rs.find? fun i => match ops[i]? with | some o => isFree o | none => false with
    | some i => match ops[i]?, Region.free .any ops l i with
      | some o, true => match okDst n o with
        | false => False
        | true => guarded ops o e fun b e => match b with
          | true => vcFree P (fl.ex r i) o e S w fun v => vcDraw P R fl n r ops S f (l.setIfInBounds i true) (e.put o.dst v) w K
          | false => vcDraw P R fl n r ops S f (l.setIfInBounds i true) (e.put o.dst undef) w K
      | _, _ => False
    | none => match rs with
      | [] => K e w
      | rs => match S with
        | none => False
        | some S' => allP (rs.map fun i => match ops[i]? with
          | none => False
          | some o => match okDst n o with
            | false => False
            | true => guarded ops o e fun b e => match b with
              | true => vcOp P R (fl.ex r i) o e w fun v w' => Unl (late ops (l.setIfInBounds i true)) (S' w') (vcDraw P R fl n r ops S f (l.setIfInBounds i true) (e.put o.dst v) w' K)
              | false => vcDraw P R fl n r ops S f (l.setIfInBounds i true) (e.put o.dst undef) w K)
def vcRegion (P : Program) (R : Ending → World → Prop) (fl : Flags) (n r : Nat) (ops : Array Oper) (draw : Bool) (e : Env) (w : World) (K : Env → World → Prop) : Prop := match draw with
  | false => vcOps P R fl n r ops ops.toList 0 e w K
  | true => match Region.noSelect ops with
    | false => False
    | true => match ops.all isFree with
      | true => vcDraw P R fl n r ops none ops.size (Array.replicate ops.size false) e w.drew K
      | false => ∃ S : World → Prop, S w.drew ∧ vcDraw P R fl n r ops (some S) ops.size (Array.replicate ops.size false) e w.drew K

/-! ### The code -/
structure Cut where
  sl : List (Nat × Ty)
  hs : List (Nat × Nat)
structure Plan where
  n : Nat
  fl : Flags
  joins : List (Nat × Cut)
  loops : List (Nat × Cut)
def look (l : List (Nat × Cut)) (k : Option Nat) : Option Cut := match k with
  | none => none
  | some k => (l.find? fun p => Nat.beq p.1 k).map (·.2)
def firstR : Code → Option Nat
  | .region id _ _ => some id
  | .seq a _ => firstR a
  | .block _ b => firstR b
  | .loop b => firstR b
  | _ => none
inductive SI where
  | code (c : Code)
  | inBlock (i : Nat)
  | join (cut : Cut) (base : Env) (J : List Value → World → Prop)
  | lp (cut : Cut) (base : Env) (J : List Value → World → Prop) (c : Code)
def SI.erase : List SI → List Item
  | [] => []
  | .code c :: k => .code c :: SI.erase k
  | .inBlock i :: k => .inBlock i :: SI.erase k
  | .join _ _ _ :: k => SI.erase k
  | .lp _ _ _ c :: k => .inLoop c :: SI.erase k
def exitS (i : Nat) : List SI → Option (List SI)
  | [] => none
  | .inBlock j :: k => match Nat.beq i j with | true => some k | false => exitS i k
  | _ :: k => exitS i k
def Cut.tys (c : Cut) : List Ty := c.sl.map (·.2)
def Cut.vals (c : Cut) (e : Env) : Option (List Value) := e.evs (c.sl.map fun p => .tmp p.1)
def Cut.env (c : Cut) (vs : List Value) (base : Env) : Env :=
  ((c.sl.map (·.1)).zip vs).map (fun p => Ent.w p.1 p.2) ++ (c.hs.map (fun p => Ent.h p.1 p.2) ++ base)
/-- Only slots of the cut were written since. -/
def Cut.covers (c : Cut) : Ent → Bool
  | .w t _ => c.sl.any (fun p => Nat.beq p.1 t) || c.hs.any (fun p => Nat.ble p.1 t && Nat.ble (t + 1) p.2)
  | .h lo hi => c.hs.any fun p => Nat.ble p.1 lo && Nat.ble hi p.2
def newOf (e base : Env) : Env := e.take (e.length - base.length)
def leaf (c : Cut) (base : Env) (J : List Value → World → Prop) (e : Env) (w : World) : Prop := match c.vals e with
  | none => False
  | some vs => match (newOf e base).all c.covers with
    | true => J vs w
    | false => False
def atK (tys : List Ty) (J : Tys.Fun tys (World → Prop)) (vs : List Value) (w : World) : Prop := match Tys.app tys J vs with
  | some f => f w
  | none => False
def atM (tys : List Ty) (m : Tys.Fun tys (World → Nat)) (vs : List Value) (w : World) : Nat := match Tys.app tys m vs with
  | some f => f w
  | none => 0
def retVals (P : Program) (e : Env) (w : World) : List ResultVar → List Value → (List Value → Prop) → Prop
  | [], acc, K => K acc.reverse
  | .tmp t :: r, acc, K => match e.get t with
    | some v => retVals P e w r (v :: acc) K
    | none => False
  | .cell a t :: r, acc, K => match e.get a, tyOf P t with
    | some (.pointer (some a)), some ty => LdT ty w a fun v => retVals P e w r (v :: acc) K
    | _, _ => False
def vcRet (P : Program) (fn : Func) (R : Ending → World → Prop) (e : Env) (w : World) : Prop :=
  retVals P e w fn.results.toList [] fun vs => R (.returned (match vs with | [v] => v | vs => .tuple vs.toArray)) w
def vc (P : Program) (fn : Func) (pl : Plan) (R : Ending → World → Prop) : Nat → List SI → Env → World → Prop
  | 0, _, _, _ => False
  | _ + 1, [], e, w => vcRet P fn R e w
  | f + 1, .inBlock _ :: k, e, w => vc P fn pl R f k e w
  | _ + 1, .join c base J :: _, e, w => leaf c base J e w
  | _ + 1, .lp c base J _ :: _, e, w => leaf c base J e w
  | f + 1, .code c :: k, e, w => match c with
    | .skip => vc P fn pl R f k e w
    | .label _ => vc P fn pl R f k e w
    | .seq a b => match look pl.joins (firstR b) with
      | none => vc P fn pl R f (.code a :: .code b :: k) e w
      | some cut => ∃ J : Tys.Fun cut.tys (World → Prop),
          Tys.all cut.tys (fun vs => ∀ w', atK cut.tys J vs w' → vc P fn pl R f (.code b :: k) (cut.env vs e) w') ∧
          vc P fn pl R f (.code a :: .join cut e (atK cut.tys J) :: .code b :: k) e w
    | .cond c t el => match e.ev c with
      | some (.bool b) => Br b (vc P fn pl R f (.code t :: k) e w) (vc P fn pl R f (.code el :: k) e w)
      | _ => False
    | .block i c => vc P fn pl R f (.code c :: .inBlock i :: k) e w
    | .loop c => match look pl.loops (firstR c) with
      | none => False
      | some cut => match cut.vals e with
        | none => False
        | some vs => ∃ (I : Tys.Fun cut.tys (World → Prop)) (m : Tys.Fun cut.tys (World → Nat)), atK cut.tys I vs w ∧
          Tys.all cut.tys (fun vs => ∀ w', atK cut.tys I vs w' →
            vc P fn pl R f (.code c :: .lp cut e (fun vs' w'' => atK cut.tys I vs' w'' ∧ atM cut.tys m vs' w'' < atM cut.tys m vs w') c :: k) (cut.env vs e) w')
    | .exit i => match exitS i k with
      | some k' => vc P fn pl R f k' e w
      | none => False
    | .ret => vcRet P fn R e w
    | .region id ops draw => vcRegion P R pl.fl pl.n id ops draw e w fun e' w' => vc P fn pl R f k e' w'
    | _ => False

def bodyOf (fn : Func) : Code := match fn.body with | some c => c | none => .skip
def argEnv : Nat → List Value → Env
  | _, [] => []
  | i, v :: vs => .w i v :: argEnv (i + 1) vs
end Go.Vc
