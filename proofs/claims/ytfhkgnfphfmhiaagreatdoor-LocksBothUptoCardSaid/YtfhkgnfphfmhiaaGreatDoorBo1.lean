/- LocksBoth: the least mode that is both does not hang on the order or on brackets, and what fits with both fits with each. -/
import Derived.BigQuiet
import Derived.OrdersHeld
import Derived.KernelRfl
import Derived.Laws.StructEq
import Derived.Laws.Cells
import Derived.Below
import Derived.IntWalk
import Derived.Test.YtfhkgnfphfmhiaaGreatDoorProg
import Derived.WalkKit
import Derived.Lib.Hide
import Derived.Deep.Draws
import Derived.Deep.QuietTactic
import Derived.Deep.RegionHeld3
import Derived.Maps.AppendAt
import Derived.Laws.OwnMore
import Derived.WalkSmall
import Derived.Laws.CopyRow
import Derived.Laws.Append
/- The rules of a walk through a function's code, by what is still to do. -/
namespace Go.Vc
open Go

/-- The frame of function f, from which a walk takes no more than the function's number. -/
def fr0 (f : FuncId) : Frame := { (default : Frame) with fn := f, kind := .normal }

/-- From here on, with this still to do, the function comes to an end as R says. -/
def Wk (P : Program) (f : FuncId) (k : List Item) (a : Act) (w : World) (R : Ending → World → Prop) : Prop :=
  ∀ cs : List Frame, ∃ e w' fr, R e w' ∧ Comes P (lone ((fr0 f).at a k) cs w) (lone fr cs w') e ∧ fr.fn = f ∧ fr.leaving P w' e

section
variable {P : Program} {f : FuncId} {k k' : List Item} {a a' : Act} {w w' : World} {R : Ending → World → Prop}

theorem Wk.steps (hs : ∀ cs, Steps P (lone ((fr0 f).at a k) cs w) (lone ((fr0 f).at a' k') cs w')) (h : Wk P f k' a' w' R) : Wk P f k a w R := by
  intro cs
  obtain ⟨e, w1, fr, h1, h2, h3, h4⟩ := h cs
  exact ⟨e, w1, fr, h1, Comes.of_steps (hs cs) h2, h3, h4⟩

theorem Wk.step (hs : ∀ cs, Go.step P (lone ((fr0 f).at a k) cs w) = .next (lone ((fr0 f).at a' k') cs w')) (h : Wk P f k' a' w' R) : Wk P f k a w R :=
  Wk.steps (fun cs => .one (hs cs)) h

theorem wk_skip (h : Wk P f k a w R) : Wk P f (.code .skip :: k) a w R := Wk.step (fun _ => step_skip) h
theorem wk_label {l : Nat} (h : Wk P f k a w R) : Wk P f (.code (.label l) :: k) a w R := Wk.step (fun _ => step_label) h
theorem wk_inBlock {i : Nat} (h : Wk P f k a w R) : Wk P f (.inBlock i :: k) a w R := Wk.step (fun _ => step_inBlock) h
theorem wk_seq {x y : Code} (h : Wk P f (.code x :: .code y :: k) a w R) : Wk P f (.code (.seq x y) :: k) a w R := Wk.step (fun _ => step_seq) h
theorem wk_cond {c : Operand} {x y : Code} {t : Bool} (hc : a.eval c = .bool t) (h : Wk P f (.code (if t then x else y) :: k) a w R) : Wk P f (.code (.cond c x y) :: k) a w R :=
  Wk.step (fun _ => step_cond hc) h
theorem wk_block {i : Nat} {c : Code} (h : Wk P f (.code c :: .inBlock i :: k) a w R) : Wk P f (.code (.block i c) :: k) a w R := Wk.step (fun _ => step_block) h
theorem wk_loop {c : Code} (h : Wk P f (.code c :: .inLoop c :: k) a w R) : Wk P f (.code (.loop c) :: k) a w R := Wk.step (fun _ => step_loop) h
theorem wk_inLoop {c : Code} (h : Wk P f (.code c :: .inLoop c :: k) a w R) : Wk P f (.inLoop c :: k) a w R := Wk.step (fun _ => step_inLoop) h
theorem wk_exit {i : Nat} (hk : exitTo i k = some k') (h : Wk P f k' a w R) : Wk P f (.code (.exit i) :: k) a w R := Wk.step (fun _ => step_exit hk) h

theorem wk_ret {fn : Func} {v : Value} (hf : P.funcs[f]? = some fn) (hd : a.defers = []) (hr : (results fn a.tmps).run P w = .ok v w) (h : R (.returned v) w) :
    Wk P f (.code .ret :: k) a w R := fun _ =>
  ⟨.returned v, w, _, h, Steps.one step_ret, rfl, rfl, hd, rfl, fn, hf, hr⟩

theorem wk_end {fn : Func} {v : Value} (hf : P.funcs[f]? = some fn) (hd : a.defers = []) (hr : (results fn a.tmps).run P w = .ok v w) (h : R (.returned v) w) :
    Wk P f [] a w R := fun _ =>
  ⟨.returned v, w, _, h, Steps.one step_end, rfl, rfl, hd, rfl, fn, hf, hr⟩

/-- What is asked behind a region. -/
def behind (P : Program) (f : FuncId) (k : List Item) (R : Ending → World → Prop) : Exit → Act → World → Prop
  | .normal, a, w => Wk P f k a w R
  | .panic ch, a, w => a.defers = [] ∧ R (.panicked ch) w
  | .outgrown, _, w => R .outgrown w
  | _, _, _ => False

theorem wk_of_wp {fn : Func} {c : Code} (hf : P.funcs[f]? = some fn) (h : c.wp P (behind P f k R) a w) : Wk P f (.code c :: k) a w R := by
  intro cs
  obtain ⟨e, a', w', hq, harr⟩ := h (fr0 f) k cs
  cases e with
  | normal =>
    obtain ⟨e, w1, fr, h1, h2, h3, h4⟩ := hq cs
    exact ⟨e, w1, fr, h1, Comes.of_steps harr h2, h3, h4⟩
  | ret => exact hq.elim
  | panic ch =>
    obtain ⟨hd, hR⟩ := hq
    obtain ⟨todo, hs⟩ := harr
    exact ⟨.panicked ch, w', _, hR, hs, rfl, rfl, hd, fn, hf⟩
  | exit i => exact hq.elim
  | goto l => exact hq.elim
  | outgrown => exact ⟨.outgrown, w', fr0 f, hq, harr.resolve_left (by simp [fr0]), rfl, trivial⟩

theorem calls_of_wk {fn : Func} {c : Code} {args : Array Value} (hf : P.funcs[f]? = some fn) (hb : fn.body = some c)
    (h : Wk P f [.code c] { tmps := args ++ Array.replicate (fn.ntmps - args.size) undef, defers := [] } w R) : Calls P f args w R := by
  intro cs
  have henter : Frame.enter P f args .normal =
      (fr0 f).at { tmps := args ++ Array.replicate (fn.ntmps - args.size) undef, defers := [] } [.code c] := by
    simp [Frame.enter, Frame.at, hf, hb, fr0]
  rw [henter]
  exact h cs
end
end Go.Vc
/- What is to be shown of a function's code: reckoned from the code by 'vc'. -/

namespace Go.Vc
open Go

/-! ### Kinds of values -/
inductive STy where
  | int (k : IntKind) | bool | str | ptr | addr | slice | map | any
inductive Ty where
  | s (t : STy)
  | agg (ts : List STy)
def STy.Fun : STy → Type → Type
  | .int _, α => Int → α
  | .bool, α => Bool → α
  | .str, α => ByteArray → α
  | .ptr, α => Option Addr → α
  | .addr, α => Addr → α
  | .slice, α => Option Addr → Nat → Nat → α
  | .map, α => Option Nat → α
  | .any, α => Value → α
def STys.Fun : List STy → Type → Type
  | [], α => α
  | t :: ts, α => t.Fun (STys.Fun ts α)
def Ty.Fun : Ty → Type → Type
  | .s t, α => t.Fun α
  | .agg ts, α => STys.Fun ts α
def Tys.Fun : List Ty → Type → Type
  | [], α => α
  | t :: ts, α => t.Fun (Tys.Fun ts α)

def IntKind.same : IntKind → IntKind → Bool
  | .i8, .i8 | .i16, .i16 | .i32, .i32 | .i64, .i64 | .u8, .u8 | .u16, .u16 | .u32, .u32 | .u64, .u64 => true
  | _, _ => false

/-- A function of a value of a kind, at a value. -/
def STy.app {α : Type} : (t : STy) → t.Fun α → Value → Option α
  | .int k, f, .int k' n => match IntKind.same k k' with | true => some (f n) | false => none
  | .bool, f, .bool b => some (f b)
  | .str, f, .string s => some (f s)
  | .ptr, f, .pointer p => some (f p)
  | .addr, f, .pointer p => match p with | some a => some (f a) | none => none
  | .slice, f, .slice p n c => some (f p n c)
  | .map, f, .map r => some (f r)
  | .any, f, v => some (f v)
  | _, _, _ => none
def STys.app {α : Type} : (ts : List STy) → STys.Fun ts α → List Value → Option α
  | [], f, [] => some f
  | t :: ts, f, v :: vs => match t.app f v with | some g => STys.app ts g vs | none => none
  | _, _, _ => none
def Ty.app {α : Type} : (t : Ty) → t.Fun α → Value → Option α
  | .s t, f, v => t.app f v
  | .agg ts, f, .agg cs => STys.app ts f cs.toList
  | _, _, _ => none
def Tys.app {α : Type} : (ts : List Ty) → Tys.Fun ts α → List Value → Option α
  | [], f, [] => some f
  | t :: ts, f, v :: vs => match t.app f v with | some g => Tys.app ts g vs | none => none
  | _, _, _ => none

/-- For all values of a kind. -/
def STy.all (t : STy) (P : Value → Prop) : Prop := match t with
  | .int k => ∀ n : Int, P (.int k n)
  | .bool => ∀ b : Bool, P (.bool b)
  | .str => ∀ s : ByteArray, P (.string s)
  | .ptr => ∀ p : Option Addr, P (.pointer p)
  | .addr => ∀ a : Addr, P (.pointer (some a))
  | .slice => ∀ (p : Option Addr) (n c : Nat), P (.slice p n c)
  | .map => ∀ r : Option Nat, P (.map r)
  | .any => ∀ v : Value, P v
def STys.all : List STy → (List Value → Prop) → Prop
  | [], P => P []
  | t :: ts, P => t.all fun v => STys.all ts fun vs => P (v :: vs)
def Ty.all : Ty → (Value → Prop) → Prop
  | .s t, P => t.all P
  | .agg ts, P => STys.all ts fun vs => P (.agg vs.toArray)
def Tys.all : List Ty → (List Value → Prop) → Prop
  | [], P => P []
  | t :: ts, P => t.all fun v => Tys.all ts fun vs => P (v :: vs)

/-- There is a value of a kind. -/
def STy.ex (t : STy) (P : Value → Prop) : Prop := match t with
  | .int k => ∃ n : Int, P (.int k n)
  | .bool => ∃ b : Bool, P (.bool b)
  | .str => ∃ s : ByteArray, P (.string s)
  | .ptr => ∃ p : Option Addr, P (.pointer p)
  | .addr => ∃ a : Addr, P (.pointer (some a))
  | .slice => ∃ (p : Option Addr) (n c : Nat), P (.slice p n c)
  | .map => ∃ r : Option Nat, P (.map r)
  | .any => ∃ v : Value, P v
def STys.ex : List STy → (List Value → Prop) → Prop
  | [], P => P []
  | t :: ts, P => t.ex fun v => STys.ex ts fun vs => P (v :: vs)
def Ty.ex : Ty → (Value → Prop) → Prop
  | .s t, P => t.ex P
  | .agg ts, P => STys.ex ts fun vs => P (.agg vs.toArray)
def Tys.ex : List Ty → (List Value → Prop) → Prop
  | [], P => P []
  | t :: ts, P => t.ex fun v => Tys.ex ts fun vs => P (v :: vs)

/-- The kind of a type. -/
def styOf (P : Program) (t : TypeId) : Option STy := match P.underlying t with
  | some (.int k) => some (.int k)
  | some .bool => some .bool
  | some .string => some .str
  | some (.pointer _) => some .ptr
  | some (.slice _) => some .slice
  | some (.map _ _) => some .map
  | some (.func _ _ _) => some .any
  | some (.interface _) => some .any
  | _ => none
def repL (n : Nat) (l : List STy) : List STy := n.rec [] fun _ r => l ++ r
def stysOf (P : Program) : Nat → TypeId → Option (List STy)
  | 0, _ => none
  | d + 1, t => match P.underlying t with
    | some (.struct fs) => fs.toList.foldr (fun f r => match stysOf P d f.type, r with | some a, some b => some (a ++ b) | _, _ => none) (some [])
    | some (.array n e) => match stysOf P d e with | some l => some (repL n l) | none => none
    | _ => match styOf P t with | some s => some [s] | none => none
def isAggT (P : Program) (t : TypeId) : Bool := match P.underlying t with
  | some (.struct _) => true
  | some (.array _ _) => true
  | _ => false
def sizeT (P : Program) (t : TypeId) : Option Nat := match P.info? t with | some i => some i.size | none => none
def tyOf (P : Program) (t : TypeId) : Option Ty := match isAggT P t with
  | true => match stysOf P 8 t, sizeT P t with
    | some l, some n => match Nat.beq l.length n with | true => some (.agg l) | false => none
    | _, _ => none
  | false => match styOf P t with | some s => some (.s s) | none => none
def tysOf (P : Program) : List TypeId → Option (List Ty)
  | [] => some []
  | t :: ts => match tyOf P t, tysOf P ts with | some a, some b => some (a :: b) | _, _ => none
def bytesT (P : Program) (t : TypeId) : Option Nat := match P.info? t with | some i => some i.bytes | none => none
def zeroT (P : Program) (t : TypeId) : Option Value := match P.info? t with | some i => i.zero | none => none

/-! ### What the slots hold -/
inductive Ent where
  | w (t : Nat) (v : Value)
  | h (lo hi : Nat)
abbrev Env := List Ent
def Env.get : Env → Nat → Option Value
  | [], _ => none
  | .w t v :: r, s => match Nat.beq t s with | true => some v | false => Env.get r s
  | .h lo hi :: r, s => match Nat.ble lo s with
    | true => match Nat.ble (s + 1) hi with | true => none | false => Env.get r s
    | false => Env.get r s
def Env.ev (e : Env) : Operand → Option Value
  | .tmp t => e.get t
  | .const v => some v
  | .global g => some (.pointer (some ⟨g, 0, none⟩))
  | .func f => some (.func (.func f) #[] #[])
def Env.evD (e : Env) (x : Operand) : Value := match e.ev x with | some v => v | none => undef
def Env.known (e : Env) (xs : List Operand) : Bool := xs.all fun x => (e.ev x).isSome
def Env.put (e : Env) : Option Tmp → Value → Env
  | none, _ => e
  | some d, v => .w d v :: e
def Env.evs (e : Env) : List Operand → Option (List Value)
  | [] => some []
  | x :: xs => match e.ev x, e.evs xs with | some v, some vs => some (v :: vs) | _, _ => none

/-! ### Words -/
/-- A branch. -/
def Br (b : Bool) (X Y : Prop) : Prop := match b with | true => X | false => Y
/-- In a kind's range. -/
def InR (k : IntKind) (n : Int) : Prop := k.min ≤ n ∧ n ≤ k.max
def NonNil (p : Option Addr) (K : Addr → Prop) : Prop := match p with | some a => K a | none => False
def LdI (k : IntKind) (c : Option Value) (K : Int → Prop) : Prop := ∃ n, c = some (.int k n) ∧ K n
def LdB (c : Option Value) (K : Bool → Prop) : Prop := ∃ b, c = some (.bool b) ∧ K b
def LdStr (c : Option Value) (K : ByteArray → Prop) : Prop := ∃ s, c = some (.string s) ∧ K s
def LdP (c : Option Value) (K : Option Addr → Prop) : Prop := ∃ p, c = some (.pointer p) ∧ K p
def LdSl (c : Option Value) (K : Option Addr → Nat → Nat → Prop) : Prop := ∃ p n m, c = some (.slice p n m) ∧ K p n m
def LdM (c : Option Value) (K : Option Nat → Prop) : Prop := ∃ r, c = some (.map r) ∧ K r
def LdV (c : Option Value) (K : Value → Prop) : Prop := ∃ v, c = some v ∧ K v
def LdS (t : STy) (c : Option Value) (K : Value → Prop) : Prop := match t with
  | .int k => LdI k c fun n => K (.int k n)
  | .bool => LdB c fun b => K (.bool b)
  | .str => LdStr c fun s => K (.string s)
  | .ptr => LdP c fun p => K (.pointer p)
  | .addr => ∃ a, c = some (.pointer (some a)) ∧ K (.pointer (some a))
  | .slice => LdSl c fun p n m => K (.slice p n m)
  | .map => LdM c fun r => K (.map r)
  | .any => LdV c fun v => K v
def LdCells (w : World) (a : Addr) : List STy → Nat → List Value → (List Value → Prop) → Prop
  | [], _, acc, K => K acc.reverse
  | t :: ts, i, acc, K => LdS t (w.cell? (a.add i)) fun v => LdCells w a ts (i + 1) (v :: acc) K
def LdT (t : Ty) (w : World) (a : Addr) (K : Value → Prop) : Prop := match t with
  | .s t => LdS t (w.cell? a) K
  | .agg ts => LdCells w a ts 0 [] fun vs => K (.agg vs.toArray)
/-- In all worlds of a class. -/
def Held (S : World → Prop) (a : Addr) (v : Value) : Prop := ∀ w, S w → w.cell? a = some v
def HdS (t : STy) (S : World → Prop) (a : Addr) (K : Value → Prop) : Prop := t.ex fun v => Held S a v ∧ K v
def HdCells (S : World → Prop) (a : Addr) : List STy → Nat → List Value → (List Value → Prop) → Prop
  | [], _, acc, K => K acc.reverse
  | t :: ts, i, acc, K => HdS t S (a.add i) fun v => HdCells S a ts (i + 1) (v :: acc) K
def HdT (t : Ty) (S : World → Prop) (a : Addr) (K : Value → Prop) : Prop := match t with
  | .s t => HdS t S a K
  | .agg ts => HdCells S a ts 0 [] fun vs => K (.agg vs.toArray)
/-- A store. -/
def St (w : World) (a : Addr) (v : Value) (K : World → Prop) : Prop := (∃ old, w.cell? a = some old) ∧ w.frozen? a = false ∧ K (w.setCell a v)
/-- Only a value of one cell. -/
def oneC (v : Value) (X : Prop) : Prop := match v with | .agg _ => False | .tuple _ => False | _ => X
def StCells (a : Addr) : World → List Value → Nat → (World → Prop) → Prop
  | w, [], _, K => K w
  | w, v :: vs, i, K => oneC v (St w (a.add i) v fun w' => StCells a w' vs (i + 1) K)
def IdxA (p : Option Addr) (n : Nat) (i : Int) (sz : Nat) (K : Addr → Prop) : Prop := match p with
  | some a => 0 ≤ i ∧ i < n ∧ K (a.add (i.toNat * sz))
  | none => False
def IdxR (a : Addr) (n : Nat) (i : Int) (sz : Nat) (K : Addr → Prop) : Prop := 0 ≤ i ∧ i < n ∧ K (a.add (i.toNat * sz))
def IdxS (s : ByteArray) (i : Int) (K : Int → Prop) : Prop := 0 ≤ i ∧ ∃ b, s[i.toNat]? = some b ∧ K b.toNat
def SlA (p : Option Addr) (m l sz : Nat) : Option Addr := if m = l then p else p.map fun a => a.add (l * sz)
def SlB (l h m : Int) (K : Prop) : Prop := 0 ≤ l ∧ l ≤ h ∧ h ≤ m ∧ K
def zrow (z : Array Value) (n : Nat) : Array Value := (Array.range n).map (z[· % z.size]!)
/-- Two addresses that may be compared. -/
def PtrOk (w : World) (p q : Option Addr) : Prop := ∀ a b, p = some a → q = some b → a.block ≠ b.block →
  (∃ c t, w.heap[a.block]? = some (.cells c t (0, 0))) ∧ (∃ c t, w.heap[b.block]? = some (.cells c t (0, 0)))
def nilF (v : Value) (K : Bool → Prop) : Prop := match v with
  | .nilFunc => K true
  | .func _ _ _ => K false
  | _ => False
def nilI (v : Value) (K : Bool → Prop) : Prop := match v with
  | .nilIface => K true
  | .iface _ _ => K false
  | _ => False
/-- A new variable. -/
def Al (w : World) (c : Array Value) (t : TypeId) (K : Addr → World → Prop) : Prop := K ⟨w.heap.size, 0, none⟩ (w.alloc (.cells c t))
def AlM (w : World) (K : Nat → World → Prop) : Prop := K w.heap.size (w.alloc (.map #[] 0))
def Dr (w : World) (K : World → Prop) : Prop := K w.drew
def bAnd (k : IntKind) (x y : Int) : Int := k.wrap (BitVec.ofInt k.bits x &&& BitVec.ofInt k.bits y).toNat
def bOr (k : IntKind) (x y : Int) : Int := k.wrap (BitVec.ofInt k.bits x ||| BitVec.ofInt k.bits y).toNat
/-- What a call hands on. -/
def post (R : Ending → World → Prop) (K : Value → World → Prop) : Ending → World → Prop
  | .returned v, w => K v w
  | .panicked ch, w => R (.panicked ch) w
  | .outgrown, w => R .outgrown w
def okF (P : Program) (f : FuncId) : Bool := match P.funcs[f]? with
  | some fn => fn.body.isSome && !(fn.name == "runtime.NumGoroutine")
  | none => false
/-- A call of a function value. -/
def CallV (P : Program) (v : Value) (args : Array Value) (w : World) (R : Ending → World → Prop) (K : Value → World → Prop) : Prop := match v with
  | .func (.func f) first cap => okF P f = true ∧ Calls P f (first ++ args ++ cap) w (post R K)
  | _ => False
/-- A call of a function without a body: what the model's own row for it answers. -/
def ByRow (P : Program) (f : FuncId) (args : Array Value) (w : World) (K : Value → World → Prop) : Prop := ∃ v w', (callFunc f args).run P w = .ok (.value v) w' ∧ K v w'
/-- A call of a method by its name, of whatever an interface value holds. -/
def CallM (P : Program) (v : Value) (name : String) (args : Array Value) (w : World) (R : Ending → World → Prop) (K : Value → World → Prop) : Prop :=
  ∃ f args', (callMethod v name args).run P w = .ok (.enter f args') w ∧ Calls P f args' w (post R K)
/-- An operation of the machine as it is. -/
def Raw {α : Type} (P : Program) (s : Sem α) (w : World) (K : α → World → Prop) : Prop := ∃ v w', s.run P w = .ok v w' ∧ K v w'

def pure? {α : Type} (P : Program) : Sem α → Option α
  | .pure a => some a
  | .program k => pure? P (k P)
  | .mark _ k => pure? P k
  | _ => none

/-! ### One operation that looks at no world -/
/-- Is this a number that is not 0, for sure? -/
def surely0 (y : Operand) (b : Int) (X : Prop) : Prop := match y with
  | .const _ => match (match b with | .ofNat n => Nat.beq n 0 | .negSucc _ => false) with | true => False | false => X
  | _ => b ≠ 0 ∧ X
def surelyPos (y : Operand) (b : Int) (X : Prop) : Prop := match y with
  | .const _ => match b with | .ofNat _ => X | .negSucc _ => False
  | _ => 0 ≤ b ∧ X
def num (ex : Bool) (k : IntKind) (n : Int) (K : Value → Prop) : Prop := match ex with
  | true => InR k n ∧ K (.int k n)
  | false => K (.int k (k.wrap n))
def isNil : Operand → Bool
  | .const (.pointer none) => true
  | .const (.slice none _ _) => true
  | .const (.map none) => true
  | .const .nilFunc => true
  | .const .nilIface => true
  | _ => false
def isSel : Op → Bool
  | .select _ _ => true
  | _ => false
def general (P : Program) (o : Oper) (e : Env) (K : Value → Prop) : Prop :=
  match e.known o.op.operands.toList && !isSel o.op with
  | true => match pure? P (execOp e.evD o) with
    | some (.value v) => K v
    | _ => False
  | false => False
def binI (P : Program) (ex : Bool) (o : Oper) (e : Env) (op : BinOp) (y : Operand) (k : IntKind) (a b : Int) (K : Value → Prop) : Prop := match op with
  | .add => num ex k (a + b) K
  | .sub => num ex k (a - b) K
  | .mul => num ex k (a * b) K
  | .quo => surely0 y b (num ex k (a.tdiv b) K)
  | .rem => surely0 y b (K (.int k (a.tmod b)))
  | _ => general P o e K
def shI (ex : Bool) (op : BinOp) (y : Operand) (k : IntKind) (a b : Int) (K : Value → Prop) : Prop := match op with
  | .shl => surelyPos y b (num ex k (a * 2 ^ (min b.toNat k.bits)) K)
  | .shr => surelyPos y b (K (.int k (a.fdiv (2 ^ (min b.toNat k.bits)))))
  | _ => False
def eqB (op : BinOp) (b : Bool) (K : Value → Prop) : Prop := match op with
  | .eql => K (.bool b)
  | .neq => K (.bool !b)
  | _ => False
def eqNil (d : TypeDesc) (c : Operand) (op : BinOp) (v : Value) (K : Value → Prop) : Prop := match d with
  | .pointer _ => match c, v with | .const (.pointer none), .pointer p => eqB op p.isNone K | _, _ => False
  | .slice _ => match c, v with | .const (.slice none _ _), .slice p _ _ => eqB op p.isNone K | _, _ => False
  | .map _ _ => match c, v with | .const (.map none), .map r => eqB op r.isNone K | _, _ => False
  | .func _ _ _ => match c with | .const .nilFunc => nilF v fun b => eqB op b K | _ => False
  | .interface _ => match c with | .const .nilIface => nilI v fun b => eqB op b K | _ => False
  | _ => False
def wInt (v : Option Value) (F : IntKind → Int → Prop) : Prop := match v with | some (.int k n) => F k n | _ => False
def bound (v : Option (Option Value)) (d : Int) (F : Int → Prop) : Prop := match v with
  | none => F d
  | some (some (.int _ n)) => F n
  | _ => False

/-- Are two structs the same? Of numbers (0), strings (1) and bools (2). -/
def eqL : List Nat → List Value → List Value → Option Bool
  | [], [], [] => some true
  | 0 :: ks, .int k a :: xs, .int k' b :: ys => match IntKind.same k k', eqL ks xs ys with | true, some r => some ((a == b) && r) | _, _ => none
  | 1 :: ks, .string a :: xs, .string b :: ys => match eqL ks xs ys with | some r => some ((a == b) && r) | none => none
  | 2 :: ks, .bool a :: xs, .bool b :: ys => match eqL ks xs ys with | some r => some ((a == b) && r) | none => none
  | _, _, _ => none
/-- Of numbers, strings and bools only, one behind the other: which. -/
def flatFs (rec : TypeId → Option (List Nat)) : List Field → Nat → Option (List Nat)
  | [], _ => some []
  | f :: fs, i => match Nat.beq f.offset i && !(f.name == "_") with
    | true => match rec f.type with
      | some (c :: n) => match flatFs rec fs (i + (c :: n).length) with | some r => some ((c :: n) ++ r) | none => none
      | _ => none
    | false => none
def flatT (P : Program) : Nat → TypeId → Option (List Nat)
  | 0, _ => none
  | d + 1, t => match P.underlying t, sizeT P t with
    | some (.struct fs), some sz => match P.stoodInHeld t with
      | true => none
      | false => match flatFs (flatT P d) fs.toList 0 with
        | some n => match Nat.beq n.length sz with | true => some n | false => none
        | none => none
    | some (.int _), some 1 => some [0]
    | some .string, some 1 => some [1]
    | some .bool, some 1 => some [2]
    | _, _ => none

def vcPure (P : Program) (ex : Bool) (o : Oper) (e : Env) (K : Value → Prop) : Prop := match o.op with
  | .move x => match e.ev x with | some v => K v | none => False
  | .assign x => match e.ev x with | some v => K v | none => False
  | .pick c a b => match e.ev c, e.ev a, e.ev b with
    | some (.bool c), some a, some b => Br c (K a) (K b)
    | _, _, _ => False
  | .nilCheck x => match e.ev x with
    | some (.pointer p) => NonNil p fun a => K (.pointer (some a))
    | _ => general P o e K
  | .indexAddr t x i => match e.ev x, e.ev i with
    | some (.slice p n _), some (.int _ i) => match P.underlying t with
      | some (.slice el) => match sizeT P el with | some sz => IdxA p n i sz fun a => K (.pointer (some a)) | none => False
      | _ => False
    | some (.pointer (some a)), some (.int _ i) => match P.underlying t with
      | some (.array n el) => match Nat.ble n 1 with
        | true => False
        | false => match sizeT P el with | some sz => IdxR a n i sz fun a => K (.pointer (some a)) | none => False
      | _ => False
    | _, _ => False
  | .index t x i => match e.ev x, e.ev i with
    | some (.string s), some (.int _ i) => match P.underlying t with
      | some .string => IdxS s i fun n => K (.int .u8 n)
      | _ => False
    | _, _ => False
  | .slice t x lo hi none => match e.ev x with
    | some (.string s) => match P.underlying t with
      | some .string => bound (lo.map e.ev) 0 fun l => bound (hi.map e.ev) s.size fun h => SlB l h s.size (K (.string (s.extract l.toNat h.toNat)))
      | _ => False
    | some (.slice p n c) => match P.underlying t with
      | some (.slice el) => match sizeT P el with
        | some sz => match lo with
          | none => bound (hi.map e.ev) n fun h => SlB 0 h c (K (.slice p h.toNat c))
          | some lo => bound (some (e.ev lo)) 0 fun l => bound (hi.map e.ev) n fun h => SlB l h c (K (.slice (SlA p c l.toNat sz) (h.toNat - l.toNat) (c - l.toNat)))
        | none => False
      | _ => False
    | _ => False
  | .slice t x (some lo) (some hi) (some mx) => match e.ev x with
    | some (.slice p _ c) => match P.underlying t with
      | some (.slice el) => match sizeT P el with
        | some sz => wInt (e.ev lo) fun _ l => wInt (e.ev hi) fun _ h => wInt (e.ev mx) fun _ m => SlB l h m (m ≤ c ∧ K (.slice (SlA p m.toNat l.toNat sz) (h.toNat - l.toNat) (m.toNat - l.toNat)))
        | none => False
      | _ => False
    | _ => False
  | .binOp op t x y _ => match e.ev x, e.ev y with
    | some (.int k a), some (.int k' b) => match op with
      | .shl => shI ex op y k a b K
      | .shr => shI ex op y k a b K
      | _ => match IntKind.same k k' with | true => binI P ex o e op y k a b K | false => False
    | some (.string a), some (.string b) => match op with
      | .add => ((a.size + b.size : Nat) : Int) ≤ 9223372036854775807 ∧ K (.string (a ++ b))
      | _ => general P o e K
    | some (.bool _), some (.bool _) => general P o e K
    | some (.agg xs), some (.agg ys) => match isAggT P t, flatT P 8 t, P.eqGuardType P.depth t with
      | true, some ks, false => match eqL ks xs.toList ys.toList with
        | some r => eqB op r K
        | none => False
      | _, _, _ => False
    | some v, some u => match isNil y with
      | true => match P.underlying t with
        | some d => eqNil d y op v K
        | none => False
      | false => match isNil x with
        | true => match P.underlying t with
          | some d => eqNil d x op u K
          | none => False
        | false => general P o e K
    | _, _ => False
  | .convert src dst x => match e.ev x with
    | some (.int _ n) => match P.underlying dst, P.underlying src with
      | some (.int k), some _ => num ex k n K
      | _, _ => general P o e K
    | some (.string s) => match P.underlying dst, P.underlying src with
      | some .string, some _ => K (.string s)
      | _, _ => False
    | _ => general P o e K
  | _ => general P o e K

/-! ### One operation -/
def callK (P : Program) (_R : Ending → World → Prop) (t : TypeId) (K : Value → World → Prop) : Option (Value → World → Prop) := match P.underlying t with
  | some (.tuple ts) => match tysOf P ts.toList with
    | some tys => some fun v w => Tys.ex tys fun vs => v = .tuple vs.toArray ∧ K v w
    | none => none
  | _ => match tyOf P t with
    | some ty => some fun v w => ty.ex fun u => v = u ∧ K u w
    | none => none
def tupK (P : Program) (t : TypeId) (K : Value → World → Prop) : Option (Value → World → Prop) := match P.underlying t with
  | some (.tuple ts) => match tysOf P ts.toList with
    | some tys => some fun v w => Tys.ex tys fun vs => v = .tuple vs.toArray ∧ K (.tuple vs.toArray) w
    | none => none
  | _ => match tyOf P t with
    | some ty => some fun v w => ty.ex fun u => v = u ∧ K u w
    | none => none
/-- The value of an operation of the machine, by its kind. -/
def rawK (P : Program) (t : TypeId) (s : Sem Value) (w : World) (K : Value → World → Prop) : Prop := match tupK P t K with
  | some K' => Raw P s w K'
  | none => False
def vcCall (P : Program) (R : Ending → World → Prop) (o : Oper) (c : Call) (e : Env) (w : World) (K : Value → World → Prop) : Prop := match c.callee with
  | .value (.func f) => match okF P f with
    | true => match e.evs c.args.toList, tupK P o.type K with
      | some vs, some K' => Calls P f vs.toArray w (post R K')
      | _, _ => False
    | false => match e.evs c.args.toList, tupK P o.type K with
      | some vs, some K' => ByRow P f vs.toArray w K'
      | _, _ => False
  | .value x => match e.ev x, e.evs c.args.toList, tupK P o.type K with
    | some v, some vs, some K' => CallV P v vs.toArray w R K'
    | _, _, _ => False
  | .invoke x name => match e.ev x, e.evs c.args.toList, tupK P o.type K with
    | some v, some vs, some K' => CallM P v name vs.toArray w R K'
    | _, _, _ => False
  | .builtin .append => match e.evs c.args.toList with
    | some vs => rawK P o.type (Builtin.append_ c.argTypes o.type vs.toArray) w K
    | none => False
  | .builtin .copy => match e.evs c.args.toList with
    | some vs => rawK P o.type (Builtin.copy_ c.argTypes o.type vs.toArray) w K
    | none => False
  | .builtin .delete => match e.evs c.args.toList with
    | some vs => Raw P (Builtin.delete_ c.argTypes o.type vs.toArray) w K
    | none => False
  | .builtin .clear => match e.evs c.args.toList with
    | some vs => Raw P (Builtin.clear_ c.argTypes o.type vs.toArray) w K
    | none => False
  | .builtin .len => match e.evs c.args.toList with
    | some [.map r] => rawK P o.type (Builtin.len_ c.argTypes o.type #[.map r]) w K
    | _ => general P o e fun v => K v w
  | .builtin .panic => match e.evs c.args.toList with
    | some [.iface t v] => R (.panicked [{ v := .iface t v, recovered := false }]) w
    | _ => False
  | .builtin .cap => general P o e fun v => K v w
  | .builtin .min => general P o e fun v => K v w
  | .builtin .max => general P o e fun v => K v w
  | _ => False
/-- Is this a call's callee that came in? -/
def ptrEq (P : Program) (op : BinOp) (t : TypeId) (p q : Option Addr) (w : World) (K : Value → World → Prop) : Prop := match P.underlying t with
  | some (.pointer el) => match sizeT P el with
    | some (_ + 1) => PtrOk w p q ∧ eqB op (decide (p = q)) fun v => K v w
    | _ => False
  | _ => False
def vcOp (P : Program) (R : Ending → World → Prop) (ex : Bool) (o : Oper) (e : Env) (w : World) (K : Value → World → Prop) : Prop := match o.op with
  | .alloc t => match zeroT P t with
    | some z => K (.pointer (some ⟨w.heap.size, 0, none⟩)) (w.alloc (.cells z.cells t))
    | none => False
  | .box t x => match e.ev x with
    | some v => K (.pointer (some ⟨w.heap.size, 0, none⟩)) (w.alloc (.cells v.cells t))
    | none => False
  | .buildSlice t len parts => match e.known (parts.toList.map (·.2)), P.underlying t with
    | true, some (.slice el) => match sizeT P el, zeroT P el with
      | some sz, some z => match Nat.ble (len * sz) 16777216, Instr.fill (fun i => some (i * sz, sz)) ((Array.range (len * sz)).map (z.cells[· % z.cells.size]!)) (parts.toList.map fun p => (p.1, e.evD p.2)) with
        | true, some cells => K (.slice (some ⟨w.heap.size, 0, none⟩) len len) (w.alloc (.cells cells el))
        | _, _ => False
      | _, _ => False
    | _, _ => False
  | .load t x => match e.ev x, tyOf P t with
    | some (.pointer (some a)), some ty => LdT ty w a fun v => K v w
    | _, _ => False
  | .store t x y => match e.ev x, e.ev y, sizeT P t with
    | some (.pointer (some a)), some v, some n => match Nat.beq v.cells.size n with
      | true => StCells a w v.cells.toList 0 fun w' => K undef w'
      | false => False
    | _, _, _ => False
  | .makeMap t r => match r with
    | none => K (.map (some w.heap.size)) (w.alloc (.map #[] 0))
    | some x => match e.ev x, P.underlying t with
      | some (.int _ _), some (.map _ _) => K (.map (some w.heap.size)) (w.alloc (.map #[] 0))
      | _, _ => False
  | .makeSlice t l c => match e.ev l, e.ev c, P.underlying t with
    | some (.int _ l), some (.int _ c), some (.slice el) => match sizeT P el, bytesT P el, zeroT P el with
      | some sz, some (by_ + 1), some z => 0 ≤ l ∧ l ≤ c ∧ ((by_ + 1 : Nat) : Int) * c ≤ 281474976710656 ∧
          K (.slice (some ⟨w.heap.size, 0, none⟩) l.toNat c.toNat) (w.alloc (.cells (zrow z.cells (c.toNat * sz)) el))
      | _, _, _ => False
    | _, _, _ => False
  | .binOp op t x y _ => match isNil x || isNil y with
    | true => vcPure P ex o e fun v => K v w
    | false => match e.ev x, e.ev y with
      | some (.pointer p), some (.pointer q) => ptrEq P op t p q w K
      | _, _ => vcPure P ex o e fun v => K v w
  | .convert src dst x => match e.ev x, P.underlying dst with
    | some (.string s), some (.slice _) => rawK P o.type (convert src dst (.string s)) w K
    | some (.slice p n c), some .string => rawK P o.type (convert src dst (.slice p n c)) w K
    | some (.slice p n c), some (.slice _) => rawK P o.type (convert src dst (.slice p n c)) w K
    | _, _ => vcPure P ex o e fun v => K v w
  | .lookup t m k ok => match e.ev m, e.ev k with
    | some m, some k => rawK P o.type (Instr.lookup t m k ok) w K
    | _, _ => False
  | .mapUpdate t m k x => match e.ev m, e.ev k, e.ev x with
    | some m, some k, some v => Raw P (Instr.mapUpdate t m k v) w fun _ w' => K undef w'
    | _, _, _ => False
  | .insert t m k x => match e.ev m, e.ev k, e.ev x with
    | some m, some k, some v => Raw P (Instr.mapUpdate t m k v) w fun _ w' => K undef w'
    | _, _, _ => False
  | .mapEntry t m k => match e.ev m, e.ev k with
    | some m, some k => rawK P o.type (Instr.mapEntry t m k) w K
    | _, _ => False
  | .entryStore t m s x => match e.ev m, e.ev s, e.ev x with
    | some m, some s, some v => Raw P (Instr.entryStore t m s v) w fun _ w' => K undef w'
    | _, _, _ => False
  | .range t x => match e.ev x with
    | some v => Raw P (Instr.range t v) w fun v w' => ∃ g, v = .pointer (some ⟨g, 0, none⟩) ∧ K (.pointer (some ⟨g, 0, none⟩)) w'
    | none => False
  | .next it s => match e.ev it with
    | some v => Raw P (Instr.next v s o.type) w fun v w' => (v = .tuple #[.bool false] ∧ K (.tuple #[.bool false]) w') ∨ (match tupK P o.type K with | some K' => K' v w' | none => False)
    | none => False
  | .entry it => match e.ev it with
    | some v => rawK P o.type (Instr.entry v) w K
    | none => False
  | .panic x => match e.ev x with
    | some (.iface t v) => R (.panicked [{ v := .iface t v, recovered := false }]) w
    | _ => False
  | .call c => vcCall P R o c e w K
  | _ => vcPure P ex o e fun v => K v w

/-- The kind of a part of an operation's answer, as it is taken out behind it. -/
def extrT (P : Program) (d j : Nat) : List Oper → Option Ty
  | [] => none
  | o :: l => match o.op with
    | .extract (.tmp d') j' => match Nat.beq d d' && Nat.beq j j' with
      | true => tyOf P o.type
      | false => extrT P d j l
    | _ => extrT P d j l
def exT (t : Option Ty) (F : Value → Prop) : Prop := match t with
  | none => ∃ v, F v
  | some t => t.ex F
/-- One operation, and those behind it: a range's step over a map, and its entry, have no type of their own. -/
def vcOpR (P : Program) (R : Ending → World → Prop) (ex : Bool) (o : Oper) (rest : List Oper) (e : Env) (w : World) (K : Value → World → Prop) : Prop := match o.op with
  | .next it false => match e.ev it with
    | some v => Raw P (Instr.next v false o.type) w fun v w' => (v = .tuple #[.bool false] ∧ K (.tuple #[.bool false]) w') ∨ ∃ k x, v = .tuple #[.bool true, k, x] ∧ K (.tuple #[.bool true, k, x]) w'
    | none => False
  | .entry it => match e.ev it, o.dst with
    | some v, some d => Raw P (Instr.entry v) w fun v w' => exT (extrT P d 0 rest) fun k => exT (extrT P d 1 rest) fun x => v = .tuple #[k, x] ∧ K (.tuple #[k, x]) w'
    | _, _ => False
  | _ => vcOp P R ex o e w K
/-! ### A region -/
structure Flags where
  wraps : List (Nat × Nat)
def Flags.ex (fl : Flags) (r i : Nat) : Bool := fl.wraps.all fun p => !(Nat.beq p.1 r && Nat.beq p.2 i)
/-- Behind the first operation that is not free all others of this region are: they load from the world as it is then. -/
def Flags.tail (fl : Flags) (r : Nat) : Bool := fl.wraps.any fun p => Nat.beq p.1 r && Nat.beq p.2 999999
def isFree (o : Oper) : Bool := match o.op with
  | .move _ | .assign _ | .pick .. | .nilCheck _ | .indexAddr .. | .index .. | .slice .. | .fieldAddr .. | .field .. | .unOp .. | .extract .. | .makeInterface .. | .makeFunc .. | .build .. => true
  | .load .. => true
  | .binOp _ _ _ _ _ => true
  | .convert .. => true
  | .call c => match c.callee with
    | .builtin .len | .builtin .cap | .builtin .min | .builtin .max => true
    | _ => false
  | _ => false
/-- One operation's guard. -/
def guarded (ops : Array Oper) (o : Oper) (e : Env) (F : Bool → Env → Prop) : Prop := match o.guard with
  | none => F true e
  | some (j, want) => match (ops[j]?).bind (·.dst) with
    | none => False
    | some d => match e.get d with
      | some (.bool c) => Br c (F want (.w d (.bool true) :: e)) (F (!want) (.w d (.bool false) :: e))
      | some (.tuple _) => F false e
      | _ => False
def okDst (n : Nat) (o : Oper) : Bool := match o.dst with | none => true | some d => Nat.ble (d + 1) n
def vcOps (P : Program) (R : Ending → World → Prop) (fl : Flags) (n r : Nat) (ops : Array Oper) : List Oper → Nat → Env → World → (Env → World → Prop) → Prop
  | [], _, e, w, K => K e w
  | o :: rest, i, e, w, K => match okDst n o with
    | false => False
    | true => guarded ops o e fun b e => match b with
      | true => vcOpR P R (fl.ex r i) o rest e w fun v w' => vcOps P R fl n r ops rest (i + 1) (e.put o.dst v) w' K
      | false => vcOps P R fl n r ops rest (i + 1) (e.put o.dst undef) w K
def vcFree (P : Program) (ex : Bool) (o : Oper) (e : Env) (S : Option (World → Prop)) (w : World) (K : Value → Prop) : Prop := match o.op with
  | .load t x => match e.ev x, tyOf P t with
    | some (.pointer (some a)), some ty => match S with
      | none => LdT ty w a K
      | some S => HdT ty S a K
    | _, _ => False
  | _ => vcPure P ex o e K
/-- Operation o loads. -/
def isLoad (o : Oper) : Bool := match o.op with | .load .. => true | _ => false
/-- Those that come before number m in every order, and m. -/
def markB (ops : Array Oper) (k : Nat) (acc : Array Bool) : Array Bool := match acc.getD k false with
  | true => match ops[k]? with
    | some o => o.after.toList.foldl (fun acc e => match Region.binds .any e with | true => acc.setIfInBounds e.on true | false => acc) acc
    | none => acc
  | false => acc
def marks (ops : Array Oper) (m : Nat) : Array Bool := (List.range ops.size).foldr (markB ops) ((Array.replicate ops.size false).setIfInBounds m true)
/-- Every load comes before number m. -/
def past (ops : Array Oper) (m : Nat) : Bool := (List.range ops.size).all fun i => match ops[i]? with
  | some o => !isLoad o || (marks ops m).getD i false
  | none => true
/-- No load can be to come. -/
def late (ops : Array Oper) (l : Array Bool) : Bool := (List.range ops.size).any fun m => l.getD m false && match ops[m]? with
  | some o => !isFree o && past ops m
  | none => false
def Unl (b : Bool) (X Y : Prop) : Prop := match b with | true => Y | false => X ∧ Y
def allP : List Prop → Prop
  | [] => True
  | [p] => p
  | p :: q :: r => p ∧ allP (q :: r)
def vcDraw (P : Program) (R : Ending → World → Prop) (fl : Flags) (n r : Nat) (ops : Array Oper) (S : Option (World → Prop)) : Nat → Array Bool → Env → World → (Env → World → Prop) → Prop
  | 0, l, e, w, K => match Region.ready .any ops l with | [] => K e w | _ => False
  | f + 1, l, e, w, K =>
    let rs := Region.ready .any ops l
    match rs.find? fun i => match ops[i]? with | some o => isFree o | none => false with
    | some i => match ops[i]?, Region.free .any ops l i with
      | some o, true => match okDst n o with
        | false => False
        | true => guarded ops o e fun b e => match b with
          | true => vcFree P (fl.ex r i) o e S w fun v => vcDraw P R fl n r ops S f (l.setIfInBounds i true) (e.put o.dst v) w K
          | false => vcDraw P R fl n r ops S f (l.setIfInBounds i true) (e.put o.dst undef) w K
      | _, _ => False
    | none => match rs with
      | [] => K e w
      | rs => match S with
        | none => False
        | some S' => allP (rs.map fun i => match ops[i]? with
          | none => False
          | some o => match okDst n o with
            | false => False
            | true => guarded ops o e fun b e => match b with
              | true => vcOp P R (fl.ex r i) o e w fun v w' => Unl (late ops (l.setIfInBounds i true)) (S' w') (vcDraw P R fl n r ops (match fl.tail r with | true => none | false => S) f (l.setIfInBounds i true) (e.put o.dst v) w' K)
              | false => vcDraw P R fl n r ops S f (l.setIfInBounds i true) (e.put o.dst undef) w K)
def vcRegion (P : Program) (R : Ending → World → Prop) (fl : Flags) (n r : Nat) (ops : Array Oper) (draw : Bool) (e : Env) (w : World) (K : Env → World → Prop) : Prop := match draw with
  | false => vcOps P R fl n r ops ops.toList 0 e w K
  | true => match Region.noSelect ops with
    | false => False
    | true => match ops.all isFree with
      | true => vcDraw P R fl n r ops none ops.size (Array.replicate ops.size false) e w.drew K
      | false => ∃ S : World → Prop, S w.drew ∧ vcDraw P R fl n r ops (some S) ops.size (Array.replicate ops.size false) e w.drew K

/-! ### The code -/
structure Cut where
  sl : List (Nat × Ty)
  hs : List (Nat × Nat)
structure Plan where
  n : Nat
  fl : Flags
  joins : List (Nat × Cut)
  loops : List (Nat × Cut)
def look (l : List (Nat × Cut)) (k : Option Nat) : Option Cut := match k with
  | none => none
  | some k => (l.find? fun p => Nat.beq p.1 k).map (·.2)
def firstR : Code → Option Nat
  | .region id _ _ => some id
  | .seq a _ => firstR a
  | .block _ b => firstR b
  | .loop b => firstR b
  | _ => none
inductive SI where
  | code (c : Code)
  | inBlock (i : Nat)
  | join (cut : Cut) (base : Env) (J : List Value → World → Prop)
  | lp (cut : Cut) (base : Env) (J : List Value → World → Prop) (c : Code)
def SI.erase : List SI → List Item
  | [] => []
  | .code c :: k => .code c :: SI.erase k
  | .inBlock i :: k => .inBlock i :: SI.erase k
  | .join _ _ _ :: k => SI.erase k
  | .lp _ _ _ c :: k => .inLoop c :: SI.erase k
def exitS (i : Nat) : List SI → Option (List SI)
  | [] => none
  | .inBlock j :: k => match Nat.beq i j with | true => some k | false => exitS i k
  | _ :: k => exitS i k
def Cut.tys (c : Cut) : List Ty := c.sl.map (·.2)
def Cut.vals (c : Cut) (e : Env) : Option (List Value) := e.evs (c.sl.map fun p => .tmp p.1)
def Cut.env (c : Cut) (vs : List Value) (base : Env) : Env :=
  ((c.sl.map (·.1)).zip vs).map (fun p => Ent.w p.1 p.2) ++ (c.hs.map (fun p => Ent.h p.1 p.2) ++ base)
/-- Only slots of the cut were written since. -/
def Cut.covers (c : Cut) : Ent → Bool
  | .w t _ => c.sl.any (fun p => Nat.beq p.1 t) || c.hs.any (fun p => Nat.ble p.1 t && Nat.ble (t + 1) p.2)
  | .h lo hi => c.hs.any fun p => Nat.ble p.1 lo && Nat.ble hi p.2
def newOf (e base : Env) : Env := e.take (e.length - base.length)
def leaf (c : Cut) (base : Env) (J : List Value → World → Prop) (e : Env) (w : World) : Prop := match c.vals e with
  | none => False
  | some vs => match (newOf e base).all c.covers with
    | true => J vs w
    | false => False
def atK (tys : List Ty) (J : Tys.Fun tys (World → Prop)) (vs : List Value) (w : World) : Prop := match Tys.app tys J vs with
  | some f => f w
  | none => False
def atM (tys : List Ty) (m : Tys.Fun tys (World → Nat)) (vs : List Value) (w : World) : Nat := match Tys.app tys m vs with
  | some f => f w
  | none => 0
def retVals (P : Program) (e : Env) (w : World) : List ResultVar → List Value → (List Value → Prop) → Prop
  | [], acc, K => K acc.reverse
  | .tmp t :: r, acc, K => match e.get t with
    | some v => retVals P e w r (v :: acc) K
    | none => False
  | .cell a t :: r, acc, K => match e.get a, tyOf P t with
    | some (.pointer (some a)), some ty => LdT ty w a fun v => retVals P e w r (v :: acc) K
    | _, _ => False
def vcRet (P : Program) (fn : Func) (R : Ending → World → Prop) (e : Env) (w : World) : Prop :=
  retVals P e w fn.results.toList [] fun vs => R (.returned (match vs with | [v] => v | vs => .tuple vs.toArray)) w
def vc (P : Program) (fn : Func) (pl : Plan) (R : Ending → World → Prop) : Nat → List SI → Env → World → Prop
  | 0, _, _, _ => False
  | _ + 1, [], e, w => vcRet P fn R e w
  | f + 1, .inBlock _ :: k, e, w => vc P fn pl R f k e w
  | _ + 1, .join c base J :: _, e, w => leaf c base J e w
  | _ + 1, .lp c base J _ :: _, e, w => leaf c base J e w
  | f + 1, .code c :: k, e, w => match c with
    | .skip => vc P fn pl R f k e w
    | .label _ => vc P fn pl R f k e w
    | .seq a b => match look pl.joins (firstR b) with
      | none => vc P fn pl R f (.code a :: .code b :: k) e w
      | some cut => ∃ J : Tys.Fun cut.tys (World → Prop),
          Tys.all cut.tys (fun vs => ∀ w', atK cut.tys J vs w' → vc P fn pl R f (.code b :: k) (cut.env vs e) w') ∧
          vc P fn pl R f (.code a :: .join cut e (atK cut.tys J) :: .code b :: k) e w
    | .cond c t el => match e.ev c with
      | some (.bool b) => Br b (vc P fn pl R f (.code t :: k) e w) (vc P fn pl R f (.code el :: k) e w)
      | _ => False
    | .block i c => vc P fn pl R f (.code c :: .inBlock i :: k) e w
    | .loop c => match look pl.loops (firstR c) with
      | none => False
      | some cut => match cut.vals e with
        | none => False
        | some vs => ∃ (I : Tys.Fun cut.tys (World → Prop)) (m : Tys.Fun cut.tys (World → Nat)), atK cut.tys I vs w ∧
          Tys.all cut.tys (fun vs => ∀ w', atK cut.tys I vs w' →
            vc P fn pl R f (.code c :: .lp cut e (fun vs' w'' => atK cut.tys I vs' w'' ∧ atM cut.tys m vs' w'' < atM cut.tys m vs w') c :: k) (cut.env vs e) w')
    | .exit i => match exitS i k with
      | some k' => vc P fn pl R f k' e w
      | none => False
    | .ret => vcRet P fn R e w
    | .region id ops draw => vcRegion P R pl.fl pl.n id ops draw e w fun e' w' => vc P fn pl R f k e' w'
    | _ => False

def bodyOf (fn : Func) : Code := match fn.body with | some c => c | none => .skip
def argEnv : Nat → List Value → Env
  | _, [] => []
  | i, v :: vs => .w i v :: argEnv (i + 1) vs
end Go.Vc
/- That 'vc' suffices: one operation that looks at no world. -/
namespace Go.Vc
open Go
set_option linter.unusedSimpArgs false
set_option linter.unusedVariables false

/-- The slots hold what the list says. -/
def Sat (n : Nat) (e : Env) (a : Act) : Prop := a.defers = [] ∧ a.tmps.size = n ∧ ∀ t v, e.get t = some v → a.tmps.getD t undef = v

section
variable {P : Program} {n : Nat} {e : Env} {a : Act} {o : Oper} {w : World}

theorem get_w {t s : Nat} {v : Value} : Env.get (.w t v :: e) s = if t = s then some v else e.get s := by
  simp only [Env.get]
  split
  · rename_i h; rw [if_pos (Nat.eq_of_beq_eq_true h)]
  · rename_i h; rw [if_neg (Nat.ne_of_beq_eq_false h)]
theorem get_h {lo hi s : Nat} : Env.get (.h lo hi :: e) s = if lo ≤ s ∧ s < hi then none else e.get s := by
  simp only [Env.get]
  split
  · rename_i h
    have h1 := Nat.le_of_ble_eq_true h
    split
    · rename_i h'; have h2 := Nat.le_of_ble_eq_true h'; rw [if_pos ⟨h1, by omega⟩]
    · rename_i h'; have h2 : ¬ (s + 1 ≤ hi) := Nat.not_le_of_not_ble_eq_true (by rw [h']; decide); rw [if_neg (by omega)]
  · rename_i h
    have h1 : ¬ (lo ≤ s) := Nat.not_le_of_not_ble_eq_true (by rw [h]; decide)
    rw [if_neg (by omega)]

theorem Sat.ev (h : Sat n e a) {x : Operand} {v : Value} (hx : e.ev x = some v) : a.eval x = v := by
  cases x with
  | tmp t => exact h.2.2 t v hx
  | const c => simpa [Env.ev, Act.eval] using hx
  | global g => simpa [Env.ev, Act.eval] using hx
  | func f => simpa [Env.ev, Act.eval] using hx
theorem Sat.evs (h : Sat n e a) : ∀ {xs : List Operand} {vs : List Value}, e.evs xs = some vs → xs.map a.eval = vs
  | [], vs, hx => by simpa [Env.evs] using hx
  | x :: xs, vs, hx => by
    simp only [Env.evs] at hx
    split at hx
    · rename_i v us hv hus
      obtain rfl : v :: us = vs := by simpa using hx
      rw [List.map_cons, h.ev hv, h.evs hus]
    · cases hx
theorem Sat.evsA (h : Sat n e a) {xs : Array Operand} {vs : List Value} (hx : e.evs xs.toList = some vs) : xs.map a.eval = vs.toArray := by
  have := h.evs hx
  apply Array.ext'
  simpa using this
theorem Sat.evD (h : Sat n e a) {xs : List Operand} (hk : e.known xs = true) : ∀ x ∈ xs, a.eval x = e.evD x := by
  intro x hx
  unfold Env.known at hk
  have := List.all_eq_true.1 hk x hx
  unfold Env.evD
  cases hv : e.ev x with
  | none => rw [hv] at this; cases this
  | some v => exact h.ev hv
theorem Sat.put (h : Sat n e a) (hd : okDst n o = true) (v : Value) : Sat n (e.put o.dst v) (a.put o.dst v) := by
  unfold okDst at hd
  cases ho : o.dst with
  | none => simpa [Env.put, Act.put] using h
  | some d =>
    rw [ho] at hd
    have hd' : d < n := Nat.le_of_ble_eq_true hd
    refine ⟨h.1, by simpa [Act.put] using h.2.1, fun t u ht => ?_⟩
    simp only [Env.put, get_w] at ht
    split at ht
    · rename_i hdt; subst hdt
      obtain rfl : v = u := by simpa using ht
      have : d < a.tmps.size := by rw [h.2.1]; exact hd'
      simp [Act.put, this]
    · rename_i hdt
      have := h.2.2 t u ht
      simpa [Act.put, Array.getElem?_setIfInBounds_ne hdt] using this
theorem Sat.guard (h : Sat n e a) {d : Nat} {b : Bool} (hg : e.get d = some (.bool b)) : Sat n (.w d (.bool b) :: e) a := by
  refine ⟨h.1, h.2.1, fun t u ht => ?_⟩
  rw [get_w] at ht
  split at ht
  · rename_i hdt; subst hdt
    obtain rfl : Value.bool b = u := by simpa using ht
    exact h.2.2 d _ hg
  · exact h.2.2 t u ht

theorem pure?_run {α : Type} {s : Sem α} {x : α} (h : pure? P s = some x) (w : World) : s.run P w = .ok x w := by
  induction s with
  | pure a => have h' : a = x := (by simpa [pure?] using h); rw [h']; rfl
  | program k ih => simp only [pure?] at h; simp only [Sem.run]; exact ih _ h
  | mark m k ih => simp only [pure?] at h; simp only [Sem.run]; exact ih h
  | _ => simp [pure?] at h

/-- What is shown of an operation that looks at no world. -/
def Sure (P : Program) (a : Act) (o : Oper) (K : Value → Prop) : Prop := ∃ v, (∀ w, (execOp a.eval o).run P w = .ok (.value v) w) ∧ K v

theorem general_sound {K : Value → Prop} (hs : Sat n e a) (h : general P o e K) : Sure P a o K := by
  unfold general at h
  split at h
  · rename_i hk
    rw [Bool.and_eq_true] at hk
    split at h
    · rename_i v hv
      refine ⟨v, fun w => ?_, h⟩
      rw [execOp_congr o (fun cs b hc => by rw [hc] at hk; simp [isSel] at hk) (fun x hx => hs.evD hk.1 x (by simpa using hx))]
      exact pure?_run hv w
    · exact h.elim
  · exact h.elim

theorem sizeT_run {t : TypeId} {k : Nat} (h : sizeT P t = some k) : ∃ i, P.info? t = some i ∧ i.size = k := by
  unfold sizeT at h
  split at h
  · rename_i i hi; exact ⟨i, hi, by simpa using h⟩
  · cases h

theorem IntKind.same_eq {k k' : IntKind} (h : IntKind.same k k' = true) : k = k' := by
  cases k <;> cases k' <;> first | rfl | simp [IntKind.same] at h


theorem wrap_of {k : IntKind} {z : Int} (h : InR k z) : k.wrap z = z := by
  obtain ⟨h1, h2⟩ := h
  cases k <;> simp [IntKind.min, IntKind.max, IntKind.signed, IntKind.bits, IntKind.wrap] at * <;> omega
theorem run_num {k : IntKind} {z : Int} {ex : Bool} {K : Value → Prop} (h : num ex k z K) : K (.int k (k.wrap z)) := by
  unfold num at h
  split at h
  · rw [wrap_of h.1]; exact h.2
  · exact h
theorem surely0_ne {y : Operand} {b : Int} {X : Prop} (h : surely0 y b X) : b ≠ 0 ∧ X := by
  unfold surely0 at h
  split at h
  · split at h
    · exact h.elim
    · rename_i hb
      refine ⟨?_, h⟩
      rintro rfl
      simp at hb
  · exact h
theorem surelyPos_le {y : Operand} {b : Int} {X : Prop} (h : surelyPos y b X) : 0 ≤ b ∧ X := by
  unfold surelyPos at h
  split at h
  · split at h
    · exact ⟨by simp, h⟩
    · exact h.elim
  · exact h
theorem eqB_spec {op : BinOp} {b : Bool} {K : Value → Prop} (h : eqB op b K) : (op = .eql ∧ K (.bool b)) ∨ (op = .neq ∧ K (.bool !b)) := by
  unfold eqB at h
  split at h
  · exact .inl ⟨rfl, h⟩
  · exact .inr ⟨rfl, h⟩
  · exact h.elim
end
end Go.Vc
/- That 'vc' suffices: the operations that look at no world. -/
namespace Go.Vc
open Go
set_option linter.unusedSimpArgs false
set_option linter.unusedVariables false
section
variable {P : Program} {n : Nat} {e : Env} {a : Act} {o : Oper} {w : World}

theorem sure_move {K : Value → Prop} (x : Operand) (ho : o.op = .move x ∨ o.op = .assign x) {v : Value} (hx : a.eval x = v) (h : K v) : Sure P a o K := by
  refine ⟨v, fun w => ?_, h⟩
  rcases ho with ho | ho <;> simp [execOp, ho, hx]
theorem sure_pick {K : Value → Prop} {c x y : Operand} (ho : o.op = .pick c x y) {b : Bool} {u v : Value} (hc : a.eval c = .bool b) (hx : a.eval x = u) (hy : a.eval y = v) (h : Br b (K u) (K v)) : Sure P a o K := by
  cases b
  · exact ⟨v, fun w => by simp [execOp, ho, hc, hx, hy, asBool], h⟩
  · exact ⟨u, fun w => by simp [execOp, ho, hc, hx, hy, asBool], h⟩
theorem sure_nil {K : Value → Prop} {x : Operand} (ho : o.op = .nilCheck x) {p : Option Addr} (hx : a.eval x = .pointer p) (h : NonNil p fun a => K (.pointer (some a))) : Sure P a o K := by
  cases p with
  | none => exact h.elim
  | some q => exact ⟨_, fun w => by simp [execOp, ho, hx], h⟩
theorem run_und {t : TypeId} {d : TypeDesc} (h : P.underlying t = some d) (w : World) : (underlying t).run P w = .ok d w := by
  simp [underlying, program, h, Sem.run_bind, Sem.run]
theorem run_size {t : TypeId} {k : Nat} (h : sizeT P t = some k) (w : World) : (sizeOf t).run P w = .ok k w := by
  obtain ⟨i, hi, hk⟩ := sizeT_run h
  simp [sizeOf, typeInfo, program, hi, hk, Sem.run_bind, Sem.run]
theorem sure_idxA {K : Value → Prop} {t : TypeId} {x i : Operand} (ho : o.op = .indexAddr t x i) {p : Option Addr} {m c : Nat} {k : IntKind} {j : Int} {el : TypeId} {sz : Nat}
    (hx : a.eval x = .slice p m c) (hi : a.eval i = .int k j) (hu : P.underlying t = some (.slice el)) (hz : sizeT P el = some sz) (h : IdxA p m j sz fun a => K (.pointer (some a))) : Sure P a o K := by
  cases p with
  | none => exact h.elim
  | some q =>
    obtain ⟨h1, h2, h3⟩ := h
    refine ⟨_, fun w => ?_, h3⟩
    simp [execOp, ho, hx, hi, Instr.indexAt, asIntOf, run_und hu, run_size hz, h1, h2]
theorem sure_idxR {K : Value → Prop} {t : TypeId} {x i : Operand} (ho : o.op = .indexAddr t x i) {q : Addr} {m : Nat} {k : IntKind} {j : Int} {el : TypeId} {sz : Nat}
    (hx : a.eval x = .pointer (some q)) (hi : a.eval i = .int k j) (hu : P.underlying t = some (.array m el)) (hz : sizeT P el = some sz) (h : IdxR q m j sz fun a => K (.pointer (some a))) : Sure P a o K := by
  obtain ⟨h1, h2, h3⟩ := h
  refine ⟨_, fun w => ?_, h3⟩
  simp [execOp, ho, hx, hi, Instr.indexAt, Instr.sureAddr, asIntOf, run_und hu, run_size hz, h1, h2]
theorem sure_idxS {K : Value → Prop} {t : TypeId} {x i : Operand} (ho : o.op = .index t x i) {s : ByteArray} {k : IntKind} {j : Int}
    (hx : a.eval x = .string s) (hi : a.eval i = .int k j) (hu : P.underlying t = some .string) (h : IdxS s j fun n => K (.int .u8 n)) : Sure P a o K := by
  obtain ⟨h1, b, h2, h3⟩ := h
  refine ⟨_, fun w => ?_, h3⟩
  simp [execOp, ho, hx, hi, Instr.index, asIntOf, run_und hu, h1, h2]
theorem bound_spec {v : Option (Option Value)} {d : Int} {F : Int → Prop} (h : bound v d F) : (v = none ∧ F d) ∨ ∃ k n, v = some (some (.int k n)) ∧ F n := by
  unfold bound at h
  split at h
  · exact .inl ⟨rfl, h⟩
  · exact .inr ⟨_, _, rfl, h⟩
  · exact h.elim
theorem slBound {v : Option Operand} {d : Int} {F : Int → Prop} (hs : Sat n e a) (h : bound (v.map e.ev) d F) : (v = none ∧ F d) ∨ ∃ x k m, v = some x ∧ a.eval x = .int k m ∧ F m := by
  rcases bound_spec h with ⟨h1, h2⟩ | ⟨k, m, h1, h2⟩
  · exact .inl ⟨by simpa using h1, h2⟩
  · cases v with
    | none => cases h1
    | some x => exact .inr ⟨x, k, m, rfl, hs.ev (by simpa using h1), h2⟩
theorem run_sliceBound {k : IntKind} {i : Int} {y : Nat} {c : BoundsCode} (h0 : 0 ≤ i) (h1 : i ≤ y) (w : World) : (Instr.sliceBound (.int k i) y c).run P w = .ok i.toNat w := by
  simp [Instr.sliceBound, asIntOf, h0, h1]
theorem run_bounds {isS : Bool} {len cap : Nat} {lo hi : Option Operand} {l h : Int}
    (hl : (lo = none ∧ l = 0) ∨ ∃ x k, lo = some x ∧ a.eval x = .int k l) (hh : (hi = none ∧ h = len) ∨ ∃ x k, hi = some x ∧ a.eval x = .int k h) (h0 : 0 ≤ l) (h1 : l ≤ h) (h2 : h ≤ cap) (w : World) :
    (Instr.sliceBounds isS len cap (lo.map a.eval) (hi.map a.eval) none).run P w = .ok (l.toNat, h.toNat, cap) w := by
  have e1 : (Int.toNat h : Int) = h := Int.toNat_of_nonneg (by omega)
  rcases hl with ⟨rfl, rfl⟩ | ⟨x, k, rfl, hx⟩ <;> rcases hh with ⟨rfl, rfl⟩ | ⟨y, k', rfl, hy⟩
  · simp [Instr.sliceBounds]
  · simp [Instr.sliceBounds, hy, run_sliceBound (P := P) (k := k') h1 h2]
  · simp [Instr.sliceBounds, hx, run_sliceBound (P := P) (k := k) h0 h1]
  · simp [Instr.sliceBounds, hx, hy, run_sliceBound (P := P) (k := k') (show 0 ≤ h by omega) h2, run_sliceBound (P := P) (k := k) h0 (show l ≤ (h.toNat : Int) by omega)]
theorem sure_slS {K : Value → Prop} {t : TypeId} {x : Operand} {lo hi : Option Operand} (hs : Sat n e a) (ho : o.op = .slice t x lo hi none) {s : ByteArray} (hx : a.eval x = .string s) (hu : P.underlying t = some .string)
    (h : bound (lo.map e.ev) 0 fun l => bound (hi.map e.ev) s.size fun h => SlB l h s.size (K (.string (s.extract l.toNat h.toNat)))) : Sure P a o K := by
  have fin : ∀ l h : Int, ((lo = none ∧ l = 0) ∨ ∃ x k, lo = some x ∧ a.eval x = .int k l) → ((hi = none ∧ h = s.size) ∨ ∃ x k, hi = some x ∧ a.eval x = .int k h) →
      SlB l h s.size (K (.string (s.extract l.toNat h.toNat))) → Sure P a o K := fun l h hl hh ⟨h0, h1, h2, h3⟩ =>
    ⟨_, fun w => by simp [execOp, ho, hx, Instr.sliceAt, Instr.slice, run_und hu, run_bounds (P := P) hl hh h0 h1 h2], h3⟩
  rcases slBound hs h with ⟨e1, h⟩ | ⟨x1, k1, m1, e1, e2, h⟩ <;> rcases slBound hs h with ⟨e3, h⟩ | ⟨x3, k3, m3, e3, e4, h⟩
  · exact fin _ _ (.inl ⟨e1, rfl⟩) (.inl ⟨e3, rfl⟩) h
  · exact fin _ _ (.inl ⟨e1, rfl⟩) (.inr ⟨x3, k3, e3, e4⟩) h
  · exact fin _ _ (.inr ⟨x1, k1, e1, e2⟩) (.inl ⟨e3, rfl⟩) h
  · exact fin _ _ (.inr ⟨x1, k1, e1, e2⟩) (.inr ⟨x3, k3, e3, e4⟩) h
theorem sure_sl {K : Value → Prop} {t : TypeId} {x : Operand} {lo hi : Option Operand} (hs : Sat n e a) (ho : o.op = .slice t x lo hi none) {p : Option Addr} {m c : Nat} {el : TypeId} {sz : Nat}
    (hx : a.eval x = .slice p m c) (hu : P.underlying t = some (.slice el)) (hz : sizeT P el = some sz) {l : Int}
    (hl : (lo = none ∧ l = 0) ∨ ∃ x k, lo = some x ∧ a.eval x = .int k l)
    (h : bound (hi.map e.ev) m fun h => SlB l h c (K (.slice (if c = l.toNat then p else p.map fun a => a.add (l.toNat * sz)) (h.toNat - l.toNat) (c - l.toNat)))) : Sure P a o K := by
  have fin : ∀ h : Int, ((hi = none ∧ h = m) ∨ ∃ x k, hi = some x ∧ a.eval x = .int k h) →
      SlB l h c (K (.slice (if c = l.toNat then p else p.map fun a => a.add (l.toNat * sz)) (h.toNat - l.toNat) (c - l.toNat))) → Sure P a o K := fun h hh ⟨h0, h1, h2, h3⟩ =>
    ⟨_, fun w => by simp [execOp, ho, hx, Instr.sliceAt, Instr.slice, run_und hu, run_size hz, run_bounds (P := P) hl hh h0 h1 h2], h3⟩
  rcases slBound hs h with ⟨e1, h⟩ | ⟨x1, k1, m1, e1, e2, h⟩
  · exact fin _ (.inl ⟨e1, rfl⟩) h
  · exact fin _ (.inr ⟨x1, k1, e1, e2⟩) h
theorem run_bounds3 {len cap : Nat} {x y z : Value} {k1 k2 k3 : IntKind} {l h m : Int} (hx : x = .int k1 l) (hy : y = .int k2 h) (hz : z = .int k3 m) (h0 : 0 ≤ l) (h1 : l ≤ h) (h2 : h ≤ m) (h3 : m ≤ cap) (w : World) :
    (Instr.sliceBounds true len cap (some x) (some y) (some z)).run P w = .ok (l.toNat, h.toNat, m.toNat) w := by
  subst hx hy hz
  have e1 : (Int.toNat h : Int) = h := Int.toNat_of_nonneg (by omega)
  have e2 : (Int.toNat m : Int) = m := Int.toNat_of_nonneg (by omega)
  simp [Instr.sliceBounds, run_sliceBound (P := P) (k := k3) (show 0 ≤ m by omega) h3, run_sliceBound (P := P) (k := k2) (show 0 ≤ h by omega) (show h ≤ (m.toNat : Int) by omega), run_sliceBound (P := P) (k := k1) h0 (show l ≤ (h.toNat : Int) by omega)]
theorem sure_sl3 {K : Value → Prop} {t : TypeId} {x lo hi mx : Operand} (ho : o.op = .slice t x (some lo) (some hi) (some mx)) {p : Option Addr} {n' c : Nat} {el : TypeId} {sz : Nat}
    (hx : a.eval x = .slice p n' c) (hu : P.underlying t = some (.slice el)) (hz : sizeT P el = some sz) {k1 k2 k3 : IntKind} {l h m : Int} (hl : a.eval lo = .int k1 l) (hh : a.eval hi = .int k2 h) (hm : a.eval mx = .int k3 m)
    (hk : SlB l h m (m ≤ c ∧ K (.slice (if m.toNat = l.toNat then p else p.map fun a => a.add (l.toNat * sz)) (h.toNat - l.toNat) (m.toNat - l.toNat)))) : Sure P a o K := by
  obtain ⟨h0, h1, h2, h3, h4⟩ := hk
  exact ⟨_, fun w => by simp [execOp, ho, hx, Instr.sliceAt, Instr.slice, run_und hu, run_size hz, run_bounds3 (P := P) hl hh hm h0 h1 h2 h3], h4⟩
theorem add_zero (q : Addr) : q.add 0 = q := by simp [Addr.add]
theorem map_add_zero (p : Option Addr) (c : Nat) : (if c = 0 then p else p.map fun a => a.add 0) = p := by
  split
  · rfl
  · cases p <;> simp [add_zero]
end
end Go.Vc
/- That 'vc' suffices: operators. -/
namespace Go.Vc
open Go
set_option linter.unusedSimpArgs false
set_option linter.unusedVariables false
section
variable {P : Program} {n : Nat} {e : Env} {a : Act} {o : Oper} {w : World}

theorem sure_binI {K : Value → Prop} (hs : Sat n e a) {op : BinOp} {t yt : TypeId} {x y : Operand} (ho : o.op = .binOp op t x y yt) {k : IntKind} {p q : Int} {ex : Bool}
    (hx : a.eval x = .int k p) (hy : a.eval y = .int k q) (h1 : op ≠ .shl) (h2 : op ≠ .shr) (h : binI P ex o e op y k p q K) : Sure P a o K := by
  unfold binI at h
  cases op with
  | add => exact ⟨_, fun w => by simp [execOp, ho, hx, hy, eqGuard, binOp, Op.intArith], run_num h⟩
  | sub => exact ⟨_, fun w => by simp [execOp, ho, hx, hy, eqGuard, binOp, Op.intArith], run_num h⟩
  | mul => exact ⟨_, fun w => by simp [execOp, ho, hx, hy, eqGuard, binOp, Op.intArith], run_num h⟩
  | quo => 
    obtain ⟨h3, h4⟩ := surely0_ne h
    exact ⟨_, fun w => by simp [execOp, ho, hx, hy, eqGuard, binOp, Op.intDiv, h3], run_num h4⟩
  | rem => 
    obtain ⟨h3, h4⟩ := surely0_ne h
    exact ⟨_, fun w => by simp [execOp, ho, hx, hy, eqGuard, binOp, Op.intDiv, h3], h4⟩
  | shl => exact absurd rfl h1
  | shr => exact absurd rfl h2
  | _ => exact general_sound hs h
theorem sure_shI {K : Value → Prop} {op : BinOp} {t yt : TypeId} {x y : Operand} (ho : o.op = .binOp op t x y yt) {k k' : IntKind} {p q : Int} {ex : Bool}
    (hx : a.eval x = .int k p) (hy : a.eval y = .int k' q) (h : shI ex op y k p q K) : Sure P a o K := by
  unfold shI at h
  split at h
  · obtain ⟨h3, h4⟩ := surelyPos_le h
    have h5 : ¬ q < 0 := by omega
    exact ⟨_, fun w => by simp [execOp, ho, hx, hy, eqGuard, binOp, Op.shift, h5], run_num h4⟩
  · obtain ⟨h3, h4⟩ := surelyPos_le h
    have h5 : ¬ q < 0 := by omega
    exact ⟨_, fun w => by simp [execOp, ho, hx, hy, eqGuard, binOp, Op.shift, h5], h4⟩
  · exact h.elim
theorem sure_cat {K : Value → Prop} {t yt : TypeId} {x y : Operand} (ho : o.op = .binOp .add t x y yt) {p q : ByteArray} 
    (hx : a.eval x = .string p) (hy : a.eval y = .string q) (h : ((p.size + q.size : Nat) : Int) ≤ 9223372036854775807 ∧ K (.string (p ++ q))) : Sure P a o K := by
  have h1 : ¬ ((p.size + q.size : Nat) : Int) > IntKind.i64.max := by have := h.1; simp [IntKind.max, IntKind.signed, IntKind.bits]; omega
  exact ⟨_, fun w => by simp only [execOp, ho, hx, hy, eqGuard, binOp, Op.stringOp, h1, if_false]; simp, h.2⟩

/-- A number or a string. -/
def isBasic : Value → Bool
  | .int _ _ => true | .float _ _ => true | .complex _ _ _ => true | .string _ => true
  | _ => false
theorem run_binOp_eql {t : TypeId} {u v : Value} {r : Bool} (hb : isBasic u = false) (w : World) (he : (Op.equal t u v).run P w = .ok r w) :
    (binOp .eql t u v).run P w = .ok (.bool r) w ∧ (binOp .neq t u v).run P w = .ok (.bool !r) w := by
  constructor
  · unfold binOp
    split <;> first | (simp [isBasic] at hb; done) | simp_all
  · unfold binOp
    split <;> first | (simp [isBasic] at hb; done) | simp_all
theorem run_eqB {op : BinOp} {t yt : TypeId} {x y : Operand} (ho : o.op = .binOp op t x y yt) {r : Bool} {K : Value → Prop} (h : eqB op r K) {u v : Value} (hx : a.eval x = u) (hy : a.eval y = v)
    (hg : ∀ w, (eqGuard op t x y u v).run P w = .ok () w) (hb : isBasic u = false)
    (he : ∀ w, (Op.equal t u v).run P w = .ok r w) : Sure P a o K := by
  rcases eqB_spec h with ⟨rfl, h'⟩ | ⟨rfl, h'⟩
  · exact ⟨_, fun w => by simp [execOp, ho, hx, hy, hg, (run_binOp_eql hb w (he w)).1], h'⟩
  · exact ⟨_, fun w => by simp [execOp, ho, hx, hy, hg, (run_binOp_eql hb w (he w)).2], h'⟩
theorem run_equal_nil (t : TypeId) {d : TypeDesc} (hu : P.underlying t = some d) (w : World) :
    (∀ e, d = .pointer e → ∀ p, (Op.equal t (.pointer p) (.pointer none)).run P w = .ok p.isNone w ∧ (Op.equal t (.pointer none) (.pointer p)).run P w = .ok p.isNone w) ∧
    (∀ e, d = .slice e → ∀ p n c l m, (Op.equal t (.slice p n c) (.slice none l m)).run P w = .ok p.isNone w ∧ (Op.equal t (.slice none l m) (.slice p n c)).run P w = .ok p.isNone w) ∧
    (∀ e f, d = .map e f → ∀ p, (Op.equal t (.map p) (.map none)).run P w = .ok p.isNone w ∧ (Op.equal t (.map none) (.map p)).run P w = .ok p.isNone w) ∧
    (∀ x y z, d = .func x y z → (Op.equal t .nilFunc .nilFunc).run P w = .ok true w ∧ ∀ f i j, (Op.equal t .nilFunc (.func f i j)).run P w = .ok false w ∧ (Op.equal t (.func f i j) .nilFunc).run P w = .ok false w) ∧
    (∀ x, d = .interface x → (Op.equal t .nilIface .nilIface).run P w = .ok true w ∧ ∀ i j, (Op.equal t .nilIface (.iface i j)).run P w = .ok false w ∧ (Op.equal t (.iface i j) .nilIface).run P w = .ok false w) := by
  have key : ∀ u v, Op.equal t u v = Op.equalIn (9999 + 1) t u v := fun _ _ => rfl
  simp only [key]
  refine ⟨?_, ?_, ?_, ?_, ?_⟩
  · rintro e rfl p
    cases p <;> constructor <;> (rw [Op.equalIn]; simp [run_und hu])
  · rintro e rfl p n c l m
    cases p <;> constructor <;> (rw [Op.equalIn]; simp [run_und hu])
  · rintro e f rfl p
    cases p <;> constructor <;> (rw [Op.equalIn]; simp [run_und hu])
  · rintro x y z rfl
    refine ⟨?_, fun f i j => ⟨?_, ?_⟩⟩ <;> (rw [Op.equalIn]; simp [run_und hu])
  · rintro x rfl
    refine ⟨?_, fun i j => ⟨?_, ?_⟩⟩ <;> (rw [Op.equalIn]; simp [run_und hu])
theorem nilF_spec {v : Value} {K : Bool → Prop} (h : nilF v K) : (v = .nilFunc ∧ K true) ∨ ((∃ f x y, v = .func f x y) ∧ K false) := by
  unfold nilF at h
  split at h
  · exact .inl ⟨rfl, h⟩
  · exact .inr ⟨⟨_, _, _, rfl⟩, h⟩
  · exact h.elim
theorem nilI_spec {v : Value} {K : Bool → Prop} (h : nilI v K) : (v = .nilIface ∧ K true) ∨ ((∃ x y, v = .iface x y) ∧ K false) := by
  unfold nilI at h
  split at h
  · exact .inl ⟨rfl, h⟩
  · exact .inr ⟨⟨_, _, rfl⟩, h⟩
  · exact h.elim
theorem guardE (op : BinOp) (t : TypeId) (x y : Operand) (u v : Value) (w : World) (h : ∀ c d, ¬ (u = .agg c ∧ v = .agg d)) (hc : (u = .nilIface ∧ v = .nilIface) → (eqGuard op t x y .nilIface .nilIface).run P w = .ok () w) : (eqGuard op t x y u v).run P w = .ok () w := by
  by_cases h1 : u = .nilIface ∧ v = .nilIface
  · obtain ⟨rfl, rfl⟩ := h1; exact hc ⟨rfl, rfl⟩
  · cases op <;> first | rfl | (show Sem.run P (match u, v with | .nilIface, .nilIface => _ | .agg _, .agg _ => _ | _, _ => _) w = _; split <;> first | rfl | exact absurd ⟨rfl, rfl⟩ h1 | exact absurd ⟨rfl, rfl⟩ (h _ _))
theorem guardR (op : BinOp) (t : TypeId) (x : Operand) (c : Value) (u v : Value) (w : World) (h : ∀ c d, ¬ (u = .agg c ∧ v = .agg d)) : (eqGuard op t x (.const c) u v).run P w = .ok () w :=
  guardE op t x _ u v w h fun _ => by cases op <;> simp [eqGuard]
theorem guardL (op : BinOp) (t : TypeId) (x : Operand) (c : Value) (u v : Value) (w : World) (h : ∀ c d, ¬ (u = .agg c ∧ v = .agg d)) : (eqGuard op t (.const c) x u v).run P w = .ok () w :=
  guardE op t _ x u v w h fun _ => by cases op <;> simp [eqGuard]
theorem sure_nilR {K : Value → Prop} {op : BinOp} {t yt : TypeId} {x y : Operand} (ho : o.op = .binOp op t x y yt) {v : Value} {d : TypeDesc}
    (hu : P.underlying t = some d) (hy : isNil y = true) (hx : a.eval x = v) (h : eqNil d y op v K) : Sure P a o K := by
  obtain ⟨e1, e2, e3, e4, e5⟩ : _ ∧ _ ∧ _ ∧ _ ∧ _ := ⟨fun w => (run_equal_nil t hu w).1, fun w => (run_equal_nil t hu w).2.1, fun w => (run_equal_nil t hu w).2.2.1, fun w => (run_equal_nil t hu w).2.2.2.1, fun w => (run_equal_nil t hu w).2.2.2.2⟩
  unfold eqNil at h
  split at h
  · split at h
    · exact run_eqB ho h hx rfl (fun w => guardR _ _ _ _ _ _ w (by simp)) rfl fun w => (e1 w _ rfl _).1
    · exact h.elim
  · split at h
    · exact run_eqB ho h hx rfl (fun w => guardR _ _ _ _ _ _ w (by simp)) rfl fun w => (e2 w _ rfl _ _ _ _ _).1
    · exact h.elim
  · split at h
    · exact run_eqB ho h hx rfl (fun w => guardR _ _ _ _ _ _ w (by simp)) rfl fun w => (e3 w _ _ rfl _).1
    · exact h.elim
  · split at h
    · rcases nilF_spec h with ⟨rfl, h⟩ | ⟨⟨f, i, j, rfl⟩, h⟩
      · exact run_eqB ho h hx rfl (fun w => guardR _ _ _ _ _ _ w (by simp)) rfl fun w => (e4 w _ _ _ rfl).1
      · exact run_eqB ho h hx rfl (fun w => guardR _ _ _ _ _ _ w (by simp)) rfl fun w => ((e4 w _ _ _ rfl).2 _ _ _).2
    · exact h.elim
  · split at h
    · rcases nilI_spec h with ⟨rfl, h⟩ | ⟨⟨i, j, rfl⟩, h⟩
      · exact run_eqB ho h hx rfl (fun w => guardR _ _ _ _ _ _ w (by simp)) rfl fun w => (e5 w _ rfl).1
      · exact run_eqB ho h hx rfl (fun w => guardR _ _ _ _ _ _ w (by simp)) rfl fun w => ((e5 w _ rfl).2 _ _).2
    · exact h.elim
  · exact h.elim
theorem sure_nilL {K : Value → Prop} {op : BinOp} {t yt : TypeId} {x y : Operand} (ho : o.op = .binOp op t x y yt) {v : Value} {d : TypeDesc}
    (hu : P.underlying t = some d) (hy : a.eval y = v) (h : eqNil d x op v K) : Sure P a o K := by
  obtain ⟨e1, e2, e3, e4, e5⟩ : _ ∧ _ ∧ _ ∧ _ ∧ _ := ⟨fun w => (run_equal_nil t hu w).1, fun w => (run_equal_nil t hu w).2.1, fun w => (run_equal_nil t hu w).2.2.1, fun w => (run_equal_nil t hu w).2.2.2.1, fun w => (run_equal_nil t hu w).2.2.2.2⟩
  unfold eqNil at h
  split at h
  · split at h
    · exact run_eqB ho h rfl hy (fun w => guardL _ _ _ _ _ _ w (by simp [Act.eval])) rfl fun w => (e1 w _ rfl _).2
    · exact h.elim
  · split at h
    · exact run_eqB ho h rfl hy (fun w => guardL _ _ _ _ _ _ w (by simp [Act.eval])) rfl fun w => (e2 w _ rfl _ _ _ _ _).2
    · exact h.elim
  · split at h
    · exact run_eqB ho h rfl hy (fun w => guardL _ _ _ _ _ _ w (by simp [Act.eval])) rfl fun w => (e3 w _ _ rfl _).2
    · exact h.elim
  · split at h
    · rcases nilF_spec h with ⟨rfl, h⟩ | ⟨⟨f, i, j, rfl⟩, h⟩
      · exact run_eqB ho h rfl hy (fun w => guardL _ _ _ _ _ _ w (by simp [Act.eval])) rfl fun w => (e4 w _ _ _ rfl).1
      · exact run_eqB ho h rfl hy (fun w => guardL _ _ _ _ _ _ w (by simp [Act.eval])) rfl fun w => ((e4 w _ _ _ rfl).2 _ _ _).1
    · exact h.elim
  · split at h
    · rcases nilI_spec h with ⟨rfl, h⟩ | ⟨⟨i, j, rfl⟩, h⟩
      · exact run_eqB ho h rfl hy (fun w => guardL _ _ _ _ _ _ w (by simp [Act.eval])) rfl fun w => (e5 w _ rfl).1
      · exact run_eqB ho h rfl hy (fun w => guardL _ _ _ _ _ _ w (by simp [Act.eval])) rfl fun w => ((e5 w _ rfl).2 _ _).1
    · exact h.elim
  · exact h.elim
end
end Go.Vc
/- That 'vc' suffices: structs that are compared. -/
namespace Go.Vc
open Go
set_option linter.unusedSimpArgs false
set_option linter.unusedVariables false
section
variable {P : Program} {n : Nat} {e : Env} {a : Act} {o : Oper} {w : World}

theorem eqL_append : ∀ (ks js : List Nat) (a b c d : List Value) (r : Bool), a.length = ks.length → c.length = ks.length → eqL (ks ++ js) (a ++ b) (c ++ d) = some r → ∃ r1 r2, eqL ks a c = some r1 ∧ eqL js b d = some r2 ∧ r = (r1 && r2)
  | [], js, [], b, [], d, r, _, _, h => ⟨true, r, rfl, h, by simp⟩
  | k0 :: ks, js, x :: xs, b, y :: ys, d, r, hl, hm, h => by
    have hl' : xs.length = ks.length := by simpa using hl
    have hm' : ys.length = ks.length := by simpa using hm
    simp only [List.cons_append] at h
    unfold eqL at h
    split at h
    · rename_i heq _ _; cases heq
    · rename_i ks' k p xs' k' q ys' h0 h1 h2
      obtain ⟨rfl, rfl⟩ : k0 = 0 ∧ ks ++ js = ks' := by simpa using h0
      obtain ⟨rfl, rfl⟩ : x = .int k p ∧ xs ++ b = xs' := by simpa using h1
      obtain ⟨rfl, rfl⟩ : y = .int k' q ∧ ys ++ d = ys' := by simpa using h2
      split at h
      · rename_i r' hk hr
        obtain ⟨r1, r2, e1, e2, e3⟩ := eqL_append ks js xs b ys d _ hl' hm' hr
        obtain rfl : ((p == q) && r') = r := by simpa using h
        exact ⟨(p == q) && r1, r2, by simp [eqL, hk, e1], e2, by rw [e3, Bool.and_assoc]⟩
      · cases h
    · rename_i ks' p xs' q ys' h0 h1 h2
      obtain ⟨rfl, rfl⟩ : k0 = 1 ∧ ks ++ js = ks' := by simpa using h0
      obtain ⟨rfl, rfl⟩ : x = .string p ∧ xs ++ b = xs' := by simpa using h1
      obtain ⟨rfl, rfl⟩ : y = .string q ∧ ys ++ d = ys' := by simpa using h2
      split at h
      · rename_i r' hr
        obtain ⟨r1, r2, e1, e2, e3⟩ := eqL_append ks js xs b ys d _ hl' hm' hr
        obtain rfl : ((p == q) && r') = r := by simpa using h
        exact ⟨(p == q) && r1, r2, by simp [eqL, e1], e2, by rw [e3, Bool.and_assoc]⟩
      · cases h
    · rename_i ks' p xs' q ys' h0 h1 h2
      obtain ⟨rfl, rfl⟩ : k0 = 2 ∧ ks ++ js = ks' := by simpa using h0
      obtain ⟨rfl, rfl⟩ : x = .bool p ∧ xs ++ b = xs' := by simpa using h1
      obtain ⟨rfl, rfl⟩ : y = .bool q ∧ ys ++ d = ys' := by simpa using h2
      split at h
      · rename_i r' hr
        obtain ⟨r1, r2, e1, e2, e3⟩ := eqL_append ks js xs b ys d _ hl' hm' hr
        obtain rfl : ((p == q) && r') = r := by simpa using h
        exact ⟨(p == q) && r1, r2, by simp [eqL, e1], e2, by rw [e3, Bool.and_assoc]⟩
      · cases h
    · cases h
theorem eqL_len : ∀ (ks : List Nat) (a c : List Value) (r : Bool), eqL ks a c = some r → a.length = ks.length ∧ c.length = ks.length
  | ks, a, c, r, h => by
    unfold eqL at h
    split at h
    · exact ⟨rfl, rfl⟩
    · split at h
      · rename_i hr; have := eqL_len _ _ _ _ hr; simp [this]
      · cases h
    · split at h
      · rename_i hr; have := eqL_len _ _ _ _ hr; simp [this]
      · cases h
    · split at h
      · rename_i hr; have := eqL_len _ _ _ _ hr; simp [this]
      · cases h
    · cases h
termination_by ks => ks.length
theorem eqL_one {c : Nat} {u v : Value} {b : Bool} (h : eqL [c] [u] [v] = some b) :
    (c = 0 ∧ ∃ k p q, u = .int k p ∧ v = .int k q ∧ b = (p == q)) ∨ (c = 1 ∧ ∃ p q, u = .string p ∧ v = .string q ∧ b = (p == q)) ∨ (c = 2 ∧ ∃ p q, u = .bool p ∧ v = .bool q ∧ b = (p == q)) := by
  unfold eqL at h
  split at h
  · rename_i h0 _ _; cases h0
  · rename_i h0 h1 h2
    obtain ⟨rfl, rfl⟩ := List.cons.inj h0
    obtain ⟨rfl, rfl⟩ := List.cons.inj h1
    obtain ⟨rfl, rfl⟩ := List.cons.inj h2
    split at h
    · rename_i hk hr
      rw [IntKind.same_eq hk]
      simp [eqL] at hr
      subst hr
      exact .inl ⟨rfl, _, _, _, rfl, rfl, by simpa using h.symm⟩
    · cases h
  · rename_i h0 h1 h2
    obtain ⟨rfl, rfl⟩ := List.cons.inj h0
    obtain ⟨rfl, rfl⟩ := List.cons.inj h1
    obtain ⟨rfl, rfl⟩ := List.cons.inj h2
    simp only [eqL, Option.some.injEq, Bool.and_true] at h
    exact .inr (.inl ⟨rfl, _, _, rfl, rfl, h.symm⟩)
  · rename_i h0 h1 h2
    obtain ⟨rfl, rfl⟩ := List.cons.inj h0
    obtain ⟨rfl, rfl⟩ := List.cons.inj h1
    obtain ⟨rfl, rfl⟩ := List.cons.inj h2
    simp only [eqL, Option.some.injEq, Bool.and_true] at h
    exact .inr (.inr ⟨rfl, _, _, rfl, rfl, h.symm⟩)
  · cases h

/-- The cells of a part as one value. -/
def packT (P : Program) (t : TypeId) (cs : List Value) : Value := match isAggT P t with
  | true => .agg cs.toArray
  | false => match cs with | [v] => v | _ => undef

theorem isAgg_run {t : TypeId} {d : TypeDesc} (hu : P.underlying t = some d) (w : World) : (isAgg t).run P w = .ok (isAggT P t) w := by
  unfold isAgg isAggT
  simp only [Sem.run_bind, run_und hu, Result.andThen_ok, hu]
  cases d <;> rfl
theorem part_run {d : Nat} {t : TypeId} {ks : List Nat} (hf : flatT P d t = some ks) (cs : Array Value) (i : Nat) (hi : i + ks.length ≤ cs.size) (w : World) :
    (part t cs i).run P w = .ok (packT P t ((cs.toList.drop i).take ks.length)) w := by
  cases d with
  | zero => simp [flatT] at hf
  | succ d =>
    unfold flatT at hf
    have hex : ∀ v, cs[i]? = some v → (cs.toList.drop i).take 1 = [v] := fun v hv => by
      have h1 : cs.toList[i]? = some v := by simpa using hv
      rw [List.take_one, List.head?_drop, h1]; rfl
    have sc : isAggT P t = false → (∃ q, P.underlying t = some q) → ks.length = 1 → (part t cs i).run P w = .ok (packT P t ((cs.toList.drop i).take ks.length)) w := by
      rintro ha ⟨q, hu⟩ hk
      rw [hk] at hi ⊢
      obtain ⟨v, hv⟩ : ∃ v, cs[i]? = some v := ⟨cs[i], by simp⟩
      unfold part
      simp only [Sem.run_bind, isAgg_run hu, ha, Result.andThen_ok, if_false, Bool.false_eq_true, hv, Sem.run_pure, packT, hex v hv]
    split at hf
    · rename_i fs sz hu hz
      have ha : isAggT P t = true := by simp [isAggT, hu]
      split at hf
      · cases hf
      · split at hf
        · rename_i m hm
          split at hf
          · rename_i hb
            obtain rfl : m = ks := by simpa using hf
            obtain rfl : m.length = sz := Nat.eq_of_beq_eq_true hb
            unfold part
            simp only [Sem.run_bind, isAgg_run hu, ha, Result.andThen_ok, if_true, run_size hz, Sem.run_pure, packT]
            congr 2
            apply Array.ext'
            simp [List.take_drop, Nat.add_comm]
          · cases hf
        · cases hf
    · rename_i hu hz
      exact sc (by simp [isAggT, hu]) ⟨_, hu⟩ (by rw [← Option.some.inj hf]; rfl)
    · rename_i hu hz
      exact sc (by simp [isAggT, hu]) ⟨_, hu⟩ (by rw [← Option.some.inj hf]; rfl)
    · rename_i hu hz
      exact sc (by simp [isAggT, hu]) ⟨_, hu⟩ (by rw [← Option.some.inj hf]; rfl)
    · cases hf

theorem eq_flat : ∀ (d D : Nat) (t : TypeId) (ks : List Nat), d ≤ D → flatT P d t = some ks → ∀ (cs ds : List Value) (r : Bool), eqL ks cs ds = some r → ∀ w, (Op.equalIn D t (packT P t cs) (packT P t ds)).run P w = .ok r w
  | 0, _, _, _, _, hf, _, _, _, _, _ => by simp [flatT] at hf
  | d + 1, D, t, ks, hD, hf, cs, ds, r, he, w => by
    obtain ⟨D', rfl⟩ : ∃ D', D = D' + 1 := ⟨D - 1, by omega⟩
    obtain ⟨hc, hd⟩ := eqL_len _ _ _ _ he
    unfold flatT at hf
    have sc : ∀ (c : Nat), isAggT P t = false → ks = [c] → 
        (∀ u v b, eqL [c] [u] [v] = some b → (Op.equalIn (D' + 1) t u v).run P w = .ok b w) → (Op.equalIn (D' + 1) t (packT P t cs) (packT P t ds)).run P w = .ok r w := by
      intro c ha hk hh
      subst hk
      match cs, hc, ds, hd with
      | [u], _, [v], _ =>
        have p1 : packT P t [u] = u := by simp [packT, ha]
        have p2 : packT P t [v] = v := by simp [packT, ha]
        rw [p1, p2]
        exact hh u v r he
    split at hf
    · rename_i fs sz hu hz
      have ha : isAggT P t = true := by simp [isAggT, hu]
      split at hf
      · cases hf
      · rename_i hp
        split at hf
        · rename_i m hm
          split at hf
          · obtain rfl : m = ks := by simpa using hf
            have hfo : P.fieldsOf t = fs := by simp [Program.fieldsOf, hu]
            simp only [packT, ha]
            rw [run_equalIn_struct (P := P) w D' t _ _ (by rw [hfo]; exact hu) hp, hfo]
            have main : ∀ (l : List Field) (i : Nat) (m : List Nat) (r : Bool), flatFs (flatT P d) l i = some m → eqL m (cs.drop i) (ds.drop i) = some r → 
                (Op.eqFields D' cs.toArray ds.toArray l).run P w = .ok r w := by
              intro l
              induction l with
              | nil =>
                intro i m r h1 h4
                obtain rfl : [] = m := by simpa [flatFs] using h1
                have := eqL_len _ _ _ _ h4
                have e1 : cs.drop i = [] := List.eq_nil_of_length_eq_zero this.1
                have e2 : ds.drop i = [] := List.eq_nil_of_length_eq_zero this.2
                rw [e1, e2] at h4
                obtain rfl : true = r := by simpa [eqL] using h4
                simp [Op.eqFields]
              | cons f fs ih =>
                intro i m r h1 h4
                unfold flatFs at h1
                split at h1
                · rename_i hb
                  rw [Bool.and_eq_true] at hb
                  obtain rfl : f.offset = i := Nat.eq_of_beq_eq_true hb.1
                  split at h1
                  · rename_i c0 n0 hk'
                    obtain ⟨k', hk0, hpos⟩ : ∃ k', k' = c0 :: n0 ∧ 0 < k'.length := ⟨_, rfl, by simp⟩
                    rw [← hk0] at hk' h1
                    split at h1
                    · rename_i rs hrs
                      obtain rfl : k' ++ rs = m := by simpa using h1
                      have hl := eqL_len _ _ _ _ h4
                      simp at hl
                      have e1 : cs.drop f.offset = (cs.drop f.offset).take k'.length ++ cs.drop (f.offset + k'.length) := by
                        rw [← List.drop_drop, List.take_append_drop]
                      have e2 : ds.drop f.offset = (ds.drop f.offset).take k'.length ++ ds.drop (f.offset + k'.length) := by
                        rw [← List.drop_drop, List.take_append_drop]
                      have l1 : ((cs.drop f.offset).take k'.length).length = k'.length := by simp; omega
                      have l2 : ((ds.drop f.offset).take k'.length).length = k'.length := by simp; omega
                      rw [e1, e2] at h4
                      obtain ⟨r1, r2, a1, a2, rfl⟩ := eqL_append _ _ _ _ _ _ _ l1 l2 h4
                      have b2 := ih _ _ _ hrs a2
                      have hn : f.name ≠ "_" := by simpa using hb.2
                      have hle1 : f.offset + k'.length ≤ cs.length := by simp at l1; omega
                      have hle2 : f.offset + k'.length ≤ ds.length := by simp at l2; omega
                      have p1 := part_run hk' cs.toArray f.offset (by simpa using hle1) w
                      have p2 := part_run hk' ds.toArray f.offset (by simpa using hle2) w
                      have p3 := eq_flat d D' f.type k' (by omega) hk' _ _ r1 a1 w
                      rw [Op.eqFields]
                      simp only [if_pos hn, Sem.run_bind, p1, p2, Result.andThen_ok]
                      rw [p3]
                      cases r1
                      · simp
                      · simpa using b2
                    · cases h1
                  · cases h1
                · cases h1
            exact main fs.toList 0 m r hm (by simpa using he)
          · cases hf
        · cases hf
    · rename_i kk hu hz
      refine sc 0 (by simp [isAggT, hu]) (Option.some.inj hf).symm ?_
      intro u v b hb
      rcases eqL_one hb with ⟨_, k, p, q, rfl, rfl, rfl⟩ | ⟨h, _⟩ | ⟨h, _⟩
      · rw [Op.equalIn]; simp [run_und hu]
      · cases h
      · cases h
    · rename_i hu hz
      refine sc 1 (by simp [isAggT, hu]) (Option.some.inj hf).symm ?_
      intro u v b hb
      rcases eqL_one hb with ⟨h, _⟩ | ⟨_, p, q, rfl, rfl, rfl⟩ | ⟨h, _⟩
      · cases h
      · rw [Op.equalIn]; simp [run_und hu]
      · cases h
    · rename_i hu hz
      refine sc 2 (by simp [isAggT, hu]) (Option.some.inj hf).symm ?_
      intro u v b hb
      rcases eqL_one hb with ⟨h, _⟩ | ⟨h, _⟩ | ⟨_, p, q, rfl, rfl, rfl⟩
      · cases h
      · cases h
      · rw [Op.equalIn]; simp [run_und hu]
    · cases hf

theorem sure_eqL {K : Value → Prop} {op : BinOp} {t yt : TypeId} {x y : Operand} (ho : o.op = .binOp op t x y yt) {xs ys : Array Value} {ks : List Nat} {r : Bool}
    (hx : a.eval x = .agg xs) (hy : a.eval y = .agg ys) (ha : isAggT P t = true) (hf : flatT P 8 t = some ks) (hg : P.eqGuardType P.depth t = false) (he : eqL ks xs.toList ys.toList = some r) (h : eqB op r K) : Sure P a o K := by
  refine run_eqB ho h hx hy (fun w => ?_) rfl (fun w => ?_)
  · have : ∀ x y : Operand, (eqGuard op t x y (.agg xs) (.agg ys)).run P w = .ok () w := fun x y => by
      cases op <;> simp [eqGuard, program, Sem.run, hg]
    exact this x y
  · have := eq_flat 8 10000 t ks (by decide) hf xs.toList ys.toList r he w
    simpa [packT, ha, Op.equal, Op.maxDepth] using this
end
end Go.Vc
/- That 'vc' suffices: whichever operation that looks at no world. -/
namespace Go.Vc
open Go
set_option linter.unusedSimpArgs false
set_option linter.unusedVariables false
section
variable {P : Program} {n : Nat} {e : Env} {a : Act} {o : Oper} {w : World}

theorem map_some_bound {lo : Operand} {v : Option Value} {F : Int → Prop} (h : bound (some v) 0 F) : ∃ k n, v = some (.int k n) ∧ F n := by
  rcases bound_spec h with ⟨h1, _⟩ | ⟨k, n, h1, h2⟩
  · cases h1
  · exact ⟨k, n, by simpa using h1, h2⟩

theorem sure_conv {K : Value → Prop} {ex : Bool} {s d : TypeId} {x : Operand} (ho : o.op = .convert s d x) {k k' : IntKind} {z : Int} {q : TypeDesc}
    (hx : a.eval x = .int k z) (hd : P.underlying d = some (.int k')) (hsr : P.underlying s = some q) (h : num ex k' z K) : Sure P a o K :=
  ⟨_, fun w => by simp [execOp, ho, hx, convert, run_und hd, run_und hsr, Conv.intToInt], run_num h⟩
theorem sure_convS {K : Value → Prop} {s d : TypeId} {x : Operand} (ho : o.op = .convert s d x) {z : ByteArray} {q : TypeDesc}
    (hx : a.eval x = .string z) (hd : P.underlying d = some .string) (hsr : P.underlying s = some q) (h : K (.string z)) : Sure P a o K :=
  ⟨_, fun w => by simp [execOp, ho, hx, convert, run_und hd, run_und hsr], h⟩

theorem wInt_spec {v : Option Value} {F : IntKind → Int → Prop} (h : wInt v F) : ∃ k n, v = some (.int k n) ∧ F k n := by
  unfold wInt at h
  split at h
  · exact ⟨_, _, rfl, h⟩
  · exact h.elim
theorem vcPure_sound {K : Value → Prop} {ex : Bool} (hs : Sat n e a) (h : vcPure P ex o e K) : Sure P a o K := by
  unfold vcPure at h
  split at h
  · -- move
    rename_i x ho
    split at h
    · rename_i v hv; exact sure_move x (.inl ho) (hs.ev hv) h
    · exact h.elim
  · rename_i x ho
    split at h
    · rename_i v hv; exact sure_move x (.inr ho) (hs.ev hv) h
    · exact h.elim
  · -- pick
    rename_i c x y ho
    split at h
    · rename_i b u v hc hx hy; exact sure_pick ho (hs.ev hc) (hs.ev hx) (hs.ev hy) h
    · exact h.elim
  · rename_i x ho
    split at h
    · rename_i p hp; exact sure_nil ho (hs.ev hp) h
    · exact general_sound hs h
  · -- indexAddr
    rename_i t x i ho
    split at h
    · rename_i p m c k j hx hi
      split at h
      · rename_i el hu
        split at h
        · rename_i sz hz; exact sure_idxA ho (hs.ev hx) (hs.ev hi) hu hz h
        · exact h.elim
      · exact h.elim
    · rename_i q k j hx hi
      split at h
      · rename_i m el hu
        split at h
        · exact h.elim
        · split at h
          · rename_i sz hz; exact sure_idxR ho (hs.ev hx) (hs.ev hi) hu hz h
          · exact h.elim
      · exact h.elim
    · exact h.elim
  · -- index
    rename_i t x i ho
    split at h
    · rename_i s k j hx hi
      split at h
      · rename_i hu; exact sure_idxS ho (hs.ev hx) (hs.ev hi) hu h
      · exact h.elim
    · exact h.elim
  · -- slice
    rename_i t x lo hi ho
    split at h
    · rename_i s hx
      split at h
      · rename_i hu; exact sure_slS hs ho (hs.ev hx) hu h
      · exact h.elim
    · rename_i p m c hx
      split at h
      · rename_i el hu
        split at h
        · rename_i sz hz
          split at h
          · refine sure_sl hs ho (hs.ev hx) hu hz (l := 0) (.inl ⟨rfl, rfl⟩) ?_
            simpa [map_add_zero, add_zero] using h
          · rename_i lo'
            obtain ⟨k, j, h1, h2⟩ := map_some_bound (lo := lo') h
            exact sure_sl hs ho (hs.ev hx) hu hz (l := j) (.inr ⟨lo', k, rfl, hs.ev h1⟩) h2
        · exact h.elim
      · exact h.elim
    · exact h.elim
  · -- slice with three bounds
    rename_i t x lo hi mx ho
    split at h
    · rename_i p m c hx
      split at h
      · rename_i el hu
        split at h
        · rename_i sz hz
          obtain ⟨k1, l, h1, h⟩ := wInt_spec h
          obtain ⟨k2, h', h2, h⟩ := wInt_spec h
          obtain ⟨k3, m', h3, h⟩ := wInt_spec h
          exact sure_sl3 ho (hs.ev hx) hu hz (hs.ev h1) (hs.ev h2) (hs.ev h3) h
        · exact h.elim
      · exact h.elim
    · exact h.elim
  · -- binOp
    rename_i op t x y yt ho
    split at h
    · rename_i k p k' q hx hy
      split at h
      · exact sure_shI ho (hs.ev hx) (hs.ev hy) h
      · exact sure_shI ho (hs.ev hx) (hs.ev hy) h
      · rename_i n1 n2
        split at h
        · rename_i hk
          obtain rfl := IntKind.same_eq hk
          exact sure_binI hs ho (hs.ev hx) (hs.ev hy) (fun e => n1 e) (fun e => n2 e) h
        · exact h.elim
    · rename_i p q hx hy
      split at h
      · exact sure_cat ho (hs.ev hx) (hs.ev hy) h
      · exact general_sound hs h
    · exact general_sound hs h
    · rename_i xs ys hx hy
      split at h
      · rename_i ks ha hf hg
        split at h
        · rename_i r he; exact sure_eqL ho (hs.ev hx) (hs.ev hy) ha hf hg he h
        · exact h.elim
      · exact h.elim
    · rename_i v u n1 n2 n3 n4 hx hy
      split at h
      · rename_i hn
        split at h
        · rename_i d hu; exact sure_nilR ho hu hn (hs.ev hx) h
        · exact h.elim
      · split at h
        · split at h
          · rename_i d hu; exact sure_nilL ho hu (hs.ev hy) h
          · exact h.elim
        · exact general_sound hs h
    · exact h.elim
  · -- convert
    rename_i s d x ho
    split at h
    · rename_i k z hx
      split at h
      · rename_i k' q hd hsr; exact sure_conv ho (hs.ev hx) hd hsr h
      · exact general_sound hs h
    · rename_i z hx
      split at h
      · rename_i q hd hsr; exact sure_convS ho (hs.ev hx) hd hsr h
      · exact h.elim
    · exact general_sound hs h
  · exact general_sound hs h
end
end Go.Vc
/- That 'vc' suffices: loads, stores, calls. -/
namespace Go.Vc
open Go
set_option linter.unusedSimpArgs false
set_option linter.unusedVariables false
section
variable {P : Program} {n : Nat} {e : Env} {a : Act} {o : Oper} {w : World}

theorem LdS_spec {t : STy} {c : Option Value} {K : Value → Prop} (h : LdS t c K) : ∃ v, c = some v ∧ K v := by
  cases t <;> simp only [LdS, LdI, LdB, LdStr, LdP, LdSl, LdM, LdV] at h
  all_goals first
    | (obtain ⟨x, h1, h2⟩ := h; exact ⟨_, h1, h2⟩)
    | (obtain ⟨x, y, z, h1, h2⟩ := h; exact ⟨_, h1, h2⟩)
theorem sex_spec {t : STy} {K : Value → Prop} (h : t.ex K) : ∃ v, K v := by
  cases t <;> simp only [STy.ex] at h
  all_goals first
    | (obtain ⟨x, h1⟩ := h; exact ⟨_, h1⟩)
    | (obtain ⟨x, y, z, h1⟩ := h; exact ⟨_, h1⟩)
theorem sexs_spec : ∀ {ts : List STy} {K : List Value → Prop}, STys.ex ts K → ∃ v, K v
  | [], _, h => ⟨_, h⟩
  | t :: ts, K, h => by
    obtain ⟨v, hv⟩ := sex_spec h
    obtain ⟨vs, hvs⟩ := sexs_spec hv
    exact ⟨_, hvs⟩
theorem tex_spec {t : Ty} {K : Value → Prop} (h : t.ex K) : ∃ v, K v := by
  cases t with
  | s t => exact sex_spec h
  | agg ts => obtain ⟨vs, h⟩ := sexs_spec h; exact ⟨_, h⟩
theorem texs_spec : ∀ {ts : List Ty} {K : List Value → Prop}, Tys.ex ts K → ∃ v, K v
  | [], _, h => ⟨_, h⟩
  | t :: ts, K, h => by
    obtain ⟨v, hv⟩ := tex_spec h
    obtain ⟨vs, hvs⟩ := texs_spec hv
    exact ⟨_, hvs⟩
theorem HdS_spec {t : STy} {S : World → Prop} {q : Addr} {K : Value → Prop} (h : HdS t S q K) : ∃ v, Held S q v ∧ K v := sex_spec h
theorem LdCells_spec {q : Addr} : ∀ {ts : List STy} {i : Nat} {acc : List Value} {K : List Value → Prop}, LdCells w q ts i acc K →
    ∃ vs : List Value, vs.length = ts.length ∧ (∀ (j : Nat) v, vs[j]? = some v → w.cell? (q.add (i + j)) = some v) ∧ K (acc.reverse ++ vs)
  | [], i, acc, K, h => ⟨[], rfl, by simp, by simpa [LdCells] using h⟩
  | t :: ts, i, acc, K, h => by
    obtain ⟨v, h1, h2⟩ := LdS_spec h
    obtain ⟨vs, h3, h4, h5⟩ := LdCells_spec h2
    refine ⟨v :: vs, by simp [h3], fun j u hj => ?_, by simpa using h5⟩
    cases j with
    | zero => obtain rfl : v = u := by simpa using hj
              exact h1
    | succ j => 
      have := h4 j u (by simpa using hj)
      rwa [show i + (j + 1) = i + 1 + j by omega]
theorem HdCells_spec {S : World → Prop} {q : Addr} : ∀ {ts : List STy} {i : Nat} {acc : List Value} {K : List Value → Prop}, HdCells S q ts i acc K →
    ∃ vs : List Value, vs.length = ts.length ∧ (∀ (j : Nat) v, vs[j]? = some v → Held S (q.add (i + j)) v) ∧ K (acc.reverse ++ vs)
  | [], i, acc, K, h => ⟨[], rfl, by simp, by simpa [HdCells] using h⟩
  | t :: ts, i, acc, K, h => by
    obtain ⟨v, h1, h2⟩ := HdS_spec h
    obtain ⟨vs, h3, h4, h5⟩ := HdCells_spec h2
    refine ⟨v :: vs, by simp [h3], fun j u hj => ?_, by simpa using h5⟩
    cases j with
    | zero => obtain rfl : v = u := by simpa using hj
              exact h1
    | succ j => 
      have := h4 j u (by simpa using hj)
      rwa [show i + (j + 1) = i + 1 + j by omega]
theorem tyOf_spec {t : TypeId} {ty : Ty} (h : tyOf P t = some ty) : (∃ d, P.underlying t = some d) ∧
    ((∃ s, ty = .s s ∧ isAggT P t = false) ∨ ∃ ts, ty = .agg ts ∧ isAggT P t = true ∧ sizeT P t = some ts.length) := by
  unfold tyOf at h
  split at h
  · rename_i ha
    split at h
    · rename_i l m hl hm
      split at h
      · rename_i hb
        obtain rfl := Option.some.inj h
        refine ⟨?_, .inr ⟨l, rfl, ha, by rw [hm, Nat.eq_of_beq_eq_true hb]⟩⟩
        unfold isAggT at ha
        cases hu : P.underlying t with
        | none => rw [hu] at ha; cases ha
        | some d => exact ⟨d, rfl⟩
      · cases h
    · cases h
  · rename_i ha
    split at h
    · rename_i s hs
      obtain rfl := Option.some.inj h
      refine ⟨?_, .inl ⟨s, rfl, ha⟩⟩
      unfold styOf at hs
      cases hu : P.underlying t with
      | none => rw [hu] at hs; cases hs
      | some d => exact ⟨d, rfl⟩
    · cases h
theorem LdT_spec {t : TypeId} {ty : Ty} (ht : tyOf P t = some ty) {q : Addr} {K : Value → Prop} (h : LdT ty w q K) : ∃ v, (loadVar t q).run P w = .ok v w ∧ K v := by
  obtain ⟨⟨d, hu⟩, ⟨s, rfl, ha⟩ | ⟨ts, rfl, ha, hz⟩⟩ := tyOf_spec ht
  · obtain ⟨v, h1, h2⟩ := LdS_spec h
    exact ⟨v, by unfold loadVar; simp [Sem.run_bind, isAgg_run hu, ha, h1], h2⟩
  · obtain ⟨vs, h1, h2, h3⟩ := LdCells_spec h
    refine ⟨_, ?_, h3⟩
    have := run_loadCells_list (P := P) w q vs (fun j v hj => by have := h2 j v hj; rwa [Nat.zero_add] at this)
    unfold loadVar
    simp only [Sem.run_bind, isAgg_run hu, ha, Result.andThen_ok, if_true, run_size hz, ← h1, this]
    simp
theorem HdT_spec {t : TypeId} {ty : Ty} (ht : tyOf P t = some ty) {S : World → Prop} {q : Addr} {K : Value → Prop} (h : HdT ty S q K) : ∃ v, (∀ w, S w → (loadVar t q).run P w = .ok v w) ∧ K v := by
  obtain ⟨⟨d, hu⟩, ⟨s, rfl, ha⟩ | ⟨ts, rfl, ha, hz⟩⟩ := tyOf_spec ht
  · obtain ⟨v, h1, h2⟩ := HdS_spec h
    exact ⟨v, fun w hw => by unfold loadVar; simp [Sem.run_bind, isAgg_run hu, ha, h1 w hw], h2⟩
  · obtain ⟨vs, h1, h2, h3⟩ := HdCells_spec h
    refine ⟨_, fun w hw => ?_, h3⟩
    have := run_loadCells_list (P := P) w q vs (fun j v hj => by have := h2 j v hj; rw [Nat.zero_add] at this; exact this w hw)
    unfold loadVar
    simp only [Sem.run_bind, isAgg_run hu, ha, Result.andThen_ok, if_true, run_size hz, ← h1, this]
    simp
theorem oneC_spec {v : Value} {X : Prop} (h : oneC v X) : v.oneCell' = true ∧ X := by
  unfold oneC at h
  split at h
  · exact h.elim
  · exact h.elim
  · rename_i n1 n2
    refine ⟨?_, h⟩
    cases v <;> first | rfl | exact absurd rfl (n1 _) | exact absurd rfl (n2 _)
theorem StCells_spec {q : Addr} : ∀ {vs : List Value} {w : World} {i : Nat} {K : World → Prop}, StCells q w vs i K → ∃ w', (storeCells q vs i).run P w = .ok () w' ∧ K w'
  | [], w, i, K, h => ⟨w, rfl, h⟩
  | v :: vs, w, i, K, h => by
    obtain ⟨h1, ⟨old, h2⟩, h3, h4⟩ := oneC_spec h
    obtain ⟨w', h5, h6⟩ := StCells_spec h4
    refine ⟨w', ?_, h6⟩
    unfold storeCells
    simp only [Sem.run_bind, run_store P w _ _ _ h1, h2, h3, Result.andThen_ok]
    simpa using h5
theorem tupK_spec {t : TypeId} {K K' : Value → World → Prop} (h : tupK P t K = some K') {v : Value} (hv : K' v w) : K v w := by
  unfold tupK at h
  split at h
  · split at h
    · obtain rfl := Option.some.inj h
      obtain ⟨vs, rfl, h2⟩ := texs_spec hv
      exact h2
    · cases h
  · split at h
    · obtain rfl := Option.some.inj h
      obtain ⟨u, rfl, h2⟩ := tex_spec hv
      exact h2
    · cases h
theorem rawK_spec {t : TypeId} {s : Sem Value} {K : Value → World → Prop} (h : rawK P t s w K) : ∃ v w', s.run P w = .ok v w' ∧ K v w' := by
  unfold rawK at h
  split at h
  · rename_i K' hK
    obtain ⟨v, w', h1, h2⟩ := h
    exact ⟨v, w', h1, tupK_spec hK h2⟩
  · exact h.elim
end
end Go.Vc
/- That 'vc' suffices: whichever operation. -/
namespace Go.Vc
open Go
set_option linter.unusedSimpArgs false
set_option linter.unusedVariables false
section
variable {P : Program} {n : Nat} {e : Env} {a : Act} {o : Oper} {w : World} {R : Ending → World → Prop} {next : Act → World → Prop} {Q : Exit → Act → World → Prop}

theorem wp_value {v : Value} {w' : World} (h : (execOp a.eval o).run P w = .ok (.value v) w') (hn : next (a.put o.dst v) w') : o.wp P a w next Q := by
  unfold Oper.wp; rw [h]; exact hn
theorem wp_skip {w' : World} (h : (execOp a.eval o).run P w = .ok .skip w') (hn : next (a.put o.dst undef) w') : o.wp P a w next Q := by
  unfold Oper.wp; rw [h]; exact hn
theorem wp_sure {K : Value → Prop} (h : Sure P a o K) (hK : ∀ v, K v → next (a.put o.dst v) w) : o.wp P a w next Q := by
  obtain ⟨v, h1, h2⟩ := h
  exact wp_value (h1 w) (hK v h2)
theorem zeroT_run {t : TypeId} {z : Value} (h : zeroT P t = some z) (w : World) : (zeroValue t).run P w = .ok z w := by
  unfold zeroT at h
  split at h
  · rename_i i hi
    simp [zeroValue, typeInfo, program, hi, h, Sem.run]
  · cases h
theorem bytesT_run {t : TypeId} {k : Nat} (h : bytesT P t = some k) (w : World) : ∃ i, (typeInfo t).run P w = .ok i w ∧ i.bytes = k := by
  unfold bytesT at h
  split at h
  · rename_i i hi
    exact ⟨i, by simp [typeInfo, program, hi, Sem.run], by simpa using h⟩
  · cases h
theorem run_sameAddr {p q : Addr} (h : p.block ≠ q.block → (∃ c t, w.heap[p.block]? = some (.cells c t (0, 0))) ∧ (∃ c t, w.heap[q.block]? = some (.cells c t (0, 0)))) : (sameAddr p q).run P w = .ok (decide (p = q)) w := by
  unfold sameAddr
  by_cases hb : p.block = q.block
  · by_cases hpq : p = q <;> simp [hb, hpq]
  · obtain ⟨⟨c, t, h1⟩, ⟨c', t', h2⟩⟩ := h hb
    have hne : ¬ p = q := fun e => hb (by rw [e])
    have hb' : (p.block == q.block) = false := by simpa using hb
    have f : ∀ (x : Addr) (c : Array Value) (t : TypeId), w.heap[x.block]? = some (.cells c t (0, 0)) → w.frozen? x = false ∧ w.frozen? { block := x.block, off := c.size } = false ∧ w.shape? x.block = some (t, c.size) := fun x c t hx => by
      simp [World.frozen?, World.shape?, hx]
    obtain ⟨a1, a2, a3⟩ := f p c t h1
    obtain ⟨b1, b2, b3⟩ := f q c' t' h2
    simp [hb', a1, b1, noView, viewAt, a3, b3, mayBeOne, stringish, a2, b2, hne]
theorem okF_spec {f : FuncId} (h : okF P f = true) {args : Array Value} (w : World) : (callFunc f args).run P w = .ok (.enter f args) w := by
  unfold okF at h
  split at h
  · rename_i fn hf
    rw [Bool.and_eq_true] at h
    have h1 : ¬ (fn.name == "runtime.NumGoroutine") = true := by simpa using h.2
    have h2 : ¬ (fn.body.isNone = true) := by cases hb : fn.body with | none => rw [hb] at h; cases h.1 | some c => simp
    simp only [callFunc, Sem.run_bind, run_program, Result.andThen_ok, hf, Sem.run_ite, if_neg h1, if_neg h2, Sem.run_pure]
  · cases h
theorem post_upon {f : FuncId} {args : Array Value} {K : Value → World → Prop} (hr : (execOp a.eval o).run P w = .ok (.enter f args) w) (hK : ∀ v w', K v w' → next (a.put o.dst v) w')
    (hP : ∀ ch w', R (.panicked ch) w' → Q (.panic ch) a w') (hO : ∀ w', R .outgrown w' → LetsOut Q) (h : Calls P f args w (post R K)) : o.wp P a w next Q := by
  unfold Oper.wp
  rw [hr]
  refine Calls.mono h ?_
  intro e w' he
  cases e with
  | returned v => exact hK _ _ he
  | panicked ch => exact hP _ _ he
  | outgrown => exact hO _ he
theorem callV_spec {v : Value} {args : Array Value} {K : Value → World → Prop} {x : Operand} {c : Call} (ho : o.op = .call c) (hc : c.callee = .value x) (hx : a.eval x = v) (ha : c.args.map a.eval = args)
    (hK : ∀ v w', K v w' → next (a.put o.dst v) w') (hP : ∀ ch w', R (.panicked ch) w' → Q (.panic ch) a w') (hO : ∀ w', R .outgrown w' → LetsOut Q) (h : CallV P v args w R K) : o.wp P a w next Q := by
  unfold CallV at h
  split at h
  · rename_i f first cap
    obtain ⟨h1, h2⟩ := h
    refine post_upon (f := f) ?_ hK hP hO h2
    simp only [execOp, ho, resolve, hc, hx, ha, Deferred.ofValue, Sem.run_bind, Sem.run_pure, Result.andThen_ok, invoke, okF_spec h1]
  · exact h.elim
theorem callK_sound {c : Call} (ho : o.op = .call c) {K : Value → World → Prop} (hs : Sat n e a) (hK : ∀ v w', K v w' → next (a.put o.dst v) w') (hP : ∀ ch w', R (.panicked ch) w' → Q (.panic ch) a w')
    (hO : ∀ w', R .outgrown w' → LetsOut Q) (h : vcCall P R o c e w K) : o.wp P a w next Q := by
  have hmono : ∀ {K' : Value → World → Prop}, tupK P o.type K = some K' → ∀ v w', K' v w' → next (a.put o.dst v) w' := fun hK' v w' hv => hK _ _ (tupK_spec hK' hv)
  unfold vcCall at h
  split at h
  · rename_i f hc
    split at h
    · rename_i hf
      split at h
      · rename_i vs K' hv hK'
        refine post_upon (f := f) ?_ (hmono hK') hP hO h
        simp only [execOp, ho, resolve, hc, Act.eval, Deferred.ofValue, Sem.run_bind, Sem.run_pure, Result.andThen_ok, invoke]
        rw [hs.evsA hv]
        simp only [Array.empty_append, Array.append_empty]
        rw [okF_spec hf]
      · exact h.elim
    · split at h
      · rename_i vs K' hv hK'
        obtain ⟨v, w', h1, h2⟩ := h
        refine wp_value ?_ (hmono hK' _ _ h2)
        simp only [execOp, ho, resolve, hc, Act.eval, Deferred.ofValue, Sem.run_bind, Sem.run_pure, Result.andThen_ok, invoke]
        rw [hs.evsA hv]
        simp only [Array.empty_append, Array.append_empty]
        exact h1
      · exact h.elim
  · rename_i x _ hc
    split at h
    · rename_i v vs K' hx hv hK'
      exact callV_spec ho hc (hs.ev hx) (hs.evsA hv) (hmono hK') hP hO h
    · exact h.elim
  · rename_i x name hc
    split at h
    · rename_i v vs K' hx hv hK'
      obtain ⟨f, args', h1, h2⟩ := h
      refine post_upon (f := f) (args := args') ?_ (hmono hK') hP hO h2
      have e1 : a.eval x = v := hs.ev hx
      have e2 : c.args.map a.eval = vs.toArray := hs.evsA hv
      simp only [execOp, ho, resolve, hc, Sem.run_bind, Sem.run_pure, Result.andThen_ok, invoke]
      rw [show (c.args.map a.eval : Array Value) = vs.toArray from e2, e1]
      have e3 : (#[v] ++ vs.toArray)[0]? = some v := by simp
      have e4 : (#[v] ++ vs.toArray).extract 1 (#[v] ++ vs.toArray).size = vs.toArray := by
        apply Array.ext'
        simp
      simp only [e3, e4]
      exact h1
    · exact h.elim
  · rename_i hc
    split at h
    · rename_i vs hv
      obtain ⟨v, w', h1, h2⟩ := rawK_spec h
      refine wp_value ?_ (hK _ _ h2)
      simp [execOp, ho, resolve, hc, hs.evsA hv, invoke, builtin, h1]
    · exact h.elim
  · rename_i hc
    split at h
    · rename_i vs hv
      obtain ⟨v, w', h1, h2⟩ := rawK_spec h
      refine wp_value ?_ (hK _ _ h2)
      simp [execOp, ho, resolve, hc, hs.evsA hv, invoke, builtin, h1]
    · exact h.elim
  · rename_i hc
    split at h
    · rename_i vs hv
      obtain ⟨v, w', h1, h2⟩ := h
      refine wp_value ?_ (hK _ _ h2)
      simp [execOp, ho, resolve, hc, hs.evsA hv, invoke, builtin, h1]
    · exact h.elim
  · rename_i hc
    split at h
    · rename_i vs hv
      obtain ⟨v, w', h1, h2⟩ := h
      refine wp_value ?_ (hK _ _ h2)
      simp [execOp, ho, resolve, hc, hs.evsA hv, invoke, builtin, h1]
    · exact h.elim
  · rename_i hc
    split at h
    · rename_i r hv
      obtain ⟨v, w', h1, h2⟩ := rawK_spec h
      refine wp_value ?_ (hK _ _ h2)
      simp [execOp, ho, resolve, hc, hs.evsA hv, invoke, builtin, h1]
    · exact wp_sure (general_sound hs h) fun v hv => hK _ _ hv
  · rename_i hc
    split at h
    · rename_i t v hv
      have hr : (execOp a.eval o).run P w = .halt (.panic (.iface t v)) w := by
        simp [execOp, ho, resolve, hc, hs.evsA hv, invoke, builtin, Instr.panic]
      unfold Oper.wp
      rw [hr]
      exact hP _ _ h
    · exact h.elim
  · exact wp_sure (general_sound hs h) fun v hv => hK _ _ hv
  · exact wp_sure (general_sound hs h) fun v hv => hK _ _ hv
  · exact wp_sure (general_sound hs h) fun v hv => hK _ _ hv
  · exact h.elim

theorem ptrEq_sound {op : BinOp} {t yt : TypeId} {x y : Operand} (ho : o.op = .binOp op t x y yt) {K : Value → World → Prop} {p q : Option Addr} (hx : a.eval x = .pointer p) (hy : a.eval y = .pointer q)
    (hK : ∀ v w', K v w' → next (a.put o.dst v) w') (h : ptrEq P op t p q w K) : o.wp P a w next Q := by
  unfold ptrEq at h
  split at h
  · rename_i el hu
    split at h
    · rename_i k hz
      obtain ⟨h1, h2⟩ := h
      have he : (Op.equal t (.pointer p) (.pointer q)).run P w = .ok (decide (p = q)) w := by
        show (Op.equalIn (9999 + 1) t (.pointer p) (.pointer q)).run P w = _
        rw [Op.equalIn]
        cases p with
        | none => cases q <;> simp [run_und hu]
        | some p => 
          cases q with
          | none => simp [run_und hu]
          | some q =>
            have := run_sameAddr (P := P) (w := w) (p := p) (q := q) (fun hb => h1 p q rfl rfl hb)
            simp [run_und hu, run_size hz, this]
      have hb := run_binOp_eql (P := P) (t := t) (u := .pointer p) (v := .pointer q) rfl w he
      have hg : (eqGuard op t x y (.pointer p) (.pointer q)).run P w = .ok () w := guardE op t x y _ _ w (by simp) (by simp)
      rcases eqB_spec h2 with ⟨rfl, h'⟩ | ⟨rfl, h'⟩
      · exact wp_value (by simp [execOp, ho, hx, hy, hg, hb.1]) (hK _ _ h')
      · exact wp_value (by simp [execOp, ho, hx, hy, hg, hb.2]) (hK _ _ h')
    · exact h.elim
  · exact h.elim

theorem vcOp_sound {ex : Bool} {K : Value → World → Prop} (hs : Sat n e a) (hK : ∀ v w', K v w' → next (a.put o.dst v) w') (hP : ∀ ch w', R (.panicked ch) w' → Q (.panic ch) a w')
    (hO : ∀ w', R .outgrown w' → LetsOut Q) (h : vcOp P R ex o e w K) : o.wp P a w next Q := by
  have pure' : (vcPure P ex o e fun v => K v w) → o.wp P a w next Q := fun h => wp_sure (vcPure_sound hs h) fun v hv => hK _ _ hv
  unfold vcOp at h
  split at h
  · -- alloc
    rename_i t ho
    split at h
    · rename_i z hz
      exact wp_value (by simp [execOp, ho, Instr.alloc, zeroT_run hz, newVar, newRow]) (hK _ _ h)
    · exact h.elim
  · -- box
    rename_i t x ho
    split at h
    · rename_i v hx
      exact wp_value (by simp [execOp, ho, Instr.box, hs.ev hx, newVar, newRow]) (hK _ _ h)
    · exact h.elim
  · -- buildSlice
    rename_i t len parts ho
    split at h
    · rename_i el hk hu
      split at h
      · rename_i sz z hz hzz
        split at h
        · rename_i cells hle hf
          refine wp_value ?_ (hK _ _ h)
          have hp : (parts.map fun p => (p.1, a.eval p.2)).toList = parts.toList.map fun p => (p.1, e.evD p.2) := by
            rw [Array.toList_map]
            refine List.map_congr_left fun p hp => ?_
            rw [hs.evD hk p.2 (List.mem_map.2 ⟨p, hp, rfl⟩)]
          have hle' : ¬ (2 ^ 24 < len * sz) := by have := Nat.le_of_ble_eq_true hle; omega
          have hm : ∀ g : Nat → Value, len * sz = 0 → (Array.range (len * sz)).map g = #[] := fun g h0 => by rw [h0]; simp
          simp only [execOp, ho, Instr.buildSlice, Sem.run_bind, run_und hu, Result.andThen_ok, run_size hz, gt_iff_lt, if_neg hle', hp, Sem.run_ite]
          by_cases h0 : len * sz = 0
          · rw [hm _ h0] at hf
            simp only [if_pos h0, Sem.run_bind, Sem.run_pure, Result.andThen_ok, hm _ h0, hf]
            simp [newRow]
          · simp only [if_neg h0, Sem.run_bind, Sem.run_pure, Result.andThen_ok, zeroT_run hzz, hf]
            simp [newRow]
        · exact h.elim
      · exact h.elim
    · exact h.elim
  · -- load
    rename_i t x ho
    split at h
    · rename_i q ty hx ht
      obtain ⟨v, h1, h2⟩ := LdT_spec ht h
      exact wp_value (by simp [execOp, ho, hs.ev hx, Instr.loadAt, Instr.sureAddr, h1]) (hK _ _ h2)
    · exact h.elim
  · -- store
    rename_i t x y ho
    split at h
    · rename_i q v m hx hy hz
      split at h
      · rename_i hb
        obtain ⟨w', h1, h2⟩ := StCells_spec h
        have hb' : v.cells.size = m := Nat.eq_of_beq_eq_true hb
        exact wp_skip (by simp only [execOp, ho, hs.ev hx, hs.ev hy, Instr.storeAt, Instr.sureAddr, storeVar, Sem.run_bind, Sem.run_pure, Result.andThen_ok, run_size hz, hb', ne_eq, not_true, if_false]; rw [h1]; rfl) (hK _ _ h2)
      · exact h.elim
    · exact h.elim
  · -- makeMap
    rename_i t r ho
    split at h
    · exact wp_value (by simp [execOp, ho, Instr.makeMap]) (hK _ _ h)
    · rename_i x
      split at h
      · rename_i hx hu
        exact wp_value (by simp [execOp, ho, Instr.makeMap, hs.ev hx, run_und hu, asInt, asIntOf]) (hK _ _ h)
      · exact h.elim
  · -- makeSlice
    rename_i t l c ho
    split at h
    · rename_i k l' k' c' el hl hc hu
      split at h
      · rename_i sz by_ z hz hb hzz
        obtain ⟨h1, h2, h3, h4⟩ := h
        obtain ⟨i, hi, hib⟩ := bytesT_run hb w
        refine wp_value ?_ (hK _ _ h4)
        have hc48 : c' ≤ 281474976710656 := by
          have hb1 : (1 : Int) ≤ ((by_ + 1 : Nat) : Int) := by omega
          have : 1 * c' ≤ ((by_ + 1 : Nat) : Int) * c' := Int.mul_le_mul_of_nonneg_right hb1 (by omega)
          omega
        have w1 : IntKind.i64.wrap l' = l' := wrap_of ⟨by simp [IntKind.min, IntKind.signed, IntKind.bits]; omega, by simp [IntKind.max, IntKind.signed, IntKind.bits]; omega⟩
        have w2 : IntKind.i64.wrap c' = c' := wrap_of ⟨by simp [IntKind.min, IntKind.signed, IntKind.bits]; omega, by simp [IntKind.max, IntKind.signed, IntKind.bits]; omega⟩
        have g1 : (decide (c' < 0) || decide (((by_ + 1 : Nat) : Int) * c' > 2 ^ 48) || decide (l' < 0) || decide (l' > c')) = false := by
          simp only [Bool.or_eq_false_iff, decide_eq_false_iff_not]
          refine ⟨⟨⟨by omega, by omega⟩, by omega⟩, by omega⟩
        have hm : ∀ g : Nat → Value, c'.toNat * sz = 0 → (Array.range (c'.toNat * sz)).map g = #[] := fun g h0 => by rw [h0]; simp
        simp only [execOp, ho, Instr.makeSlice, hs.ev hl, hs.ev hc, asInt, asIntOf, Sem.run_bind, Sem.run_pure, run_und hu, hi, Result.andThen_ok, w1, w2, hib, g1, Bool.false_eq_true, if_false, run_askRoom, run_size hz, Sem.run_ite]
        by_cases h0 : c'.toNat * sz = 0
        · simp only [if_pos h0, Sem.run_bind, Sem.run_pure, Result.andThen_ok]
          simp only [zrow, hm _ h0]
          simp [newRow]
        · simp only [if_neg h0, Sem.run_bind, Sem.run_pure, Result.andThen_ok, zeroT_run hzz]
          simp [newRow, zrow]
      · exact h.elim
    · exact h.elim
  · -- binOp
    rename_i op t x y yt ho
    split at h
    · exact pure' h
    · split at h
      · rename_i p q hx hy; exact ptrEq_sound ho (hs.ev hx) (hs.ev hy) hK h
      · exact pure' h
  · -- convert
    rename_i s d x ho
    have raw : ∀ {v : Value}, a.eval x = v → rawK P o.type (convert s d v) w K → o.wp P a w next Q := fun {v} hv h => by
      obtain ⟨u, w', h1, h2⟩ := rawK_spec h
      exact wp_value (by simp [execOp, ho, hv, h1]) (hK _ _ h2)
    split at h
    · rename_i hx hd; exact raw (hs.ev hx) h
    · rename_i hx hd; exact raw (hs.ev hx) h
    · rename_i hx hd; exact raw (hs.ev hx) h
    · exact pure' h
  · -- lookup
    rename_i t m k ok ho
    split at h
    · rename_i m' k' hm hk
      obtain ⟨u, w', h1, h2⟩ := rawK_spec h
      exact wp_value (by simp [execOp, ho, hs.ev hm, hs.ev hk, h1]) (hK _ _ h2)
    · exact h.elim
  · rename_i t m k x ho
    split at h
    · rename_i m' k' v' hm hk hx
      obtain ⟨u, w', h1, h2⟩ := h
      exact wp_skip (by simp [execOp, ho, hs.ev hm, hs.ev hk, hs.ev hx, h1]) (hK _ _ h2)
    · exact h.elim
  · rename_i t m k x ho
    split at h
    · rename_i m' k' v' hm hk hx
      obtain ⟨u, w', h1, h2⟩ := h
      exact wp_skip (by simp [execOp, ho, hs.ev hm, hs.ev hk, hs.ev hx, h1]) (hK _ _ h2)
    · exact h.elim
  · rename_i t m k ho
    split at h
    · rename_i m' k' hm hk
      obtain ⟨u, w', h1, h2⟩ := rawK_spec h
      exact wp_value (by simp [execOp, ho, hs.ev hm, hs.ev hk, h1]) (hK _ _ h2)
    · exact h.elim
  · rename_i t m s x ho
    split at h
    · rename_i m' k' v' hm hk hx
      obtain ⟨u, w', h1, h2⟩ := h
      exact wp_skip (by simp [execOp, ho, hs.ev hm, hs.ev hk, hs.ev hx, h1]) (hK _ _ h2)
    · exact h.elim
  · rename_i t x ho
    split at h
    · rename_i v hv
      obtain ⟨u, w', h1, g, rfl, h2⟩ := h
      exact wp_value (by simp [execOp, ho, hs.ev hv, h1]) (hK _ _ h2)
    · exact h.elim
  · rename_i it s ho
    split at h
    · rename_i v hv
      obtain ⟨u, w', h1, h2⟩ := h
      refine wp_value (v := u) (w' := w') (by simp [execOp, ho, hs.ev hv, h1]) ?_
      rcases h2 with ⟨rfl, h2⟩ | h2
      · exact hK _ _ h2
      · split at h2
        · rename_i K' hK'; exact hK _ _ (tupK_spec hK' h2)
        · exact h2.elim
    · exact h.elim
  · rename_i it ho
    split at h
    · rename_i v hv
      obtain ⟨u, w', h1, h2⟩ := rawK_spec h
      exact wp_value (by simp [execOp, ho, hs.ev hv, h1]) (hK _ _ h2)
    · exact h.elim
  · rename_i x ho
    split at h
    · rename_i t v hv
      have hr : (execOp a.eval o).run P w = .halt (.panic (.iface t v)) w := by
        simp [execOp, ho, hs.ev hv, Instr.panic]
      unfold Oper.wp
      rw [hr]
      exact hP _ _ h
    · exact h.elim
  · rename_i c ho
    exact callK_sound ho hs hK hP hO h
  · exact pure' h
end
end Go.Vc
/- A region in whatever order, where loads are taken first: a class of worlds is asked for as long as a load may be to come. -/
namespace Go.Vc
open Go
set_option linter.unusedSimpArgs false
section
variable {P : Program} {ops : Array Oper} {Q : Exit → Act → World → Prop} {S : World → Prop}
/-- With each its fore-runners are listed. -/
def Shut (ops : Array Oper) (l : Array Bool) : Prop := ∀ (k : Nat) o, ops[k]? = some o → l.getD k false = true → ∀ e ∈ o.after, Region.binds .any e = true → l.getD e.on false = true
theorem Shut.start (n : Nat) : Shut ops (Array.replicate n false) := fun k o _ h => by
  rcases Nat.lt_or_ge k n with hk | hk <;> simp [hk] at h
theorem listed_set {l : Array Bool} {i k : Nat} (h : (l.setIfInBounds i true).getD k false = true) : k = i ∨ l.getD k false = true := by
  by_cases hk : i = k
  · exact .inl hk.symm
  · rw [getD_set_ne false hk] at h; exact .inr h
theorem Shut.set {l : Array Bool} (h : Shut ops l) {i : Nat} (hi : i ∈ Region.ready .any ops l) : Shut ops (l.setIfInBounds i true) := by
  obtain ⟨_, o, ho, hall⟩ := mem_ready.1 hi
  intro k o' hk hl e he hb
  refine getD_set_true ?_
  rcases listed_set hl with rfl | hl
  · obtain rfl : o = o' := Option.some.inj (ho.symm.trans hk)
    exact hall e he hb
  · exact h k o' hk hl e he hb
inductive Lead (ops : Array Oper) (m : Nat) : Nat → Prop
  | self : Lead ops m m
  | step {k : Nat} {o : Oper} {e : Edge} : Lead ops m k → ops[k]? = some o → e ∈ o.after → Region.binds .any e = true → Lead ops m e.on
theorem markB_lead {m k : Nat} {acc : Array Bool} (h : ∀ i, acc.getD i false = true → Lead ops m i) : ∀ i, (markB ops k acc).getD i false = true → Lead ops m i := by
  unfold markB
  split
  · rename_i hk
    split
    · rename_i o ho
      have : ∀ (es : List Edge), (∀ e ∈ es, e ∈ o.after) → ∀ acc : Array Bool, (∀ i, acc.getD i false = true → Lead ops m i) →
          ∀ i, (es.foldl (fun acc e => match Region.binds .any e with | true => acc.setIfInBounds e.on true | false => acc) acc).getD i false = true → Lead ops m i := by
        intro es
        induction es with
        | nil => intro _ acc ha; exact ha
        | cons e es ih =>
          intro hes acc ha
          refine ih (fun e' he' => hes e' (List.mem_cons_of_mem _ he')) _ ?_
          intro i hi
          dsimp only at hi
          split at hi
          · rename_i hb
            rcases listed_set hi with rfl | hi
            · exact .step (h k hk) ho (hes e (by simp)) hb
            · exact ha i hi
          · exact ha i hi
      exact this o.after.toList (fun e he => by simpa using he) acc h
    · exact h
  · exact h
theorem marks_lead {m i : Nat} (h : (marks ops m).getD i false = true) : Lead ops m i := by
  unfold marks at h
  have : ∀ (l : List Nat) (acc : Array Bool), (∀ i, acc.getD i false = true → Lead ops m i) → ∀ i, (l.foldr (markB ops) acc).getD i false = true → Lead ops m i := by
    intro l acc ha
    induction l with
    | nil => exact ha
    | cons k l ih => exact markB_lead ih
  refine this _ _ (fun j hj => ?_) i h
  rcases listed_set hj with rfl | hj
  · exact .self
  · rcases Nat.lt_or_ge j ops.size with hk | hk <;> simp [hk] at hj
theorem Shut.lead {l : Array Bool} (h : Shut ops l) {m i : Nat} (hm : l.getD m false = true) (hl : Lead ops m i) : l.getD i false = true := by
  induction hl with
  | self => exact hm
  | step _ ho he hb ih => exact h _ _ ho ih _ he hb
theorem late_spec {l : Array Bool} (h : late ops l = true) (hc : Shut ops l) {i : Nat} {oi : Oper} (hi : ops[i]? = some oi) (hL : isLoad oi = true) : l.getD i false = true := by
  obtain ⟨m, _, hm⟩ := List.any_eq_true.1 h
  rw [Bool.and_eq_true] at hm
  cases ho : ops[m]? with
  | none => rw [ho] at hm; cases hm.2
  | some o =>
    rw [ho] at hm
    simp only [Bool.and_eq_true, Bool.not_eq_true'] at hm
    have h2 := List.all_eq_true.1 hm.2.2 i (List.mem_range.2 (Array.getElem?_eq_some_iff.1 hi).1)
    rw [hi] at h2
    simp only [hL, Bool.not_true, Bool.false_or] at h2
    exact hc.lead hm.1 (marks_lead h2)
theorem late_free {l : Array Bool} {i : Nat} {oi : Oper} (hi : ops[i]? = some oi) (hf : isFree oi = true) : late ops (l.setIfInBounds i true) = late ops l := by
  unfold late
  congr 1
  funext m
  by_cases h : i = m
  · subst h; simp [hi, hf]
  · rw [getD_set_ne false h]
theorem late_mono {l : Array Bool} {i : Nat} (h : late ops l = true) : late ops (l.setIfInBounds i true) = true := by
  obtain ⟨m, hm0, hm⟩ := List.any_eq_true.1 h
  rw [Bool.and_eq_true] at hm
  exact List.any_eq_true.2 ⟨m, hm0, by rw [Bool.and_eq_true]; exact ⟨getD_set_true hm.1, hm.2⟩⟩
/-- Whichever order is picked from here on: S holds behind each operation, until no load can be to come. -/
def Turns (P : Program) (ops : Array Oper) (Q : Exit → Act → World → Prop) (S : World → Prop) : Nat → Array Bool → Act → World → Prop
  | 0, l, a, w => Region.ready .any ops l = [] ∧ Q .normal a w
  | n + 1, l, a, w => (Region.ready .any ops l = [] → Q .normal a w) ∧
    ∀ i ∈ Region.ready .any ops l, wpOp P ops Q i (fun a' w' => (late ops (l.setIfInBounds i true) = false → S w') ∧ Turns P ops Q S n (l.setIfInBounds i true) a' w') a w
theorem Turns.any : ∀ (n : Nat) (l : Array Bool) (a : Act) (w : World), Turns P ops Q S n l a w → wpAny P .any ops Q n l a w
  | 0, _, _, _, h => h
  | n + 1, _, _, _, h => ⟨h.1, fun i hi => wpOp_mono (fun a' w' h' => Turns.any n _ a' w' h'.2) (h.2 i hi)⟩
theorem Turns.wider {S' : World → Prop} (hS : ∀ w, S' w → S w) : ∀ (n : Nat) (l : Array Bool) (a : Act) (w : World), Turns P ops Q S' n l a w → Turns P ops Q S n l a w
  | 0, _, _, _, h => h
  | n + 1, _, _, _, h => ⟨h.1, fun i hi => wpOp_mono (fun a' w' h' => ⟨fun hl => hS w' (h'.1 hl), Turns.wider hS n _ a' w' h'.2⟩) (h.2 i hi)⟩
theorem Turns.lated {S' : World → Prop} : ∀ (n : Nat) (l : Array Bool) (a : Act) (w : World), late ops l = true → Turns P ops Q S' n l a w → Turns P ops Q S n l a w
  | 0, _, _, _, _, h => h
  | n + 1, l, _, _, hl, h => ⟨h.1, fun i hi => wpOp_mono (fun a' w' h' => ⟨fun hf => (by rw [late_mono hl] at hf; cases hf), Turns.lated n _ a' w' (late_mono hl) h'.2⟩) (h.2 i hi)⟩
/-- A free operation may be taken first. -/
theorem Turns.first {S0 : World → Prop} {i : Nat} {oi : Oper} {v : Value} (hi : ops[i]? = some oi) (hsel : ∀ (j : Nat) (o : Oper) cs b, ops[j]? = some o → o.op ≠ .select cs b)
    (hQ : ∀ c a w, Q (.panic c) (a.put oi.dst v) w → Q (.panic c) a w) (hfr : isFree oi = true) (hS0 : (S0 = S ∧ isLoad oi = true) ∨ ∀ w, S0 w) :
    ∀ (n : Nat) (l : Array Bool) (a : Act) (w : World), Shut ops l →
      (∀ j oj, ops[j]? = some oj → j ≠ i → l.getD j true = false → (∀ e ∈ oj.after, Region.binds .any e = true → e.on ≠ i) → oi.apart ops oj = true) →
      i ∈ Region.ready .any ops l → YieldsIf P ops S0 oi v a → S0 w → (late ops l = false → S w) →
      Turns P ops Q S n (l.setIfInBounds i true) (a.put oi.dst v) w → Turns P ops Q S (n + 1) l a w := by
  have hpend : ∀ l : Array Bool, i ∈ Region.ready .any ops l → l.getD i false = false := fun l h => by
    have := (mem_ready.1 h).1
    rcases Nat.lt_or_ge i l.size with h' | h'
    · simp [h'] at this ⊢; exact this
    · simp [Array.getElem?_eq_none h']
  intro n
  induction n with
  | zero =>
    intro l a w hc _ hr hy h0 hS H
    refine ⟨fun h => (by rw [h] at hr; cases hr), fun j hj => ?_⟩
    rcases Decidable.em (j = i) with rfl | hji
    · exact hy.wpOp hi h0 ⟨fun hl => hS (by rwa [late_free hi hfr] at hl), H⟩
    · have := ready_mono hj hji
      rw [H.1] at this
      cases this
  | succ n ih =>
    intro l a w hc hap hr hy h0 hS H
    refine ⟨fun h => (by rw [h] at hr; cases hr), fun j hj => ?_⟩
    rcases Decidable.em (j = i) with rfl | hji
    · exact hy.wpOp hi h0 ⟨fun hl => hS (by rwa [late_free hi hfr] at hl), H⟩
    obtain ⟨hjun, oj, hoj, hall⟩ := mem_ready.1 hj
    have hno : ∀ e ∈ oj.after, Region.binds .any e = true → e.on ≠ i := fun e he hb heq => by
      have h1 := hall e he hb
      rw [heq, hpend l hr] at h1
      cases h1
    have h2 := wpOp_putIf hoj (hap j oj hoj hji hjun hno) (fun cs b => hsel i oi cs b hi) (fun cs b => hsel j oj cs b hoj) hQ hy (H.2 j (ready_mono hj hji))
    have hr' : i ∈ Region.ready .any ops (l.setIfInBounds j true) := ready_mono hr (Ne.symm hji)
    have hc' := hc.set hj
    have hlt : late ops ((l.setIfInBounds i true).setIfInBounds j true) = late ops (l.setIfInBounds j true) := by rw [Array.setIfInBounds_comm _ _ (Ne.symm hji), late_free hi hfr]
    refine wpOp_mono (fun a' w' h3 => ?_) h2
    obtain ⟨h4, h5, h6⟩ := h3
    rw [hlt] at h5
    refine ⟨h5, ih _ a' w' hc' (fun k ok hk hki hun hn => ?_) hr' h4 ?_ h5 ?_⟩
    · refine hap k ok hk hki ?_ hn
      rcases Decidable.em (j = k) with rfl | hjk
      · exact hjun
      · rwa [getD_set_ne true hjk] at hun
    · rcases hS0 with ⟨rfl, hL⟩ | h
      · refine h5 (Bool.eq_false_iff.2 fun hl => ?_)
        have := late_spec hl hc' hi hL
        rw [hpend _ hr'] at this
        cases this
      · exact h w'
    · rwa [Array.setIfInBounds_comm _ _ hji]
theorem Turns.take {S0 : World → Prop} {i : Nat} {oi : Oper} {v : Value} {n : Nat} {l : Array Bool} {a : Act} {w : World} (hi : ops[i]? = some oi)
    (hs : Region.noSelect ops = true) (hf : Region.free .any ops l i = true) (hr : (Region.ready .any ops l).contains i = true) (hc : Shut ops l) (hfr : isFree oi = true) (hS0 : (S0 = S ∧ isLoad oi = true) ∨ ∀ w, S0 w)
    (hQ : ∀ c a w, Q (.panic c) (a.put oi.dst v) w → Q (.panic c) a w) (hy : YieldsIf P ops S0 oi v a) (hS : late ops l = false → S w)
    (h : Turns P ops Q S n (l.setIfInBounds i true) (a.put oi.dst v) w) : Turns P ops Q S (n + 1) l a w := by
  have hr2 : i ∈ Region.ready .any ops l := by simpa using hr
  refine Turns.first hi (Region.noSelect_spec hs) hQ hfr hS0 n l a w hc (Region.free_spec hi hf) hr2 hy ?_ hS h
  rcases hS0 with ⟨rfl, hL⟩ | h
  · refine hS (Bool.eq_false_iff.2 fun hl => ?_)
    have h1 := late_spec hl hc hi hL
    have h2 := (mem_ready.1 hr2).1
    rcases Nat.lt_or_ge i l.size with h' | h'
    · simp [h'] at h1 h2; rw [h1] at h2; cases h2
    · simp [Array.getElem?_eq_none h'] at h1
  · exact h w
theorem Turns.all {rs : List Nat} {n : Nat} {l : Array Bool} {a : Act} {w : World} (hr : Region.ready .any ops l = rs) (hne : rs ≠ [])
    (h : ∀ i ∈ rs, wpOp P ops Q i (fun a' w' => (late ops (l.setIfInBounds i true) = false → S w') ∧ Turns P ops Q S n (l.setIfInBounds i true) a' w') a w) : Turns P ops Q S (n + 1) l a w :=
  ⟨fun h0 => absurd (hr ▸ h0) hne, hr ▸ h⟩
theorem Turns.done {l : Array Bool} {a : Act} {w : World} (hr : Region.ready .any ops l = []) (h : Q .normal a w) : ∀ n, Turns P ops Q S n l a w
  | 0 => ⟨hr, h⟩
  | _ + 1 => ⟨fun _ => h, by rw [hr]; simp⟩
end
end Go.Vc
/- That 'vc' suffices: regions. -/
namespace Go.Vc
open Go
set_option linter.unusedSimpArgs false
set_option linter.unusedVariables false
def Ext (e e' : Env) : Prop := ∃ new, e' = new ++ e
theorem Ext.refl (e : Env) : Ext e e := ⟨[], rfl⟩
theorem Ext.cons {e e' : Env} (x : Ent) (h : Ext (x :: e) e') : Ext e e' := by
  obtain ⟨new, rfl⟩ := h
  exact ⟨new ++ [x], by simp⟩
theorem Ext.trans {a b c : Env} (h : Ext a b) (k : Ext b c) : Ext a c := by
  obtain ⟨x, rfl⟩ := h
  obtain ⟨y, rfl⟩ := k
  exact ⟨y ++ x, by simp⟩
theorem Ext.put {e e' : Env} {d : Option Tmp} {v : Value} (h : Ext (e.put d v) e') : Ext e e' := by
  cases d with
  | none => exact h
  | some d => exact Ext.cons _ h
section
variable {P : Program} {n : Nat} {e : Env} {a : Act} {o : Oper} {w : World} {R : Ending → World → Prop} {Q : Exit → Act → World → Prop} {ops : Array Oper} {fl : Flags} {r : Nat}

theorem getD_some {a : Array Value} {d : Nat} {v : Value} (h : a.getD d undef = v) (hv : ∀ x, v ≠ .tuple x) : a[d]? = some v := by
  cases hx : a[d]? with
  | none => rw [Array.getD_eq_getD_getElem?, hx] at h; exact absurd h.symm (hv _)
  | some u => rw [Array.getD_eq_getD_getElem?, hx] at h; simpa using h

theorem guarded_spec {F : Bool → Env → Prop} (hs : Sat n e a) (h : guarded ops o e F) : ∃ b e', Ext e e' ∧ Sat n e' a ∧ Region.wanted o (yielded ops a.tmps) = b ∧ F b e' := by
  unfold guarded at h
  split at h
  · rename_i hg
    exact ⟨true, e, Ext.refl e, hs, by simp [Region.wanted, hg], h⟩
  · rename_i j want hg
    split at h
    · exact h.elim
    · rename_i d hd
      split at h
      · rename_i c hc
        have ht := getD_some (hs.2.2 d _ hc) (by simp)
        have hy : yielded ops a.tmps j = some c := by simp [yielded, hd, ht]
        have hw : Region.wanted o (yielded ops a.tmps) = (c == want) := by
          simp only [Region.wanted, hg, hy]
          cases c <;> cases want <;> rfl
        cases c
        · exact ⟨!want, _, ⟨[_], rfl⟩, hs.guard hc, by rw [hw]; cases want <;> rfl, h⟩
        · exact ⟨want, _, ⟨[_], rfl⟩, hs.guard hc, by rw [hw]; cases want <;> rfl, h⟩
      · rename_i x hc
        have ht := hs.2.2 d _ hc
        have hy : yielded ops a.tmps j = none := by
          simp only [yielded, hd, Option.bind_some]
          cases hx : a.tmps[d]? with
          | none => rfl
          | some u =>
            rw [Array.getD_eq_getD_getElem?, hx] at ht
            obtain rfl : u = .tuple x := by simpa using ht
            rfl
        exact ⟨false, e, Ext.refl e, hs, by simp only [Region.wanted, hg, hy]; cases want <;> rfl, h⟩
      · exact h.elim

theorem exT_spec {t : Option Ty} {F : Value → Prop} (h : exT t F) : ∃ v, F v := by
  unfold exT at h
  split at h
  · exact h
  · exact tex_spec h
theorem vcOpR_sound {ex : Bool} {o : Oper} {e : Env} {a : Act} {w : World} {next : Act → World → Prop} {rest : List Oper} {K : Value → World → Prop} (hs : Sat n e a) (hK : ∀ v w', K v w' → next (a.put o.dst v) w') (hP : ∀ ch w', R (.panicked ch) w' → Q (.panic ch) a w')
    (hO : ∀ w', R .outgrown w' → LetsOut Q) (h : vcOpR P R ex o rest e w K) : o.wp P a w next Q := by
  unfold vcOpR at h
  split at h
  · rename_i it ho
    split at h
    · rename_i v hv
      obtain ⟨u, w', h1, h2⟩ := h
      refine wp_value (v := u) (w' := w') (by simp [execOp, ho, hs.ev hv, h1]) ?_
      rcases h2 with ⟨rfl, h2⟩ | ⟨k, x, rfl, h2⟩
      · exact hK _ _ h2
      · exact hK _ _ h2
    · exact h.elim
  · rename_i it ho
    split at h
    · rename_i v d hv hd
      obtain ⟨u, w', h1, h2⟩ := h
      obtain ⟨k, h3⟩ := exT_spec h2
      obtain ⟨x, h4, h5⟩ := exT_spec h3
      exact wp_value (by simp [execOp, ho, hs.ev hv, h1, h4]) (hK _ _ h5)
    · exact h.elim
  · exact vcOp_sound hs hK hP hO h

theorem vcOps_sound {K : Env → World → Prop} (hP : ∀ ch a w, a.defers = [] → R (.panicked ch) w → Q (.panic ch) a w) (hO : ∀ w, R .outgrown w → LetsOut Q) :
    ∀ (l : List Oper) (i : Nat) (e : Env) (a : Act) (w : World), (∀ j, l[j]? = ops[i + j]?) → Sat n e a → (∀ e' a' w', Ext e e' → Sat n e' a' → K e' w' → Q .normal a' w') →
      vcOps P R fl n r ops l i e w K → wpOps P ops Q (List.range' i l.length) a w
  | [], i, e, a, w, _, hs, hN, h => hN e a w (Ext.refl e) hs h
  | o :: l, i, e, a, w, hl, hs, hN, h => by
    have h0 : ops[i]? = some o := by simpa using (hl 0).symm
    have hl' : ∀ j, l[j]? = ops[i + 1 + j]? := fun j => by
      have := hl (j + 1); simpa [Nat.add_assoc, Nat.add_comm 1 j] using this
    simp only [List.length_cons, List.range'_succ]
    rw [wpOps_cons]
    unfold wpOp
    simp only [h0]
    unfold vcOps at h
    split at h
    · exact h.elim
    · rename_i hd
      obtain ⟨b, e1, hx, hs1, hw, h1⟩ := guarded_spec hs h
      cases b
      · simp only [hw, Bool.false_eq_true, if_false]
        exact vcOps_sound hP hO l (i + 1) _ _ w hl' (hs1.put hd undef) (fun e' a' w' h2 => hN e' a' w' (hx.trans h2.put)) h1
      · simp only [hw, if_true]
        refine .inl (vcOpR_sound hs1 (K := fun v w' => vcOps P R fl n r ops l (i + 1) (e1.put o.dst v) w' K) (fun v w' hk => ?_) (fun ch w' hr => hP ch a w' hs.1 hr) hO h1)
        exact vcOps_sound hP hO l (i + 1) _ _ w' hl' (hs1.put hd v) (fun e' a' w' h2 => hN e' a' w' (hx.trans h2.put)) hk

theorem vcFree_sound {K : Value → Prop} {ex : Bool} {M : Option (World → Prop)} {S : World → Prop} (hs : Sat n e a) (hM : M = none → ∀ w', S w' → w' = w) (hS : ∀ S', M = some S' → S = S') (h : vcFree P ex o e M w K) :
    ∃ v, (∀ w', S w' → (execOp a.eval o).run P w' = .ok (.value v) w') ∧ K v := by
  unfold vcFree at h
  split at h
  · rename_i t x ho
    split at h
    · rename_i q ty hx ht
      split at h
      · obtain ⟨v, h1, h2⟩ := LdT_spec ht h
        exact ⟨v, fun w' hw' => by rw [hM rfl w' hw']; simp [execOp, ho, hs.ev hx, Instr.loadAt, Instr.sureAddr, h1], h2⟩
      · rename_i S'
        obtain ⟨v, h1, h2⟩ := HdT_spec ht h
        exact ⟨v, fun w' hw' => by simp [execOp, ho, hs.ev hx, Instr.loadAt, Instr.sureAddr, h1 w' (hS S' rfl ▸ hw')], h2⟩
    · exact h.elim
  · obtain ⟨v, h1, h2⟩ := vcPure_sound hs h
    exact ⟨v, fun w' _ => h1 w', h2⟩
theorem allP_spec : ∀ {l : List Prop}, allP l → ∀ p ∈ l, p
  | [], _, p, hp => by cases hp
  | [q], h, p, hp => by
    obtain rfl : p = q := by simpa using hp
    exact h
  | q :: q' :: l, h, p, hp => by
    rcases List.mem_cons.1 hp with rfl | hp
    · exact h.1
    · exact allP_spec h.2 p hp

theorem vcFree_pure {K : Value → Prop} {ex : Bool} {M : Option (World → Prop)} (hs : Sat n e a) (hL : isLoad o = false) (h : vcFree P ex o e M w K) :
    ∃ v, (∀ w', (execOp a.eval o).run P w' = .ok (.value v) w') ∧ K v := by
  unfold vcFree at h
  unfold isLoad at hL
  split at h
  · rename_i t x ho
    rw [ho] at hL
    cases hL
  · obtain ⟨v, h1, h2⟩ := vcPure_sound hs h
    exact ⟨v, fun w' => h1 w', h2⟩
theorem vcDraw_sound {K : Env → World → Prop} (hsel : Region.noSelect ops = true)
    (hP : ∀ ch a w, a.defers = [] → R (.panicked ch) w → Q (.panic ch) a w) (hO : ∀ w, R .outgrown w → LetsOut Q) (hQ : ∀ c a w d v, Q (.panic c) (Act.put a d v) w → Q (.panic c) a w) :
    ∀ (f : Nat) {M : Option (World → Prop)} {S : World → Prop}, (∀ S', M = some S' → S = S') → ∀ (l : Array Bool) (e : Env) (a : Act) (w : World), Shut ops l → (M = none → ∀ w', S w' → w' = w) → (late ops l = false → S w) → Sat n e a → (∀ e' a' w', Ext e e' → Sat n e' a' → K e' w' → Q .normal a' w') →
      vcDraw P R fl n r ops M f l e w K → Turns P ops Q S f l a w
  | 0, M, S, hS, l, e, a, w, hc, hM, hw, hs, hN, h => by
    unfold vcDraw at h
    split at h
    · rename_i hr; exact Turns.done hr (hN e a w (Ext.refl e) hs h) 0
    · exact h.elim
  | f + 1, M, S, hS, l, e, a, w, hc, hM, hw, hs, hN, h => by
    unfold vcDraw at h
    simp only [] at h
    split at h
    · rename_i i hi
      split at h
      · rename_i o ho hfr
        split at h
        · exact h.elim
        · rename_i hd
          have hrd : (Region.ready .any ops l).contains i = true := by simpa using List.mem_of_find?_eq_some hi
          have hisf : isFree o = true := by have := List.find?_some hi; simpa [ho] using this
          have hc' : Shut ops (l.setIfInBounds i true) := hc.set (List.mem_of_find?_eq_some hi)
          have hw' : late ops (l.setIfInBounds i true) = false → S w := fun hl => hw (by rwa [late_free ho hisf] at hl)
          obtain ⟨b, e1, hx, hs1, hwn, h1⟩ := guarded_spec hs h
          cases b
          · exact Turns.take ho hsel hfr hrd hc hisf (S0 := fun _ => True) (.inr fun _ => trivial) (fun c a w => hQ c a w _ _) (v := undef) (.inr ⟨hwn, rfl⟩) hw
              (vcDraw_sound hsel hP hO hQ f hS _ _ _ w hc' hM hw' (hs1.put hd undef) (fun e' a' w' h2 => hN e' a' w' (hx.trans h2.put)) h1)
          · cases hL : isLoad o
            · obtain ⟨v, h2, h3⟩ := vcFree_pure hs1 hL h1
              exact Turns.take ho hsel hfr hrd hc hisf (S0 := fun _ => True) (.inr fun _ => trivial) (fun c a w => hQ c a w _ _) (v := v) (.inl ⟨hwn, fun w' _ => h2 w'⟩) hw
                (vcDraw_sound hsel hP hO hQ f hS _ _ _ w hc' hM hw' (hs1.put hd v) (fun e' a' w' h2 => hN e' a' w' (hx.trans h2.put)) h3)
            · obtain ⟨v, h2, h3⟩ := vcFree_sound hs1 hM hS h1
              exact Turns.take ho hsel hfr hrd hc hisf (S0 := S) (.inl ⟨rfl, hL⟩) (fun c a w => hQ c a w _ _) (v := v) (.inl ⟨hwn, h2⟩) hw
                (vcDraw_sound hsel hP hO hQ f hS _ _ _ w hc' hM hw' (hs1.put hd v) (fun e' a' w' h2 => hN e' a' w' (hx.trans h2.put)) h3)
      · exact h.elim
    · split at h
      · rename_i hr; exact Turns.done hr (hN e a w (Ext.refl e) hs h) _
      · rename_i hne
        split at h
        · exact h.elim
        · rename_i S'
          obtain rfl := hS S' rfl
          refine Turns.all rfl (fun hc => hne hc) fun i hi => ?_
          have hc' : Shut ops (l.setIfInBounds i true) := hc.set hi
          have hp := allP_spec h _ (List.mem_map.2 ⟨i, hi, rfl⟩)
          unfold wpOp
          split at hp
          · exact hp.elim
          · rename_i o ho
            simp only [ho]
            split at hp
            · exact hp.elim
            · rename_i hd
              obtain ⟨b, e1, hx, hs1, hwn, h1⟩ := guarded_spec hs hp
              cases b
              · simp only [hwn, Bool.false_eq_true, if_false]
                have hw' : late ops (l.setIfInBounds i true) = false → S w := fun hl => hw (by
                  refine Bool.eq_false_iff.2 fun h2 => ?_
                  rw [late_mono h2] at hl
                  cases hl)
                exact ⟨hw', vcDraw_sound hsel hP hO hQ f hS _ _ _ w hc' hM hw' (hs1.put hd undef) (fun e' a' w' h2 => hN e' a' w' (hx.trans h2.put)) h1⟩
              · simp only [hwn, if_true]
                refine .inl (vcOp_sound hs1 (K := fun v w' => Unl (late ops (l.setIfInBounds i true)) (S w') (vcDraw P R fl n r ops (match fl.tail r with | true => none | false => some S) f (l.setIfInBounds i true) (e1.put o.dst v) w' K)) (fun v w' hk => ?_) (fun ch w' hr => hP ch a w' hs.1 hr) hO h1)
                have hk2 : (late ops (l.setIfInBounds i true) = false → S w') ∧ vcDraw P R fl n r ops (match fl.tail r with | true => none | false => some S) f (l.setIfInBounds i true) (e1.put o.dst v) w' K := by
                  cases hl : late ops (l.setIfInBounds i true)
                  · rw [hl] at hk; exact ⟨fun _ => hk.1, hk.2⟩
                  · rw [hl] at hk; exact ⟨(fun h => by cases h), hk⟩
                refine ⟨hk2.1, ?_⟩
                obtain ⟨k1, k2⟩ := hk2
                split at k2
                · have T := vcDraw_sound hsel hP hO hQ f (M := none) (S := fun x => x = w') (fun S' hS' => by cases hS') _ _ _ w' hc' (fun _ _ h => h) (fun _ => rfl) (hs1.put hd v) (fun e' a' w' h2 => hN e' a' w' (hx.trans h2.put)) k2
                  cases hl : late ops (l.setIfInBounds i true)
                  · exact Turns.wider (fun x hx => by rw [hx]; exact k1 hl) _ _ _ _ T
                  · exact Turns.lated _ _ _ _ hl T
                · exact vcDraw_sound hsel hP hO hQ f hS _ _ _ w' hc' (fun hc => by cases hc) k1 (hs1.put hd v) (fun e' a' w' h2 => hN e' a' w' (hx.trans h2.put)) k2

theorem vcRegion_sound {K : Env → World → Prop} {draw : Bool} {id : Nat} (hm : P.follows .mixedOrders = true)
    (hP : ∀ ch a w, a.defers = [] → R (.panicked ch) w → Q (.panic ch) a w) (hO : ∀ w, R .outgrown w → LetsOut Q) (hQ : ∀ c a w d v, Q (.panic c) (Act.put a d v) w → Q (.panic c) a w)
    (hs : Sat n e a) (hN : ∀ e' a' w', Ext e e' → Sat n e' a' → K e' w' → Q .normal a' w') (h : vcRegion P R fl n r ops draw e w K) : (Code.region id ops draw).wp P Q a w := by
  unfold vcRegion at h
  split at h
  · refine wp_region ?_
    have := vcOps_sound (P := P) (fl := fl) (r := r) hP hO ops.toList 0 e a w (fun j => by simp) hs hN h
    simpa [List.range_eq_range'] using this
  · split at h
    · exact h.elim
    · rename_i hsel
      split at h
      · exact wp_region_any hm (Turns.any (S := fun w' => w' = w.drew) _ _ _ _ (vcDraw_sound hsel hP hO hQ _ (fun S' hS' => by cases hS') _ e a _ (Shut.start _) (fun _ _ h => h) (fun _ => rfl) hs hN h))
      · obtain ⟨S, h1, h2⟩ := h
        exact wp_region_any hm (Turns.any (S := S) _ _ _ _ (vcDraw_sound hsel hP hO hQ _ (fun S' hS' => by cases hS'; rfl) _ e a _ (Shut.start _) (fun hc => by cases hc) (fun _ => h1) hs hN h2))
end
end Go.Vc
/- That 'vc' suffices: the whole function. -/
namespace Go.Vc
open Go
set_option linter.unusedSimpArgs false
set_option linter.unusedVariables false
section
variable {P : Program} {n : Nat} {e : Env} {a : Act} {w : World} {R : Ending → World → Prop} {f : FuncId} {fn : Func}

theorem STy.all_app {α : Type} {t : STy} {F : Value → Prop} {g : t.Fun α} {v : Value} {x : α} (h : t.all F) (ha : t.app g v = some x) : F v := by
  cases t <;> simp only [STy.all] at h <;> cases v <;> simp only [STy.app] at ha <;> try (cases ha; done)
  · split at ha
    · rename_i hk; rw [← IntKind.same_eq hk]; exact h _
    · cases ha
  · exact h _
  · exact h _
  · exact h _
  · split at ha
    · exact h _
    · cases ha
  · exact h _ _ _
  · exact h _
  all_goals exact h _
theorem STys.all_app {α : Type} : ∀ {ts : List STy} {F : List Value → Prop} {g : STys.Fun ts α} {vs : List Value} {x : α}, STys.all ts F → STys.app ts g vs = some x → F vs
  | [], F, g, [], x, h, _ => h
  | [], F, g, v :: vs, x, h, ha => by simp [STys.app] at ha
  | t :: ts, F, g, [], x, h, ha => by simp [STys.app] at ha
  | t :: ts, F, g, v :: vs, x, h, ha => by
    simp only [STys.app] at ha
    split at ha
    · rename_i g' hg
      have h1 : STys.all ts fun vs => F (v :: vs) := STy.all_app (F := fun v => STys.all ts fun vs => F (v :: vs)) h hg
      exact STys.all_app (F := fun vs => F (v :: vs)) h1 ha
    · cases ha
theorem Ty.all_app {α : Type} {t : Ty} {F : Value → Prop} {g : t.Fun α} {v : Value} {x : α} (h : t.all F) (ha : t.app g v = some x) : F v := by
  cases t with
  | s t => exact STy.all_app h ha
  | agg ts =>
    cases v <;> simp only [Ty.app] at ha <;> try (cases ha; done)
    have := STys.all_app h ha
    simpa using this
theorem Tys.all_app {α : Type} : ∀ {ts : List Ty} {F : List Value → Prop} {g : Tys.Fun ts α} {vs : List Value} {x : α}, Tys.all ts F → Tys.app ts g vs = some x → F vs
  | [], F, g, [], x, h, _ => h
  | [], F, g, v :: vs, x, h, ha => by simp [Tys.app] at ha
  | t :: ts, F, g, [], x, h, ha => by simp [Tys.app] at ha
  | t :: ts, F, g, v :: vs, x, h, ha => by
    simp only [Tys.app] at ha
    split at ha
    · rename_i g' hg
      have h1 : Tys.all ts fun vs => F (v :: vs) := Ty.all_app (F := fun v => Tys.all ts fun vs => F (v :: vs)) h hg
      exact Tys.all_app (F := fun vs => F (v :: vs)) h1 ha
    · cases ha
theorem atK_all {tys : List Ty} {J : Tys.Fun tys (World → Prop)} {vs : List Value} {F : List Value → Prop} (h : Tys.all tys F) (hj : atK tys J vs w) : F vs := by
  unfold atK at hj
  split at hj
  · rename_i g hg; exact Tys.all_app h hg
  · exact hj.elim

/-! ### Cuts -/
theorem get_append {new base : Env} {t : Nat} (h : ∀ x ∈ new, match x with | .w s _ => s ≠ t | .h lo hi => ¬ (lo ≤ t ∧ t < hi)) : Env.get (new ++ base) t = base.get t := by
  induction new with
  | nil => rfl
  | cons x xs ih =>
    have hx := h x (by simp)
    have := ih fun y hy => h y (by simp [hy])
    cases x with
    | w s v => rw [List.cons_append, get_w, if_neg hx, this]
    | h lo hi => rw [List.cons_append, get_h, if_neg hx, this]
theorem evs_get {sl : List Nat} : ∀ {vs : List Value}, e.evs (sl.map fun t => .tmp t) = some vs → ∀ {t : Nat} {v : Value} {base : Env}, Env.get ((sl.zip vs).map (fun p => Ent.w p.1 p.2) ++ base) t = some v → (e.get t = some v) ∨ (t ∉ sl ∧ base.get t = some v) := by
  induction sl with
  | nil =>
    intro vs h t v base hg
    exact .inr ⟨by simp, by simpa using hg⟩
  | cons s sl ih =>
    intro vs h t v base hg
    simp only [List.map_cons, Env.evs] at h
    split at h
    · rename_i u us hu hus
      obtain rfl : u :: us = vs := by simpa using h
      simp only [List.zip_cons_cons, List.map_cons, List.cons_append, get_w] at hg
      split at hg
      · rename_i hst; subst hst
        obtain rfl : u = v := by simpa using hg
        exact .inl hu
      · rename_i hst
        rcases ih hus hg with h1 | ⟨h1, h2⟩
        · exact .inl h1
        · exact .inr ⟨by simp [h1]; exact fun e => hst e.symm, h2⟩
    · cases h
theorem hide_get {hs : List (Nat × Nat)} {base : Env} {t : Nat} {v : Value} (h : Env.get (hs.map (fun p => Ent.h p.1 p.2) ++ base) t = some v) : (∀ p ∈ hs, ¬ (p.1 ≤ t ∧ t < p.2)) ∧ base.get t = some v := by
  induction hs with
  | nil => exact ⟨by simp, h⟩
  | cons p hs ih =>
    simp only [List.map_cons, List.cons_append, get_h] at h
    split at h
    · cases h
    · rename_i hp
      obtain ⟨h1, h2⟩ := ih h
      exact ⟨fun q hq => by rcases List.mem_cons.1 hq with rfl | hq; exact hp; exact h1 q hq, h2⟩
theorem leaf_sound {c : Cut} {base : Env} {J : List Value → World → Prop} (hs : Sat n e a) (hx : Ext base e) (h : leaf c base J e w) : ∃ vs, J vs w ∧ Sat n (c.env vs base) a := by
  unfold leaf at h
  split at h
  · exact h.elim
  · rename_i vs hv
    split at h
    · rename_i hc
      refine ⟨vs, h, hs.1, hs.2.1, fun t v ht => hs.2.2 t v ?_⟩
      obtain ⟨new, rfl⟩ := hx
      have hnew : newOf (new ++ base) base = new := by simp [newOf]
      rw [hnew] at hc
      have hv' : Env.evs (new ++ base) ((c.sl.map (·.1)).map fun t => .tmp t) = some vs := by
        unfold Cut.vals at hv
        rw [List.map_map]
        exact hv
      rcases evs_get hv' ht with h1 | ⟨h1, h2⟩
      · exact h1
      · obtain ⟨h3, h4⟩ := hide_get h2
        rw [get_append, h4]
        intro x hx
        have hcx := List.all_eq_true.1 hc x hx
        cases x with
        | w s u =>
          simp only [Cut.covers, Bool.or_eq_true, List.any_eq_true, Bool.and_eq_true] at hcx
          rintro rfl
          rcases hcx with ⟨p, hp, hps⟩ | ⟨p, hp, hps1, hps2⟩
          · exact h1 (List.mem_map.2 ⟨p, hp, Nat.eq_of_beq_eq_true hps⟩)
          · exact h3 p hp ⟨Nat.le_of_ble_eq_true hps1, Nat.le_of_ble_eq_true hps2⟩
        | h lo hi =>
          simp only [Cut.covers, List.any_eq_true, Bool.and_eq_true] at hcx
          obtain ⟨p, hp, hps1, hps2⟩ := hcx
          rintro ⟨h5, h6⟩
          exact h3 p hp ⟨Nat.le_trans (Nat.le_of_ble_eq_true hps1) h5, Nat.lt_of_lt_of_le h6 (Nat.le_of_ble_eq_true hps2)⟩
    · exact h.elim
theorem Cut.ext (c : Cut) (vs : List Value) (e : Env) : Ext e (c.env vs e) := ⟨_, (List.append_assoc _ _ _).symm⟩

/-- The stack's promises. -/
def SOK (P : Program) (f : FuncId) (R : Ending → World → Prop) (n : Nat) : List SI → Env → Prop
  | [], _ => True
  | .join c base J :: k, e => Ext base e ∧ (∀ vs w' a', Sat n (c.env vs base) a' → J vs w' → Wk P f (SI.erase k) a' w' R) ∧ SOK P f R n k e
  | .lp c base J cd :: k, e => Ext base e ∧ (∀ vs w' a', Sat n (c.env vs base) a' → J vs w' → Wk P f (.inLoop cd :: SI.erase k) a' w' R) ∧ SOK P f R n k e
  | .code _ :: k, e => SOK P f R n k e
  | .inBlock _ :: k, e => SOK P f R n k e
theorem SOK.mono : ∀ {k : List SI} {e e' : Env}, Ext e e' → SOK P f R n k e → SOK P f R n k e'
  | [], _, _, _, _ => trivial
  | .join _ _ _ :: _, _, _, hx, h => ⟨h.1.trans hx, h.2.1, SOK.mono hx h.2.2⟩
  | .lp _ _ _ _ :: _, _, _, hx, h => ⟨h.1.trans hx, h.2.1, SOK.mono hx h.2.2⟩
  | .code _ :: k, _, _, hx, h => SOK.mono (k := k) hx h
  | .inBlock _ :: k, _, _, hx, h => SOK.mono (k := k) hx h
theorem exitS_spec {i : Nat} : ∀ {k k' : List SI}, exitS i k = some k' → exitTo i (SI.erase k) = some (SI.erase k') ∧ (SOK P f R n k e → SOK P f R n k' e)
  | [], _, h => by simp [exitS] at h
  | .inBlock j :: k, k', h => by
    unfold exitS at h
    split at h
    · rename_i hb
      obtain rfl := Option.some.inj h
      obtain rfl : i = j := Nat.eq_of_beq_eq_true hb
      exact ⟨by simp [SI.erase, exitTo], fun h => h⟩
    · rename_i hb
      have := exitS_spec h
      have hne : ¬ (j == i) = true := by
        intro he
        have : j = i := by simpa using he
        exact Nat.ne_of_beq_eq_false hb this.symm
      exact ⟨by simp only [SI.erase, exitTo, if_neg hne]; exact this.1, this.2⟩
  | .code c :: k, k', h => by
    have := exitS_spec (k := k) (k' := k') (by simpa [exitS] using h)
    exact ⟨by simpa [SI.erase, exitTo] using this.1, this.2⟩
  | .join c b J :: k, k', h => by
    have := exitS_spec (k := k) (k' := k') (by simpa [exitS] using h)
    exact ⟨by simpa [SI.erase, exitTo] using this.1, fun h => this.2 h.2.2⟩
  | .lp c b J cd :: k, k', h => by
    have := exitS_spec (k := k) (k' := k') (by simpa [exitS] using h)
    exact ⟨by simpa [SI.erase, exitTo] using this.1, fun h => this.2 h.2.2⟩

/-! ### Results -/
def retG (tmps : Array Value) : ResultVar → Sem Value
  | .tmp t => pure (tmps.getD t undef)
  | .cell c t => do loadVar t (← asAddr (tmps.getD c undef))
theorem results_eq (fn : Func) (tmps : Array Value) : results fn tmps = (do let vs ← fn.results.mapM (retG tmps); pure (if h : vs.size = 1 then vs[0] else .tuple vs)) := by
  unfold results
  congr 1
theorem retVals_spec (hs : Sat n e a) : ∀ {rs : List ResultVar} {acc : List Value} {K : List Value → Prop}, retVals P e w rs acc K →
    ∃ vs : List Value, (rs.mapM (retG a.tmps)).run P w = .ok vs w ∧ K (acc.reverse ++ vs)
  | [], acc, K, h => ⟨[], rfl, by simpa [retVals] using h⟩
  | .tmp t :: rs, acc, K, h => by
    unfold retVals at h
    split at h
    · rename_i v hv
      obtain ⟨vs, h1, h2⟩ := retVals_spec hs h
      refine ⟨v :: vs, ?_, by simpa using h2⟩
      have : (retG a.tmps (.tmp t)).run P w = .ok v w := by simp only [retG, hs.2.2 t v hv, Sem.run_pure]
      simp only [List.mapM_cons, Sem.run_bind, Sem.run_pure, Result.andThen_ok, this, h1]
    · exact h.elim
  | .cell c t :: rs, acc, K, h => by
    unfold retVals at h
    split at h
    · rename_i q ty hv ht
      obtain ⟨v, h3, h4⟩ := LdT_spec ht h
      obtain ⟨vs, h1, h2⟩ := retVals_spec hs h4
      refine ⟨v :: vs, ?_, by simpa using h2⟩
      have : (retG a.tmps (.cell c t)).run P w = .ok v w := by simp only [retG, hs.2.2 c _ hv, asAddr, Sem.run_bind, Sem.run_pure, Result.andThen_ok, h3]
      simp only [List.mapM_cons, Sem.run_bind, Sem.run_pure, Result.andThen_ok, this, h1]
    · exact h.elim
theorem vcRet_spec (hs : Sat n e a) (h : vcRet P fn R e w) : ∃ v, (results fn a.tmps).run P w = .ok v w ∧ R (.returned v) w := by
  obtain ⟨vs, h1, h2⟩ := retVals_spec hs h
  refine ⟨_, ?_, h2⟩
  rw [results_eq, Array.mapM_eq_mapM_toList]
  simp only [Sem.run_bind, Sem.run_map, h1, Result.andThen_ok, Sem.run_pure, List.reverse_nil, List.nil_append]
  congr 1
  match vs with
  | [] => simp
  | [v] => simp
  | v :: u :: r => simp

/-! ### The code -/
theorem vc_sound {pl : Plan} (hf : P.funcs[f]? = some fn) (hm : P.follows .mixedOrders = true) : ∀ (fuel : Nat) (k : List SI) (e : Env) (a : Act) (w : World),
    SOK P f R pl.n k e → Sat pl.n e a → vc P fn pl R fuel k e w → Wk P f (SI.erase k) a w R
  | 0, _, _, _, _, _, _, h => h.elim
  | fu + 1, [], e, a, w, hk, hs, h => by
    obtain ⟨v, h1, h2⟩ := vcRet_spec hs h
    exact wk_end hf hs.1 h1 h2
  | fu + 1, .inBlock i :: k, e, a, w, hk, hs, h => wk_inBlock (vc_sound hf hm fu k e a w hk hs h)
  | fu + 1, .join c base J :: k, e, a, w, hk, hs, h => by
    obtain ⟨vs, h1, h2⟩ := leaf_sound hs hk.1 h
    exact hk.2.1 vs w a h2 h1
  | fu + 1, .lp c base J cd :: k, e, a, w, hk, hs, h => by
    obtain ⟨vs, h1, h2⟩ := leaf_sound hs hk.1 h
    exact hk.2.1 vs w a h2 h1
  | fu + 1, .code c :: k, e, a, w, hk, hs, h => by
    have hk' : SOK P f R pl.n k e := hk
    unfold vc at h
    split at h
    · exact wk_skip (vc_sound hf hm fu k e a w hk' hs h)
    · exact wk_label (vc_sound hf hm fu k e a w hk' hs h)
    · -- seq
      rename_i x y
      split at h
      · exact wk_seq (vc_sound hf hm fu (.code x :: .code y :: k) e a w hk' hs h)
      · rename_i cut hcut
        obtain ⟨J, h1, h2⟩ := h
        refine wk_seq (vc_sound hf hm fu (.code x :: .join cut e (atK cut.tys J) :: .code y :: k) e a w ⟨Ext.refl e, fun vs w' a' hs' hj => ?_, hk'⟩ hs h2)
        exact vc_sound hf hm fu (.code y :: k) _ a' w' (SOK.mono (cut.ext vs e) hk') hs' (atK_all h1 hj w' hj)
    · -- cond
      rename_i c t el
      split at h
      · rename_i b hb
        refine wk_cond (hs.ev hb) ?_
        cases b
        · exact vc_sound hf hm fu (.code el :: k) e a w hk' hs h
        · exact vc_sound hf hm fu (.code t :: k) e a w hk' hs h
      · exact h.elim
    · rename_i i c
      exact wk_block (vc_sound hf hm fu (.code c :: .inBlock i :: k) e a w hk' hs h)
    · -- loop
      rename_i c
      split at h
      · exact h.elim
      · rename_i cut hcut
        split at h
        · exact h.elim
        · rename_i vs0 hv0
          obtain ⟨I, m, h1, h2⟩ := h
          have main : ∀ (M : Nat) (vs : List Value) (w' : World) (a' : Act), atM cut.tys m vs w' = M → Sat pl.n (cut.env vs e) a' → atK cut.tys I vs w' → Wk P f (.code c :: .inLoop c :: SI.erase k) a' w' R := by
            intro M
            induction M using Nat.strongRecOn with
            | _ M ih =>
              intro vs w' a' hM hs' hI
              refine vc_sound hf hm fu (.code c :: .lp cut e (fun vs' w'' => atK cut.tys I vs' w'' ∧ atM cut.tys m vs' w'' < atM cut.tys m vs w') c :: k) _ a' w' ⟨cut.ext vs e, fun vs' w'' a'' hs'' hj => ?_, SOK.mono (cut.ext vs e) hk'⟩ hs' (atK_all h2 hI w' hI)
              exact wk_inLoop (ih _ (by rw [← hM]; exact hj.2) vs' w'' a'' rfl hs'' hj.1)
          refine wk_loop (main _ vs0 w a rfl ?_ h1)
          -- the slots at the loop's head
          refine ⟨hs.1, hs.2.1, fun t v ht => hs.2.2 t v ?_⟩
          have hv' : Env.evs e ((cut.sl.map (·.1)).map fun t => .tmp t) = some vs0 := by
            unfold Cut.vals at hv0
            rw [List.map_map]
            exact hv0
          rcases evs_get hv' ht with h3 | ⟨_, h3⟩
          · exact h3
          · exact (hide_get h3).2
    · rename_i i
      split at h
      · rename_i k' hk2
        obtain ⟨h3, h4⟩ := exitS_spec (P := P) (f := f) (R := R) (n := pl.n) (e := e) hk2
        exact wk_exit h3 (vc_sound hf hm fu k' e a w (h4 hk') hs h)
      · exact h.elim
    · obtain ⟨v, h1, h2⟩ := vcRet_spec hs h
      exact wk_ret hf hs.1 h1 h2
    · rename_i id ops draw
      refine wk_of_wp hf (vcRegion_sound hm (fun ch a w hd hr => ⟨hd, hr⟩) (fun w hr => ⟨a, w, hr⟩) (fun c a w d v hq => ?_) hs (fun e' a' w' hx hs' hk2 => ?_) h)
      · refine ⟨?_, hq.2⟩
        have := hq.1
        cases d <;> exact this
      · exact vc_sound hf hm fu k e' a' w' (SOK.mono hx hk') hs' hk2
    · exact h.elim

theorem argEnv_get : ∀ (i : Nat) (vs : List Value) (t : Nat) (v : Value), Env.get (argEnv i vs) t = some v → ∃ j, t = i + j ∧ vs[j]? = some v
  | _, [], _, _, h => by cases h
  | i, u :: vs, t, v, h => by
    simp only [argEnv, get_w] at h
    split at h
    · rename_i hit; subst hit
      exact ⟨0, rfl, by simpa using h⟩
    · obtain ⟨j, h1, h2⟩ := argEnv_get (i + 1) vs t v h
      exact ⟨j + 1, by omega, by simpa using h2⟩
/-- What 'vc' asks is enough for the call. -/
theorem vc_calls {pl : Plan} {args : Array Value} (hf : P.funcs[f]? = some fn) (hm : P.follows .mixedOrders = true) (hb : fn.body.isSome = true) (hn : (Nat.beq pl.n fn.ntmps && Nat.ble args.size fn.ntmps) = true)
    (h : vc P fn pl R 100000 [.code (bodyOf fn)] (argEnv 0 args.toList) w) : Calls P f args w R := by
  rw [Bool.and_eq_true] at hn
  have hn1 : pl.n = fn.ntmps := Nat.eq_of_beq_eq_true hn.1
  have hn2 := Nat.le_of_ble_eq_true hn.2
  have hb' : fn.body = some (bodyOf fn) := by
    unfold bodyOf
    cases hc : fn.body with
    | none => rw [hc] at hb; cases hb
    | some c => rfl
  refine calls_of_wk hf hb' (vc_sound (pl := pl) hf hm 100000 [.code (bodyOf fn)] _ _ w trivial ?_ h)
  refine ⟨rfl, by simp [hn1]; omega, fun t v ht => ?_⟩
  obtain ⟨j, h1, h2⟩ := argEnv_get 0 _ t v ht
  obtain rfl : t = j := by omega
  have h3 : args[t]? = some v := by simpa using h2
  have hlt : t < args.size := (Array.getElem?_eq_some_iff.1 h3).1
  show (args ++ Array.replicate (fn.ntmps - args.size) undef).getD t undef = v
  rw [Array.getD_eq_getD_getElem?, Array.getElem?_append_left hlt, h3]
  rfl
end
end Go.Vc
/- Words for proofs about the formulas that 'vc' reckons. -/
namespace Go.Vc
open Go Go.RowKit
set_option linter.unusedVariables false
section
variable {w w' w0 : World} {k : IntKind} {R : Ending → World → Prop}

theorem Br_t {X Y : Prop} : Br true X Y = X := rfl
theorem Br_f {X Y : Prop} : Br false X Y = Y := rfl
theorem br {b : Bool} {X Y : Prop} (h1 : b = true → X) (h2 : b = false → Y) : Br b X Y := by cases b; exact h2 rfl; exact h1 rfl
theorem brd {p : Prop} [Decidable p] {X Y : Prop} (h1 : p → X) (h2 : ¬ p → Y) : Br (decide p) X Y :=
  br (fun h => h1 (of_decide_eq_true h)) (fun h => h2 (of_decide_eq_false h))
theorem bre {a b : Int} {X Y : Prop} (h1 : a = b → X) (h2 : a ≠ b → Y) : Br (a == b) X Y :=
  br (fun h => h1 (by simpa using h)) (fun h => h2 (by simpa using h))
theorem brn {a b : Int} {X Y : Prop} (h1 : a ≠ b → X) (h2 : a = b → Y) : Br (a != b) X Y :=
  br (fun h => h1 (by simpa using h)) (fun h => h2 (by simpa using h))
theorem brnot {b : Bool} {X Y : Prop} : Br (!b) X Y = Br b Y X := by cases b <;> rfl

theorem LdI_some {n : Int} {K : Int → Prop} : LdI k (some (.int k n)) K = K n := by simp [LdI]
theorem LdB_some {b : Bool} {K : Bool → Prop} : LdB (some (.bool b)) K = K b := by simp [LdB]
theorem LdStr_some {s : ByteArray} {K : ByteArray → Prop} : LdStr (some (.string s)) K = K s := by simp [LdStr]
theorem LdP_some {p : Option Addr} {K : Option Addr → Prop} : LdP (some (.pointer p)) K = K p := by simp [LdP]
theorem LdSl_some {p : Option Addr} {n c : Nat} {K : Option Addr → Nat → Nat → Prop} : LdSl (some (.slice p n c)) K = K p n c := by
  apply propext
  constructor
  · rintro ⟨p', n', c', h1, h2⟩; cases h1; exact h2
  · intro h; exact ⟨p, n, c, rfl, h⟩
theorem LdM_some {r : Option Nat} {K : Option Nat → Prop} : LdM (some (.map r)) K = K r := by simp [LdM]
theorem NonNil_some {a : Addr} {K : Addr → Prop} : NonNil (some a) K = K a := rfl
theorem IdxA_some {a : Addr} {n : Nat} {i : Int} {sz : Nat} {K : Addr → Prop} (h0 : 0 ≤ i) (h1 : i < n) : IdxA (some a) n i sz K = K (a.add (i.toNat * sz)) := by simp [IdxA, h0, h1]
theorem Addr.add_mk (b o n : Nat) : Addr.add ⟨b, o, none⟩ n = ⟨b, o + n, none⟩ := by
  unfold Addr.add; split
  · rename_i h; subst h; rfl
  · rfl

/-- What simp is told at each step. -/
theorem lds : (∀ b o n : Nat, Addr.add ⟨b, o, none⟩ n = ⟨b, o + n, none⟩) ∧ (∀ (l : List Value) (i : Nat), l.toArray[i]? = l[i]?) ∧ (∀ (a : Value) (l : List Value), (a :: l)[0]? = some a) ∧ (∀ (a : Value) (l : List Value) (i : Nat), (a :: l)[i + 1]? = l[i]?) ∧
    (∀ (k : IntKind) (n : Int) (K : Int → Prop), LdI k (some (.int k n)) K = K n) ∧ (∀ (b : Bool) (K : Bool → Prop), LdB (some (.bool b)) K = K b) ∧ (∀ (s : ByteArray) (K : ByteArray → Prop), LdStr (some (.string s)) K = K s) ∧
    (∀ (p : Option Addr) (K : Option Addr → Prop), LdP (some (.pointer p)) K = K p) ∧ (∀ (p : Option Addr) (n c : Nat) (K : Option Addr → Nat → Nat → Prop), LdSl (some (.slice p n c)) K = K p n c) ∧ (∀ (r : Option Nat) (K : Option Nat → Prop), LdM (some (.map r)) K = K r) ∧
    (∀ n : Nat, 0 + n = n) ∧ (∀ X Y : Prop, Br true X Y = X) ∧ ∀ X Y : Prop, Br false X Y = Y :=
  ⟨Addr.add_mk, fun _ _ => List.getElem?_toArray, fun _ _ => List.getElem?_cons_zero, fun _ _ _ => List.getElem?_cons_succ, fun _ _ _ => LdI_some, fun _ _ => LdB_some, fun _ _ => LdStr_some, fun _ _ => LdP_some, fun _ _ _ _ => LdSl_some, fun _ _ => LdM_some, Nat.zero_add, fun _ _ => rfl, fun _ _ => rfl⟩
/-! ### Blocks -/
/-- Block b is these cells. -/
def Blk (w : World) (b : Nat) (c : Array Value) (t : TypeId) : Prop := w.heap[b]? = some (.cells c t (0, 0))
theorem Blk.cell {b : Nat} {c : Array Value} {t : TypeId} (h : Blk w b c t) (i : Nat) : w.cell? ⟨b, i, none⟩ = c[i]? := by unfold Blk at h; simp [World.cell?, h]
theorem Blk.frozen {b : Nat} {c : Array Value} {t : TypeId} (h : Blk w b c t) (i : Nat) : w.frozen? ⟨b, i, none⟩ = false := by unfold Blk at h; simp [World.frozen?, h]
theorem Blk.lt {b : Nat} {c : Array Value} {t : TypeId} (h : Blk w b c t) : b < w.heap.size := (Array.getElem?_eq_some_iff.1 h).1
theorem Blk.alloc_new (w : World) (c : Array Value) (t : TypeId) : Blk (w.alloc (.cells c t)) w.heap.size c t := by
  show (w.heap.push _)[w.heap.size]? = _
  simp
theorem Blk.drew {b : Nat} {c : Array Value} {t : TypeId} (h : Blk w b c t) : Blk w.drew b c t := h
theorem Blk.set {b : Nat} {c : Array Value} {t : TypeId} (h : Blk w b c t) (i : Nat) (v : Value) : Blk (w.setCell ⟨b, i, none⟩ v) b (c.setIfInBounds i v) t := by
  unfold Blk at *
  simp [World.setCell, Array.getElem?_modify, h]
theorem Blk.below {b B : Nat} {c : Array Value} {t : TypeId} (h : Blk w b c t) (hb : Below B w w') (hlt : b < B) : Blk w' b c t := by
  unfold Blk at *
  rw [hb.block b hlt]; exact h
theorem Blk.keep {b : Nat} {c : Array Value} {t : TypeId} (h : Blk w b c t) (hb : Below w.heap.size w w') : Blk w' b c t := h.below hb h.lt

/-- A new variable, by what is known of it. -/
theorem al {c : Array Value} {t : TypeId} {K : Addr → World → Prop} (h : ∀ g w1, Below w.heap.size w w1 → Blk w1 g c t → w.heap.size ≤ g → K ⟨g, 0, none⟩ w1) : Al w c t K :=
  h _ _ ((Below.refl _ _).alloc (Nat.le_refl _) _) (Blk.alloc_new w c t) (Nat.le_refl _)
theorem dr {K : World → Prop} (h : ∀ w1 : World, Below w.heap.size w w1 → (∀ b : Nat, w1.heap[b]? = w.heap[b]?) → K w1) : Dr w K := h _ ((Below.refl _ _).drew) (fun _ => rfl)
/-- A new variable into which a struct is stored, field by field. -/
theorem st_new {c : Array Value} {t : TypeId} {g : Nat} {K : World → Prop} {i : Nat} {v : Value} (hg : Blk w g c t) (hi : i < c.size) (h : ∀ w1, Blk w1 g (c.setIfInBounds i v) t → w1 = w.setCell ⟨g, i, none⟩ v → K w1) : St w ⟨g, i, none⟩ v K := by
  refine ⟨⟨c[i], by rw [hg.cell]; simp [hi]⟩, hg.frozen i, h _ (hg.set i v) rfl⟩
theorem al2 {z0 z1 v0 v1 : Value} {t : TypeId} {K : Addr → World → Prop} (h : ∀ g w1, Below w.heap.size w w1 → Blk w1 g #[v0, v1] t → w.heap.size ≤ g → K ⟨g, 0, none⟩ w1) :
    Al w #[z0, z1] t fun p w1 => St w1 p v0 fun w2 => St w2 (p.add 1) v1 fun w3 => K p w3 := by
  refine al fun g w1 hb hg hge => ?_
  simp only [Addr.add_mk]
  refine st_new hg (by simp) fun w2 hg2 e2 => st_new hg2 (by simp) fun w3 hg3 e3 => h g w3 ?_ hg3 hge
  subst e2 e3
  exact (hb.setCell (by simpa using hge) _).setCell (by simpa using hge) _
theorem al4 {z0 z1 z2 z3 v0 v1 v2 v3 : Value} {t : TypeId} {K : Addr → World → Prop} (h : ∀ g w1, Below w.heap.size w w1 → Blk w1 g #[v0, v1, v2, v3] t → w.heap.size ≤ g → K ⟨g, 0, none⟩ w1) :
    Al w #[z0, z1, z2, z3] t fun p w1 => St w1 p v0 fun w2 => St w2 (p.add 1) v1 fun w3 => St w3 (p.add 2) v2 fun w4 => St w4 (p.add 3) v3 fun w5 => K p w5 := by
  refine al fun g w1 hb hg hge => ?_
  simp only [Addr.add_mk]
  refine st_new hg (by simp) fun w2 hg2 e2 => st_new hg2 (by simp) fun w3 hg3 e3 => st_new hg3 (by simp) fun w4 hg4 e4 => st_new hg4 (by simp) fun w5 hg5 e5 => h g w5 ?_ hg5 hge
  subst e2 e3 e4 e5
  exact (((hb.setCell (by simpa using hge) _).setCell (by simpa using hge) _).setCell (by simpa using hge) _).setCell (by simpa using hge) _
theorem btr {B : Nat} {a b c : World} (h : Below B a b) (hB : B ≤ b.heap.size) (k : Below b.heap.size b c) : Below B a c := h.trans (k.mono hB)
end
end Go.Vc
/- Words for the walks of this seat: worlds that grow, spans by value; no statement of the set is proved here. -/
namespace Go.Proofs.YtfhkgnfphfmhiaaGreatDoor
open Go.RowKit
theorem bl {B : Nat} {w w' : World} (h : Below B w w') (hB : B ≤ w.heap.size) (o : Obj) : Below B w (w'.alloc o) := h.alloc (Nat.le_trans hB h.size) o
theorem bt {B : Nat} {w w1 w2 : World} (h : Below B w w1) (hB : B ≤ w.heap.size) (k : Below w1.heap.size w1 w2) : Below B w w2 :=
  h.trans ⟨k.os, k.tape, k.output, k.size, fun i hi => k.block i (Nat.lt_of_lt_of_le hi (Nat.le_trans hB h.size))⟩
theorem bt1 {w w1 w2 : World} (h : Below w.heap.size w w1) (k : Below w1.heap.size w1 w2) : Below w.heap.size w w2 := bt h (Nat.le_refl _) k
theorem kcell {w w1 : World} (h : Below w.heap.size w w1) {a : Addr} {v : Value} (hc : w.cell? a = some v) : w1.cell? a = some v := (h.cell (World.block_lt_of_cell? w a hc)).trans hc
section
variable {P : Program} {ops : Array Oper} {rest : List Oper} {o : Oper} {a : Act} {Q : Exit → Act → World → Prop} {W : World}
end
end Go.Proofs.YtfhkgnfphfmhiaaGreatDoor
/- Words for slices: what a slice reads, a row of the call's own, its appends, cuts and stores, whatever its elements are. -/
namespace Go.Proofs.YtfhkgnfphfmhiaaGreatDoor
open Go.RowKit
/-- How an element lies in memory. -/
structure Lay (α : Type) where
  n : Nat
  cells : α → List Value
  len : ∀ x, (cells x).length = n
  one : ∀ x, ∀ u ∈ cells x, u.oneCell' = true
  pos : 0 < n
namespace Lay
variable {α : Type} (L : Lay α)
def all (xs : List α) : List Value := xs.flatMap L.cells
theorem all_one (x : α) : L.all [x] = L.cells x := by simp [all]
theorem all_append (xs ys : List α) : L.all (xs ++ ys) = L.all xs ++ L.all ys := by simp [all]
theorem all_length : ∀ xs : List α, (L.all xs).length = xs.length * L.n
  | [] => by simp [all]
  | x :: xs => by
    have := all_length xs
    simp only [all, List.flatMap_cons, List.length_append, L.len, List.length_cons] at *
    rw [this, Nat.add_mul]; omega
theorem all_ones (xs : List α) : ∀ u ∈ L.all xs, u.oneCell' = true := by
  intro u hu
  obtain ⟨x, _, h⟩ := List.mem_flatMap.1 hu
  exact L.one x u h
theorem all_at : ∀ (xs : List α) (i : Nat) (h : i < xs.length) (j : Nat), j < L.n → (L.all xs)[i * L.n + j]? = (L.cells xs[i])[j]?
  | x :: xs, 0, _, j, hj => by
    simp only [all, List.flatMap_cons, List.getElem_cons_zero, Nat.zero_mul, Nat.zero_add]
    rw [List.getElem?_append_left (by rw [L.len]; exact hj)]
  | x :: xs, i + 1, h, j, hj => by
    have ih := all_at xs i (by simpa using h) j hj
    simp only [all, List.flatMap_cons, List.getElem_cons_succ] at *
    rw [List.getElem?_append_right (by rw [L.len, Nat.add_mul]; omega), L.len]
    rw [← ih]; congr 1; rw [Nat.add_mul]; omega
theorem all_take (xs : List α) (k : Nat) : L.all (xs.take k) = (L.all xs).take (k * L.n) := by
  rcases Nat.le_total k xs.length with hk | hk
  · have h : L.all xs = L.all (xs.take k) ++ L.all (xs.drop k) := by rw [← all_append, List.take_append_drop]
    rw [h, List.take_left']
    rw [all_length, List.length_take, Nat.min_eq_left hk]
  · rw [List.take_of_length_le hk, List.take_of_length_le]
    rw [all_length]; exact Nat.mul_le_mul_right _ hk
theorem all_drop (xs : List α) (k : Nat) (hk : k ≤ xs.length) : L.all (xs.drop k) = (L.all xs).drop (k * L.n) := by
  have h : L.all xs = L.all (xs.take k) ++ L.all (xs.drop k) := by rw [← all_append, List.take_append_drop]
  rw [h, List.drop_left']
  rw [all_length, List.length_take, Nat.min_eq_left hk]
end Lay
/-- v is a slice that reads xs: who owns its cells is left open. -/
def Rd {α : Type} (L : Lay α) (w : World) (A : Option Addr) (c : Nat) (xs : List α) : Prop :=
  xs.length ≤ c ∧ c ≤ maxLen ∧ (A = none → c = 0) ∧ (0 < xs.length → ∃ b o, A = some ⟨b, o, none⟩ ∧ ∀ j u, (L.all xs)[j]? = some u → w.cell? ⟨b, o + j, none⟩ = some u)
theorem Rd.keep {α : Type} {L : Lay α} {w w1 : World} {A : Option Addr} {c : Nat} {xs : List α} (h : Rd L w A c xs) (hb : Below w.heap.size w w1) : Rd L w1 A c xs := by
  refine ⟨h.1, h.2.1, h.2.2.1, fun h0 => ?_⟩
  obtain ⟨b, o, hA, hc⟩ := h.2.2.2 h0
  exact ⟨b, o, hA, fun j u hj => kcell hb (hc j u hj)⟩
theorem Rd.nil {α : Type} (L : Lay α) (w : World) : Rd L w none 0 [] := ⟨Nat.le_refl _, by simp [maxLen], fun _ => rfl, fun h => absurd h (by simp)⟩
/-- An element's cells. -/
theorem Rd.at {α : Type} {L : Lay α} {w : World} {A : Option Addr} {c : Nat} {xs : List α} (h : Rd L w A c xs) (i : Nat) (hi : i < xs.length) :
    ∃ b o, A = some ⟨b, o, none⟩ ∧ ∀ j u, (L.cells xs[i])[j]? = some u → w.cell? ⟨b, o + i * L.n + j, none⟩ = some u := by
  obtain ⟨b, o, hA, hc⟩ := h.2.2.2 (by omega)
  refine ⟨b, o, hA, fun j u hj => ?_⟩
  have hjn : j < L.n := by rw [← L.len xs[i]]; exact (List.getElem?_eq_some_iff.1 hj).1
  have := hc (i * L.n + j) u (by rw [L.all_at xs i hi j hjn]; exact hj)
  rwa [← Nat.add_assoc] at this
theorem Rd.drop {α : Type} {L : Lay α} {w : World} {b o c : Nat} {xs : List α} (h : Rd L w (some ⟨b, o, none⟩) c xs) (k : Nat) (hk : k ≤ xs.length) :
    Rd L w (some ⟨b, o + k * L.n, none⟩) (c - k) (xs.drop k) := by
  refine ⟨by rw [List.length_drop]; have := h.1; omega, by have := h.2.1; omega, (fun h0 => by cases h0), fun h0 => ⟨b, _, rfl, fun j u hj => ?_⟩⟩
  rw [List.length_drop] at h0
  obtain ⟨b', o', hA, hc⟩ := h.2.2.2 (by omega)
  simp only [Option.some.injEq, Addr.mk.injEq, and_true] at hA
  obtain ⟨rfl, rfl⟩ := hA
  rw [L.all_drop _ _ hk, List.getElem?_drop] at hj
  have := hc _ _ hj
  rwa [← Nat.add_assoc] at this
theorem Rd.take {α : Type} {L : Lay α} {w : World} {A : Option Addr} {c : Nat} {xs : List α} (h : Rd L w A c xs) (k : Nat) : Rd L w A c (xs.take k) := by
  refine ⟨by rw [List.length_take]; have := h.1; omega, h.2.1, h.2.2.1, fun h0 => ?_⟩
  · rw [List.length_take] at h0
    obtain ⟨b, o, hA, hc⟩ := h.2.2.2 (by omega)
    refine ⟨b, o, hA, fun j u hj => hc j u ?_⟩
    rw [L.all_take] at hj
    have hlt := (List.getElem?_eq_some_iff.1 hj).1
    rw [List.length_take] at hlt
    rwa [List.getElem?_take_of_lt (by omega)] at hj
/-- The block that a slice may write into: none where it has no capacity. -/
def rowOf : Value → Option Nat
  | .slice (some a) _ (_ + 1) => some a.block
  | _ => none
/-- v is a slice of the call's own that holds xs. -/
def Own {α : Type} (L : Lay α) (w : World) (base : Nat) (e : TypeId) (v : Value) (xs : List α) : Prop :=
  (v = .slice none 0 0 ∧ xs = []) ∨ ((∃ a, v = .slice (some a) 0 0) ∧ xs = []) ∨
  ∃ g c cur, v = .slice (some ⟨g, 0, none⟩) xs.length (c + 1) ∧ base ≤ g ∧ w.heap[g]? = some (.cells cur e (0, 0)) ∧ xs.length ≤ c + 1 ∧ c + 1 ≤ maxLen ∧ cur.size = (c + 1) * L.n ∧ cur.toList.take (xs.length * L.n) = L.all xs
section
variable {α : Type} {L : Lay α} {w w1 W : World} {base : Nat} {e : TypeId} {v : Value} {xs : List α}
theorem Own.of_row (h : w.ownsRow base e L.n v xs.length (L.all xs)) : Own L w base e v xs := by
  rcases h.2 with ⟨rfl, h0⟩ | ⟨g, cap, cur, rfl, hb, hh, hn, hm, hs, ht⟩
  · exact .inl ⟨rfl, List.eq_nil_of_length_eq_zero h0⟩
  · cases cap with
    | zero => 
      obtain rfl : xs = [] := List.eq_nil_of_length_eq_zero (by omega)
      exact .inr (.inl ⟨⟨_, rfl⟩, rfl⟩)
    | succ c => exact .inr (.inr ⟨g, c, cur, rfl, hb, hh, hn, hm, hs, ht⟩)
theorem Own.row (h : Own L w base e v xs) : (w.ownsRow base e L.n v xs.length (L.all xs) ∧ rowOf v = v.ownBlock) ∨ ((∃ a, v = .slice (some a) 0 0) ∧ xs = []) := by
  rcases h with ⟨rfl, rfl⟩ | h | ⟨g, c, cur, rfl, hb, hh, hn, hm, hs, ht⟩
  · exact .inl ⟨World.ownsRow_nil _ _ _ _, rfl⟩
  · exact .inr h
  · exact .inl ⟨⟨L.all_length xs, .inr ⟨g, c + 1, cur, rfl, hb, hh, hn, hm, hs, ht⟩⟩, rfl⟩
theorem Own.nil (L : Lay α) (w : World) (base : Nat) (e : TypeId) : Own L w base e (.slice none 0 0) [] := .inl ⟨rfl, rfl⟩
theorem Own.bare (L : Lay α) (w : World) (base : Nat) (e : TypeId) (a : Addr) : Own L w base e (.slice (some a) 0 0) [] := .inr (.inl ⟨⟨a, rfl⟩, rfl⟩)
/-- Its shape. -/
theorem Own.form (h : Own L w base e v xs) : ∃ A c, v = .slice A xs.length c ∧ Rd L w A c xs := by
  rcases h with ⟨rfl, rfl⟩ | ⟨⟨a, rfl⟩, rfl⟩ | ⟨g, c, cur, rfl, hb, hh, hn, hm, hs, ht⟩
  · exact ⟨none, 0, rfl, Rd.nil _ _⟩
  · exact ⟨some a, 0, rfl, by simp, by simp [maxLen], fun _ => rfl, fun h => absurd h (by simp)⟩
  · refine ⟨_, c + 1, rfl, ⟨hn, hm, (fun h0 => by cases h0), fun h0 => ⟨g, 0, rfl, fun j u hj => ?_⟩⟩⟩
    have h : w.ownsRow base e L.n (.slice (some ⟨g, 0, none⟩) xs.length (c + 1)) xs.length (L.all xs) := ⟨L.all_length xs, .inr ⟨g, c + 1, cur, rfl, hb, hh, hn, hm, hs, ht⟩⟩
    have := World.ownsRow.cells h (g := g) rfl j u hj
    rw [Addr.add_lit] at this
    exact this
theorem Own.rd {A : Option Addr} {n c : Nat} (h : Own L w base e (.slice A n c) xs) : n = xs.length ∧ Rd L w A c xs := by
  obtain ⟨A', c', he, hr⟩ := h.form
  cases he
  exact ⟨rfl, hr⟩
theorem Own.lt (h : Own L w base e v xs) : ∀ k, rowOf v = some k → base ≤ k ∧ k < w.heap.size := by
  intro k hk
  rcases h with ⟨rfl, rfl⟩ | ⟨⟨a, rfl⟩, rfl⟩ | ⟨g, c, cur, rfl, hb, hh, hn, hm, hs, ht⟩
  · cases hk
  · cases hk
  · cases hk
    exact ⟨hb, (Array.getElem?_eq_some_iff.1 hh).1⟩
theorem Own.other (h : Own L w base e v xs) {row : Option Nat} (hg : w.grownBy w1 row) (hne : rowOf v = none ∨ rowOf v ≠ row) : Own L w1 base e v xs := by
  rcases h with h | h | ⟨g, c, cur, rfl, hb, hh, hn, hm, hs, ht⟩
  · exact .inl h
  · exact .inr (.inl h)
  · refine .inr (.inr ⟨g, c, cur, rfl, hb, ?_, hn, hm, hs, ht⟩)
    rw [hg.block g (Array.getElem?_eq_some_iff.1 hh).1 (by rcases hne with h | h; cases h; exact h)]
    exact hh
theorem Own.keep (h : Own L w base e v xs) (hb : Below w.heap.size w w1) : Own L w1 base e v xs :=
  h.other (row := none) ⟨hb.os, hb.tape, hb.output, hb.size, fun i hi _ => hb.block i hi⟩ (by cases rowOf v <;> simp)
theorem Own.rebase (h : Own L w base e v xs) {b : Nat} (hb : ∀ k, rowOf v = some k → b ≤ k) : Own L w b e v xs := by
  rcases h with h | h | ⟨g, c, cur, rfl, _, hh, hn, hm, hs, ht⟩
  · exact .inl h
  · exact .inr (.inl h)
  · exact .inr (.inr ⟨g, c, cur, rfl, hb g rfl, hh, hn, hm, hs, ht⟩)
/-- A literal. -/
theorem Own.lit (W : World) (base : Nat) (e : TypeId) (xs : List α) (hb : base ≤ W.heap.size) (hm : xs.length ≤ maxLen) (cs : Array Value) (hcs : cs.toList = L.all xs) :
    Own L (W.alloc (.cells cs e)) base e (.slice (some ⟨W.heap.size, 0, none⟩) xs.length xs.length) xs := by
  have h := World.ownsRow_lit (base := base) (e := e) (size := L.n) W cs xs.length hb hm (by rw [← Array.length_toList, hcs, L.all_length])
  rw [hcs] at h
  exact .of_row h
/-- One element, laid down for an append. -/
theorem Rd.lit1 (W : World) (e : TypeId) (x : α) (cs : Array Value) (hcs : cs.toList = L.cells x) : Rd L (W.alloc (.cells cs e)) (some ⟨W.heap.size, 0, none⟩) 1 [x] :=
  (Own.lit (L := L) W W.heap.size e [x] (Nat.le_refl _) (by simp [maxLen]) cs (by rw [hcs, L.all_one])).rd.2
theorem below_row {w0 : World} (hB : Below base w0 W) (hbase : base ≤ W.heap.size) (h : Own L W base e v xs) (hg : W.grownBy w1 (rowOf v)) : Below base w0 w1 := hB.grown hg hbase (fun k hk => (h.lt k hk).1)
end
section
variable {P : Program} {α : Type} {L : Lay α}
/-- append(v, ys...): v a row of the call's own, ys whatever is read. -/
theorem run_append {W : World} {base : Nat} {e : TypeId} (xs ys : List α) (v : Value) (A : Option Addr) (c : Nat) (t ty : TypeId) (z : Value) (bytes : Nat)
    (ht : P.underlying t = some (.slice e)) (hinfo : (P.info? e).map (fun i => (i.zero, i.size, i.bytes)) = some (some z, L.n, bytes)) (hz : z.cells.size = L.n)
    (HO : Own L W base e v xs) (HR : Rd L W A c ys) (hbase : base ≤ W.heap.size) (hl : (xs.length + ys.length) * bytes ≤ 140737488355328) (hm : xs.length + ys.length ≤ maxLen) :
    ∃ v1 w1, (Builtin.append_ #[t, t] ty #[v, .slice A ys.length c]).run P W = .ok v1 w1 ∧ Own L w1 base e v1 (xs ++ ys) ∧ W.grownBy w1 (rowOf v) ∧ (rowOf v1 = rowOf v ∨ rowOf v1 = none ∨ rowOf v1 = some W.heap.size) := by
  obtain ⟨i0, hi, hzz⟩ := Option.map_eq_some_iff.1 hinfo
  simp only [Prod.mk.injEq] at hzz
  obtain ⟨hz0, hz1, hz2⟩ := hzz
  rcases HO.row with ⟨hown, hrow⟩ | ⟨⟨a, rfl⟩, rfl⟩
  · have fin : ∀ (ad : Addr), A = some ad → (∀ j u, (L.all ys)[j]? = some u → W.cell? (ad.add j) = some u) → ∃ v1 w1, (Builtin.append_ #[t, t] ty #[v, .slice A ys.length c]).run P W = .ok v1 w1 ∧ Own L w1 base e v1 (xs ++ ys) ∧ W.grownBy w1 (rowOf v) ∧ (rowOf v1 = rowOf v ∨ rowOf v1 = none ∨ rowOf v1 = some W.heap.size) := by
      rintro ad rfl hc
      obtain ⟨v1, w1, h1, h2, h3, _, h4⟩ := run_append_own_at (P := P) W base t ty e i0 z L.n bytes ht hi hz0 hz1 hz2 hz L.pos v xs.length (L.all xs) hown ad ys.length c (L.all ys) (L.all_length ys) hc (L.all_ones ys) hm hl hbase
      have h2' : Own L w1 base e v1 (xs ++ ys) := .of_row (by rw [List.length_append, L.all_append]; exact h2)
      refine ⟨v1, w1, h1, h2', by rw [hrow]; exact h3, ?_⟩
      have hr : rowOf v1 = v1.ownBlock ∨ rowOf v1 = none := by
        rcases h2'.row with ⟨_, h⟩ | ⟨⟨a, rfl⟩, _⟩
        · exact .inl h
        · exact .inr rfl
      rcases hr with hr | hr
      · rw [hr, hrow]
        rcases h4 with h4 | h4
        · exact .inl h4
        · exact .inr (.inr h4)
      · exact .inr (.inl hr)
    rcases Nat.eq_zero_or_pos ys.length with h0 | h0
    · obtain rfl : ys = [] := List.eq_nil_of_length_eq_zero h0
      rcases A with _ | ad
      · obtain rfl := HR.2.2.1 rfl
        exact ⟨v, W, run_append_owned_none (P := P) (w := W) base t ty e i0 L.n ht hi v xs.length (L.all xs) hown, by simpa using HO, World.grownBy.refl _ _, .inl rfl⟩
      · exact fin ad rfl (fun j u hj => by simp [Lay.all] at hj)
    · obtain ⟨b, o', rfl, hc⟩ := HR.2.2.2 h0
      exact fin _ rfl (fun j u hj => by rw [Addr.add_lit]; exact hc j u hj)
  · rcases Nat.eq_zero_or_pos ys.length with h0 | h0
    · obtain rfl : ys = [] := List.eq_nil_of_length_eq_zero h0
      refine ⟨.slice (some a) 0 0, W, ?_, Own.bare _ _ _ _ _, World.grownBy.refl _ _, .inl rfl⟩
      rcases A with _ | ad
      · simp [Builtin.append_, run_underlying ht, sizeOf, typeInfo, hi, Builtin.lenOf, Builtin.firstCells, storeCells]
      · simp [Builtin.append_, run_underlying ht, sizeOf, typeInfo, hi, Builtin.lenOf, Builtin.firstCells, storeCells, loadCells, loadCellsFrom]
    · obtain ⟨b, o', rfl, hc⟩ := HR.2.2.2 h0
      simp only [List.length_nil, Nat.zero_add] at hl hm
      have hr := run_append_grow (P := P) W t ty e i0 z ht hi hz0 a 0 0 [] (by simp) (by simp) ⟨b, o', none⟩ ys.length c (L.all ys) (by rw [hz1]; exact L.all_length ys) (fun j u hj => by rw [Addr.add_lit]; exact hc j u hj) (by omega) (by simp only [maxLen] at hm; omega) (by rw [hz2, Nat.zero_add]; exact growslice_fits h0 hl)
      have hge := grownCap_ge W (0 + ys.length) 0 e
      have hcm : grownCap W (0 + ys.length) 0 e ≤ maxLen := grownCap_le_maxLen W _ 0 e (by simpa using hm)
      refine ⟨_, _, hr, .of_row ⟨by rw [List.nil_append, L.all_length], .inr ⟨W.heap.size, _, _, by simp, hbase, heap_alloc_new W.drew _, by simpa using hge, hcm, ?_, ?_⟩⟩, ⟨rfl, rfl, rfl, by simp, fun k hk _ => heap_alloc_old W.drew _ hk⟩, ?_⟩
      · simp only [Array.size_append, List.size_toArray, size_zeroCells, hz, List.length_nil, Nat.zero_add, L.all_length, ← Nat.add_mul]
        congr 1; simp only [Nat.zero_add] at hge; omega
      · simp only [Array.toList_append, List.nil_append]
        rw [← L.all_length]
        exact List.take_left
      · generalize grownCap W (0 + ys.length) 0 e = q
        cases q with
        | zero => exact .inr (.inl rfl)
        | succ q => exact .inr (.inr rfl)
end
section
variable {P : Program} {ops : Array Oper} {rest : List Oper} {o : Oper} {a : Act} {Q : Exit → Act → World → Prop} {W : World} {α : Type} {L : Lay α}
end
end Go.Proofs.YtfhkgnfphfmhiaaGreatDoor
/- Appends in the formulas that 'vc' reckons. -/
namespace Go.Proofs.YtfhkgnfphfmhiaaGreatDoor
open Go.RowKit Go.Vc
/-- Two slices that don't write into one row. -/
def Apart (v u : Value) : Prop := rowOf v = none ∨ rowOf v ≠ rowOf u
section
variable {P : Program} {α : Type} {L : Lay α} {W : World} {base : Nat} {e : TypeId}
/-- What an append leaves of a world: below base nothing turns; slices apart from it stay, and apart. -/
structure Grew (base : Nat) (W w1 : World) (v v1 : Value) : Prop where
  below : Below base W w1
  lt : W.heap.size ≤ w1.heap.size
  grown : W.grownBy w1 (rowOf v)
  row : rowOf v1 = rowOf v ∨ rowOf v1 = none ∨ ∃ g, rowOf v1 = some g ∧ W.heap.size ≤ g
theorem ap {xs ys : List α} {v : Value} {A : Option Addr} {m c : Nat} {t ty : TypeId} (z : Value) (bytes : Nat) (hm : m = ys.length)
    (ht : P.underlying t = some (.slice e)) (hinfo : (P.info? e).map (fun i => (i.zero, i.size, i.bytes)) = some (some z, L.n, bytes)) (hz : z.cells.size = L.n)
    (HO : Own L W base e v xs) (HR : Rd L W A c ys) (hbase : base ≤ W.heap.size) (hl : (xs.length + ys.length) * bytes ≤ 140737488355328) (hml : xs.length + ys.length ≤ maxLen) {K : Value → World → Prop}
    (h : ∀ A' c' w1, Own L w1 base e (.slice A' (xs.length + ys.length) c') (xs ++ ys) → Grew base W w1 v (.slice A' (xs.length + ys.length) c') → K (.slice A' (xs.length + ys.length) c') w1) :
    Raw P (Builtin.append_ #[t, t] ty #[v, .slice A m c]) W K := by
  subst hm
  obtain ⟨v1, w1, h1, h2, h3, h4⟩ := run_append (P := P) xs ys v A c t ty z bytes ht hinfo hz HO HR hbase hl hml
  obtain ⟨A', c', rfl, hr⟩ := h2.form
  rw [List.length_append] at *
  refine ⟨_, w1, h1, h A' c' w1 h2 ⟨below_row (Below.refl _ _) hbase HO h3, h3.size, h3, ?_⟩⟩
  rcases h4 with h4 | h4 | h4
  · exact .inl h4
  · exact .inr (.inl h4)
  · exact .inr (.inr ⟨_, h4, Nat.le_refl _⟩)
/-- One element more. -/
theorem ap1 {xs : List α} {x : α} {v : Value} {cs : Array Value} {t ty : TypeId} (z : Value) (bytes : Nat) (hcs : cs.toList = L.cells x)
    (ht : P.underlying t = some (.slice e)) (hinfo : (P.info? e).map (fun i => (i.zero, i.size, i.bytes)) = some (some z, L.n, bytes)) (hz : z.cells.size = L.n)
    (HO : Own L W base e v xs) (hbase : base ≤ W.heap.size) (hl : (xs.length + 1) * bytes ≤ 140737488355328) (hml : xs.length + 1 ≤ maxLen) {K : Value → World → Prop}
    (h : ∀ A' c' w1, Own L w1 base e (.slice A' (xs.length + 1) c') (xs ++ [x]) → Grew base W w1 v (.slice A' (xs.length + 1) c') → K (.slice A' (xs.length + 1) c') w1) :
    Al W cs e fun g w1 => Raw P (Builtin.append_ #[t, t] ty #[v, .slice (some g) 1 1]) w1 K := by
  have hb : Below W.heap.size W (W.alloc (.cells cs e)) := (Below.refl _ _).alloc (Nat.le_refl _) _
  refine ap (L := L) (xs := xs) (ys := [x]) (base := base) z bytes rfl ht hinfo hz (HO.keep hb) (Rd.lit1 (L := L) W e x cs hcs) (by simp; omega) hl hml fun A' c' w1 ho hg => h A' c' w1 ho ⟨hb.mono hbase |>.trans hg.below, ?_, ?_, ?_⟩
  · have := hg.lt; simp at this; omega
  · refine ⟨hg.grown.os.trans hb.os, hg.grown.tape.trans hb.tape, hg.grown.output.trans hb.output, by have := hg.lt; simp at this; omega, fun i hi hr => ?_⟩
    rw [hg.grown.block i (by simp; omega) hr, hb.block i hi]
  · rcases hg.row with h1 | h1 | ⟨g, h1, h2⟩
    · exact .inl h1
    · exact .inr (.inl h1)
    · exact .inr (.inr ⟨g, h1, by simp at h2; omega⟩)
end
/-- One element more, in a region that draws. -/
theorem ap1S {P : Program} {α : Type} {L : Lay α} {W : World} {base : Nat} {e : TypeId} {S : World → Prop} {xs : List α} {x : α} {v : Value} {cs : Array Value} {t ty : TypeId} (z : Value) (bytes : Nat) (hcs : cs.toList = L.cells x)
    (ht : P.underlying t = some (.slice e)) (hinfo : (P.info? e).map (fun i => (i.zero, i.size, i.bytes)) = some (some z, L.n, bytes)) (hz : z.cells.size = L.n)
    (HO : Own L W base e v xs) (hbase : base ≤ W.heap.size) (hl : (xs.length + 1) * bytes ≤ 140737488355328) (hml : xs.length + 1 ≤ maxLen) {K : Value → World → Prop} (hS : ∀ w1, Below W.heap.size W w1 → S w1)
    (h : ∀ A' c' w1, Own L w1 base e (.slice A' (xs.length + 1) c') (xs ++ [x]) → Grew base W w1 v (.slice A' (xs.length + 1) c') → K (.slice A' (xs.length + 1) c') w1) :
    Al W cs e fun g w1 => S w1 ∧ Raw P (Builtin.append_ #[t, t] ty #[v, .slice (some g) 1 1]) w1 K :=
  ⟨hS _ ((Below.refl _ _).alloc (Nat.le_refl _) _), ap1 z bytes hcs ht hinfo hz HO hbase hl hml h⟩
theorem Own.lit' {α : Type} {L : Lay α} {w : World} {base g : Nat} {e : TypeId} {cur : Array Value} {xs : List α} (h : Blk w g cur e) (hb : base ≤ g) (hc : cur.toList = L.all xs) (hm : xs.length ≤ maxLen) : Own L w base e (.slice (some ⟨g, 0, none⟩) xs.length xs.length) xs := by
  have hsz : cur.size = xs.length * L.n := by rw [← Array.length_toList, hc, L.all_length]
  cases xs with
  | nil => exact .inr (.inl ⟨⟨_, rfl⟩, rfl⟩)
  | cons x xs => exact .inr (.inr ⟨g, xs.length, cur, rfl, hb, h, by simp, hm, hsz, by rw [hc, ← L.all_length, List.take_length]⟩)
/-- A slice of a slice. -/
theorem Rd.slice {α : Type} {L : Lay α} {w : World} {A : Option Addr} {c : Nat} {xs : List α} (h : Rd L w A c xs) {k : Nat} (hk : k ≤ xs.length) : Rd L w (SlA A c k L.n) (c - k) (xs.drop k) := by
  unfold SlA
  by_cases hck : c = k
  · rw [if_pos hck]
    have : xs.length = k := by have := h.1; omega
    rw [List.drop_of_length_le (by omega)]
    exact ⟨by simp, by have := h.2.1; omega, fun _ => by omega, fun h0 => by simp at h0⟩
  · rw [if_neg hck]
    cases A with
    | none => have := h.2.2.1 rfl; have := h.1; omega
    | some a =>
      by_cases h0 : 0 < xs.length
      · obtain ⟨b, o, hA, _⟩ := h.2.2.2 h0
        obtain rfl : a = ⟨b, o, none⟩ := by simpa using hA
        simp only [Option.map_some, Addr.add_mk]
        exact h.drop k hk
      · have h1 : xs = [] := List.eq_nil_of_length_eq_zero (by omega)
        subst h1
        simp only [List.drop_nil]
        exact ⟨by simp, by have := h.2.1; omega, (fun e => by cases e), fun h0 => by simp at h0⟩
/-- Numbers, bytes, strings in a row. -/
def LI : Lay Int := ⟨1, fun n => [.int .i64 n], fun _ => rfl, fun _ => by simp [Value.oneCell'], by decide⟩
section
variable {α : Type} {L : Lay α} {w : World} {A : Option Addr} {c : Nat} {xs : List α}
/-- An element's address, and what lies there. -/
theorem Rd.idx (h : Rd L w A c xs) {n : Nat} (hn : n = xs.length) {i : Int} (h0 : 0 ≤ i) (h1 : i < n) {sz : Nat} (hsz : sz = L.n) {K : Addr → Prop}
    (hK : ∀ b o, (∀ j u, (L.cells (xs[i.toNat]'(by omega)))[j]? = some u → w.cell? ⟨b, o + j, none⟩ = some u) → K ⟨b, o, none⟩) : IdxA A n i sz K := by
  subst hsz
  have hlt : i.toNat < xs.length := by omega
  obtain ⟨b, o, rfl, hc⟩ := h.at i.toNat hlt
  rw [IdxA_some h0 h1, Addr.add_mk]
  exact hK _ _ hc
/-- The same where the world may turn meanwhile. -/
theorem Rd.held {S : World → Prop} (h : Rd L w A c xs) (hS : ∀ w1, S w1 → Below w.heap.size w w1) {n : Nat} (hn : n = xs.length) {i : Int} (h0 : 0 ≤ i) (h1 : i < n) {sz : Nat} (hsz : sz = L.n) {K : Addr → Prop}
    (hK : ∀ b o, (∀ j u, (L.cells (xs[i.toNat]'(by omega)))[j]? = some u → Held S ⟨b, o + j, none⟩ u) → K ⟨b, o, none⟩) : IdxA A n i sz K :=
  h.idx hn h0 h1 hsz fun b o hc => hK b o fun j u hj w1 h1 => kcell (hS w1 h1) (hc j u hj)
end
end Go.Proofs.YtfhkgnfphfmhiaaGreatDoor
/- Twigs: worlds of which only some blocks turn, or are seen (as in MdRd). -/
namespace Go.Proofs.YtfhkgnfphfmhiaaGreatDoor
open Go.RowKit Go.Vc
set_option linter.unusedVariables false
/-- What stays where only blocks of M turn. -/
structure Fm (M : Nat → Prop) (w w' : World) : Prop where
  os : w'.os = w.os
  tape : w'.tape = w.tape
  output : w'.output = w.output
  size : w.heap.size ≤ w'.heap.size
  block : ∀ b, b < w.heap.size → ¬ M b → w'.heap[b]? = w.heap[b]?
section
variable {M M' : Nat → Prop} {w w1 w2 : World}
theorem Fm.refl (M : Nat → Prop) (w : World) : Fm M w w := ⟨rfl, rfl, rfl, Nat.le_refl _, fun _ _ _ => rfl⟩
theorem Fm.trans (h : Fm M w w1) (k : Fm M w1 w2) : Fm M w w2 :=
  ⟨k.os.trans h.os, k.tape.trans h.tape, k.output.trans h.output, Nat.le_trans h.size k.size, fun b hb hm => (k.block b (Nat.lt_of_lt_of_le hb h.size) hm).trans (h.block b hb hm)⟩
theorem Fm.mono (h : Fm M w w1) (hm : ∀ b, b < w.heap.size → M b → M' b) : Fm M' w w1 := ⟨h.os, h.tape, h.output, h.size, fun b hb hn => h.block b hb fun k => hn (hm b hb k)⟩
theorem Fm.below (h : Below w.heap.size w w1) : Fm M w w1 := ⟨h.os, h.tape, h.output, h.size, fun b hb _ => h.block b hb⟩
theorem Fm.toBelow (h : Fm M w w1) {B : Nat} (hB : B ≤ w.heap.size) (hm : ∀ b, b < B → ¬ M b) : Below B w w1 := ⟨h.os, h.tape, h.output, h.size, fun b hb => h.block b (Nat.lt_of_lt_of_le hb hB) (hm b hb)⟩
theorem Fm.tr (h : Fm M w w1) (k : Below w1.heap.size w1 w2) : Fm M w w2 := h.trans (.below k)
theorem Fm.set (h : Fm M w w1) {b i : Nat} (hb : b < w.heap.size → M b) (v : Value) : Fm M w (w1.setCell ⟨b, i, none⟩ v) :=
  ⟨h.os, h.tape, h.output, by simp; exact h.size, fun k hk hm => by
    have : k ≠ b := fun e => hm (e ▸ hb (e ▸ hk))
    rw [Below.heap_setCell _ _ _ _ this]; exact h.block k hk hm⟩
theorem Fm.grown {r : Option Nat} (h : w.grownBy w1 r) (hr : ∀ b, r = some b → M b) : Fm M w w1 := ⟨h.os, h.tape, h.output, h.size, fun b hb hm => h.block b hb fun e => hm (hr b e.symm)⟩
theorem Fm.blk (h : Fm M w w1) {b : Nat} {c : Array Value} {t : TypeId} (hb : Blk w b c t) (hm : ¬ M b) : Blk w1 b c t := by
  have hl := hb.lt
  unfold Blk at *; rw [h.block b hl hm]; exact hb
/-- Then only new blocks turn. -/
theorem Fm.trans' {M M' : Nat → Prop} {w w1 w2 : World} (h : Fm M w w1) (k : Fm M' w1 w2) (hm : ∀ b, b < w.heap.size → ¬ M' b) : Fm M w w2 :=
  ⟨k.os.trans h.os, k.tape.trans h.tape, k.output.trans h.output, Nat.le_trans h.size k.size, fun b hb h1 => (k.block b (Nat.lt_of_lt_of_le hb h.size) (hm b hb)).trans (h.block b hb h1)⟩
/-- A store into a block that is known. -/
theorem st_blk {g i : Nat} {c : Array Value} {t : TypeId} {v : Value} {K : World → Prop} (hg : Blk w g c t) (hi : i < c.size) (h : ∀ w1, Blk w1 g (c.setIfInBounds i v) t → Fm (· = g) w w1 → K w1) : St w ⟨g, i, none⟩ v K := by
  refine ⟨⟨c[i], by rw [hg.cell]; simp [hi]⟩, hg.frozen i, h _ (hg.set i v) ((Fm.refl (fun x => x = g) _).set (fun _ => rfl) v)⟩
/-! ### Worlds of which only some blocks are seen -/
def Sub (w w1 : World) : Prop := ∀ (b : Nat) c t fr, w.heap[b]? = some (.cells c t fr) → w1.heap[b]? = some (.cells c t fr)
theorem Sub.trans (h : Sub w w1) (k : Sub w1 w2) : Sub w w2 := fun b c t fr e => k b c t fr (h b c t fr e)
theorem Sub.cell (h : Sub w w1) {a : Addr} {v : Value} (hc : w.cell? a = some v) : w1.cell? a = some v := by
  unfold World.cell? at hc ⊢
  split at hc
  · rename_i c t fr he
    rw [h _ _ _ _ he]; exact hc
  · cases hc
theorem Sub.rd {α : Type} {L : Lay α} {A : Option Addr} {c : Nat} {xs : List α} (hs : Sub w w1) (h : Rd L w A c xs) : Rd L w1 A c xs := by
  refine ⟨h.1, h.2.1, h.2.2.1, fun h0 => ?_⟩
  obtain ⟨b, o, hA, hc⟩ := h.2.2.2 h0
  exact ⟨b, o, hA, fun j u hj => hs.cell (hc j u hj)⟩
def wOnly (ok : Nat → Bool) (w : World) : World := { w with heap := w.heap.mapIdx fun i o => if ok i then o else .map #[] 0 }
theorem wOnly_at (ok : Nat → Bool) (w : World) (b : Nat) : (wOnly ok w).heap[b]? = (w.heap[b]?).map fun o => if ok b then o else .map #[] 0 := by
  simp [wOnly, Array.getElem?_mapIdx]
theorem only_cells {ok : Nat → Bool} {b : Nat} {c : Array Value} {t : TypeId} {fr : Nat × Nat} (h : (wOnly ok w).heap[b]? = some (.cells c t fr)) : ok b = true ∧ w.heap[b]? = some (.cells c t fr) := by
  rw [wOnly_at] at h
  cases hb : w.heap[b]? with
  | none => rw [hb] at h; cases h
  | some o =>
    rw [hb] at h
    simp only [Option.map_some] at h
    cases hk : ok b with
    | true => rw [hk] at h; exact ⟨rfl, h⟩
    | false => rw [hk] at h; cases h
theorem sub_only {ok ok' : Nat → Bool} (hk : ∀ b, b < w.heap.size → ok b = true → ok' b = true) (hb : ∀ b, b < w.heap.size → ok b = true → w1.heap[b]? = w.heap[b]?) : Sub (wOnly ok w) (wOnly ok' w1) := by
  intro b c t fr h
  obtain ⟨h1, h2⟩ := only_cells h
  have hlt := (Array.getElem?_eq_some_iff.1 h2).1
  rw [wOnly_at, hb b hlt h1, h2, Option.map_some, hk b hlt h1]; rfl
theorem sub_of_only {ok : Nat → Bool} : Sub (wOnly ok w) w := fun b c t fr h => (only_cells h).2
theorem cells_only {ok : Nat → Bool} {b : Nat} {c : Array Value} {t : TypeId} {fr : Nat × Nat} (h : ok b = true) (hb : w.heap[b]? = some (.cells c t fr)) : (wOnly ok w).heap[b]? = some (.cells c t fr) := by
  rw [wOnly_at, hb, Option.map_some, h]; rfl
/-- Only what was made from number k on. -/
def above (k : Nat) (w : World) : World := wOnly (fun b => Nat.ble k b) w
/-- All but block g. -/
def but (g : Nat) (w : World) : World := wOnly (fun b => !(Nat.beq b g)) w
end
abbrev Sv := Option Addr × Nat × Nat
end Go.Proofs.YtfhkgnfphfmhiaaGreatDoor
/- Documents: a list under construction, whose elements read further blocks (as in TwBld). -/
namespace Go.Proofs.YtfhkgnfphfmhiaaGreatDoor
open Go.RowKit Go.Vc
set_option linter.unusedVariables false
set_option linter.unusedSimpArgs false
theorem sub_below {w w1 : World} (hb : Below w.heap.size w w1) : Sub w w1 := fun b c t fr h => by
  rw [hb.block b (Array.getElem?_eq_some_iff.1 h).1]; exact h
/-- Two lists, element by element. -/
def Z2 {α β : Type} (R : α → β → Prop) : List α → List β → Prop
  | [], es => es = []
  | a :: l, es => ∃ e es', es = e :: es' ∧ R a e ∧ Z2 R l es'
section
variable {α β : Type} {R S : α → β → Prop}
theorem Z2.mono (h : ∀ a e, R a e → S a e) : ∀ {l : List α} {es : List β}, Z2 R l es → Z2 S l es
  | [], es, k => k
  | a :: l, es, k => by
    obtain ⟨e, es', h1, h2, h3⟩ := k
    exact ⟨e, es', h1, h a e h2, Z2.mono h h3⟩
theorem Z2.len : ∀ {l : List α} {es : List β}, Z2 R l es → es.length = l.length
  | [], es, k => by cases k; rfl
  | a :: l, es, k => by
    obtain ⟨e, es', rfl, h2, h3⟩ := k
    simp [h3.len]
theorem Z2.get : ∀ {l : List α} {es : List β}, Z2 R l es → ∀ (i : Nat) (h : i < l.length) (h' : i < es.length), R l[i] es[i]
  | [], es, _, i, h, _ => by simp at h
  | a :: l, es, k, i, h, h' => by
    obtain ⟨e, es', rfl, h2, h3⟩ := k
    cases i with
    | zero => exact h2
    | succ i => exact h3.get i (by simpa using h) (by simpa using h')
end
/-- Elements of a kind: how they lie, what they read. -/
structure Knd (α β : Type) where
  L : Lay β
  RX : World → List α → List β → Prop
  RY : World → α → β → Prop
  sub : ∀ {w w1 : World}, Sub w w1 → ∀ (p : List α) (e : List β), RX w p e → RX w1 p e
  subY : ∀ {w w1 : World}, Sub w w1 → ∀ (p : α) (e : β), RY w p e → RY w1 p e
  nil : ∀ w, RX w [] []
  snoc : ∀ {w : World} {p : List α} {e : List β} {q : α} {f : β}, RX w p e → RY w q f → RX w (p ++ [q]) (e ++ [f])
  len : ∀ {w : World} {p : List α} {e : List β}, RX w p e → e.length = p.length
section
variable {α β : Type} {N : Knd α β} {w w1 w2 : World} {k : Nat} {e : TypeId} {v : Value} {ps : List α} {M : Nat → Prop}
theorem own_fm {γ : Type} {L : Lay γ} {xs : List γ} (h : Own L w k e v xs) (hf : Fm M w w1) (hm : ∀ b, rowOf v = some b → ¬ M b) : Own L w1 k e v xs := by
  rcases h with h | h | ⟨g, c, cur, rfl, hb, hh, hn, hmx, hs, ht⟩
  · exact .inl h
  · exact .inr (.inl h)
  · refine .inr (.inr ⟨g, c, cur, rfl, hb, ?_, hn, hmx, hs, ht⟩)
    rw [hf.block g (Array.getElem?_eq_some_iff.1 hh).1 (hm g rfl)]; exact hh
end
end Go.Proofs.YtfhkgnfphfmhiaaGreatDoor
/- Rows: copies into them, cleared parts, an append of zeros; a row with one element put in, or with some taken out. -/
namespace Go.Proofs.YtfhkgnfphfmhiaaGreatDoor
open Go.RowKit Go.Vc
set_option linter.unusedVariables false
set_option linter.unusedSimpArgs false
set_option maxRecDepth 100000
section
variable {P : Program} {w : World}
theorem setRow_fm {g : Nat} {cur c' : Array Value} {t : TypeId} (hg : Blk w g cur t) : Blk (w.setRow g c') g c' t ∧ Fm (· = g) w (w.setRow g c') := by
  refine ⟨setRow_heap w g cur c' t _ hg, ⟨rfl, rfl, rfl, by simp [World.setRow], fun b hb hm => ?_⟩⟩
  have hm : ¬ g = b := fun e => hm e.symm
  simp [World.setRow, Array.getElem?_modify, hm]
theorem sizeT_info {e : TypeId} {sz : Nat} (h : sizeT P e = some sz) : ∃ i, P.info? e = some i ∧ i.size = sz := by
  unfold sizeT at h
  split at h
  · rename_i i hi; exact ⟨i, hi, by simpa using h⟩
  · cases h
/-- copy: into a row, of whatever is read. -/
theorem copy_blk {g : Nat} {l : List Value} {t dT sT ty elem : TypeId} {sz : Nat} (hg : Blk w g l.toArray t) (hu : P.underlying dT = some (.slice elem)) (hsz : sizeT P elem = some sz) {o dLen dCap : Nat} {a : Addr} {sLen sCap : Nat} {cs : List Value}
    (hn : cs.length = Nat.min sLen dLen * sz) (hsrc : ∀ j v, cs[j]? = some v → w.cell? (a.add j) = some v) (hfit : o + cs.length ≤ l.length) (h1 : ∀ v ∈ cs, v.oneCell' = true) {K : Value → World → Prop}
    (hK : ∀ w', Blk w' g (l.take o ++ cs ++ l.drop (o + cs.length)).toArray t → Fm (· = g) w w' → K (goInt (Nat.min sLen dLen)) w') :
    Raw P (Builtin.copy_ #[dT, sT] ty #[.slice (some ⟨g, o, none⟩) dLen dCap, .slice (some a) sLen sCap]) w K := by
  obtain ⟨i, hi, hiz⟩ := sizeT_info hsz
  have hl := run_loadCells_list (P := P) w a cs hsrc
  have hst := run_storeCells_at P g o t cs 0 l.toArray w hg (by simpa using hfit) h1
  obtain ⟨q1, q2⟩ := setRow_fm (w := w) (c' := (l.take o ++ cs ++ l.drop (o + cs.length)).toArray) hg
  refine ⟨_, _, ?_, hK _ q1 q2⟩
  subst hiz
  simp [Builtin.copy_, run_underlying hu, Builtin.lenOf, Builtin.firstCells, sizeOf, typeInfo, hi, ← hn, hl, hst]
/-- clear: a part of a row. -/
theorem clear_blk {g : Nat} {l : List Value} {t dT ty elem : TypeId} {z : Value} (hg : Blk w g l.toArray t) (hu : P.underlying dT = some (.slice elem)) (hz : zeroT P elem = some z) {o n c : Nat} (hfit : o + n * z.cells.size ≤ l.length) (h1 : ∀ v ∈ z.cells.toList, v.oneCell' = true) {K : Value → World → Prop}
    (hK : ∀ w' cs, cs.length = n * z.cells.size → Blk w' g (l.take o ++ cs ++ l.drop (o + n * z.cells.size)).toArray t → Fm (· = g) w w' → K (.tuple #[]) w') :
    Raw P (Builtin.clear_ #[dT] ty #[.slice (some ⟨g, o, none⟩) n c]) w K := by
  cases n with
  | zero =>
    refine ⟨.tuple #[], w, by simp [Builtin.clear_, run_underlying hu], hK w [] (by simp) ?_ (Fm.refl _ _)⟩
    simpa using hg
  | succ m =>
    have hcl : (Builtin.zeroCells z.cells (m + 1)).toList.length = (m + 1) * z.cells.size := by simp [Builtin.zeroCells]
    have h1' : ∀ v ∈ (Builtin.zeroCells z.cells (m + 1)).toList, v.oneCell' = true := fun v hv => by
      simp only [Builtin.zeroCells, Array.toList_map, List.mem_map] at hv
      obtain ⟨k, hk, rfl⟩ := hv
      have hk' : k < (m + 1) * z.cells.size := by simpa using hk
      have hpos : 0 < z.cells.size := Nat.pos_of_ne_zero fun e => by rw [e] at hk'; omega
      have hm : k % z.cells.size < z.cells.size := Nat.mod_lt _ hpos
      rw [getElem!_pos z.cells _ hm]
      exact h1 _ (by simp)
    have hst := run_storeCells_at P g o t (Builtin.zeroCells z.cells (m + 1)).toList 0 l.toArray w hg (by rw [hcl]; simpa using hfit) h1'
    obtain ⟨q1, q2⟩ := setRow_fm (w := w) (c' := (l.take o ++ (Builtin.zeroCells z.cells (m + 1)).toList ++ l.drop (o + (m + 1) * z.cells.size)).toArray) hg
    rw [hcl] at hst
    refine ⟨_, _, ?_, hK _ _ hcl q1 q2⟩
    simp only [Nat.add_zero] at hst
    simp [Builtin.clear_, run_underlying hu, zeroT_run hz, hst]
/-- append(s[:i], make(..)...) where there is no room. -/
theorem apz {t u ty e : TypeId} {i : TypeInfo} {z : Value} {k : IntKind} (ht : P.underlying t = some (.slice e)) (hu : P.underlying u = some (.int k)) (hi : P.info? e = some i) (hz : i.zero = some z)
    {b : Addr} {sLen sCap : Nat} {olds : List Value} (hlo : olds.length = sLen * i.size) (holds : ∀ j v, olds[j]? = some v → w.cell? (b.add j) = some v) {n : Nat} (h0 : 0 < n)
    (hg : sCap < sLen + n) (h63 : ((sLen + n : Nat) : Int) ≤ 9223372036854775807) (hfit : Builtin.nextslicecap (sLen + n) sCap * i.bytes ≤ 281474976710656) (hb : n * i.bytes ≤ 281474976710656) {K : Value → World → Prop}
    (hK : K (.slice (some ⟨w.heap.size, 0, none⟩) (sLen + n) (grownCap w (sLen + n) sCap e)) (w.drew.alloc (.cells (olds.toArray ++ (if n * i.size = 0 then #[] else Builtin.zeroCells z.cells n) ++ Builtin.zeroCells z.cells (grownCap w (sLen + n) sCap e - (sLen + n))) e))) :
    Raw P (Builtin.append_ #[t, u] ty #[.slice (some b) sLen sCap, .int .i64 (n : Nat)]) w K := by
  have hn : ¬ (sLen + n ≤ sCap) := by omega
  have h63' : ¬ (9223372036854775807 < ((sLen : Int) + (n : Int))) := by omega
  have h48' : ¬ (281474976710656 < Builtin.nextslicecap (sLen + n) sCap * i.bytes) := by omega
  have hfo := run_firstCells_some (P := P) w.drew i.size sLen b sLen sCap olds hlo (by simpa using holds)
  refine ⟨_, _, ?_, hK⟩
  have hw : IntKind.i64.wrap (n : Int) = n := by
    simp [IntKind.wrap, IntKind.signed, IntKind.bits]; omega
  have hneg : ¬ ((n : Int) < 0) := by omega
  have hb' : ¬ ((281474976710656 : Int) < (n : Int) * (i.bytes : Nat)) := by
    have : (n : Int) * (i.bytes : Nat) = ((n * i.bytes : Nat) : Int) := by simp
    rw [this]; omega
  by_cases hz0 : n * i.size = 0
  · rw [if_pos hz0]
    simp [Builtin.append_, run_underlying ht, run_underlying hu, sizeOf, typeInfo, zeroValue, asInt, asIntOf, hi, hz, hw, hneg, hb', hn, h63', h48', Question.forced, hfo, newRow, grownCap, hz0]
  · rw [if_neg hz0]
    simp [Builtin.append_, run_underlying ht, run_underlying hu, sizeOf, typeInfo, zeroValue, asInt, asIntOf, hi, hz, hw, hneg, hb', hn, h63', h48', Question.forced, hfo, newRow, grownCap, hz0]
end
end Go.Proofs.YtfhkgnfphfmhiaaGreatDoor
/- Documents: images in plain; which ones can be loaded. -/
namespace Go.Proofs.YtfhkgnfphfmhiaaGreatDoor
open Go.RowKit Go.Vc
set_option linter.unusedVariables false
set_option linter.unusedSimpArgs false
set_option maxRecDepth 100000
/-- An attribute, a slot, an image. -/
structure At where
  nm : ByteArray
  val : ByteArray
structure Sl where
  gen : Nat
  live : Bool
  kind : Int
  nm : ByteArray
  attrs : List At
  text : ByteArray
  parent : Nat
  kids : List Nat
structure Im where
  sl : List Sl
  roots : List Nat
/-- The handle of a generation and a number. -/
def hnd (g i : Nat) : Nat := g * 4294967296 + (i + 1)
theorem or_add {g i : Nat} (hi : i < 4294967296) : (g * 4294967296) ||| i = g * 4294967296 + i := by
  have := Nat.shiftLeft_add_eq_or_of_lt (b := i) (i := 32) hi g
  rw [Nat.shiftLeft_eq] at this
  exact this.symm
theorem bOr_hnd {g i : Nat} (hg : g < 4294967296) (hi : i < 4294967296) : bOr .u64 ((g * 4294967296 : Nat) : Int) (i : Nat) = ((g * 4294967296 + i : Nat) : Int) := by
  unfold bOr
  have e1 : IntKind.u64.bits = 64 := rfl
  rw [e1, BitVec.ofInt_natCast, BitVec.ofInt_natCast, BitVec.toNat_or, BitVec.toNat_ofNat, BitVec.toNat_ofNat, Nat.mod_eq_of_lt (by omega), Nat.mod_eq_of_lt (by omega), or_add hi]
  have : g * 4294967296 + i < 18446744073709551616 := by omega
  simp [IntKind.wrap, IntKind.signed, IntKind.bits]
  omega
theorem bAnd_low {h : Nat} (hh : h < 18446744073709551616) : bAnd .u64 (h : Nat) 4294967295 = ((h % 4294967296 : Nat) : Int) := by
  unfold bAnd
  have e1 : IntKind.u64.bits = 64 := rfl
  have e2 : (4294967295 : Int) = ((4294967295 : Nat) : Int) := rfl
  rw [e1, e2, BitVec.ofInt_natCast, BitVec.ofInt_natCast, BitVec.toNat_and, BitVec.toNat_ofNat, BitVec.toNat_ofNat, Nat.mod_eq_of_lt hh, Nat.mod_eq_of_lt (by decide)]
  have : h &&& 4294967295 = h % 4294967296 := Nat.and_two_pow_sub_one_eq_mod h 32
  rw [this]
  have : h % 4294967296 < 4294967296 := Nat.mod_lt _ (by decide)
  simp [IntKind.wrap, IntKind.signed, IntKind.bits]
  omega
/-- The number of a handle's slot. -/
def atF (sl : List Sl) (h : Nat) : Option Nat :=
  if h % 4294967296 = 0 then none else match sl[h % 4294967296 - 1]? with
  | some s => if s.live = true ∧ hnd s.gen (h % 4294967296 - 1) = h then some (h % 4294967296 - 1) else none
  | none => none
def liveN (sl : List Sl) : Nat := (sl.filter (·.live)).length
end Go.Proofs.YtfhkgnfphfmhiaaGreatDoor
/- Documents: images in memory. -/
namespace Go.Proofs.YtfhkgnfphfmhiaaGreatDoor
open Go.RowKit Go.Vc
set_option linter.unusedVariables false
set_option linter.unusedSimpArgs false
set_option maxRecDepth 100000
theorem inR_i64 {n : Int} (h1 : -9223372036854775808 ≤ n) (h2 : n ≤ 9223372036854775807) : InR .i64 n := ⟨by simpa [IntKind.min, IntKind.bits, IntKind.signed] using h1, by simpa [IntKind.max, IntKind.bits, IntKind.signed] using h2⟩
def LAt : Lay At := ⟨2, fun a => [.string a.nm, .string a.val], fun _ => rfl, fun _ => by simp [Value.oneCell'], by decide⟩
def LHn : Lay Nat := ⟨1, fun h => [.int .u64 (h : Nat)], fun _ => rfl, fun _ => by simp [Value.oneCell'], by decide⟩
/-- A slot's cells. -/
structure S8 where
  gen : Nat
  live : Bool
  kind : Int
  nm : ByteArray
  ats : Sv
  text : ByteArray
  parent : Nat
  kids : Sv
/-- A list of cells that all lie in a row. -/
def RR {α : Type} (L : Lay α) (w : World) (l : List α) (v : Sv) : Prop := l.length ≤ 1048576 ∧ v.2.1 = l.length ∧ Rd L w v.1 v.2.2 l
section
variable {w w1 : World}
theorem RR.sub {α : Type} {L : Lay α} {l : List α} {v : Sv} (hs : Sub w w1) (h : RR L w l v) : RR L w1 l v := ⟨h.1, h.2.1, hs.rd h.2.2⟩
theorem RR.keep {α : Type} {L : Lay α} {l : List α} {v : Sv} (h : RR L w l v) (hb : Below w.heap.size w w1) : RR L w1 l v := h.sub (sub_below hb)
end
section
variable {w : World} {A : Option Addr} {c : Nat}
theorem Rd.hn {xs : List Nat} (h : Rd LHn w A c xs) {n : Nat} (hn : n = xs.length) {i : Int} {k : Nat} (hi : i = k) (hk : k < xs.length) {K : Addr → Prop}
    (hK : ∀ b o, w.cell? ⟨b, o, none⟩ = some (.int .u64 (xs[k] : Nat)) → K ⟨b, o, none⟩) : IdxA A n i 1 K := by
  subst hi
  refine h.idx hn (by omega) (by omega) rfl fun b o hc => ?_
  simp only [Int.toNat_natCast] at hc
  exact hK b o (hc 0 _ rfl)
theorem Rd.at2 {xs : List At} (h : Rd LAt w A c xs) {n : Nat} (hn : n = xs.length) {i : Int} {k : Nat} (hi : i = k) (hk : k < xs.length) {K : Addr → Prop}
    (hK : ∀ b o, w.cell? ⟨b, o, none⟩ = some (.string xs[k].nm) → w.cell? ⟨b, o + 1, none⟩ = some (.string xs[k].val) → K ⟨b, o, none⟩) : IdxA A n i 2 K := by
  subst hi
  refine h.idx hn (by omega) (by omega) rfl fun b o hc => ?_
  simp only [Int.toNat_natCast] at hc
  exact hK b o (hc 0 _ rfl) (hc 1 _ rfl)
theorem Rd.at2H {xs : List At} {S : World → Prop} (h : Rd LAt w A c xs) (hS : ∀ w1, S w1 → Below w.heap.size w w1) {n : Nat} (hn : n = xs.length) {i : Int} {k : Nat} (hi : i = k) (hk : k < xs.length) {K : Addr → Prop}
    (hK : ∀ b o, Held S ⟨b, o, none⟩ (.string xs[k].nm) → Held S ⟨b, o + 1, none⟩ (.string xs[k].val) → K ⟨b, o, none⟩) : IdxA A n i 2 K := by
  subst hi
  refine h.held hS hn (by omega) (by omega) rfl fun b o hc => ?_
  simp only [Int.toNat_natCast] at hc
  exact hK b o (hc 0 _ rfl) (hc 1 _ rfl)
end
end Go.Proofs.YtfhkgnfphfmhiaaGreatDoor
/- Documents: words for copies and for worlds of which not all is seen. -/
namespace Go.Proofs.YtfhkgnfphfmhiaaGreatDoor
open Go.RowKit Go.Vc
set_option linter.unusedVariables false
set_option linter.unusedSimpArgs false
set_option maxRecDepth 100000
theorem nodup_sub {α : Type} [DecidableEq α] : ∀ {a b : List α}, a.Nodup → (∀ x ∈ a, x ∈ b) → a.length ≤ b.length
  | [], _, _, _ => by simp
  | x :: a, b, h, hs => by
    have h2 := List.nodup_cons.1 h
    have hx : x ∈ b := hs x (by simp)
    have ih := nodup_sub (b := b.erase x) h2.2 fun y hy => by
      have hne : y ≠ x := fun e => h2.1 (e ▸ hy)
      exact (List.mem_erase_of_ne hne).2 (hs y (by simp [hy]))
    rw [List.length_erase_of_mem hx] at ih
    have : 0 < b.length := List.length_pos_of_mem hx
    rw [List.length_cons]; omega
def noB : ByteArray := ⟨#[]⟩
theorem rr_nil {α : Type} {L : Lay α} {w : World} : RR L w [] (none, 0, 0) := ⟨by simp, rfl, ⟨by simp, by simp [maxLen], fun _ => rfl, fun h => by simp at h⟩⟩
theorem old_but {w w' : World} {g : Nat} (hb : Below w.heap.size w w') (hg : w.heap.size ≤ g) : Sub w (but g w') := fun b c t fr hc => by
  have hlt := (Array.getElem?_eq_some_iff.1 hc).1
  have hne : Nat.beq b g = false := by
    cases h : Nat.beq b g with
    | false => rfl
    | true => have := Nat.eq_of_beq_eq_true h; omega
  exact cells_only (by rw [hne]; rfl) (by rw [hb.block b hlt]; exact hc)
end Go.Proofs.YtfhkgnfphfmhiaaGreatDoor
