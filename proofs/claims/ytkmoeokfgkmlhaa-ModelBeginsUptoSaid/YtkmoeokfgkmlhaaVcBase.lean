/- The rules of a walk through a function's code, by what is still to do. -/
import Derived.BigQuiet
import Derived.OrdersHeld
import Derived.KernelRfl
namespace Go.Vc
open Go

/-- The frame of function f, from which a walk takes no more than the function's number. -/
def fr0 (f : FuncId) : Frame := { (default : Frame) with fn := f, kind := .normal }

/-- From here on, with this still to do, the function comes to an end as R says. -/
def Wk (P : Program) (f : FuncId) (k : List Item) (a : Act) (w : World) (R : Ending → World → Prop) : Prop :=
  ∀ cs : List Frame, ∃ e w' fr, R e w' ∧ Comes P (lone ((fr0 f).at a k) cs w) (lone fr cs w') e ∧ fr.fn = f ∧ fr.leaving P w' e

section
variable {P : Program} {f : FuncId} {k k' : List Item} {a a' : Act} {w w' : World} {R : Ending → World → Prop}

theorem Wk.steps (hs : ∀ cs, Steps P (lone ((fr0 f).at a k) cs w) (lone ((fr0 f).at a' k') cs w')) (h : Wk P f k' a' w' R) : Wk P f k a w R := by
  intro cs
  obtain ⟨e, w1, fr, h1, h2, h3, h4⟩ := h cs
  exact ⟨e, w1, fr, h1, Comes.of_steps (hs cs) h2, h3, h4⟩

theorem Wk.step (hs : ∀ cs, Go.step P (lone ((fr0 f).at a k) cs w) = .next (lone ((fr0 f).at a' k') cs w')) (h : Wk P f k' a' w' R) : Wk P f k a w R :=
  Wk.steps (fun cs => .one (hs cs)) h

theorem wk_skip (h : Wk P f k a w R) : Wk P f (.code .skip :: k) a w R := Wk.step (fun _ => step_skip) h
theorem wk_label {l : Nat} (h : Wk P f k a w R) : Wk P f (.code (.label l) :: k) a w R := Wk.step (fun _ => step_label) h
theorem wk_inBlock {i : Nat} (h : Wk P f k a w R) : Wk P f (.inBlock i :: k) a w R := Wk.step (fun _ => step_inBlock) h
theorem wk_seq {x y : Code} (h : Wk P f (.code x :: .code y :: k) a w R) : Wk P f (.code (.seq x y) :: k) a w R := Wk.step (fun _ => step_seq) h
theorem wk_cond {c : Operand} {x y : Code} {t : Bool} (hc : a.eval c = .bool t) (h : Wk P f (.code (if t then x else y) :: k) a w R) : Wk P f (.code (.cond c x y) :: k) a w R :=
  Wk.step (fun _ => step_cond hc) h
theorem wk_block {i : Nat} {c : Code} (h : Wk P f (.code c :: .inBlock i :: k) a w R) : Wk P f (.code (.block i c) :: k) a w R := Wk.step (fun _ => step_block) h
theorem wk_loop {c : Code} (h : Wk P f (.code c :: .inLoop c :: k) a w R) : Wk P f (.code (.loop c) :: k) a w R := Wk.step (fun _ => step_loop) h
theorem wk_inLoop {c : Code} (h : Wk P f (.code c :: .inLoop c :: k) a w R) : Wk P f (.inLoop c :: k) a w R := Wk.step (fun _ => step_inLoop) h
theorem wk_exit {i : Nat} (hk : exitTo i k = some k') (h : Wk P f k' a w R) : Wk P f (.code (.exit i) :: k) a w R := Wk.step (fun _ => step_exit hk) h

theorem wk_ret {fn : Func} {v : Value} (hf : P.funcs[f]? = some fn) (hd : a.defers = []) (hr : (results fn a.tmps).run P w = .ok v w) (h : R (.returned v) w) :
    Wk P f (.code .ret :: k) a w R := fun _ =>
  ⟨.returned v, w, _, h, Steps.one step_ret, rfl, rfl, hd, rfl, fn, hf, hr⟩

theorem wk_end {fn : Func} {v : Value} (hf : P.funcs[f]? = some fn) (hd : a.defers = []) (hr : (results fn a.tmps).run P w = .ok v w) (h : R (.returned v) w) :
    Wk P f [] a w R := fun _ =>
  ⟨.returned v, w, _, h, Steps.one step_end, rfl, rfl, hd, rfl, fn, hf, hr⟩

/-- What is asked behind a region. -/
def behind (P : Program) (f : FuncId) (k : List Item) (R : Ending → World → Prop) : Exit → Act → World → Prop
  | .normal, a, w => Wk P f k a w R
  | .panic ch, a, w => a.defers = [] ∧ R (.panicked ch) w
  | .outgrown, _, w => R .outgrown w
  | _, _, _ => False

theorem wk_of_wp {fn : Func} {c : Code} (hf : P.funcs[f]? = some fn) (h : c.wp P (behind P f k R) a w) : Wk P f (.code c :: k) a w R := by
  intro cs
  obtain ⟨e, a', w', hq, harr⟩ := h (fr0 f) k cs
  cases e with
  | normal =>
    obtain ⟨e, w1, fr, h1, h2, h3, h4⟩ := hq cs
    exact ⟨e, w1, fr, h1, Comes.of_steps harr h2, h3, h4⟩
  | ret => exact hq.elim
  | panic ch =>
    obtain ⟨hd, hR⟩ := hq
    obtain ⟨todo, hs⟩ := harr
    exact ⟨.panicked ch, w', _, hR, hs, rfl, rfl, hd, fn, hf⟩
  | exit i => exact hq.elim
  | goto l => exact hq.elim
  | outgrown => exact ⟨.outgrown, w', fr0 f, hq, harr.resolve_left (by simp [fr0]), rfl, trivial⟩

theorem calls_of_wk {fn : Func} {c : Code} {args : Array Value} (hf : P.funcs[f]? = some fn) (hb : fn.body = some c)
    (h : Wk P f [.code c] { tmps := args ++ Array.replicate (fn.ntmps - args.size) undef, defers := [] } w R) : Calls P f args w R := by
  intro cs
  have henter : Frame.enter P f args .normal =
      (fr0 f).at { tmps := args ++ Array.replicate (fn.ntmps - args.size) undef, defers := [] } [.code c] := by
    simp [Frame.enter, Frame.at, hf, hb, fr0]
  rw [henter]
  exact h cs
end
end Go.Vc
