/- What each test of spans comes to, by the program and by the document: plain functions of six numbers. -/
import Derived.Test.YtaanlildniiijaaWords
namespace Go.Proofs.Ytaanlildniiijaa
open Go.RowKit
structure Sp where
  b : Int
  e : Int
  l : Int
abbrev spv (s : Sp) : Value := .agg #[.int .u64 s.b, .int .u64 s.e, .int .i64 s.l]
abbrev BoxAt (w : World) (g : Nat) (x : Sp) : Prop := w.cell? ⟨g, 0, none⟩ = some (.int .u64 x.b) ∧ w.cell? ⟨g, 1, none⟩ = some (.int .u64 x.e) ∧ w.cell? ⟨g, 2, none⟩ = some (.int .i64 x.l)
theorem BoxAt.keep {w w1 : World} {g : Nat} {x : Sp} (h : BoxAt w g x) (hb : Below w.heap.size w w1) : BoxAt w1 g x := ⟨kcell hb h.1, kcell hb h.2.1, kcell hb h.2.2⟩
theorem BoxAt.drew {w : World} {g : Nat} {x : Sp} (h : BoxAt w g x) : BoxAt w.drew g x := h
theorem BoxAt.alloc {w : World} {g : Nat} {x : Sp} (h : BoxAt w g x) (o : Obj) : BoxAt (w.alloc o) g x := h.keep (bl1 (Below.refl _ _) o)
theorem BoxAt.new (w : World) (x : Sp) (t : Nat) : BoxAt (w.alloc (.cells #[.int .u64 x.b, .int .u64 x.e, .int .i64 x.l] t)) w.heap.size x := ⟨by go_simp, by go_simp, by go_simp⟩
section
variable {P : Program} {ops : Array Oper} {rest : List Oper} {o : Oper} {a : Act} {Q : Exit → Act → World → Prop} {W : World}
/-- A span is laid into a variable of its own: the world and the block are letters from here on. -/
theorem box_sp (t : TypeId) (x : Operand) (hop : o.op = .box t x) (hgd : o.guard = none) (s : Sp) (hx : a.eval x = spv s)
    (hT : ∀ (s : Sp) (W : World), (Instr.box t (spv s)).run P W = .ok (.pointer (some ⟨W.heap.size, 0, none⟩)) (W.alloc (.cells #[.int .u64 s.b, .int .u64 s.e, .int .i64 s.l] t)))
    (h : ∀ g w1, BoxAt w1 g s → Below W.heap.size W w1 → wpList P ops Q rest (a.put o.dst (.pointer (some ⟨g, 0, none⟩))) w1) : wpList P ops Q (o :: rest) a W := by
  refine ev_run hgd (v := .pointer (some ⟨W.heap.size, 0, none⟩)) (w1 := W.alloc (.cells #[.int .u64 s.b, .int .u64 s.e, .int .i64 s.l] t)) ?_ (h _ _ (BoxAt.new W s t) (bl1 (Below.refl _ _) _))
  unfold execOp
  simp [hop, hx, hT]
end
theorem Try.box29 (s : Sp) (W : World) : (Instr.box 29 (spv s)).run Try.prog W = .ok (.pointer (some ⟨W.heap.size, 0, none⟩)) (W.alloc (.cells #[.int .u64 s.b, .int .u64 s.e, .int .i64 s.l] 29)) := by
  go_simp
def selfB (x y : Sp) : Bool := x.b == y.b && x.e == y.e
def ancB (x y : Sp) : Bool := decide (x.b < y.b) && decide (y.e < x.e)
def behB (x y : Sp) : Bool := decide (y.e < x.b)
def canB (x : Sp) : Bool := decide (1 ≤ x.b) && decide (x.b < x.e) && decide (x.e < 4611686018427387904) && decide (0 ≤ x.l) && decide (x.l < 64)
def parB (x y : Sp) : Bool := ancB x y && decide (x.l < y.l) && (wrap64 (x.l + 1) == y.l)
def sibB (x y p : Sp) (r : Bool) : Bool := if r then x.l == 0 && y.l == 0 else parB p y && parB p x
abbrev C1 (f : Nat) (x : Sp) (b : Bool) : Prop := ∀ w : World, Calls Try.prog f #[spv x] w fun e w' => e = .returned (.bool b) ∧ Below w.heap.size w w'
abbrev C2 (f : Nat) (x y : Sp) (b : Bool) : Prop := ∀ w : World, Calls Try.prog f #[spv x, spv y] w fun e w' => e = .returned (.bool b) ∧ Below w.heap.size w w'
abbrev C3 (f : Nat) (x y p : Sp) (r : Bool) (b : Bool) : Prop := ∀ w : World, Calls Try.prog f #[spv x, spv y, spv p, .bool r] w fun e w' => e = .returned (.bool b) ∧ Below w.heap.size w w'
section
set_option maxHeartbeats 400000
theorem selfA (x y : Sp) : C2 11 x y (selfB x y) := by
  intro w
  go_enter Try.func11, Try.ntmps11
  go_wp2
  all_goals (go_ret; exact ⟨by congr 2; simp only [selfB]; simp_all, (by repeat (first | exact Below.refl _ _ | assumption | refine bl1 ?_ _ | refine bdr ?_ | refine bt1 ?_ (by assumption)))⟩)
theorem ancA (x y : Sp) : C2 12 x y (ancB x y) := by
  intro w
  go_enter Try.func12, Try.ntmps12
  go_wp2
  all_goals (go_ret; exact ⟨by congr 2; simp [ancB]; omega, (by repeat (first | exact Below.refl _ _ | assumption | refine bl1 ?_ _ | refine bdr ?_ | refine bt1 ?_ (by assumption)))⟩)
theorem desA (x y : Sp) : C2 13 x y (ancB y x) := by
  intro w
  go_enter Try.func13, Try.ntmps13
  go_wp2_with (go_at_call 12; (with_reducible refine (ancA y x _).mono ?_); rintro e w1 ⟨rfl, hb⟩)
  go_ret; exact ⟨rfl, (by repeat (first | exact Below.refl _ _ | assumption | refine bl1 ?_ _ | refine bdr ?_ | refine bt1 ?_ (by assumption)))⟩
theorem folA (x y : Sp) : C2 14 x y (behB x y) := by
  intro w
  go_enter Try.func14, Try.ntmps14
  go_wp2
  go_ret; exact ⟨rfl, (by repeat (first | exact Below.refl _ _ | assumption | refine bl1 ?_ _ | refine bdr ?_ | refine bt1 ?_ (by assumption)))⟩
theorem preA (x y : Sp) : C2 15 x y (behB y x) := by
  intro w
  go_enter Try.func15, Try.ntmps15
  go_wp2
  go_ret; exact ⟨rfl, (by repeat (first | exact Below.refl _ _ | assumption | refine bl1 ?_ _ | refine bdr ?_ | refine bt1 ?_ (by assumption)))⟩
theorem canA (x : Sp) : C1 52 x (canB x) := by
  intro w
  go_enter Try.func52, Try.ntmps52
  go_wp2
  all_goals (go_ret; exact ⟨by congr 2; simp [canB]; omega, (by repeat (first | exact Below.refl _ _ | assumption | refine bl1 ?_ _ | refine bdr ?_ | refine bt1 ?_ (by assumption)))⟩)
theorem parA (x y : Sp) : C2 22 x y (parB x y) := by
  intro w
  go_enter Try.func22, Try.ntmps22
  go_wp2_with (go_at_call 12; (with_reducible refine (ancA x y _).mono ?_); rintro e w1 ⟨rfl, hb⟩; obtain ⟨hc, hf⟩ := bcell hb)
  all_goals (go_ret; refine ⟨?_, (by repeat (first | exact Below.refl _ _ | assumption | refine bl1 ?_ _ | refine bdr ?_ | refine bt1 ?_ (by assumption)))⟩)
  all_goals (congr 2; simp [parB, *]; try omega)
theorem chiA (x y : Sp) : C2 24 x y (parB y x) := by
  intro w
  go_enter Try.func24, Try.ntmps24
  go_wp2_with (go_at_call 22; (with_reducible refine (parA y x _).mono ?_); rintro e w1 ⟨rfl, hb⟩)
  go_ret; exact ⟨rfl, (by repeat (first | exact Below.refl _ _ | assumption | refine bl1 ?_ _ | refine bdr ?_ | refine bt1 ?_ (by assumption)))⟩
theorem selfR (x y : Sp) : C2 20 x y (selfB x y) := by
  intro w
  go_enter Try.func20, Try.ntmps20
  go_wp2
  all_goals (go_ret; exact ⟨by congr 2; simp only [selfB]; simp_all, (by repeat (first | exact Below.refl _ _ | assumption | refine bl1 ?_ _ | refine bdr ?_ | refine bt1 ?_ (by assumption)))⟩)
theorem ancR (x y : Sp) : C2 21 x y (ancB x y) := by
  intro w
  go_enter Try.func21, Try.ntmps21
  go_wp2
  all_goals (go_ret; exact ⟨by congr 2; simp [ancB]; omega, (by repeat (first | exact Below.refl _ _ | assumption | refine bl1 ?_ _ | refine bdr ?_ | refine bt1 ?_ (by assumption)))⟩)
theorem behR (x y : Sp) : C2 25 x y (behB x y) := by
  intro w
  go_enter Try.func25, Try.ntmps25
  go_wp2
  go_ret; exact ⟨rfl, (by repeat (first | exact Below.refl _ _ | assumption | refine bl1 ?_ _ | refine bdr ?_ | refine bt1 ?_ (by assumption)))⟩
theorem canR (x : Sp) : C1 53 x (canB x) := by
  intro w
  go_enter Try.func53, Try.ntmps53
  go_wp2
  all_goals (go_ret; exact ⟨by congr 2; simp [canB]; omega, (by repeat (first | exact Below.refl _ _ | assumption | refine bl1 ?_ _ | refine bdr ?_ | refine bt1 ?_ (by assumption)))⟩)
theorem parR (x y : Sp) : C2 23 x y (parB x y) := by
  intro w
  go_enter Try.func23, Try.ntmps23
  go_wp2_with (go_at_call 21; (with_reducible refine (ancR x y _).mono ?_); rintro e w1 ⟨rfl, hb⟩; obtain ⟨hc, hf⟩ := bcell hb)
  all_goals (go_ret; refine ⟨?_, (by repeat (first | exact Below.refl _ _ | assumption | refine bl1 ?_ _ | refine bdr ?_ | refine bt1 ?_ (by assumption)))⟩)
  all_goals (congr 2; simp [parB, *]; try omega)
theorem sibA (x y p : Sp) (r : Bool) : C3 58 x y p r (sibB x y p r) := by
  intro w
  go_enter Try.func58, Try.ntmps58
  go_wp2_with (first | (go_at_call 22; (with_reducible refine (parA p y _).mono ?_); rintro e w1 ⟨rfl, hb⟩; obtain ⟨hc, hf⟩ := bcell hb) | (go_at_call 22; (with_reducible refine (parA p x _).mono ?_); rintro e w1 ⟨rfl, hb⟩))
  all_goals (go_ret; refine ⟨?_, (by repeat (first | exact Below.refl _ _ | assumption | refine bl1 ?_ _ | refine bdr ?_ | refine bt1 ?_ (by assumption)))⟩)
  all_goals (congr 2; simp [sibB, *])
theorem sibR (x y p : Sp) (r : Bool) : C3 26 x y p r (sibB x y p r) := by
  intro w
  go_enter Try.func26, Try.ntmps26
  go_wp2_with (first | (go_at_call 23; (with_reducible refine (parR p y _).mono ?_); rintro e w1 ⟨rfl, hb⟩; obtain ⟨hc, hf⟩ := bcell hb) | (go_at_call 23; (with_reducible refine (parR p x _).mono ?_); rintro e w1 ⟨rfl, hb⟩))
  all_goals (go_ret; refine ⟨?_, (by repeat (first | exact Below.refl _ _ | assumption | refine bl1 ?_ _ | refine bdr ?_ | refine bt1 ?_ (by assumption)))⟩)
  all_goals (congr 2; simp [sibB, *])
theorem fsibA (x y p : Sp) (r : Bool) : C3 27 x y p r (behB x y && sibB x y p r) := by
  intro w
  go_enter Try.func27, Try.ntmps27
  go_wp2_with (first | (go_at_call 14; (with_reducible refine (folA x y _).mono ?_); rintro e w1 ⟨rfl, hb⟩; obtain ⟨hc, hf⟩ := bcell hb) | (go_at_call 58; (with_reducible refine (sibA x y p r _).mono ?_); rintro e w1 ⟨rfl, hb⟩))
  all_goals (go_ret; refine ⟨?_, (by repeat (first | exact Below.refl _ _ | assumption | refine bl1 ?_ _ | refine bdr ?_ | refine bt1 ?_ (by assumption)))⟩)
  all_goals (congr 2; simp [*])
theorem psibA (x y p : Sp) (r : Bool) : C3 28 x y p r (behB y x && sibB x y p r) := by
  intro w
  go_enter Try.func28, Try.ntmps28
  go_wp2_with (first | (go_at_call 15; (with_reducible refine (preA x y _).mono ?_); rintro e w1 ⟨rfl, hb⟩; obtain ⟨hc, hf⟩ := bcell hb) | (go_at_call 58; (with_reducible refine (sibA x y p r _).mono ?_); rintro e w1 ⟨rfl, hb⟩))
  all_goals (go_ret; refine ⟨?_, (by repeat (first | exact Below.refl _ _ | assumption | refine bl1 ?_ _ | refine bdr ?_ | refine bt1 ?_ (by assumption)))⟩)
  all_goals (congr 2; simp [*])
end
end Go.Proofs.Ytaanlildniiijaa
