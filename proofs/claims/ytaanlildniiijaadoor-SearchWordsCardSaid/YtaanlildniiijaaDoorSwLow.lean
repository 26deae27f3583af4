/- The small functions on bytes and characters, of the program and of the reference. -/
import Derived.Test.YtaanlildniiijaaDoorWords
import Derived.Test.YtaanlildniiijaaDoorSwDec
namespace Go.Proofs.YtaanlildniiijaaDoor
open Go.RowKit
def canR (r : Nat) : Bool := decide (r = 9 ∨ r = 10 ∨ r = 13 ∨ (32 ≤ r ∧ r ≤ 55295) ∨ (57344 ≤ r ∧ r ≤ 65533) ∨ (65536 ≤ r ∧ r ≤ 1114111))
def inW (c : Nat) : Bool := decide ((97 ≤ c ∧ c ≤ 122) ∨ (65 ≤ c ∧ c ≤ 90) ∨ (48 ≤ c ∧ c ≤ 57) ∨ 128 ≤ c)
def lowW (c : Nat) : Nat := if 65 ≤ c ∧ c ≤ 90 then c + 32 else c
def sizeR (c : Nat) : Nat × Nat := if c < 128 then (1, c) else if 192 ≤ c ∧ c < 224 then (2, c - 192) else if 224 ≤ c ∧ c < 240 then (3, c - 224) else if 240 ≤ c ∧ c < 248 then (4, c - 240) else (0, 0)
theorem retB {x : Value} {b c : Bool} (h : b = c) (hx : x = .bool b) : Ending.returned x = Ending.returned (.bool c) := by rw [hx, h]
theorem retI {x : Value} {k : IntKind} {a b : Int} (h : a = b) (hx : x = .int k a) : Ending.returned x = Ending.returned (.int k b) := by rw [hx, h]
theorem retII {x y : Value} {k l : IntKind} {a b c d : Int} (h : a = b) (h2 : c = d) (hx : x = .int k a) (hy : y = .int l c) : Ending.returned (.tuple #[x, y]) = Ending.returned (.tuple #[.int k b, .int l d]) := by rw [hx, hy, h, h2]
set_option maxHeartbeats 4000000
set_option maxRecDepth 100000
theorem inW_calls (c : Nat) (w : World) : Calls Tryd.prog 14 #[.int .u8 c] w fun e w' => e = .returned (.bool (inW c)) ∧ w' = w := by
  go_enter Tryd.func14, Tryd.ntmps14
  go_wp2
  all_goals (go_ret; refine ⟨retB (?_ : _ = inW c) rfl, rfl⟩; rw [Bool.eq_iff_iff]; simp [inW]; omega)
theorem part_calls (c : Nat) (w : World) : Calls Tryd.prog 11 #[.int .u8 c] w fun e w' => e = .returned (.bool (inW c)) ∧ w' = w := by
  go_enter Tryd.func11, Tryd.ntmps11
  go_wp2
  all_goals (go_ret; refine ⟨retB (?_ : _ = inW c) rfl, rfl⟩; rw [Bool.eq_iff_iff]; simp [inW]; omega)
theorem can_calls (c : Nat) (w : World) : Calls Tryd.prog 19 #[.int .i64 c] w fun e w' => e = .returned (.bool (canR c)) ∧ w' = w := by
  go_enter Tryd.func19, Tryd.ntmps19
  go_wp2
  all_goals go_ret
  all_goals refine ⟨retB (?_ : _ = canR c) rfl, rfl⟩
  all_goals rw [Bool.eq_iff_iff]
  all_goals simp [canR]
  all_goals (first | omega | (simp only [beq_iff_eq, beq_eq_false_iff_ne, ne_eq] at *; omega))
theorem char_calls (c : Nat) (w : World) : Calls Tryd.prog 21 #[.int .i64 c] w fun e w' => e = .returned (.bool (canR c)) ∧ w' = w := by
  go_enter Tryd.func21, Tryd.ntmps21
  go_wp2
  all_goals (go_ret; refine ⟨retB (?_ : _ = canR c) rfl, rfl⟩; rw [Bool.eq_iff_iff]; simp [canR]; omega)
theorem low_calls (c : Nat) (hc : c < 256) (w : World) : Calls Tryd.prog 15 #[.int .u8 c] w fun e w' => e = .returned (.int .u8 (lowW c)) ∧ w' = w := by
  go_enter Tryd.func15, Tryd.ntmps15
  go_wp2
  all_goals go_ret
  all_goals refine ⟨retI (?_ : _ = ((lowW c : Nat) : Int)) rfl, rfl⟩
  all_goals unfold lowW
  all_goals split
  all_goals (first | omega | (exfalso; omega))
theorem size_calls (c : Nat) (hc : c < 256) (w : World) : Calls Tryd.prog 20 #[.int .u8 c] w fun e w' => e = .returned (.tuple #[.int .i64 (sizeR c).1, .int .i64 (sizeR c).2]) ∧ w' = w := by
  go_enter Tryd.func20, Tryd.ntmps20
  go_wp2
  all_goals go_ret2
  all_goals refine ⟨retII (?_ : _ = (((sizeR c).1 : Nat) : Int)) (?_ : _ = (((sizeR c).2 : Nat) : Int)) rfl rfl, rfl⟩
  all_goals unfold sizeR
  all_goals repeat' split
  all_goals (first | omega | (exfalso; omega))
end Go.Proofs.YtaanlildniiijaaDoor
