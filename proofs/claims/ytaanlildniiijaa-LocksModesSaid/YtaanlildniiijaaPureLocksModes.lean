/- For any two whole numbers the program's Fits and Both are the document's; no condition. -/
import Derived.Test.YtaanlildniiijaaPLocksModesx2
namespace Go.Proofs.Ytaanlildniiijaa.Pure
open Go.RowKit Go.Proofs.Ytaanlildniiijaa.PLocksModes Go.Proofs.YtaanlildniiijaaW.PrintWords Go.Proofs.YtaanlildniiijaaW.PrintLast

theorem range_or (a : Int) : (¬ (1 ≤ a ∧ a ≤ 5)) ∨ a = 1 ∨ a = 2 ∨ a = 3 ∨ a = 4 ∨ a = 5 := by omega
theorem known_out {a : Int} (h : ¬ (1 ≤ a ∧ a ≤ 5)) : locks_known.f a = some false := by
  unfold locks_known.f
  split
  · simp; omega
  · rfl
theorem mode_out {a : Int} (h : ¬ (1 ≤ a ∧ a ≤ 5)) : espalierref28_mode.f a = some false := by
  unfold espalierref28_mode.f
  split
  · simp; omega
  · rfl
theorem known_in {a : Int} (h : 1 ≤ a ∧ a ≤ 5) : locks_known.f a = some true := by
  unfold locks_known.f
  rw [if_pos h.1]; simp; omega
theorem mode_in {a : Int} (h : 1 ≤ a ∧ a ≤ 5) : espalierref28_mode.f a = some true := by
  unfold espalierref28_mode.f
  rw [if_pos h.1]; simp; omega

theorem LocksModes : espalierlaw28_LocksModes.Pure := by
  intro a b _ _
  refine ⟨3, ?_⟩
  have hl : locks_Fits.f 3 1 2 = some true := by decide
  unfold espalierlaw28_LocksModes.f
  rw [hl]
  by_cases ha : 1 ≤ a ∧ a ≤ 5
  · by_cases hb : 1 ≤ b ∧ b ≤ 5
    · have h1 := (range_or a).resolve_left (fun h => h ha)
      have h2 := (range_or b).resolve_left (fun h => h hb)
      clear ha hb
      rcases h1 with rfl | rfl | rfl | rfl | rfl <;> rcases h2 with rfl | rfl | rfl | rfl | rfl <;> decide
    · simp [locks_Fits.f, locks_Both.f, espalierref28_Fits.f, espalierref28_Both.f, known_in ha, mode_in ha, known_out hb, mode_out hb, espalierref28_Fits.j0, espalierref28_Both.j0]
  · simp [locks_Fits.f, locks_Both.f, espalierref28_Fits.f, espalierref28_Both.f, known_out ha, mode_out ha, espalierref28_Fits.j0, espalierref28_Both.j0]
end Go.Proofs.Ytaanlildniiijaa.Pure
