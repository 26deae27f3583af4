-- PRINTED BY print.sh 35421559b90ae4d0a3588c463048766b98c2df88dd9212a6774a882060cdf62d: not written by this session
import Derived.Test.YtaanlildniiijaaPLocksModesx0
import Derived.Test.YtaanlildniiijaaPLocksModesx1
namespace Go.Proofs.Ytaanlildniiijaa.PLocksModes
open Go.RowKit Go.Proofs.YtaanlildniiijaaW.PrintWords Go.Proofs.YtaanlildniiijaaW.PrintLast Go.Proofs.YtaanlildniiijaaW.PrintMore
attribute [local go_sem] max2_int min2_int max_two min_two max_three min_three max_four min_four   -- for this text's walks alone
set_option linter.unusedVariables false
set_option linter.unusedSimpArgs false

/-! ### espalierlaw28_LocksModes: function 4 -/
def espalierlaw28_LocksModes.f (k : Nat) (a0 : Int) (a1 : Int) : Option (Bool) := (locks_Fits.f k a0 a1).bind fun t111 => ((espalierref28_Fits.f k a0 a1).bind fun t112 => (if (t111 == t112) = true then ((locks_Both.f a0 a1).bind fun t113 => ((espalierref28_Both.f k a0 a1).bind fun t114 => (if t113 = t114 then ((locks_Fits.f k 1 2).bind fun t115 => (some t115)) else (some false)))) else (some false)))
theorem espalierlaw28_LocksModes.mono : ∀ a0 a1 k, LeO (espalierlaw28_LocksModes.f k a0 a1) (espalierlaw28_LocksModes.f (k + 1) a0 a1) := by
  intro a0 a1 k
  unfold espalierlaw28_LocksModes.f
  repeat' first
      | (with_reducible exact espalierref28_Both.mono _ _ _)
      | (with_reducible exact espalierref28_Fits.mono _ _ _)
      | (with_reducible exact locks_Fits.mono _ _ _)
      | (with_reducible exact LeO.refl _)
      | (with_reducible exact LeO.none _)
      | (with_reducible refine LeO.ite ?_ ?_)
      | (with_reducible refine LeO.bind ?_ (fun _ => ?_))
      | exact espalierref28_Both.mono _ _ _
      | exact espalierref28_Fits.mono _ _ _
      | exact locks_Fits.mono _ _ _
      | exact LeO.none _
      | refine LeO.ite ?_ ?_
      | refine LeO.bind ?_ (fun _ => ?_)
set_option maxHeartbeats 8000000 in
set_option maxRecDepth 100000 in
theorem espalierlaw28_LocksModes.calls (k : Nat) (a0 : Int) (a1 : Int) (r : Bool) (w : World) (h : espalierlaw28_LocksModes.f k a0 a1 = some r) :
    Calls Try.prog 4 #[.int .i64 a0, .int .i64 a1] w fun e w' => e = .returned (.bool r) ∧ Drawn0 w w' := by
  have H : ((locks_Fits.f k a0 a1).bind fun t111 => ((espalierref28_Fits.f k a0 a1).bind fun t112 => (if (t111 == t112) = true then ((locks_Both.f a0 a1).bind fun t113 => ((espalierref28_Both.f k a0 a1).bind fun t114 => (if t113 = t114 then ((locks_Fits.f k 1 2).bind fun t115 => (some t115)) else (some false)))) else (some false)))) = some r := h
  clear h
  replace H := Option.bind_eq_some_iff.mp H
  obtain ⟨t111, A30, H⟩ := H
  replace H : ((espalierref28_Fits.f k a0 a1).bind fun t112 => (if (t111 == t112) = true then ((locks_Both.f a0 a1).bind fun t113 => ((espalierref28_Both.f k a0 a1).bind fun t114 => (if t113 = t114 then ((locks_Fits.f k 1 2).bind fun t115 => (some t115)) else (some false)))) else (some false))) = some r := H
  have A3 := Aside0.mk A30
  clear A30
  replace H := Option.bind_eq_some_iff.mp H
  obtain ⟨t112, A40, H⟩ := H
  replace H : (if (t111 == t112) = true then ((locks_Both.f a0 a1).bind fun t113 => ((espalierref28_Both.f k a0 a1).bind fun t114 => (if t113 = t114 then ((locks_Fits.f k 1 2).bind fun t115 => (some t115)) else (some false)))) else (some false)) = some r := H
  have A4 := Aside0.mk A40
  clear A40
  by_cases c5 : (t111 == t112) = true
  · rw [if_pos c5] at H
    have c5b0 : (t111 == t112) = true := c5
    (try (have c5b1 : decide (t111 = t112) = true := by simpa using c5))
    (try (have c5b2 : (t111 == t112) = true := by simpa using c5))
    clear c5
    replace H := Option.bind_eq_some_iff.mp H
    obtain ⟨t113, A60, H⟩ := H
    replace H : ((espalierref28_Both.f k a0 a1).bind fun t114 => (if t113 = t114 then ((locks_Fits.f k 1 2).bind fun t115 => (some t115)) else (some false))) = some r := H
    have A6 := Aside0.mk A60
    clear A60
    replace H := Option.bind_eq_some_iff.mp H
    obtain ⟨t114, A70, H⟩ := H
    replace H : (if t113 = t114 then ((locks_Fits.f k 1 2).bind fun t115 => (some t115)) else (some false)) = some r := H
    have A7 := Aside0.mk A70
    clear A70
    by_cases c8 : t113 = t114
    · rw [if_pos c8] at H
      have c8b0 : (t113 == t114) = true := beq_iff_eq.mpr c8
      have c8b1 : (t113 != t114) = false := bne_eq_false_iff_eq.mpr c8
      clear c8
      replace H := Option.bind_eq_some_iff.mp H
      obtain ⟨t115, A90, H⟩ := H
      replace H : (some t115) = some r := H
      have A9 := Aside0.mk A90
      clear A90
      obtain rfl := Option.some.inj H
      go_enter Try.func4, Try.ntmps4
      go_wp2_with (first | ((with_reducible refine gate_callee (f := 16) rfl ?_); refine goesL_ (some 7) rfl rfl Try.func16 (by kernel_rfl) rfl #[.int .i64 a0, .int .i64 a1] rfl (by (try simp only [List.map_toArray, List.map_cons, List.map_nil]); first | done | rfl | (simp only [List.length_drop, List.length_take]; rfl)) ?_; (with_reducible refine (locks_Fits.calls k a0 a1 t111 _ A3.out).mono ?_); rintro e w' ⟨rfl, ⟨nd, rfl⟩⟩; refine ⟨_, rfl, ?_⟩) | ((with_reducible refine gate_callee (f := 17) rfl ?_); refine goesL_ (some 10) rfl rfl Try.func17 (by kernel_rfl) rfl #[.int .i64 a0, .int .i64 a1] rfl (by (try simp only [List.map_toArray, List.map_cons, List.map_nil]); first | done | rfl | (simp only [List.length_drop, List.length_take]; rfl)) ?_; (with_reducible refine (espalierref28_Fits.calls k a0 a1 t112 _ A4.out).mono ?_); rintro e w' ⟨rfl, ⟨nd, rfl⟩⟩; refine ⟨_, rfl, ?_⟩) | (go_at_call 18; (with_reducible refine (locks_Both.calls a0 a1 t113 _ A6.out).mono ?_); rintro e w' ⟨rfl, ⟨nd, rfl⟩⟩) | (go_at_call 19; (with_reducible refine (espalierref28_Both.calls k a0 a1 t114 _ A7.out).mono ?_); rintro e w' ⟨rfl, ⟨nd, rfl⟩⟩) | (go_at_call 16; (with_reducible refine (locks_Fits.calls k 1 2 t115 _ A9.out).mono ?_); rintro e w' ⟨rfl, ⟨nd, rfl⟩⟩))
      go_ret
      exact ⟨by first | rfl | (simp; done) | (simp [*]; done), by repeat (first | exact Drawn0.refl _ | apply Drawn0.step)⟩
    · rw [if_neg c8] at H
      have c8b0 : (t113 == t114) = false := beq_eq_false_iff_ne.mpr c8
      have c8b1 : (t113 != t114) = true := bne_iff_ne.mpr c8
      obtain rfl := Option.some.inj H
      go_enter Try.func4, Try.ntmps4
      go_wp2_with (first | ((with_reducible refine gate_callee (f := 16) rfl ?_); refine goesL_ (some 7) rfl rfl Try.func16 (by kernel_rfl) rfl #[.int .i64 a0, .int .i64 a1] rfl (by (try simp only [List.map_toArray, List.map_cons, List.map_nil]); first | done | rfl | (simp only [List.length_drop, List.length_take]; rfl)) ?_; (with_reducible refine (locks_Fits.calls k a0 a1 t111 _ A3.out).mono ?_); rintro e w' ⟨rfl, ⟨nd, rfl⟩⟩; refine ⟨_, rfl, ?_⟩) | ((with_reducible refine gate_callee (f := 17) rfl ?_); refine goesL_ (some 10) rfl rfl Try.func17 (by kernel_rfl) rfl #[.int .i64 a0, .int .i64 a1] rfl (by (try simp only [List.map_toArray, List.map_cons, List.map_nil]); first | done | rfl | (simp only [List.length_drop, List.length_take]; rfl)) ?_; (with_reducible refine (espalierref28_Fits.calls k a0 a1 t112 _ A4.out).mono ?_); rintro e w' ⟨rfl, ⟨nd, rfl⟩⟩; refine ⟨_, rfl, ?_⟩) | (go_at_call 18; (with_reducible refine (locks_Both.calls a0 a1 t113 _ A6.out).mono ?_); rintro e w' ⟨rfl, ⟨nd, rfl⟩⟩) | (go_at_call 19; (with_reducible refine (espalierref28_Both.calls k a0 a1 t114 _ A7.out).mono ?_); rintro e w' ⟨rfl, ⟨nd, rfl⟩⟩))
      go_ret
      exact ⟨by first | rfl | (simp; done) | (simp [*]; done), by repeat (first | exact Drawn0.refl _ | apply Drawn0.step)⟩
  · rw [if_neg c5] at H
    have c5b0 : (t111 == t112) = false := by simpa using c5
    (try (have c5b1 : decide (t111 = t112) = false := by simpa using c5))
    (try (have c5b2 : (t111 == t112) = false := by simpa using c5))
    (try (have c5b3 : ¬ (t111 = t112) := by simpa using c5))
    clear c5
    obtain rfl := Option.some.inj H
    go_enter Try.func4, Try.ntmps4
    go_wp2_with (first | ((with_reducible refine gate_callee (f := 16) rfl ?_); refine goesL_ (some 7) rfl rfl Try.func16 (by kernel_rfl) rfl #[.int .i64 a0, .int .i64 a1] rfl (by (try simp only [List.map_toArray, List.map_cons, List.map_nil]); first | done | rfl | (simp only [List.length_drop, List.length_take]; rfl)) ?_; (with_reducible refine (locks_Fits.calls k a0 a1 t111 _ A3.out).mono ?_); rintro e w' ⟨rfl, ⟨nd, rfl⟩⟩; refine ⟨_, rfl, ?_⟩) | ((with_reducible refine gate_callee (f := 17) rfl ?_); refine goesL_ (some 10) rfl rfl Try.func17 (by kernel_rfl) rfl #[.int .i64 a0, .int .i64 a1] rfl (by (try simp only [List.map_toArray, List.map_cons, List.map_nil]); first | done | rfl | (simp only [List.length_drop, List.length_take]; rfl)) ?_; (with_reducible refine (espalierref28_Fits.calls k a0 a1 t112 _ A4.out).mono ?_); rintro e w' ⟨rfl, ⟨nd, rfl⟩⟩; refine ⟨_, rfl, ?_⟩))
    go_ret
    exact ⟨by first | rfl | (simp; done) | (simp [*]; done), by repeat (first | exact Drawn0.refl _ | apply Drawn0.step)⟩

/-- THE ONE PURE STATEMENT of espalierlaw28_LocksModes: yours. -/
def espalierlaw28_LocksModes.Pure : Prop := ∀ (a0 : Int) (a1 : Int), (Lit.int .i64 a0).wf = true → (Lit.int .i64 a1).wf = true → ∃ k, espalierlaw28_LocksModes.f k a0 a1 = some true
theorem espalierlaw28_LocksModes.walk (P : espalierlaw28_LocksModes.Pure) (a0 : Int) (a1 : Int) (w : World) (w0 : (Lit.int .i64 a0).wf = true) (w1 : (Lit.int .i64 a1).wf = true) :
    Calls Try.prog 4 #[.int .i64 a0, .int .i64 a1] w fun e w' => e = .returned (.bool true) ∧ Below w.heap.size w w' := by
  obtain ⟨k, h⟩ := P a0 a1 w0 w1
  refine (espalierlaw28_LocksModes.calls k a0 a1 true w h).mono ?_
  rintro e w' ⟨rfl, hd⟩
  exact ⟨rfl, hd.below⟩

end Go.Proofs.Ytaanlildniiijaa.PLocksModes
