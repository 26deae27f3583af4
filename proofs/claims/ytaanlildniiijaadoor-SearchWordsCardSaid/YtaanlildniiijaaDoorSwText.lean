/- A text: the program's text and the reference's Text. -/
import Derived.Test.YtaanlildniiijaaDoorSwDecEq
namespace Go.Proofs.YtaanlildniiijaaDoor
open Go.RowKit
/-- The first place at which no character begins. -/
def badF (s : ByteArray) : Nat → Nat → Nat × Nat
  | 0, _ => (0, 0)
  | f + 1, i => if s.size ≤ i then (0, 0) else if (atR s i).2 = 0 then (i, 7) else badF s f (i + (atR s i).2)
def textS (s : ByteArray) : Nat × Nat := if 16384 < s.size then (0, 2) else badF s (s.size + 1) 0
theorem atR_le (s : ByteArray) (i : Nat) : (atR s i).2 ≤ 4 := by
  have := (sizeR_lt (s.get! i).toNat).1
  unfold atR
  repeat' split
  all_goals simp only
  all_goals omega
theorem ret2k {a b : Int} {x : Nat × Nat} {k : IntKind} (h : a = x.1) (h2 : b = x.2) : Ending.returned (.tuple #[.int .i64 a, .int k b]) = Ending.returned (.tuple #[.int .i64 (x.1 : Int), .int k (x.2 : Int)]) := by rw [h, h2]
set_option maxHeartbeats 4000000
set_option maxRecDepth 100000
theorem bad_calls (s : ByteArray) (hs : s.size ≤ 16384) (w : World) : Calls Tryd.prog 13 #[.string s] w fun e w' => e = .returned (.tuple #[.int .i64 (badF s (s.size + 1) 0).1, .int .i64 (badF s (s.size + 1) 0).2]) ∧ Below w.heap.size w w' := by
  go_enter Tryd.func13, Tryd.ntmps13
  go_wp2
  go_loopw [4] (fun v wr => ∃ (i f : Nat), s.size < i + f ∧ v = .int .i64 i ∧ i ≤ s.size + 4 ∧ Below w.heap.size w wr ∧ Hid (badF s (s.size + 1) 0 = badF s f i)) (fun v wr => s.size - (intOf v).toNat)
  case atStart => exact ⟨0, s.size + 1, by omega, rfl, by omega, Below.refl _ _, Lib.hid rfl⟩
  case round =>
    obtain ⟨i, f, hf, rfl, hi4, HB, HF⟩ := hrel
    by_cases hi : i < s.size
    · have hi0 : (i : Int) < s.size := by omega
      obtain ⟨f, rfl⟩ : ∃ g, f = g + 1 := ⟨f - 1, by omega⟩
      obtain ⟨n, hn⟩ : ∃ n, (atR s i).2 = n := ⟨_, rfl⟩
      obtain ⟨r, hr⟩ : ∃ r, (atR s i).1 = r := ⟨_, rfl⟩
      have hn4 := atR_le s i
      rw [hn] at hn4
      have hF : badF s (s.size + 1) 0 = if n = 0 then (i, 7) else badF s f (i + n) := by rw [HF.out, badF, if_neg (by omega), hn]
      have HF := Lib.hid hF
      have cA := at_calls s i hi (by omega)
      simp only [hn, hr] at cA
      have HI := Lib.hid (And.intro hf (And.intro hi4 (And.intro hi hn4)))
      clear hF hn hr hf hi4 hi hn4
      obtain ⟨wo, rfl⟩ : ∃ wo : World, wo = wr := ⟨_, rfl⟩
      by_cases hn0 : n = 0
      · subst hn0
        go_wp2_with (go_at_call 17; (with_reducible refine (cA _).mono ?_); rintro e w1 ⟨rfl, hb⟩; replace HB := bt1 HB hb; clear hb)
        go_ret2
        have hF0 : badF s (s.size + 1) 0 = (i, 7) := by rw [HF.out]; simp
        exact ⟨by rw [hF0]; rfl, HB⟩
      · have hn1 : ¬ (n : Int) = 0 := by omega
        have hn2 : ((n : Int) == 0) = false := by simpa using hn1
        go_wp2_with (go_at_call 17; (with_reducible refine (cA _).mono ?_); rintro e w1 ⟨rfl, hb⟩; replace HB := bt1 HB hb; clear hb)
        obtain ⟨hf, hi4, hi, hn4⟩ := HI.out
        refine ⟨⟨i + n, f, by omega, ?_, by omega, HB, Lib.hid (by rw [HF.out, if_neg hn0])⟩, ?_⟩
        · rw [IntWalk.wrap64_in _ (by omega)]; congr 1
        · rw [IntWalk.wrap64_in _ (by omega)]; simp only [intOf]; omega
    · have hi0 : ¬ (i : Int) < s.size := by omega
      have hF : badF s (s.size + 1) 0 = (0, 0) := by
        rw [HF.out]; cases f with
        | zero => rfl
        | succ f => rw [badF, if_pos (by omega)]
      clear HF
      go_wp2
      go_ret2
      exact ⟨rfl, HB⟩
theorem textR_calls (s : ByteArray) (w : World) : Calls Tryd.prog 8 #[.string s] w fun e w' => e = .returned (.tuple #[.int .i64 (textS s).1, .int .i64 (textS s).2]) ∧ Below w.heap.size w w' := by
  go_enter Tryd.func8, Tryd.ntmps8
  by_cases h : 16384 < s.size
  · have h0 : (16384 : Int) < s.size := by omega
    have hT : textS s = (0, 2) := by unfold textS; rw [if_pos h]
    go_wp2_with (go_at_call 13; fail)
    go_ret2
    exact ⟨by first | rfl | (rw [hT]; rfl), Below.refl _ _⟩
  · have h0 : ¬ (16384 : Int) < s.size := by omega
    have hT : textS s = badF s (s.size + 1) 0 := by unfold textS; rw [if_neg h]
    go_wp2_with (go_at_call 13; (with_reducible refine (bad_calls s (by omega) _).mono ?_); rintro e w1 ⟨rfl, hb⟩)
    go_ret2
    exact ⟨by first | rfl | (rw [hT]; rfl), hb⟩
/-- The program's first character of what lies behind a place. -/
theorem ret3 {x y z : Value} {a b c : Int} {k : IntKind} (hx : x = .int .i64 a) (hy : y = .int .i64 b) (hz : z = .int k c) : Ending.returned (.tuple #[x, y, z]) = Ending.returned (.tuple #[.int .i64 a, .int .i64 b, .int k c]) := by rw [hx, hy, hz]
theorem first_calls (s : ByteArray) (hs : 0 < s.size) (w : World) (hT : Tabs w) : Calls Tryd.prog 16 #[.string s] w fun e w' => e = .returned (.tuple #[.int .i64 (atR s 0).1, .int .i64 (atR s 0).2, .int .i64 (if (atR s 0).2 = 0 then 7 else 0)]) ∧ Below w.heap.size w w' := by
  have cD := decode_calls s w hT
  have hA := dec_at s 0 hs
  have hd : Lib.decodeGo s = Utf8.decode s 0 := by unfold Lib.decodeGo; rw [if_neg (by omega)]
  obtain ⟨r, hr⟩ : ∃ r, (Utf8.decode s 0).1 = r := ⟨_, rfl⟩
  obtain ⟨n, hn⟩ : ∃ n, (Utf8.decode s 0).2 = n := ⟨_, rfl⟩
  rw [hd, hr, hn] at cD
  have hrn : Utf8.decode s 0 = (r, n) := by rw [← hr, ← hn]
  rw [hrn] at hA
  have hn1 : 1 ≤ n ∧ r < 2147483648 := by
    rw [← hr, ← hn, Lib.decode_at]
    unfold Lib.decodeN
    repeat' split
    all_goals simp only
    all_goals omega
  have hn0 : ((n : Int) == 0) = false := by simp; omega
  have hr32 : IntKind.i64.wrap (r : Int) = r := IntWalk.i64_in _ (by omega)
  obtain ⟨hn1, hr1⟩ := hn1
  have hn2 : ¬ (n : Int) = 0 := by omega
  clear hd hr hn hrn
  by_cases hb : (r = 65533 ∧ n = 1)
  · obtain ⟨rfl, rfl⟩ := hb
    have h2 : atR s 0 = (0, 0) := by rw [← hA]; unfold firstR; rw [if_pos (Or.inl ⟨rfl, rfl⟩)]
    rw [h2]
    clear hA h2
    go_enter Tryd.func16, Tryd.ntmps16
    go_wp2_with (first
      | (go_at_call 18; (with_reducible refine (cD).mono ?_); rintro e w1 ⟨rfl, hb⟩)
      | (go_at_call 19; (with_reducible refine (can_calls 65533 _).mono ?_); rintro e w2 ⟨rfl, rfl⟩))
    all_goals go_ret3
    all_goals exact ⟨rfl, hb⟩
  · by_cases hc : canR r = true
    · have h2 : atR s 0 = (r, n) := by rw [← hA]; unfold firstR; rw [if_neg (by simp [hc]; omega)]
      rw [h2, if_neg (by simp only; omega)]
      clear hA h2
      by_cases hq : r = 65533
      · subst hq
        have hb1 : ((n : Int) == 1) = false := by
          rw [Bool.eq_false_iff]; intro h; simp at h; omega
        have hb2 : ¬ (n : Int) = 1 := by omega
        have cC : ∀ w, Calls Tryd.prog 19 #[.int .i64 65533] w fun e w' => e = .returned (.bool true) ∧ w' = w := fun w => (can_calls 65533 w).mono fun e w' h => by rw [hc] at h; exact h
        go_enter Tryd.func16, Tryd.ntmps16
        go_wp2_with (first
          | (go_at_call 18; (with_reducible refine (cD).mono ?_); rintro e w1 ⟨rfl, hb⟩)
          | (go_at_call 19; (with_reducible refine (cC _).mono ?_); rintro e w2 ⟨rfl, rfl⟩))
        all_goals go_ret3
        all_goals exact ⟨rfl, hb⟩
      · have hb1 : ((r : Int) == 65533) = false := by
          rw [Bool.eq_false_iff]; intro h; simp at h; omega
        have hb2 : ¬ (r : Int) = 65533 := by omega
        go_enter Tryd.func16, Tryd.ntmps16
        go_wp2_with (first
          | (go_at_call 18; (with_reducible refine (cD).mono ?_); rintro e w1 ⟨rfl, hb⟩)
          | (go_at_call 19; (with_reducible refine (can_calls r _).mono ?_); rintro e w2 ⟨rfl, rfl⟩))
        all_goals go_ret3
        all_goals exact ⟨rfl, hb⟩
    · have hc1 : canR r = false := by simpa using hc
      have h2 : atR s 0 = (0, 0) := by rw [← hA]; unfold firstR; rw [if_pos (Or.inr hc1)]
      rw [h2]
      clear hA h2
      have hb2 : ¬ (r : Int) = 65533 := by
        intro h
        have : r = 65533 := by omega
        subst this
        exact hc (by decide)
      have hb1 : ((r : Int) == 65533) = false := by
        rw [Bool.eq_false_iff]; intro h; simp at h; exact hb2 h
      go_enter Tryd.func16, Tryd.ntmps16
      go_wp2_with (first
        | (go_at_call 18; (with_reducible refine (cD).mono ?_); rintro e w1 ⟨rfl, hb⟩)
        | (go_at_call 19; (with_reducible refine (can_calls r _).mono ?_); rintro e w2 ⟨rfl, rfl⟩))
      all_goals go_ret3
      all_goals exact ⟨rfl, hb⟩
end Go.Proofs.YtaanlildniiijaaDoor
