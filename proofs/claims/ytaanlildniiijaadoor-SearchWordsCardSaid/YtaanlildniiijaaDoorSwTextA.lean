/- The program's text. -/
import Derived.Test.YtaanlildniiijaaDoorSwText
import Derived.Lib.TrimUEq
import Derived.Lib.Strings
namespace Go.Proofs.YtaanlildniiijaaDoor
open Go.RowKit
theorem decGo_extract (s : ByteArray) (pos : Nat) (h : pos < s.size) : Lib.decodeGo (s.extract pos s.size) = Utf8.decode s pos := by
  have hx : (s.extract pos s.size).data.toList = s.data.toList.drop pos := by
    rw [Lib.extract_data, List.take_of_length_le (by rw [List.length_drop, ← Lib.size_eq]; omega)]
  have hsz : (s.extract pos s.size).size ≠ 0 := by rw [Lib.size_eq, hx, List.length_drop, ← Lib.size_eq]; omega
  unfold Lib.decodeGo
  rw [if_neg hsz, ← Lib.decodeL_drop s pos, ← hx]
  rfl
theorem atR_extract (s : ByteArray) (i : Nat) (hi : i < s.size) : atR (s.extract i s.size) 0 = atR s i := by
  have h := decGo_extract s i hi
  have hz : 0 < (s.extract i s.size).size := by simp; omega
  rw [← dec_at _ 0 hz, ← dec_at s i hi, ← h]
  unfold Lib.decodeGo
  rw [if_neg (by omega)]
theorem Tabs.keep {w w1 : World} (h : Tabs w) (hb : Below w.heap.size w w1) : Tabs w1 := ⟨fun c hc => kcell hb (h.1 c hc), fun i hi => ⟨kcell hb (h.2 i hi).1, kcell hb (h.2 i hi).2⟩⟩
set_option maxHeartbeats 4000000
set_option maxRecDepth 100000
theorem text_calls (s : ByteArray) (w : World) (hT : Tabs w) : Calls Tryd.prog 10 #[.string s] w fun e w' => e = .returned (.tuple #[.int .i64 (textS s).1, .int .i64 (textS s).2]) ∧ Below w.heap.size w w' := by
  by_cases h : 16384 < s.size
  · have h0 : (16384 : Int) < s.size := by omega
    have hX : textS s = (0, 2) := by unfold textS; rw [if_pos h]
    go_enter Tryd.func10, Tryd.ntmps10
    go_wp2_with (go_at_call 16; fail)
    go_ret2
    exact ⟨by first | rfl | (rw [hX]; rfl), Below.refl _ _⟩
  have hX : textS s = badF s (s.size + 1) 0 := by unfold textS; rw [if_neg h]
  have h0 : ¬ (16384 : Int) < s.size := by omega
  have HX := Lib.hid hX
  have HT := Lib.hid hT
  clear hX hT
  go_enter Tryd.func10, Tryd.ntmps10
  go_wp2
  go_loopw [4] (fun v wr => ∃ (i f : Nat), s.size < i + f ∧ v = .int .i64 i ∧ i ≤ s.size + 4 ∧ Below w.heap.size w wr ∧ Hid (badF s (s.size + 1) 0 = badF s f i)) (fun v wr => s.size - (intOf v).toNat)
  case atStart => exact ⟨0, s.size + 1, by omega, rfl, by omega, Below.refl _ _, Lib.hid rfl⟩
  case round =>
    obtain ⟨i, f, hf, rfl, hi4, HB, HF⟩ := hrel
    by_cases hi : i < s.size
    · have hi0 : (i : Int) < s.size := by omega
      obtain ⟨f, rfl⟩ : ∃ g, f = g + 1 := ⟨f - 1, by omega⟩
      obtain ⟨n, hn⟩ : ∃ n, (atR s i).2 = n := ⟨_, rfl⟩
      obtain ⟨r, hr⟩ : ∃ r, (atR s i).1 = r := ⟨_, rfl⟩
      have hn4 := atR_le s i
      rw [hn] at hn4
      have hF : textS s = if n = 0 then (i, 7) else badF s f (i + n) := by rw [HX.out, HF.out, badF, if_neg (by omega), hn]
      have HF2 : Hid (n ≠ 0 → badF s (s.size + 1) 0 = badF s f (i + n)) := Lib.hid (fun h => by rw [HF.out, badF, if_neg (by omega), hn, if_neg h])
      have HF := Lib.hid hF
      have cA := fun (w : World) (hT : Tabs w) => first_calls (s.extract i s.size) (by simp; omega) w hT
      rw [atR_extract s i hi] at cA
      simp only [hn, hr] at cA
      have HI := Lib.hid (And.intro hf (And.intro hi4 (And.intro hi hn4)))
      clear hF hn hr hf hi4 hi hn4
      obtain ⟨wo, rfl⟩ : ∃ wo : World, wo = wr := ⟨_, rfl⟩
      by_cases hn0 : n = 0
      · subst hn0
        go_wp2_with (go_at_call 16; (with_reducible refine (cA _ (HT.out.keep HB)).mono ?_); rintro e w1 ⟨rfl, hb⟩; replace HB := bt1 HB hb; clear hb)
        go_ret2
        have hF0 : textS s = (i, 7) := by rw [HF.out]; simp
        exact ⟨by rw [hF0]; rfl, HB⟩
      · have hn1 : ¬ (n : Int) = 0 := by omega
        have hn2 : ((n : Int) == 0) = false := by simpa using hn1
        simp only [if_neg hn0] at cA
        go_wp2_with (go_at_call 16; (with_reducible refine (cA _ (HT.out.keep HB)).mono ?_); rintro e w1 ⟨rfl, hb⟩; replace HB := bt1 HB hb; clear hb)
        obtain ⟨hf, hi4, hi, hn4⟩ := HI.out
        refine ⟨⟨i + n, f, by omega, ?_, by omega, HB, Lib.hid (HF2.out hn0)⟩, ?_⟩
        · rw [IntWalk.wrap64_in _ (by omega)]; congr 1
        · rw [IntWalk.wrap64_in _ (by omega)]; simp only [intOf]; omega
    · have hi0 : ¬ (i : Int) < s.size := by omega
      have hF : textS s = (0, 0) := by
        rw [HX.out, HF.out]; cases f with
        | zero => rfl
        | succ f => rw [badF, if_pos (by omega)]
      have HF := Lib.hid hF
      clear hF
      go_wp2
      go_ret2
      exact ⟨by rw [HF.out]; rfl, HB⟩
end Go.Proofs.YtaanlildniiijaaDoor
