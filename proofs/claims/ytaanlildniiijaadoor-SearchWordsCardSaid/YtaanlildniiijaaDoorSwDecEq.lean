/- Plain: the library's decoder and the reference's At say the same. -/
import Derived.Test.YtaanlildniiijaaDoorSwAt
namespace Go.Proofs.YtaanlildniiijaaDoor
open Go.RowKit
/-- What the program makes of a decoded character. -/
def firstR (x : Nat × Nat) : Nat × Nat := if (x.1 = 65533 ∧ x.2 = 1) ∨ canR x.1 = false then (0, 0) else x
set_option maxHeartbeats 4000000
set_option maxRecDepth 100000
theorem canR_iff (r : Nat) : canR r = true ↔ (r = 9 ∨ r = 10 ∨ r = 13 ∨ (32 ≤ r ∧ r ≤ 55295) ∨ (57344 ≤ r ∧ r ≤ 65533) ∨ (65536 ≤ r ∧ r ≤ 1114111)) := by simp [canR]
theorem canF_iff (r : Nat) : canR r = false ↔ ¬ (r = 9 ∨ r = 10 ∨ r = 13 ∨ (32 ≤ r ∧ r ≤ 55295) ∨ (57344 ≤ r ∧ r ≤ 65533) ∨ (65536 ≤ r ∧ r ≤ 1114111)) := by rw [← canR_iff]; simp
/-- The same, a number of bytes at a time. -/
theorem fin_eq (r n : Nat) (x : Nat × Nat) (h1 : lenR r = n → canR r = true → x = (r, n) ∧ ¬ (r = 65533 ∧ n = 1)) (h2 : ¬ (lenR r = n ∧ canR r = true) → (x.1 = 65533 ∧ x.2 = 1) ∨ canR x.1 = false) :
    firstR x = if canR r = true ∧ lenR r = n then (r, n) else (0, 0) := by
  unfold firstR
  by_cases h : canR r = true ∧ lenR r = n
  · obtain ⟨rfl, h3⟩ := h1 h.2 h.1
    rw [if_pos h, if_neg]
    rintro (h4 | h4)
    · exact h3 h4
    · simp only at h4; rw [h.1] at h4; cases h4
  · rw [if_neg h, if_pos (h2 fun k => h ⟨k.2, k.1⟩)]
theorem one_eq (n b0 b1 b2 b3 : Nat) (h : b0 < 128) : firstR (Lib.decodeN n b0 b1 b2 b3) = if canR b0 = true ∧ lenR b0 = 1 then (b0, 1) else (0, 0) := by
  have hd : Lib.decodeN n b0 b1 b2 b3 = (b0, 1) := by unfold Lib.decodeN; rw [if_pos h]
  have hl : lenR b0 = 1 := by unfold lenR; rw [if_pos h]
  rw [hd]
  refine fin_eq _ _ _ (fun _ _ => ⟨rfl, by omega⟩) (fun hk => ?_)
  right
  simpa [hl] using hk
theorem two_eq (n b0 b1 b2 b3 : Nat) (h : 192 ≤ b0 ∧ b0 < 224) (h1 : 128 ≤ b1 ∧ b1 < 192) (hn : 2 ≤ n) : firstR (Lib.decodeN n b0 b1 b2 b3) = if canR (64 * (b0 - 192) + b1 - 128) = true ∧ lenR (64 * (b0 - 192) + b1 - 128) = 2 then (64 * (b0 - 192) + b1 - 128, 2) else (0, 0) := by
  have he : b0 % 32 * 64 + b1 % 64 = 64 * (b0 - 192) + b1 - 128 := by omega
  have hd : Lib.decodeN n b0 b1 b2 b3 = if 64 * (b0 - 192) + b1 - 128 ≥ 128 then (64 * (b0 - 192) + b1 - 128, 2) else (65533, 1) := by
    unfold Lib.decodeN; rw [if_neg (by omega), if_pos (by omega), he]
  rw [hd]
  obtain ⟨r, hr⟩ : ∃ r, 64 * (b0 - 192) + b1 - 128 = r := ⟨_, rfl⟩
  have hlt : r < 2048 := by omega
  rw [hr]
  have hl : lenR r = 2 ↔ 128 ≤ r := by unfold lenR; repeat' split
                                       all_goals omega
  refine fin_eq _ _ _ (fun h2 _ => ?_) (fun hk => ?_)
  · have h3 := hl.1 h2
    exact ⟨by rw [if_pos h3], by omega⟩
  · by_cases h3 : r ≥ 128
    · rw [if_pos h3]; right
      have := hl.2 h3
      simpa [this] using hk
    · rw [if_neg h3]; left; exact ⟨rfl, rfl⟩
theorem three_eq (n b0 b1 b2 b3 : Nat) (h : 224 ≤ b0 ∧ b0 < 240) (h1 : 128 ≤ b1 ∧ b1 < 192) (h2 : 128 ≤ b2 ∧ b2 < 192) (hn : 3 ≤ n) : firstR (Lib.decodeN n b0 b1 b2 b3) = if canR (64 * (64 * (b0 - 224) + b1 - 128) + b2 - 128) = true ∧ lenR (64 * (64 * (b0 - 224) + b1 - 128) + b2 - 128) = 3 then (64 * (64 * (b0 - 224) + b1 - 128) + b2 - 128, 3) else (0, 0) := by
  obtain ⟨r, hr⟩ : ∃ r, 64 * (64 * (b0 - 224) + b1 - 128) + b2 - 128 = r := ⟨_, rfl⟩
  have he : b0 % 16 * 4096 + b1 % 64 * 64 + b2 % 64 = r := by omega
  have hlt : r < 65536 := by omega
  have hd : Lib.decodeN n b0 b1 b2 b3 = if r ≥ 2048 ∧ (r < 55296 ∨ (57344 ≤ r ∧ r ≤ 1114111)) then (r, 3) else (65533, 1) := by
    unfold Lib.decodeN; rw [if_neg (by omega), if_neg (by omega), if_pos (by omega), he]
  rw [hd, hr]
  have hl : lenR r = 3 ↔ 2048 ≤ r := by unfold lenR; repeat' split
                                        all_goals omega
  refine fin_eq _ _ _ (fun h3 hc => ?_) (fun hk => ?_)
  · have h4 := hl.1 h3
    have h5 := (canR_iff r).1 hc
    exact ⟨by rw [if_pos (by omega)], by omega⟩
  · by_cases h3 : r ≥ 2048 ∧ (r < 55296 ∨ (57344 ≤ r ∧ r ≤ 1114111))
    · rw [if_pos h3]; right
      have := hl.2 h3.1
      simpa [this] using hk
    · rw [if_neg h3]; left; exact ⟨rfl, rfl⟩
theorem four_eq (n b0 b1 b2 b3 : Nat) (h : 240 ≤ b0 ∧ b0 < 248) (h1 : 128 ≤ b1 ∧ b1 < 192) (h2 : 128 ≤ b2 ∧ b2 < 192) (h3 : 128 ≤ b3 ∧ b3 < 192) (hn : 4 ≤ n) : firstR (Lib.decodeN n b0 b1 b2 b3) = if canR (64 * (64 * (64 * (b0 - 240) + b1 - 128) + b2 - 128) + b3 - 128) = true ∧ lenR (64 * (64 * (64 * (b0 - 240) + b1 - 128) + b2 - 128) + b3 - 128) = 4 then (64 * (64 * (64 * (b0 - 240) + b1 - 128) + b2 - 128) + b3 - 128, 4) else (0, 0) := by
  obtain ⟨r, hr⟩ : ∃ r, 64 * (64 * (64 * (b0 - 240) + b1 - 128) + b2 - 128) + b3 - 128 = r := ⟨_, rfl⟩
  have he : b0 % 8 * 262144 + b1 % 64 * 4096 + b2 % 64 * 64 + b3 % 64 = r := by omega
  have hd : Lib.decodeN n b0 b1 b2 b3 = if r ≥ 65536 ∧ (r < 55296 ∨ (57344 ≤ r ∧ r ≤ 1114111)) then (r, 4) else (65533, 1) := by
    unfold Lib.decodeN; rw [if_neg (by omega), if_neg (by omega), if_neg (by omega), if_pos (by omega), he]
  rw [hd, hr]
  have hl : lenR r = 4 ↔ 65536 ≤ r := by unfold lenR; repeat' split
                                         all_goals omega
  refine fin_eq _ _ _ (fun h3 hc => ?_) (fun hk => ?_)
  · have h4 := hl.1 h3
    have h5 := (canR_iff r).1 hc
    exact ⟨by rw [if_pos (by omega)], by omega⟩
  · by_cases h3 : r ≥ 65536 ∧ (r < 55296 ∨ (57344 ≤ r ∧ r ≤ 1114111))
    · rw [if_pos h3]; right
      have := hl.2 h3.1
      simpa [this] using hk
    · rw [if_neg h3]; left; exact ⟨rfl, rfl⟩
theorem bad_first {n b0 b1 b2 b3 : Nat} (h : Lib.decodeN n b0 b1 b2 b3 = (65533, 1)) : firstR (Lib.decodeN n b0 b1 b2 b3) = (0, 0) := by
  rw [h]; unfold firstR; rw [if_pos (Or.inl ⟨rfl, rfl⟩)]
theorem dec_at (s : ByteArray) (i : Nat) (hi : i < s.size) : firstR (Utf8.decode s i) = atR s i := by
  rw [Lib.decode_at]
  obtain ⟨b0, h0⟩ : ∃ b, (s.get! i).toNat = b := ⟨_, rfl⟩
  obtain ⟨b1, h1⟩ : ∃ b, (s.get! (i + 1)).toNat = b := ⟨_, rfl⟩
  obtain ⟨b2, h2⟩ : ∃ b, (s.get! (i + 2)).toNat = b := ⟨_, rfl⟩
  obtain ⟨b3, h3⟩ : ∃ b, (s.get! (i + 3)).toNat = b := ⟨_, rfl⟩
  have l0 : b0 < 256 := by rw [← h0]; exact (s.get! i).toNat_lt
  obtain ⟨n, hn⟩ : ∃ n, s.size - i = n := ⟨_, rfl⟩
  unfold atR
  rw [h0, h1, h2, h3, hn]
  by_cases c1 : b0 < 128
  · have hs : sizeR b0 = (1, b0) := by unfold sizeR; rw [if_pos c1]
    rw [hs, one_eq _ _ _ _ _ c1]
    have hz : ¬ (1 = 0 ∨ s.size < i + 1) := by omega
    simp only [contR, Nat.sub_self, if_neg hz]
  · by_cases c2 : 192 ≤ b0 ∧ b0 < 224
    · have hs : sizeR b0 = (2, b0 - 192) := by unfold sizeR; rw [if_neg c1, if_pos c2]
      rw [hs]
      simp only [contR, h1, show 2 - 1 = 0 + 1 from rfl]
      by_cases k : 2 ≤ n ∧ (128 ≤ b1 ∧ b1 < 192)
      · rw [if_neg (by omega), if_neg (by omega), two_eq _ _ _ _ _ c2 k.2 k.1]
      · rw [bad_first (by unfold Lib.decodeN; rw [if_neg (by omega), if_neg (by omega), if_neg (by omega), if_neg (by omega)])]
        by_cases k2 : s.size < i + 2
        · rw [if_pos (Or.inr k2)]
        · rw [if_neg (by omega), if_pos (by omega)]
    · by_cases c3 : 224 ≤ b0 ∧ b0 < 240
      · have hs : sizeR b0 = (3, b0 - 224) := by unfold sizeR; rw [if_neg c1, if_neg c2, if_pos c3]
        rw [hs]
        simp only [contR, h1, h2, show 3 - 1 = 0 + 1 + 1 from rfl]
        by_cases k : 3 ≤ n ∧ (128 ≤ b1 ∧ b1 < 192) ∧ (128 ≤ b2 ∧ b2 < 192)
        · rw [if_neg (by omega), if_neg (by omega), if_neg (by omega), three_eq _ _ _ _ _ c3 k.2.1 k.2.2 k.1]
        · rw [bad_first (by unfold Lib.decodeN; rw [if_neg (by omega), if_neg (by omega), if_neg (by omega), if_neg (by omega)])]
          by_cases k2 : s.size < i + 3
          · rw [if_pos (Or.inr k2)]
          · rw [if_neg (by omega)]
            by_cases k3 : b1 < 128 ∨ 192 ≤ b1
            · rw [if_pos k3]
            · rw [if_neg k3, if_pos (by omega)]
      · by_cases c4 : 240 ≤ b0 ∧ b0 < 248
        · have hs : sizeR b0 = (4, b0 - 240) := by unfold sizeR; rw [if_neg c1, if_neg c2, if_neg c3, if_pos c4]
          rw [hs]
          simp only [contR, h1, h2, h3, show 4 - 1 = 0 + 1 + 1 + 1 from rfl]
          by_cases k : 4 ≤ n ∧ (128 ≤ b1 ∧ b1 < 192) ∧ (128 ≤ b2 ∧ b2 < 192) ∧ (128 ≤ b3 ∧ b3 < 192)
          · rw [if_neg (by omega), if_neg (by omega), if_neg (by omega), if_neg (by omega), four_eq _ _ _ _ _ c4 k.2.1 k.2.2.1 k.2.2.2 k.1]
          · rw [bad_first (by unfold Lib.decodeN; rw [if_neg (by omega), if_neg (by omega), if_neg (by omega), if_neg (by omega)])]
            by_cases k2 : s.size < i + 4
            · rw [if_pos (Or.inr k2)]
            · rw [if_neg (by omega)]
              by_cases k3 : b1 < 128 ∨ 192 ≤ b1
              · rw [if_pos k3]
              · rw [if_neg k3]
                by_cases k4 : b2 < 128 ∨ 192 ≤ b2
                · rw [if_pos k4]
                · rw [if_neg k4, if_pos (by omega)]
        · have hs : sizeR b0 = (0, 0) := by unfold sizeR; rw [if_neg c1, if_neg c2, if_neg c3, if_neg c4]
          rw [hs, if_pos (Or.inl rfl), bad_first (by unfold Lib.decodeN; rw [if_neg (by omega), if_neg (by omega), if_neg (by omega), if_neg (by omega)])]
end Go.Proofs.YtaanlildniiijaaDoor
