/- The reference's character at a place. -/
import Derived.Test.YtaanlildniiijaaDoorSwChr
namespace Go.Proofs.YtaanlildniiijaaDoor
open Go.RowKit
def bndR (j : Nat) : Nat := if j ≤ 1 then 128 else if j = 2 then 8192 else if j = 3 then 524288 else 33554432
theorem bndR_le (j : Nat) : bndR j ≤ 33554432 := by unfold bndR; repeat' split
                                                    all_goals omega
theorem bndR_step {j r c : Nat} (h : r < bndR j) (h1 : 1 ≤ j) (h2 : j < 4) (hc : c < 192) : 64 * r + c - 128 < bndR (j + 1) := by
  unfold bndR at *
  have : j = 1 ∨ j = 2 ∨ j = 3 := by omega
  rcases this with rfl | rfl | rfl <;> simp at * <;> omega
theorem sizeR_lt (c : Nat) : (sizeR c).1 ≤ 4 ∧ (sizeR c).2 < 128 := by
  unfold sizeR
  repeat' split
  all_goals simp only
  all_goals omega
theorem atR_eq (s : ByteArray) (i n r0 : Nat) (hn : (sizeR (s.get! i).toNat).1 = n) (hr : (sizeR (s.get! i).toNat).2 = r0) : atR s i = if n = 0 ∨ s.size < i + n then (0, 0)
  else match contR s i (n - 1) 1 r0 with
    | none => (0, 0)
    | some r => if canR r = true ∧ lenR r = n then (r, n) else (0, 0) := by
  unfold atR
  rw [hn, hr]
  rfl
theorem ret2n {a b : Nat} {x : Nat × Nat} (h : x = (a, b)) : Ending.returned (.tuple #[.int .i64 (a : Int), .int .i64 (b : Int)]) = Ending.returned (.tuple #[.int .i64 (x.1 : Int), .int .i64 (x.2 : Int)]) := by rw [h]
set_option maxHeartbeats 4000000
set_option maxRecDepth 100000
theorem at_calls (s : ByteArray) (i : Nat) (hi : i < s.size) (hs : s.size ≤ 140737488355328) (w : World) : Calls Tryd.prog 17 #[.string s, .int .i64 i] w fun e w' => e = .returned (.tuple #[.int .i64 (atR s i).1, .int .i64 (atR s i).2]) ∧ Below w.heap.size w w' := by
  have hi0 : (i : Int) < (s.size : Int) := by omega
  obtain ⟨c, hc⟩ : ∃ c, s.get! i = c := ⟨_, rfl⟩
  have hs0 : s[i]'hi = c := by rw [← hc]; exact (Utf8W.get!_of_lt s i hi).symm
  have hcz : c.toNat < 256 := c.toNat_lt
  obtain ⟨n, hn⟩ : ∃ n, (sizeR c.toNat).1 = n := ⟨_, rfl⟩
  obtain ⟨r0, hr⟩ : ∃ r0, (sizeR c.toNat).2 = r0 := ⟨_, rfl⟩
  have hl := sizeR_lt c.toNat
  rw [hn, hr] at hl
  obtain ⟨hn4, hr128⟩ := hl
  have HA := Lib.hid (atR_eq s i n r0 (by rw [hc]; exact hn) (by rw [hc]; exact hr))
  have cS := size_calls c.toNat hcz
  simp only [hn, hr] at cS
  have hw : wrap64 ((i : Int) + n) = i + n := IntWalk.wrap64_in _ (by omega)
  clear hc hn hr
  by_cases hn0 : n = 0 ∨ s.size < i + n
  · have hA : atR s i = (0, 0) := by rw [HA.out, if_pos hn0]
    have HA := Lib.hid hA
    clear hA
    go_enter Tryd.func17, Tryd.ntmps17
    by_cases hn1 : n = 0
    · subst hn1
      clear hw hn0
      go_wp2_with (go_at_call 20; (with_reducible refine (cS _).mono ?_); rintro e w1 ⟨rfl, rfl⟩)
      all_goals go_ret2
      all_goals exact ⟨ret2n HA.out, Below.refl _ _⟩
    · have hn2 : ¬ (n : Int) = 0 := by omega
      have hn3 : (s.size : Int) < i + n := by omega
      clear hn0
      go_wp2_with (go_at_call 20; (with_reducible refine (cS _).mono ?_); rintro e w1 ⟨rfl, rfl⟩)
      all_goals go_ret2
      all_goals exact ⟨ret2n HA.out, Below.refl _ _⟩
  · have hA : atR s i = (match contR s i (n - 1) 1 r0 with | none => (0, 0) | some r => if canR r = true ∧ lenR r = n then (r, n) else (0, 0)) := by rw [HA.out, if_neg hn0]
    have HA := Lib.hid hA
    clear hA
    have hn1 : ¬ (n : Int) = 0 := by omega
    have hn7 : ((n : Int) == 0) = false := by simpa using hn1
    have hn8 : decide ((s.size : Int) < i + n) = false := by simp; omega
    have hn5 : i + n ≤ s.size := by omega
    have hn6 : 1 ≤ n := by omega
    clear hn0
    go_enter Tryd.func17, Tryd.ntmps17
    go_wp2_with (go_at_call 20; (with_reducible refine (cS _).mono ?_); rintro e w1 ⟨rfl, rfl⟩)
    go_loopw [7, 8] (fun v z wr => ∃ (j r : Nat), 1 ≤ j ∧ j ≤ n ∧ v = .int .i64 r ∧ z = .int .i64 j ∧ r < bndR j ∧ wr = w1 ∧ Hid (contR s i (n - 1) 1 r0 = contR s i (n - j) j r)) (fun v z wr => n - (intOf z).toNat)
    case atStart => exact ⟨1, r0, by omega, hn6, rfl, rfl, by simpa [bndR] using hr128, rfl, Lib.hid rfl⟩
    case round =>
      obtain ⟨j, r, hj1, hj2, rfl, rfl, hb, rfl, HC⟩ := hrel
      by_cases hlt : j < n
      · have hq : (j : Int) < n := by omega
        obtain ⟨d, hd⟩ : ∃ d, s.get! (i + j) = d := ⟨_, rfl⟩
        have hk1 : i + j < s.size := by omega
        have hs1 : s[i + j]'hk1 = d := by rw [← hd]; exact (Utf8W.get!_of_lt s (i + j) (by omega)).symm
        have hw1 : wrap64 ((i : Int) + j) = ((i + j : Nat) : Int) := by rw [IntWalk.wrap64_in _ (by omega)]; omega
        have hq1 : ((i + j : Nat) : Int) < (s.size : Int) := by omega
        have hrb : (r : Int) < 33554432 := by have hbl := bndR_le j; omega
        have HB := Lib.hid hb
        have HL := Lib.hid hlt
        clear hb hj2 hlt hn1
        by_cases hbad : d.toNat < 128 ∨ 192 ≤ d.toNat
        · have hA0 : atR s i = (0, 0) := by
            rw [HA.out, HC.out, show n - j = (n - j - 1) + 1 by have := HL.out; omega, contR, hd, if_pos hbad]
          have HA := Lib.hid hA0
          clear hA0 hrb HC hj1 hd
          by_cases hb1 : d.toNat < 128
          · have hb2 : (d.toNat : Int) < 128 := by omega
            clear hbad
            go_wp2
            all_goals go_ret2
            all_goals exact ⟨ret2n HA.out, Below.refl _ _⟩
          · have hb2 : (192 : Int) ≤ d.toNat := by omega
            have hb3 : ¬ (d.toNat : Int) < 128 := by omega
            clear hbad
            go_wp2
            all_goals go_ret2
            all_goals exact ⟨ret2n HA.out, Below.refl _ _⟩
        · have hC1 : contR s i (n - 1) 1 r0 = contR s i (n - (j + 1)) (j + 1) (64 * r + d.toNat - 128) := by
            rw [HC.out, show n - j = (n - (j + 1)) + 1 by have := HL.out; omega, contR, hd, if_neg hbad]
          have HC := Lib.hid hC1
          clear hC1
          have hst0 := bndR_step (c := d.toNat) HB.out hj1 (by have := HL.out; omega) (by omega)
          have hst := Lib.hid hst0
          have hj3 : j + 1 ≤ n := by have := HL.out; omega
          have hb3 : ¬ (d.toNat : Int) < 128 := by omega
          have hb4 : decide ((192 : Int) ≤ d.toNat) = false := by simp; omega
          have hd1 : 128 ≤ d.toNat := by omega
          have hd2 : d.toNat < 192 := by omega
          have HJ := Lib.hid (And.intro hj3 (And.intro hd1 (And.intro hd2 (And.intro hj1 hrb))))
          clear hbad hst0 hd HB hj3 hd1 hd2 hrb hj1
          go_wp2
          obtain ⟨hj3, hd1, hd2, hj1, hrb⟩ := HJ.out
          refine ⟨⟨j + 1, 64 * r + d.toNat - 128, by omega, hj3, ?_, ?_, hst.out, by trivial, HC⟩, ?_⟩
          · rw [IntWalk.wrap64_in (64 * (r : Int)) (by omega), IntWalk.wrap64_in (d.toNat : Int) (by omega), IntWalk.wrap64_in (64 * (r : Int) + d.toNat) (by omega), IntWalk.wrap64_in _ (by omega)]; congr 1; omega
          · congr 1
          · simp only [intOf]; omega
      · have hjn : j = n := by omega
        subst hjn
        have hq : ¬ (j : Int) < j := by omega
        have hA1 : atR s i = if canR r = true ∧ lenR r = j then (r, j) else (0, 0) := by
          rw [HA.out, HC.out, Nat.sub_self]; rfl
        have HA := Lib.hid hA1
        clear hA1 HC
        by_cases hcan : canR r = true
        · have hr4 : r < 2097152 := by
            simp [canR] at hcan; omega
          go_wp2_with (first
            | (go_at_call 21; (with_reducible refine (char_calls r _).mono ?_); rintro e w2 ⟨rfl, rfl⟩)
            | (go_at_call 22; (with_reducible refine (bytes_calls r hr4 _).mono ?_); rintro e w2 ⟨⟨sb, rfl, hsb⟩, hbb⟩))
          · go_ret2
            exact ⟨ret2n (by rw [HA.out, if_neg (by rintro ⟨-, h⟩; rename _ = true => hx; rw [h] at hx; simp at hx)]), hbb⟩
          · go_ret2
            have h2 : lenR r = j := by rename (_ != _) = false => hx; exact Int.ofNat.inj (by simpa using hx)
            exact ⟨ret2n (by rw [HA.out, if_pos ⟨hcan, h2⟩]), hbb⟩
        · have hc2 : canR r = false := by simpa using hcan
          go_wp2_with (first
            | (go_at_call 21; (with_reducible refine (char_calls r _).mono ?_); rintro e w2 ⟨rfl, rfl⟩)
            | (go_at_call 22; fail))
          go_ret2
          exact ⟨ret2n (by rw [HA.out, if_neg (by simp [hc2])]), Below.refl _ _⟩
end Go.Proofs.YtaanlildniiijaaDoor
