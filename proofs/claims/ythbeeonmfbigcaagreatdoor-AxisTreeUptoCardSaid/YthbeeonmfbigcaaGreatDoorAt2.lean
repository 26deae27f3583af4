import Derived.Laws.IdiomStrings
import Derived.Lib.TrimUEq
import Derived.Lib.Strings
import Derived.Test.YthbeeonmfbigcaaGreatDoorProg
import Derived.Test.YthbeeonmfbigcaaGreatDoorAt1
/- One character: the program's decoder and the reference's. -/
namespace Go.Proofs.YthbeeonmfbigcaaGreatDoor
open Go.RowKit
def lenR (r : Nat) : Nat := if r < 128 then 1 else if r < 2048 then 2 else if r < 65536 then 3 else 4
def strN (ns : List Int) : ByteArray := ns.foldl (fun r n => r.push (UInt8.ofNat n.toNat)) ByteArray.empty
theorem strN_size (ns : List Int) : (strN ns).size = ns.length := by
  have : ∀ (ns : List Int) (s : ByteArray), (ns.foldl (fun r n => r.push (UInt8.ofNat n.toNat)) s).size = s.size + ns.length := by
    intro ns
    induction ns with
    | nil => intro s; simp
    | cons n r ih => intro s; rw [List.foldl_cons, ih, ByteArray.size_push, List.length_cons]; omega
  unfold strN; rw [this]; simp
theorem conv_lit (w : World) (ns : List Int) (n : Nat) (hn : n = ns.length) (cs : Array Value) (hcs : cs = (ns.map (Value.int .u8)).toArray) :
    (convert 153 9 (.slice (some ⟨w.heap.size, 0, none⟩) n n)).run Tryz.prog (w.alloc (.cells cs 5)) = .ok (.string (strN ns)) (w.alloc (.cells cs 5)) := by
  subst hn hcs
  rw [run_convert_bytes_string _ _ _ _ _ _ _ Tryz.underlying153 Tryz.underlying5 Tryz.underlying9]
  have hl := run_loadCells_list (P := Tryz.prog) (w.alloc (.cells (ns.map (Value.int .u8)).toArray 5)) ⟨w.heap.size, 0, none⟩ (ns.map (Value.int .u8)) (fun j v hj => by
    have : (Addr.add ⟨w.heap.size, 0, none⟩ j) = ⟨w.heap.size, j, none⟩ := by rw [Addr.add_lit]; simp
    rw [this, blk_cell (blk_new _ _)]
    simpa using hj)
  simp only [List.length_map] at hl
  exact run_bytesToString _ _ _ _ _ hl
set_option maxHeartbeats 4000000
set_option maxRecDepth 100000
theorem bytes1 (r : Nat) (hr : r < 128) (w : World) : Calls Tryz.prog 97 #[.int .i64 r] w fun e w' => (∃ s : ByteArray, e = .returned (.string s) ∧ s.size = 1) ∧ Below w.heap.size w w' := by
  have h0 : (r : Int) < 128 := by omega
  have k1 := fun x => conv_lit w [x] 1 rfl #[.int .u8 x] rfl
  go_enter Tryz.func97, Tryz.ntmps97
  go_wp2
  all_goals go_ret
  all_goals exact ⟨⟨_, rfl, strN_size _⟩, bl1 (Below.refl _ _) _⟩
theorem bytes2 (r : Nat) (hr : 128 ≤ r ∧ r < 2048) (w : World) : Calls Tryz.prog 97 #[.int .i64 r] w fun e w' => (∃ s : ByteArray, e = .returned (.string s) ∧ s.size = 2) ∧ Below w.heap.size w w' := by
  have h0 : ¬ (r : Int) < 128 := by omega
  have h1 : (r : Int) < 2048 := by omega
  have k1 := fun x y => conv_lit w [x, y] 2 rfl #[.int .u8 x, .int .u8 y] rfl
  go_enter Tryz.func97, Tryz.ntmps97
  go_wp2
  all_goals go_ret
  all_goals exact ⟨⟨_, rfl, strN_size _⟩, bl1 (Below.refl _ _) _⟩
theorem bytes3 (r : Nat) (hr : 2048 ≤ r ∧ r < 65536) (w : World) : Calls Tryz.prog 97 #[.int .i64 r] w fun e w' => (∃ s : ByteArray, e = .returned (.string s) ∧ s.size = 3) ∧ Below w.heap.size w w' := by
  have h0 : ¬ (r : Int) < 128 := by omega
  have h1 : ¬ (r : Int) < 2048 := by omega
  have h2 : (r : Int) < 65536 := by omega
  have k1 := fun x y z => conv_lit w [x, y, z] 3 rfl #[.int .u8 x, .int .u8 y, .int .u8 z] rfl
  go_enter Tryz.func97, Tryz.ntmps97
  go_wp2
  all_goals go_ret
  all_goals exact ⟨⟨_, rfl, strN_size _⟩, bl1 (Below.refl _ _) _⟩
theorem bytes4 (r : Nat) (hr : 65536 ≤ r ∧ r < 2097152) (w : World) : Calls Tryz.prog 97 #[.int .i64 r] w fun e w' => (∃ s : ByteArray, e = .returned (.string s) ∧ s.size = 4) ∧ Below w.heap.size w w' := by
  have h0 : ¬ (r : Int) < 128 := by omega
  have h1 : ¬ (r : Int) < 2048 := by omega
  have h2 : ¬ (r : Int) < 65536 := by omega
  have k1 := fun x y z t => conv_lit w [x, y, z, t] 4 rfl #[.int .u8 x, .int .u8 y, .int .u8 z, .int .u8 t] rfl
  go_enter Tryz.func97, Tryz.ntmps97
  go_wp2
  all_goals go_ret
  all_goals exact ⟨⟨_, rfl, strN_size _⟩, bl1 (Below.refl _ _) _⟩
theorem bytes_calls (r : Nat) (hr : r < 2097152) (w : World) : Calls Tryz.prog 97 #[.int .i64 r] w fun e w' => (∃ s : ByteArray, e = .returned (.string s) ∧ s.size = lenR r) ∧ Below w.heap.size w w' := by
  unfold lenR
  split
  · exact bytes1 r (by omega) w
  · split
    · exact bytes2 r (by omega) w
    · split
      · exact bytes3 r (by omega) w
      · exact bytes4 r (by omega) w
def contR (s : ByteArray) (i : Nat) : Nat → Nat → Nat → Option Nat
  | 0, _, r => some r
  | k + 1, j, r => if (s.get! (i + j)).toNat < 128 ∨ 192 ≤ (s.get! (i + j)).toNat then none else contR s i k (j + 1) (64 * r + (s.get! (i + j)).toNat - 128)
def atR (s : ByteArray) (i : Nat) : Nat × Nat :=
  if (sizeR (s.get! i).toNat).1 = 0 ∨ s.size < i + (sizeR (s.get! i).toNat).1 then (0, 0)
  else match contR s i ((sizeR (s.get! i).toNat).1 - 1) 1 (sizeR (s.get! i).toNat).2 with
    | none => (0, 0)
    | some r => if canR r = true ∧ lenR r = (sizeR (s.get! i).toNat).1 then (r, (sizeR (s.get! i).toNat).1) else (0, 0)
end Go.Proofs.YthbeeonmfbigcaaGreatDoor
/- The reference's character at a place. -/
namespace Go.Proofs.YthbeeonmfbigcaaGreatDoor
open Go.RowKit
def bndR (j : Nat) : Nat := if j ≤ 1 then 128 else if j = 2 then 8192 else if j = 3 then 524288 else 33554432
theorem bndR_le (j : Nat) : bndR j ≤ 33554432 := by unfold bndR; repeat' split
                                                    all_goals omega
theorem bndR_step {j r c : Nat} (h : r < bndR j) (h1 : 1 ≤ j) (h2 : j < 4) (hc : c < 192) : 64 * r + c - 128 < bndR (j + 1) := by
  unfold bndR at *
  have : j = 1 ∨ j = 2 ∨ j = 3 := by omega
  rcases this with rfl | rfl | rfl <;> simp at * <;> omega
theorem sizeR_lt (c : Nat) : (sizeR c).1 ≤ 4 ∧ (sizeR c).2 < 128 := by
  unfold sizeR
  repeat' split
  all_goals simp only
  all_goals omega
theorem atR_eq (s : ByteArray) (i n r0 : Nat) (hn : (sizeR (s.get! i).toNat).1 = n) (hr : (sizeR (s.get! i).toNat).2 = r0) : atR s i = if n = 0 ∨ s.size < i + n then (0, 0)
  else match contR s i (n - 1) 1 r0 with
    | none => (0, 0)
    | some r => if canR r = true ∧ lenR r = n then (r, n) else (0, 0) := by
  unfold atR
  rw [hn, hr]
  all_goals rfl
theorem ret2n {a b : Nat} {x : Nat × Nat} (h : x = (a, b)) : Ending.returned (.tuple #[.int .i64 (a : Int), .int .i64 (b : Int)]) = Ending.returned (.tuple #[.int .i64 (x.1 : Int), .int .i64 (x.2 : Int)]) := by rw [h]
set_option maxHeartbeats 4000000
set_option maxRecDepth 100000
theorem at_calls (s : ByteArray) (i : Nat) (hi : i < s.size) (hs : s.size ≤ 140737488355328) (w : World) : Calls Tryz.prog 88 #[.string s, .int .i64 i] w fun e w' => e = .returned (.tuple #[.int .i64 (atR s i).1, .int .i64 (atR s i).2]) ∧ Below w.heap.size w w' := by
  have hi0 : (i : Int) < (s.size : Int) := by omega
  obtain ⟨c, hc⟩ : ∃ c, s.get! i = c := ⟨_, rfl⟩
  have hs0 : s[i]'hi = c := by rw [← hc]; exact (Utf8W.get!_of_lt s i hi).symm
  have hcz : c.toNat < 256 := c.toNat_lt
  obtain ⟨n, hn⟩ : ∃ n, (sizeR c.toNat).1 = n := ⟨_, rfl⟩
  obtain ⟨r0, hr⟩ : ∃ r0, (sizeR c.toNat).2 = r0 := ⟨_, rfl⟩
  have hl := sizeR_lt c.toNat
  rw [hn, hr] at hl
  obtain ⟨hn4, hr128⟩ := hl
  have HA := Lib.hid (atR_eq s i n r0 (by rw [hc]; exact hn) (by rw [hc]; exact hr))
  have cS := size_calls c.toNat hcz
  simp only [hn, hr] at cS
  have hw : wrap64 ((i : Int) + n) = i + n := IntWalk.wrap64_in _ (by omega)
  clear hc hn hr
  by_cases hn0 : n = 0 ∨ s.size < i + n
  · have hA : atR s i = (0, 0) := by rw [HA.out, if_pos hn0]
    have HA := Lib.hid hA
    clear hA
    go_enter Tryz.func88, Tryz.ntmps88
    by_cases hn1 : n = 0
    · subst hn1
      clear hw hn0
      go_wp2_with (go_at_call 95; (with_reducible refine (cS _).mono ?_); rintro e w1 ⟨rfl, rfl⟩)
      all_goals go_ret2
      all_goals exact ⟨ret2n HA.out, Below.refl _ _⟩
    · have hn2 : ¬ (n : Int) = 0 := by omega
      have hn3 : (s.size : Int) < i + n := by omega
      clear hn0
      go_wp2_with (go_at_call 95; (with_reducible refine (cS _).mono ?_); rintro e w1 ⟨rfl, rfl⟩)
      all_goals go_ret2
      all_goals exact ⟨ret2n HA.out, Below.refl _ _⟩
  · have hA : atR s i = (match contR s i (n - 1) 1 r0 with | none => (0, 0) | some r => if canR r = true ∧ lenR r = n then (r, n) else (0, 0)) := by rw [HA.out, if_neg hn0]
    have HA := Lib.hid hA
    clear hA
    have hn1 : ¬ (n : Int) = 0 := by omega
    have hn7 : ((n : Int) == 0) = false := by simpa using hn1
    have hn8 : decide ((s.size : Int) < i + n) = false := by simp; omega
    have hn5 : i + n ≤ s.size := by omega
    have hn6 : 1 ≤ n := by omega
    clear hn0
    go_enter Tryz.func88, Tryz.ntmps88
    go_wp2_with (go_at_call 95; (with_reducible refine (cS _).mono ?_); rintro e w1 ⟨rfl, rfl⟩)
    go_loopw [7, 8] (fun v z wr => ∃ (j r : Nat), 1 ≤ j ∧ j ≤ n ∧ v = .int .i64 r ∧ z = .int .i64 j ∧ r < bndR j ∧ wr = w1 ∧ Hid (contR s i (n - 1) 1 r0 = contR s i (n - j) j r)) (fun v z wr => n - (intOf z).toNat)
    case atStart => exact ⟨1, r0, by omega, hn6, rfl, rfl, by simpa [bndR] using hr128, rfl, Lib.hid rfl⟩
    case round =>
      obtain ⟨j, r, hj1, hj2, rfl, rfl, hb, rfl, HC⟩ := hrel
      by_cases hlt : j < n
      · have hq : (j : Int) < n := by omega
        obtain ⟨d, hd⟩ : ∃ d, s.get! (i + j) = d := ⟨_, rfl⟩
        have hk1 : i + j < s.size := by omega
        have hs1 : s[i + j]'hk1 = d := by rw [← hd]; exact (Utf8W.get!_of_lt s (i + j) (by omega)).symm
        have hw1 : wrap64 ((i : Int) + j) = ((i + j : Nat) : Int) := by rw [IntWalk.wrap64_in _ (by omega)]; omega
        have hq1 : ((i + j : Nat) : Int) < (s.size : Int) := by omega
        have hrb : (r : Int) < 33554432 := by have hbl := bndR_le j; omega
        have HB := Lib.hid hb
        have HL := Lib.hid hlt
        clear hb hj2 hlt hn1
        by_cases hbad : d.toNat < 128 ∨ 192 ≤ d.toNat
        · have hA0 : atR s i = (0, 0) := by
            rw [HA.out, HC.out, show n - j = (n - j - 1) + 1 by have := HL.out; omega, contR, hd, if_pos hbad]
          have HA := Lib.hid hA0
          clear hA0 hrb HC hj1 hd
          by_cases hb1 : d.toNat < 128
          · have hb2 : (d.toNat : Int) < 128 := by omega
            clear hbad
            go_wp2
            all_goals go_ret2
            all_goals exact ⟨ret2n HA.out, Below.refl _ _⟩
          · have hb2 : (192 : Int) ≤ d.toNat := by omega
            have hb3 : ¬ (d.toNat : Int) < 128 := by omega
            clear hbad
            go_wp2
            all_goals go_ret2
            all_goals exact ⟨ret2n HA.out, Below.refl _ _⟩
        · have hC1 : contR s i (n - 1) 1 r0 = contR s i (n - (j + 1)) (j + 1) (64 * r + d.toNat - 128) := by
            rw [HC.out, show n - j = (n - (j + 1)) + 1 by have := HL.out; omega, contR, hd, if_neg hbad]
          have HC := Lib.hid hC1
          clear hC1
          have hst0 := bndR_step (c := d.toNat) HB.out hj1 (by have := HL.out; omega) (by omega)
          have hst := Lib.hid hst0
          have hj3 : j + 1 ≤ n := by have := HL.out; omega
          have hb3 : ¬ (d.toNat : Int) < 128 := by omega
          have hb4 : decide ((192 : Int) ≤ d.toNat) = false := by simp; omega
          have hd1 : 128 ≤ d.toNat := by omega
          have hd2 : d.toNat < 192 := by omega
          have HJ := Lib.hid (And.intro hj3 (And.intro hd1 (And.intro hd2 (And.intro hj1 hrb))))
          clear hbad hst0 hd HB hj3 hd1 hd2 hrb hj1
          go_wp2
          obtain ⟨hj3, hd1, hd2, hj1, hrb⟩ := HJ.out
          refine ⟨⟨j + 1, 64 * r + d.toNat - 128, by omega, hj3, ?_, ?_, hst.out, by trivial, HC⟩, ?_⟩
          · rw [IntWalk.wrap64_in (64 * (r : Int)) (by omega), IntWalk.wrap64_in (d.toNat : Int) (by omega), IntWalk.wrap64_in (64 * (r : Int) + d.toNat) (by omega), IntWalk.wrap64_in _ (by omega)]; congr 1; omega
          · congr 1
          · simp only [intOf]; omega
      · have hjn : j = n := by omega
        subst hjn
        have hq : ¬ (j : Int) < j := by omega
        have hA1 : atR s i = if canR r = true ∧ lenR r = j then (r, j) else (0, 0) := by
          rw [HA.out, HC.out, Nat.sub_self]; rfl
        have HA := Lib.hid hA1
        clear hA1 HC
        by_cases hcan : canR r = true
        · have hr4 : r < 2097152 := by
            simp [canR] at hcan; omega
          go_wp2_with (first
            | (go_at_call 96; (with_reducible refine (char_calls r _).mono ?_); rintro e w2 ⟨rfl, rfl⟩)
            | (go_at_call 97; (with_reducible refine (bytes_calls r hr4 _).mono ?_); rintro e w2 ⟨⟨sb, rfl, hsb⟩, hbb⟩))
          · go_ret2
            exact ⟨ret2n (by rw [HA.out, if_neg (by rintro ⟨-, h⟩; rename _ = true => hx; rw [h] at hx; simp at hx)]), hbb⟩
          · go_ret2
            have h2 : lenR r = j := by rename (_ != _) = false => hx; exact Int.ofNat.inj (by simpa using hx)
            exact ⟨ret2n (by rw [HA.out, if_pos ⟨hcan, h2⟩]), hbb⟩
        · have hc2 : canR r = false := by simpa using hcan
          go_wp2_with (first
            | (go_at_call 96; (with_reducible refine (char_calls r _).mono ?_); rintro e w2 ⟨rfl, rfl⟩)
            | (go_at_call 97; fail))
          go_ret2
          exact ⟨ret2n (by rw [HA.out, if_neg (by simp [hc2])]), Below.refl _ _⟩
end Go.Proofs.YthbeeonmfbigcaaGreatDoor
/- Plain: the library's decoder and the reference's At say the same. -/
namespace Go.Proofs.YthbeeonmfbigcaaGreatDoor
open Go.RowKit
def firstR (x : Nat × Nat) : Nat × Nat := if (x.1 = 65533 ∧ x.2 = 1) ∨ canR x.1 = false then (0, 0) else x
set_option maxHeartbeats 4000000
set_option maxRecDepth 100000
theorem canR_iff (r : Nat) : canR r = true ↔ (r = 9 ∨ r = 10 ∨ r = 13 ∨ (32 ≤ r ∧ r ≤ 55295) ∨ (57344 ≤ r ∧ r ≤ 65533) ∨ (65536 ≤ r ∧ r ≤ 1114111)) := by simp [canR]
theorem fin_eq (r n : Nat) (x : Nat × Nat) (h1 : lenR r = n → canR r = true → x = (r, n) ∧ ¬ (r = 65533 ∧ n = 1)) (h2 : ¬ (lenR r = n ∧ canR r = true) → (x.1 = 65533 ∧ x.2 = 1) ∨ canR x.1 = false) :
    firstR x = if canR r = true ∧ lenR r = n then (r, n) else (0, 0) := by
  unfold firstR
  by_cases h : canR r = true ∧ lenR r = n
  · obtain ⟨rfl, h3⟩ := h1 h.2 h.1
    rw [if_pos h, if_neg]
    rintro (h4 | h4)
    · exact h3 h4
    · simp only at h4; rw [h.1] at h4; cases h4
  · rw [if_neg h, if_pos (h2 fun k => h ⟨k.2, k.1⟩)]
theorem one_eq (n b0 b1 b2 b3 : Nat) (h : b0 < 128) : firstR (Lib.decodeN n b0 b1 b2 b3) = if canR b0 = true ∧ lenR b0 = 1 then (b0, 1) else (0, 0) := by
  have hd : Lib.decodeN n b0 b1 b2 b3 = (b0, 1) := by unfold Lib.decodeN; rw [if_pos h]
  have hl : lenR b0 = 1 := by unfold lenR; rw [if_pos h]
  rw [hd]
  refine fin_eq _ _ _ (fun _ _ => ⟨rfl, by omega⟩) (fun hk => ?_)
  right
  simpa [hl] using hk
theorem two_eq (n b0 b1 b2 b3 : Nat) (h : 192 ≤ b0 ∧ b0 < 224) (h1 : 128 ≤ b1 ∧ b1 < 192) (hn : 2 ≤ n) : firstR (Lib.decodeN n b0 b1 b2 b3) = if canR (64 * (b0 - 192) + b1 - 128) = true ∧ lenR (64 * (b0 - 192) + b1 - 128) = 2 then (64 * (b0 - 192) + b1 - 128, 2) else (0, 0) := by
  have he : b0 % 32 * 64 + b1 % 64 = 64 * (b0 - 192) + b1 - 128 := by omega
  have hd : Lib.decodeN n b0 b1 b2 b3 = if 64 * (b0 - 192) + b1 - 128 ≥ 128 then (64 * (b0 - 192) + b1 - 128, 2) else (65533, 1) := by
    unfold Lib.decodeN; rw [if_neg (by omega), if_pos (by omega), he]
  rw [hd]
  obtain ⟨r, hr⟩ : ∃ r, 64 * (b0 - 192) + b1 - 128 = r := ⟨_, rfl⟩
  have hlt : r < 2048 := by omega
  rw [hr]
  have hl : lenR r = 2 ↔ 128 ≤ r := by unfold lenR; repeat' split
                                       all_goals omega
  refine fin_eq _ _ _ (fun h2 _ => ?_) (fun hk => ?_)
  · have h3 := hl.1 h2
    exact ⟨by rw [if_pos h3], by omega⟩
  · by_cases h3 : r ≥ 128
    · rw [if_pos h3]; right
      have := hl.2 h3
      simpa [this] using hk
    · rw [if_neg h3]; left; exact ⟨rfl, rfl⟩
theorem three_eq (n b0 b1 b2 b3 : Nat) (h : 224 ≤ b0 ∧ b0 < 240) (h1 : 128 ≤ b1 ∧ b1 < 192) (h2 : 128 ≤ b2 ∧ b2 < 192) (hn : 3 ≤ n) : firstR (Lib.decodeN n b0 b1 b2 b3) = if canR (64 * (64 * (b0 - 224) + b1 - 128) + b2 - 128) = true ∧ lenR (64 * (64 * (b0 - 224) + b1 - 128) + b2 - 128) = 3 then (64 * (64 * (b0 - 224) + b1 - 128) + b2 - 128, 3) else (0, 0) := by
  obtain ⟨r, hr⟩ : ∃ r, 64 * (64 * (b0 - 224) + b1 - 128) + b2 - 128 = r := ⟨_, rfl⟩
  have he : b0 % 16 * 4096 + b1 % 64 * 64 + b2 % 64 = r := by omega
  have hlt : r < 65536 := by omega
  have hd : Lib.decodeN n b0 b1 b2 b3 = if r ≥ 2048 ∧ (r < 55296 ∨ (57344 ≤ r ∧ r ≤ 1114111)) then (r, 3) else (65533, 1) := by
    unfold Lib.decodeN; rw [if_neg (by omega), if_neg (by omega), if_pos (by omega), he]
  rw [hd, hr]
  have hl : lenR r = 3 ↔ 2048 ≤ r := by unfold lenR; repeat' split
                                        all_goals omega
  refine fin_eq _ _ _ (fun h3 hc => ?_) (fun hk => ?_)
  · have h4 := hl.1 h3
    have h5 := (canR_iff r).1 hc
    exact ⟨by rw [if_pos (by omega)], by omega⟩
  · by_cases h3 : r ≥ 2048 ∧ (r < 55296 ∨ (57344 ≤ r ∧ r ≤ 1114111))
    · rw [if_pos h3]; right
      have := hl.2 h3.1
      simpa [this] using hk
    · rw [if_neg h3]; left; exact ⟨rfl, rfl⟩
theorem four_eq (n b0 b1 b2 b3 : Nat) (h : 240 ≤ b0 ∧ b0 < 248) (h1 : 128 ≤ b1 ∧ b1 < 192) (h2 : 128 ≤ b2 ∧ b2 < 192) (h3 : 128 ≤ b3 ∧ b3 < 192) (hn : 4 ≤ n) : firstR (Lib.decodeN n b0 b1 b2 b3) = if canR (64 * (64 * (64 * (b0 - 240) + b1 - 128) + b2 - 128) + b3 - 128) = true ∧ lenR (64 * (64 * (64 * (b0 - 240) + b1 - 128) + b2 - 128) + b3 - 128) = 4 then (64 * (64 * (64 * (b0 - 240) + b1 - 128) + b2 - 128) + b3 - 128, 4) else (0, 0) := by
  obtain ⟨r, hr⟩ : ∃ r, 64 * (64 * (64 * (b0 - 240) + b1 - 128) + b2 - 128) + b3 - 128 = r := ⟨_, rfl⟩
  have he : b0 % 8 * 262144 + b1 % 64 * 4096 + b2 % 64 * 64 + b3 % 64 = r := by omega
  have hd : Lib.decodeN n b0 b1 b2 b3 = if r ≥ 65536 ∧ (r < 55296 ∨ (57344 ≤ r ∧ r ≤ 1114111)) then (r, 4) else (65533, 1) := by
    unfold Lib.decodeN; rw [if_neg (by omega), if_neg (by omega), if_neg (by omega), if_pos (by omega), he]
  rw [hd, hr]
  have hl : lenR r = 4 ↔ 65536 ≤ r := by unfold lenR; repeat' split
                                         all_goals omega
  refine fin_eq _ _ _ (fun h3 hc => ?_) (fun hk => ?_)
  · have h4 := hl.1 h3
    have h5 := (canR_iff r).1 hc
    exact ⟨by rw [if_pos (by omega)], by omega⟩
  · by_cases h3 : r ≥ 65536 ∧ (r < 55296 ∨ (57344 ≤ r ∧ r ≤ 1114111))
    · rw [if_pos h3]; right
      have := hl.2 h3.1
      simpa [this] using hk
    · rw [if_neg h3]; left; exact ⟨rfl, rfl⟩
theorem bad_first {n b0 b1 b2 b3 : Nat} (h : Lib.decodeN n b0 b1 b2 b3 = (65533, 1)) : firstR (Lib.decodeN n b0 b1 b2 b3) = (0, 0) := by
  rw [h]; unfold firstR; rw [if_pos (Or.inl ⟨rfl, rfl⟩)]
theorem dec_at (s : ByteArray) (i : Nat) (hi : i < s.size) : firstR (Utf8.decode s i) = atR s i := by
  rw [Lib.decode_at]
  obtain ⟨b0, h0⟩ : ∃ b, (s.get! i).toNat = b := ⟨_, rfl⟩
  obtain ⟨b1, h1⟩ : ∃ b, (s.get! (i + 1)).toNat = b := ⟨_, rfl⟩
  obtain ⟨b2, h2⟩ : ∃ b, (s.get! (i + 2)).toNat = b := ⟨_, rfl⟩
  obtain ⟨b3, h3⟩ : ∃ b, (s.get! (i + 3)).toNat = b := ⟨_, rfl⟩
  have l0 : b0 < 256 := by rw [← h0]; exact (s.get! i).toNat_lt
  obtain ⟨n, hn⟩ : ∃ n, s.size - i = n := ⟨_, rfl⟩
  unfold atR
  rw [h0, h1, h2, h3, hn]
  by_cases c1 : b0 < 128
  · have hs : sizeR b0 = (1, b0) := by unfold sizeR; rw [if_pos c1]
    rw [hs, one_eq _ _ _ _ _ c1]
    have hz : ¬ (1 = 0 ∨ s.size < i + 1) := by omega
    simp only [contR, Nat.sub_self, if_neg hz]
  · by_cases c2 : 192 ≤ b0 ∧ b0 < 224
    · have hs : sizeR b0 = (2, b0 - 192) := by unfold sizeR; rw [if_neg c1, if_pos c2]
      rw [hs]
      simp only [contR, h1, show 2 - 1 = 0 + 1 from rfl]
      by_cases k : 2 ≤ n ∧ (128 ≤ b1 ∧ b1 < 192)
      · rw [if_neg (by omega), if_neg (by omega), two_eq _ _ _ _ _ c2 k.2 k.1]
      · rw [bad_first (by unfold Lib.decodeN; rw [if_neg (by omega), if_neg (by omega), if_neg (by omega), if_neg (by omega)])]
        by_cases k2 : s.size < i + 2
        · rw [if_pos (Or.inr k2)]
        · rw [if_neg (by omega), if_pos (by omega)]
    · by_cases c3 : 224 ≤ b0 ∧ b0 < 240
      · have hs : sizeR b0 = (3, b0 - 224) := by unfold sizeR; rw [if_neg c1, if_neg c2, if_pos c3]
        rw [hs]
        simp only [contR, h1, h2, show 3 - 1 = 0 + 1 + 1 from rfl]
        by_cases k : 3 ≤ n ∧ (128 ≤ b1 ∧ b1 < 192) ∧ (128 ≤ b2 ∧ b2 < 192)
        · rw [if_neg (by omega), if_neg (by omega), if_neg (by omega), three_eq _ _ _ _ _ c3 k.2.1 k.2.2 k.1]
        · rw [bad_first (by unfold Lib.decodeN; rw [if_neg (by omega), if_neg (by omega), if_neg (by omega), if_neg (by omega)])]
          by_cases k2 : s.size < i + 3
          · rw [if_pos (Or.inr k2)]
          · rw [if_neg (by omega)]
            by_cases k3 : b1 < 128 ∨ 192 ≤ b1
            · rw [if_pos k3]
            · rw [if_neg k3, if_pos (by omega)]
      · by_cases c4 : 240 ≤ b0 ∧ b0 < 248
        · have hs : sizeR b0 = (4, b0 - 240) := by unfold sizeR; rw [if_neg c1, if_neg c2, if_neg c3, if_pos c4]
          rw [hs]
          simp only [contR, h1, h2, h3, show 4 - 1 = 0 + 1 + 1 + 1 from rfl]
          by_cases k : 4 ≤ n ∧ (128 ≤ b1 ∧ b1 < 192) ∧ (128 ≤ b2 ∧ b2 < 192) ∧ (128 ≤ b3 ∧ b3 < 192)
          · rw [if_neg (by omega), if_neg (by omega), if_neg (by omega), if_neg (by omega), four_eq _ _ _ _ _ c4 k.2.1 k.2.2.1 k.2.2.2 k.1]
          · rw [bad_first (by unfold Lib.decodeN; rw [if_neg (by omega), if_neg (by omega), if_neg (by omega), if_neg (by omega)])]
            by_cases k2 : s.size < i + 4
            · rw [if_pos (Or.inr k2)]
            · rw [if_neg (by omega)]
              by_cases k3 : b1 < 128 ∨ 192 ≤ b1
              · rw [if_pos k3]
              · rw [if_neg k3]
                by_cases k4 : b2 < 128 ∨ 192 ≤ b2
                · rw [if_pos k4]
                · rw [if_neg k4, if_pos (by omega)]
        · have hs : sizeR b0 = (0, 0) := by unfold sizeR; rw [if_neg c1, if_neg c2, if_neg c3, if_neg c4]
          rw [hs, if_pos (Or.inl rfl), bad_first (by unfold Lib.decodeN; rw [if_neg (by omega), if_neg (by omega), if_neg (by omega), if_neg (by omega)])]
end Go.Proofs.YthbeeonmfbigcaaGreatDoor
/- A text: the program's text and the reference's Text. -/
namespace Go.Proofs.YthbeeonmfbigcaaGreatDoor
open Go.RowKit
def badF (s : ByteArray) : Nat → Nat → Nat × Nat
  | 0, _ => (0, 0)
  | f + 1, i => if s.size ≤ i then (0, 0) else if (atR s i).2 = 0 then (i, 7) else badF s f (i + (atR s i).2)
def textS (s : ByteArray) : Nat × Nat := if 16384 < s.size then (0, 2) else badF s (s.size + 1) 0
theorem atR_le (s : ByteArray) (i : Nat) : (atR s i).2 ≤ 4 := by
  have := (sizeR_lt (s.get! i).toNat).1
  unfold atR
  repeat' split
  all_goals simp only
  all_goals omega
set_option maxHeartbeats 4000000
set_option maxRecDepth 100000
theorem bad_calls (s : ByteArray) (hs : s.size ≤ 16384) (w : World) : Calls Tryz.prog 74 #[.string s] w fun e w' => e = .returned (.tuple #[.int .i64 (badF s (s.size + 1) 0).1, .int .i64 (badF s (s.size + 1) 0).2]) ∧ Below w.heap.size w w' := by
  go_enter Tryz.func74, Tryz.ntmps74
  go_wp2
  go_loopw [4] (fun v wr => ∃ (i f : Nat), s.size < i + f ∧ v = .int .i64 i ∧ i ≤ s.size + 4 ∧ Below w.heap.size w wr ∧ Hid (badF s (s.size + 1) 0 = badF s f i)) (fun v wr => s.size - (intOf v).toNat)
  case atStart => exact ⟨0, s.size + 1, by omega, rfl, by omega, Below.refl _ _, Lib.hid rfl⟩
  case round =>
    obtain ⟨i, f, hf, rfl, hi4, HB, HF⟩ := hrel
    by_cases hi : i < s.size
    · have hi0 : (i : Int) < s.size := by omega
      obtain ⟨f, rfl⟩ : ∃ g, f = g + 1 := ⟨f - 1, by omega⟩
      obtain ⟨n, hn⟩ : ∃ n, (atR s i).2 = n := ⟨_, rfl⟩
      obtain ⟨r, hr⟩ : ∃ r, (atR s i).1 = r := ⟨_, rfl⟩
      have hn4 := atR_le s i
      rw [hn] at hn4
      have hF : badF s (s.size + 1) 0 = if n = 0 then (i, 7) else badF s f (i + n) := by rw [HF.out, badF, if_neg (by omega), hn]
      have HF := Lib.hid hF
      have cA := at_calls s i hi (by omega)
      simp only [hn, hr] at cA
      have HI := Lib.hid (And.intro hf (And.intro hi4 (And.intro hi hn4)))
      clear hF hn hr hf hi4 hi hn4
      obtain ⟨wo, rfl⟩ : ∃ wo : World, wo = wr := ⟨_, rfl⟩
      by_cases hn0 : n = 0
      · subst hn0
        go_wp2_with (go_at_call 88; (with_reducible refine (cA _).mono ?_); rintro e w1 ⟨rfl, hb⟩; replace HB := bt1 HB hb; clear hb)
        go_ret2
        have hF0 : badF s (s.size + 1) 0 = (i, 7) := by rw [HF.out]; simp
        exact ⟨by rw [hF0]; rfl, HB⟩
      · have hn1 : ¬ (n : Int) = 0 := by omega
        have hn2 : ((n : Int) == 0) = false := by simpa using hn1
        go_wp2_with (go_at_call 88; (with_reducible refine (cA _).mono ?_); rintro e w1 ⟨rfl, hb⟩; replace HB := bt1 HB hb; clear hb)
        obtain ⟨hf, hi4, hi, hn4⟩ := HI.out
        refine ⟨⟨i + n, f, by omega, ?_, by omega, HB, Lib.hid (by rw [HF.out, if_neg hn0])⟩, ?_⟩
        · rw [IntWalk.wrap64_in _ (by omega)]; congr 1
        · rw [IntWalk.wrap64_in _ (by omega)]; simp only [intOf]; omega
    · have hi0 : ¬ (i : Int) < s.size := by omega
      have hF : badF s (s.size + 1) 0 = (0, 0) := by
        rw [HF.out]; cases f with
        | zero => rfl
        | succ f => rw [badF, if_pos (by omega)]
      clear HF
      go_wp2
      go_ret2
      exact ⟨rfl, HB⟩
theorem textR_calls (s : ByteArray) (w : World) : Calls Tryz.prog 50 #[.string s] w fun e w' => e = .returned (.tuple #[.int .i64 (textS s).1, .int .i64 (textS s).2]) ∧ Below w.heap.size w w' := by
  go_enter Tryz.func50, Tryz.ntmps50
  by_cases h : 16384 < s.size
  · have h0 : (16384 : Int) < s.size := by omega
    have hT : textS s = (0, 2) := by unfold textS; rw [if_pos h]
    go_wp2_with (go_at_call 74; fail)
    go_ret2
    exact ⟨by first | rfl | (rw [hT]; rfl), Below.refl _ _⟩
  · have h0 : ¬ (16384 : Int) < s.size := by omega
    have hT : textS s = badF s (s.size + 1) 0 := by unfold textS; rw [if_neg h]
    go_wp2_with (go_at_call 74; (with_reducible refine (bad_calls s (by omega) _).mono ?_); rintro e w1 ⟨rfl, hb⟩)
    go_ret2
    exact ⟨by first | rfl | (rw [hT]; rfl), hb⟩
theorem first_calls (s : ByteArray) (hs : 0 < s.size) (w : World) (hT : Tabs w) : Calls Tryz.prog 101 #[.string s] w fun e w' => e = .returned (.tuple #[.int .i64 (atR s 0).1, .int .i64 (atR s 0).2, .int .i64 (if (atR s 0).2 = 0 then 7 else 0)]) ∧ Below w.heap.size w w' := by
  have cD := decode_calls s w hT
  have hA := dec_at s 0 hs
  have hd : Lib.decodeGo s = Utf8.decode s 0 := by unfold Lib.decodeGo; rw [if_neg (by omega)]
  obtain ⟨r, hr⟩ : ∃ r, (Utf8.decode s 0).1 = r := ⟨_, rfl⟩
  obtain ⟨n, hn⟩ : ∃ n, (Utf8.decode s 0).2 = n := ⟨_, rfl⟩
  rw [hd, hr, hn] at cD
  have hrn : Utf8.decode s 0 = (r, n) := by rw [← hr, ← hn]
  rw [hrn] at hA
  have hn1 : 1 ≤ n ∧ r < 2147483648 := by
    rw [← hr, ← hn, Lib.decode_at]
    unfold Lib.decodeN
    repeat' split
    all_goals simp only
    all_goals omega
  have hn0 : ((n : Int) == 0) = false := by simp; omega
  have hr32 : IntKind.i64.wrap (r : Int) = r := IntWalk.i64_in _ (by omega)
  obtain ⟨hn1, hr1⟩ := hn1
  have hn2 : ¬ (n : Int) = 0 := by omega
  clear hd hr hn hrn
  by_cases hb : (r = 65533 ∧ n = 1)
  · obtain ⟨rfl, rfl⟩ := hb
    have h2 : atR s 0 = (0, 0) := by rw [← hA]; unfold firstR; rw [if_pos (Or.inl ⟨rfl, rfl⟩)]
    rw [h2]
    clear hA h2
    go_enter Tryz.func101, Tryz.ntmps101
    go_wp2_with (first
      | (go_at_call 103; (with_reducible refine (cD).mono ?_); rintro e w1 ⟨rfl, hb⟩)
      | (go_at_call 104; (with_reducible refine (can_calls 65533 _).mono ?_); rintro e w2 ⟨rfl, rfl⟩))
    all_goals go_ret3
    all_goals exact ⟨rfl, hb⟩
  · by_cases hc : canR r = true
    · have h2 : atR s 0 = (r, n) := by rw [← hA]; unfold firstR; rw [if_neg (by simp [hc]; omega)]
      rw [h2, if_neg (by simp only; omega)]
      clear hA h2
      by_cases hq : r = 65533
      · subst hq
        have hb1 : ((n : Int) == 1) = false := by
          rw [Bool.eq_false_iff]; intro h; simp at h; omega
        have hb2 : ¬ (n : Int) = 1 := by omega
        have cC : ∀ w, Calls Tryz.prog 104 #[.int .i64 65533] w fun e w' => e = .returned (.bool true) ∧ w' = w := fun w => (can_calls 65533 w).mono fun e w' h => by rw [hc] at h; exact h
        go_enter Tryz.func101, Tryz.ntmps101
        go_wp2_with (first
          | (go_at_call 103; (with_reducible refine (cD).mono ?_); rintro e w1 ⟨rfl, hb⟩)
          | (go_at_call 104; (with_reducible refine (cC _).mono ?_); rintro e w2 ⟨rfl, rfl⟩))
        all_goals go_ret3
        all_goals exact ⟨rfl, hb⟩
      · have hb1 : ((r : Int) == 65533) = false := by
          rw [Bool.eq_false_iff]; intro h; simp at h; omega
        have hb2 : ¬ (r : Int) = 65533 := by omega
        go_enter Tryz.func101, Tryz.ntmps101
        go_wp2_with (first
          | (go_at_call 103; (with_reducible refine (cD).mono ?_); rintro e w1 ⟨rfl, hb⟩)
          | (go_at_call 104; (with_reducible refine (can_calls r _).mono ?_); rintro e w2 ⟨rfl, rfl⟩))
        all_goals go_ret3
        all_goals exact ⟨rfl, hb⟩
    · have hc1 : canR r = false := by simpa using hc
      have h2 : atR s 0 = (0, 0) := by rw [← hA]; unfold firstR; rw [if_pos (Or.inr hc1)]
      rw [h2]
      clear hA h2
      have hb2 : ¬ (r : Int) = 65533 := by
        intro h
        have : r = 65533 := by omega
        subst this
        exact hc (by decide)
      have hb1 : ((r : Int) == 65533) = false := by
        rw [Bool.eq_false_iff]; intro h; simp at h; exact hb2 h
      go_enter Tryz.func101, Tryz.ntmps101
      go_wp2_with (first
        | (go_at_call 103; (with_reducible refine (cD).mono ?_); rintro e w1 ⟨rfl, hb⟩)
        | (go_at_call 104; (with_reducible refine (can_calls r _).mono ?_); rintro e w2 ⟨rfl, rfl⟩))
      all_goals go_ret3
      all_goals exact ⟨rfl, hb⟩
end Go.Proofs.YthbeeonmfbigcaaGreatDoor
/- The program's text. -/
namespace Go.Proofs.YthbeeonmfbigcaaGreatDoor
open Go.RowKit
theorem decGo_extract (s : ByteArray) (pos : Nat) (h : pos < s.size) : Lib.decodeGo (s.extract pos s.size) = Utf8.decode s pos := by
  have hx : (s.extract pos s.size).data.toList = s.data.toList.drop pos := by
    rw [Lib.extract_data, List.take_of_length_le (by rw [List.length_drop, ← Lib.size_eq]; omega)]
  have hsz : (s.extract pos s.size).size ≠ 0 := by rw [Lib.size_eq, hx, List.length_drop, ← Lib.size_eq]; omega
  unfold Lib.decodeGo
  rw [if_neg hsz, ← Lib.decodeL_drop s pos, ← hx]
  rfl
theorem atR_extract (s : ByteArray) (i : Nat) (hi : i < s.size) : atR (s.extract i s.size) 0 = atR s i := by
  have h := decGo_extract s i hi
  have hz : 0 < (s.extract i s.size).size := by simp; omega
  rw [← dec_at _ 0 hz, ← dec_at s i hi, ← h]
  unfold Lib.decodeGo
  rw [if_neg (by omega)]
theorem Tabs.keep {w w1 : World} (h : Tabs w) (hb : Below w.heap.size w w1) : Tabs w1 := ⟨fun c hc => kcell hb (h.1 c hc), fun i hi => ⟨kcell hb (h.2 i hi).1, kcell hb (h.2 i hi).2⟩⟩
set_option maxHeartbeats 4000000
set_option maxRecDepth 100000
theorem text_calls (s : ByteArray) (w : World) (hT : Tabs w) : Calls Tryz.prog 99 #[.string s] w fun e w' => e = .returned (.tuple #[.int .i64 (textS s).1, .int .i64 (textS s).2]) ∧ Below w.heap.size w w' := by
  by_cases h : 16384 < s.size
  · have h0 : (16384 : Int) < s.size := by omega
    have hX : textS s = (0, 2) := by unfold textS; rw [if_pos h]
    go_enter Tryz.func99, Tryz.ntmps99
    go_wp2_with (go_at_call 101; fail)
    go_ret2
    exact ⟨by first | rfl | (rw [hX]; rfl), Below.refl _ _⟩
  have hX : textS s = badF s (s.size + 1) 0 := by unfold textS; rw [if_neg h]
  have h0 : ¬ (16384 : Int) < s.size := by omega
  have HX := Lib.hid hX
  have HT := Lib.hid hT
  clear hX hT
  go_enter Tryz.func99, Tryz.ntmps99
  go_wp2
  go_loopw [4] (fun v wr => ∃ (i f : Nat), s.size < i + f ∧ v = .int .i64 i ∧ i ≤ s.size + 4 ∧ Below w.heap.size w wr ∧ Hid (badF s (s.size + 1) 0 = badF s f i)) (fun v wr => s.size - (intOf v).toNat)
  case atStart => exact ⟨0, s.size + 1, by omega, rfl, by omega, Below.refl _ _, Lib.hid rfl⟩
  case round =>
    obtain ⟨i, f, hf, rfl, hi4, HB, HF⟩ := hrel
    by_cases hi : i < s.size
    · have hi0 : (i : Int) < s.size := by omega
      obtain ⟨f, rfl⟩ : ∃ g, f = g + 1 := ⟨f - 1, by omega⟩
      obtain ⟨n, hn⟩ : ∃ n, (atR s i).2 = n := ⟨_, rfl⟩
      obtain ⟨r, hr⟩ : ∃ r, (atR s i).1 = r := ⟨_, rfl⟩
      have hn4 := atR_le s i
      rw [hn] at hn4
      have hF : textS s = if n = 0 then (i, 7) else badF s f (i + n) := by rw [HX.out, HF.out, badF, if_neg (by omega), hn]
      have HF2 : Hid (n ≠ 0 → badF s (s.size + 1) 0 = badF s f (i + n)) := Lib.hid (fun h => by rw [HF.out, badF, if_neg (by omega), hn, if_neg h])
      have HF := Lib.hid hF
      have cA := fun (w : World) (hT : Tabs w) => first_calls (s.extract i s.size) (by simp; omega) w hT
      rw [atR_extract s i hi] at cA
      simp only [hn, hr] at cA
      have HI := Lib.hid (And.intro hf (And.intro hi4 (And.intro hi hn4)))
      clear hF hn hr hf hi4 hi hn4
      obtain ⟨wo, rfl⟩ : ∃ wo : World, wo = wr := ⟨_, rfl⟩
      by_cases hn0 : n = 0
      · subst hn0
        go_wp2_with (go_at_call 101; (with_reducible refine (cA _ (HT.out.keep HB)).mono ?_); rintro e w1 ⟨rfl, hb⟩; replace HB := bt1 HB hb; clear hb)
        go_ret2
        have hF0 : textS s = (i, 7) := by rw [HF.out]; simp
        exact ⟨by rw [hF0]; rfl, HB⟩
      · have hn1 : ¬ (n : Int) = 0 := by omega
        have hn2 : ((n : Int) == 0) = false := by simpa using hn1
        simp only [if_neg hn0] at cA
        go_wp2_with (go_at_call 101; (with_reducible refine (cA _ (HT.out.keep HB)).mono ?_); rintro e w1 ⟨rfl, hb⟩; replace HB := bt1 HB hb; clear hb)
        obtain ⟨hf, hi4, hi, hn4⟩ := HI.out
        refine ⟨⟨i + n, f, by omega, ?_, by omega, HB, Lib.hid (HF2.out hn0)⟩, ?_⟩
        · rw [IntWalk.wrap64_in _ (by omega)]; congr 1
        · rw [IntWalk.wrap64_in _ (by omega)]; simp only [intOf]; omega
    · have hi0 : ¬ (i : Int) < s.size := by omega
      have hF : textS s = (0, 0) := by
        rw [HX.out, HF.out]; cases f with
        | zero => rfl
        | succ f => rw [badF, if_pos (by omega)]
      have HF := Lib.hid hF
      clear hF
      go_wp2
      go_ret2
      exact ⟨by rw [HF.out]; rfl, HB⟩
end Go.Proofs.YthbeeonmfbigcaaGreatDoor
set_option linter.unusedVariables false
set_option maxRecDepth 100000
namespace Go.Proofs.YthbeeonmfbigcaaGreatDoor
open Go.Vc
def F128 (d : Option Addr) (h_ : Int) (w_ : World) (R : Ending → World → Prop) : Prop :=
 Br (h_ == (0 : Int))
 (NonNil d fun p10 =>
 LdSl (w_.cell? (p10.add 1)) fun x12 x12N x12C =>
 Calls Tryz.prog 136 #[(.slice x12 x12N x12C), (.slice none 0 0)] w_ (post R fun v w1 =>
 ∃ (x13 : Option Addr) (x13N : Nat) (x13C : Nat), v = (.slice x13 x13N x13C) ∧
 R (.returned (.tuple #[(.slice x13 x13N x13C), (.int .i64 0)])) w1))
 (Calls Tryz.prog 53 #[(.pointer d), (.int .u64 h_)] w_ (post R fun v w1 =>
 ∃ (x16 : Option Addr), v = (.pointer x16) ∧
 Br (x16).isNone
 (R (.returned (.tuple #[(.slice none 0 0), (.int .i64 8)])) w1)
 (Al w1 #[(.pointer x16)] 111 fun g20 w1_2 =>
 Calls Tryz.prog 136 #[(.slice (some g20) 1 1), (.slice none 0 0)] w1_2 (post R fun v2 w1_3 =>
 ∃ (x21 : Option Addr) (x21N : Nat) (x21C : Nat), v2 = (.slice x21 x21N x21C) ∧
 R (.returned (.tuple #[(.slice x21 x21N x21C), (.int .i64 0)])) w1_3))))
theorem ok128 (d : Option Addr) (h_ : Int) {w : World} {R : Ending → World → Prop} (h : F128 d h_ w R) : Calls Tryz.prog 128 #[(.pointer d), (.int .u64 h_)] w R :=
  vc_calls (pl := ⟨22, ⟨[]⟩, [], []⟩) Tryz.func128 (by kernel_rfl) (by kernel_rfl) (by kernel_rfl) (Eq.mp (by kernel_rfl) h)
def F130 (d : Option Addr) (h_ : Int) (w_ : World) (R : Ending → World → Prop) : Prop :=
 Calls Tryz.prog 53 #[(.pointer d), (.int .u64 h_)] w_ (post R fun v w1 =>
 ∃ (x8 : Option Addr), v = (.pointer x8) ∧
 Br (x8).isNone
 (R (.returned (.int .i64 8)) w1)
 (Calls Tryz.prog 138 #[(.pointer d), (.pointer x8)] w1 (post R fun v2 w1_2 =>
 v2 = (.tuple #[]) ∧
 Calls Tryz.prog 139 #[(.pointer d), (.pointer x8)] w1_2 (post R fun v3 w1_3 =>
 v3 = (.tuple #[]) ∧
 R (.returned (.int .i64 0)) w1_3))))
theorem ok130 (d : Option Addr) (h_ : Int) {w : World} {R : Ending → World → Prop} (h : F130 d h_ w R) : Calls Tryz.prog 130 #[(.pointer d), (.int .u64 h_)] w R :=
  vc_calls (pl := ⟨17, ⟨[]⟩, [], []⟩) Tryz.func130 (by kernel_rfl) (by kernel_rfl) (by kernel_rfl) (Eq.mp (by kernel_rfl) h)
def F131 (d : Option Addr) (h_ : Int) (name : ByteArray) (w_ : World) (R : Ending → World → Prop) : Prop :=
 Calls Tryz.prog 140 #[(.pointer d), (.int .u64 h_), (.int .i64 1)] w_ (post R fun v w1 =>
 ∃ (x14_0 : Option Addr) (x14_1 : Int), v = (.tuple #[(.pointer x14_0), (.int .i64 x14_1)]) ∧
 Br (x14_1 != (0 : Int))
 (R (.returned (.int .i64 x14_1)) w1)
 (Calls Tryz.prog 141 #[(.pointer x14_0), (.string name)] w1 (post R fun v2 w1_2 =>
 ∃ (x23_0 : Int) (x23_1 : Bool), v2 = (.tuple #[(.int .i64 x23_0), (.bool x23_1)]) ∧
 Br (!x23_1)
 (R (.returned (.int .i64 35)) w1_2)
 (NonNil x14_0 fun p30 =>
 LdSl (w1_2.cell? (p30.add 5)) fun x32 x32N x32C =>
 InR .i64 (x23_0 + (1 : Int)) ∧ Calls Tryz.prog 142 #[(.slice x32 x32N x32C), (.int .i64 x23_0), (.int .i64 (x23_0 + (1 : Int)))] w1_2 (post R fun v3 w1_3 =>
 ∃ (x36 : Option Addr) (x36N : Nat) (x36C : Nat), v3 = (.slice x36 x36N x36C) ∧
 NonNil x14_0 fun p37 =>
 St w1_3 (p37.add 5) (.slice x36 x36N x36C) fun w1_4 =>
 R (.returned (.int .i64 0)) w1_4)))))
theorem ok131 (d : Option Addr) (h_ : Int) (name : ByteArray) {w : World} {R : Ending → World → Prop} (h : F131 d h_ name w R) : Calls Tryz.prog 131 #[(.pointer d), (.int .u64 h_), (.string name)] w R :=
  vc_calls (pl := ⟨39, ⟨[]⟩, [], []⟩) Tryz.func131 (by kernel_rfl) (by kernel_rfl) (by kernel_rfl) (Eq.mp (by kernel_rfl) h)
def F35_j10 (d : Option Addr) (where_ : Int) (g7 : Addr) (l : Addr) (x27 : Option Addr) (w_2 : World) (R : Ending → World → Prop) : Prop :=
 Calls Tryz.prog 58 #[(.pointer d), (.int .i64 where_), (.pointer x27)] w_2 (post R fun v4 w1_6 =>
 ∃ (x38_0 : Option Addr) (x38_1 : Int), v4 = (.tuple #[(.pointer x38_0), (.int .i64 x38_1)]) ∧
 Br (x38_1 != (0 : Int))
 (R (.returned (.tuple #[(.int .u64 0), (.int .i64 x38_1)])) w1_6)
 (∃ S : World → Prop, S w1_6.drew ∧ ∃ (x50 : Int), Held S (l.add 1) (.int .i64 x50) ∧ Calls Tryz.prog 54 #[(.pointer x38_0)] w1_6.drew (post R fun v5 w1_8 =>
 ∃ (x47 : Int), v5 = (.int .i64 x47) ∧
 S w1_8 ∧ InR .i64 (x47 + (1 : Int)) ∧ InR .i64 ((x47 + (1 : Int)) + x50) ∧ Br (decide (((x47 + (1 : Int)) + x50) > (64 : Int)))
 (R (.returned (.tuple #[(.int .u64 0), (.int .i64 32)])) w1_8)
 (Dr w1_8 fun w1_9 =>
 NonNil d fun p55 =>
 LdI .i64 (w1_9.cell? (p55.add 2)) fun x57 =>
 NonNil d fun p59 =>
 LdI .i64 (w1_9.cell? (p59.add 3)) fun x61 =>
 InR .i64 (x57 + x61) ∧ LdI .i64 (w1_9.cell? l) fun x64 =>
 InR .i64 ((x57 + x61) + x64) ∧ Br (decide (((x57 + x61) + x64) > (4096 : Int)))
 (R (.returned (.tuple #[(.int .u64 0), (.int .i64 33)])) w1_9)
 (LdI .i64 (w1_9.cell? g7) fun x68_0 =>
 LdStr (w1_9.cell? (g7.add 1)) fun x68_1 =>
 LdSl (w1_9.cell? (g7.add 2)) fun x68_2 x68_2N x68_2C =>
 LdStr (w1_9.cell? (g7.add 3)) fun x68_3 =>
 LdSl (w1_9.cell? (g7.add 4)) fun x68_4 x68_4N x68_4C =>
 Calls Tryz.prog 59 #[(.pointer d), (.agg #[(.int .i64 x68_0), (.string x68_1), (.slice x68_2 x68_2N x68_2C), (.string x68_3), (.slice x68_4 x68_4N x68_4C)]), (.pointer x38_0)] w1_9 (post R fun v6 w1_10 =>
 ∃ (x70 : Option Addr), v6 = (.pointer x70) ∧
 Calls Tryz.prog 60 #[(.pointer d), (.pointer x70), (.pointer x38_0), (.int .i64 where_), (.pointer x27)] w1_10 (post R fun v7 w1_11 =>
 v7 = (.tuple #[]) ∧
 Calls Tryz.prog 61 #[(.pointer x70)] w1_11 (post R fun v8 w1_12 =>
 ∃ (x78 : Int), v8 = (.int .u64 x78) ∧
 R (.returned (.tuple #[(.int .u64 x78), (.int .i64 0)])) w1_12))))))))
def F35 (d : Option Addr) (where_ : Int) (at_ : Int) (x_0 : Int) (x_1 : ByteArray) (x_2 : Option Addr) (x_2N : Nat) (x_2C : Nat) (x_3 : ByteArray) (x_4 : Option Addr) (x_4N : Nat) (x_4C : Nat) (w_ : World) (R : Ending → World → Prop) : Prop :=
 Al w_ #[(.int .i64 x_0), (.string x_1), (.slice x_2 x_2N x_2C), (.string x_3), (.slice x_4 x_4N x_4C)] 45 fun g7 w1 =>
 Calls Tryz.prog 56 #[(.int .i64 where_), (.int .u64 at_)] w1 (post R fun v w1_2 =>
 ∃ (x18 : Bool), v = (.bool x18) ∧
 Br (!x18)
 (R (.returned (.tuple #[(.int .u64 0), (.int .i64 1)])) w1_2)
 (Al w1_2 #[(.int .i64 0), (.int .i64 0)] 117 fun l w1_3 =>
 LdI .i64 (w1_3.cell? g7) fun x20_0 =>
 LdStr (w1_3.cell? (g7.add 1)) fun x20_1 =>
 LdSl (w1_3.cell? (g7.add 2)) fun x20_2 x20_2N x20_2C =>
 LdStr (w1_3.cell? (g7.add 3)) fun x20_3 =>
 LdSl (w1_3.cell? (g7.add 4)) fun x20_4 x20_4N x20_4C =>
 Calls Tryz.prog 57 #[(.pointer (some l)), (.agg #[(.int .i64 x20_0), (.string x20_1), (.slice x20_2 x20_2N x20_2C), (.string x20_3), (.slice x20_4 x20_4N x20_4C)]), (.int .i64 1)] w1_3 (post R fun v2 w1_4 =>
 ∃ (x21 : Int), v2 = (.int .i64 x21) ∧
 Br (x21 != (0 : Int))
 (R (.returned (.tuple #[(.int .u64 0), (.int .i64 x21)])) w1_4)
 (Calls Tryz.prog 53 #[(.pointer d), (.int .u64 at_)] w1_4 (post R fun v3 w1_5 =>
 ∃ (x27 : Option Addr), v3 = (.pointer x27) ∧
 ∃ J10 : World → Prop, (∀  (w1_6 : World), J10 w1_6 → F35_j10 d where_ g7 l x27 w1_6 R) ∧
 (Br (at_ != (0 : Int))
 (Br (x27).isNone
 (R (.returned (.tuple #[(.int .u64 0), (.int .i64 8)])) w1_5)
 (J10 w1_5))
 (J10 w1_5)))))))
theorem ok35 (d : Option Addr) (where_ : Int) (at_ : Int) (x_0 : Int) (x_1 : ByteArray) (x_2 : Option Addr) (x_2N : Nat) (x_2C : Nat) (x_3 : ByteArray) (x_4 : Option Addr) (x_4N : Nat) (x_4C : Nat) {w : World} {R : Ending → World → Prop} (h : F35 d where_ at_ x_0 x_1 x_2 x_2N x_2C x_3 x_4 x_4N x_4C w R) : Calls Tryz.prog 35 #[(.pointer d), (.int .i64 where_), (.int .u64 at_), (.agg #[(.int .i64 x_0), (.string x_1), (.slice x_2 x_2N x_2C), (.string x_3), (.slice x_4 x_4N x_4C)])] w R :=
  vc_calls (pl := ⟨79, ⟨[]⟩, [(10, ⟨[], [(8, 10), (28, 34)]⟩)], []⟩) Tryz.func35 (by kernel_rfl) (by kernel_rfl) (by kernel_rfl) (Eq.mp (by kernel_rfl) h)
def F63 (d : Option Addr) (h_ : Int) (w_ : World) (R : Ending → World → Prop) : Prop :=
 Calls Tryz.prog 53 #[(.pointer d), (.int .u64 h_)] w_ (post R fun v w1 =>
 ∃ (x9 : Option Addr), v = (.pointer x9) ∧
 Br (x9).isNone
 (R (.returned (.tuple #[(.slice none 0 0), (.int .i64 8)])) w1)
 (NonNil x9 fun p13 =>
 LdSl (w1.cell? (p13.add 8)) fun x15 x15N x15C =>
 Calls Tryz.prog 86 #[(.slice x15 x15N x15C)] w1 (post R fun v2 w1_2 =>
 ∃ (x16 : Option Addr) (x16N : Nat) (x16C : Nat), v2 = (.slice x16 x16N x16C) ∧
 R (.returned (.tuple #[(.slice x16 x16N x16C), (.int .i64 0)])) w1_2)))
theorem ok63 (d : Option Addr) (h_ : Int) {w : World} {R : Ending → World → Prop} (h : F63 d h_ w R) : Calls Tryz.prog 63 #[(.pointer d), (.int .u64 h_)] w R :=
  vc_calls (pl := ⟨17, ⟨[]⟩, [], []⟩) Tryz.func63 (by kernel_rfl) (by kernel_rfl) (by kernel_rfl) (Eq.mp (by kernel_rfl) h)
def F32 (d : Option Addr) (h_ : Int) (w_ : World) (R : Ending → World → Prop) : Prop :=
 Calls Tryz.prog 53 #[(.pointer d), (.int .u64 h_)] w_ (post R fun v w1 =>
 ∃ (x9 : Option Addr), v = (.pointer x9) ∧
 Br (x9).isNone
 (R (.returned (.tuple #[(.int .i64 0), (.int .i64 8)])) w1)
 (Calls Tryz.prog 54 #[(.pointer x9)] w1 (post R fun v2 w1_2 =>
 ∃ (x13 : Int), v2 = (.int .i64 x13) ∧
 R (.returned (.tuple #[(.int .i64 x13), (.int .i64 0)])) w1_2)))
theorem ok32 (d : Option Addr) (h_ : Int) {w : World} {R : Ending → World → Prop} (h : F32 d h_ w R) : Calls Tryz.prog 32 #[(.pointer d), (.int .u64 h_)] w R :=
  vc_calls (pl := ⟨14, ⟨[]⟩, [], []⟩) Tryz.func32 (by kernel_rfl) (by kernel_rfl) (by kernel_rfl) (Eq.mp (by kernel_rfl) h)
def F132_j8 (d : Option Addr) (where_ : Int) (x19 : Option Addr) (x22 : Option Addr) (w_2 : World) (R : Ending → World → Prop) : Prop :=
 Calls Tryz.prog 58 #[(.pointer d), (.int .i64 where_), (.pointer x22)] w_2 (post R fun v4 w1_4 =>
 ∃ (x46_0 : Option Addr) (x46_1 : Int), v4 = (.tuple #[(.pointer x46_0), (.int .i64 x46_1)]) ∧
 Br (x46_1 != (0 : Int))
 (R (.returned (.int .i64 x46_1)) w1_4)
 (Calls Tryz.prog 54 #[(.pointer x46_0)] w1_4 (post R fun v5 w1_5 =>
 ∃ (x55 : Int), v5 = (.int .i64 x55) ∧
 InR .i64 (x55 + (1 : Int)) ∧ Calls Tryz.prog 144 #[(.pointer x19)] w1_5 (post R fun v6 w1_6 =>
 ∃ (x58 : Int), v6 = (.int .i64 x58) ∧
 InR .i64 ((x55 + (1 : Int)) + x58) ∧ Br (decide (((x55 + (1 : Int)) + x58) > (64 : Int)))
 (R (.returned (.int .i64 32)) w1_6)
 (Calls Tryz.prog 138 #[(.pointer d), (.pointer x19)] w1_6 (post R fun v7 w1_7 =>
 v7 = (.tuple #[]) ∧
 Calls Tryz.prog 60 #[(.pointer d), (.pointer x19), (.pointer x46_0), (.int .i64 where_), (.pointer x22)] w1_7 (post R fun v8 w1_8 =>
 v8 = (.tuple #[]) ∧
 R (.returned (.int .i64 0)) w1_8)))))))
def F132 (d : Option Addr) (h_ : Int) (where_ : Int) (at_ : Int) (w_ : World) (R : Ending → World → Prop) : Prop :=
 Calls Tryz.prog 56 #[(.int .i64 where_), (.int .u64 at_)] w_ (post R fun v w1 =>
 ∃ (x15 : Bool), v = (.bool x15) ∧
 Br (!x15)
 (R (.returned (.int .i64 1)) w1)
 (Calls Tryz.prog 53 #[(.pointer d), (.int .u64 h_)] w1 (post R fun v2 w1_2 =>
 ∃ (x19 : Option Addr), v2 = (.pointer x19) ∧
 Calls Tryz.prog 53 #[(.pointer d), (.int .u64 at_)] w1_2 (post R fun v3 w1_3 =>
 ∃ (x22 : Option Addr), v3 = (.pointer x22) ∧
 ∃ J8 : World → Prop, (∀  (w1_4 : World), J8 w1_4 → F132_j8 d where_ x19 x22 w1_4 R) ∧
 (Br (x19).isNone
 (R (.returned (.int .i64 8)) w1_3)
 (Br (at_ != (0 : Int))
 (Br (x22).isNone
 (R (.returned (.int .i64 8)) w1_3)
 (Br (!(x22).isNone)
 (Calls Tryz.prog 143 #[(.pointer x22), (.pointer x19)] w1_3 (post R fun v4 w1_4 =>
 ∃ (x40 : Bool), v4 = (.bool x40) ∧
 Br x40
 (R (.returned (.int .i64 34)) w1_4)
 (J8 w1_4)))
 (J8 w1_3)))
 (Br (!(x22).isNone)
 (Calls Tryz.prog 143 #[(.pointer x22), (.pointer x19)] w1_3 (post R fun v4 w1_4 =>
 ∃ (x40 : Bool), v4 = (.bool x40) ∧
 Br x40
 (R (.returned (.int .i64 34)) w1_4)
 (J8 w1_4)))
 (J8 w1_3))))))))
theorem ok132 (d : Option Addr) (h_ : Int) (where_ : Int) (at_ : Int) {w : World} {R : Ending → World → Prop} (h : F132 d h_ where_ at_ w R) : Calls Tryz.prog 132 #[(.pointer d), (.int .u64 h_), (.int .i64 where_), (.int .u64 at_)] w R :=
  vc_calls (pl := ⟨70, ⟨[]⟩, [(8, ⟨[], [(8, 9), (23, 42)]⟩)], []⟩) Tryz.func132 (by kernel_rfl) (by kernel_rfl) (by kernel_rfl) (Eq.mp (by kernel_rfl) h)
def F64 (d : Option Addr) (h_ : Int) (w_ : World) (R : Ending → World → Prop) : Prop :=
 Calls Tryz.prog 53 #[(.pointer d), (.int .u64 h_)] w_ (post R fun v w1 =>
 ∃ (x9 : Option Addr), v = (.pointer x9) ∧
 Br (x9).isNone
 (R (.returned (.tuple #[(.int .u64 0), (.int .i64 8)])) w1)
 (NonNil x9 fun p13 =>
 LdP (w1.cell? (p13.add 7)) fun x15 =>
 Calls Tryz.prog 61 #[(.pointer x15)] w1 (post R fun v2 w1_2 =>
 ∃ (x16 : Int), v2 = (.int .u64 x16) ∧
 R (.returned (.tuple #[(.int .u64 x16), (.int .i64 0)])) w1_2)))
theorem ok64 (d : Option Addr) (h_ : Int) {w : World} {R : Ending → World → Prop} (h : F64 d h_ w R) : Calls Tryz.prog 64 #[(.pointer d), (.int .u64 h_)] w R :=
  vc_calls (pl := ⟨17, ⟨[]⟩, [], []⟩) Tryz.func64 (by kernel_rfl) (by kernel_rfl) (by kernel_rfl) (Eq.mp (by kernel_rfl) h)
def F65 (d : Option Addr) (w_ : World) (R : Ending → World → Prop) : Prop :=
 NonNil d fun p4 =>
 LdSl (w_.cell? (p4.add 1)) fun x6 x6N x6C =>
 Calls Tryz.prog 86 #[(.slice x6 x6N x6C)] w_ (post R fun v w1 =>
 ∃ (x7 : Option Addr) (x7N : Nat) (x7C : Nat), v = (.slice x7 x7N x7C) ∧
 R (.returned (.slice x7 x7N x7C)) w1)
theorem ok65 (d : Option Addr) {w : World} {R : Ending → World → Prop} (h : F65 d w R) : Calls Tryz.prog 65 #[(.pointer d)] w R :=
  vc_calls (pl := ⟨8, ⟨[]⟩, [], []⟩) Tryz.func65 (by kernel_rfl) (by kernel_rfl) (by kernel_rfl) (Eq.mp (by kernel_rfl) h)
def F133_j15  (w_2 : World) (R : Ending → World → Prop) : Prop :=
 R (.returned (.int .i64 0)) w_2
def F133 (d : Option Addr) (h_ : Int) (name : ByteArray) (value : ByteArray) (w_ : World) (R : Ending → World → Prop) : Prop :=
 Calls Tryz.prog 140 #[(.pointer d), (.int .u64 h_), (.int .i64 1)] w_ (post R fun v w1 =>
 ∃ (x18_0 : Option Addr) (x18_1 : Int), v = (.tuple #[(.pointer x18_0), (.int .i64 x18_1)]) ∧
 Br (x18_1 != (0 : Int))
 (R (.returned (.int .i64 x18_1)) w1)
 (Calls Tryz.prog 89 #[(.string name)] w1 (post R fun v2 w1_2 =>
 ∃ (x27 : Bool), v2 = (.bool x27) ∧
 Br (!x27)
 (R (.returned (.int .i64 6)) w1_2)
 (Calls Tryz.prog 91 #[(.string value)] w1_2 (post R fun v3 w1_3 =>
 ∃ (x31_0 : Int) (x31_1 : Int), v3 = (.tuple #[(.int .i64 x31_0), (.int .i64 x31_1)]) ∧
 Br (x31_1 != (0 : Int))
 (R (.returned (.int .i64 x31_1)) w1_3)
 (Calls Tryz.prog 141 #[(.pointer x18_0), (.string name)] w1_3 (post R fun v4 w1_4 =>
 ∃ (x40_0 : Int) (x40_1 : Bool), v4 = (.tuple #[(.int .i64 x40_0), (.bool x40_1)]) ∧
 ∃ J15 : World → Prop, (∀  (w1_5 : World), J15 w1_5 → F133_j15 w1_5 R) ∧
 (Br x40_1
 (NonNil x18_0 fun p59 =>
 LdSl (w1_4.cell? (p59.add 5)) fun x61 x61N x61C =>
 IdxA x61 x61N x40_0 2 fun q64 =>
 St w1_4 (q64.add 1) (.string value) fun w1_5 =>
 J15 w1_5)
 (NonNil x18_0 fun p68 =>
 LdSl (w1_4.cell? (p68.add 5)) fun x70 x70N x70C =>
 Br (decide (((x70N : Nat) : Int) ≥ (32 : Int)))
 (R (.returned (.int .i64 2)) w1_4)
 (NonNil x18_0 fun p45 =>
 LdSl (w1_4.cell? (p45.add 5)) fun x47 x47N x47C =>
 Al w1_4 #[(.string name), (.string value)] 96 fun g52 w1_5 =>
 Calls Tryz.prog 145 #[(.slice x47 x47N x47C), (.int .i64 x40_0), (.slice (some g52) 1 1)] w1_5 (post R fun v5 w1_6 =>
 ∃ (x53 : Option Addr) (x53N : Nat) (x53C : Nat), v5 = (.slice x53 x53N x53C) ∧
 NonNil x18_0 fun p54 =>
 St w1_6 (p54.add 5) (.slice x53 x53N x53C) fun w1_7 =>
 J15 w1_7)))))))))))
theorem ok133 (d : Option Addr) (h_ : Int) (name : ByteArray) (value : ByteArray) {w : World} {R : Ending → World → Prop} (h : F133 d h_ name value w R) : Calls Tryz.prog 133 #[(.pointer d), (.int .u64 h_), (.string name), (.string value)] w R :=
  vc_calls (pl := ⟨73, ⟨[]⟩, [(15, ⟨[], [(8, 73)]⟩)], []⟩) Tryz.func133 (by kernel_rfl) (by kernel_rfl) (by kernel_rfl) (Eq.mp (by kernel_rfl) h)
def F134 (d : Option Addr) (h_ : Int) (name : ByteArray) (w_ : World) (R : Ending → World → Prop) : Prop :=
 Calls Tryz.prog 140 #[(.pointer d), (.int .u64 h_), (.int .i64 1)] w_ (post R fun v w1 =>
 ∃ (x12_0 : Option Addr) (x12_1 : Int), v = (.tuple #[(.pointer x12_0), (.int .i64 x12_1)]) ∧
 Br (x12_1 != (0 : Int))
 (R (.returned (.int .i64 x12_1)) w1)
 (Calls Tryz.prog 89 #[(.string name)] w1 (post R fun v2 w1_2 =>
 ∃ (x21 : Bool), v2 = (.bool x21) ∧
 Br (!x21)
 (R (.returned (.int .i64 6)) w1_2)
 (NonNil x12_0 fun p25 =>
 St w1_2 (p25.add 4) (.string name) fun w1_3 =>
 R (.returned (.int .i64 0)) w1_3))))
theorem ok134 (d : Option Addr) (h_ : Int) (name : ByteArray) {w : World} {R : Ending → World → Prop} (h : F134 d h_ name w R) : Calls Tryz.prog 134 #[(.pointer d), (.int .u64 h_), (.string name)] w R :=
  vc_calls (pl := ⟨27, ⟨[]⟩, [], []⟩) Tryz.func134 (by kernel_rfl) (by kernel_rfl) (by kernel_rfl) (Eq.mp (by kernel_rfl) h)
def F135 (d : Option Addr) (h_ : Int) (text : ByteArray) (w_ : World) (R : Ending → World → Prop) : Prop :=
 Calls Tryz.prog 140 #[(.pointer d), (.int .u64 h_), (.int .i64 2)] w_ (post R fun v w1 =>
 ∃ (x14_0 : Option Addr) (x14_1 : Int), v = (.tuple #[(.pointer x14_0), (.int .i64 x14_1)]) ∧
 Br (x14_1 != (0 : Int))
 (R (.returned (.int .i64 x14_1)) w1)
 (Calls Tryz.prog 91 #[(.string text)] w1 (post R fun v2 w1_2 =>
 ∃ (x22_0 : Int) (x22_1 : Int), v2 = (.tuple #[(.int .i64 x22_0), (.int .i64 x22_1)]) ∧
 Br (x22_1 != (0 : Int))
 (R (.returned (.int .i64 x22_1)) w1_2)
 (NonNil x14_0 fun p30 =>
 St w1_2 (p30.add 6) (.string text) fun w1_3 =>
 R (.returned (.int .i64 0)) w1_3))))
theorem ok135 (d : Option Addr) (h_ : Int) (text : ByteArray) {w : World} {R : Ending → World → Prop} (h : F135 d h_ text w R) : Calls Tryz.prog 135 #[(.pointer d), (.int .u64 h_), (.string text)] w R :=
  vc_calls (pl := ⟨32, ⟨[]⟩, [], []⟩) Tryz.func135 (by kernel_rfl) (by kernel_rfl) (by kernel_rfl) (Eq.mp (by kernel_rfl) h)
def F53_j7 (x28 : Option Addr) (w_3 : World) (R : Ending → World → Prop) : Prop :=
 R (.returned (.pointer x28)) w_3
def F53_j4 (d : Option Addr) (h_ : Int) (w_2 : World) (R : Ending → World → Prop) : Prop :=
 NonNil d fun p22 =>
 LdSl (w_2.cell? p22) fun x24 x24N x24C =>
 InR .u64 ((bAnd .u64 h_ (4294967295 : Int)) - (1 : Int)) ∧ IdxA x24 x24N ((bAnd .u64 h_ (4294967295 : Int)) - (1 : Int)) 1 fun q27 =>
 LdP (w_2.cell? q27) fun x28 =>
 ∃ J7 : World → Prop, (∀  (w1 : World), J7 w1 → F53_j7 x28 w1 R) ∧
 (NonNil x28 fun p30 =>
 LdB (w_2.cell? (p30.add 2)) fun x32 =>
 Br (!x32)
 (R (.returned (.pointer none)) w_2)
 (Calls Tryz.prog 61 #[(.pointer x28)] w_2 (post R fun v w1 =>
 ∃ (x36 : Int), v = (.int .u64 x36) ∧
 Br (x36 != h_)
 (R (.returned (.pointer none)) w1)
 (J7 w1))))
def F53 (d : Option Addr) (h_ : Int) (w_ : World) (R : Ending → World → Prop) : Prop :=
 ∃ J4 : World → Prop, (∀  (w1 : World), J4 w1 → F53_j4 d h_ w1 R) ∧
 (Br ((bAnd .u64 h_ (4294967295 : Int)) == (0 : Int))
 (R (.returned (.pointer none)) w_)
 (NonNil d fun p14 =>
 LdSl (w_.cell? p14) fun x16 x16N x16C =>
 InR .u64 (((x16N : Nat) : Int)) ∧ Br (decide ((bAnd .u64 h_ (4294967295 : Int)) > (((x16N : Nat) : Int))))
 (R (.returned (.pointer none)) w_)
 (J4 w_)))
theorem ok53 (d : Option Addr) (h_ : Int) {w : World} {R : Ending → World → Prop} (h : F53 d h_ w R) : Calls Tryz.prog 53 #[(.pointer d), (.int .u64 h_)] w R :=
  vc_calls (pl := ⟨41, ⟨[]⟩, [(7, ⟨[], [(4, 5), (29, 40)]⟩), (4, ⟨[], [(4, 5), (9, 21)]⟩)], []⟩) Tryz.func53 (by kernel_rfl) (by kernel_rfl) (by kernel_rfl) (Eq.mp (by kernel_rfl) h)
def F77_j5 (d : Option Addr) (w_3 : World) (R : Ending → World → Prop) : Prop :=
 Dr w_3 fun w1 =>
 NonNil d fun p80 =>
 LdSl (w1.cell? p80) fun x82 x82N x82C =>
 NonNil d fun p84 =>
 LdI .i64 (w1.cell? (p84.add 4)) fun x86 =>
 IdxA x82 x82N x86 1 fun q87 =>
 LdP (w1.cell? q87) fun x88 =>
 NonNil x88 fun p90 =>
 LdI .u32 (w1.cell? (p90.add 1)) fun x92 =>
 InR .u32 (x92 + (1 : Int)) ∧ NonNil x88 fun p94 =>
 St w1 (p94.add 1) (.int .u32 (x92 + (1 : Int))) fun w1_2 =>
 NonNil x88 fun p97 =>
 St w1_2 (p97.add 2) (.bool true) fun w1_3 =>
 NonNil d fun p100 =>
 LdI .i64 (w1_3.cell? (p100.add 2)) fun x102 =>
 InR .i64 (x102 + (1 : Int)) ∧ NonNil d fun p104 =>
 St w1_3 (p104.add 2) (.int .i64 (x102 + (1 : Int))) fun w1_4 =>
 R (.returned (.pointer x88)) w1_4
def F77_j3 (d : Option Addr) (w_2 : World) (R : Ending → World → Prop) : Prop :=
 ∃ J5 : World → Prop, (∀  (w1 : World), J5 w1 → F77_j5 d w1 R) ∧
 (Dr w_2 fun w1 =>
 NonNil d fun p53 =>
 LdI .i64 (w1.cell? (p53.add 4)) fun x55 =>
 NonNil d fun p57 =>
 LdSl (w1.cell? p57) fun x59 x59N x59C =>
 Br (x55 == ((x59N : Nat) : Int))
 (∃ S : World → Prop, S w1.drew ∧ NonNil d fun p64 =>
 ∃ (x66 : Option Addr) (x66N : Nat) (x66C : Nat), Held S p64 (.slice x66 x66N x66C) ∧ NonNil d fun p68 =>
 ∃ (x70 : Int), Held S (p68.add 4) (.int .i64 x70) ∧ InR .i64 (x70 + (1 : Int)) ∧ InR .u32 ((x70 + (1 : Int))) ∧ Al w1.drew #[(.int .u32 ((x70 + (1 : Int)))), (.int .u32 0), (.bool false), (.int .i64 0), (.string (ByteArray.mk #[])), (.slice none 0 0), (.string (ByteArray.mk #[])), (.pointer none), (.slice none 0 0)] 134 fun g74 w1_3 =>
 S w1_3 ∧ Al w1_3 #[(.pointer (some g74))] 111 fun g75 w1_4 =>
 S w1_4 ∧ Raw Tryz.prog (Builtin.append_ #[24, 24] 24 #[(.slice x66 x66N x66C), (.slice (some g75) 1 1)]) w1_4 fun v w1_5 =>
 ∃ (x76 : Option Addr) (x76N : Nat) (x76C : Nat), v = (.slice x76 x76N x76C) ∧
 NonNil d fun p77 =>
 St w1_5 p77 (.slice x76 x76N x76C) fun w1_6 =>
 J5 w1_6)
 (J5 w1))
def F77_j2 (d : Option Addr) (L1 : World → Prop) (w_3 : World) (R : Ending → World → Prop) : Prop :=
 NonNil d fun p46 =>
 LdI .i64 (w_3.cell? (p46.add 4)) fun x48 =>
 InR .i64 (x48 + (1 : Int)) ∧ NonNil d fun p50 =>
 St w_3 (p50.add 4) (.int .i64 (x48 + (1 : Int))) fun w1 =>
 L1 w1
def F77_l1 (d : Option Addr) (J3 : World → Prop) (L1 : World → Prop) (w_2 : World) (R : Ending → World → Prop) : Prop :=
 ∃ J2 : World → Prop, (∀  (w1 : World), J2 w1 → F77_j2 d L1 w1 R) ∧
 (Dr w_2 fun w1 =>
 NonNil d fun p5 =>
 LdI .i64 (w1.cell? (p5.add 4)) fun x7 =>
 NonNil d fun p9 =>
 LdSl (w1.cell? p9) fun x11 x11N x11C =>
 Br (decide (x7 < ((x11N : Nat) : Int)))
 (NonNil d fun p16 =>
 LdSl (w1.cell? p16) fun x18 x18N x18C =>
 NonNil d fun p20 =>
 LdI .i64 (w1.cell? (p20.add 4)) fun x22 =>
 IdxA x18 x18N x22 1 fun q23 =>
 LdP (w1.cell? q23) fun x24 =>
 NonNil x24 fun p25 =>
 LdB (w1.cell? (p25.add 2)) fun x27 =>
 Br x27
 (J2 w1)
 (NonNil d fun p30 =>
 LdSl (w1.cell? p30) fun x32 x32N x32C =>
 NonNil d fun p34 =>
 LdI .i64 (w1.cell? (p34.add 4)) fun x36 =>
 IdxA x32 x32N x36 1 fun q37 =>
 LdP (w1.cell? q37) fun x38 =>
 NonNil x38 fun p39 =>
 LdI .u32 (w1.cell? (p39.add 1)) fun x41 =>
 Br (x41 == (4294967295 : Int))
 (J2 w1)
 (J3 w1)))
 (J3 w1))
def F77 (d : Option Addr) (w_ : World) (R : Ending → World → Prop) : Prop :=
 ∃ J3 : World → Prop, (∀  (w1 : World), J3 w1 → F77_j3 d w1 R) ∧
 (∃ (I : World → Prop) (m : World → Nat), I  w_ ∧
 ∀  (w1 : World), I  w1 → F77_l1 d J3 (fun  w2 => I  w2 ∧ m  w2 < m  w1)  w1 R)
theorem ok77 (d : Option Addr) {w : World} {R : Ending → World → Prop} (h : F77 d w R) : Calls Tryz.prog 77 #[(.pointer d)] w R :=
  vc_calls (pl := ⟨107, ⟨[]⟩, [(2, ⟨[], [(4, 45)]⟩), (5, ⟨[], [(52, 79)]⟩), (3, ⟨[], [(4, 52)]⟩)], [(1, ⟨[], [(4, 52)]⟩)]⟩) Tryz.func77 (by kernel_rfl) (by kernel_rfl) (by kernel_rfl) (Eq.mp (by kernel_rfl) h)
def F139_j9 (d : Option Addr) (n : Option Addr) (w_3 : World) (R : Ending → World → Prop) : Prop :=
 ∃ S2 : World → Prop, S2 w_3.drew ∧ NonNil d fun p51 =>
 ∃ (x53 : Int), Held S2 (p51.add 4) (.int .i64 x53) ∧ NonNil n fun p55 =>
 ∃ (x57 : Int), Held S2 p55 (.int .u32 x57) ∧ InR .i64 (x57) ∧ InR .i64 ((x57) - (1 : Int)) ∧ NonNil d fun p61 =>
 St w_3.drew (p61.add 4) (.int .i64 (if ((x57) - (1 : Int)) < x53 then ((x57) - (1 : Int)) else x53)) fun w1_13 =>
 R (.returned (.tuple #[])) w1_13
def F139_l1 (d : Option Addr) (n : Option Addr) (x9 : Option Addr) (x9N : Nat) (L1 : Int → World → Prop) (x11 : Int) (w_2 : World) (R : Ending → World → Prop) : Prop :=
 Br (decide (x11 < ((x9N : Nat) : Int)))
 (IdxA x9 x9N x11 1 fun q13 =>
 LdP (w_2.cell? q13) fun x14 =>
 Calls Tryz.prog 139 #[(.pointer d), (.pointer x14)] w_2 (post R fun v w1 =>
 v = (.tuple #[]) ∧
 InR .i64 (x11 + (1 : Int)) ∧ L1 (x11 + (1 : Int)) w1))
 (∃ S : World → Prop, S w_2.drew ∧ NonNil n fun p21 =>
 ∃ (x23 : Int), Held S p21 (.int .u32 x23) ∧ NonNil n fun p25 =>
 ∃ (x27 : Int), Held S (p25.add 1) (.int .u32 x27) ∧ NonNil n fun p29 =>
 St w_2.drew p29 (.int .u32 x23) fun w1_2 =>
 St w1_2 (p29.add 1) (.int .u32 x27) fun w1_3 =>
 St w1_3 (p29.add 2) (.bool false) fun w1_4 =>
 St w1_4 (p29.add 3) (.int .i64 0) fun w1_5 =>
 St w1_5 (p29.add 4) (.string (ByteArray.mk #[])) fun w1_6 =>
 St w1_6 (p29.add 5) (.slice none 0 0) fun w1_7 =>
 St w1_7 (p29.add 6) (.string (ByteArray.mk #[])) fun w1_8 =>
 St w1_8 (p29.add 7) (.pointer none) fun w1_9 =>
 St w1_9 (p29.add 8) (.slice none 0 0) fun w1_10 =>
 NonNil d fun p31 =>
 LdI .i64 (w1_10.cell? (p31.add 2)) fun x33 =>
 InR .i64 (x33 - (1 : Int)) ∧ NonNil d fun p35 =>
 St w1_10 (p35.add 2) (.int .i64 (x33 - (1 : Int))) fun w1_11 =>
 ∃ J9 : World → Prop, (∀  (w1_12 : World), J9 w1_12 → F139_j9 d n w1_12 R) ∧
 (NonNil n fun p38 =>
 LdI .u32 (w1_11.cell? (p38.add 1)) fun x40 =>
 Br (x40 == (4294967295 : Int))
 (NonNil d fun p43 =>
 LdI .i64 (w1_11.cell? (p43.add 3)) fun x45 =>
 InR .i64 (x45 + (1 : Int)) ∧ NonNil d fun p47 =>
 St w1_11 (p47.add 3) (.int .i64 (x45 + (1 : Int))) fun w1_12 =>
 J9 w1_12)
 (J9 w1_11)))
def F139 (d : Option Addr) (n : Option Addr) (w_ : World) (R : Ending → World → Prop) : Prop :=
 NonNil n fun p7 =>
 LdSl (w_.cell? (p7.add 8)) fun x9 x9N x9C =>
 ∃ (I : Int → World → Prop) (m : Int → World → Nat), I (0 : Int) w_ ∧
 ∀ (x11 : Int) (w1 : World), I x11 w1 → F139_l1 d n x9 x9N (fun x11' w2 => I x11' w2 ∧ m x11' w2 < m x11 w1) x11 w1 R
theorem ok139 (d : Option Addr) (n : Option Addr) {w : World} {R : Ending → World → Prop} (h : F139 d n w R) : Calls Tryz.prog 139 #[(.pointer d), (.pointer n)] w R :=
  vc_calls (pl := ⟨63, ⟨[]⟩, [(9, ⟨[], [(37, 49)]⟩)], [(1, ⟨[(11, (.s (.int .i64)))], [(5, 6), (11, 19)]⟩)]⟩) Tryz.func139 (by kernel_rfl) (by kernel_rfl) (by kernel_rfl) (Eq.mp (by kernel_rfl) h)
def F79 (d : Option Addr) (n : Option Addr) (w_ : World) (R : Ending → World → Prop) : Prop :=
 Br (n).isNone
 (NonNil d fun p8 =>
 R (.returned (.pointer (some (p8.add 1)))) w_)
 (NonNil n fun p11 =>
 R (.returned (.pointer (some (p11.add 8)))) w_)
theorem ok79 (d : Option Addr) (n : Option Addr) {w : World} {R : Ending → World → Prop} (h : F79 d n w R) : Calls Tryz.prog 79 #[(.pointer d), (.pointer n)] w R :=
  vc_calls (pl := ⟨13, ⟨[]⟩, [], []⟩) Tryz.func79 (by kernel_rfl) (by kernel_rfl) (by kernel_rfl) (Eq.mp (by kernel_rfl) h)
def F59_l8 (d : Option Addr) (x11 : Option Addr) (x42 : Option Addr) (x42N : Nat) (L8 : Int → World → Prop) (x44 : Int) (w_2 : World) (R : Ending → World → Prop) : Prop :=
 Br (decide (x44 < ((x42N : Nat) : Int)))
 (IdxA x42 x42N x44 5 fun q46 =>
 LdI .i64 (w_2.cell? q46) fun x47_0 =>
 LdStr (w_2.cell? (q46.add 1)) fun x47_1 =>
 LdSl (w_2.cell? (q46.add 2)) fun x47_2 x47_2N x47_2C =>
 LdStr (w_2.cell? (q46.add 3)) fun x47_3 =>
 LdSl (w_2.cell? (q46.add 4)) fun x47_4 x47_4N x47_4C =>
 Al w_2 #[(.int .i64 0), (.string (ByteArray.mk #[])), (.slice none 0 0), (.string (ByteArray.mk #[])), (.slice none 0 0)] 45 fun k w1_9 =>
 St w1_9 k (.int .i64 x47_0) fun w1_10 =>
 St w1_10 (k.add 1) (.string x47_1) fun w1_11 =>
 St w1_11 (k.add 2) (.slice x47_2 x47_2N x47_2C) fun w1_12 =>
 St w1_12 (k.add 3) (.string x47_3) fun w1_13 =>
 St w1_13 (k.add 4) (.slice x47_4 x47_4N x47_4C) fun w1_14 =>
 ∃ S2 : World → Prop, S2 w1_14.drew ∧ NonNil x11 fun p50 =>
 ∃ (x52 : Option Addr) (x52N : Nat) (x52C : Nat), Held S2 (p50.add 8) (.slice x52 x52N x52C) ∧ ∃ (x54_0 : Int), Held S2 k (.int .i64 x54_0) ∧ ∃ (x54_1 : ByteArray), Held S2 (k.add 1) (.string x54_1) ∧ ∃ (x54_2 : Option Addr) (x54_2N : Nat) (x54_2C : Nat), Held S2 (k.add 2) (.slice x54_2 x54_2N x54_2C) ∧ ∃ (x54_3 : ByteArray), Held S2 (k.add 3) (.string x54_3) ∧ ∃ (x54_4 : Option Addr) (x54_4N : Nat) (x54_4C : Nat), Held S2 (k.add 4) (.slice x54_4 x54_4N x54_4C) ∧ Calls Tryz.prog 59 #[(.pointer d), (.agg #[(.int .i64 x54_0), (.string x54_1), (.slice x54_2 x54_2N x54_2C), (.string x54_3), (.slice x54_4 x54_4N x54_4C)]), (.pointer x11)] w1_14.drew (post R fun v3 w1_16 =>
 ∃ (x56 : Option Addr), v3 = (.pointer x56) ∧
 S2 w1_16 ∧ Al w1_16 #[(.pointer x56)] 111 fun g57 w1_17 =>
 S2 w1_17 ∧ Raw Tryz.prog (Builtin.append_ #[24, 24] 24 #[(.slice x52 x52N x52C), (.slice (some g57) 1 1)]) w1_17 fun v4 w1_18 =>
 ∃ (x58 : Option Addr) (x58N : Nat) (x58C : Nat), v4 = (.slice x58 x58N x58C) ∧
 NonNil x11 fun p59 =>
 St w1_18 (p59.add 8) (.slice x58 x58N x58C) fun w1_19 =>
 InR .i64 (x44 + (1 : Int)) ∧ L8 (x44 + (1 : Int)) w1_19))
 (R (.returned (.pointer x11)) w_2)
def F59 (d : Option Addr) (x_0 : Int) (x_1 : ByteArray) (x_2 : Option Addr) (x_2N : Nat) (x_2C : Nat) (x_3 : ByteArray) (x_4 : Option Addr) (x_4N : Nat) (x_4C : Nat) (parent : Option Addr) (w_ : World) (R : Ending → World → Prop) : Prop :=
 Al w_ #[(.int .i64 x_0), (.string x_1), (.slice x_2 x_2N x_2C), (.string x_3), (.slice x_4 x_4N x_4C)] 45 fun g4 w1 =>
 Calls Tryz.prog 77 #[(.pointer d)] w1 (post R fun v w1_2 =>
 ∃ (x11 : Option Addr), v = (.pointer x11) ∧
 LdI .i64 (w1_2.cell? g4) fun x15 =>
 NonNil x11 fun p17 =>
 St w1_2 (p17.add 3) (.int .i64 x15) fun w1_3 =>
 NonNil x11 fun p19 =>
 St w1_3 (p19.add 7) (.pointer parent) fun w1_4 =>
 LdI .i64 (w1_4.cell? g4) fun x22 =>
 Br (x22 == (2 : Int))
 (LdStr (w1_4.cell? (g4.add 3)) fun x26 =>
 NonNil x11 fun p27 =>
 St w1_4 (p27.add 6) (.string x26) fun w1_5 =>
 R (.returned (.pointer x11)) w1_5)
 (∃ S : World → Prop, S w1_4.drew ∧ ∃ (x33 : ByteArray), Held S (g4.add 1) (.string x33) ∧ ∃ (x35 : Option Addr) (x35N : Nat) (x35C : Nat), Held S (g4.add 2) (.slice x35 x35N x35C) ∧ Calls Tryz.prog 78 #[(.slice x35 x35N x35C)] w1_4.drew (post R fun v2 w1_6 =>
 ∃ (x36 : Option Addr) (x36N : Nat) (x36C : Nat), v2 = (.slice x36 x36N x36C) ∧
 S w1_6 ∧ NonNil x11 fun p37 =>
 St w1_6 (p37.add 4) (.string x33) fun w1_7 =>
 NonNil x11 fun p39 =>
 St w1_7 (p39.add 5) (.slice x36 x36N x36C) fun w1_8 =>
 LdSl (w1_8.cell? (g4.add 4)) fun x42 x42N x42C =>
 ∃ (I : Int → World → Prop) (m : Int → World → Nat), I (0 : Int) w1_8 ∧
 ∀ (x44 : Int) (w1_9 : World), I x44 w1_9 → F59_l8 d x11 x42 x42N (fun x44' w2 => I x44' w2 ∧ m x44' w2 < m x44 w1_9) x44 w1_9 R)))
theorem ok59 (d : Option Addr) (x_0 : Int) (x_1 : ByteArray) (x_2 : Option Addr) (x_2N : Nat) (x_2C : Nat) (x_3 : ByteArray) (x_4 : Option Addr) (x_4N : Nat) (x_4C : Nat) (parent : Option Addr) {w : World} {R : Ending → World → Prop} (h : F59 d x_0 x_1 x_2 x_2N x_2C x_3 x_4 x_4N x_4C parent w R) : Calls Tryz.prog 59 #[(.pointer d), (.agg #[(.int .i64 x_0), (.string x_1), (.slice x_2 x_2N x_2C), (.string x_3), (.slice x_4 x_4N x_4C)]), (.pointer parent)] w R :=
  vc_calls (pl := ⟨63, ⟨[]⟩, [], [(8, ⟨[(44, (.s (.int .i64)))], [(9, 10), (44, 62)]⟩)]⟩) Tryz.func59 (by kernel_rfl) (by kernel_rfl) (by kernel_rfl) (Eq.mp (by kernel_rfl) h)
def F140 (d : Option Addr) (h_ : Int) (kind : Int) (w_ : World) (R : Ending → World → Prop) : Prop :=
 Calls Tryz.prog 53 #[(.pointer d), (.int .u64 h_)] w_ (post R fun v w1 =>
 ∃ (x11 : Option Addr), v = (.pointer x11) ∧
 Br (x11).isNone
 (R (.returned (.tuple #[(.pointer none), (.int .i64 8)])) w1)
 (NonNil x11 fun p17 =>
 LdI .i64 (w1.cell? (p17.add 3)) fun x19 =>
 Br (x19 != kind)
 (R (.returned (.tuple #[(.pointer none), (.int .i64 30)])) w1)
 (R (.returned (.tuple #[(.pointer x11), (.int .i64 0)])) w1)))
theorem ok140 (d : Option Addr) (h_ : Int) (kind : Int) {w : World} {R : Ending → World → Prop} (h : F140 d h_ kind w R) : Calls Tryz.prog 140 #[(.pointer d), (.int .u64 h_), (.int .i64 kind)] w R :=
  vc_calls (pl := ⟨23, ⟨[]⟩, [], []⟩) Tryz.func140 (by kernel_rfl) (by kernel_rfl) (by kernel_rfl) (Eq.mp (by kernel_rfl) h)
def F138 (d : Option Addr) (n : Option Addr) (w_ : World) (R : Ending → World → Prop) : Prop :=
 NonNil n fun p8 =>
 LdP (w_.cell? (p8.add 7)) fun x10 =>
 Calls Tryz.prog 79 #[(.pointer d), (.pointer x10)] w_ (post R fun v w1 =>
 ∃ (x11 : Option Addr), v = (.pointer x11) ∧
 NonNil x11 fun p13 =>
 LdSl (w1.cell? p13) fun x14 x14N x14C =>
 Calls Tryz.prog 80 #[(.slice x14 x14N x14C), (.pointer n)] w1 (post R fun v2 w1_2 =>
 ∃ (x16 : Int), v2 = (.int .i64 x16) ∧
 NonNil x11 fun p19 =>
 LdSl (w1_2.cell? p19) fun x20 x20N x20C =>
 InR .i64 (x16 + (1 : Int)) ∧ Calls Tryz.prog 146 #[(.slice x20 x20N x20C), (.int .i64 x16), (.int .i64 (x16 + (1 : Int)))] w1_2 (post R fun v3 w1_3 =>
 ∃ (x24 : Option Addr) (x24N : Nat) (x24C : Nat), v3 = (.slice x24 x24N x24C) ∧
 NonNil x11 fun p25 =>
 St w1_3 p25 (.slice x24 x24N x24C) fun w1_4 =>
 R (.returned (.tuple #[])) w1_4)))
theorem ok138 (d : Option Addr) (n : Option Addr) {w : World} {R : Ending → World → Prop} (h : F138 d n w R) : Calls Tryz.prog 138 #[(.pointer d), (.pointer n)] w R :=
  vc_calls (pl := ⟨26, ⟨[]⟩, [], []⟩) Tryz.func138 (by kernel_rfl) (by kernel_rfl) (by kernel_rfl) (Eq.mp (by kernel_rfl) h)
def F58_j5 (at_ : Option Addr) (w_2 : World) (R : Ending → World → Prop) : Prop :=
 R (.returned (.tuple #[(.pointer at_), (.int .i64 0)])) w_2
def F58 (d : Option Addr) (where_ : Int) (at_ : Option Addr) (w_ : World) (R : Ending → World → Prop) : Prop :=
 ∃ J5 : World → Prop, (∀  (w1 : World), J5 w1 → F58_j5 at_ w1 R) ∧
 (Br (decide (where_ > (2 : Int)))
 (NonNil at_ fun p12 =>
 LdP (w_.cell? (p12.add 7)) fun x14 =>
 R (.returned (.tuple #[(.pointer x14), (.int .i64 0)])) w_)
 (Br (!(at_).isNone)
 (NonNil at_ fun p20 =>
 LdI .i64 (w_.cell? (p20.add 3)) fun x22 =>
 Br (x22 == (2 : Int))
 (R (.returned (.tuple #[(.pointer none), (.int .i64 31)])) w_)
 (J5 w_))
 (J5 w_)))
theorem ok58 (d : Option Addr) (where_ : Int) (at_ : Option Addr) {w : World} {R : Ending → World → Prop} (h : F58 d where_ at_ w R) : Calls Tryz.prog 58 #[(.pointer d), (.int .i64 where_), (.pointer at_)] w R :=
  vc_calls (pl := ⟨26, ⟨[]⟩, [(5, ⟨[], [(6, 25)]⟩)], []⟩) Tryz.func58 (by kernel_rfl) (by kernel_rfl) (by kernel_rfl) (Eq.mp (by kernel_rfl) h)
def F60_j9 (n : Option Addr) (parent : Option Addr) (x14 : Option Addr) (i : Int) (w_2 : World) (R : Ending → World → Prop) : Prop :=
 NonNil x14 fun p39 =>
 LdSl (w_2.cell? p39) fun x40 x40N x40C =>
 Al w_2 #[(.pointer n)] 111 fun g43 w1_2 =>
 Calls Tryz.prog 81 #[(.slice x40 x40N x40C), (.int .i64 i), (.slice (some g43) 1 1)] w1_2 (post R fun v2 w1_3 =>
 ∃ (x44 : Option Addr) (x44N : Nat) (x44C : Nat), v2 = (.slice x44 x44N x44C) ∧
 NonNil x14 fun p45 =>
 St w1_3 p45 (.slice x44 x44N x44C) fun w1_4 =>
 NonNil n fun p48 =>
 St w1_4 (p48.add 7) (.pointer parent) fun w1_5 =>
 R (.returned (.tuple #[])) w1_5)
def F60 (d : Option Addr) (n : Option Addr) (parent : Option Addr) (where_ : Int) (at_ : Option Addr) (w_ : World) (R : Ending → World → Prop) : Prop :=
 Calls Tryz.prog 79 #[(.pointer d), (.pointer parent)] w_ (post R fun v w1 =>
 ∃ (x14 : Option Addr), v = (.pointer x14) ∧
 ∃ J9 : Int → World → Prop, (∀ (i : Int) (w1_2 : World), J9 i w1_2 → F60_j9 n parent x14 i w1_2 R) ∧
 (Br (where_ == (2 : Int))
 (NonNil x14 fun p19 =>
 LdSl (w1.cell? p19) fun x20 x20N x20C =>
 J9 ((x20N : Nat) : Int) w1)
 (Br (where_ == (3 : Int))
 (NonNil x14 fun p25 =>
 LdSl (w1.cell? p25) fun x26 x26N x26C =>
 Calls Tryz.prog 80 #[(.slice x26 x26N x26C), (.pointer at_)] w1 (post R fun v2 w1_2 =>
 ∃ (x28 : Int), v2 = (.int .i64 x28) ∧
 J9 x28 w1_2))
 (Br (where_ == (4 : Int))
 (NonNil x14 fun p32 =>
 LdSl (w1.cell? p32) fun x33 x33N x33C =>
 Calls Tryz.prog 80 #[(.slice x33 x33N x33C), (.pointer at_)] w1 (post R fun v2 w1_2 =>
 ∃ (x35 : Int), v2 = (.int .i64 x35) ∧
 InR .i64 (x35 + (1 : Int)) ∧ J9 (x35 + (1 : Int)) w1_2))
 (J9 (0 : Int) w1)))))
theorem ok60 (d : Option Addr) (n : Option Addr) (parent : Option Addr) (where_ : Int) (at_ : Option Addr) {w : World} {R : Ending → World → Prop} (h : F60 d n parent where_ at_ w R) : Calls Tryz.prog 60 #[(.pointer d), (.pointer n), (.pointer parent), (.int .i64 where_), (.pointer at_)] w R :=
  vc_calls (pl := ⟨50, ⟨[]⟩, [(9, ⟨[(11, (.s (.int .i64)))], [(11, 37)]⟩)], []⟩) Tryz.func60 (by kernel_rfl) (by kernel_rfl) (by kernel_rfl) (Eq.mp (by kernel_rfl) h)
def F57_l11 (l : Option Addr) (deep : Int) (x45 : Option Addr) (x45N : Nat) (L11 : Int → World → Prop) (x47 : Int) (w_3 : World) (R : Ending → World → Prop) : Prop :=
 Br (decide (x47 < ((x45N : Nat) : Int)))
 (IdxA x45 x45N x47 5 fun q49 =>
 LdI .i64 (w_3.cell? q49) fun x50_0 =>
 LdStr (w_3.cell? (q49.add 1)) fun x50_1 =>
 LdSl (w_3.cell? (q49.add 2)) fun x50_2 x50_2N x50_2C =>
 LdStr (w_3.cell? (q49.add 3)) fun x50_3 =>
 LdSl (w_3.cell? (q49.add 4)) fun x50_4 x50_4N x50_4C =>
 Al w_3 #[(.int .i64 0), (.string (ByteArray.mk #[])), (.slice none 0 0), (.string (ByteArray.mk #[])), (.slice none 0 0)] 45 fun k w1_5 =>
 St w1_5 k (.int .i64 x50_0) fun w1_6 =>
 St w1_6 (k.add 1) (.string x50_1) fun w1_7 =>
 St w1_7 (k.add 2) (.slice x50_2 x50_2N x50_2C) fun w1_8 =>
 St w1_8 (k.add 3) (.string x50_3) fun w1_9 =>
 St w1_9 (k.add 4) (.slice x50_4 x50_4N x50_4C) fun w1_10 =>
 LdI .i64 (w1_10.cell? k) fun x52_0 =>
 LdStr (w1_10.cell? (k.add 1)) fun x52_1 =>
 LdSl (w1_10.cell? (k.add 2)) fun x52_2 x52_2N x52_2C =>
 LdStr (w1_10.cell? (k.add 3)) fun x52_3 =>
 LdSl (w1_10.cell? (k.add 4)) fun x52_4 x52_4N x52_4C =>
 InR .i64 (deep + (1 : Int)) ∧ Calls Tryz.prog 57 #[(.pointer l), (.agg #[(.int .i64 x52_0), (.string x52_1), (.slice x52_2 x52_2N x52_2C), (.string x52_3), (.slice x52_4 x52_4N x52_4C)]), (.int .i64 (deep + (1 : Int)))] w1_10 (post R fun v2 w1_11 =>
 ∃ (x55 : Int), v2 = (.int .i64 x55) ∧
 Br (x55 != (0 : Int))
 (R (.returned (.int .i64 x55)) w1_11)
 (InR .i64 (x47 + (1 : Int)) ∧ L11 (x47 + (1 : Int)) w1_11)))
 (R (.returned (.int .i64 0)) w_3)
def F57_j3 (l : Option Addr) (deep : Int) (g4 : Addr) (w_2 : World) (R : Ending → World → Prop) : Prop :=
 LdI .i64 (w_2.cell? g4) fun x20_0 =>
 LdStr (w_2.cell? (g4.add 1)) fun x20_1 =>
 LdSl (w_2.cell? (g4.add 2)) fun x20_2 x20_2N x20_2C =>
 LdStr (w_2.cell? (g4.add 3)) fun x20_3 =>
 LdSl (w_2.cell? (g4.add 4)) fun x20_4 x20_4N x20_4C =>
 Calls Tryz.prog 76 #[(.agg #[(.int .i64 x20_0), (.string x20_1), (.slice x20_2 x20_2N x20_2C), (.string x20_3), (.slice x20_4 x20_4N x20_4C)])] w_2 (post R fun v w1_2 =>
 ∃ (x21 : Int), v = (.int .i64 x21) ∧
 Br (x21 != (0 : Int))
 (R (.returned (.int .i64 x21)) w1_2)
 (NonNil l fun p26 =>
 LdI .i64 (w1_2.cell? p26) fun x28 =>
 InR .i64 (x28 + (1 : Int)) ∧ NonNil l fun p30 =>
 St w1_2 p30 (.int .i64 (x28 + (1 : Int))) fun w1_3 =>
 NonNil l fun p34 =>
 LdI .i64 (w1_3.cell? (p34.add 1)) fun x36 =>
 NonNil l fun p39 =>
 St w1_3 (p39.add 1) (.int .i64 (if deep > x36 then deep else x36)) fun w1_4 =>
 LdI .i64 (w1_4.cell? g4) fun x42 =>
 Br (x42 == (2 : Int))
 (R (.returned (.int .i64 0)) w1_4)
 (LdSl (w1_4.cell? (g4.add 4)) fun x45 x45N x45C =>
 ∃ (I : Int → World → Prop) (m : Int → World → Nat), I (0 : Int) w1_4 ∧
 ∀ (x47 : Int) (w1_5 : World), I x47 w1_5 → F57_l11 l deep x45 x45N (fun x47' w2 => I x47' w2 ∧ m x47' w2 < m x47 w1_5) x47 w1_5 R)))
def F57 (l : Option Addr) (x_0 : Int) (x_1 : ByteArray) (x_2 : Option Addr) (x_2N : Nat) (x_2C : Nat) (x_3 : ByteArray) (x_4 : Option Addr) (x_4N : Nat) (x_4C : Nat) (deep : Int) (w_ : World) (R : Ending → World → Prop) : Prop :=
 Al w_ #[(.int .i64 x_0), (.string x_1), (.slice x_2 x_2N x_2C), (.string x_3), (.slice x_4 x_4N x_4C)] 45 fun g4 w1 =>
 ∃ J3 : World → Prop, (∀  (w1_2 : World), J3 w1_2 → F57_j3 l deep g4 w1_2 R) ∧
 (Br (decide (deep > (64 : Int)))
 (R (.returned (.int .i64 2)) w1)
 (NonNil l fun p15 =>
 LdI .i64 (w1.cell? p15) fun x17 =>
 Br (decide (x17 ≥ (4096 : Int)))
 (R (.returned (.int .i64 2)) w1)
 (J3 w1)))
theorem ok57 (l : Option Addr) (x_0 : Int) (x_1 : ByteArray) (x_2 : Option Addr) (x_2N : Nat) (x_2C : Nat) (x_3 : ByteArray) (x_4 : Option Addr) (x_4N : Nat) (x_4C : Nat) (deep : Int) {w : World} {R : Ending → World → Prop} (h : F57 l x_0 x_1 x_2 x_2N x_2C x_3 x_4 x_4N x_4C deep w R) : Calls Tryz.prog 57 #[(.pointer l), (.agg #[(.int .i64 x_0), (.string x_1), (.slice x_2 x_2N x_2C), (.string x_3), (.slice x_4 x_4N x_4C)]), (.int .i64 deep)] w R :=
  vc_calls (pl := ⟨60, ⟨[]⟩, [(3, ⟨[], [(6, 20)]⟩)], [(11, ⟨[(47, (.s (.int .i64)))], [(6, 11), (47, 60)]⟩)]⟩) Tryz.func57 (by kernel_rfl) (by kernel_rfl) (by kernel_rfl) (Eq.mp (by kernel_rfl) h)
def F141 (n : Option Addr) (name : ByteArray) (w_ : World) (R : Ending → World → Prop) : Prop :=
 NonNil n fun p7 =>
 LdSl (w_.cell? (p7.add 5)) fun x9 x9N x9C =>
 Calls Tryz.prog 147 #[(.slice x9 x9N x9C), (.string name), (.func (.func 148) #[] #[])] w_ (post R fun v w1 =>
 ∃ (x11_0 : Int) (x11_1 : Bool), v = (.tuple #[(.int .i64 x11_0), (.bool x11_1)]) ∧
 R (.returned (.tuple #[(.int .i64 x11_0), (.bool x11_1)])) w1)
theorem ok141 (n : Option Addr) (name : ByteArray) {w : World} {R : Ending → World → Prop} (h : F141 n name w R) : Calls Tryz.prog 141 #[(.pointer n), (.string name)] w R :=
  vc_calls (pl := ⟨14, ⟨[]⟩, [], []⟩) Tryz.func141 (by kernel_rfl) (by kernel_rfl) (by kernel_rfl) (Eq.mp (by kernel_rfl) h)
def F148 (a_0 : ByteArray) (a_1 : ByteArray) (s : ByteArray) (w_ : World) (R : Ending → World → Prop) : Prop :=
 Al w_ #[(.string a_0), (.string a_1)] 96 fun a w1 =>
 LdStr (w1.cell? a) fun x6 =>
 Calls Tryz.prog 149 #[(.string x6), (.string s)] w1 (post R fun v w1_2 =>
 ∃ (x8 : Int), v = (.int .i64 x8) ∧
 R (.returned (.int .i64 x8)) w1_2)
theorem ok148 (a_0 : ByteArray) (a_1 : ByteArray) (s : ByteArray) {w : World} {R : Ending → World → Prop} (h : F148 a_0 a_1 s w R) : Calls Tryz.prog 148 #[(.agg #[(.string a_0), (.string a_1)]), (.string s)] w R :=
  vc_calls (pl := ⟨9, ⟨[]⟩, [], []⟩) Tryz.func148 (by kernel_rfl) (by kernel_rfl) (by kernel_rfl) (Eq.mp (by kernel_rfl) h)
def F144_l3 (x9 : Option Addr) (x9N : Nat) (L3 : Int → Int → World → Prop) (most : Int) (x11 : Int) (w_2 : World) (R : Ending → World → Prop) : Prop :=
 Br (decide (x11 < ((x9N : Nat) : Int)))
 (IdxA x9 x9N x11 1 fun q13 =>
 LdP (w_2.cell? q13) fun x14 =>
 Calls Tryz.prog 144 #[(.pointer x14)] w_2 (post R fun v w1 =>
 ∃ (x17 : Int), v = (.int .i64 x17) ∧
 InR .i64 (x11 + (1 : Int)) ∧ L3 (if x17 > most then x17 else most) (x11 + (1 : Int)) w1))
 (InR .i64 (most + (1 : Int)) ∧ R (.returned (.int .i64 (most + (1 : Int)))) w_2)
def F144 (n : Option Addr) (w_ : World) (R : Ending → World → Prop) : Prop :=
 NonNil n fun p7 =>
 LdSl (w_.cell? (p7.add 8)) fun x9 x9N x9C =>
 ∃ (I : Int → Int → World → Prop) (m : Int → Int → World → Nat), I (0 : Int) (0 : Int) w_ ∧
 ∀ (most : Int) (x11 : Int) (w1 : World), I most x11 w1 → F144_l3 x9 x9N (fun most' x11' w2 => I most' x11' w2 ∧ m most' x11' w2 < m most x11 w1) most x11 w1 R
theorem ok144 (n : Option Addr) {w : World} {R : Ending → World → Prop} (h : F144 n w R) : Calls Tryz.prog 144 #[(.pointer n)] w R :=
  vc_calls (pl := ⟨22, ⟨[]⟩, [], [(3, ⟨[(3, (.s (.int .i64))), (11, (.s (.int .i64)))], [(3, 6), (11, 20)]⟩)]⟩) Tryz.func144 (by kernel_rfl) (by kernel_rfl) (by kernel_rfl) (Eq.mp (by kernel_rfl) h)
def F61 (n : Option Addr) (w_ : World) (R : Ending → World → Prop) : Prop :=
 Br (n).isNone
 (R (.returned (.int .u64 0)) w_)
 (Dr w_ fun w1 =>
 NonNil n fun p6 =>
 LdI .u32 (w1.cell? (p6.add 1)) fun x8 =>
 InR .u64 (x8) ∧ InR .u64 ((x8) * (2 ^ (min ((32 : Int)).toNat 64))) ∧ NonNil n fun p12 =>
 LdI .u32 (w1.cell? p12) fun x14 =>
 InR .u64 (x14) ∧ R (.returned (.int .u64 (bOr .u64 ((x8) * (2 ^ (min ((32 : Int)).toNat 64))) (x14)))) w1)
theorem ok61 (n : Option Addr) {w : World} {R : Ending → World → Prop} (h : F61 n w R) : Calls Tryz.prog 61 #[(.pointer n)] w R :=
  vc_calls (pl := ⟨17, ⟨[]⟩, [], []⟩) Tryz.func61 (by kernel_rfl) (by kernel_rfl) (by kernel_rfl) (Eq.mp (by kernel_rfl) h)
def F143_j3 (o : Option Addr) (n2 : Option Addr) (w_2 : World) (R : Ending → World → Prop) : Prop :=
 PtrOk w_2 n2 o ∧ R (.returned (.bool (decide (n2 = o)))) w_2
def F143_j2 (L1 : Option Addr → World → Prop) (n2 : Option Addr) (w_3 : World) (R : Ending → World → Prop) : Prop :=
 NonNil n2 fun p13 =>
 LdP (w_3.cell? (p13.add 7)) fun x15 =>
 L1 x15 w_3
def F143_l1 (o : Option Addr) (J3 : Option Addr → World → Prop) (L1 : Option Addr → World → Prop) (n2 : Option Addr) (w_2 : World) (R : Ending → World → Prop) : Prop :=
 ∃ J2 : World → Prop, (∀  (w1 : World), J2 w1 → F143_j2 L1 n2 w1 R) ∧
 (Br (!(n2).isNone)
 (PtrOk w_2 n2 o ∧ Br (!(decide (n2 = o)))
 (J2 w_2)
 (J3 n2 w_2))
 (J3 n2 w_2))
def F143 (n : Option Addr) (o : Option Addr) (w_ : World) (R : Ending → World → Prop) : Prop :=
 ∃ J3 : Option Addr → World → Prop, (∀ (n2 : Option Addr) (w1 : World), J3 n2 w1 → F143_j3 o n2 w1 R) ∧
 (∃ (I : Option Addr → World → Prop) (m : Option Addr → World → Nat), I n w_ ∧
 ∀ (n2 : Option Addr) (w1 : World), I n2 w1 → F143_l1 o J3 (fun n2' w2 => I n2' w2 ∧ m n2' w2 < m n2 w1) n2 w1 R)
theorem ok143 (n : Option Addr) (o : Option Addr) {w : World} {R : Ending → World → Prop} (h : F143 n o w R) : Calls Tryz.prog 143 #[(.pointer n), (.pointer o)] w R :=
  vc_calls (pl := ⟨19, ⟨[]⟩, [(2, ⟨[], [(5, 12)]⟩), (3, ⟨[(0, (.s .ptr))], [(0, 1), (5, 16)]⟩)], [(1, ⟨[(0, (.s .ptr))], [(0, 1), (5, 16)]⟩)]⟩) Tryz.func143 (by kernel_rfl) (by kernel_rfl) (by kernel_rfl) (Eq.mp (by kernel_rfl) h)
def F136_l2 (l : Option Addr) (lN : Nat) (L2 : Option Addr → Nat → Nat → Int → World → Prop) (out2 : Option Addr) (outN2 : Nat) (outC2 : Nat) (x9 : Int) (w_2 : World) (R : Ending → World → Prop) : Prop :=
 Br (decide (x9 < ((lN : Nat) : Int)))
 (IdxA l lN x9 1 fun q11 =>
 LdP (w_2.cell? q11) fun x12 =>
 ∃ S : World → Prop, S w_2.drew ∧ NonNil x12 fun p14 =>
 ∃ (x16 : Option Addr) (x16N : Nat) (x16C : Nat), Held S (p14.add 8) (.slice x16 x16N x16C) ∧ Calls Tryz.prog 61 #[(.pointer x12)] w_2.drew (post R fun v w1_2 =>
 ∃ (x19 : Int), v = (.int .u64 x19) ∧
 S w1_2 ∧ Al w1_2 #[(.int .u64 x19)] 41 fun g20 w1_3 =>
 S w1_3 ∧ Raw Tryz.prog (Builtin.append_ #[37, 37] 37 #[(.slice out2 outN2 outC2), (.slice (some g20) 1 1)]) w1_3 fun v2 w1_4 =>
 ∃ (x21 : Option Addr) (x21N : Nat) (x21C : Nat), v2 = (.slice x21 x21N x21C) ∧
 S w1_4 ∧ Calls Tryz.prog 136 #[(.slice x16 x16N x16C), (.slice x21 x21N x21C)] w1_4 (post R fun v3 w1_5 =>
 ∃ (x22 : Option Addr) (x22N : Nat) (x22C : Nat), v3 = (.slice x22 x22N x22C) ∧
 InR .i64 (x9 + (1 : Int)) ∧ L2 x22 x22N x22C (x9 + (1 : Int)) w1_5)))
 (R (.returned (.slice out2 outN2 outC2)) w_2)
def F136 (l : Option Addr) (lN : Nat) (lC : Nat) (out : Option Addr) (outN : Nat) (outC : Nat) (w_ : World) (R : Ending → World → Prop) : Prop :=
 ∃ (I : Option Addr → Nat → Nat → Int → World → Prop) (m : Option Addr → Nat → Nat → Int → World → Nat), I out outN outC (0 : Int) w_ ∧
 ∀ (out2 : Option Addr) (outN2 : Nat) (outC2 : Nat) (x9 : Int) (w1 : World), I out2 outN2 outC2 x9 w1 → F136_l2 l lN (fun out2' outN2' outC2' x9' w2 => I out2' outN2' outC2' x9' w2 ∧ m out2' outN2' outC2' x9' w2 < m out2 outN2 outC2 x9 w1) out2 outN2 outC2 x9 w1 R
theorem ok136 (l : Option Addr) (lN : Nat) (lC : Nat) (out : Option Addr) (outN : Nat) (outC : Nat) {w : World} {R : Ending → World → Prop} (h : F136 l lN lC out outN outC w R) : Calls Tryz.prog 136 #[(.slice l lN lC), (.slice out outN outC)] w R :=
  vc_calls (pl := ⟨25, ⟨[]⟩, [], [(2, ⟨[(1, (.s .slice)), (9, (.s (.int .i64)))], [(1, 7), (9, 24)]⟩)]⟩) Tryz.func136 (by kernel_rfl) (by kernel_rfl) (by kernel_rfl) (Eq.mp (by kernel_rfl) h)
def F90_j8 (L4 : Int → World → Prop) (x12 : Int) (a : Addr) (w_3 : World) (R : Ending → World → Prop) : Prop :=
 LdStr (w_3.cell? (a.add 1)) fun x38 =>
 Calls Tryz.prog 91 #[(.string x38)] w_3 (post R fun v w1_4 =>
 ∃ (x39_0 : Int) (x39_1 : Int), v = (.tuple #[(.int .i64 x39_0), (.int .i64 x39_1)]) ∧
 Br (x39_1 != (0 : Int))
 (R (.returned (.int .i64 x39_1)) w1_4)
 (InR .i64 (x12 + (1 : Int)) ∧ L4 (x12 + (1 : Int)) w1_4))
def F90_l4 (l : Option Addr) (lN : Nat) (L4 : Int → World → Prop) (x12 : Int) (w_2 : World) (R : Ending → World → Prop) : Prop :=
 Br (decide (x12 < ((lN : Nat) : Int)))
 (IdxA l lN x12 2 fun q15 =>
 LdStr (w_2.cell? q15) fun x16_0 =>
 LdStr (w_2.cell? (q15.add 1)) fun x16_1 =>
 Al w_2 #[(.string (ByteArray.mk #[])), (.string (ByteArray.mk #[]))] 96 fun a w1 =>
 St w1 a (.string x16_0) fun w1_2 =>
 St w1_2 (a.add 1) (.string x16_1) fun w1_3 =>
 ∃ J8 : World → Prop, (∀  (w1_4 : World), J8 w1_4 → F90_j8 L4 x12 a w1_4 R) ∧
 (∃ S : World → Prop, S w1_3.drew ∧ ∃ (x18 : ByteArray), Held S a (.string x18) ∧ Calls Tryz.prog 89 #[(.string x18)] w1_3.drew (post R fun v w1_5 =>
 ∃ (x19 : Bool), v = (.bool x19) ∧
 S w1_5 ∧ Br (!x19)
 (R (.returned (.int .i64 6)) w1_5)
 (Br (decide (x12 > (0 : Int)))
 (∃ (x26 : ByteArray), Held S a (.string x26) ∧ InR .i64 (x12 - (1 : Int)) ∧ IdxA l lN (x12 - (1 : Int)) 2 fun q30 =>
 ∃ (x32 : ByteArray), Held S q30 (.string x32) ∧ Br ((Op.bytesLess x26.toList x32.toList) || (x26.toList == x32.toList))
 (R (.returned (.int .i64 6)) w1_5)
 (J8 w1_5))
 (J8 w1_5)))))
 (R (.returned (.int .i64 0)) w_2)
def F90 (l : Option Addr) (lN : Nat) (lC : Nat) (w_ : World) (R : Ending → World → Prop) : Prop :=
 Br (decide (((lN : Nat) : Int) > (32 : Int)))
 (R (.returned (.int .i64 2)) w_)
 (∃ (I : Int → World → Prop) (m : Int → World → Nat), I (0 : Int) w_ ∧
 ∀ (x12 : Int) (w1 : World), I x12 w1 → F90_l4 l lN (fun x12' w2 => I x12' w2 ∧ m x12' w2 < m x12 w1) x12 w1 R)
theorem ok90 (l : Option Addr) (lN : Nat) (lC : Nat) {w : World} {R : Ending → World → Prop} (h : F90 l lN lC w R) : Calls Tryz.prog 90 #[(.slice l lN lC)] w R :=
  vc_calls (pl := ⟨46, ⟨[]⟩, [(8, ⟨[], [(2, 3), (17, 36)]⟩)], [(4, ⟨[(12, (.s (.int .i64)))], [(2, 7), (12, 46)]⟩)]⟩) Tryz.func90 (by kernel_rfl) (by kernel_rfl) (by kernel_rfl) (Eq.mp (by kernel_rfl) h)
def F86_l3 (l : Option Addr) (lN : Nat) (L3 : Option Addr → Nat → Nat → Int → World → Prop) (out : Option Addr) (outN : Nat) (outC : Nat) (x11 : Int) (w_2 : World) (R : Ending → World → Prop) : Prop :=
 Br (decide (x11 < ((lN : Nat) : Int)))
 (IdxA l lN x11 1 fun q13 =>
 LdP (w_2.cell? q13) fun x14 =>
 Calls Tryz.prog 61 #[(.pointer x14)] w_2 (post R fun v w1_2 =>
 ∃ (x17 : Int), v = (.int .u64 x17) ∧
 Al w1_2 #[(.int .u64 x17)] 41 fun g18 w1_3 =>
 Raw Tryz.prog (Builtin.append_ #[37, 37] 37 #[(.slice out outN outC), (.slice (some g18) 1 1)]) w1_3 fun v2 w1_4 =>
 ∃ (x19 : Option Addr) (x19N : Nat) (x19C : Nat), v2 = (.slice x19 x19N x19C) ∧
 InR .i64 (x11 + (1 : Int)) ∧ L3 x19 x19N x19C (x11 + (1 : Int)) w1_4))
 (R (.returned (.slice out outN outC)) w_2)
def F86 (l : Option Addr) (lN : Nat) (lC : Nat) (w_ : World) (R : Ending → World → Prop) : Prop :=
 0 ≤ (0 : Int) ∧ (0 : Int) ≤ ((lN : Nat) : Int) ∧ ((8 : Nat) : Int) * ((lN : Nat) : Int) ≤ 281474976710656 ∧ Al w_ (zrow #[(.int .u64 0)] ((((lN : Nat) : Int)).toNat * 1)) 41 fun g8 w1 =>
 ∃ (I : Option Addr → Nat → Nat → Int → World → Prop) (m : Option Addr → Nat → Nat → Int → World → Nat), I (some g8) ((0 : Int)).toNat (((lN : Nat) : Int)).toNat (0 : Int) w1 ∧
 ∀ (out : Option Addr) (outN : Nat) (outC : Nat) (x11 : Int) (w1_2 : World), I out outN outC x11 w1_2 → F86_l3 l lN (fun out' outN' outC' x11' w2 => I out' outN' outC' x11' w2 ∧ m out' outN' outC' x11' w2 < m out outN outC x11 w1_2) out outN outC x11 w1_2 R
theorem ok86 (l : Option Addr) (lN : Nat) (lC : Nat) {w : World} {R : Ending → World → Prop} (h : F86 l lN lC w R) : Calls Tryz.prog 86 #[(.slice l lN lC)] w R :=
  vc_calls (pl := ⟨22, ⟨[]⟩, [], [(3, ⟨[(3, (.s .slice)), (11, (.s (.int .i64)))], [(3, 6), (11, 21)]⟩)]⟩) Tryz.func86 (by kernel_rfl) (by kernel_rfl) (by kernel_rfl) (Eq.mp (by kernel_rfl) h)
def F54_l2 (L2 : Option Addr → Int → World → Prop) (n2 : Option Addr) (i : Int) (w_2 : World) (R : Ending → World → Prop) : Prop :=
 Br (!(n2).isNone)
 (InR .i64 (i + (1 : Int)) ∧ NonNil n2 fun p7 =>
 LdP (w_2.cell? (p7.add 7)) fun x9 =>
 L2 x9 (i + (1 : Int)) w_2)
 (R (.returned (.int .i64 i)) w_2)
def F54 (n : Option Addr) (w_ : World) (R : Ending → World → Prop) : Prop :=
 ∃ (I : Option Addr → Int → World → Prop) (m : Option Addr → Int → World → Nat), I n ((-1) : Int) w_ ∧
 ∀ (n2 : Option Addr) (i : Int) (w1 : World), I n2 i w1 → F54_l2 (fun n2' i' w2 => I n2' i' w2 ∧ m n2' i' w2 < m n2 i w1) n2 i w1 R
theorem ok54 (n : Option Addr) {w : World} {R : Ending → World → Prop} (h : F54 n w R) : Calls Tryz.prog 54 #[(.pointer n)] w R :=
  vc_calls (pl := ⟨13, ⟨[]⟩, [], [(2, ⟨[(0, (.s .ptr)), (3, (.s (.int .i64)))], [(0, 12)]⟩)]⟩) Tryz.func54 (by kernel_rfl) (by kernel_rfl) (by kernel_rfl) (Eq.mp (by kernel_rfl) h)
def F76 (x_0 : Int) (x_1 : ByteArray) (x_2 : Option Addr) (x_2N : Nat) (x_2C : Nat) (x_3 : ByteArray) (x_4 : Option Addr) (x_4N : Nat) (x_4C : Nat) (w_ : World) (R : Ending → World → Prop) : Prop :=
 Al w_ #[(.int .i64 x_0), (.string x_1), (.slice x_2 x_2N x_2C), (.string x_3), (.slice x_4 x_4N x_4C)] 45 fun g1 w1 =>
 LdI .i64 (w1.cell? g1) fun x6 =>
 Br (x6 == (1 : Int))
 (LdStr (w1.cell? (g1.add 1)) fun x10 =>
 Calls Tryz.prog 89 #[(.string x10)] w1 (post R fun v w1_2 =>
 ∃ (x11 : Bool), v = (.bool x11) ∧
 Br (!x11)
 (R (.returned (.int .i64 6)) w1_2)
 (LdSl (w1_2.cell? (g1.add 2)) fun x14 x14N x14C =>
 Calls Tryz.prog 90 #[(.slice x14 x14N x14C)] w1_2 (post R fun v2 w1_3 =>
 ∃ (x15 : Int), v2 = (.int .i64 x15) ∧
 R (.returned (.int .i64 x15)) w1_3))))
 (Br (x6 == (2 : Int))
 (LdStr (w1.cell? (g1.add 3)) fun x20 =>
 Calls Tryz.prog 91 #[(.string x20)] w1 (post R fun v w1_2 =>
 ∃ (x21_0 : Int) (x21_1 : Int), v = (.tuple #[(.int .i64 x21_0), (.int .i64 x21_1)]) ∧
 R (.returned (.int .i64 x21_1)) w1_2))
 (R (.returned (.int .i64 1)) w1))
theorem ok76 (x_0 : Int) (x_1 : ByteArray) (x_2 : Option Addr) (x_2N : Nat) (x_2C : Nat) (x_3 : ByteArray) (x_4 : Option Addr) (x_4N : Nat) (x_4C : Nat) {w : World} {R : Ending → World → Prop} (h : F76 x_0 x_1 x_2 x_2N x_2C x_3 x_4 x_4N x_4C w R) : Calls Tryz.prog 76 #[(.agg #[(.int .i64 x_0), (.string x_1), (.slice x_2 x_2N x_2C), (.string x_3), (.slice x_4 x_4N x_4C)])] w R :=
  vc_calls (pl := ⟨25, ⟨[]⟩, [], []⟩) Tryz.func76 (by kernel_rfl) (by kernel_rfl) (by kernel_rfl) (Eq.mp (by kernel_rfl) h)
def F56 (where_ : Int) (at_ : Int) (w_ : World) (R : Ending → World → Prop) : Prop :=
 Br (decide (where_ ≥ (1 : Int)))
 (Br (decide (where_ ≤ (4 : Int)))
 (Br (at_ != (0 : Int))
 (R (.returned (.bool true)) w_)
 (R (.returned (.bool (decide (where_ ≤ (2 : Int))))) w_))
 (R (.returned (.bool false)) w_))
 (R (.returned (.bool false)) w_)
theorem ok56 (where_ : Int) (at_ : Int) {w : World} {R : Ending → World → Prop} (h : F56 where_ at_ w R) : Calls Tryz.prog 56 #[(.int .i64 where_), (.int .u64 at_)] w R :=
  vc_calls (pl := ⟨19, ⟨[]⟩, [], []⟩) Tryz.func56 (by kernel_rfl) (by kernel_rfl) (by kernel_rfl) (Eq.mp (by kernel_rfl) h)
def F147_l3 (x : Option Addr) (xN : Nat) (target : ByteArray) (cmp : Value) (L3 : Int → Int → World → Prop) (i : Int) (j : Int) (w_2 : World) (R : Ending → World → Prop) : Prop :=
 Br (decide (i < j))
 (InR .i64 (i + j) ∧ InR .u64 ((i + j)) ∧ InR .i64 ((((i + j)).fdiv (2 ^ (min ((1 : Int)).toNat 64)))) ∧ IdxA x xN ((((i + j)).fdiv (2 ^ (min ((1 : Int)).toNat 64)))) 2 fun q27 =>
 LdStr (w_2.cell? q27) fun x28_0 =>
 LdStr (w_2.cell? (q27.add 1)) fun x28_1 =>
 CallV Tryz.prog cmp #[(.agg #[(.string x28_0), (.string x28_1)]), (.string target)] w_2 R (fun v w1 =>
 ∃ (x30 : Int), v = (.int .i64 x30) ∧
 Br (decide (x30 < (0 : Int)))
 (InR .i64 (((((i + j)).fdiv (2 ^ (min ((1 : Int)).toNat 64)))) + (1 : Int)) ∧ L3 (((((i + j)).fdiv (2 ^ (min ((1 : Int)).toNat 64)))) + (1 : Int)) j w1)
 (L3 i ((((i + j)).fdiv (2 ^ (min ((1 : Int)).toNat 64)))) w1)))
 (Br (decide (i < ((xN : Nat) : Int)))
 (IdxA x xN i 2 fun q43 =>
 LdStr (w_2.cell? q43) fun x44_0 =>
 LdStr (w_2.cell? (q43.add 1)) fun x44_1 =>
 CallV Tryz.prog cmp #[(.agg #[(.string x44_0), (.string x44_1)]), (.string target)] w_2 R (fun v w1 =>
 ∃ (x46 : Int), v = (.int .i64 x46) ∧
 R (.returned (.tuple #[(.int .i64 i), (.bool (x46 == (0 : Int)))])) w1))
 (R (.returned (.tuple #[(.int .i64 i), (.bool false)])) w_2))
def F147 (x : Option Addr) (xN : Nat) (xC : Nat) (target : ByteArray) (cmp : Value) (w_ : World) (R : Ending → World → Prop) : Prop :=
 ∃ (I : Int → Int → World → Prop) (m : Int → Int → World → Nat), I (0 : Int) ((xN : Nat) : Int) w_ ∧
 ∀ (i : Int) (j : Int) (w1 : World), I i j w1 → F147_l3 x xN target cmp (fun i' j' w2 => I i' j' w2 ∧ m i' j' w2 < m i j w1) i j w1 R
theorem ok147 (x : Option Addr) (xN : Nat) (xC : Nat) (target : ByteArray) (cmp : Value) {w : World} {R : Ending → World → Prop} (h : F147 x xN xC target cmp w R) : Calls Tryz.prog 147 #[(.slice x xN xC), (.string target), cmp] w R :=
  vc_calls (pl := ⟨49, ⟨[]⟩, [], [(3, ⟨[(9, (.s (.int .i64))), (10, (.s (.int .i64)))], [(9, 35)]⟩)]⟩) Tryz.func147 (by kernel_rfl) (by kernel_rfl) (by kernel_rfl) (Eq.mp (by kernel_rfl) h)
def F78 (s : Option Addr) (sN : Nat) (sC : Nat) (w_ : World) (R : Ending → World → Prop) : Prop :=
 Br (s).isNone
 (R (.returned (.slice none 0 0)) w_)
 (Al w_ #[] 96 fun g5 w1 =>
 Raw Tryz.prog (Builtin.append_ #[42, 42] 42 #[(.slice (some g5) 0 0), (.slice s sN sC)]) w1 fun v w1_2 =>
 ∃ (x7 : Option Addr) (x7N : Nat) (x7C : Nat), v = (.slice x7 x7N x7C) ∧
 R (.returned (.slice x7 x7N x7C)) w1_2)
theorem ok78 (s : Option Addr) (sN : Nat) (sC : Nat) {w : World} {R : Ending → World → Prop} (h : F78 s sN sC w R) : Calls Tryz.prog 78 #[(.slice s sN sC)] w R :=
  vc_calls (pl := ⟨8, ⟨[]⟩, [], []⟩) Tryz.func78 (by kernel_rfl) (by kernel_rfl) (by kernel_rfl) (Eq.mp (by kernel_rfl) h)
def F146 (s : Option Addr) (sN : Nat) (sC : Nat) (i : Int) (j : Int) (w_ : World) (R : Ending → World → Prop) : Prop :=
 SlB i j ((sN : Nat) : Int)
 (((sN : Nat) : Int) ≤ ((sC : Nat) : Int) ∧ Br (i == j)
 (R (.returned (.slice s sN sC)) w_)
 (∃ S : World → Prop, S w_.drew ∧ SlB 0 i ((sC : Nat) : Int)
 (SlB j ((sN : Nat) : Int) ((sC : Nat) : Int)
 (Raw Tryz.prog (Builtin.append_ #[24, 24] 24 #[(.slice s (i).toNat sC), (.slice (SlA s sC (j).toNat 1) ((((sN : Nat) : Int)).toNat - (j).toNat) (sC - (j).toNat))]) w_.drew fun v w1_2 =>
 ∃ (x26 : Option Addr) (x26N : Nat) (x26C : Nat), v = (.slice x26 x26N x26C) ∧
 SlB ((x26N : Nat) : Int) ((sN : Nat) : Int) ((x26C : Nat) : Int)
 (Raw Tryz.prog (Builtin.clear_ #[24] 0 #[(.slice (SlA x26 x26C (((x26N : Nat) : Int)).toNat 1) ((((sN : Nat) : Int)).toNat - (((x26N : Nat) : Int)).toNat) (x26C - (((x26N : Nat) : Int)).toNat))]) w1_2 fun v2 w1_3 =>
 R (.returned (.slice x26 x26N x26C)) w1_3)))))
theorem ok146 (s : Option Addr) (sN : Nat) (sC : Nat) (i : Int) (j : Int) {w : World} {R : Ending → World → Prop} (h : F146 s sN sC i j w R) : Calls Tryz.prog 146 #[(.slice s sN sC), (.int .i64 i), (.int .i64 j)] w R :=
  vc_calls (pl := ⟨33, ⟨[]⟩, [], []⟩) Tryz.func146 (by kernel_rfl) (by kernel_rfl) (by kernel_rfl) (Eq.mp (by kernel_rfl) h)
def F142 (s : Option Addr) (sN : Nat) (sC : Nat) (i : Int) (j : Int) (w_ : World) (R : Ending → World → Prop) : Prop :=
 SlB i j ((sN : Nat) : Int)
 (((sN : Nat) : Int) ≤ ((sC : Nat) : Int) ∧ Br (i == j)
 (R (.returned (.slice s sN sC)) w_)
 (∃ S : World → Prop, S w_.drew ∧ SlB 0 i ((sC : Nat) : Int)
 (SlB j ((sN : Nat) : Int) ((sC : Nat) : Int)
 (Raw Tryz.prog (Builtin.append_ #[42, 42] 42 #[(.slice s (i).toNat sC), (.slice (SlA s sC (j).toNat 2) ((((sN : Nat) : Int)).toNat - (j).toNat) (sC - (j).toNat))]) w_.drew fun v w1_2 =>
 ∃ (x26 : Option Addr) (x26N : Nat) (x26C : Nat), v = (.slice x26 x26N x26C) ∧
 SlB ((x26N : Nat) : Int) ((sN : Nat) : Int) ((x26C : Nat) : Int)
 (Raw Tryz.prog (Builtin.clear_ #[42] 0 #[(.slice (SlA x26 x26C (((x26N : Nat) : Int)).toNat 2) ((((sN : Nat) : Int)).toNat - (((x26N : Nat) : Int)).toNat) (x26C - (((x26N : Nat) : Int)).toNat))]) w1_2 fun v2 w1_3 =>
 R (.returned (.slice x26 x26N x26C)) w1_3)))))
theorem ok142 (s : Option Addr) (sN : Nat) (sC : Nat) (i : Int) (j : Int) {w : World} {R : Ending → World → Prop} (h : F142 s sN sC i j w R) : Calls Tryz.prog 142 #[(.slice s sN sC), (.int .i64 i), (.int .i64 j)] w R :=
  vc_calls (pl := ⟨33, ⟨[]⟩, [], []⟩) Tryz.func142 (by kernel_rfl) (by kernel_rfl) (by kernel_rfl) (Eq.mp (by kernel_rfl) h)
def F80_l2 (s : Option Addr) (sN : Nat) (v : Option Addr) (L2 : Int → World → Prop) (x8 : Int) (w_2 : World) (R : Ending → World → Prop) : Prop :=
 Br (decide (x8 < ((sN : Nat) : Int)))
 (IdxA s sN x8 1 fun q14 =>
 LdP (w_2.cell? q14) fun x15 =>
 PtrOk w_2 v x15 ∧ Br (decide (v = x15))
 (R (.returned (.int .i64 x8)) w_2)
 (InR .i64 (x8 + (1 : Int)) ∧ L2 (x8 + (1 : Int)) w_2))
 (R (.returned (.int .i64 (-1))) w_2)
def F80 (s : Option Addr) (sN : Nat) (sC : Nat) (v : Option Addr) (w_ : World) (R : Ending → World → Prop) : Prop :=
 ∃ (I : Int → World → Prop) (m : Int → World → Nat), I (0 : Int) w_ ∧
 ∀ (x8 : Int) (w1 : World), I x8 w1 → F80_l2 s sN v (fun x8' w2 => I x8' w2 ∧ m x8' w2 < m x8 w1) x8 w1 R
theorem ok80 (s : Option Addr) (sN : Nat) (sC : Nat) (v : Option Addr) {w : World} {R : Ending → World → Prop} (h : F80 s sN sC v w R) : Calls Tryz.prog 80 #[(.slice s sN sC), (.pointer v)] w R :=
  vc_calls (pl := ⟨19, ⟨[]⟩, [], [(2, ⟨[(8, (.s (.int .i64)))], [(4, 6), (8, 19)]⟩)]⟩) Tryz.func80 (by kernel_rfl) (by kernel_rfl) (by kernel_rfl) (Eq.mp (by kernel_rfl) h)
def F81 (s : Option Addr) (sN : Nat) (sC : Nat) (i : Int) (v : Option Addr) (vN : Nat) (vC : Nat) (w_ : World) (R : Ending → World → Prop) : Prop :=
 SlB i ((sN : Nat) : Int) ((sC : Nat) : Int)
 (Br (((vN : Nat) : Int) == (0 : Int))
 (R (.returned (.slice s sN sC)) w_)
 (Br (i == ((sN : Nat) : Int))
 (Raw Tryz.prog (Builtin.append_ #[24, 24] 24 #[(.slice s sN sC), (.slice v vN vC)]) w_ fun v2 w1 =>
 ∃ (x25 : Option Addr) (x25N : Nat) (x25C : Nat), v2 = (.slice x25 x25N x25C) ∧
 R (.returned (.slice x25 x25N x25C)) w1)
 (InR .i64 (((sN : Nat) : Int) + ((vN : Nat) : Int)) ∧ Br (decide ((((sN : Nat) : Int) + ((vN : Nat) : Int)) > ((sC : Nat) : Int)))
 (SlB 0 i ((sC : Nat) : Int)
 (InR .i64 (((sN : Nat) : Int) + ((vN : Nat) : Int)) ∧ InR .i64 ((((sN : Nat) : Int) + ((vN : Nat) : Int)) - i) ∧ Raw Tryz.prog (Builtin.append_ #[24, 3] 24 #[(.slice s (i).toNat sC), (.int .i64 ((((sN : Nat) : Int) + ((vN : Nat) : Int)) - i))]) w_ fun v2 w1 =>
 ∃ (x40 : Option Addr) (x40N : Nat) (x40C : Nat), v2 = (.slice x40 x40N x40C) ∧
 SlB i ((x40N : Nat) : Int) ((x40C : Nat) : Int)
 (Raw Tryz.prog (Builtin.copy_ #[24, 24] 3 #[(.slice (SlA x40 x40C (i).toNat 1) ((((x40N : Nat) : Int)).toNat - (i).toNat) (x40C - (i).toNat)), (.slice v vN vC)]) w1 fun v3 w1_2 =>
 ∃ (x45 : Int), v3 = (.int .i64 x45) ∧
 ∃ S : World → Prop, S w1_2.drew ∧ InR .i64 (i + ((vN : Nat) : Int)) ∧ SlB (i + ((vN : Nat) : Int)) ((x40N : Nat) : Int) ((x40C : Nat) : Int)
 (SlB i ((sN : Nat) : Int) ((sC : Nat) : Int)
 (Raw Tryz.prog (Builtin.copy_ #[24, 24] 3 #[(.slice (SlA x40 x40C ((i + ((vN : Nat) : Int))).toNat 1) ((((x40N : Nat) : Int)).toNat - ((i + ((vN : Nat) : Int))).toNat) (x40C - ((i + ((vN : Nat) : Int))).toNat)), (.slice (SlA s sC (i).toNat 1) ((((sN : Nat) : Int)).toNat - (i).toNat) (sC - (i).toNat))]) w1_2.drew fun v4 w1_4 =>
 ∃ (x54 : Int), v4 = (.int .i64 x54) ∧
 R (.returned (.slice x40 x40N x40C)) w1_4)))))
 (InR .i64 (((sN : Nat) : Int) + ((vN : Nat) : Int)) ∧ SlB 0 (((sN : Nat) : Int) + ((vN : Nat) : Int)) ((sC : Nat) : Int)
 (InR .i64 (i + ((vN : Nat) : Int)) ∧ SlB (i + ((vN : Nat) : Int)) ((((((sN : Nat) : Int) + ((vN : Nat) : Int))).toNat : Nat) : Int) ((sC : Nat) : Int)
 (ByRow Tryz.prog 92 #[(.slice v vN vC), (.slice (SlA s sC ((i + ((vN : Nat) : Int))).toNat 1) ((((((((sN : Nat) : Int) + ((vN : Nat) : Int))).toNat : Nat) : Int)).toNat - ((i + ((vN : Nat) : Int))).toNat) (sC - ((i + ((vN : Nat) : Int))).toNat))] w_ (fun v2 w1 =>
 ∃ (x67 : Bool), v2 = (.bool x67) ∧
 Br (!x67)
 (∃ S : World → Prop, S w1.drew ∧ InR .i64 (i + ((vN : Nat) : Int)) ∧ SlB (i + ((vN : Nat) : Int)) ((((((sN : Nat) : Int) + ((vN : Nat) : Int))).toNat : Nat) : Int) ((sC : Nat) : Int)
 (SlB i ((((((sN : Nat) : Int) + ((vN : Nat) : Int))).toNat : Nat) : Int) ((sC : Nat) : Int)
 (Raw Tryz.prog (Builtin.copy_ #[24, 24] 3 #[(.slice (SlA s sC ((i + ((vN : Nat) : Int))).toNat 1) ((((((((sN : Nat) : Int) + ((vN : Nat) : Int))).toNat : Nat) : Int)).toNat - ((i + ((vN : Nat) : Int))).toNat) (sC - ((i + ((vN : Nat) : Int))).toNat)), (.slice (SlA s sC (i).toNat 1) ((((((((sN : Nat) : Int) + ((vN : Nat) : Int))).toNat : Nat) : Int)).toNat - (i).toNat) (sC - (i).toNat))]) w1.drew fun v3 w1_3 =>
 ∃ (x77 : Int), v3 = (.int .i64 x77) ∧
 SlB i ((((((sN : Nat) : Int) + ((vN : Nat) : Int))).toNat : Nat) : Int) ((sC : Nat) : Int)
 (Raw Tryz.prog (Builtin.copy_ #[24, 24] 3 #[(.slice (SlA s sC (i).toNat 1) ((((((((sN : Nat) : Int) + ((vN : Nat) : Int))).toNat : Nat) : Int)).toNat - (i).toNat) (sC - (i).toNat)), (.slice v vN vC)]) w1_3 fun v4 w1_4 =>
 ∃ (x82 : Int), v4 = (.int .i64 x82) ∧
 R (.returned (.slice s ((((sN : Nat) : Int) + ((vN : Nat) : Int))).toNat sC)) w1_4))))
 (SlB ((sN : Nat) : Int) ((((((sN : Nat) : Int) + ((vN : Nat) : Int))).toNat : Nat) : Int) ((sC : Nat) : Int)
 (Raw Tryz.prog (Builtin.copy_ #[24, 24] 3 #[(.slice (SlA s sC (((sN : Nat) : Int)).toNat 1) ((((((((sN : Nat) : Int) + ((vN : Nat) : Int))).toNat : Nat) : Int)).toNat - (((sN : Nat) : Int)).toNat) (sC - (((sN : Nat) : Int)).toNat)), (.slice v vN vC)]) w1 fun v3 w1_2 =>
 ∃ (x88 : Int), v3 = (.int .i64 x88) ∧
 SlB i ((((((sN : Nat) : Int) + ((vN : Nat) : Int))).toNat : Nat) : Int) ((sC : Nat) : Int)
 (Calls Tryz.prog 93 #[(.slice (SlA s sC (i).toNat 1) ((((((((sN : Nat) : Int) + ((vN : Nat) : Int))).toNat : Nat) : Int)).toNat - (i).toNat) (sC - (i).toNat)), (.int .i64 ((vN : Nat) : Int))] w1_2 (post R fun v4 w1_3 =>
 v4 = (.tuple #[]) ∧
 R (.returned (.slice s ((((sN : Nat) : Int) + ((vN : Nat) : Int))).toNat sC)) w1_3)))))))))))
theorem ok81 (s : Option Addr) (sN : Nat) (sC : Nat) (i : Int) (v : Option Addr) (vN : Nat) (vC : Nat) {w : World} {R : Ending → World → Prop} (h : F81 s sN sC i v vN vC w R) : Calls Tryz.prog 81 #[(.slice s sN sC), (.int .i64 i), (.slice v vN vC)] w R :=
  vc_calls (pl := ⟨95, ⟨[]⟩, [], []⟩) Tryz.func81 (by kernel_rfl) (by kernel_rfl) (by kernel_rfl) (Eq.mp (by kernel_rfl) h)
def F145 (s : Option Addr) (sN : Nat) (sC : Nat) (i : Int) (v : Option Addr) (vN : Nat) (vC : Nat) (w_ : World) (R : Ending → World → Prop) : Prop :=
 SlB i ((sN : Nat) : Int) ((sC : Nat) : Int)
 (Br (((vN : Nat) : Int) == (0 : Int))
 (R (.returned (.slice s sN sC)) w_)
 (Br (i == ((sN : Nat) : Int))
 (Raw Tryz.prog (Builtin.append_ #[42, 42] 42 #[(.slice s sN sC), (.slice v vN vC)]) w_ fun v2 w1 =>
 ∃ (x25 : Option Addr) (x25N : Nat) (x25C : Nat), v2 = (.slice x25 x25N x25C) ∧
 R (.returned (.slice x25 x25N x25C)) w1)
 (InR .i64 (((sN : Nat) : Int) + ((vN : Nat) : Int)) ∧ Br (decide ((((sN : Nat) : Int) + ((vN : Nat) : Int)) > ((sC : Nat) : Int)))
 (SlB 0 i ((sC : Nat) : Int)
 (InR .i64 (((sN : Nat) : Int) + ((vN : Nat) : Int)) ∧ InR .i64 ((((sN : Nat) : Int) + ((vN : Nat) : Int)) - i) ∧ Raw Tryz.prog (Builtin.append_ #[42, 3] 42 #[(.slice s (i).toNat sC), (.int .i64 ((((sN : Nat) : Int) + ((vN : Nat) : Int)) - i))]) w_ fun v2 w1 =>
 ∃ (x40 : Option Addr) (x40N : Nat) (x40C : Nat), v2 = (.slice x40 x40N x40C) ∧
 SlB i ((x40N : Nat) : Int) ((x40C : Nat) : Int)
 (Raw Tryz.prog (Builtin.copy_ #[42, 42] 3 #[(.slice (SlA x40 x40C (i).toNat 2) ((((x40N : Nat) : Int)).toNat - (i).toNat) (x40C - (i).toNat)), (.slice v vN vC)]) w1 fun v3 w1_2 =>
 ∃ (x45 : Int), v3 = (.int .i64 x45) ∧
 ∃ S : World → Prop, S w1_2.drew ∧ InR .i64 (i + ((vN : Nat) : Int)) ∧ SlB (i + ((vN : Nat) : Int)) ((x40N : Nat) : Int) ((x40C : Nat) : Int)
 (SlB i ((sN : Nat) : Int) ((sC : Nat) : Int)
 (Raw Tryz.prog (Builtin.copy_ #[42, 42] 3 #[(.slice (SlA x40 x40C ((i + ((vN : Nat) : Int))).toNat 2) ((((x40N : Nat) : Int)).toNat - ((i + ((vN : Nat) : Int))).toNat) (x40C - ((i + ((vN : Nat) : Int))).toNat)), (.slice (SlA s sC (i).toNat 2) ((((sN : Nat) : Int)).toNat - (i).toNat) (sC - (i).toNat))]) w1_2.drew fun v4 w1_4 =>
 ∃ (x54 : Int), v4 = (.int .i64 x54) ∧
 R (.returned (.slice x40 x40N x40C)) w1_4)))))
 (InR .i64 (((sN : Nat) : Int) + ((vN : Nat) : Int)) ∧ SlB 0 (((sN : Nat) : Int) + ((vN : Nat) : Int)) ((sC : Nat) : Int)
 (InR .i64 (i + ((vN : Nat) : Int)) ∧ SlB (i + ((vN : Nat) : Int)) ((((((sN : Nat) : Int) + ((vN : Nat) : Int))).toNat : Nat) : Int) ((sC : Nat) : Int)
 (ByRow Tryz.prog 150 #[(.slice v vN vC), (.slice (SlA s sC ((i + ((vN : Nat) : Int))).toNat 2) ((((((((sN : Nat) : Int) + ((vN : Nat) : Int))).toNat : Nat) : Int)).toNat - ((i + ((vN : Nat) : Int))).toNat) (sC - ((i + ((vN : Nat) : Int))).toNat))] w_ (fun v2 w1 =>
 ∃ (x67 : Bool), v2 = (.bool x67) ∧
 Br (!x67)
 (∃ S : World → Prop, S w1.drew ∧ InR .i64 (i + ((vN : Nat) : Int)) ∧ SlB (i + ((vN : Nat) : Int)) ((((((sN : Nat) : Int) + ((vN : Nat) : Int))).toNat : Nat) : Int) ((sC : Nat) : Int)
 (SlB i ((((((sN : Nat) : Int) + ((vN : Nat) : Int))).toNat : Nat) : Int) ((sC : Nat) : Int)
 (Raw Tryz.prog (Builtin.copy_ #[42, 42] 3 #[(.slice (SlA s sC ((i + ((vN : Nat) : Int))).toNat 2) ((((((((sN : Nat) : Int) + ((vN : Nat) : Int))).toNat : Nat) : Int)).toNat - ((i + ((vN : Nat) : Int))).toNat) (sC - ((i + ((vN : Nat) : Int))).toNat)), (.slice (SlA s sC (i).toNat 2) ((((((((sN : Nat) : Int) + ((vN : Nat) : Int))).toNat : Nat) : Int)).toNat - (i).toNat) (sC - (i).toNat))]) w1.drew fun v3 w1_3 =>
 ∃ (x77 : Int), v3 = (.int .i64 x77) ∧
 SlB i ((((((sN : Nat) : Int) + ((vN : Nat) : Int))).toNat : Nat) : Int) ((sC : Nat) : Int)
 (Raw Tryz.prog (Builtin.copy_ #[42, 42] 3 #[(.slice (SlA s sC (i).toNat 2) ((((((((sN : Nat) : Int) + ((vN : Nat) : Int))).toNat : Nat) : Int)).toNat - (i).toNat) (sC - (i).toNat)), (.slice v vN vC)]) w1_3 fun v4 w1_4 =>
 ∃ (x82 : Int), v4 = (.int .i64 x82) ∧
 R (.returned (.slice s ((((sN : Nat) : Int) + ((vN : Nat) : Int))).toNat sC)) w1_4))))
 (SlB ((sN : Nat) : Int) ((((((sN : Nat) : Int) + ((vN : Nat) : Int))).toNat : Nat) : Int) ((sC : Nat) : Int)
 (Raw Tryz.prog (Builtin.copy_ #[42, 42] 3 #[(.slice (SlA s sC (((sN : Nat) : Int)).toNat 2) ((((((((sN : Nat) : Int) + ((vN : Nat) : Int))).toNat : Nat) : Int)).toNat - (((sN : Nat) : Int)).toNat) (sC - (((sN : Nat) : Int)).toNat)), (.slice v vN vC)]) w1 fun v3 w1_2 =>
 ∃ (x88 : Int), v3 = (.int .i64 x88) ∧
 SlB i ((((((sN : Nat) : Int) + ((vN : Nat) : Int))).toNat : Nat) : Int) ((sC : Nat) : Int)
 (Calls Tryz.prog 151 #[(.slice (SlA s sC (i).toNat 2) ((((((((sN : Nat) : Int) + ((vN : Nat) : Int))).toNat : Nat) : Int)).toNat - (i).toNat) (sC - (i).toNat)), (.int .i64 ((vN : Nat) : Int))] w1_2 (post R fun v4 w1_3 =>
 v4 = (.tuple #[]) ∧
 R (.returned (.slice s ((((sN : Nat) : Int) + ((vN : Nat) : Int))).toNat sC)) w1_3)))))))))))
theorem ok145 (s : Option Addr) (sN : Nat) (sC : Nat) (i : Int) (v : Option Addr) (vN : Nat) (vC : Nat) {w : World} {R : Ending → World → Prop} (h : F145 s sN sC i v vN vC w R) : Calls Tryz.prog 145 #[(.slice s sN sC), (.int .i64 i), (.slice v vN vC)] w R :=
  vc_calls (pl := ⟨95, ⟨[]⟩, [], []⟩) Tryz.func145 (by kernel_rfl) (by kernel_rfl) (by kernel_rfl) (Eq.mp (by kernel_rfl) h)
end Go.Proofs.YthbeeonmfbigcaaGreatDoor
set_option linter.unusedVariables false
set_option maxRecDepth 100000
namespace Go.Proofs.YthbeeonmfbigcaaGreatDoor
open Go.Vc
def F5_j3 (d : Option Addr) (n : Int) (w_2 : World) (R : Ending → World → Prop) : Prop :=
 Al w_2 #[] 41 fun g16 w1 =>
 Calls Tryz.prog 30 #[(.pointer d), (.int .u64 n), (.slice (some g16) 0 0)] w1 (post R fun v w1_2 =>
 ∃ (x17 : Option Addr) (x17N : Nat) (x17C : Nat), v = (.slice x17 x17N x17C) ∧
 R (.returned (.tuple #[(.slice x17 x17N x17C), (.int .i64 0)])) w1_2)
def F5 (d : Option Addr) (n : Int) (w_ : World) (R : Ending → World → Prop) : Prop :=
 ∃ J3 : World → Prop, (∀  (w1 : World), J3 w1 → F5_j3 d n w1 R) ∧
 (Br (n != (0 : Int))
 (Calls Tryz.prog 29 #[(.pointer d), (.int .u64 n)] w_ (post R fun v w1 =>
 ∃ (x11 : Bool), v = (.bool x11) ∧
 Br (!x11)
 (R (.returned (.tuple #[(.slice none 0 0), (.int .i64 8)])) w1)
 (J3 w1)))
 (J3 w_))
theorem ok5 (d : Option Addr) (n : Int) {w : World} {R : Ending → World → Prop} (h : F5 d n w R) : Calls Tryz.prog 5 #[(.pointer d), (.int .u64 n)] w R :=
  vc_calls (pl := ⟨18, ⟨[]⟩, [(3, ⟨[], [(4, 14)]⟩)], []⟩) Tryz.func5 (by kernel_rfl) (by kernel_rfl) (by kernel_rfl) (Eq.mp (by kernel_rfl) h)
def F24_l7 (d : Option Addr) (x16_0 : Option Addr) (x16_0N : Nat) (L7 : Int → World → Prop) (i : Int) (w_2 : World) (R : Ending → World → Prop) : Prop :=
 Br (decide (i < ((x16_0N : Nat) : Int)))
 (IdxA x16_0 x16_0N i 1 fun q40 =>
 LdI .u64 (w_2.cell? q40) fun x41 =>
 Calls Tryz.prog 33 #[(.pointer d), (.int .u64 x41)] w_2 (post R fun v5 w1_7 =>
 ∃ (x42 : Int), v5 = (.int .i64 x42) ∧
 ∃ S : World → Prop, S w1_7.drew ∧ NonNil d fun p44 =>
 ∃ (x46 : Option Addr) (x46N : Nat) (x46C : Nat), Held S p44 (.slice x46 x46N x46C) ∧ NonNil d fun p49 =>
 ∃ (x51 : Option Addr) (x51N : Nat) (x51C : Nat), Held S p49 (.slice x51 x51N x51C) ∧ IdxA x51 x51N x42 8 fun q53 =>
 ∃ (x55 : Int), Held S q53 (.int .u32 x55) ∧ IdxA x46 x46N x42 8 fun q57 =>
 St w1_7.drew q57 (.int .u32 x55) fun w1_9 =>
 St w1_9 (q57.add 1) (.bool false) fun w1_10 =>
 St w1_10 (q57.add 2) (.int .i64 0) fun w1_11 =>
 St w1_11 (q57.add 3) (.string (ByteArray.mk #[])) fun w1_12 =>
 St w1_12 (q57.add 4) (.slice none 0 0) fun w1_13 =>
 St w1_13 (q57.add 5) (.string (ByteArray.mk #[])) fun w1_14 =>
 St w1_14 (q57.add 6) (.int .u64 0) fun w1_15 =>
 St w1_15 (q57.add 7) (.slice none 0 0) fun w1_16 =>
 InR .i64 (i + (1 : Int)) ∧ L7 (i + (1 : Int)) w1_16))
 (R (.returned (.int .i64 0)) w_2)
def F24 (d : Option Addr) (n : Int) (w_ : World) (R : Ending → World → Prop) : Prop :=
 Calls Tryz.prog 29 #[(.pointer d), (.int .u64 n)] w_ (post R fun v w1 =>
 ∃ (x11 : Bool), v = (.bool x11) ∧
 Br (!x11)
 (R (.returned (.int .i64 8)) w1)
 (Calls Tryz.prog 5 #[(.pointer d), (.int .u64 n)] w1 (post R fun v2 w1_2 =>
 ∃ (x16_0 : Option Addr) (x16_0N : Nat) (x16_0C : Nat) (x16_1 : Int), v2 = (.tuple #[(.slice x16_0 x16_0N x16_0C), (.int .i64 x16_1)]) ∧
 Al w1_2 #[] 85 fun g20 w1_3 =>
 NonNil d fun p22 =>
 LdSl (w1_3.cell? p22) fun x24 x24N x24C =>
 Raw Tryz.prog (Builtin.append_ #[36, 36] 36 #[(.slice (some g20) 0 0), (.slice x24 x24N x24C)]) w1_3 fun v3 w1_4 =>
 ∃ (x25 : Option Addr) (x25N : Nat) (x25C : Nat), v3 = (.slice x25 x25N x25C) ∧
 NonNil d fun p26 =>
 St w1_4 p26 (.slice x25 x25N x25C) fun w1_5 =>
 Calls Tryz.prog 47 #[(.pointer d), (.int .u64 n)] w1_5 (post R fun v4 w1_6 =>
 v4 = (.tuple #[]) ∧
 ∃ (I : Int → World → Prop) (m : Int → World → Nat), I (0 : Int) w1_6 ∧
 ∀ (i : Int) (w1_7 : World), I i w1_7 → F24_l7 d x16_0 x16_0N (fun i' w2 => I i' w2 ∧ m i' w2 < m i w1_7) i w1_7 R))))
theorem ok24 (d : Option Addr) (n : Int) {w : World} {R : Ending → World → Prop} (h : F24 d n w R) : Calls Tryz.prog 24 #[(.pointer d), (.int .u64 n)] w R :=
  vc_calls (pl := ⟨58, ⟨[]⟩, [], [(7, ⟨[(7, (.s (.int .i64)))], [(7, 58)]⟩)]⟩) Tryz.func24 (by kernel_rfl) (by kernel_rfl) (by kernel_rfl) (Eq.mp (by kernel_rfl) h)
def F28_l6 (d : Option Addr) (name : ByteArray) (x14_0 : Int) (x27 : Option Addr) (x27N : Nat) (x27C : Nat) (L6 : Int → World → Prop) (k : Int) (w_2 : World) (R : Ending → World → Prop) : Prop :=
 Br (decide (k < ((x27N : Nat) : Int)))
 (IdxA x27 x27N k 2 fun q36 =>
 LdStr (w_2.cell? q36) fun x38 =>
 Br (x38.toList == name.toList)
 (∃ S : World → Prop, S w_2.drew ∧ NonNil d fun p42 =>
 ∃ (x44 : Option Addr) (x44N : Nat) (x44C : Nat), Held S p42 (.slice x44 x44N x44C) ∧ SlB 0 k ((x27C : Nat) : Int)
 (InR .i64 (k + (1 : Int)) ∧ SlB (k + (1 : Int)) ((x27N : Nat) : Int) ((x27C : Nat) : Int)
 (Al w_2.drew #[] 96 fun g46 w1_3 =>
 S w1_3 ∧ Raw Tryz.prog (Builtin.append_ #[42, 42] 42 #[(.slice (some g46) 0 0), (.slice x27 (k).toNat x27C)]) w1_3 fun v2 w1_4 =>
 ∃ (x50 : Option Addr) (x50N : Nat) (x50C : Nat), v2 = (.slice x50 x50N x50C) ∧
 S w1_4 ∧ Raw Tryz.prog (Builtin.append_ #[42, 42] 42 #[(.slice x50 x50N x50C), (.slice (SlA x27 x27C ((k + (1 : Int))).toNat 2) ((((x27N : Nat) : Int)).toNat - ((k + (1 : Int))).toNat) (x27C - ((k + (1 : Int))).toNat))]) w1_4 fun v3 w1_5 =>
 ∃ (x55 : Option Addr) (x55N : Nat) (x55C : Nat), v3 = (.slice x55 x55N x55C) ∧
 S w1_5 ∧ IdxA x44 x44N x14_0 8 fun q56 =>
 St w1_5 (q56.add 4) (.slice x55 x55N x55C) fun w1_6 =>
 R (.returned (.int .i64 0)) w1_6)))
 (InR .i64 (k + (1 : Int)) ∧ L6 (k + (1 : Int)) w_2))
 (R (.returned (.int .i64 35)) w_2)
def F28 (d : Option Addr) (n : Int) (name : ByteArray) (w_ : World) (R : Ending → World → Prop) : Prop :=
 Calls Tryz.prog 48 #[(.pointer d), (.int .u64 n), (.int .i64 1)] w_ (post R fun v w1 =>
 ∃ (x14_0 : Int) (x14_1 : Int), v = (.tuple #[(.int .i64 x14_0), (.int .i64 x14_1)]) ∧
 Br (x14_1 != (0 : Int))
 (R (.returned (.int .i64 x14_1)) w1)
 (NonNil d fun p21 =>
 LdSl (w1.cell? p21) fun x23 x23N x23C =>
 IdxA x23 x23N x14_0 8 fun q25 =>
 LdSl (w1.cell? (q25.add 4)) fun x27 x27N x27C =>
 ∃ (I : Int → World → Prop) (m : Int → World → Nat), I (0 : Int) w1 ∧
 ∀ (k : Int) (w1_2 : World), I k w1_2 → F28_l6 d name x14_0 x27 x27N x27C (fun k' w2 => I k' w2 ∧ m k' w2 < m k w1_2) k w1_2 R))
theorem ok28 (d : Option Addr) (n : Int) (name : ByteArray) {w : World} {R : Ending → World → Prop} (h : F28 d n name w R) : Calls Tryz.prog 28 #[(.pointer d), (.int .u64 n), (.string name)] w R :=
  vc_calls (pl := ⟨58, ⟨[]⟩, [], [(6, ⟨[(10, (.s (.int .i64)))], [(6, 7), (10, 58)]⟩)]⟩) Tryz.func28 (by kernel_rfl) (by kernel_rfl) (by kernel_rfl) (Eq.mp (by kernel_rfl) h)
def F71 (d : Option Addr) (n : Int) (w_ : World) (R : Ending → World → Prop) : Prop :=
 Al w_ #[(.int .i64 0), (.string (ByteArray.mk #[])), (.slice none 0 0), (.string (ByteArray.mk #[])), (.slice none 0 0)] 45 fun g4 w1 =>
 Calls Tryz.prog 33 #[(.pointer d), (.int .u64 n)] w1 (post R fun v w1_2 =>
 ∃ (x10 : Int), v = (.int .i64 x10) ∧
 Br (decide (x10 < (0 : Int)))
 (St w1_2 g4 (.int .i64 0) fun w1_3 =>
 St w1_3 (g4.add 1) (.string (ByteArray.mk #[])) fun w1_4 =>
 St w1_4 (g4.add 2) (.slice none 0 0) fun w1_5 =>
 St w1_5 (g4.add 3) (.string (ByteArray.mk #[])) fun w1_6 =>
 St w1_6 (g4.add 4) (.slice none 0 0) fun w1_7 =>
 LdI .i64 (w1_7.cell? g4) fun res0_0 =>
 LdStr (w1_7.cell? (g4.add 1)) fun res0_1 =>
 LdSl (w1_7.cell? (g4.add 2)) fun res0_2 res0_2N res0_2C =>
 LdStr (w1_7.cell? (g4.add 3)) fun res0_3 =>
 LdSl (w1_7.cell? (g4.add 4)) fun res0_4 res0_4N res0_4C =>
 R (.returned (.tuple #[(.agg #[(.int .i64 res0_0), (.string res0_1), (.slice res0_2 res0_2N res0_2C), (.string res0_3), (.slice res0_4 res0_4N res0_4C)]), (.int .i64 8)])) w1_7)
 (NonNil d fun p15 =>
 LdSl (w1_2.cell? p15) fun x17 x17N x17C =>
 IdxA x17 x17N x10 8 fun q19 =>
 LdI .u32 (w1_2.cell? q19) fun x20_0 =>
 LdB (w1_2.cell? (q19.add 1)) fun x20_1 =>
 LdI .i64 (w1_2.cell? (q19.add 2)) fun x20_2 =>
 LdStr (w1_2.cell? (q19.add 3)) fun x20_3 =>
 LdSl (w1_2.cell? (q19.add 4)) fun x20_4 x20_4N x20_4C =>
 LdStr (w1_2.cell? (q19.add 5)) fun x20_5 =>
 LdI .u64 (w1_2.cell? (q19.add 6)) fun x20_6 =>
 LdSl (w1_2.cell? (q19.add 7)) fun x20_7 x20_7N x20_7C =>
 Al w1_2 #[(.int .u32 0), (.bool false), (.int .i64 0), (.string (ByteArray.mk #[])), (.slice none 0 0), (.string (ByteArray.mk #[])), (.int .u64 0), (.slice none 0 0)] 85 fun s w1_3 =>
 St w1_3 s (.int .u32 x20_0) fun w1_4 =>
 St w1_4 (s.add 1) (.bool x20_1) fun w1_5 =>
 St w1_5 (s.add 2) (.int .i64 x20_2) fun w1_6 =>
 St w1_6 (s.add 3) (.string x20_3) fun w1_7 =>
 St w1_7 (s.add 4) (.slice x20_4 x20_4N x20_4C) fun w1_8 =>
 St w1_8 (s.add 5) (.string x20_5) fun w1_9 =>
 St w1_9 (s.add 6) (.int .u64 x20_6) fun w1_10 =>
 St w1_10 (s.add 7) (.slice x20_7 x20_7N x20_7C) fun w1_11 =>
 LdI .i64 (w1_11.cell? (s.add 2)) fun x22 =>
 LdStr (w1_11.cell? (s.add 3)) fun x24 =>
 LdSl (w1_11.cell? (s.add 4)) fun x26 x26N x26C =>
 LdStr (w1_11.cell? (s.add 5)) fun x28 =>
 St w1_11 g4 (.int .i64 x22) fun w1_12 =>
 St w1_12 (g4.add 1) (.string x24) fun w1_13 =>
 St w1_13 (g4.add 2) (.slice x26 x26N x26C) fun w1_14 =>
 St w1_14 (g4.add 3) (.string x28) fun w1_15 =>
 St w1_15 (g4.add 4) (.slice none 0 0) fun w1_16 =>
 LdI .i64 (w1_16.cell? g4) fun res0_0 =>
 LdStr (w1_16.cell? (g4.add 1)) fun res0_1 =>
 LdSl (w1_16.cell? (g4.add 2)) fun res0_2 res0_2N res0_2C =>
 LdStr (w1_16.cell? (g4.add 3)) fun res0_3 =>
 LdSl (w1_16.cell? (g4.add 4)) fun res0_4 res0_4N res0_4C =>
 R (.returned (.tuple #[(.agg #[(.int .i64 res0_0), (.string res0_1), (.slice res0_2 res0_2N res0_2C), (.string res0_3), (.slice res0_4 res0_4N res0_4C)]), (.int .i64 0)])) w1_16))
theorem ok71 (d : Option Addr) (n : Int) {w : World} {R : Ending → World → Prop} (h : F71 d n w R) : Calls Tryz.prog 71 #[(.pointer d), (.int .u64 n)] w R :=
  vc_calls (pl := ⟨30, ⟨[]⟩, [], []⟩) Tryz.func71 (by kernel_rfl) (by kernel_rfl) (by kernel_rfl) (Eq.mp (by kernel_rfl) h)
def F55 (d : Option Addr) (i : Int) (w_ : World) (R : Ending → World → Prop) : Prop :=
 NonNil d fun p6 =>
 LdSl (w_.cell? p6) fun x8 x8N x8C =>
 IdxA x8 x8N i 8 fun q10 =>
 LdI .u32 (w_.cell? q10) fun x12 =>
 InR .u64 (x12) ∧ InR .u64 ((x12) * (2 ^ (min ((32 : Int)).toNat 64))) ∧ InR .i64 (i + (1 : Int)) ∧ InR .u64 ((i + (1 : Int))) ∧ R (.returned (.int .u64 (bOr .u64 ((x12) * (2 ^ (min ((32 : Int)).toNat 64))) ((i + (1 : Int)))))) w_
theorem ok55 (d : Option Addr) (i : Int) {w : World} {R : Ending → World → Prop} (h : F55 d i w R) : Calls Tryz.prog 55 #[(.pointer d), (.int .i64 i)] w R :=
  vc_calls (pl := ⟨19, ⟨[]⟩, [], []⟩) Tryz.func55 (by kernel_rfl) (by kernel_rfl) (by kernel_rfl) (Eq.mp (by kernel_rfl) h)
def F21 (d : Option Addr) (where_ : Int) (at_ : Int) (x_0 : Int) (x_1 : ByteArray) (x_2 : Option Addr) (x_2N : Nat) (x_2C : Nat) (x_3 : ByteArray) (x_4 : Option Addr) (x_4N : Nat) (x_4C : Nat) (w_ : World) (R : Ending → World → Prop) : Prop :=
 Al w_ #[(.int .i64 x_0), (.string x_1), (.slice x_2 x_2N x_2C), (.string x_3), (.slice x_4 x_4N x_4C)] 45 fun g7 w1 =>
 Calls Tryz.prog 38 #[(.pointer d), (.int .i64 where_), (.int .u64 at_)] w1 (post R fun v w1_2 =>
 ∃ (x20_0 : Int) (x20_1 : Int), v = (.tuple #[(.int .u64 x20_0), (.int .i64 x20_1)]) ∧
 Br (x20_1 == (1 : Int))
 (R (.returned (.tuple #[(.int .u64 0), (.int .i64 x20_1)])) w1_2)
 (LdI .i64 (w1_2.cell? g7) fun x26_0 =>
 LdStr (w1_2.cell? (g7.add 1)) fun x26_1 =>
 LdSl (w1_2.cell? (g7.add 2)) fun x26_2 x26_2N x26_2C =>
 LdStr (w1_2.cell? (g7.add 3)) fun x26_3 =>
 LdSl (w1_2.cell? (g7.add 4)) fun x26_4 x26_4N x26_4C =>
 Calls Tryz.prog 39 #[(.agg #[(.int .i64 x26_0), (.string x26_1), (.slice x26_2 x26_2N x26_2C), (.string x26_3), (.slice x26_4 x26_4N x26_4C)])] w1_2 (post R fun v2 w1_3 =>
 ∃ (x27 : Int), v2 = (.int .i64 x27) ∧
 Br (x27 != (0 : Int))
 (R (.returned (.tuple #[(.int .u64 0), (.int .i64 x27)])) w1_3)
 (Br (x20_1 != (0 : Int))
 (R (.returned (.tuple #[(.int .u64 0), (.int .i64 x20_1)])) w1_3)
 (LdI .i64 (w1_3.cell? g7) fun x35_0 =>
 LdStr (w1_3.cell? (g7.add 1)) fun x35_1 =>
 LdSl (w1_3.cell? (g7.add 2)) fun x35_2 x35_2N x35_2C =>
 LdStr (w1_3.cell? (g7.add 3)) fun x35_3 =>
 LdSl (w1_3.cell? (g7.add 4)) fun x35_4 x35_4N x35_4C =>
 Calls Tryz.prog 40 #[(.agg #[(.int .i64 x35_0), (.string x35_1), (.slice x35_2 x35_2N x35_2C), (.string x35_3), (.slice x35_4 x35_4N x35_4C)])] w1_3 (post R fun v3 w1_4 =>
 ∃ (x36_0 : Int) (x36_1 : Int), v3 = (.tuple #[(.int .i64 x36_0), (.int .i64 x36_1)]) ∧
 Calls Tryz.prog 41 #[(.pointer d), (.int .u64 x20_0)] w1_4 (post R fun v4 w1_5 =>
 ∃ (x41 : Int), v4 = (.int .i64 x41) ∧
 InR .i64 (x41 + (1 : Int)) ∧ InR .i64 ((x41 + (1 : Int)) + x36_1) ∧ Br (decide (((x41 + (1 : Int)) + x36_1) > (64 : Int)))
 (R (.returned (.tuple #[(.int .u64 0), (.int .i64 32)])) w1_5)
 (Calls Tryz.prog 42 #[(.pointer d)] w1_5 (post R fun v5 w1_6 =>
 ∃ (x47 : Int), v5 = (.int .i64 x47) ∧
 InR .i64 (x47 + x36_0) ∧ Br (decide ((x47 + x36_0) > (4096 : Int)))
 (R (.returned (.tuple #[(.int .u64 0), (.int .i64 33)])) w1_6)
 (Al w1_6 #[] 85 fun g52 w1_7 =>
 NonNil d fun p54 =>
 LdSl (w1_7.cell? p54) fun x56 x56N x56C =>
 Raw Tryz.prog (Builtin.append_ #[36, 36] 36 #[(.slice (some g52) 0 0), (.slice x56 x56N x56C)]) w1_7 fun v6 w1_8 =>
 ∃ (x57 : Option Addr) (x57N : Nat) (x57C : Nat), v6 = (.slice x57 x57N x57C) ∧
 NonNil d fun p58 =>
 St w1_8 p58 (.slice x57 x57N x57C) fun w1_9 =>
 LdI .i64 (w1_9.cell? g7) fun x61_0 =>
 LdStr (w1_9.cell? (g7.add 1)) fun x61_1 =>
 LdSl (w1_9.cell? (g7.add 2)) fun x61_2 x61_2N x61_2C =>
 LdStr (w1_9.cell? (g7.add 3)) fun x61_3 =>
 LdSl (w1_9.cell? (g7.add 4)) fun x61_4 x61_4N x61_4C =>
 Calls Tryz.prog 43 #[(.pointer d), (.agg #[(.int .i64 x61_0), (.string x61_1), (.slice x61_2 x61_2N x61_2C), (.string x61_3), (.slice x61_4 x61_4N x61_4C)]), (.int .u64 x20_0)] w1_9 (post R fun v7 w1_10 =>
 ∃ (x63 : Int), v7 = (.int .u64 x63) ∧
 Calls Tryz.prog 44 #[(.pointer d), (.int .u64 x63), (.int .u64 x20_0), (.int .i64 where_), (.int .u64 at_)] w1_10 (post R fun v8 w1_11 =>
 v8 = (.tuple #[]) ∧
 R (.returned (.tuple #[(.int .u64 x63), (.int .i64 0)])) w1_11))))))))))))
theorem ok21 (d : Option Addr) (where_ : Int) (at_ : Int) (x_0 : Int) (x_1 : ByteArray) (x_2 : Option Addr) (x_2N : Nat) (x_2C : Nat) (x_3 : ByteArray) (x_4 : Option Addr) (x_4N : Nat) (x_4C : Nat) {w : World} {R : Ending → World → Prop} (h : F21 d where_ at_ x_0 x_1 x_2 x_2N x_2C x_3 x_4 x_4N x_4C w R) : Calls Tryz.prog 21 #[(.pointer d), (.int .i64 where_), (.int .u64 at_), (.agg #[(.int .i64 x_0), (.string x_1), (.slice x_2 x_2N x_2C), (.string x_3), (.slice x_4 x_4N x_4C)])] w R :=
  vc_calls (pl := ⟨71, ⟨[]⟩, [], []⟩) Tryz.func21 (by kernel_rfl) (by kernel_rfl) (by kernel_rfl) (Eq.mp (by kernel_rfl) h)
def F51 (d : Option Addr) (h_ : Int) (w_ : World) (R : Ending → World → Prop) : Prop :=
 Br (h_ == (0 : Int))
 (NonNil d fun p8 =>
 LdSl (w_.cell? (p8.add 1)) fun x10 x10N x10C =>
 R (.returned (.slice x10 x10N x10C)) w_)
 (∃ S : World → Prop, S w_.drew ∧ NonNil d fun p12 =>
 ∃ (x14 : Option Addr) (x14N : Nat) (x14C : Nat), Held S p12 (.slice x14 x14N x14C) ∧ Calls Tryz.prog 33 #[(.pointer d), (.int .u64 h_)] w_.drew (post R fun v w1_2 =>
 ∃ (x17 : Int), v = (.int .i64 x17) ∧
 S w1_2 ∧ IdxA x14 x14N x17 8 fun q18 =>
 ∃ (x20 : Option Addr) (x20N : Nat) (x20C : Nat), Held S (q18.add 7) (.slice x20 x20N x20C) ∧ R (.returned (.slice x20 x20N x20C)) w1_2))
theorem ok51 (d : Option Addr) (h_ : Int) {w : World} {R : Ending → World → Prop} (h : F51 d h_ w R) : Calls Tryz.prog 51 #[(.pointer d), (.int .u64 h_)] w R :=
  vc_calls (pl := ⟨21, ⟨[]⟩, [], []⟩) Tryz.func51 (by kernel_rfl) (by kernel_rfl) (by kernel_rfl) (Eq.mp (by kernel_rfl) h)
def F29 (d : Option Addr) (h_ : Int) (w_ : World) (R : Ending → World → Prop) : Prop :=
 Calls Tryz.prog 33 #[(.pointer d), (.int .u64 h_)] w_ (post R fun v w1 =>
 ∃ (x7 : Int), v = (.int .i64 x7) ∧
 R (.returned (.bool (decide (x7 ≥ (0 : Int))))) w1)
theorem ok29 (d : Option Addr) (h_ : Int) {w : World} {R : Ending → World → Prop} (h : F29 d h_ w R) : Calls Tryz.prog 29 #[(.pointer d), (.int .u64 h_)] w R :=
  vc_calls (pl := ⟨9, ⟨[]⟩, [], []⟩) Tryz.func29 (by kernel_rfl) (by kernel_rfl) (by kernel_rfl) (Eq.mp (by kernel_rfl) h)
def F23_j8 (d : Option Addr) (n : Int) (where_ : Int) (at_ : Int) (x19_0 : Int) (x19_1 : Int) (w_3 : World) (R : Ending → World → Prop) : Prop :=
 Br (x19_1 != (0 : Int))
 (R (.returned (.int .i64 x19_1)) w_3)
 (Calls Tryz.prog 46 #[(.pointer d), (.int .u64 n)] w_3 (post R fun v2 w1_2 =>
 ∃ (x47_0_0 : Int) (x47_0_1 : ByteArray) (x47_0_2 : Option Addr) (x47_0_2N : Nat) (x47_0_2C : Nat) (x47_0_3 : ByteArray) (x47_0_4 : Option Addr) (x47_0_4N : Nat) (x47_0_4C : Nat) (x47_1 : Int), v2 = (.tuple #[(.agg #[(.int .i64 x47_0_0), (.string x47_0_1), (.slice x47_0_2 x47_0_2N x47_0_2C), (.string x47_0_3), (.slice x47_0_4 x47_0_4N x47_0_4C)]), (.int .i64 x47_1)]) ∧
 Al w1_2 #[(.int .i64 0), (.string (ByteArray.mk #[])), (.slice none 0 0), (.string (ByteArray.mk #[])), (.slice none 0 0)] 45 fun t w1_3 =>
 St w1_3 t (.int .i64 x47_0_0) fun w1_4 =>
 St w1_4 (t.add 1) (.string x47_0_1) fun w1_5 =>
 St w1_5 (t.add 2) (.slice x47_0_2 x47_0_2N x47_0_2C) fun w1_6 =>
 St w1_6 (t.add 3) (.string x47_0_3) fun w1_7 =>
 St w1_7 (t.add 4) (.slice x47_0_4 x47_0_4N x47_0_4C) fun w1_8 =>
 LdI .i64 (w1_8.cell? t) fun x51_0 =>
 LdStr (w1_8.cell? (t.add 1)) fun x51_1 =>
 LdSl (w1_8.cell? (t.add 2)) fun x51_2 x51_2N x51_2C =>
 LdStr (w1_8.cell? (t.add 3)) fun x51_3 =>
 LdSl (w1_8.cell? (t.add 4)) fun x51_4 x51_4N x51_4C =>
 Calls Tryz.prog 40 #[(.agg #[(.int .i64 x51_0), (.string x51_1), (.slice x51_2 x51_2N x51_2C), (.string x51_3), (.slice x51_4 x51_4N x51_4C)])] w1_8 (post R fun v3 w1_9 =>
 ∃ (x52_0 : Int) (x52_1 : Int), v3 = (.tuple #[(.int .i64 x52_0), (.int .i64 x52_1)]) ∧
 Calls Tryz.prog 41 #[(.pointer d), (.int .u64 x19_0)] w1_9 (post R fun v4 w1_10 =>
 ∃ (x57 : Int), v4 = (.int .i64 x57) ∧
 InR .i64 (x57 + (1 : Int)) ∧ InR .i64 ((x57 + (1 : Int)) + x52_1) ∧ Br (decide (((x57 + (1 : Int)) + x52_1) > (64 : Int)))
 (R (.returned (.int .i64 32)) w1_10)
 (Al w1_10 #[] 85 fun g63 w1_11 =>
 NonNil d fun p65 =>
 LdSl (w1_11.cell? p65) fun x67 x67N x67C =>
 Raw Tryz.prog (Builtin.append_ #[36, 36] 36 #[(.slice (some g63) 0 0), (.slice x67 x67N x67C)]) w1_11 fun v5 w1_12 =>
 ∃ (x68 : Option Addr) (x68N : Nat) (x68C : Nat), v5 = (.slice x68 x68N x68C) ∧
 NonNil d fun p69 =>
 St w1_12 p69 (.slice x68 x68N x68C) fun w1_13 =>
 Calls Tryz.prog 47 #[(.pointer d), (.int .u64 n)] w1_13 (post R fun v6 w1_14 =>
 v6 = (.tuple #[]) ∧
 Calls Tryz.prog 44 #[(.pointer d), (.int .u64 n), (.int .u64 x19_0), (.int .i64 where_), (.int .u64 at_)] w1_14 (post R fun v7 w1_15 =>
 v7 = (.tuple #[]) ∧
 R (.returned (.int .i64 0)) w1_15)))))))
def F23_j6 (d : Option Addr) (n : Int) (where_ : Int) (at_ : Int) (x19_0 : Int) (x19_1 : Int) (w_2 : World) (R : Ending → World → Prop) : Prop :=
 ∃ J8 : World → Prop, (∀  (w1_2 : World), J8 w1_2 → F23_j8 d n where_ at_ x19_0 x19_1 w1_2 R) ∧
 (Br (at_ != (0 : Int))
 (Calls Tryz.prog 45 #[(.pointer d), (.int .u64 at_), (.int .u64 n)] w_2 (post R fun v2 w1_2 =>
 ∃ (x39 : Bool), v2 = (.bool x39) ∧
 Br x39
 (R (.returned (.int .i64 34)) w1_2)
 (J8 w1_2)))
 (J8 w_2))
def F23 (d : Option Addr) (n : Int) (where_ : Int) (at_ : Int) (w_ : World) (R : Ending → World → Prop) : Prop :=
 Calls Tryz.prog 38 #[(.pointer d), (.int .i64 where_), (.int .u64 at_)] w_ (post R fun v w1 =>
 ∃ (x19_0 : Int) (x19_1 : Int), v = (.tuple #[(.int .u64 x19_0), (.int .i64 x19_1)]) ∧
 Br (x19_1 == (1 : Int))
 (R (.returned (.int .i64 x19_1)) w1)
 (∃ J6 : World → Prop, (∀  (w1_2 : World), J6 w1_2 → F23_j6 d n where_ at_ x19_0 x19_1 w1_2 R) ∧
 (Calls Tryz.prog 29 #[(.pointer d), (.int .u64 n)] w1 (post R fun v2 w1_2 =>
 ∃ (x27 : Bool), v2 = (.bool x27) ∧
 Br (!x27)
 (R (.returned (.int .i64 8)) w1_2)
 (Br (x19_1 == (8 : Int))
 (R (.returned (.int .i64 8)) w1_2)
 (J6 w1_2))))))
theorem ok23 (d : Option Addr) (n : Int) (where_ : Int) (at_ : Int) {w : World} {R : Ending → World → Prop} (h : F23 d n where_ at_ w R) : Calls Tryz.prog 23 #[(.pointer d), (.int .u64 n), (.int .i64 where_), (.int .u64 at_)] w R :=
  vc_calls (pl := ⟨80, ⟨[]⟩, [(8, ⟨[], [(8, 9), (33, 41)]⟩), (6, ⟨[], [(8, 9), (25, 33)]⟩)], []⟩) Tryz.func23 (by kernel_rfl) (by kernel_rfl) (by kernel_rfl) (Eq.mp (by kernel_rfl) h)
def F7 (d : Option Addr) (n : Int) (w_ : World) (R : Ending → World → Prop) : Prop :=
 Calls Tryz.prog 33 #[(.pointer d), (.int .u64 n)] w_ (post R fun v w1 =>
 ∃ (x9 : Int), v = (.int .i64 x9) ∧
 Br (decide (x9 < (0 : Int)))
 (R (.returned (.tuple #[(.int .u64 0), (.int .i64 8)])) w1)
 (NonNil d fun p13 =>
 LdSl (w1.cell? p13) fun x15 x15N x15C =>
 IdxA x15 x15N x9 8 fun q17 =>
 LdI .u64 (w1.cell? (q17.add 6)) fun x19 =>
 R (.returned (.tuple #[(.int .u64 x19), (.int .i64 0)])) w1))
theorem ok7 (d : Option Addr) (n : Int) {w : World} {R : Ending → World → Prop} (h : F7 d n w R) : Calls Tryz.prog 7 #[(.pointer d), (.int .u64 n)] w R :=
  vc_calls (pl := ⟨20, ⟨[]⟩, [], []⟩) Tryz.func7 (by kernel_rfl) (by kernel_rfl) (by kernel_rfl) (Eq.mp (by kernel_rfl) h)
def F27_j18 (d : Option Addr) (x18_0 : Int) (x42 : Option Addr) (x42N : Nat) (x42C : Nat) (x88 : Option Addr) (x88N : Nat) (x88C : Nat) (k2 : Int) (w_5 : World) (R : Ending → World → Prop) : Prop :=
 ∃ S : World → Prop, S w_5.drew ∧ NonNil d fun p93 =>
 ∃ (x95 : Option Addr) (x95N : Nat) (x95C : Nat), Held S p93 (.slice x95 x95N x95C) ∧ SlB k2 ((x42N : Nat) : Int) ((x42C : Nat) : Int)
 (Raw Tryz.prog (Builtin.append_ #[42, 42] 42 #[(.slice x88 x88N x88C), (.slice (SlA x42 x42C (k2).toNat 2) ((((x42N : Nat) : Int)).toNat - (k2).toNat) (x42C - (k2).toNat))]) w_5.drew fun v6 w1_9 =>
 ∃ (x101 : Option Addr) (x101N : Nat) (x101C : Nat), v6 = (.slice x101 x101N x101C) ∧
 S w1_9 ∧ IdxA x95 x95N x18_0 8 fun q102 =>
 St w1_9 (q102.add 4) (.slice x101 x101N x101C) fun w1_10 =>
 R (.returned (.int .i64 0)) w1_10)
def F27_j15 (d : Option Addr) (name : ByteArray) (value : ByteArray) (x18_0 : Int) (x42 : Option Addr) (x42N : Nat) (x42C : Nat) (g43 : Addr) (k : Int) (there : Bool) (w_4 : World) (R : Ending → World → Prop) : Prop :=
 SlB 0 k ((x42C : Nat) : Int)
 (Raw Tryz.prog (Builtin.append_ #[42, 42] 42 #[(.slice (some g43) 0 0), (.slice x42 (k).toNat x42C)]) w_4 fun v4 w1_5 =>
 ∃ (x83 : Option Addr) (x83N : Nat) (x83C : Nat), v4 = (.slice x83 x83N x83C) ∧
 Al w1_5 #[(.string name), (.string value)] 96 fun g87 w1_6 =>
 Raw Tryz.prog (Builtin.append_ #[42, 42] 42 #[(.slice x83 x83N x83C), (.slice (some g87) 1 1)]) w1_6 fun v5 w1_7 =>
 ∃ (x88 : Option Addr) (x88N : Nat) (x88C : Nat), v5 = (.slice x88 x88N x88C) ∧
 ∃ J18 : Int → World → Prop, (∀ (k2 : Int) (w1_8 : World), J18 k2 w1_8 → F27_j18 d x18_0 x42 x42N x42C x88 x88N x88C k2 w1_8 R) ∧
 (Br there
 (InR .i64 (k + (1 : Int)) ∧ J18 (k + (1 : Int)) w1_7)
 (J18 k w1_7)))
def F27_j13 (d : Option Addr) (name : ByteArray) (value : ByteArray) (x18_0 : Int) (x42 : Option Addr) (x42N : Nat) (x42C : Nat) (g43 : Addr) (k : Int) (there : Bool) (w_3 : World) (R : Ending → World → Prop) : Prop :=
 ∃ J15 : World → Prop, (∀  (w1_5 : World), J15 w1_5 → F27_j15 d name value x18_0 x42 x42N x42C g43 k there w1_5 R) ∧
 (Br (!there)
 (Br (decide (((x42N : Nat) : Int) ≥ (32 : Int)))
 (R (.returned (.int .i64 2)) w_3)
 (J15 w_3))
 (J15 w_3))
def F27_j12 (d : Option Addr) (name : ByteArray) (value : ByteArray) (x18_0 : Int) (x42 : Option Addr) (x42N : Nat) (x42C : Nat) (g43 : Addr) (k : Int) (w_2 : World) (R : Ending → World → Prop) : Prop :=
 ∃ J13 : Bool → World → Prop, (∀ (there : Bool) (w1_5 : World), J13 there w1_5 → F27_j13 d name value x18_0 x42 x42N x42C g43 k there w1_5 R) ∧
 (Br (decide (k < ((x42N : Nat) : Int)))
 (IdxA x42 x42N k 2 fun q66 =>
 LdStr (w_2.cell? q66) fun x68 =>
 J13 (x68.toList == name.toList) w_2)
 (J13 false w_2))
def F27_j11 (L10 : Int → World → Prop) (k : Int) (w_3 : World) (R : Ending → World → Prop) : Prop :=
 InR .i64 (k + (1 : Int)) ∧ L10 (k + (1 : Int)) w_3
def F27_l10 (name : ByteArray) (x42 : Option Addr) (x42N : Nat) (J12 : Int → World → Prop) (L10 : Int → World → Prop) (k : Int) (w_2 : World) (R : Ending → World → Prop) : Prop :=
 ∃ J11 : World → Prop, (∀  (w1_5 : World), J11 w1_5 → F27_j11 L10 k w1_5 R) ∧
 (Br (decide (k < ((x42N : Nat) : Int)))
 (IdxA x42 x42N k 2 fun q51 =>
 LdStr (w_2.cell? q51) fun x53 =>
 Br (Op.bytesLess x53.toList name.toList)
 (J11 w_2)
 (J12 k w_2))
 (J12 k w_2))
def F27 (d : Option Addr) (n : Int) (name : ByteArray) (value : ByteArray) (w_ : World) (R : Ending → World → Prop) : Prop :=
 Calls Tryz.prog 48 #[(.pointer d), (.int .u64 n), (.int .i64 1)] w_ (post R fun v w1 =>
 ∃ (x18_0 : Int) (x18_1 : Int), v = (.tuple #[(.int .i64 x18_0), (.int .i64 x18_1)]) ∧
 Br (x18_1 != (0 : Int))
 (R (.returned (.int .i64 x18_1)) w1)
 (Calls Tryz.prog 49 #[(.string name)] w1 (post R fun v2 w1_2 =>
 ∃ (x25 : Bool), v2 = (.bool x25) ∧
 Br (!x25)
 (R (.returned (.int .i64 6)) w1_2)
 (Calls Tryz.prog 50 #[(.string value)] w1_2 (post R fun v3 w1_3 =>
 ∃ (x29_0 : Int) (x29_1 : Int), v3 = (.tuple #[(.int .i64 x29_0), (.int .i64 x29_1)]) ∧
 Br (x29_1 != (0 : Int))
 (R (.returned (.int .i64 x29_1)) w1_3)
 (NonNil d fun p36 =>
 LdSl (w1_3.cell? p36) fun x38 x38N x38C =>
 IdxA x38 x38N x18_0 8 fun q40 =>
 LdSl (w1_3.cell? (q40.add 4)) fun x42 x42N x42C =>
 Al w1_3 #[] 96 fun g43 w1_4 =>
 ∃ J12 : Int → World → Prop, (∀ (k : Int) (w1_5 : World), J12 k w1_5 → F27_j12 d name value x18_0 x42 x42N x42C g43 k w1_5 R) ∧
 (∃ (I : Int → World → Prop) (m : Int → World → Nat), I (0 : Int) w1_4 ∧
 ∀ (k : Int) (w1_5 : World), I k w1_5 → F27_l10 name x42 x42N J12 (fun k' w2 => I k' w2 ∧ m k' w2 < m k w1_5) k w1_5 R)))))))
theorem ok27 (d : Option Addr) (n : Int) (name : ByteArray) (value : ByteArray) {w : World} {R : Ending → World → Prop} (h : F27 d n name value w R) : Calls Tryz.prog 27 #[(.pointer d), (.int .u64 n), (.string name), (.string value)] w R :=
  vc_calls (pl := ⟨104, ⟨[]⟩, [(11, ⟨[], [(44, 57)]⟩), (18, ⟨[(13, (.s (.int .i64)))], [(13, 92)]⟩), (15, ⟨[], [(8, 9), (72, 79)]⟩), (13, ⟨[(14, (.s .bool))], [(14, 72)]⟩), (12, ⟨[(13, (.s (.int .i64)))], [(13, 59)]⟩)], [(10, ⟨[(13, (.s (.int .i64)))], [(13, 59)]⟩)]⟩) Tryz.func27 (by kernel_rfl) (by kernel_rfl) (by kernel_rfl) (Eq.mp (by kernel_rfl) h)
def F25 (d : Option Addr) (n : Int) (name : ByteArray) (w_ : World) (R : Ending → World → Prop) : Prop :=
 Calls Tryz.prog 48 #[(.pointer d), (.int .u64 n), (.int .i64 1)] w_ (post R fun v w1 =>
 ∃ (x12_0 : Int) (x12_1 : Int), v = (.tuple #[(.int .i64 x12_0), (.int .i64 x12_1)]) ∧
 Br (x12_1 != (0 : Int))
 (R (.returned (.int .i64 x12_1)) w1)
 (Calls Tryz.prog 49 #[(.string name)] w1 (post R fun v2 w1_2 =>
 ∃ (x19 : Bool), v2 = (.bool x19) ∧
 Br (!x19)
 (R (.returned (.int .i64 6)) w1_2)
 (NonNil d fun p22 =>
 LdSl (w1_2.cell? p22) fun x24 x24N x24C =>
 IdxA x24 x24N x12_0 8 fun q27 =>
 St w1_2 (q27.add 3) (.string name) fun w1_3 =>
 R (.returned (.int .i64 0)) w1_3))))
theorem ok25 (d : Option Addr) (n : Int) (name : ByteArray) {w : World} {R : Ending → World → Prop} (h : F25 d n name w R) : Calls Tryz.prog 25 #[(.pointer d), (.int .u64 n), (.string name)] w R :=
  vc_calls (pl := ⟨29, ⟨[]⟩, [], []⟩) Tryz.func25 (by kernel_rfl) (by kernel_rfl) (by kernel_rfl) (Eq.mp (by kernel_rfl) h)
def F26 (d : Option Addr) (n : Int) (text : ByteArray) (w_ : World) (R : Ending → World → Prop) : Prop :=
 Calls Tryz.prog 48 #[(.pointer d), (.int .u64 n), (.int .i64 2)] w_ (post R fun v w1 =>
 ∃ (x12_0 : Int) (x12_1 : Int), v = (.tuple #[(.int .i64 x12_0), (.int .i64 x12_1)]) ∧
 Br (x12_1 != (0 : Int))
 (R (.returned (.int .i64 x12_1)) w1)
 (Calls Tryz.prog 50 #[(.string text)] w1 (post R fun v2 w1_2 =>
 ∃ (x20_0 : Int) (x20_1 : Int), v2 = (.tuple #[(.int .i64 x20_0), (.int .i64 x20_1)]) ∧
 Br (x20_1 != (0 : Int))
 (R (.returned (.int .i64 x20_1)) w1_2)
 (NonNil d fun p27 =>
 LdSl (w1_2.cell? p27) fun x29 x29N x29C =>
 IdxA x29 x29N x12_0 8 fun q32 =>
 St w1_2 (q32.add 5) (.string text) fun w1_3 =>
 R (.returned (.int .i64 0)) w1_3))))
theorem ok26 (d : Option Addr) (n : Int) (text : ByteArray) {w : World} {R : Ending → World → Prop} (h : F26 d n text w R) : Calls Tryz.prog 26 #[(.pointer d), (.int .u64 n), (.string text)] w R :=
  vc_calls (pl := ⟨34, ⟨[]⟩, [], []⟩) Tryz.func26 (by kernel_rfl) (by kernel_rfl) (by kernel_rfl) (Eq.mp (by kernel_rfl) h)
def F46_l6 (d : Option Addr) (g4 : Addr) (g6 : Addr) (x24 : Option Addr) (x24N : Nat) (L6 : Int → World → Prop) (i : Int) (w_2 : World) (R : Ending → World → Prop) : Prop :=
 Br (decide (i < ((x24N : Nat) : Int)))
 (IdxA x24 x24N i 1 fun q35 =>
 LdI .u64 (w_2.cell? q35) fun x36 =>
 Calls Tryz.prog 46 #[(.pointer d), (.int .u64 x36)] w_2 (post R fun v3 w1_10 =>
 ∃ (x37_0_0 : Int) (x37_0_1 : ByteArray) (x37_0_2 : Option Addr) (x37_0_2N : Nat) (x37_0_2C : Nat) (x37_0_3 : ByteArray) (x37_0_4 : Option Addr) (x37_0_4N : Nat) (x37_0_4C : Nat) (x37_1 : Int), v3 = (.tuple #[(.agg #[(.int .i64 x37_0_0), (.string x37_0_1), (.slice x37_0_2 x37_0_2N x37_0_2C), (.string x37_0_3), (.slice x37_0_4 x37_0_4N x37_0_4C)]), (.int .i64 x37_1)]) ∧
 Al w1_10 #[(.int .i64 0), (.string (ByteArray.mk #[])), (.slice none 0 0), (.string (ByteArray.mk #[])), (.slice none 0 0)] 45 fun k w1_11 =>
 St w1_11 k (.int .i64 x37_0_0) fun w1_12 =>
 St w1_12 (k.add 1) (.string x37_0_1) fun w1_13 =>
 St w1_13 (k.add 2) (.slice x37_0_2 x37_0_2N x37_0_2C) fun w1_14 =>
 St w1_14 (k.add 3) (.string x37_0_3) fun w1_15 =>
 St w1_15 (k.add 4) (.slice x37_0_4 x37_0_4N x37_0_4C) fun w1_16 =>
 LdSl (w1_16.cell? (g6.add 4)) fun x41 x41N x41C =>
 LdI .i64 (w1_16.cell? k) fun x42_0 =>
 LdStr (w1_16.cell? (k.add 1)) fun x42_1 =>
 LdSl (w1_16.cell? (k.add 2)) fun x42_2 x42_2N x42_2C =>
 LdStr (w1_16.cell? (k.add 3)) fun x42_3 =>
 LdSl (w1_16.cell? (k.add 4)) fun x42_4 x42_4N x42_4C =>
 Al w1_16 #[(.int .i64 x42_0), (.string x42_1), (.slice x42_2 x42_2N x42_2C), (.string x42_3), (.slice x42_4 x42_4N x42_4C)] 45 fun g43 w1_17 =>
 Raw Tryz.prog (Builtin.append_ #[43, 43] 43 #[(.slice x41 x41N x41C), (.slice (some g43) 1 1)]) w1_17 fun v4 w1_18 =>
 ∃ (x44 : Option Addr) (x44N : Nat) (x44C : Nat), v4 = (.slice x44 x44N x44C) ∧
 St w1_18 (g6.add 4) (.slice x44 x44N x44C) fun w1_19 =>
 InR .i64 (i + (1 : Int)) ∧ L6 (i + (1 : Int)) w1_19))
 (LdI .i64 (w_2.cell? g6) fun x46_0 =>
 LdStr (w_2.cell? (g6.add 1)) fun x46_1 =>
 LdSl (w_2.cell? (g6.add 2)) fun x46_2 x46_2N x46_2C =>
 LdStr (w_2.cell? (g6.add 3)) fun x46_3 =>
 LdSl (w_2.cell? (g6.add 4)) fun x46_4 x46_4N x46_4C =>
 St w_2 g4 (.int .i64 x46_0) fun w1_10 =>
 St w1_10 (g4.add 1) (.string x46_1) fun w1_11 =>
 St w1_11 (g4.add 2) (.slice x46_2 x46_2N x46_2C) fun w1_12 =>
 St w1_12 (g4.add 3) (.string x46_3) fun w1_13 =>
 St w1_13 (g4.add 4) (.slice x46_4 x46_4N x46_4C) fun w1_14 =>
 LdI .i64 (w1_14.cell? g4) fun res0_0 =>
 LdStr (w1_14.cell? (g4.add 1)) fun res0_1 =>
 LdSl (w1_14.cell? (g4.add 2)) fun res0_2 res0_2N res0_2C =>
 LdStr (w1_14.cell? (g4.add 3)) fun res0_3 =>
 LdSl (w1_14.cell? (g4.add 4)) fun res0_4 res0_4N res0_4C =>
 R (.returned (.tuple #[(.agg #[(.int .i64 res0_0), (.string res0_1), (.slice res0_2 res0_2N res0_2C), (.string res0_3), (.slice res0_4 res0_4N res0_4C)]), (.int .i64 0)])) w1_14)
def F46 (d : Option Addr) (n : Int) (w_ : World) (R : Ending → World → Prop) : Prop :=
 Al w_ #[(.int .i64 0), (.string (ByteArray.mk #[])), (.slice none 0 0), (.string (ByteArray.mk #[])), (.slice none 0 0)] 45 fun g4 w1 =>
 Calls Tryz.prog 71 #[(.pointer d), (.int .u64 n)] w1 (post R fun v w1_2 =>
 ∃ (x15_0_0 : Int) (x15_0_1 : ByteArray) (x15_0_2 : Option Addr) (x15_0_2N : Nat) (x15_0_2C : Nat) (x15_0_3 : ByteArray) (x15_0_4 : Option Addr) (x15_0_4N : Nat) (x15_0_4C : Nat) (x15_1 : Int), v = (.tuple #[(.agg #[(.int .i64 x15_0_0), (.string x15_0_1), (.slice x15_0_2 x15_0_2N x15_0_2C), (.string x15_0_3), (.slice x15_0_4 x15_0_4N x15_0_4C)]), (.int .i64 x15_1)]) ∧
 Al w1_2 #[(.int .i64 0), (.string (ByteArray.mk #[])), (.slice none 0 0), (.string (ByteArray.mk #[])), (.slice none 0 0)] 45 fun g6 w1_3 =>
 St w1_3 g6 (.int .i64 x15_0_0) fun w1_4 =>
 St w1_4 (g6.add 1) (.string x15_0_1) fun w1_5 =>
 St w1_5 (g6.add 2) (.slice x15_0_2 x15_0_2N x15_0_2C) fun w1_6 =>
 St w1_6 (g6.add 3) (.string x15_0_3) fun w1_7 =>
 St w1_7 (g6.add 4) (.slice x15_0_4 x15_0_4N x15_0_4C) fun w1_8 =>
 Br (x15_1 != (0 : Int))
 (LdI .i64 (w1_8.cell? g6) fun x20_0 =>
 LdStr (w1_8.cell? (g6.add 1)) fun x20_1 =>
 LdSl (w1_8.cell? (g6.add 2)) fun x20_2 x20_2N x20_2C =>
 LdStr (w1_8.cell? (g6.add 3)) fun x20_3 =>
 LdSl (w1_8.cell? (g6.add 4)) fun x20_4 x20_4N x20_4C =>
 St w1_8 g4 (.int .i64 x20_0) fun w1_9 =>
 St w1_9 (g4.add 1) (.string x20_1) fun w1_10 =>
 St w1_10 (g4.add 2) (.slice x20_2 x20_2N x20_2C) fun w1_11 =>
 St w1_11 (g4.add 3) (.string x20_3) fun w1_12 =>
 St w1_12 (g4.add 4) (.slice x20_4 x20_4N x20_4C) fun w1_13 =>
 LdI .i64 (w1_13.cell? g4) fun res0_0 =>
 LdStr (w1_13.cell? (g4.add 1)) fun res0_1 =>
 LdSl (w1_13.cell? (g4.add 2)) fun res0_2 res0_2N res0_2C =>
 LdStr (w1_13.cell? (g4.add 3)) fun res0_3 =>
 LdSl (w1_13.cell? (g4.add 4)) fun res0_4 res0_4N res0_4C =>
 R (.returned (.tuple #[(.agg #[(.int .i64 res0_0), (.string res0_1), (.slice res0_2 res0_2N res0_2C), (.string res0_3), (.slice res0_4 res0_4N res0_4C)]), (.int .i64 x15_1)])) w1_13)
 (Calls Tryz.prog 51 #[(.pointer d), (.int .u64 n)] w1_8 (post R fun v2 w1_9 =>
 ∃ (x24 : Option Addr) (x24N : Nat) (x24C : Nat), v2 = (.slice x24 x24N x24C) ∧
 ∃ (I : Int → World → Prop) (m : Int → World → Nat), I (0 : Int) w1_9 ∧
 ∀ (i : Int) (w1_10 : World), I i w1_10 → F46_l6 d g4 g6 x24 x24N (fun i' w2 => I i' w2 ∧ m i' w2 < m i w1_10) i w1_10 R)))
theorem ok46 (d : Option Addr) (n : Int) {w : World} {R : Ending → World → Prop} (h : F46 d n w R) : Calls Tryz.prog 46 #[(.pointer d), (.int .u64 n)] w R :=
  vc_calls (pl := ⟨47, ⟨[]⟩, [], [(6, ⟨[(9, (.s (.int .i64)))], [(9, 46)]⟩)]⟩) Tryz.func46 (by kernel_rfl) (by kernel_rfl) (by kernel_rfl) (Eq.mp (by kernel_rfl) h)
def F30_l5 (d : Option Addr) (x17 : Option Addr) (x17N : Nat) (L5 : Option Addr → Nat → Nat → Int → World → Prop) (l3 : Option Addr) (lN3 : Nat) (lC3 : Nat) (i : Int) (w_3 : World) (R : Ending → World → Prop) : Prop :=
 Br (decide (i < ((x17N : Nat) : Int)))
 (IdxA x17 x17N i 1 fun q27 =>
 LdI .u64 (w_3.cell? q27) fun x28 =>
 Calls Tryz.prog 30 #[(.pointer d), (.int .u64 x28), (.slice l3 lN3 lC3)] w_3 (post R fun v2 w1_2 =>
 ∃ (x30 : Option Addr) (x30N : Nat) (x30C : Nat), v2 = (.slice x30 x30N x30C) ∧
 InR .i64 (i + (1 : Int)) ∧ L5 x30 x30N x30C (i + (1 : Int)) w1_2))
 (R (.returned (.slice l3 lN3 lC3)) w_3)
def F30_j3 (d : Option Addr) (h_ : Int) (l2 : Option Addr) (lN2 : Nat) (lC2 : Nat) (w_2 : World) (R : Ending → World → Prop) : Prop :=
 Calls Tryz.prog 51 #[(.pointer d), (.int .u64 h_)] w_2 (post R fun v w1 =>
 ∃ (x17 : Option Addr) (x17N : Nat) (x17C : Nat), v = (.slice x17 x17N x17C) ∧
 ∃ (I : Option Addr → Nat → Nat → Int → World → Prop) (m : Option Addr → Nat → Nat → Int → World → Nat), I l2 lN2 lC2 (0 : Int) w1 ∧
 ∀ (l3 : Option Addr) (lN3 : Nat) (lC3 : Nat) (i : Int) (w1_2 : World), I l3 lN3 lC3 i w1_2 → F30_l5 d x17 x17N (fun l3' lN3' lC3' i' w2 => I l3' lN3' lC3' i' w2 ∧ m l3' lN3' lC3' i' w2 < m l3 lN3 lC3 i w1_2) l3 lN3 lC3 i w1_2 R)
def F30 (d : Option Addr) (h_ : Int) (l : Option Addr) (lN : Nat) (lC : Nat) (w_ : World) (R : Ending → World → Prop) : Prop :=
 ∃ J3 : Option Addr → Nat → Nat → World → Prop, (∀ (l2 : Option Addr) (lN2 : Nat) (lC2 : Nat) (w1 : World), J3 l2 lN2 lC2 w1 → F30_j3 d h_ l2 lN2 lC2 w1 R) ∧
 (Br (h_ != (0 : Int))
 (Al w_ #[(.int .u64 h_)] 41 fun g13 w1 =>
 Raw Tryz.prog (Builtin.append_ #[37, 37] 37 #[(.slice l lN lC), (.slice (some g13) 1 1)]) w1 fun v w1_2 =>
 ∃ (x14 : Option Addr) (x14N : Nat) (x14C : Nat), v = (.slice x14 x14N x14C) ∧
 J3 x14 x14N x14C w1_2)
 (J3 l lN lC w_))
theorem ok30 (d : Option Addr) (h_ : Int) (l : Option Addr) (lN : Nat) (lC : Nat) {w : World} {R : Ending → World → Prop} (h : F30 d h_ l lN lC w R) : Calls Tryz.prog 30 #[(.pointer d), (.int .u64 h_), (.slice l lN lC)] w R :=
  vc_calls (pl := ⟨32, ⟨[]⟩, [(3, ⟨[(2, (.s .slice))], [(2, 15)]⟩)], [(5, ⟨[(2, (.s .slice)), (8, (.s (.int .i64)))], [(2, 3), (8, 31)]⟩)]⟩) Tryz.func30 (by kernel_rfl) (by kernel_rfl) (by kernel_rfl) (Eq.mp (by kernel_rfl) h)
def F33_j4 (h_ : Int) (w_2 : World) (R : Ending → World → Prop) : Prop :=
 R (.returned (.int .i64 (((h_.tmod (4294967296 : Int))) - (1 : Int)))) w_2
def F33 (d : Option Addr) (h_ : Int) (w_ : World) (R : Ending → World → Prop) : Prop :=
 InR .i64 ((h_.tmod (4294967296 : Int))) ∧ InR .i64 (((h_.tmod (4294967296 : Int))) - (1 : Int)) ∧ ∃ J4 : World → Prop, (∀  (w1 : World), J4 w1 → F33_j4 h_ w1 R) ∧
 (Br (decide ((((h_.tmod (4294967296 : Int))) - (1 : Int)) < (0 : Int)))
 (R (.returned (.int .i64 (-1))) w_)
 (NonNil d fun p15 =>
 LdSl (w_.cell? p15) fun x17 x17N x17C =>
 Br (decide ((((h_.tmod (4294967296 : Int))) - (1 : Int)) ≥ ((x17N : Nat) : Int)))
 (R (.returned (.int .i64 (-1))) w_)
 (NonNil d fun p23 =>
 LdSl (w_.cell? p23) fun x25 x25N x25C =>
 IdxA x25 x25N (((h_.tmod (4294967296 : Int))) - (1 : Int)) 8 fun q27 =>
 LdB (w_.cell? (q27.add 1)) fun x29 =>
 Br (!x29)
 (R (.returned (.int .i64 (-1))) w_)
 (Calls Tryz.prog 55 #[(.pointer d), (.int .i64 (((h_.tmod (4294967296 : Int))) - (1 : Int)))] w_ (post R fun v w1 =>
 ∃ (x35 : Int), v = (.int .u64 x35) ∧
 Br (x35 != h_)
 (R (.returned (.int .i64 (-1))) w1)
 (J4 w1))))))
theorem ok33 (d : Option Addr) (h_ : Int) {w : World} {R : Ending → World → Prop} (h : F33 d h_ w R) : Calls Tryz.prog 33 #[(.pointer d), (.int .u64 h_)] w R :=
  vc_calls (pl := ⟨40, ⟨[]⟩, [(4, ⟨[], [(4, 5), (10, 39)]⟩)], []⟩) Tryz.func33 (by kernel_rfl) (by kernel_rfl) (by kernel_rfl) (Eq.mp (by kernel_rfl) h)
def F48 (d : Option Addr) (n : Int) (kind : Int) (w_ : World) (R : Ending → World → Prop) : Prop :=
 Calls Tryz.prog 33 #[(.pointer d), (.int .u64 n)] w_ (post R fun v w1 =>
 ∃ (x11 : Int), v = (.int .i64 x11) ∧
 Br (decide (x11 < (0 : Int)))
 (R (.returned (.tuple #[(.int .i64 0), (.int .i64 8)])) w1)
 (NonNil d fun p15 =>
 LdSl (w1.cell? p15) fun x17 x17N x17C =>
 IdxA x17 x17N x11 8 fun q19 =>
 LdI .i64 (w1.cell? (q19.add 2)) fun x21 =>
 Br (x21 != kind)
 (R (.returned (.tuple #[(.int .i64 0), (.int .i64 30)])) w1)
 (Al w1 #[] 85 fun g25 w1_2 =>
 NonNil d fun p27 =>
 LdSl (w1_2.cell? p27) fun x29 x29N x29C =>
 Raw Tryz.prog (Builtin.append_ #[36, 36] 36 #[(.slice (some g25) 0 0), (.slice x29 x29N x29C)]) w1_2 fun v2 w1_3 =>
 ∃ (x30 : Option Addr) (x30N : Nat) (x30C : Nat), v2 = (.slice x30 x30N x30C) ∧
 NonNil d fun p31 =>
 St w1_3 p31 (.slice x30 x30N x30C) fun w1_4 =>
 R (.returned (.tuple #[(.int .i64 x11), (.int .i64 0)])) w1_4)))
theorem ok48 (d : Option Addr) (n : Int) (kind : Int) {w : World} {R : Ending → World → Prop} (h : F48 d n kind w R) : Calls Tryz.prog 48 #[(.pointer d), (.int .u64 n), (.int .i64 kind)] w R :=
  vc_calls (pl := ⟨34, ⟨[]⟩, [], []⟩) Tryz.func48 (by kernel_rfl) (by kernel_rfl) (by kernel_rfl) (Eq.mp (by kernel_rfl) h)
def F68_j3 (L2 : Int → World → Prop) (i : Int) (w_3 : World) (R : Ending → World → Prop) : Prop :=
 InR .i64 (i + (1 : Int)) ∧ L2 (i + (1 : Int)) w_3
def F68_l2 (d : Option Addr) (L2 : Int → World → Prop) (i : Int) (w_2 : World) (R : Ending → World → Prop) : Prop :=
 NonNil d fun p6 =>
 LdSl (w_2.cell? p6) fun x8 x8N x8C =>
 Br (decide (i < ((x8N : Nat) : Int)))
 (∃ J3 : World → Prop, (∀  (w1 : World), J3 w1 → F68_j3 L2 i w1 R) ∧
 (NonNil d fun p14 =>
 LdSl (w_2.cell? p14) fun x16 x16N x16C =>
 IdxA x16 x16N i 8 fun q18 =>
 LdB (w_2.cell? (q18.add 1)) fun x20 =>
 Br (!x20)
 (NonNil d fun p24 =>
 LdSl (w_2.cell? p24) fun x26 x26N x26C =>
 IdxA x26 x26N i 8 fun q28 =>
 LdI .u32 (w_2.cell? q28) fun x30 =>
 Br (decide (x30 < (4294967295 : Int)))
 (R (.returned (.int .i64 i)) w_2)
 (J3 w_2))
 (J3 w_2)))
 (Al w_2 #[] 85 fun g35 w1 =>
 NonNil d fun p37 =>
 LdSl (w1.cell? p37) fun x39 x39N x39C =>
 Raw Tryz.prog (Builtin.append_ #[36, 36] 36 #[(.slice (some g35) 0 0), (.slice x39 x39N x39C)]) w1 fun v w1_2 =>
 ∃ (x40 : Option Addr) (x40N : Nat) (x40C : Nat), v = (.slice x40 x40N x40C) ∧
 Al w1_2 #[(.int .u32 0), (.bool false), (.int .i64 0), (.string (ByteArray.mk #[])), (.slice none 0 0), (.string (ByteArray.mk #[])), (.int .u64 0), (.slice none 0 0)] 85 fun g42 w1_3 =>
 Raw Tryz.prog (Builtin.append_ #[36, 36] 36 #[(.slice x40 x40N x40C), (.slice (some g42) 1 1)]) w1_3 fun v2 w1_4 =>
 ∃ (x43 : Option Addr) (x43N : Nat) (x43C : Nat), v2 = (.slice x43 x43N x43C) ∧
 NonNil d fun p44 =>
 St w1_4 p44 (.slice x43 x43N x43C) fun w1_5 =>
 NonNil d fun p47 =>
 LdSl (w1_5.cell? p47) fun x49 x49N x49C =>
 InR .i64 (((x49N : Nat) : Int) - (1 : Int)) ∧ R (.returned (.int .i64 (((x49N : Nat) : Int) - (1 : Int)))) w1_5)
def F68 (d : Option Addr) (w_ : World) (R : Ending → World → Prop) : Prop :=
 ∃ (I : Int → World → Prop) (m : Int → World → Nat), I (0 : Int) w_ ∧
 ∀ (i : Int) (w1 : World), I i w1 → F68_l2 d (fun i' w2 => I i' w2 ∧ m i' w2 < m i w1) i w1 R
theorem ok68 (d : Option Addr) {w : World} {R : Ending → World → Prop} (h : F68 d w R) : Calls Tryz.prog 68 #[(.pointer d)] w R :=
  vc_calls (pl := ⟨52, ⟨[]⟩, [(3, ⟨[], [(2, 3), (13, 34)]⟩)], [(2, ⟨[(3, (.s (.int .i64)))], [(2, 34)]⟩)]⟩) Tryz.func68 (by kernel_rfl) (by kernel_rfl) (by kernel_rfl) (Eq.mp (by kernel_rfl) h)
def F41_l2 (d : Option Addr) (L2 : Int → Int → World → Prop) (h_2 : Int) (n : Int) (w_2 : World) (R : Ending → World → Prop) : Prop :=
 Br (h_2 != (0 : Int))
 (InR .i64 (n + (1 : Int)) ∧ ∃ S : World → Prop, S w_2.drew ∧ NonNil d fun p11 =>
 ∃ (x13 : Option Addr) (x13N : Nat) (x13C : Nat), Held S p11 (.slice x13 x13N x13C) ∧ Calls Tryz.prog 33 #[(.pointer d), (.int .u64 h_2)] w_2.drew (post R fun v w1_2 =>
 ∃ (x16 : Int), v = (.int .i64 x16) ∧
 S w1_2 ∧ IdxA x13 x13N x16 8 fun q17 =>
 ∃ (x19 : Int), Held S (q17.add 6) (.int .u64 x19) ∧ L2 x19 (n + (1 : Int)) w1_2))
 (R (.returned (.int .i64 n)) w_2)
def F41 (d : Option Addr) (h_ : Int) (w_ : World) (R : Ending → World → Prop) : Prop :=
 ∃ (I : Int → Int → World → Prop) (m : Int → Int → World → Nat), I h_ ((-1) : Int) w_ ∧
 ∀ (h_2 : Int) (n : Int) (w1 : World), I h_2 n w1 → F41_l2 d (fun h_2' n' w2 => I h_2' n' w2 ∧ m h_2' n' w2 < m h_2 n w1) h_2 n w1 R
theorem ok41 (d : Option Addr) (h_ : Int) {w : World} {R : Ending → World → Prop} (h : F41 d h_ w R) : Calls Tryz.prog 41 #[(.pointer d), (.int .u64 h_)] w R :=
  vc_calls (pl := ⟨21, ⟨[]⟩, [], [(2, ⟨[(1, (.s (.int .u64))), (5, (.s (.int .i64)))], [(1, 20)]⟩)]⟩) Tryz.func41 (by kernel_rfl) (by kernel_rfl) (by kernel_rfl) (Eq.mp (by kernel_rfl) h)
def F43_l10 (d : Option Addr) (x14 : Int) (x51 : Int) (x53 : Option Addr) (x53N : Nat) (L10 : Int → World → Prop) (k : Int) (w_3 : World) (R : Ending → World → Prop) : Prop :=
 Br (decide (k < ((x53N : Nat) : Int)))
 (IdxA x53 x53N k 5 fun q63 =>
 LdI .i64 (w_3.cell? q63) fun x64_0 =>
 LdStr (w_3.cell? (q63.add 1)) fun x64_1 =>
 LdSl (w_3.cell? (q63.add 2)) fun x64_2 x64_2N x64_2C =>
 LdStr (w_3.cell? (q63.add 3)) fun x64_3 =>
 LdSl (w_3.cell? (q63.add 4)) fun x64_4 x64_4N x64_4C =>
 Calls Tryz.prog 43 #[(.pointer d), (.agg #[(.int .i64 x64_0), (.string x64_1), (.slice x64_2 x64_2N x64_2C), (.string x64_3), (.slice x64_4 x64_4N x64_4C)]), (.int .u64 x51)] w_3 (post R fun v4 w1_24 =>
 ∃ (x66 : Int), v4 = (.int .u64 x66) ∧
 ∃ S3 : World → Prop, S3 w1_24.drew ∧ NonNil d fun p68 =>
 ∃ (x70 : Option Addr) (x70N : Nat) (x70C : Nat), Held S3 p68 (.slice x70 x70N x70C) ∧ NonNil d fun p73 =>
 ∃ (x75 : Option Addr) (x75N : Nat) (x75C : Nat), Held S3 p73 (.slice x75 x75N x75C) ∧ IdxA x75 x75N x14 8 fun q77 =>
 ∃ (x79 : Option Addr) (x79N : Nat) (x79C : Nat), Held S3 (q77.add 7) (.slice x79 x79N x79C) ∧ Al w1_24.drew #[(.int .u64 x66)] 41 fun g81 w1_26 =>
 S3 w1_26 ∧ Raw Tryz.prog (Builtin.append_ #[37, 37] 37 #[(.slice x79 x79N x79C), (.slice (some g81) 1 1)]) w1_26 fun v5 w1_27 =>
 ∃ (x82 : Option Addr) (x82N : Nat) (x82C : Nat), v5 = (.slice x82 x82N x82C) ∧
 S3 w1_27 ∧ IdxA x70 x70N x14 8 fun q83 =>
 St w1_27 (q83.add 7) (.slice x82 x82N x82C) fun w1_28 =>
 InR .i64 (k + (1 : Int)) ∧ L10 (k + (1 : Int)) w1_28))
 (R (.returned (.int .u64 x51)) w_3)
def F43_j6 (d : Option Addr) (g4 : Addr) (x14 : Int) (s : Addr) (w_2 : World) (R : Ending → World → Prop) : Prop :=
 ∃ S2 : World → Prop, S2 w_2.drew ∧ NonNil d fun p43 =>
 ∃ (x45 : Option Addr) (x45N : Nat) (x45C : Nat), Held S2 p43 (.slice x45 x45N x45C) ∧ ∃ (x47_0 : Int), Held S2 s (.int .u32 x47_0) ∧ ∃ (x47_1 : Bool), Held S2 (s.add 1) (.bool x47_1) ∧ ∃ (x47_2 : Int), Held S2 (s.add 2) (.int .i64 x47_2) ∧ ∃ (x47_3 : ByteArray), Held S2 (s.add 3) (.string x47_3) ∧ ∃ (x47_4 : Option Addr) (x47_4N : Nat) (x47_4C : Nat), Held S2 (s.add 4) (.slice x47_4 x47_4N x47_4C) ∧ ∃ (x47_5 : ByteArray), Held S2 (s.add 5) (.string x47_5) ∧ ∃ (x47_6 : Int), Held S2 (s.add 6) (.int .u64 x47_6) ∧ ∃ (x47_7 : Option Addr) (x47_7N : Nat) (x47_7C : Nat), Held S2 (s.add 7) (.slice x47_7 x47_7N x47_7C) ∧ IdxA x45 x45N x14 8 fun q48 =>
 St w_2.drew q48 (.int .u32 x47_0) fun w1_14 =>
 St w1_14 (q48.add 1) (.bool x47_1) fun w1_15 =>
 St w1_15 (q48.add 2) (.int .i64 x47_2) fun w1_16 =>
 St w1_16 (q48.add 3) (.string x47_3) fun w1_17 =>
 St w1_17 (q48.add 4) (.slice x47_4 x47_4N x47_4C) fun w1_18 =>
 St w1_18 (q48.add 5) (.string x47_5) fun w1_19 =>
 St w1_19 (q48.add 6) (.int .u64 x47_6) fun w1_20 =>
 St w1_20 (q48.add 7) (.slice x47_7 x47_7N x47_7C) fun w1_21 =>
 Calls Tryz.prog 55 #[(.pointer d), (.int .i64 x14)] w1_21 (post R fun v2 w1_22 =>
 ∃ (x51 : Int), v2 = (.int .u64 x51) ∧
 LdI .i64 (w1_22.cell? g4) fun x52_0 =>
 LdStr (w1_22.cell? (g4.add 1)) fun x52_1 =>
 LdSl (w1_22.cell? (g4.add 2)) fun x52_2 x52_2N x52_2C =>
 LdStr (w1_22.cell? (g4.add 3)) fun x52_3 =>
 LdSl (w1_22.cell? (g4.add 4)) fun x52_4 x52_4N x52_4C =>
 Calls Tryz.prog 67 #[(.agg #[(.int .i64 x52_0), (.string x52_1), (.slice x52_2 x52_2N x52_2C), (.string x52_3), (.slice x52_4 x52_4N x52_4C)])] w1_22 (post R fun v3 w1_23 =>
 ∃ (x53 : Option Addr) (x53N : Nat) (x53C : Nat), v3 = (.slice x53 x53N x53C) ∧
 ∃ (I : Int → World → Prop) (m : Int → World → Nat), I (0 : Int) w1_23 ∧
 ∀ (k : Int) (w1_24 : World), I k w1_24 → F43_l10 d x14 x51 x53 x53N (fun k' w2 => I k' w2 ∧ m k' w2 < m k w1_24) k w1_24 R))
def F43 (d : Option Addr) (x_0 : Int) (x_1 : ByteArray) (x_2 : Option Addr) (x_2N : Nat) (x_2C : Nat) (x_3 : ByteArray) (x_4 : Option Addr) (x_4N : Nat) (x_4C : Nat) (parent : Int) (w_ : World) (R : Ending → World → Prop) : Prop :=
 Al w_ #[(.int .i64 x_0), (.string x_1), (.slice x_2 x_2N x_2C), (.string x_3), (.slice x_4 x_4N x_4C)] 45 fun g4 w1 =>
 Calls Tryz.prog 68 #[(.pointer d)] w1 (post R fun v w1_2 =>
 ∃ (x14 : Int), v = (.int .i64 x14) ∧
 ∃ S : World → Prop, S w1_2.drew ∧ NonNil d fun p16 =>
 ∃ (x18 : Option Addr) (x18N : Nat) (x18C : Nat), Held S p16 (.slice x18 x18N x18C) ∧ IdxA x18 x18N x14 8 fun q20 =>
 ∃ (x22 : Int), Held S q20 (.int .u32 x22) ∧ InR .u32 (x22 + (1 : Int)) ∧ ∃ (x25 : Int), Held S g4 (.int .i64 x25) ∧ Al w1_2.drew #[(.int .u32 0), (.bool false), (.int .i64 0), (.string (ByteArray.mk #[])), (.slice none 0 0), (.string (ByteArray.mk #[])), (.int .u64 0), (.slice none 0 0)] 85 fun s w1_4 =>
 S w1_4 ∧ St w1_4 s (.int .u32 (x22 + (1 : Int))) fun w1_5 =>
 St w1_5 (s.add 1) (.bool true) fun w1_6 =>
 St w1_6 (s.add 2) (.int .i64 x25) fun w1_7 =>
 St w1_7 (s.add 3) (.string (ByteArray.mk #[])) fun w1_8 =>
 St w1_8 (s.add 4) (.slice none 0 0) fun w1_9 =>
 St w1_9 (s.add 5) (.string (ByteArray.mk #[])) fun w1_10 =>
 St w1_10 (s.add 6) (.int .u64 parent) fun w1_11 =>
 St w1_11 (s.add 7) (.slice none 0 0) fun w1_12 =>
 ∃ J6 : World → Prop, (∀  (w1_13 : World), J6 w1_13 → F43_j6 d g4 x14 s w1_13 R) ∧
 (LdI .i64 (w1_12.cell? g4) fun x29 =>
 Br (x29 == (2 : Int))
 (LdStr (w1_12.cell? (g4.add 3)) fun x32 =>
 St w1_12 (s.add 5) (.string x32) fun w1_13 =>
 J6 w1_13)
 (∃ S2 : World → Prop, S2 w1_12.drew ∧ ∃ (x35 : ByteArray), Held S2 (g4.add 1) (.string x35) ∧ ∃ (x38 : Option Addr) (x38N : Nat) (x38C : Nat), Held S2 (g4.add 2) (.slice x38 x38N x38C) ∧ Al w1_12.drew #[] 96 fun g36 w1_14 =>
 S2 w1_14 ∧ Raw Tryz.prog (Builtin.append_ #[42, 42] 42 #[(.slice (some g36) 0 0), (.slice x38 x38N x38C)]) w1_14 fun v2 w1_15 =>
 ∃ (x39 : Option Addr) (x39N : Nat) (x39C : Nat), v2 = (.slice x39 x39N x39C) ∧
 S2 w1_15 ∧ St w1_15 (s.add 3) (.string x35) fun w1_16 =>
 St w1_16 (s.add 4) (.slice x39 x39N x39C) fun w1_17 =>
 J6 w1_17)))
theorem ok43 (d : Option Addr) (x_0 : Int) (x_1 : ByteArray) (x_2 : Option Addr) (x_2N : Nat) (x_2C : Nat) (x_3 : ByteArray) (x_4 : Option Addr) (x_4N : Nat) (x_4C : Nat) (parent : Int) {w : World} {R : Ending → World → Prop} (h : F43 d x_0 x_1 x_2 x_2N x_2C x_3 x_4 x_4N x_4C parent w R) : Calls Tryz.prog 43 #[(.pointer d), (.agg #[(.int .i64 x_0), (.string x_1), (.slice x_2 x_2N x_2C), (.string x_3), (.slice x_4 x_4N x_4C)]), (.int .u64 parent)] w R :=
  vc_calls (pl := ⟨86, ⟨[]⟩, [(6, ⟨[], [(28, 42)]⟩)], [(10, ⟨[(11, (.s (.int .i64)))], [(11, 85)]⟩)]⟩) Tryz.func43 (by kernel_rfl) (by kernel_rfl) (by kernel_rfl) (Eq.mp (by kernel_rfl) h)
def F47 (d : Option Addr) (n : Int) (w_ : World) (R : Ending → World → Prop) : Prop :=
 ∃ S : World → Prop, S w_.drew ∧ NonNil d fun p8 =>
 ∃ (x10 : Option Addr) (x10N : Nat) (x10C : Nat), Held S p8 (.slice x10 x10N x10C) ∧ Calls Tryz.prog 33 #[(.pointer d), (.int .u64 n)] w_.drew (post R fun v w1_2 =>
 ∃ (x13 : Int), v = (.int .i64 x13) ∧
 S w1_2 ∧ IdxA x10 x10N x13 8 fun q14 =>
 ∃ (x16 : Int), Held S (q14.add 6) (.int .u64 x16) ∧ Calls Tryz.prog 51 #[(.pointer d), (.int .u64 x16)] w1_2 (post R fun v2 w1_3 =>
 ∃ (x19 : Option Addr) (x19N : Nat) (x19C : Nat), v2 = (.slice x19 x19N x19C) ∧
 Calls Tryz.prog 69 #[(.slice x19 x19N x19C), (.int .u64 n)] w1_3 (post R fun v3 w1_4 =>
 ∃ (x22 : Int), v3 = (.int .i64 x22) ∧
 ∃ S2 : World → Prop, S2 w1_4.drew ∧ SlB 0 x22 ((x19C : Nat) : Int)
 (InR .i64 (x22 + (1 : Int)) ∧ SlB (x22 + (1 : Int)) ((x19N : Nat) : Int) ((x19C : Nat) : Int)
 (Al w1_4.drew #[] 41 fun g25 w1_6 =>
 Raw Tryz.prog (Builtin.append_ #[37, 37] 37 #[(.slice (some g25) 0 0), (.slice x19 (x22).toNat x19C)]) w1_6 fun v4 w1_7 =>
 ∃ (x29 : Option Addr) (x29N : Nat) (x29C : Nat), v4 = (.slice x29 x29N x29C) ∧
 Raw Tryz.prog (Builtin.append_ #[37, 37] 37 #[(.slice x29 x29N x29C), (.slice (SlA x19 x19C ((x22 + (1 : Int))).toNat 1) ((((x19N : Nat) : Int)).toNat - ((x22 + (1 : Int))).toNat) (x19C - ((x22 + (1 : Int))).toNat))]) w1_7 fun v5 w1_8 =>
 ∃ (x34 : Option Addr) (x34N : Nat) (x34C : Nat), v5 = (.slice x34 x34N x34C) ∧
 Calls Tryz.prog 70 #[(.pointer d), (.int .u64 x16), (.slice x34 x34N x34C)] w1_8 (post R fun v6 w1_9 =>
 v6 = (.tuple #[]) ∧
 R (.returned (.tuple #[])) w1_9))))))
theorem ok47 (d : Option Addr) (n : Int) {w : World} {R : Ending → World → Prop} (h : F47 d n w R) : Calls Tryz.prog 47 #[(.pointer d), (.int .u64 n)] w R :=
  vc_calls (pl := ⟨36, ⟨[]⟩, [], []⟩) Tryz.func47 (by kernel_rfl) (by kernel_rfl) (by kernel_rfl) (Eq.mp (by kernel_rfl) h)
def F38_j8 (at_ : Int) (w_4 : World) (R : Ending → World → Prop) : Prop :=
 R (.returned (.tuple #[(.int .u64 at_), (.int .i64 0)])) w_4
def F38_j5 (d : Option Addr) (where_ : Int) (at_ : Int) (w_3 : World) (R : Ending → World → Prop) : Prop :=
 Br (decide (where_ ≤ (2 : Int)))
 (∃ J8 : World → Prop, (∀  (w1 : World), J8 w1 → F38_j8 at_ w1 R) ∧
 (∃ S : World → Prop, S w_3.drew ∧ Br (at_ != (0 : Int))
 (NonNil d fun p36 =>
 ∃ (x38 : Option Addr) (x38N : Nat) (x38C : Nat), Held S p36 (.slice x38 x38N x38C) ∧ Calls Tryz.prog 33 #[(.pointer d), (.int .u64 at_)] w_3.drew (post R fun v w1_2 =>
 ∃ (x41 : Int), v = (.int .i64 x41) ∧
 S w1_2 ∧ IdxA x38 x38N x41 8 fun q42 =>
 ∃ (x44 : Int), Held S (q42.add 2) (.int .i64 x44) ∧ Br (x44 == (2 : Int))
 (R (.returned (.tuple #[(.int .u64 0), (.int .i64 31)])) w1_2)
 (J8 w1_2)))
 (J8 w_3.drew)))
 (∃ S : World → Prop, S w_3.drew ∧ NonNil d fun p49 =>
 ∃ (x51 : Option Addr) (x51N : Nat) (x51C : Nat), Held S p49 (.slice x51 x51N x51C) ∧ Calls Tryz.prog 33 #[(.pointer d), (.int .u64 at_)] w_3.drew (post R fun v w1_2 =>
 ∃ (x54 : Int), v = (.int .i64 x54) ∧
 S w1_2 ∧ IdxA x51 x51N x54 8 fun q55 =>
 ∃ (x57 : Int), Held S (q55.add 6) (.int .u64 x57) ∧ R (.returned (.tuple #[(.int .u64 x57), (.int .i64 0)])) w1_2))
def F38_j3 (d : Option Addr) (where_ : Int) (at_ : Int) (w_2 : World) (R : Ending → World → Prop) : Prop :=
 ∃ J5 : World → Prop, (∀  (w1 : World), J5 w1 → F38_j5 d where_ at_ w1 R) ∧
 (Br (at_ != (0 : Int))
 (Calls Tryz.prog 29 #[(.pointer d), (.int .u64 at_)] w_2 (post R fun v w1 =>
 ∃ (x27 : Bool), v = (.bool x27) ∧
 Br (!x27)
 (R (.returned (.tuple #[(.int .u64 0), (.int .i64 8)])) w1)
 (J5 w1)))
 (J5 w_2))
def F38 (d : Option Addr) (where_ : Int) (at_ : Int) (w_ : World) (R : Ending → World → Prop) : Prop :=
 ∃ J3 : World → Prop, (∀  (w1 : World), J3 w1 → F38_j3 d where_ at_ w1 R) ∧
 (Br (decide (where_ < (1 : Int)))
 (R (.returned (.tuple #[(.int .u64 0), (.int .i64 1)])) w_)
 (Br (decide (where_ > (4 : Int)))
 (R (.returned (.tuple #[(.int .u64 0), (.int .i64 1)])) w_)
 (Br (at_ == (0 : Int))
 (Br (decide (where_ > (2 : Int)))
 (R (.returned (.tuple #[(.int .u64 0), (.int .i64 1)])) w_)
 (J3 w_))
 (J3 w_))))
theorem ok38 (d : Option Addr) (where_ : Int) (at_ : Int) {w : World} {R : Ending → World → Prop} (h : F38 d where_ at_ w R) : Calls Tryz.prog 38 #[(.pointer d), (.int .i64 where_), (.int .u64 at_)] w R :=
  vc_calls (pl := ⟨58, ⟨[]⟩, [(8, ⟨[], [(6, 47)]⟩), (5, ⟨[], [(6, 30)]⟩), (3, ⟨[], [(6, 22)]⟩)], []⟩) Tryz.func38 (by kernel_rfl) (by kernel_rfl) (by kernel_rfl) (Eq.mp (by kernel_rfl) h)
def F44_j9 (d : Option Addr) (n : Int) (parent : Int) (x15 : Option Addr) (x15N : Nat) (x15C : Nat) (k : Int) (w_2 : World) (R : Ending → World → Prop) : Prop :=
 Al w_2 #[] 41 fun g32 w1_2 =>
 SlB 0 k ((x15C : Nat) : Int)
 (Raw Tryz.prog (Builtin.append_ #[37, 37] 37 #[(.slice (some g32) 0 0), (.slice x15 (k).toNat x15C)]) w1_2 fun v2 w1_3 =>
 ∃ (x36 : Option Addr) (x36N : Nat) (x36C : Nat), v2 = (.slice x36 x36N x36C) ∧
 Al w1_3 #[(.int .u64 n)] 41 fun g38 w1_4 =>
 Raw Tryz.prog (Builtin.append_ #[37, 37] 37 #[(.slice x36 x36N x36C), (.slice (some g38) 1 1)]) w1_4 fun v3 w1_5 =>
 ∃ (x39 : Option Addr) (x39N : Nat) (x39C : Nat), v3 = (.slice x39 x39N x39C) ∧
 SlB k ((x15N : Nat) : Int) ((x15C : Nat) : Int)
 (Raw Tryz.prog (Builtin.append_ #[37, 37] 37 #[(.slice x39 x39N x39C), (.slice (SlA x15 x15C (k).toNat 1) ((((x15N : Nat) : Int)).toNat - (k).toNat) (x15C - (k).toNat))]) w1_5 fun v4 w1_6 =>
 ∃ (x46 : Option Addr) (x46N : Nat) (x46C : Nat), v4 = (.slice x46 x46N x46C) ∧
 Calls Tryz.prog 70 #[(.pointer d), (.int .u64 parent), (.slice x46 x46N x46C)] w1_6 (post R fun v5 w1_7 =>
 v5 = (.tuple #[]) ∧
 ∃ S : World → Prop, S w1_7.drew ∧ NonNil d fun p49 =>
 ∃ (x51 : Option Addr) (x51N : Nat) (x51C : Nat), Held S p49 (.slice x51 x51N x51C) ∧ Calls Tryz.prog 33 #[(.pointer d), (.int .u64 n)] w1_7.drew (post R fun v6 w1_9 =>
 ∃ (x54 : Int), v6 = (.int .i64 x54) ∧
 S w1_9 ∧ IdxA x51 x51N x54 8 fun q56 =>
 St w1_9 (q56.add 6) (.int .u64 parent) fun w1_10 =>
 R (.returned (.tuple #[])) w1_10))))
def F44 (d : Option Addr) (n : Int) (parent : Int) (where_ : Int) (at_ : Int) (w_ : World) (R : Ending → World → Prop) : Prop :=
 Calls Tryz.prog 51 #[(.pointer d), (.int .u64 parent)] w_ (post R fun v w1 =>
 ∃ (x15 : Option Addr) (x15N : Nat) (x15C : Nat), v = (.slice x15 x15N x15C) ∧
 ∃ J9 : Int → World → Prop, (∀ (k : Int) (w1_2 : World), J9 k w1_2 → F44_j9 d n parent x15 x15N x15C k w1_2 R) ∧
 (Br (where_ == (2 : Int))
 (J9 ((x15N : Nat) : Int) w1)
 (Br (where_ == (3 : Int))
 (Calls Tryz.prog 69 #[(.slice x15 x15N x15C), (.int .u64 at_)] w1 (post R fun v2 w1_2 =>
 ∃ (x25 : Int), v2 = (.int .i64 x25) ∧
 J9 x25 w1_2))
 (Br (where_ == (4 : Int))
 (Calls Tryz.prog 69 #[(.slice x15 x15N x15C), (.int .u64 at_)] w1 (post R fun v2 w1_2 =>
 ∃ (x30 : Int), v2 = (.int .i64 x30) ∧
 InR .i64 (x30 + (1 : Int)) ∧ J9 (x30 + (1 : Int)) w1_2))
 (J9 (0 : Int) w1)))))
theorem ok44 (d : Option Addr) (n : Int) (parent : Int) (where_ : Int) (at_ : Int) {w : World} {R : Ending → World → Prop} (h : F44 d n parent where_ at_ w R) : Calls Tryz.prog 44 #[(.pointer d), (.int .u64 n), (.int .u64 parent), (.int .i64 where_), (.int .u64 at_)] w R :=
  vc_calls (pl := ⟨58, ⟨[]⟩, [(9, ⟨[(11, (.s (.int .i64)))], [(11, 32)]⟩)], []⟩) Tryz.func44 (by kernel_rfl) (by kernel_rfl) (by kernel_rfl) (Eq.mp (by kernel_rfl) h)
def F70 (d : Option Addr) (h_ : Int) (l : Option Addr) (lN : Nat) (lC : Nat) (w_ : World) (R : Ending → World → Prop) : Prop :=
 Br (h_ == (0 : Int))
 (NonNil d fun p10 =>
 St w_ (p10.add 1) (.slice l lN lC) fun w1 =>
 R (.returned (.tuple #[])) w1)
 (∃ S : World → Prop, S w_.drew ∧ NonNil d fun p13 =>
 ∃ (x15 : Option Addr) (x15N : Nat) (x15C : Nat), Held S p13 (.slice x15 x15N x15C) ∧ Calls Tryz.prog 33 #[(.pointer d), (.int .u64 h_)] w_.drew (post R fun v w1_2 =>
 ∃ (x18 : Int), v = (.int .i64 x18) ∧
 S w1_2 ∧ IdxA x15 x15N x18 8 fun q20 =>
 St w1_2 (q20.add 7) (.slice l lN lC) fun w1_3 =>
 R (.returned (.tuple #[])) w1_3))
theorem ok70 (d : Option Addr) (h_ : Int) (l : Option Addr) (lN : Nat) (lC : Nat) {w : World} {R : Ending → World → Prop} (h : F70 d h_ l lN lC w R) : Calls Tryz.prog 70 #[(.pointer d), (.int .u64 h_), (.slice l lN lC)] w R :=
  vc_calls (pl := ⟨22, ⟨[]⟩, [], []⟩) Tryz.func70 (by kernel_rfl) (by kernel_rfl) (by kernel_rfl) (Eq.mp (by kernel_rfl) h)
def F42_j4 (L3 : Int → Int → World → Prop) (i : Int) (n2 : Int) (w_3 : World) (R : Ending → World → Prop) : Prop :=
 InR .i64 (i + (1 : Int)) ∧ L3 n2 (i + (1 : Int)) w_3
def F42_l3 (d : Option Addr) (L3 : Int → Int → World → Prop) (n : Int) (i : Int) (w_2 : World) (R : Ending → World → Prop) : Prop :=
 NonNil d fun p7 =>
 LdSl (w_2.cell? p7) fun x9 x9N x9C =>
 Br (decide (i < ((x9N : Nat) : Int)))
 (∃ J4 : Int → World → Prop, (∀ (n2 : Int) (w1 : World), J4 n2 w1 → F42_j4 L3 i n2 w1 R) ∧
 (NonNil d fun p15 =>
 LdSl (w_2.cell? p15) fun x17 x17N x17C =>
 IdxA x17 x17N i 8 fun q19 =>
 LdB (w_2.cell? (q19.add 1)) fun x21 =>
 Br x21
 (InR .i64 (n + (1 : Int)) ∧ J4 (n + (1 : Int)) w_2)
 (NonNil d fun p24 =>
 LdSl (w_2.cell? p24) fun x26 x26N x26C =>
 IdxA x26 x26N i 8 fun q28 =>
 LdI .u32 (w_2.cell? q28) fun x30 =>
 Br (x30 == (4294967295 : Int))
 (InR .i64 (n + (1 : Int)) ∧ J4 (n + (1 : Int)) w_2)
 (J4 n w_2))))
 (R (.returned (.int .i64 n)) w_2)
def F42 (d : Option Addr) (w_ : World) (R : Ending → World → Prop) : Prop :=
 ∃ (I : Int → Int → World → Prop) (m : Int → Int → World → Nat), I (0 : Int) (0 : Int) w_ ∧
 ∀ (n : Int) (i : Int) (w1 : World), I n i w1 → F42_l3 d (fun n' i' w2 => I n' i' w2 ∧ m n' i' w2 < m n i w1) n i w1 R
theorem ok42 (d : Option Addr) {w : World} {R : Ending → World → Prop} (h : F42 d w R) : Calls Tryz.prog 42 #[(.pointer d)] w R :=
  vc_calls (pl := ⟨36, ⟨[]⟩, [(4, ⟨[(3, (.s (.int .i64)))], [(3, 4), (14, 35)]⟩)], [(3, ⟨[(3, (.s (.int .i64))), (4, (.s (.int .i64)))], [(3, 35)]⟩)]⟩) Tryz.func42 (by kernel_rfl) (by kernel_rfl) (by kernel_rfl) (Eq.mp (by kernel_rfl) h)
def F45_j3 (n : Int) (h_2 : Int) (w_2 : World) (R : Ending → World → Prop) : Prop :=
 R (.returned (.bool (h_2 == n))) w_2
def F45_j2 (d : Option Addr) (L1 : Int → World → Prop) (h_2 : Int) (w_3 : World) (R : Ending → World → Prop) : Prop :=
 ∃ S : World → Prop, S w_3.drew ∧ NonNil d fun p15 =>
 ∃ (x17 : Option Addr) (x17N : Nat) (x17C : Nat), Held S p15 (.slice x17 x17N x17C) ∧ Calls Tryz.prog 33 #[(.pointer d), (.int .u64 h_2)] w_3.drew (post R fun v w1_2 =>
 ∃ (x20 : Int), v = (.int .i64 x20) ∧
 S w1_2 ∧ IdxA x17 x17N x20 8 fun q21 =>
 ∃ (x23 : Int), Held S (q21.add 6) (.int .u64 x23) ∧ L1 x23 w1_2)
def F45_l1 (d : Option Addr) (n : Int) (J3 : Int → World → Prop) (L1 : Int → World → Prop) (h_2 : Int) (w_2 : World) (R : Ending → World → Prop) : Prop :=
 ∃ J2 : World → Prop, (∀  (w1 : World), J2 w1 → F45_j2 d L1 h_2 w1 R) ∧
 (Br (h_2 != (0 : Int))
 (Br (h_2 != n)
 (J2 w_2)
 (J3 h_2 w_2))
 (J3 h_2 w_2))
def F45 (d : Option Addr) (h_ : Int) (n : Int) (w_ : World) (R : Ending → World → Prop) : Prop :=
 ∃ J3 : Int → World → Prop, (∀ (h_2 : Int) (w1 : World), J3 h_2 w1 → F45_j3 n h_2 w1 R) ∧
 (∃ (I : Int → World → Prop) (m : Int → World → Nat), I h_ w_ ∧
 ∀ (h_2 : Int) (w1 : World), I h_2 w1 → F45_l1 d n J3 (fun h_2' w2 => I h_2' w2 ∧ m h_2' w2 < m h_2 w1) h_2 w1 R)
theorem ok45 (d : Option Addr) (h_ : Int) (n : Int) {w : World} {R : Ending → World → Prop} (h : F45 d h_ n w R) : Calls Tryz.prog 45 #[(.pointer d), (.int .u64 h_), (.int .u64 n)] w R :=
  vc_calls (pl := ⟨27, ⟨[]⟩, [(2, ⟨[], [(7, 14)]⟩), (3, ⟨[(1, (.s (.int .u64)))], [(1, 2), (7, 24)]⟩)], [(1, ⟨[(1, (.s (.int .u64)))], [(1, 2), (7, 24)]⟩)]⟩) Tryz.func45 (by kernel_rfl) (by kernel_rfl) (by kernel_rfl) (Eq.mp (by kernel_rfl) h)
def F39 (x_0 : Int) (x_1 : ByteArray) (x_2 : Option Addr) (x_2N : Nat) (x_2C : Nat) (x_3 : ByteArray) (x_4 : Option Addr) (x_4N : Nat) (x_4C : Nat) (w_ : World) (R : Ending → World → Prop) : Prop :=
 Al w_ #[(.int .i64 x_0), (.string x_1), (.slice x_2 x_2N x_2C), (.string x_3), (.slice x_4 x_4N x_4C)] 45 fun g1 w1 =>
 LdI .i64 (w1.cell? g1) fun x6_0 =>
 LdStr (w1.cell? (g1.add 1)) fun x6_1 =>
 LdSl (w1.cell? (g1.add 2)) fun x6_2 x6_2N x6_2C =>
 LdStr (w1.cell? (g1.add 3)) fun x6_3 =>
 LdSl (w1.cell? (g1.add 4)) fun x6_4 x6_4N x6_4C =>
 Calls Tryz.prog 66 #[(.agg #[(.int .i64 x6_0), (.string x6_1), (.slice x6_2 x6_2N x6_2C), (.string x6_3), (.slice x6_4 x6_4N x6_4C)]), (.int .i64 1), (.int .i64 0)] w1 (post R fun v w1_2 =>
 ∃ (x7_0 : Int) (x7_1 : Int), v = (.tuple #[(.int .i64 x7_0), (.int .i64 x7_1)]) ∧
 R (.returned (.int .i64 x7_1)) w1_2)
theorem ok39 (x_0 : Int) (x_1 : ByteArray) (x_2 : Option Addr) (x_2N : Nat) (x_2C : Nat) (x_3 : ByteArray) (x_4 : Option Addr) (x_4N : Nat) (x_4C : Nat) {w : World} {R : Ending → World → Prop} (h : F39 x_0 x_1 x_2 x_2N x_2C x_3 x_4 x_4N x_4C w R) : Calls Tryz.prog 39 #[(.agg #[(.int .i64 x_0), (.string x_1), (.slice x_2 x_2N x_2C), (.string x_3), (.slice x_4 x_4N x_4C)])] w R :=
  vc_calls (pl := ⟨11, ⟨[]⟩, [], []⟩) Tryz.func39 (by kernel_rfl) (by kernel_rfl) (by kernel_rfl) (Eq.mp (by kernel_rfl) h)
def F94_j8 (l : Option Addr) (lN : Nat) (L4 : Int → World → Prop) (i : Int) (w_3 : World) (R : Ending → World → Prop) : Prop :=
 IdxA l lN i 2 fun q43 =>
 LdStr (w_3.cell? (q43.add 1)) fun x45 =>
 Calls Tryz.prog 50 #[(.string x45)] w_3 (post R fun v w1 =>
 ∃ (x46_0 : Int) (x46_1 : Int), v = (.tuple #[(.int .i64 x46_0), (.int .i64 x46_1)]) ∧
 Br (x46_1 != (0 : Int))
 (R (.returned (.int .i64 x46_1)) w1)
 (InR .i64 (i + (1 : Int)) ∧ L4 (i + (1 : Int)) w1))
def F94_l4 (l : Option Addr) (lN : Nat) (L4 : Int → World → Prop) (i : Int) (w_2 : World) (R : Ending → World → Prop) : Prop :=
 Br (decide (i < ((lN : Nat) : Int)))
 (∃ J8 : World → Prop, (∀  (w1 : World), J8 w1 → F94_j8 l lN L4 i w1 R) ∧
 (∃ S : World → Prop, S w_2.drew ∧ IdxA l lN i 2 fun q17 =>
 ∃ (x19 : ByteArray), Held S q17 (.string x19) ∧ Calls Tryz.prog 49 #[(.string x19)] w_2.drew (post R fun v w1_2 =>
 ∃ (x20 : Bool), v = (.bool x20) ∧
 S w1_2 ∧ Br (!x20)
 (R (.returned (.int .i64 6)) w1_2)
 (Br (decide (i > (0 : Int)))
 (IdxA l lN i 2 fun q28 =>
 ∃ (x30 : ByteArray), Held S q28 (.string x30) ∧ InR .i64 (i - (1 : Int)) ∧ IdxA l lN (i - (1 : Int)) 2 fun q34 =>
 ∃ (x36 : ByteArray), Held S q34 (.string x36) ∧ Br ((Op.bytesLess x30.toList x36.toList) || (x30.toList == x36.toList))
 (R (.returned (.int .i64 6)) w1_2)
 (J8 w1_2))
 (J8 w1_2)))))
 (R (.returned (.int .i64 0)) w_2)
def F94 (l : Option Addr) (lN : Nat) (lC : Nat) (w_ : World) (R : Ending → World → Prop) : Prop :=
 Br (decide (((lN : Nat) : Int) > (32 : Int)))
 (R (.returned (.int .i64 2)) w_)
 (∃ (I : Int → World → Prop) (m : Int → World → Nat), I (0 : Int) w_ ∧
 ∀ (i : Int) (w1 : World), I i w1 → F94_l4 l lN (fun i' w2 => I i' w2 ∧ m i' w2 < m i w1) i w1 R)
theorem ok94 (l : Option Addr) (lN : Nat) (lC : Nat) {w : World} {R : Ending → World → Prop} (h : F94 l lN lC w R) : Calls Tryz.prog 94 #[(.slice l lN lC)] w R :=
  vc_calls (pl := ⟨52, ⟨[]⟩, [(8, ⟨[], [(2, 3), (15, 40)]⟩)], [(4, ⟨[(3, (.s (.int .i64)))], [(2, 52)]⟩)]⟩) Tryz.func94 (by kernel_rfl) (by kernel_rfl) (by kernel_rfl) (Eq.mp (by kernel_rfl) h)
def F66_l9 (deep : Int) (x28 : Option Addr) (x28N : Nat) (L9 : Int → Int → World → Prop) (n2 : Int) (i : Int) (w_3 : World) (R : Ending → World → Prop) : Prop :=
 Br (decide (i < ((x28N : Nat) : Int)))
 (IdxA x28 x28N i 5 fun q38 =>
 LdI .i64 (w_3.cell? q38) fun x39_0 =>
 LdStr (w_3.cell? (q38.add 1)) fun x39_1 =>
 LdSl (w_3.cell? (q38.add 2)) fun x39_2 x39_2N x39_2C =>
 LdStr (w_3.cell? (q38.add 3)) fun x39_3 =>
 LdSl (w_3.cell? (q38.add 4)) fun x39_4 x39_4N x39_4C =>
 InR .i64 (deep + (1 : Int)) ∧ Calls Tryz.prog 66 #[(.agg #[(.int .i64 x39_0), (.string x39_1), (.slice x39_2 x39_2N x39_2C), (.string x39_3), (.slice x39_4 x39_4N x39_4C)]), (.int .i64 (deep + (1 : Int))), (.int .i64 n2)] w_3 (post R fun v3 w1_4 =>
 ∃ (x43_0 : Int) (x43_1 : Int), v3 = (.tuple #[(.int .i64 x43_0), (.int .i64 x43_1)]) ∧
 Br (x43_1 != (0 : Int))
 (R (.returned (.tuple #[(.int .i64 x43_0), (.int .i64 x43_1)])) w1_4)
 (InR .i64 (i + (1 : Int)) ∧ L9 x43_0 (i + (1 : Int)) w1_4)))
 (R (.returned (.tuple #[(.int .i64 n2), (.int .i64 0)])) w_3)
def F66_j3 (deep : Int) (n : Int) (g3 : Addr) (w_2 : World) (R : Ending → World → Prop) : Prop :=
 LdI .i64 (w_2.cell? g3) fun x19_0 =>
 LdStr (w_2.cell? (g3.add 1)) fun x19_1 =>
 LdSl (w_2.cell? (g3.add 2)) fun x19_2 x19_2N x19_2C =>
 LdStr (w_2.cell? (g3.add 3)) fun x19_3 =>
 LdSl (w_2.cell? (g3.add 4)) fun x19_4 x19_4N x19_4C =>
 Calls Tryz.prog 87 #[(.agg #[(.int .i64 x19_0), (.string x19_1), (.slice x19_2 x19_2N x19_2C), (.string x19_3), (.slice x19_4 x19_4N x19_4C)])] w_2 (post R fun v w1_2 =>
 ∃ (x20 : Int), v = (.int .i64 x20) ∧
 Br (x20 != (0 : Int))
 (R (.returned (.tuple #[(.int .i64 n), (.int .i64 x20)])) w1_2)
 (InR .i64 (n + (1 : Int)) ∧ LdI .i64 (w1_2.cell? g3) fun x27_0 =>
 LdStr (w1_2.cell? (g3.add 1)) fun x27_1 =>
 LdSl (w1_2.cell? (g3.add 2)) fun x27_2 x27_2N x27_2C =>
 LdStr (w1_2.cell? (g3.add 3)) fun x27_3 =>
 LdSl (w1_2.cell? (g3.add 4)) fun x27_4 x27_4N x27_4C =>
 Calls Tryz.prog 67 #[(.agg #[(.int .i64 x27_0), (.string x27_1), (.slice x27_2 x27_2N x27_2C), (.string x27_3), (.slice x27_4 x27_4N x27_4C)])] w1_2 (post R fun v2 w1_3 =>
 ∃ (x28 : Option Addr) (x28N : Nat) (x28C : Nat), v2 = (.slice x28 x28N x28C) ∧
 ∃ (I : Int → Int → World → Prop) (m : Int → Int → World → Nat), I (n + (1 : Int)) (0 : Int) w1_3 ∧
 ∀ (n2 : Int) (i : Int) (w1_4 : World), I n2 i w1_4 → F66_l9 deep x28 x28N (fun n2' i' w2 => I n2' i' w2 ∧ m n2' i' w2 < m n2 i w1_4) n2 i w1_4 R)))
def F66 (x_0 : Int) (x_1 : ByteArray) (x_2 : Option Addr) (x_2N : Nat) (x_2C : Nat) (x_3 : ByteArray) (x_4 : Option Addr) (x_4N : Nat) (x_4C : Nat) (deep : Int) (n : Int) (w_ : World) (R : Ending → World → Prop) : Prop :=
 Al w_ #[(.int .i64 x_0), (.string x_1), (.slice x_2 x_2N x_2C), (.string x_3), (.slice x_4 x_4N x_4C)] 45 fun g3 w1 =>
 ∃ J3 : World → Prop, (∀  (w1_2 : World), J3 w1_2 → F66_j3 deep n g3 w1_2 R) ∧
 (Br (decide (deep > (64 : Int)))
 (R (.returned (.tuple #[(.int .i64 n), (.int .i64 2)])) w1)
 (Br (decide (n ≥ (4096 : Int)))
 (R (.returned (.tuple #[(.int .i64 n), (.int .i64 2)])) w1)
 (J3 w1)))
theorem ok66 (x_0 : Int) (x_1 : ByteArray) (x_2 : Option Addr) (x_2N : Nat) (x_2C : Nat) (x_3 : ByteArray) (x_4 : Option Addr) (x_4N : Nat) (x_4C : Nat) (deep : Int) (n : Int) {w : World} {R : Ending → World → Prop} (h : F66 x_0 x_1 x_2 x_2N x_2C x_3 x_4 x_4N x_4C deep n w R) : Calls Tryz.prog 66 #[(.agg #[(.int .i64 x_0), (.string x_1), (.slice x_2 x_2N x_2C), (.string x_3), (.slice x_4 x_4N x_4C)]), (.int .i64 deep), (.int .i64 n)] w R :=
  vc_calls (pl := ⟨51, ⟨[]⟩, [(3, ⟨[], [(6, 19)]⟩)], [(9, ⟨[(2, (.s (.int .i64))), (10, (.s (.int .i64)))], [(2, 8), (10, 50)]⟩)]⟩) Tryz.func66 (by kernel_rfl) (by kernel_rfl) (by kernel_rfl) (Eq.mp (by kernel_rfl) h)
def F69_l2 (l : Option Addr) (lN : Nat) (h_ : Int) (L2 : Int → World → Prop) (i : Int) (w_2 : World) (R : Ending → World → Prop) : Prop :=
 Br (decide (i < ((lN : Nat) : Int)))
 (IdxA l lN i 1 fun q14 =>
 LdI .u64 (w_2.cell? q14) fun x15 =>
 Br (x15 == h_)
 (R (.returned (.int .i64 i)) w_2)
 (InR .i64 (i + (1 : Int)) ∧ L2 (i + (1 : Int)) w_2))
 (R (.returned (.int .i64 (-1))) w_2)
def F69 (l : Option Addr) (lN : Nat) (lC : Nat) (h_ : Int) (w_ : World) (R : Ending → World → Prop) : Prop :=
 ∃ (I : Int → World → Prop) (m : Int → World → Nat), I (0 : Int) w_ ∧
 ∀ (i : Int) (w1 : World), I i w1 → F69_l2 l lN h_ (fun i' w2 => I i' w2 ∧ m i' w2 < m i w1) i w1 R
theorem ok69 (l : Option Addr) (lN : Nat) (lC : Nat) (h_ : Int) {w : World} {R : Ending → World → Prop} (h : F69 l lN lC h_ w R) : Calls Tryz.prog 69 #[(.slice l lN lC), (.int .u64 h_)] w R :=
  vc_calls (pl := ⟨19, ⟨[]⟩, [], [(2, ⟨[(5, (.s (.int .i64)))], [(4, 19)]⟩)]⟩) Tryz.func69 (by kernel_rfl) (by kernel_rfl) (by kernel_rfl) (Eq.mp (by kernel_rfl) h)
def F67 (x_0 : Int) (x_1 : ByteArray) (x_2 : Option Addr) (x_2N : Nat) (x_2C : Nat) (x_3 : ByteArray) (x_4 : Option Addr) (x_4N : Nat) (x_4C : Nat) (w_ : World) (R : Ending → World → Prop) : Prop :=
 Al w_ #[(.int .i64 x_0), (.string x_1), (.slice x_2 x_2N x_2C), (.string x_3), (.slice x_4 x_4N x_4C)] 45 fun g1 w1 =>
 LdI .i64 (w1.cell? g1) fun x4 =>
 Br (x4 == (1 : Int))
 (LdSl (w1.cell? (g1.add 4)) fun x7 x7N x7C =>
 R (.returned (.slice x7 x7N x7C)) w1)
 (R (.returned (.slice none 0 0)) w1)
theorem ok67 (x_0 : Int) (x_1 : ByteArray) (x_2 : Option Addr) (x_2N : Nat) (x_2C : Nat) (x_3 : ByteArray) (x_4 : Option Addr) (x_4N : Nat) (x_4C : Nat) {w : World} {R : Ending → World → Prop} (h : F67 x_0 x_1 x_2 x_2N x_2C x_3 x_4 x_4N x_4C w R) : Calls Tryz.prog 67 #[(.agg #[(.int .i64 x_0), (.string x_1), (.slice x_2 x_2N x_2C), (.string x_3), (.slice x_4 x_4N x_4C)])] w R :=
  vc_calls (pl := ⟨8, ⟨[]⟩, [], []⟩) Tryz.func67 (by kernel_rfl) (by kernel_rfl) (by kernel_rfl) (Eq.mp (by kernel_rfl) h)
def F87 (x_0 : Int) (x_1 : ByteArray) (x_2 : Option Addr) (x_2N : Nat) (x_2C : Nat) (x_3 : ByteArray) (x_4 : Option Addr) (x_4N : Nat) (x_4C : Nat) (w_ : World) (R : Ending → World → Prop) : Prop :=
 Al w_ #[(.int .i64 x_0), (.string x_1), (.slice x_2 x_2N x_2C), (.string x_3), (.slice x_4 x_4N x_4C)] 45 fun g1 w1 =>
 LdI .i64 (w1.cell? g1) fun x6 =>
 Br (x6 == (1 : Int))
 (LdStr (w1.cell? (g1.add 1)) fun x10 =>
 Calls Tryz.prog 49 #[(.string x10)] w1 (post R fun v w1_2 =>
 ∃ (x11 : Bool), v = (.bool x11) ∧
 Br (!x11)
 (R (.returned (.int .i64 6)) w1_2)
 (LdSl (w1_2.cell? (g1.add 2)) fun x14 x14N x14C =>
 Calls Tryz.prog 94 #[(.slice x14 x14N x14C)] w1_2 (post R fun v2 w1_3 =>
 ∃ (x15 : Int), v2 = (.int .i64 x15) ∧
 R (.returned (.int .i64 x15)) w1_3))))
 (Br (x6 == (2 : Int))
 (LdStr (w1.cell? (g1.add 3)) fun x20 =>
 Calls Tryz.prog 50 #[(.string x20)] w1 (post R fun v w1_2 =>
 ∃ (x21_0 : Int) (x21_1 : Int), v = (.tuple #[(.int .i64 x21_0), (.int .i64 x21_1)]) ∧
 R (.returned (.int .i64 x21_1)) w1_2))
 (R (.returned (.int .i64 1)) w1))
theorem ok87 (x_0 : Int) (x_1 : ByteArray) (x_2 : Option Addr) (x_2N : Nat) (x_2C : Nat) (x_3 : ByteArray) (x_4 : Option Addr) (x_4N : Nat) (x_4C : Nat) {w : World} {R : Ending → World → Prop} (h : F87 x_0 x_1 x_2 x_2N x_2C x_3 x_4 x_4N x_4C w R) : Calls Tryz.prog 87 #[(.agg #[(.int .i64 x_0), (.string x_1), (.slice x_2 x_2N x_2C), (.string x_3), (.slice x_4 x_4N x_4C)])] w R :=
  vc_calls (pl := ⟨25, ⟨[]⟩, [], []⟩) Tryz.func87 (by kernel_rfl) (by kernel_rfl) (by kernel_rfl) (Eq.mp (by kernel_rfl) h)
def F40_j5 (L4 : Int → Int → Int → World → Prop) (i : Int) (n2 : Int) (deep2 : Int) (w_3 : World) (R : Ending → World → Prop) : Prop :=
 InR .i64 (i + (1 : Int)) ∧ L4 n2 deep2 (i + (1 : Int)) w_3
def F40_l4 (x11 : Option Addr) (x11N : Nat) (L4 : Int → Int → Int → World → Prop) (n : Int) (deep : Int) (i : Int) (w_2 : World) (R : Ending → World → Prop) : Prop :=
 Br (decide (i < ((x11N : Nat) : Int)))
 (∃ J5 : Int → Int → World → Prop, (∀ (n2 : Int) (deep2 : Int) (w1_3 : World), J5 n2 deep2 w1_3 → F40_j5 L4 i n2 deep2 w1_3 R) ∧
 (IdxA x11 x11N i 5 fun q21 =>
 LdI .i64 (w_2.cell? q21) fun x22_0 =>
 LdStr (w_2.cell? (q21.add 1)) fun x22_1 =>
 LdSl (w_2.cell? (q21.add 2)) fun x22_2 x22_2N x22_2C =>
 LdStr (w_2.cell? (q21.add 3)) fun x22_3 =>
 LdSl (w_2.cell? (q21.add 4)) fun x22_4 x22_4N x22_4C =>
 Calls Tryz.prog 40 #[(.agg #[(.int .i64 x22_0), (.string x22_1), (.slice x22_2 x22_2N x22_2C), (.string x22_3), (.slice x22_4 x22_4N x22_4C)])] w_2 (post R fun v2 w1_3 =>
 ∃ (x23_0 : Int) (x23_1 : Int), v2 = (.tuple #[(.int .i64 x23_0), (.int .i64 x23_1)]) ∧
 InR .i64 (n + x23_0) ∧ Br (decide (x23_1 > deep))
 (J5 (n + x23_0) x23_1 w1_3)
 (J5 (n + x23_0) deep w1_3))))
 (InR .i64 (deep + (1 : Int)) ∧ R (.returned (.tuple #[(.int .i64 n), (.int .i64 (deep + (1 : Int)))])) w_2)
def F40 (x_0 : Int) (x_1 : ByteArray) (x_2 : Option Addr) (x_2N : Nat) (x_2C : Nat) (x_3 : ByteArray) (x_4 : Option Addr) (x_4N : Nat) (x_4C : Nat) (w_ : World) (R : Ending → World → Prop) : Prop :=
 Al w_ #[(.int .i64 x_0), (.string x_1), (.slice x_2 x_2N x_2C), (.string x_3), (.slice x_4 x_4N x_4C)] 45 fun g1 w1 =>
 LdI .i64 (w1.cell? g1) fun x10_0 =>
 LdStr (w1.cell? (g1.add 1)) fun x10_1 =>
 LdSl (w1.cell? (g1.add 2)) fun x10_2 x10_2N x10_2C =>
 LdStr (w1.cell? (g1.add 3)) fun x10_3 =>
 LdSl (w1.cell? (g1.add 4)) fun x10_4 x10_4N x10_4C =>
 Calls Tryz.prog 67 #[(.agg #[(.int .i64 x10_0), (.string x10_1), (.slice x10_2 x10_2N x10_2C), (.string x10_3), (.slice x10_4 x10_4N x10_4C)])] w1 (post R fun v w1_2 =>
 ∃ (x11 : Option Addr) (x11N : Nat) (x11C : Nat), v = (.slice x11 x11N x11C) ∧
 ∃ (I : Int → Int → Int → World → Prop) (m : Int → Int → Int → World → Nat), I (1 : Int) (0 : Int) (0 : Int) w1_2 ∧
 ∀ (n : Int) (deep : Int) (i : Int) (w1_3 : World), I n deep i w1_3 → F40_l4 x11 x11N (fun n' deep' i' w2 => I n' deep' i' w2 ∧ m n' deep' i' w2 < m n deep i w1_3) n deep i w1_3 R)
theorem ok40 (x_0 : Int) (x_1 : ByteArray) (x_2 : Option Addr) (x_2N : Nat) (x_2C : Nat) (x_3 : ByteArray) (x_4 : Option Addr) (x_4N : Nat) (x_4C : Nat) {w : World} {R : Ending → World → Prop} (h : F40 x_0 x_1 x_2 x_2N x_2C x_3 x_4 x_4N x_4C w R) : Calls Tryz.prog 40 #[(.agg #[(.int .i64 x_0), (.string x_1), (.slice x_2 x_2N x_2C), (.string x_3), (.slice x_4 x_4N x_4C)])] w R :=
  vc_calls (pl := ⟨36, ⟨[]⟩, [(5, ⟨[(4, (.s (.int .i64))), (5, (.s (.int .i64)))], [(4, 6), (8, 33)]⟩)], [(4, ⟨[(4, (.s (.int .i64))), (5, (.s (.int .i64))), (7, (.s (.int .i64)))], [(4, 6), (7, 33)]⟩)]⟩) Tryz.func40 (by kernel_rfl) (by kernel_rfl) (by kernel_rfl) (Eq.mp (by kernel_rfl) h)
end Go.Proofs.YthbeeonmfbigcaaGreatDoor
/- Documents: what is wrong with a node itself, by both sides. -/
namespace Go.Proofs.YthbeeonmfbigcaaGreatDoor
open Go.RowKit Go.Vc
set_option linter.unusedVariables false
set_option linter.unusedSimpArgs false
set_option maxRecDepth 100000
theorem textC {f : FuncId} {s : ByteArray} {w : World} {R : Ending → World → Prop} (hc : Calls Tryz.prog f #[.string s] w fun e w' => e = .returned (.tuple #[.int .i64 (textS s).1, .int .i64 (textS s).2]) ∧ Below w.heap.size w w')
    (h : ∀ w', Below w.heap.size w w' → R (.returned (.tuple #[.int .i64 (textS s).1, .int .i64 (textS s).2])) w') : Calls Tryz.prog f #[.string s] w R :=
  hc.mono fun e w' ⟨he, hb⟩ => by rw [he]; exact h w' hb
theorem charsText_calls (s : ByteArray) {w : World} (hT : Tabs w) {R : Ending → World → Prop} (h : ∀ w', Below w.heap.size w w' → R (.returned (.tuple #[.int .i64 (textS s).1, .int .i64 (textS s).2])) w') : Calls Tryz.prog 91 #[.string s] w R := by
  refine ok91 s ?_
  unfold F91
  exact textC (text_calls s w hT) fun w' hb => ⟨_, _, rfl, h w' hb⟩
theorem refText_calls (s : ByteArray) {w : World} {R : Ending → World → Prop} (h : ∀ w', Below w.heap.size w w' → R (.returned (.tuple #[.int .i64 (textS s).1, .int .i64 (textS s).2])) w') : Calls Tryz.prog 50 #[.string s] w R :=
  textC (textR_calls s w) h
def behindB (p : Option ByteArray) (a : ByteArray) : Bool := match p with
  | none => true
  | some b => !(Op.bytesLess a.toList b.toList || (a.toList == b.toList))
def attrsF : Option ByteArray → List At → Int
  | _, [] => 0
  | p, a :: l => if isName a.nm = true then if behindB p a.nm = true then if (textS a.val).2 = 0 then attrsF (some a.nm) l else ((textS a.val).2 : Nat) else 6 else 6
def attrF (l : List At) : Int := if 32 < l.length then 2 else attrsF none l
def prevN (l : List At) (k : Nat) : Option ByteArray := if k = 0 then none else (l[k - 1]?).map (·.nm)
theorem prevN_succ {l : List At} {k : Nat} (h : k < l.length) : prevN l (k + 1) = some l[k].nm := by
  unfold prevN; rw [if_neg (by omega), Nat.add_sub_cancel, List.getElem?_eq_getElem h]; rfl
theorem attrs_calls (l : List At) (v : Sv) {w : World} {R : Ending → World → Prop} (hT : Tabs w) (hl : RR LAt w l v) (h : ∀ w', Below w.heap.size w w' → R (.returned (.int .i64 (attrF l))) w') :
    Calls Tryz.prog 90 #[.slice v.1 v.2.1 v.2.2] w R := by
  obtain ⟨z0, z1, z2⟩ := hl
  refine ok90 v.1 v.2.1 v.2.2 ?_
  unfold F90
  unfold attrF at h
  refine brd (fun hgt => ?_) (fun hle => ?_)
  · rw [if_pos (by omega)] at h; exact h w (Below.refl _ _)
  rw [if_neg (by omega)] at h
  refine ⟨fun i w' => ∃ k : Nat, i = k ∧ k ≤ l.length ∧ Below w.heap.size w w' ∧ attrsF (prevN l k) (l.drop k) = attrsF none l, fun i _ => l.length - i.toNat, ⟨0, rfl, by omega, Below.refl _ _, by simp [prevN]⟩, ?_⟩
  rintro i w1 ⟨k, rfl, hk, hb1, hF⟩
  unfold F90_l4
  refine brd (fun hlt => ?_) (fun hge => ?_)
  · have hk2 : k < l.length := by omega
    rw [List.drop_eq_getElem_cons hk2, attrsF] at hF
    refine (z2.keep hb1).at2 z1 rfl (k := k) hk2 fun b o c0 c1 => ?_
    simp only [Addr.add_mk, c0, c1, Addr.add_mk, List.getElem?_toArray, List.getElem?_cons_zero, List.getElem?_cons_succ, LdI_some, LdB_some, LdStr_some, LdP_some, LdSl_some, LdM_some, Nat.zero_add, Br_t, Br_f]
    refine al fun ga w2 hb2 b2 hge2 => ?_
    refine st_blk b2 (by simp) fun w3 b3 f3 => st_blk b3 (by simp) fun w4 b4 f4 => ?_
    simp only [List.setIfInBounds_toArray, List.set_cons_zero, List.set_cons_succ] at b4
    have D4 : Below w1.heap.size w1 w4 := hb2.trans ((Fm.trans f3 f4 : Fm (· = ga) w2 w4).toBelow hb2.size fun b hb e => by have e : b = ga := e; omega)
    have B4 := btr hb1 hb1.size D4
    refine ⟨fun w' => Below w4.heap.size w4 w' ∧ isName l[k].nm = true ∧ behindB (prevN l k) l[k].nm = true, ?_, ?_⟩
    · rintro w5 ⟨hb5, hn, hbh⟩
      unfold F90_j8
      have b5 := b4.keep hb5
      have B5 := btr B4 B4.size hb5
      rw [if_pos hn, if_pos hbh] at hF
      simp only [Addr.add_mk, Nat.zero_add, b5.cell, List.getElem?_toArray, List.getElem?_cons_zero, List.getElem?_cons_succ, Addr.add_mk, List.getElem?_toArray, List.getElem?_cons_zero, List.getElem?_cons_succ, LdI_some, LdB_some, LdStr_some, LdP_some, LdSl_some, LdM_some, Nat.zero_add, Br_t, Br_f]
      refine charsText_calls l[k].val (hT.keep B5) fun w6 hb6 => ⟨_, _, rfl, ?_⟩
      have B6 := btr B5 B5.size hb6
      refine brn (fun hne => ?_) (fun he => ?_)
      · rw [if_neg (by omega)] at hF
        rw [hF]; exact h w6 B6
      · rw [if_pos (by omega)] at hF
        exact ⟨inR_i64 (by omega) (by omega), ⟨k + 1, by simp, by omega, B6, by rw [prevN_succ hk2]; exact hF⟩, (by first | omega | (dsimp only; omega))⟩
    · have hd : Below w4.heap.size w4 w4.drew := (Below.refl _ _).drew
      refine ⟨fun w' => Below w4.heap.size w4 w', hd, ?_⟩
      refine ⟨_, fun w2 h2 => by rw [(b4.keep h2).cell]; rfl, ?_⟩
      refine name_calls ⟨_, rfl, hd, ?_⟩
      rw [brnot]
      refine br (fun hn => ?_) (fun hn => ?_)
      · refine brd (fun hpos => ?_) (fun hz => ?_)
        · refine ⟨_, fun w2 h2 => by rw [(b4.keep h2).cell]; rfl, inR_i64 (by omega) (by omega), ?_⟩
          refine (z2.keep B4).at2H (fun _ h => h) z1 (show (k : Int) - 1 = ((k - 1 : Nat) : Int) by omega) (by omega) fun b o d0 d1 => ⟨_, d0, ?_⟩
          have hpv : prevN l k = some l[k - 1].nm := by unfold prevN; rw [if_neg (by omega), List.getElem?_eq_getElem (by omega)]; rfl
          refine br (fun hb => ?_) (fun hb => ⟨hd, hn, by rw [hpv]; show (!(_ || _)) = true; rw [hb]; rfl⟩)
          rw [if_pos hn, if_neg (by rw [hpv]; show ¬ (!(_ || _)) = true; rw [hb]; decide)] at hF
          rw [hF]; exact h _ (btr B4 B4.size hd)
        · refine ⟨hd, hn, ?_⟩
          have : k = 0 := by omega
          subst this; simp [prevN, behindB]
      · rw [if_neg (by rw [hn]; decide)] at hF
        rw [hF]; exact h _ (btr B4 B4.size hd)
  · have hk2 : k = l.length := by omega
    subst hk2
    rw [List.drop_length, attrsF] at hF
    rw [hF]; exact h w1 hb1
theorem attrs2_calls (l : List At) (v : Sv) {w : World} {R : Ending → World → Prop} (hl : RR LAt w l v) (h : ∀ w', Below w.heap.size w w' → R (.returned (.int .i64 (attrF l))) w') :
    Calls Tryz.prog 94 #[.slice v.1 v.2.1 v.2.2] w R := by
  obtain ⟨z0, z1, z2⟩ := hl
  refine ok94 v.1 v.2.1 v.2.2 ?_
  unfold F94
  unfold attrF at h
  refine brd (fun hgt => ?_) (fun hle => ?_)
  · rw [if_pos (by omega)] at h; exact h w (Below.refl _ _)
  rw [if_neg (by omega)] at h
  refine ⟨fun i w' => ∃ k : Nat, i = k ∧ k ≤ l.length ∧ Below w.heap.size w w' ∧ attrsF (prevN l k) (l.drop k) = attrsF none l, fun i _ => l.length - i.toNat, ⟨0, rfl, by omega, Below.refl _ _, by simp [prevN]⟩, ?_⟩
  rintro i w1 ⟨k, rfl, hk, hb1, hF⟩
  unfold F94_l4
  refine brd (fun hlt => ?_) (fun hge => ?_)
  · have hk2 : k < l.length := by omega
    rw [List.drop_eq_getElem_cons hk2, attrsF] at hF
    refine ⟨fun w' => Below w1.heap.size w1 w' ∧ isName l[k].nm = true ∧ behindB (prevN l k) l[k].nm = true, ?_, ?_⟩
    · rintro w5 ⟨hb5, hn, hbh⟩
      unfold F94_j8
      have B5 := btr hb1 hb1.size hb5
      rw [if_pos hn, if_pos hbh] at hF
      refine (z2.keep B5).at2 z1 rfl (k := k) hk2 fun b o c0 c1 => ?_
      simp only [Addr.add_mk, c0, c1, Addr.add_mk, List.getElem?_toArray, List.getElem?_cons_zero, List.getElem?_cons_succ, LdI_some, LdB_some, LdStr_some, LdP_some, LdSl_some, LdM_some, Nat.zero_add, Br_t, Br_f]
      refine refText_calls l[k].val fun w6 hb6 => ⟨_, _, rfl, ?_⟩
      have B6 := btr B5 B5.size hb6
      refine brn (fun hne => ?_) (fun he => ?_)
      · rw [if_neg (by omega)] at hF
        rw [hF]; exact h w6 B6
      · rw [if_pos (by omega)] at hF
        exact ⟨inR_i64 (by omega) (by omega), ⟨k + 1, by simp, by omega, B6, by rw [prevN_succ hk2]; exact hF⟩, (by first | omega | (dsimp only; omega))⟩
    · have hd : Below w1.heap.size w1 w1.drew := (Below.refl _ _).drew
      refine ⟨fun w' => Below w1.heap.size w1 w', hd, ?_⟩
      refine (z2.keep hb1).at2H (fun _ h => h) z1 rfl (k := k) hk2 fun b o d0 d1 => ⟨_, d0, ?_⟩
      refine name2_calls ⟨_, rfl, hd, ?_⟩
      rw [brnot]
      refine br (fun hn => ?_) (fun hn => ?_)
      · refine brd (fun hpos => ?_) (fun hz => ?_)
        · refine (z2.keep hb1).at2H (fun _ h => h) z1 rfl (k := k) hk2 fun b o d0 d1 => ⟨_, d0, inR_i64 (by omega) (by omega), ?_⟩
          refine (z2.keep hb1).at2H (fun _ h => h) z1 (show (k : Int) - 1 = ((k - 1 : Nat) : Int) by omega) (by omega) fun b o d0 d1 => ⟨_, d0, ?_⟩
          have hpv : prevN l k = some l[k - 1].nm := by unfold prevN; rw [if_neg (by omega), List.getElem?_eq_getElem (by omega)]; rfl
          refine br (fun hb => ?_) (fun hb => ⟨hd, hn, by rw [hpv]; show (!(_ || _)) = true; rw [hb]; rfl⟩)
          rw [if_pos hn, if_neg (by rw [hpv]; show ¬ (!(_ || _)) = true; rw [hb]; decide)] at hF
          rw [hF]; exact h _ (btr hb1 hb1.size hd)
        · refine ⟨hd, hn, ?_⟩
          have : k = 0 := by omega
          subst this; simp [prevN, behindB]
      · rw [if_neg (by rw [hn]; decide)] at hF
        rw [hF]; exact h _ (btr hb1 hb1.size hd)
  · have hk2 : k = l.length := by omega
    subst hk2
    rw [List.drop_length, attrsF] at hF
    rw [hF]; exact h w1 hb1
def ownF (kind : Int) (nm : ByteArray) (l : List At) (t : ByteArray) : Int := if kind = 1 then if isName nm = true then attrF l else 6 else if kind = 2 then ((textS t).2 : Nat) else 1
theorem own1_calls (kind : Int) (nm : ByteArray) (l : List At) (v : Sv) (t : ByteArray) (u : Sv) {w : World} {R : Ending → World → Prop} (hT : Tabs w) (hl : RR LAt w l v) (h : ∀ w', Below w.heap.size w w' → R (.returned (.int .i64 (ownF kind nm l t))) w') :
    Calls Tryz.prog 76 #[.agg #[.int .i64 kind, .string nm, .slice v.1 v.2.1 v.2.2, .string t, .slice u.1 u.2.1 u.2.2]] w R := by
  refine ok76 kind nm v.1 v.2.1 v.2.2 t u.1 u.2.1 u.2.2 ?_
  unfold F76
  unfold ownF at h
  refine al fun g w1 hb1 b1 hge => ?_
  simp only [Addr.add_mk, Nat.zero_add, b1.cell, List.getElem?_toArray, List.getElem?_cons_zero, List.getElem?_cons_succ, Addr.add_mk, List.getElem?_toArray, List.getElem?_cons_zero, List.getElem?_cons_succ, LdI_some, LdB_some, LdStr_some, LdP_some, LdSl_some, LdM_some, Nat.zero_add, Br_t, Br_f]
  refine bre (fun hk => ?_) (fun hk => ?_)
  · rw [if_pos hk] at h
    refine name_calls ⟨_, rfl, ?_⟩
    rw [brnot]
    refine br (fun hn => ?_) (fun hn => ?_)
    · rw [if_pos hn] at h
      simp only [Addr.add_mk, Nat.zero_add, b1.cell, List.getElem?_toArray, List.getElem?_cons_zero, List.getElem?_cons_succ, Addr.add_mk, List.getElem?_toArray, List.getElem?_cons_zero, List.getElem?_cons_succ, LdI_some, LdB_some, LdStr_some, LdP_some, LdSl_some, LdM_some, Nat.zero_add, Br_t, Br_f]
      exact attrs_calls l v (hT.keep hb1) (hl.keep hb1) fun w2 hb2 => ⟨_, rfl, h w2 (btr hb1 hb1.size hb2)⟩
    · rw [if_neg (by rw [hn]; decide)] at h
      exact h w1 hb1
  · rw [if_neg hk] at h
    refine bre (fun hk2 => ?_) (fun hk2 => ?_)
    · rw [if_pos hk2] at h
      exact charsText_calls t (hT.keep hb1) fun w2 hb2 => ⟨_, _, rfl, h w2 (btr hb1 hb1.size hb2)⟩
    · rw [if_neg hk2] at h
      exact h w1 hb1
theorem own2_calls (kind : Int) (nm : ByteArray) (l : List At) (v : Sv) (t : ByteArray) (u : Sv) {w : World} {R : Ending → World → Prop} (hl : RR LAt w l v) (h : ∀ w', Below w.heap.size w w' → R (.returned (.int .i64 (ownF kind nm l t))) w') :
    Calls Tryz.prog 87 #[.agg #[.int .i64 kind, .string nm, .slice v.1 v.2.1 v.2.2, .string t, .slice u.1 u.2.1 u.2.2]] w R := by
  refine ok87 kind nm v.1 v.2.1 v.2.2 t u.1 u.2.1 u.2.2 ?_
  unfold F87
  unfold ownF at h
  refine al fun g w1 hb1 b1 hge => ?_
  simp only [Addr.add_mk, Nat.zero_add, b1.cell, List.getElem?_toArray, List.getElem?_cons_zero, List.getElem?_cons_succ, Addr.add_mk, List.getElem?_toArray, List.getElem?_cons_zero, List.getElem?_cons_succ, LdI_some, LdB_some, LdStr_some, LdP_some, LdSl_some, LdM_some, Nat.zero_add, Br_t, Br_f]
  refine bre (fun hk => ?_) (fun hk => ?_)
  · rw [if_pos hk] at h
    refine name2_calls ⟨_, rfl, ?_⟩
    rw [brnot]
    refine br (fun hn => ?_) (fun hn => ?_)
    · rw [if_pos hn] at h
      simp only [Addr.add_mk, Nat.zero_add, b1.cell, List.getElem?_toArray, List.getElem?_cons_zero, List.getElem?_cons_succ, Addr.add_mk, List.getElem?_toArray, List.getElem?_cons_zero, List.getElem?_cons_succ, LdI_some, LdB_some, LdStr_some, LdP_some, LdSl_some, LdM_some, Nat.zero_add, Br_t, Br_f]
      exact attrs2_calls l v (hl.keep hb1) fun w2 hb2 => ⟨_, rfl, h w2 (btr hb1 hb1.size hb2)⟩
    · rw [if_neg (by rw [hn]; decide)] at h
      exact h w1 hb1
  · rw [if_neg hk] at h
    refine bre (fun hk2 => ?_) (fun hk2 => ?_)
    · rw [if_pos hk2] at h
      exact refText_calls t fun w2 hb2 => ⟨_, _, rfl, h w2 (btr hb1 hb1.size hb2)⟩
    · rw [if_neg hk2] at h
      exact h w1 hb1
end Go.Proofs.YthbeeonmfbigcaaGreatDoor
/- Documents: words for copies and for worlds of which not all is seen. -/
namespace Go.Proofs.YthbeeonmfbigcaaGreatDoor
open Go.RowKit Go.Vc
set_option linter.unusedVariables false
set_option linter.unusedSimpArgs false
set_option maxRecDepth 100000
theorem nodup_sub {α : Type} [DecidableEq α] : ∀ {a b : List α}, a.Nodup → (∀ x ∈ a, x ∈ b) → a.length ≤ b.length
  | [], _, _, _ => by simp
  | x :: a, b, h, hs => by
    have h2 := List.nodup_cons.1 h
    have hx : x ∈ b := hs x (by simp)
    have ih := nodup_sub (b := b.erase x) h2.2 fun y hy => by
      have hne : y ≠ x := fun e => h2.1 (e ▸ hy)
      exact (List.mem_erase_of_ne hne).2 (hs y (by simp [hy]))
    rw [List.length_erase_of_mem hx] at ih
    have : 0 < b.length := List.length_pos_of_mem hx
    rw [List.length_cons]; omega
def noB : ByteArray := ⟨#[]⟩
theorem Z2.map {α β γ δ : Type} {R : α → β → Prop} {S : γ → δ → Prop} {f : α → γ} {g : β → δ} (h : ∀ a e, R a e → S (f a) (g e)) : ∀ {l : List α} {es : List β}, Z2 R l es → Z2 S (l.map f) (es.map g)
  | [], es, k => by cases k; rfl
  | a :: l, es, k => by
    obtain ⟨e, es', rfl, h2, h3⟩ := k
    exact ⟨_, _, rfl, h a e h2, Z2.map h h3⟩
theorem rr_nil {α : Type} {L : Lay α} {w : World} : RR L w [] (none, 0, 0) := ⟨by simp, rfl, ⟨by simp, by simp [maxLen], fun _ => rfl, fun h => by simp at h⟩⟩
def newOr (ok : Nat → Bool) (k : Nat) (w : World) : World := wOnly (fun b => ok b || Nat.ble k b) w
theorem old_but {w w' : World} {g : Nat} (hb : Below w.heap.size w w') (hg : w.heap.size ≤ g) : Sub w (but g w') := fun b c t fr hc => by
  have hlt := (Array.getElem?_eq_some_iff.1 hc).1
  have hne : Nat.beq b g = false := by
    cases h : Nat.beq b g with
    | false => rfl
    | true => have := Nat.eq_of_beq_eq_true h; omega
  exact cells_only (by rw [hne]; rfl) (by rw [hb.block b hlt]; exact hc)
end Go.Proofs.YthbeeonmfbigcaaGreatDoor
/- Documents: trees in plain, handles as a partial map to slots; which documents hang together. -/
namespace Go.Proofs.YthbeeonmfbigcaaGreatDoor
open Go.RowKit Go.Vc
set_option linter.unusedVariables false
set_option linter.unusedSimpArgs false
--PURE
inductive Tr where
  | mk (kind : Int) (nm : ByteArray) (attrs : List At) (text : ByteArray) (kids : List Tr)
def slA (sl : List Sl) (h : Nat) : Option Sl := (atF sl h).bind (sl[·]?)
theorem atF_iff {sl : List Sl} {h k : Nat} : atF sl h = some k ↔ h % 4294967296 = k + 1 ∧ ∃ s, sl[k]? = some s ∧ s.live = true ∧ hnd s.gen k = h := by
  unfold atF
  constructor
  · intro e
    by_cases h0 : h % 4294967296 = 0
    · rw [if_pos h0] at e; cases e
    · rw [if_neg h0] at e
      cases hs : sl[h % 4294967296 - 1]? with
      | none => rw [hs] at e; cases e
      | some s =>
        rw [hs] at e
        simp only at e
        by_cases hc : s.live = true ∧ hnd s.gen (h % 4294967296 - 1) = h
        · rw [if_pos hc] at e
          cases e
          exact ⟨by omega, s, hs, hc.1, hc.2⟩
        · rw [if_neg hc] at e; cases e
  · rintro ⟨h1, s, h2, h3, h4⟩
    rw [if_neg (by omega), h1, Nat.add_sub_cancel, h2]
    simp only
    rw [if_pos ⟨h3, h4⟩]
theorem slA_iff {sl : List Sl} {h : Nat} {s : Sl} : slA sl h = some s ↔ ∃ k, h % 4294967296 = k + 1 ∧ sl[k]? = some s ∧ s.live = true ∧ hnd s.gen k = h := by
  unfold slA
  constructor
  · intro e
    cases ha : atF sl h with
    | none => rw [ha] at e; cases e
    | some k =>
      rw [ha] at e
      obtain ⟨h1, t, h2, h3, h4⟩ := atF_iff.1 ha
      have : sl[k]? = some s := e
      rw [h2] at this; cases this
      exact ⟨k, h1, h2, h3, h4⟩
  · rintro ⟨k, h1, h2, h3, h4⟩
    rw [atF_iff.2 ⟨h1, s, h2, h3, h4⟩]; exact h2
theorem hnd_mod {g k : Nat} (hk : k + 1 < 4294967296) : hnd g k % 4294967296 = k + 1 := by
  unfold hnd; omega
theorem slA_hnd {sl : List Sl} {k : Nat} {s : Sl} (hk : k + 1 < 4294967296) (h : sl[k]? = some s) (hl : s.live = true) : slA sl (hnd s.gen k) = some s :=
  slA_iff.2 ⟨k, hnd_mod hk, h, hl, rfl⟩
theorem slA_zero (sl : List Sl) : slA sl 0 = none := by
  cases h : slA sl 0 with
  | none => rfl
  | some s => obtain ⟨k, h1, -⟩ := slA_iff.1 h; simp at h1
theorem slA_at {sl : List Sl} {h k : Nat} {s : Sl} (ha : atF sl h = some k) (hs : sl[k]? = some s) : slA sl h = some s := by unfold slA; rw [ha]; exact hs
theorem atF_slA {sl : List Sl} {h : Nat} {s : Sl} (hs : slA sl h = some s) : ∃ k, atF sl h = some k ∧ sl[k]? = some s := by
  obtain ⟨k, h1, h2, h3, h4⟩ := slA_iff.1 hs
  exact ⟨k, atF_iff.2 ⟨h1, s, h2, h3, h4⟩, h2⟩
theorem atF_none {sl : List Sl} {h : Nat} : atF sl h = none ↔ slA sl h = none := by
  constructor
  · intro e; unfold slA; rw [e]; rfl
  · intro e
    cases ha : atF sl h with
    | none => rfl
    | some k =>
      obtain ⟨h1, s, h2, h3, h4⟩ := atF_iff.1 ha
      rw [slA_at ha h2] at e; cases e
theorem slA_set {sl : List Sl} {h : Nat} {s s' : Sl} {k : Nat} (hk : h % 4294967296 = k + 1) (hs : slA sl h = some s) (hg : s'.gen = s.gen) (hl : s'.live = true) (x : Nat) :
    slA (sl.set k s') x = if x = h then some s' else slA sl x := by
  obtain ⟨k', h1, h2, h3, h4⟩ := slA_iff.1 hs
  obtain rfl : k' = k := by omega
  have hlt : k' < sl.length := (List.getElem?_eq_some_iff.1 h2).1
  by_cases e : x = h
  · subst e
    rw [if_pos rfl]
    exact slA_iff.2 ⟨k', h1, by simp [hlt], hl, by rw [hg]; exact h4⟩
  · rw [if_neg e]
    cases hx : slA sl x with
    | none =>
      cases hy : slA (sl.set k' s') x with
      | none => rfl
      | some t =>
        obtain ⟨j, j1, j2, j3, j4⟩ := slA_iff.1 hy
        by_cases ej : k' = j
        · subst ej
          rw [List.getElem?_set_self hlt] at j2
          cases j2
          rw [hg, h4] at j4; exact absurd j4.symm e
        · rw [List.getElem?_set_ne ej] at j2
          rw [slA_iff.2 ⟨j, j1, j2, j3, j4⟩] at hx; cases hx
    | some t =>
      obtain ⟨j, j1, j2, j3, j4⟩ := slA_iff.1 hx
      refine slA_iff.2 ⟨j, j1, ?_, j3, j4⟩
      rw [List.getElem?_set_ne, j2]
      rintro rfl
      rw [h2] at j2; cases j2
      exact e (j4.symm.trans h4)
def lstA (A : Nat → Option Sl) (roots : List Nat) (p : Nat) : List Nat := if p = 0 then roots else match A p with | some s => s.kids | none => []
inductive Ch (A : Nat → Option Sl) : Nat → Nat → Prop where
  | zero : Ch A 0 0
  | succ {h c : Nat} {s : Sl} : h ≠ 0 → A h = some s → Ch A s.parent c → Ch A h (c + 1)
theorem Ch.fn {A : Nat → Option Sl} {h c d : Nat} (h1 : Ch A h c) (h2 : Ch A h d) : c = d := by
  induction h1 generalizing d with
  | zero => cases h2 with
    | zero => rfl
    | succ h0 => exact absurd rfl h0
  | succ h0 ha _ ih => cases h2 with
    | zero => exact absurd rfl h0
    | succ _ hb hc => rw [ha] at hb; cases hb; rw [ih hc]
theorem Ch.mono {A B : Nat → Option Sl} {h c : Nat} (hk : ∀ x s, A x = some s → ∃ t, B x = some t ∧ t.parent = s.parent) (h1 : Ch A h c) : Ch B h c := by
  induction h1 with
  | zero => exact .zero
  | succ h0 ha _ ih =>
    obtain ⟨t, h2, h3⟩ := hk _ _ ha
    exact .succ h0 h2 (by rw [h3]; exact ih)
inductive Wi (A : Nat → Option Sl) (h : Nat) : Nat → Prop where
  | self : Wi A h h
  | up {x : Nat} {s : Sl} : A x = some s → Wi A h s.parent → Wi A h x
def updA (A : Nat → Option Sl) (h : Nat) (s : Option Sl) : Nat → Option Sl := fun x => if x = h then s else A x
theorem updA_self (A : Nat → Option Sl) (h : Nat) (s : Option Sl) : updA A h s h = s := by unfold updA; rw [if_pos rfl]
theorem updA_ne {A : Nat → Option Sl} {h x : Nat} {s : Option Sl} (e : x ≠ h) : updA A h s x = A x := by unfold updA; rw [if_neg e]
def okSl (s : Sl) : Prop := ownF s.kind s.nm s.attrs s.text = 0 ∧ (s.kind = 1 ∧ s.text = noB ∨ s.kind = 2 ∧ s.nm = noB ∧ s.attrs = [] ∧ s.kids = [])
structure WfA (A : Nat → Option Sl) (roots loose : List Nat) : Prop where
  zero : A 0 = none
  ok : ∀ h s, A h = some s → okSl s
  par : ∀ h s, A h = some s → s.parent = 0 ∨ ∃ t, A s.parent = some t ∧ t.kind = 1
  chain : ∀ h s, A h = some s → ∃ c, c ≤ 64 ∧ Ch A h c
  kid : ∀ h s, A h = some s → s.kids.Nodup ∧ ∀ x ∈ s.kids, x ∉ loose ∧ ∃ t, A x = some t ∧ t.parent = h
  root : roots.Nodup ∧ ∀ x ∈ roots, x ∉ loose ∧ ∃ t, A x = some t ∧ t.parent = 0
  mem : ∀ h s, A h = some s → h ∉ loose → h ∈ lstA A roots s.parent
  lo : ∀ h ∈ loose, ∃ s, A h = some s
section
variable {A : Nat → Option Sl} {roots loose : List Nat}
theorem WfA.lst (h : WfA A roots loose) (p : Nat) : (lstA A roots p).Nodup ∧ ∀ x ∈ lstA A roots p, x ∉ loose ∧ ∃ t, A x = some t ∧ t.parent = p := by
  unfold lstA
  by_cases h0 : p = 0
  · subst h0; rw [if_pos rfl]; exact h.root
  · rw [if_neg h0]
    cases ha : A p with
    | none => simp
    | some s => exact h.kid p s ha
theorem lstA_some {p : Nat} {s : Sl} (h0 : p ≠ 0) (h : A p = some s) : lstA A roots p = s.kids := by unfold lstA; rw [if_neg h0, h]
theorem lstA_zero : lstA A roots 0 = roots := by unfold lstA; rw [if_pos rfl]
theorem WfA.ne0 (h : WfA A roots loose) {x : Nat} {s : Sl} (hx : A x = some s) : x ≠ 0 := fun e => by subst e; rw [h.zero] at hx; cases hx
theorem WfA.fresh (h : WfA A roots loose) {n p c : Nat} {s : Sl} (h0 : n ≠ 0) (hn : A n = none) (hs : okSl s) (hk : s.kids = []) (hp : s.parent = p) (hpk : p = 0 ∨ ∃ t, A p = some t ∧ t.kind = 1) (hc : Ch A p c) (hc2 : c + 1 ≤ 64) :
    WfA (updA A n (some s)) roots (n :: loose) := by
  have hext : ∀ x t, A x = some t → updA A n (some s) x = some t := fun x t hx => by
    rw [updA_ne]; exact hx
    rintro rfl; rw [hn] at hx; cases hx
  have hext2 : ∀ x t, A x = some t → ∃ u, updA A n (some s) x = some u ∧ u.parent = t.parent := fun x t hx => ⟨t, hext x t hx, rfl⟩
  have hold : ∀ x t, updA A n (some s) x = some t → (x = n ∧ t = s) ∨ A x = some t := fun x t hx => by
    by_cases e : x = n
    · subst e; rw [updA_self] at hx; cases hx; exact .inl ⟨rfl, rfl⟩
    · rw [updA_ne e] at hx; exact .inr hx
  have hpar : ∀ q, (q = 0 ∨ ∃ t, A q = some t ∧ t.kind = 1) → (q = 0 ∨ ∃ t, updA A n (some s) q = some t ∧ t.kind = 1) := fun q hq => by
    rcases hq with hq | ⟨t, h1, h2⟩
    · exact .inl hq
    · exact .inr ⟨t, hext _ _ h1, h2⟩
  refine ⟨by rw [updA_ne (Ne.symm h0)]; exact h.zero, fun x t hx => ?_, fun x t hx => ?_, fun x t hx => ?_, fun x t hx => ?_, ⟨h.root.1, fun x hx => ?_⟩, fun x t hx hl => ?_, fun x hx => ?_⟩
  rotate_right
  · rcases List.mem_cons.1 hx with rfl | hx
    · exact ⟨s, updA_self _ _ _⟩
    · obtain ⟨t, ht⟩ := h.lo x hx
      exact ⟨t, hext _ _ ht⟩
  · rcases hold x t hx with ⟨rfl, rfl⟩ | hx
    · exact hs
    · exact h.ok x t hx
  · rcases hold x t hx with ⟨rfl, rfl⟩ | hx
    · rw [hp]; exact hpar _ hpk
    · exact hpar _ (h.par x t hx)
  · rcases hold x t hx with ⟨rfl, rfl⟩ | hx
    · exact ⟨c + 1, hc2, .succ h0 (updA_self _ _ _) (by rw [hp]; exact hc.mono hext2)⟩
    · obtain ⟨d, h1, h2⟩ := h.chain x t hx
      exact ⟨d, h1, h2.mono hext2⟩
  · rcases hold x t hx with ⟨rfl, rfl⟩ | hx
    · rw [hk]; simp
    · obtain ⟨h1, h2⟩ := h.kid x t hx
      refine ⟨h1, fun y hy => ?_⟩
      obtain ⟨h3, u, h4, h5⟩ := h2 y hy
      refine ⟨?_, u, hext _ _ h4, h5⟩
      simp only [List.mem_cons, not_or]
      exact ⟨fun e => (by subst e; rw [hn] at h4; cases h4), h3⟩
  · obtain ⟨h3, u, h4, h5⟩ := h.root.2 x hx
    refine ⟨?_, u, hext _ _ h4, h5⟩
    simp only [List.mem_cons, not_or]
    exact ⟨fun e => (by subst e; rw [hn] at h4; cases h4), h3⟩
  · simp only [List.mem_cons, not_or] at hl
    rcases hold x t hx with ⟨rfl, rfl⟩ | hx
    · exact absurd rfl hl.1
    · have h1 := h.mem x t hx hl.2
      rcases h.par x t hx with h2 | ⟨u, h2, -⟩
      · rw [h2, lstA_zero] at h1 ⊢; exact h1
      · rw [lstA_some (h.ne0 h2) h2] at h1
        rw [lstA_some (h.ne0 h2) (hext _ _ h2)]; exact h1
def setA (A : Nat → Option Sl) (p : Nat) (l : List Nat) : Nat → Option Sl := fun x => if x = p ∧ p ≠ 0 then (A x).map fun s => { s with kids := l } else A x
def setR (roots : List Nat) (p : Nat) (l : List Nat) : List Nat := if p = 0 then l else roots
theorem setA_some {p x : Nat} {l : List Nat} {t : Sl} (h : setA A p l x = some t) : ∃ s, A x = some s ∧ t = (if x = p ∧ p ≠ 0 then { s with kids := l } else s) := by
  unfold setA at h
  by_cases e : x = p ∧ p ≠ 0
  · rw [if_pos e] at h
    obtain ⟨s, h1, h2⟩ := Option.map_eq_some_iff.1 h
    exact ⟨s, h1, by rw [if_pos e]; exact h2.symm⟩
  · rw [if_neg e] at h
    exact ⟨t, h, by rw [if_neg e]⟩
theorem setA_of {p x : Nat} {l : List Nat} {s : Sl} (h : A x = some s) : setA A p l x = some (if x = p ∧ p ≠ 0 then { s with kids := l } else s) := by
  unfold setA
  by_cases e : x = p ∧ p ≠ 0
  · rw [if_pos e, if_pos e, h]; rfl
  · rw [if_neg e, if_neg e, h]
theorem setA_of' {p x : Nat} {l : List Nat} {s : Sl} (h : A x = some s) : ∃ t, setA A p l x = some t ∧ t.parent = s.parent ∧ t.kind = s.kind := by
  refine ⟨_, setA_of h, ?_, ?_⟩ <;> split <;> rfl
theorem lst_setA {p q : Nat} {l : List Nat} (hq : q = 0 ∨ ∃ s, A q = some s) (h0 : A 0 = none) : lstA (setA A p l) (setR roots p l) q = if q = p then l else lstA A roots q := by
  unfold lstA setR
  by_cases e : q = 0
  · subst e
    rw [if_pos rfl]
    by_cases e2 : p = 0
    · subst e2; simp
    · rw [if_neg e2, if_neg (Ne.symm e2), if_pos rfl]
  · rw [if_neg e, if_neg e]
    rcases hq with hq | ⟨s, hs⟩
    · exact absurd hq e
    · rw [setA_of hs, hs]
      simp only
      by_cases e2 : q = p
      · subst e2; rw [if_pos ⟨rfl, e⟩, if_pos rfl]
      · rw [if_neg (fun h => e2 h.1), if_neg e2]
theorem WfA.setL (h : WfA A roots loose) {p : Nat} {l : List Nat} {loose' : List Nat} (hp : p = 0 ∨ ∃ t, A p = some t ∧ t.kind = 1) (hn : l.Nodup) (hl : ∀ x ∈ l, x ∉ loose' ∧ ∃ t, A x = some t ∧ t.parent = p)
    (hm : ∀ x s, A x = some s → s.parent = p → x ∉ loose' → x ∈ l) (ho : ∀ x s, A x = some s → s.parent ≠ p → (x ∈ loose' ↔ x ∈ loose)) (hlo : ∀ x ∈ loose', ∃ s, A x = some s) : WfA (setA A p l) (setR roots p l) loose' := by
  have hpe : ∀ q, (q = 0 ∨ ∃ t, A q = some t ∧ t.kind = 1) → (q = 0 ∨ ∃ t, setA A p l q = some t ∧ t.kind = 1) := fun q hq => by
    rcases hq with hq | ⟨t, h1, h2⟩
    · exact .inl hq
    · obtain ⟨u, h3, h4, h5⟩ := setA_of' (p := p) (l := l) h1
      exact .inr ⟨u, h3, by rw [h5, h2]⟩
  have hch : ∀ x s, A x = some s → ∃ t, setA A p l x = some t ∧ t.parent = s.parent := fun x s hx => by
    obtain ⟨u, h3, h4, h5⟩ := setA_of' (p := p) (l := l) hx
    exact ⟨u, h3, h4⟩
  refine ⟨by unfold setA; rw [if_neg (by rintro ⟨e, h2⟩; exact h2 e.symm)]; exact h.zero, fun x t hx => ?_, fun x t hx => ?_, fun x t hx => ?_, fun x t hx => ?_, ?_, fun x t hx hlo => ?_, fun x hx => ?_⟩
  rotate_right
  · obtain ⟨s, hs⟩ := hlo x hx
    exact ⟨_, setA_of hs⟩
  · obtain ⟨s, h1, rfl⟩ := setA_some hx
    have h2 := h.ok x s h1
    split
    · rename_i e
      rcases hp with hp | ⟨t, h3, h4⟩
      · exact absurd hp e.2
      · rw [← e.1, h1] at h3; cases h3
        obtain ⟨h5, h6⟩ := h2
        refine ⟨h5, .inl ⟨h4, ?_⟩⟩
        rcases h6 with h6 | h6
        · exact h6.2
        · rw [h4] at h6; exact absurd h6.1 (by decide)
    · exact h2
  · obtain ⟨s, h1, rfl⟩ := setA_some hx
    have : (if x = p ∧ p ≠ 0 then { s with kids := l } else s).parent = s.parent := by split <;> rfl
    rw [this]
    exact hpe _ (h.par x s h1)
  · obtain ⟨s, h1, rfl⟩ := setA_some hx
    obtain ⟨c, h2, h3⟩ := h.chain x s h1
    exact ⟨c, h2, h3.mono hch⟩
  · obtain ⟨s, h1, rfl⟩ := setA_some hx
    split
    · rename_i e
      refine ⟨hn, fun y hy => ?_⟩
      obtain ⟨h3, u, h4, h5⟩ := hl y hy
      obtain ⟨v, h6, h7⟩ := hch y u h4
      exact ⟨h3, v, h6, by rw [h7, h5, e.1]⟩
    · rename_i e
      obtain ⟨h2, h3⟩ := h.kid x s h1
      refine ⟨h2, fun y hy => ?_⟩
      obtain ⟨h4, u, h5, h6⟩ := h3 y hy
      obtain ⟨v, h7, h8⟩ := hch y u h5
      refine ⟨fun hy2 => h4 ((ho y u h5 ?_).1 hy2), v, h7, by rw [h8, h6]⟩
      rw [h6]
      rintro rfl
      exact e ⟨rfl, h.ne0 h1⟩
  · unfold setR
    split
    · rename_i e
      refine ⟨hn, fun y hy => ?_⟩
      obtain ⟨h3, u, h4, h5⟩ := hl y hy
      obtain ⟨v, h6, h7⟩ := hch y u h4
      exact ⟨h3, v, h6, by rw [h7, h5, e]⟩
    · rename_i e
      refine ⟨h.root.1, fun y hy => ?_⟩
      obtain ⟨h4, u, h5, h6⟩ := h.root.2 y hy
      obtain ⟨v, h7, h8⟩ := hch y u h5
      exact ⟨fun hy2 => h4 ((ho y u h5 (by rw [h6]; exact Ne.symm e)).1 hy2), v, h7, by rw [h8, h6]⟩
  · obtain ⟨s, h1, rfl⟩ := setA_some hx
    have hpe2 : (if x = p ∧ p ≠ 0 then { s with kids := l } else s).parent = s.parent := by split <;> rfl
    rw [hpe2]
    rw [lst_setA ((h.par x s h1).imp id fun ⟨t, h2, _⟩ => ⟨t, h2⟩) h.zero]
    by_cases e : s.parent = p
    · rw [if_pos e]; exact hm x s h1 e hlo
    · rw [if_neg e]; exact h.mem x s h1 fun h2 => hlo ((ho x s h1 e).2 h2)
theorem WfA.node (h : WfA A roots loose) {n : Nat} {s s' : Sl} (hn : A n = some s) (hs : okSl s') (h1 : s'.parent = s.parent) (h2 : s'.kids = s.kids) (h3 : s'.kind = s.kind) : WfA (updA A n (some s')) roots loose := by
  have hold : ∀ x t, updA A n (some s') x = some t → ∃ u, A x = some u ∧ t.parent = u.parent ∧ t.kids = u.kids ∧ t.kind = u.kind ∧ okSl t := fun x t hx => by
    by_cases e : x = n
    · subst e; rw [updA_self] at hx; cases hx; exact ⟨s, hn, h1, h2, h3, hs⟩
    · rw [updA_ne e] at hx; exact ⟨t, hx, rfl, rfl, rfl, h.ok x t hx⟩
  have hnew : ∀ x u, A x = some u → ∃ t, updA A n (some s') x = some t ∧ t.parent = u.parent ∧ t.kids = u.kids ∧ t.kind = u.kind := fun x u hx => by
    by_cases e : x = n
    · subst e; rw [hn] at hx; cases hx; exact ⟨s', updA_self _ _ _, h1, h2, h3⟩
    · exact ⟨u, by rw [updA_ne e]; exact hx, rfl, rfl, rfl⟩
  refine ⟨?_, fun x t hx => ?_, fun x t hx => ?_, fun x t hx => ?_, fun x t hx => ?_, ⟨h.root.1, fun x hx => ?_⟩, fun x t hx hlo => ?_, fun x hx => ?_⟩
  rotate_right
  · obtain ⟨t, ht⟩ := h.lo x hx
    obtain ⟨u, hu, _⟩ := hnew x t ht
    exact ⟨u, hu⟩
  · rw [updA_ne (Ne.symm (h.ne0 hn))]; exact h.zero
  · obtain ⟨u, k1, k2, k3, k4, k5⟩ := hold x t hx; exact k5
  · obtain ⟨u, k1, k2, k3, k4, k5⟩ := hold x t hx
    rw [k2]
    rcases h.par x u k1 with k6 | ⟨v, k6, k7⟩
    · exact .inl k6
    · obtain ⟨y, y1, y2, y3, y4⟩ := hnew _ _ k6
      exact .inr ⟨y, y1, by rw [y4, k7]⟩
  · obtain ⟨u, k1, k2, k3, k4, k5⟩ := hold x t hx
    obtain ⟨c, c1, c2⟩ := h.chain x u k1
    exact ⟨c, c1, c2.mono fun y v hy => by obtain ⟨z, z1, z2, _⟩ := hnew y v hy; exact ⟨z, z1, z2⟩⟩
  · obtain ⟨u, k1, k2, k3, k4, k5⟩ := hold x t hx
    obtain ⟨m1, m2⟩ := h.kid x u k1
    rw [k3]
    refine ⟨m1, fun y hy => ?_⟩
    obtain ⟨q1, v, q2, q3⟩ := m2 y hy
    obtain ⟨z, z1, z2, _⟩ := hnew y v q2
    exact ⟨q1, z, z1, by rw [z2, q3]⟩
  · obtain ⟨q1, v, q2, q3⟩ := h.root.2 x hx
    obtain ⟨z, z1, z2, _⟩ := hnew x v q2
    exact ⟨q1, z, z1, by rw [z2, q3]⟩
  · obtain ⟨u, k1, k2, k3, k4, k5⟩ := hold x t hx
    have k6 := h.mem x u k1 hlo
    rw [k2]
    rcases h.par x u k1 with k7 | ⟨v, k7, -⟩
    · rw [k7, lstA_zero] at k6 ⊢; exact k6
    · rw [lstA_some (h.ne0 k7) k7] at k6
      obtain ⟨y, y1, y2, y3, y4⟩ := hnew _ _ k7
      rw [lstA_some (h.ne0 k7) y1, y3]; exact k6
end
end Go.Proofs.YthbeeonmfbigcaaGreatDoor
