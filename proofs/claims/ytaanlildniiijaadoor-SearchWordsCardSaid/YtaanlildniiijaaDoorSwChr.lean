/- One character: the program's decoder and the reference's. -/
import Derived.Test.YtaanlildniiijaaDoorSwLow
import Derived.Laws.IdiomStrings
namespace Go.Proofs.YtaanlildniiijaaDoor
open Go.RowKit
/-- How many bytes a character has. -/
def lenR (r : Nat) : Nat := if r < 128 then 1 else if r < 2048 then 2 else if r < 65536 then 3 else 4
/-- The text of some numbers. -/
def strN (ns : List Int) : ByteArray := ns.foldl (fun r n => r.push (UInt8.ofNat n.toNat)) ByteArray.empty
theorem strN_size (ns : List Int) : (strN ns).size = ns.length := by
  have : ∀ (ns : List Int) (s : ByteArray), (ns.foldl (fun r n => r.push (UInt8.ofNat n.toNat)) s).size = s.size + ns.length := by
    intro ns
    induction ns with
    | nil => intro s; simp
    | cons n r ih => intro s; rw [List.foldl_cons, ih, ByteArray.size_push, List.length_cons]; omega
  unfold strN; rw [this]; simp
theorem conv_lit (w : World) (ns : List Int) (n : Nat) (hn : n = ns.length) (cs : Array Value) (hcs : cs = (ns.map (Value.int .u8)).toArray) :
    (convert 34 9 (.slice (some ⟨w.heap.size, 0, none⟩) n n)).run Tryd.prog (w.alloc (.cells cs 5)) = .ok (.string (strN ns)) (w.alloc (.cells cs 5)) := by
  subst hn hcs
  rw [run_convert_bytes_string _ _ _ _ _ _ _ Tryd.underlying34 Tryd.underlying5 Tryd.underlying9]
  have hl := run_loadCells_list (P := Tryd.prog) (w.alloc (.cells (ns.map (Value.int .u8)).toArray 5)) ⟨w.heap.size, 0, none⟩ (ns.map (Value.int .u8)) (fun j v hj => by
    have : (Addr.add ⟨w.heap.size, 0, none⟩ j) = ⟨w.heap.size, j, none⟩ := by rw [Addr.add_lit]; simp
    rw [this, blk_cell (blk_new _ _)]
    simpa using hj)
  simp only [List.length_map] at hl
  exact run_bytesToString _ _ _ _ _ hl
set_option maxHeartbeats 4000000
set_option maxRecDepth 100000
theorem bytes1 (r : Nat) (hr : r < 128) (w : World) : Calls Tryd.prog 22 #[.int .i64 r] w fun e w' => (∃ s : ByteArray, e = .returned (.string s) ∧ s.size = 1) ∧ Below w.heap.size w w' := by
  have h0 : (r : Int) < 128 := by omega
  have k1 := fun x => conv_lit w [x] 1 rfl #[.int .u8 x] rfl
  go_enter Tryd.func22, Tryd.ntmps22
  go_wp2
  all_goals go_ret
  all_goals exact ⟨⟨_, rfl, strN_size _⟩, bl1 (Below.refl _ _) _⟩
theorem bytes2 (r : Nat) (hr : 128 ≤ r ∧ r < 2048) (w : World) : Calls Tryd.prog 22 #[.int .i64 r] w fun e w' => (∃ s : ByteArray, e = .returned (.string s) ∧ s.size = 2) ∧ Below w.heap.size w w' := by
  have h0 : ¬ (r : Int) < 128 := by omega
  have h1 : (r : Int) < 2048 := by omega
  have k1 := fun x y => conv_lit w [x, y] 2 rfl #[.int .u8 x, .int .u8 y] rfl
  go_enter Tryd.func22, Tryd.ntmps22
  go_wp2
  all_goals go_ret
  all_goals exact ⟨⟨_, rfl, strN_size _⟩, bl1 (Below.refl _ _) _⟩
theorem bytes3 (r : Nat) (hr : 2048 ≤ r ∧ r < 65536) (w : World) : Calls Tryd.prog 22 #[.int .i64 r] w fun e w' => (∃ s : ByteArray, e = .returned (.string s) ∧ s.size = 3) ∧ Below w.heap.size w w' := by
  have h0 : ¬ (r : Int) < 128 := by omega
  have h1 : ¬ (r : Int) < 2048 := by omega
  have h2 : (r : Int) < 65536 := by omega
  have k1 := fun x y z => conv_lit w [x, y, z] 3 rfl #[.int .u8 x, .int .u8 y, .int .u8 z] rfl
  go_enter Tryd.func22, Tryd.ntmps22
  go_wp2
  all_goals go_ret
  all_goals exact ⟨⟨_, rfl, strN_size _⟩, bl1 (Below.refl _ _) _⟩
theorem bytes4 (r : Nat) (hr : 65536 ≤ r ∧ r < 2097152) (w : World) : Calls Tryd.prog 22 #[.int .i64 r] w fun e w' => (∃ s : ByteArray, e = .returned (.string s) ∧ s.size = 4) ∧ Below w.heap.size w w' := by
  have h0 : ¬ (r : Int) < 128 := by omega
  have h1 : ¬ (r : Int) < 2048 := by omega
  have h2 : ¬ (r : Int) < 65536 := by omega
  have k1 := fun x y z t => conv_lit w [x, y, z, t] 4 rfl #[.int .u8 x, .int .u8 y, .int .u8 z, .int .u8 t] rfl
  go_enter Tryd.func22, Tryd.ntmps22
  go_wp2
  all_goals go_ret
  all_goals exact ⟨⟨_, rfl, strN_size _⟩, bl1 (Below.refl _ _) _⟩
theorem bytes_calls (r : Nat) (hr : r < 2097152) (w : World) : Calls Tryd.prog 22 #[.int .i64 r] w fun e w' => (∃ s : ByteArray, e = .returned (.string s) ∧ s.size = lenR r) ∧ Below w.heap.size w w' := by
  unfold lenR
  split
  · exact bytes1 r (by omega) w
  · split
    · exact bytes2 r (by omega) w
    · split
      · exact bytes3 r (by omega) w
      · exact bytes4 r (by omega) w
/-- What the bytes behind the first one make of a character. -/
def contR (s : ByteArray) (i : Nat) : Nat → Nat → Nat → Option Nat
  | 0, _, r => some r
  | k + 1, j, r => if (s.get! (i + j)).toNat < 128 ∨ 192 ≤ (s.get! (i + j)).toNat then none else contR s i k (j + 1) (64 * r + (s.get! (i + j)).toNat - 128)
def atR (s : ByteArray) (i : Nat) : Nat × Nat :=
  if (sizeR (s.get! i).toNat).1 = 0 ∨ s.size < i + (sizeR (s.get! i).toNat).1 then (0, 0)
  else match contR s i ((sizeR (s.get! i).toNat).1 - 1) 1 (sizeR (s.get! i).toNat).2 with
    | none => (0, 0)
    | some r => if canR r = true ∧ lenR r = (sizeR (s.get! i).toNat).1 then (r, (sizeR (s.get! i).toNat).1) else (0, 0)
end Go.Proofs.YtaanlildniiijaaDoor
