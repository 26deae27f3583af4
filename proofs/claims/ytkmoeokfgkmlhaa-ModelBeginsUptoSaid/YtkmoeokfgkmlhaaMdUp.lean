/- The bound of the second form, argument by argument; a list of bytes as an argument. -/
import Derived.Test.YtkmoeokfgkmlhaaRows
import Derived.Test.YtkmoeokfgkmlhaaOpen
import Derived.Test.YtkmoeokfgkmlhaaMdBeg
import Derived.Lib.SmallJoins
namespace Go.Proofs.Ytkmoeokfgkmlhaa
open Go.RowKit Go.Deep Go.WideShapes Go.ChangeShapes
theorem upto_one {H : Type} (d : DataW H) : 1 ≤ Rows.uptoBulk d := by
  cases d with
  | lit l => cases l <;> simp only [Rows.uptoBulk] <;> omega
  | _ => simp only [Rows.uptoBulk]; omega
theorem upto_len {H : Type} : ∀ (l : List (DataW H)), l.length ≤ Rows.uptoBulkAll l
  | [] => by simp
  | d :: l => by
    have := upto_len l
    have := upto_one d
    simp only [Rows.uptoBulkAll, List.length_cons]; omega
theorem upto_part {H : Type} {d : DataW H} : ∀ {l : List (DataW H)}, d ∈ l → Rows.uptoBulk d ≤ Rows.uptoBulkAll l
  | e :: l, h => by
    simp only [Rows.uptoBulkAll]
    rcases List.mem_cons.1 h with rfl | h
    · omega
    · have := upto_part h; omega
theorem upto_small {H : Type} {d : DataW H} {l : List (DataW H)} (hk : Rows.uptoSmall H l = true) (h : d ∈ l) : Rows.uptoBulk d ≤ 1048576 :=
  Nat.le_trans (upto_part h) (of_decide_eq_true hk)
/-- The length of a slice is below the bulk of what it reads. -/
theorem upto_slice {H : Type} {enc : TypeId × Value → H} {P : Program} {W : World} {t e : TypeId} {A : Option Addr} {n c : Nat} {d : DataW H} {p : List MemPlace}
    (h : DataW.Trod enc P W 0 (fun _ => true) true t (.slice A n c) d p) (ht : P.underlying t = some (.slice e)) : n ≤ Rows.uptoBulk d := by
  obtain ⟨fuel, hf⟩ := h
  rcases open_slice ht hf with ⟨hcs, _⟩ | ⟨a, len, cap, m, k, D, Pl, hcs, _, hl, hm, hmm, hx, hi⟩
  · simp [Value.cells] at hcs
    obtain ⟨rfl, rfl, rfl⟩ := hcs
    omega
  · simp [Value.cells] at hcs
    obtain ⟨rfl, rfl, rfl⟩ := hcs
    rw [(Prod.mk.inj hx).1]
    simp only [Rows.uptoBulk]
    have := upto_len ((List.range n).map D)
    simp only [List.length_map, List.length_range] at this
    omega
theorem u8_cells {H : Type} {enc : TypeId × Value → H} {W : World} (n : Nat) (cs : List Value) (x : DataW H × List MemPlace)
    (h : DataW.trod enc Try.prog W 0 (fun _ => true) true n 5 cs = some x) : ∃ y : UInt8, cs = LU8.cells y := by
  obtain ⟨n0, rfl, -, hw⟩ := DataW.trod_int Try.underlying5 h
  have hx : 0 ≤ n0 ∧ n0 ≤ 255 := by simpa [Lit.wf, IntKind.min, IntKind.max, IntKind.signed, IntKind.bits] using hw
  refine ⟨UInt8.ofNat n0.toNat, ?_⟩
  simp only [LU8]
  rw [UInt8.toNat_ofNat', Nat.mod_eq_of_lt (by omega), Int.toNat_of_nonneg hx.1]
end Go.Proofs.Ytkmoeokfgkmlhaa
