/- The words of a text, in plain Lean. -/
import Derived.Test.YtaanlildniiijaaDoorSwLow
namespace Go.Proofs.YtaanlildniiijaaDoor
/-- Is there a byte of a word at this place? -/
def isW (s : ByteArray) (i : Nat) : Bool := match s[i]? with | some b => inW b.toNat | none => false
theorem isW_lt {s : ByteArray} {i : Nat} (h : isW s i = true) : i < s.size := by
  unfold isW at h
  split at h
  · rename_i b hb
    rcases Nat.lt_or_ge i s.size with h' | h'
    · exact h'
    · rw [getElem?_neg s i (by omega)] at hb; cases hb
  · cases h
theorem isW_at {s : ByteArray} {i : Nat} (h : i < s.size) : isW s i = inW s[i].toNat := by
  unfold isW; rw [getElem?_pos s i h]
/-- Where the word that begins here ends. -/
def runE (s : ByteArray) (i : Nat) : Nat := if h : isW s i = true then runE s (i + 1) else i
termination_by s.size - i
decreasing_by have := isW_lt h; omega
theorem runE_t {s : ByteArray} {i : Nat} (h : isW s i = true) : runE s i = runE s (i + 1) := by rw [runE, dif_pos h]
theorem runE_f {s : ByteArray} {i : Nat} (h : isW s i = false) : runE s i = i := by rw [runE, dif_neg (by rw [h]; decide)]
theorem runE_ge (s : ByteArray) (i : Nat) : i ≤ runE s i := by
  rw [runE]
  split
  · rename_i h
    have := isW_lt h
    have := runE_ge s (i + 1)
    omega
  · exact Nat.le_refl _
termination_by s.size - i
theorem runE_le (s : ByteArray) (i : Nat) (hi : i ≤ s.size) : runE s i ≤ s.size := by
  rw [runE]
  split
  · rename_i h
    have := isW_lt h
    exact runE_le s (i + 1) (by omega)
  · exact hi
termination_by s.size - i
theorem runE_end (s : ByteArray) (i : Nat) : isW s (runE s i) = false := by
  rw [runE]
  split
  · rename_i h
    have := isW_lt h
    exact runE_end s (i + 1)
  · rename_i h; simpa using h
termination_by s.size - i
theorem runE_gt {s : ByteArray} {i : Nat} (h : isW s i = true) : i < runE s i := by
  rw [runE_t h]; exact runE_ge s (i + 1)
theorem lowW_lt {c : Nat} (h : c < 256) : lowW c < 256 := by unfold lowW; split <;> omega
def lowU (b : UInt8) : UInt8 := UInt8.ofNat (lowW b.toNat)
theorem lowU_nat (b : UInt8) : (lowU b).toNat = lowW b.toNat := by
  unfold lowU
  rw [UInt8.toNat_ofNat']
  exact Nat.mod_eq_of_lt (lowW_lt b.toNat_lt)
def lowB (s : ByteArray) : ByteArray := ⟨(s.data.toList.map lowU).toArray⟩
/-- The words from a place on, and where they begin. -/
def wordsF (s : ByteArray) (i : Nat) : List (ByteArray × Nat) :=
  if h : i < s.size then
    if isW s i = true then (lowB (s.extract i (runE s i)), i) :: wordsF s (runE s i) else wordsF s (i + 1)
  else []
termination_by s.size - i
decreasing_by
  · rename_i hw; have := runE_gt hw; omega
  · omega
theorem wordsF_t {s : ByteArray} {i : Nat} (h : isW s i = true) : wordsF s i = (lowB (s.extract i (runE s i)), i) :: wordsF s (runE s i) := by
  rw [wordsF, dif_pos (isW_lt h), if_pos h]
theorem wordsF_f {s : ByteArray} {i : Nat} (h : isW s i = false) : wordsF s i = wordsF s (i + 1) := by
  by_cases hi : i < s.size
  · rw [wordsF, dif_pos hi, if_neg (by rw [h]; decide)]
  · rw [wordsF, dif_neg hi, wordsF, dif_neg (by omega)]
theorem wordsF_end {s : ByteArray} {i : Nat} (h : s.size ≤ i) : wordsF s i = [] := by rw [wordsF, dif_neg (by omega)]
theorem wordsF_len (s : ByteArray) (i : Nat) : (wordsF s i).length ≤ s.size - i := by
  rw [wordsF]
  split
  · split
    · rename_i hi hw
      have h1 := runE_gt hw
      have := wordsF_len s (runE s i)
      have h2 := runE_le s i (by omega)
      simp only [List.length_cons]
      omega
    · have := wordsF_len s (i + 1)
      omega
  · simp
termination_by s.size - i
end Go.Proofs.YtaanlildniiijaaDoor
