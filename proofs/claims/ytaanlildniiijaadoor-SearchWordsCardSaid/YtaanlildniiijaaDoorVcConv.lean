/- '[]byte(s)' and 'string(b)' in the formulas that 'vc' reckons. -/
import Derived.Test.YtaanlildniiijaaDoorVcUse
import Derived.Lib.ConvBytes
import Derived.Laws.IdiomStrings
namespace Go.Vc
open Go Go.RowKit
section
variable {P : Program} {w : World}
theorem bytes_at (s : ByteArray) (j : Nat) (hj : j < s.size) : s.data.toList[j]'(by simpa using hj) = s[j] := by simp; rfl
theorem s2b {src dst e : TypeId} {u : TypeDesc} {s : ByteArray} {K : Value → World → Prop} (hs : P.underlying src = some u) (hd : P.underlying dst = some (.slice e)) (he : P.underlying e = some (.int .u8))
    (h : ∀ cap w1, Below w.heap.size w w1 → (∀ j (hj : j < s.size), w1.cell? ⟨w.heap.size, j, none⟩ = some (.int .u8 (s[j].toNat : Int))) → (∀ j, j < s.size → w1.frozen? ⟨w.heap.size, j, none⟩ = false) →
      w1.heap.size = w.heap.size + 1 → K (.slice (some ⟨w.heap.size, 0, none⟩) s.size cap) w1) : Raw P (convert src dst (.string s)) w K := by
  refine ⟨_, _, Lib.run_convert_string_bytes w src dst e s hs hd he, h _ _ ?_ ?_ ?_ ?_⟩
  · refine ⟨rfl, rfl, rfl, by simp [Lib.bytesWorld, World.freeze], fun k hk => ?_⟩
    simp only [Lib.bytesWorld, World.freeze]
    rw [if_neg (by omega)]
    simp only [Array.getElem?_modify]
    rw [if_neg (by omega)]
    exact Below.heap_alloc w.drew _ k hk
  · intro j hj
    have hsz : s.size ≤ (Lib.bytesCells w e s).size := by simp [Lib.bytesCells]
    have : (Lib.bytesCells w e s)[j]? = some (.int .u8 (s[j].toNat : Int)) := by
      unfold Lib.bytesCells
      rw [Array.getElem?_append_left (by simpa using hj)]
      simp [hj]; rfl
    simp only [Lib.bytesWorld, World.freeze, World.cell?]
    rw [if_neg (by omega)]
    simp only [Array.getElem?_modify, if_true]
    simp [World.alloc, World.drew, -World.alloc_eq, -World.drew_eq, this]
  · intro j hj
    have hsz : s.size ≤ (Lib.bytesCells w e s).size := by simp [Lib.bytesCells]
    simp only [Lib.bytesWorld, World.freeze, World.frozen?]
    rw [if_neg (by omega)]
    simp only [Array.getElem?_modify, if_true]
    simp [World.alloc, World.drew, -World.alloc_eq, -World.drew_eq]
    omega
  · simp [Lib.bytesWorld, World.freeze]
theorem b2s {src dst e : TypeId} {a : Option Addr} {n cap : Nat} {K : Value → World → Prop} (l : List UInt8) (hn : n = l.length) (hs : P.underlying src = some (.slice e)) (he : P.underlying e = some (.int .u8)) (hd : P.underlying dst = some .string)
    (hc : ∀ j (hj : j < l.length), ∃ b o, a = some ⟨b, o, none⟩ ∧ w.cell? ⟨b, o + j, none⟩ = some (.int .u8 (l[j].toNat : Int))) (h : K (.string ⟨l.toArray⟩) w) : Raw P (convert src dst (.slice a n cap)) w K := by
  subst hn
  cases a with
  | none =>
    cases l with
    | nil => exact ⟨_, w, (by show (convert src dst (.slice none 0 cap)).run P w = _; rw [run_convert_bytes_string w src dst e none 0 cap hs he hd]; rfl), h⟩
    | cons x xs => obtain ⟨b, o, h0, _⟩ := hc 0 (by simp); cases h0
  | some q =>
    refine ⟨_, w, run_convert_bytes_back w src dst e q cap l hs he hd fun j hj => ?_, h⟩
    obtain ⟨b, o, h0, h1⟩ := hc j hj
    obtain rfl : q = ⟨b, o, none⟩ := by simpa using h0
    rw [Addr.add_mk]
    exact h1
end
end Go.Vc
