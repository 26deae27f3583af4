/- A row of texts of the call's own, as the sort's contracts speak of it. -/
import Derived.Test.YtkmoeokfgkmlhaaMdGrow
import Derived.Test.YtkmoeokfgkmlhaaMdNextP
import Derived.Sort.EncStr
import Derived.Sort.Grow
namespace Go.Mdl
open Go.Sort (Holds putRow grow)
open Go.Proofs (encStr)
open Go.RowKit
set_option linter.unusedVariables false
set_option linter.unusedSimpArgs false
theorem drawn_blocks (w : World) (n : Nat) : (Go.Sort.ahead w n).heap = w.heap := rfl
theorem put_below {w : World} {g off q : Nat} {d d' : Array (List UInt8)} {os : Array Obj} {B : Nat} (hB : B ≤ g) (hg : g < w.heap.size) (hH : Holds encStr w g off d) (hs : d'.size = d.size) :
    Below B w (grow (putRow encStr (Go.Sort.ahead w q) g off d') os) ∧ Holds encStr (grow (putRow encStr (Go.Sort.ahead w q) g off d') os) g off d' := by
  refine ⟨⟨rfl, rfl, rfl, ?_, fun b hb => ?_⟩, ?_⟩
  · simp [grow, Go.Sort.putRow, Go.Sort.mapBlock, Go.Sort.ahead]
  · rw [Go.Sort.heap_grow_old _ _ (by rw [Go.Sort.size_putRow, drawn_blocks]; omega)]
    simp only [putRow, Go.Sort.mapBlock, drawn_blocks, Array.getElem?_modify]
    rw [if_neg (by omega)]
  · exact Go.Sort.holds_grow _ _ _ _ _ _ (by rw [Go.Sort.size_putRow, drawn_blocks]; exact hg) (Go.Sort.holds_putRow _ _ _ _ d _ (Go.Sort.holds_ahead _ _ _ _ _ _ hH) hs)
end Go.Mdl
namespace Go.Proofs.Ytkmoeokfgkmlhaa
open Go.RowKit Go.Vc Go.Mdl
open Go.Sort (Holds putRow grow)
open Go.Proofs (encStr)
open Go.RowKit
set_option linter.unusedVariables false
set_option linter.unusedSimpArgs false
theorem enc_bs (x : ByteArray) : encStr (bs x) = .string x := by cases x; simp [bs]
theorem all_st (xs : List ByteArray) : LSt.all xs = xs.map Value.string := by
  induction xs with
  | nil => rfl
  | cons x xs ih => simp [Lay.all, LSt] at ih ⊢; exact ih
theorem holds_own {w : World} {B : Nat} {e : TypeId} {A : Option Addr} {n c : Nat} {xs : List ByteArray} (h : Own LSt w B e (.slice A n c) xs) (hx : xs ≠ []) :
    ∃ g, A = some ⟨g, 0, none⟩ ∧ n = xs.length ∧ B ≤ g ∧ g < w.heap.size ∧ n ≤ c ∧ c ≤ maxLen ∧ Holds encStr w g 0 (xs.map bs).toArray := by
  have hr := h.rd
  rcases h with ⟨_, rfl⟩ | ⟨_, rfl⟩ | ⟨g, c', cur, hs, hb, hh, hn, hm, hsz, ht⟩
  · exact absurd rfl hx
  · exact absurd rfl hx
  · simp only [Value.slice.injEq] at hs
    obtain ⟨rfl, rfl, rfl⟩ := hs
    refine ⟨g, rfl, rfl, hb, (Array.getElem?_eq_some_iff.1 hh).1, hn, hm, fun j hj => ⟨?_, Blk.frozen hh _⟩⟩
    have hj' : j < xs.length := by simpa using hj
    have hpos : 0 < xs.length := by omega
    obtain ⟨b, o, he, hc⟩ := hr.2.2.2.2 hpos
    cases he
    have := hc j (.string xs[j]) (by rw [all_st]; simp [hj'])
    rw [this, getElem!_pos _ j hj]
    simp only [List.getElem_toArray, List.getElem_map, enc_bs]
theorem rd_holds {w : World} {g c : Nat} {d : Array (List UInt8)} {l : List (List UInt8)} (h : Holds encStr w g 0 d) (hl : l <+: d.toList) (hc : l.length ≤ c) (hm : c ≤ maxLen) : Rd LSt w (some ⟨g, 0, none⟩) c (l.map sb) := by
  refine ⟨by simpa using hc, hm, (fun h => by cases h), fun _ => ⟨g, 0, rfl, fun j u hj => ?_⟩⟩
  rw [all_st] at hj
  have hlt := (List.getElem?_eq_some_iff.1 hj).1
  simp only [List.length_map] at hlt
  obtain ⟨t, ht⟩ := hl
  have hd : j < d.size := by rw [← Array.length_toList, ← ht]; simp; omega
  have := (h j hd).1
  rw [this]
  simp only [List.getElem?_map, List.getElem?_eq_getElem hlt, Option.map_some] at hj
  rw [← hj, getElem!_pos d j hd]
  have : d[j] = l[j] := by
    rw [← Array.getElem_toList]
    simp only [← ht]
    rw [List.getElem_append_left hlt]
  rw [this]; rfl
end Go.Proofs.Ytkmoeokfgkmlhaa
