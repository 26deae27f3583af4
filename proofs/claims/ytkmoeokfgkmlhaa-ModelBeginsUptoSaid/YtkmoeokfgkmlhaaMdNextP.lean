/- Models: what Next tells (sorted, each once). -/
import Derived.Test.YtkmoeokfgkmlhaaMdLive
import Derived.Lib.SlicesCompact
namespace Go.Mdl
set_option linter.unusedVariables false
set_option linter.unusedSimpArgs false
section
variable {α : Type} [Inhabited α] [DecidableEq α]
theorem upTo_all (d : Array α) : ∀ m, ∀ j, j < m → d[j]! ∈ Lib.compactUpTo d m
  | 0, j, h => absurd h (by omega)
  | m + 1, j, h => by
    rw [Lib.compactUpTo_succ, List.mem_append]
    by_cases hj : j < m
    · exact .inl (upTo_all d m j hj)
    · obtain rfl : j = m := by omega
      by_cases hk : Lib.keeps d j = true
      · right; rw [if_pos hk]; simp
      · left
        unfold Lib.keeps at hk
        simp only [ne_eq, decide_eq_true_eq, not_or, Decidable.not_not] at hk
        rw [hk.2]
        exact upTo_all d j (j - 1) (by omega)
theorem mem_compact (zs : List α) (x : α) : x ∈ Lib.compact zs ↔ x ∈ zs := by
  constructor
  · intro h
    unfold Lib.compact Lib.compactUpTo at h
    obtain ⟨j, hj, rfl⟩ := List.mem_map.1 h
    have := List.mem_range.1 (List.mem_filter.1 hj).1
    rw [getElem!_pos zs.toArray j (by simpa using this)]
    simp
  · intro h
    obtain ⟨j, hj, rfl⟩ := List.getElem_of_mem h
    have := upTo_all zs.toArray zs.length j hj
    rw [getElem!_pos zs.toArray j (by simpa using hj)] at this
    simpa [Lib.compact] using this
theorem compact_len (zs : List α) : (Lib.compact zs).length ≤ zs.length := by
  unfold Lib.compact Lib.compactUpTo
  rw [List.length_map]
  refine Nat.le_trans (List.length_filter_le _ _) (by simp)
end
def bs (x : ByteArray) : List UInt8 := x.data.toList
def sb (l : List UInt8) : ByteArray := ⟨l.toArray⟩
theorem sb_bs (x : ByteArray) : sb (bs x) = x := by cases x; simp [sb, bs]
/-- What Next tells where these places may come. -/
def Pl.names (m : Pl) (may : List Nat) : Wd := may.map (nameOf m)
def nxtB (l : Wd) : List (List UInt8) := Lib.compact ((l.map bs).mergeSort fun x y => decide (x ≤ y))
def nxt (l : Wd) : Wd := (nxtB l).map sb
theorem mem_nxt (l : Wd) (x : ByteArray) : x ∈ nxt l ↔ x ∈ l := by
  unfold nxt nxtB
  constructor
  · intro h
    obtain ⟨y, hy, rfl⟩ := List.mem_map.1 h
    rw [mem_compact, List.mem_mergeSort] at hy
    obtain ⟨z, hz, rfl⟩ := List.mem_map.1 hy
    rw [sb_bs]; exact hz
  · intro h
    refine List.mem_map.2 ⟨bs x, ?_, sb_bs x⟩
    rw [mem_compact, List.mem_mergeSort]
    exact List.mem_map.2 ⟨x, h, rfl⟩
theorem nxt_len (l : Wd) : (nxt l).length ≤ l.length := by
  unfold nxt nxtB
  rw [List.length_map]
  exact Nat.le_trans (compact_len _) (by simp)
theorem nxt_ne {l : Wd} (h : l ≠ []) : nxt l ≠ [] := by
  obtain ⟨x, hx⟩ := List.exists_mem_of_ne_nil _ h
  intro e
  have := (mem_nxt l x).2 hx
  rw [e] at this; cases this
/-- A beginning. -/
def Pl.beg (m : Pl) (names : Wd) : Prop := (m.run names).1 = names.length
theorem beg_nil (m : Pl) : m.beg [] := rfl
/-- What is told of a beginning. -/
theorem beg_facts {m : Pl} (h : Live m) (hf : ∀ k ∈ m.first, k < m.atoms.length) (hF : ∀ i j, Fol m.fol i j → j < m.atoms.length) {names : Wd} (hb : m.beg names) :
    ((m.run names).2.2 = true ∨ (m.run names).2.1 ≠ []) ∧
    (∀ x, (m.run (names ++ [x])).1 = names.length + 1 ↔ Dt ∈ nxt (m.names (m.run names).2.1) ∨ (x ∈ nxt (m.names (m.run names).2.1) ∧ x ≠ Dt)) ∧
    (∀ x, (m.run (names ++ [x])).1 = names.length + 1 → m.beg (names ++ [x])) := by
  refine ⟨(goes_live h names 0 m.first m.empty h.first hf hF).1, fun x => ?_, fun x hx => ?_⟩
  · have hb2 : (m.goes names 0 m.first m.empty).1 = names.length := hb
    have := goes_snoc (m := m) x names 0 m.first m.empty (by omega)
    have e := more_iff m (m.run names).2.1 x
    rw [mem_nxt, mem_nxt]
    unfold Pl.names
    rw [← e]
    unfold Pl.run
    rw [this]
    by_cases he : (m.hit (m.goes names 0 m.first m.empty).2.1 x).isEmpty = true
    · rw [if_pos he, he]
      rw [hb2]
      constructor
      · intro h; omega
      · intro h; cases h
    · rw [if_neg he]
      simp only [Bool.not_eq_true] at he
      rw [he]
      simp
  · unfold Pl.beg
    rw [hx]; simp
end Go.Mdl
