/- New variables in a list: for regions where they are made in any order. -/
import Derived.Test.YtaanlildniiijaaVcUse
namespace Go.Vc
open Go Go.RowKit
/-- Behind w0 these blocks were made, and hold this. -/
structure HL (w0 w : World) (L : List (Nat × Array Value × TypeId)) : Prop where
  below : Below w0.heap.size w0 w
  blk : ∀ p ∈ L, Blk w p.1 p.2.1 p.2.2
  nodup : (L.map (·.1)).Nodup
  ge : ∀ p ∈ L, w0.heap.size ≤ p.1
section
variable {w0 w : World} {L : List (Nat × Array Value × TypeId)}
theorem HL.nil (h : Below w0.heap.size w0 w) : HL w0 w [] := ⟨h, by simp, by simp, by simp⟩
theorem HL.al (h : HL w0 w L) {c : Array Value} {t : TypeId} {K : Addr → World → Prop} (hK : ∀ g w1, HL w0 w1 ((g, c, t) :: L) → K ⟨g, 0, none⟩ w1) : Al w c t K := by
  refine Go.Vc.al fun g w1 hb hg hge => hK g w1 ⟨btr h.below h.below.size hb, ?_, ?_, ?_⟩
  · intro p hp
    rcases List.mem_cons.1 hp with rfl | hp
    · exact hg
    · exact (h.blk p hp).keep hb
  · rw [List.map_cons, List.nodup_cons]
    refine ⟨fun hm => ?_, h.nodup⟩
    obtain ⟨p, hp, e⟩ := List.mem_map.1 hm
    have := (h.blk p hp).lt
    dsimp only at e
    omega
  · intro p hp
    rcases List.mem_cons.1 hp with rfl | hp
    · exact Nat.le_trans h.below.size hge
    · exact h.ge p hp
theorem HL.st (h : HL w0 w L) (i : Nat) {g : Nat} {c : Array Value} {t : TypeId} (hi : L[i]? = some (g, c, t)) {j : Nat} (hj : j < c.size) {v : Value} {K : World → Prop}
    (hK : ∀ w1, HL w0 w1 (L.set i (g, c.setIfInBounds j v, t)) → K w1) : St w ⟨g, j, none⟩ v K := by
  have hm := List.mem_of_getElem? hi
  have hb := h.blk _ hm
  have hge := h.ge _ hm
  have hlt : i < L.length := (List.getElem?_eq_some_iff.1 hi).1
  have hL : L[i] = (g, c, t) := (List.getElem?_eq_some_iff.1 hi).2
  have hnames : (L.set i (g, c.setIfInBounds j v, t)).map (·.1) = L.map (·.1) := by
    rw [List.map_set]
    refine List.ext_getElem (by simp) fun k h1 h2 => ?_
    rw [List.getElem_set]
    split
    · rename_i e; subst e; simp [hL]
    · rfl
  refine ⟨⟨c[j], by rw [hb.cell]; simp [hj]⟩, hb.frozen j, hK _ ⟨h.below.setCell hge _, fun p hp => ?_, by rw [hnames]; exact h.nodup, fun p hp => ?_⟩⟩
  · obtain ⟨k, hk, e⟩ := List.mem_iff_getElem.1 hp
    rw [List.getElem_set] at e
    split at e
    · subst e; exact hb.set j v
    · rename_i hne
      subst e
      have hk2 : k < L.length := by simpa using hk
      refine (h.blk _ (List.getElem_mem hk2)).other (fun e => ?_) _
      have h1 : (L.map (·.1))[i]'(by simpa using hlt) = (L.map (·.1))[k]'(by simpa using hk2) := by simp [hL]; exact e
      have h2 := List.pairwise_iff_getElem.1 h.nodup
      rcases Nat.lt_or_gt_of_ne hne with h3 | h3
      · exact h2 i k (by simpa using hlt) (by simpa using hk2) h3 h1
      · exact h2 k i (by simpa using hk2) (by simpa using hlt) h3 h1.symm
  · obtain ⟨k, hk, e⟩ := List.mem_iff_getElem.1 hp
    rw [List.getElem_set] at e
    split at e
    · subst e; exact hge
    · subst e; exact h.ge _ (List.getElem_mem _)
/-- A box of one cell. -/
theorem HL.st1 (h : HL w0 w L) (i : Nat) {g : Nat} {u : Value} {t : TypeId} (hi : L[i]? = some (g, #[u], t)) {v : Value} {K : World → Prop}
    (hK : ∀ w1, HL w0 w1 (L.set i (g, #[v], t)) → K w1) : St w ⟨g, 0, none⟩ v K := h.st i hi (by simp) hK
end
end Go.Vc
