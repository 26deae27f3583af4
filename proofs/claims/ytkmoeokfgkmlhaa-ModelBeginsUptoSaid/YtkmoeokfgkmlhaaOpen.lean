/- An argument that is a slice, opened to what it reads, whatever its elements are. -/
import Derived.Test.YtkmoeokfgkmlhaaSl
import Derived.Deep.Slices
import Derived.SizedLaws
import Derived.DataReads
import Derived.WideShapes
namespace Go.Proofs.Ytkmoeokfgkmlhaa
open Go.RowKit Go.Deep Go.WideShapes Go.ChangeShapes
section
variable {H : Type} {enc : TypeId × Value → H} {P : Program} {W : World} {α : Type}
theorem cells_of_rows {L : Lay α} {w : World} {b o : Nat} : ∀ (xs : List α), (∀ i (h : i < xs.length), ∀ j u, (L.cells xs[i])[j]? = some u → w.cell? ⟨b, o + i * L.n + j, none⟩ = some u) →
    ∀ j u, (L.all xs)[j]? = some u → w.cell? ⟨b, o + j, none⟩ = some u := by
  intro xs h j u hj
  have hlt : j < xs.length * L.n := by rw [← L.all_length]; exact (List.getElem?_eq_some_iff.1 hj).1
  have hi : j / L.n < xs.length := (Nat.div_lt_iff_lt_mul L.pos).2 hlt
  have hr : j % L.n < L.n := Nat.mod_lt _ L.pos
  have hd : j / L.n * L.n + j % L.n = j := by rw [Nat.mul_comm]; exact Nat.div_add_mod j L.n
  have := h (j / L.n) hi (j % L.n) u (by rw [← L.all_at xs _ hi _ hr, hd]; exact hj)
  rwa [Nat.add_assoc, hd] at this
/-- A slice argument: the list that it reads, its size. -/
theorem open_rd {base : Nat} [Inhabited α] (L : Lay α) {t e : TypeId} {v : Value} {d : DataW H} {p : List MemPlace} {ts : List TypeId} {ds : List (DataW H)} {j B : Nat}
    (hsz : (DataW.weightsEach P ts ds).all (· ≤ reachBytes) = true) (hj : ts[j]? = some t) (hd : ds[j]? = some d)
    (hv : Value.okWide P W .any base t v) (h : DataW.Trod enc P W 0 (fun _ => true) true t v d p) (ht : P.underlying t = some (.slice e)) (hC : P.cellsOf e = L.n) (hB : P.bytesOf e = B)
    (hel : ∀ (n : Nat) (cs : List Value) (x : DataW H × List MemPlace), DataW.trod enc P W 0 (fun _ => true) true n e cs = some x → ∃ y : α, cs = L.cells y) :
    ∃ A c xs, v = .slice A xs.length c ∧ Rd L W A c xs ∧ xs.length * B ≤ 140737488351232 := by
  obtain ⟨a0, len0, cap0, rfl⟩ := okWide_slice ht hv
  obtain ⟨fuel, hf⟩ := h
  rcases open_slice ht hf with ⟨hcs, _⟩ | ⟨a, len, cap, m, n, D, Pl, hcs, _, hl, hm, hmm, hx, hi⟩
  · simp [Value.cells] at hcs
    obtain ⟨rfl, rfl, rfl⟩ := hcs
    exact ⟨none, 0, [], rfl, Rd.nil _ _, by simp⟩
  · simp [Value.cells] at hcs
    obtain ⟨rfl, rfl, rfl⟩ := hcs
    have hlm : len0 ≤ m := by rw [hmm]; simp; exact hl
    obtain ⟨f, hfx⟩ := choose_lt (α := α) (n := len0) (p := fun i y => ∀ j u, (L.cells y)[j]? = some u → W.cell? ((a.add (i * L.n)).add j) = some u) (fun i hil => by
      obtain ⟨cs', h1, h2⟩ := hi i (by omega)
      obtain ⟨y, rfl⟩ := hel _ _ _ h2
      obtain ⟨_, hlen, hat⟩ := World.cells?_some h1
      refine ⟨y, fun j u hj => ?_⟩
      rw [hC] at hat hlen
      rw [hat j (by rw [← L.len y]; exact (List.getElem?_eq_some_iff.1 hj).1)]
      exact hj)
    have z := sized_slice hsz hj (by rw [hd, (Prod.mk.inj hx).1]) ht
    rw [hB] at z
    refine ⟨some a, cap0, (List.range len0).map f, by simp, ⟨by simpa using hl, hm, (fun h => by cases h), fun h0 => ?_⟩, ?_⟩
    · simp at h0
      have hspot : a.spot = none := by
        have hy := hfx 0 h0
        have hn : 0 < (L.cells (f 0)).length := by rw [L.len]; exact L.pos
        have := hy 0 _ (List.getElem?_eq_getElem hn)
        simp only [Nat.zero_mul, Addr.add, if_true] at this
        unfold World.cell? at this
        cases hs : a.spot with
        | none => rfl
        | some q =>
          split at this
          · rw [hs] at this; simp at this
          · cases this
      obtain ⟨b, o, s⟩ := a
      simp only at hspot
      subst hspot
      refine ⟨b, o, rfl, cells_of_rows _ (fun i hi j u hj => ?_)⟩
      simp at hi hj
      have := hfx i hi j u hj
      rw [Addr.add_lit, Addr.add_lit] at this
      exact this
    · rw [List.length_map, List.length_range]
      refine Nat.le_trans (Nat.mul_le_mul_right _ ?_) z
      simp
end
end Go.Proofs.Ytkmoeokfgkmlhaa
