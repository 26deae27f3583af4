/- Models: no place is a dead end; what may come next. -/
import Derived.Test.YtkmoeokfgkmlhaaMdPure
namespace Go.Mdl
set_option linter.unusedVariables false
set_option linter.unusedSimpArgs false
def LivI (g : GS) (p : Pc) (a : Nat) : Prop := ∀ i, a ≤ i → i < g.1.length → i ∈ p.last ∨ ∃ j, Fol g.2 i j
def LivF (p : Pc) : Prop := p.empty = true ∨ p.first ≠ []
theorem joined_ne {a b : List Nat} (h : a ≠ [] ∨ b ≠ []) : joined a b ≠ [] := by
  intro e
  rcases h with h | h
  · obtain ⟨x, hx⟩ := List.exists_mem_of_ne_nil _ h
    have := (mem_joined (x := x) b a).2 (.inl hx)
    rw [e] at this; cases this
  · obtain ⟨x, hx⟩ := List.exists_mem_of_ne_nil _ h
    have := (mem_joined (x := x) b a).2 (.inr hx)
    rw [e] at this; cases this
theorem fol_at {f f' : List (List Nat)} {i : Nat} (h : f'[i]? = f[i]?) (k : ∃ j, Fol f i j) : ∃ j, Fol f' i j := by
  obtain ⟨j, hj⟩ := k
  exact ⟨j, (fol_eq h j).1 hj⟩
mutual
theorem livP : ∀ (p : Part) (g : GS), g.1.length = g.2.length → vP p → LivF (uP p g).1 ∧ LivI (uP p g).2 (uP p g).1 g.1.length
  | .mk a rows s, g, hl, hv => by
    have hv2 := hv.2
    have key : ∃ r : Pc × GS, r = (if a = Br then uC rows g ⟨[], [], false⟩ else if a = Mi then (⟨[], [], true⟩, g) else (⟨[g.1.length], [g.1.length], false⟩, (g.1 ++ [a], g.2 ++ [[]]))) ∧
        (∀ k ∈ r.1.last, k < r.2.2.length) ∧ LivF r.1 ∧ LivI r.2 r.1 g.1.length := by
      refine ⟨_, rfl, ?_⟩
      by_cases h1 : a = Br
      · rw [if_pos h1]
        have hr : rows ≠ [] ∧ vC rows := by
          rcases hv2 with h | h
          · exact h.2
          · exact absurd h1 (br_ne h.1)
        have := livC rows g ⟨[], [], false⟩ g.1.length hl (Nat.le_refl _) (isNone _ _ _) hr.2 (.inr hr.1) (fun i h h' => by omega)
        have is1 := isC rows g ⟨[], [], false⟩ g.1.length none hl (Nat.le_refl _) (isNone _ _ _)
        exact ⟨fun k hk => by rw [← is1.1.len]; exact (is1.2.l1 k hk).2, this⟩
      · rw [if_neg h1]
        by_cases h2 : a = Mi
        · rw [if_pos h2]
          exact ⟨fun k hk => (by cases hk), .inl rfl, fun i h h' => by dsimp only at h'; omega⟩
        · rw [if_neg h2]
          refine ⟨fun k hk => by simp at hk; subst hk; simp [hl], .inr (by simp), fun i h h' => .inl ?_⟩
          simp at h' ⊢; omega
    obtain ⟨r, hr, hlast, hF, hI⟩ := key
    simp only [uP]
    rw [← hr]
    clear hr
    refine ⟨?_, ?_⟩
    · rcases hF with h | h
      · left; simp [h]
      · right; exact h
    · intro i h h'
      rcases hI i h h' with k | ⟨j, k⟩
      · exact .inl k
      · right
        refine ⟨j, ?_⟩
        dsimp only
        split
        · exact (fol_behind _ _ _ hlast).2 (.inl k)
        · exact k
theorem livR : ∀ (xs : List Part) (g : GS) (all : Pc) (a : Nat) {X : Lang}, g.1.length = g.2.length → a ≤ g.1.length → IsG g all a X → vR xs → LivF all → LivI g all a →
    LivF (uR xs g all).1 ∧ LivI (uR xs g all).2 (uR xs g all).1 a
  | [], g, all, a, X, hl, ha, h, hv, hF, hI => ⟨hF, hI⟩
  | x :: xs, g, all, a, X, hl, ha, h, hv, hF, hI => by
    simp only [uR]
    obtain ⟨on1, is1⟩ := isP x g hl
    obtain ⟨lf, li⟩ := livP x g hl hv.1
    generalize uP x g = r at on1 is1 lf li ⊢
    have h' := h.same (G := Fol r.2.2) (A' := At r.2.1) (fun i j h1 h2 => fol_eq (on1.fol i h2) j) (fun i n h1 h2 => at_eq (on1.at_ i h2) n)
    have hlast : ∀ k ∈ all.last, k < r.2.2.length := fun k hk => by have := (h.l1 k hk).2; have := on1.le; rw [← on1.len]; omega
    have s1 := h'.seq is1 ha on1.le (G := Fol (behind r.2.2 all.last r.1.first)) fun i j => fol_behind _ _ _ hlast
    have is2 : IsG (r.2.1, behind r.2.2 all.last r.1.first) ⟨if all.empty then joined all.first r.1.first else all.first, if r.1.empty then joined all.last r.1.last else r.1.last, all.empty && r.1.empty⟩ a (seq X (mP x)) := by
      refine s1.sub (fun i => ?_) (fun i => ?_) (by simp)
      · cases all.empty
        · simp
        · simp [mem_joined]
      · cases r.1.empty
        · simp
        · simp [mem_joined, or_comm]
    refine livR xs (r.2.1, behind r.2.2 all.last r.1.first) _ a (by simp [behind_len, on1.len]) (Nat.le_trans ha on1.le) is2 hv.2 ?_ ?_
    · cases he : all.empty with
      | false =>
        right
        simp only [he, Bool.false_eq_true, if_false]
        rcases hF with h | h
        · rw [he] at h; cases h
        · exact h
      | true =>
        rcases lf with h | h
        · left; simp [h, he]
        · right
          simp only [he, if_true]
          exact joined_ne (.inr h)
    · intro i hi hi'
      have gr : ∀ {i}, (∃ j, Fol r.2.2 i j) → ∃ j, Fol (behind r.2.2 all.last r.1.first) i j := fun ⟨j, k⟩ => ⟨j, (fol_behind _ _ _ hlast).2 (.inl k)⟩
      by_cases hlt : i < g.1.length
      · rcases hI i hi hlt with k | k
        · cases he : r.1.empty with
          | true => left; simp only [he, if_true]; exact (mem_joined _ _).2 (.inl k)
          | false =>
            right
            rcases lf with h | h
            · rw [he] at h; cases h
            · obtain ⟨x, hx⟩ := List.exists_mem_of_ne_nil _ h
              exact ⟨x, (fol_behind _ _ _ hlast).2 (.inr ⟨k, hx⟩)⟩
        · exact .inr (gr (fol_at (on1.fol i hlt) k))
      · rcases li i (by omega) hi' with k | k
        · left
          dsimp only
          split
          · exact (mem_joined _ _).2 (.inr k)
          · exact k
        · exact .inr (gr k)
theorem livC : ∀ (xs : List (List Part)) (g : GS) (all : Pc) (a : Nat) {X : Lang}, g.1.length = g.2.length → a ≤ g.1.length → IsG g all a X → vC xs → (LivF all ∨ xs ≠ []) → LivI g all a →
    LivF (uC xs g all).1 ∧ LivI (uC xs g all).2 (uC xs g all).1 a
  | [], g, all, a, X, hl, ha, h, hv, hF, hI => ⟨by rcases hF with h | h; exact h; exact absurd rfl h, hI⟩
  | x :: xs, g, all, a, X, hl, ha, h, hv, hF, hI => by
    simp only [uC]
    obtain ⟨on1, is1⟩ := isR x g ⟨[], [], true⟩ g.1.length eps hl (Nat.le_refl _) (isEps _ _ _)
    obtain ⟨lf, li⟩ := livR x g ⟨[], [], true⟩ g.1.length hl (Nat.le_refl _) (isEps _ _ _) hv.2.1 (.inl rfl) (fun i h h' => by omega)
    generalize uR x g ⟨[], [], true⟩ = r at on1 is1 lf li ⊢
    have h' := h.same (G := Fol r.2.2) (A' := At r.2.1) (fun i j h1 h2 => fol_eq (on1.fol i h2) j) (fun i n h1 h2 => at_eq (on1.at_ i h2) n)
    have s1 := h'.alt is1 ha on1.le
    have is2 : IsG r.2 ⟨joined all.first r.1.first, joined all.last r.1.last, all.empty || r.1.empty⟩ a (alt X (seq eps (mR x))) := by
      refine s1.sub (fun i => ?_) (fun i => ?_) (by simp)
      · rw [mem_joined]
      · rw [mem_joined]
    refine livC xs r.2 _ a on1.len (Nat.le_trans ha on1.le) is2 hv.2.2 (.inl ?_) ?_
    · rcases lf with h | h
      · left; simp [h]
      · right; exact joined_ne (.inr h)
    · intro i hi hi'
      by_cases hlt : i < g.1.length
      · rcases hI i hi hlt with k | k
        · exact .inl ((mem_joined _ _).2 (.inl k))
        · exact .inr (fol_at (on1.fol i hlt) k)
      · rcases li i (by omega) hi' with k | k
        · exact .inl ((mem_joined _ _).2 (.inr k))
        · exact .inr k
end
/-- No dead end. -/
structure Live (m : Pl) : Prop where
  first : m.empty = true ∨ m.first ≠ []
  fol : ∀ i, i < m.atoms.length → i ∈ m.last ∨ ∃ j, Fol m.fol i j
theorem placed_live {rows : List (List Part)} (h : okC rows) : Live (placed rows) := by
  have := livC rows ([], []) ⟨[], [], false⟩ 0 rfl (Nat.le_refl _) (isNone _ _ _) h.2.1 (.inr h.1) (fun i h h' => by simp at h')
  exact ⟨this.1, fun i hi => this.2 i (Nat.zero_le _) hi⟩
theorem goes_live {m : Pl} (h : Live m) : ∀ (xs : Wd) (i : Nat) (may : List Nat) (is : Bool), (is = true ∨ may ≠ []) → (∀ k ∈ may, k < m.atoms.length) → (∀ i j, Fol m.fol i j → j < m.atoms.length) →
    ((m.goes xs i may is).2.2 = true ∨ (m.goes xs i may is).2.1 ≠ []) ∧ (∀ k ∈ (m.goes xs i may is).2.1, k < m.atoms.length)
  | [], i, may, is, h1, h2, h3 => ⟨h1, h2⟩
  | x :: xs, i, may, is, h1, h2, h3 => by
    unfold Pl.goes
    split
    · exact ⟨h1, h2⟩
    · rename_i he
      refine goes_live h xs _ _ _ ?_ ?_ h3
      · cases hh : m.hit may x with
        | nil => rw [hh] at he; exact absurd rfl he
        | cons k l =>
          have hk : k ∈ m.hit may x := by rw [hh]; simp
          have hk2 := h2 k (List.mem_filter.1 hk).1
          rcases h.fol k hk2 with hl | ⟨j, hj⟩
          · left; simp [hl]
          · right
            have := (mem_next m j (m.hit may x) []).2 (.inr ⟨k, hk, hj⟩)
            intro e
            rw [← hh] at e
            unfold Pl.next at e
            rw [e] at this; cases this
      · intro k hk
        unfold Pl.next at hk
        rcases (mem_next m k (m.hit may x) []).1 hk with h | ⟨i, _, h⟩
        · cases h
        · exact h3 _ _ h
/-- How far a longer text goes. -/
theorem goes_snoc {m : Pl} (x : ByteArray) : ∀ (xs : Wd) (i : Nat) (may : List Nat) (is : Bool), (m.goes xs i may is).1 = i + xs.length →
    m.goes (xs ++ [x]) i may is = if (m.hit (m.goes xs i may is).2.1 x).isEmpty then m.goes xs i may is else
      (i + xs.length + 1, m.next (m.hit (m.goes xs i may is).2.1 x), (m.hit (m.goes xs i may is).2.1 x).any fun k => m.last.contains k)
  | [], i, may, is, h => by simp [Pl.goes]
  | y :: xs, i, may, is, h => by
    rw [List.cons_append]
    unfold Pl.goes at h ⊢
    by_cases he : (m.hit may y).isEmpty = true
    · rw [if_pos he] at h; simp at h
    · rw [if_neg he] at h
      rw [if_neg he, if_neg he]
      have := goes_snoc x xs (i + 1) (m.next (m.hit may y)) ((m.hit may y).any fun k => m.last.contains k) (by rw [h]; simp; omega)
      rw [this]
      simp only [List.length_cons]
      rw [show i + 1 + xs.length + 1 = i + (xs.length + 1) + 1 by omega]
/-- What Next tells of a place. -/
def nameOf (m : Pl) (k : Nat) : ByteArray := if m.atoms.getD k ByteArray.empty = Dl then ByteArray.empty else m.atoms.getD k ByteArray.empty
theorem hit_iff (m : Pl) (may : List Nat) (x : ByteArray) : (m.hit may x).isEmpty = false ↔ ∃ k ∈ may, fits (m.atoms.getD k ByteArray.empty) x = true := by
  rw [List.isEmpty_eq_false_iff]
  unfold Pl.hit
  constructor
  · intro h
    obtain ⟨k, hk⟩ := List.exists_mem_of_ne_nil _ h
    exact ⟨k, List.mem_filter.1 hk⟩
  · rintro ⟨k, h1, h2⟩ e
    have : k ∈ may.filter fun k => fits (m.atoms.getD k ByteArray.empty) x := List.mem_filter.2 ⟨h1, h2⟩
    rw [e] at this; cases this
theorem dt_dl : Dt ≠ Dl := by decide
theorem dt_e : Dt ≠ ByteArray.empty := by decide
theorem fits_name (a x : ByteArray) : fits a x = true ↔ (if a = Dl then ByteArray.empty else a) = Dt ∨ ((if a = Dl then ByteArray.empty else a) = x ∧ x ≠ Dt) := by
  unfold fits
  by_cases h1 : a = Dl
  · subst h1
    simp only [if_true, Bool.or_eq_true, Bool.and_eq_true, decide_eq_true_eq, Bool.not_eq_true', decide_eq_false_iff_not]
    constructor
    · rintro ((h | h) | h)
      · exact absurd h.symm dt_dl
      · right; exact ⟨h.2.symm, by rw [h.2]; exact dt_e.symm⟩
      · exact absurd trivial h.2
    · rintro (h | h)
      · exact absurd h.symm dt_e
      · left; right; exact ⟨trivial, h.1.symm⟩
  · simp only [h1, if_false, Bool.or_eq_true, Bool.and_eq_true, decide_eq_true_eq, Bool.not_eq_true', decide_eq_false_iff_not]
    constructor
    · rintro ((h | h) | h)
      · exact .inl h
      · exact h.1.elim
      · by_cases hd : a = Dt
        · exact .inl hd
        · exact .inr ⟨h.1, by rw [← h.1]; exact hd⟩
    · rintro (h | h)
      · exact .inl (.inl h)
      · exact .inr ⟨h.1, fun h => h⟩
/-- One more name is read iff it is told, or any may come. -/
theorem more_iff (m : Pl) (may : List Nat) (x : ByteArray) : (m.hit may x).isEmpty = false ↔ Dt ∈ may.map (nameOf m) ∨ (x ∈ may.map (nameOf m) ∧ x ≠ Dt) := by
  rw [hit_iff]
  simp only [fits_name, List.mem_map]
  constructor
  · rintro ⟨k, h, h1 | h1⟩
    · exact .inl ⟨k, h, h1⟩
    · exact .inr ⟨⟨k, h, h1.1⟩, h1.2⟩
  · rintro (⟨k, h, h1⟩ | ⟨⟨k, h, h1⟩, h2⟩)
    · exact ⟨k, h, .inl h1⟩
    · exact ⟨k, h, .inr ⟨h1, h2⟩⟩
end Go.Mdl
