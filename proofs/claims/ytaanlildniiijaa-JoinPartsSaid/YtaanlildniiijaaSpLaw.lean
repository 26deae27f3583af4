/- Joins: lists that fit don't cross. -/
import Derived.Test.YtaanlildniiijaaSpFits
namespace Go.Proofs.Ytaanlildniiijaa
open Go.RowKit Go.Vc
/-- Two spans that don't cross, the first one's begin before. -/
def NoX (p s : Sp) : Prop := p = s ∨ p.e < s.b ∨ ancB p s = true
theorem ancB_iff {a b : Sp} : ancB a b = true ↔ a.b < b.b ∧ b.e < a.e := by simp [ancB]
theorem crossF_law : ∀ (r st : List Sp), st.Pairwise (fun t u => ancB u t = true) → r.Pairwise (fun s t => s.b ≤ t.b) → crossF st r = false → (∀ p ∈ st, ∀ s ∈ r, NoX p s) ∧ r.Pairwise NoX
  | [], st, _, _, _ => ⟨fun _ _ _ h => by simp at h, .nil⟩
  | s :: r, st, hst, hs, hc => by
    rw [crossF] at hc
    have hs2 := List.pairwise_cons.1 hs
    have hpop : ∀ p ∈ st, p ∉ st.dropWhile (fun t => decide (t.e < s.b)) → p.e < s.b := by
      intro p hp hn
      rw [← List.takeWhile_append_dropWhile (p := fun t => decide (t.e < s.b)) (l := st), List.mem_append] at hp
      rcases hp with hp | hp
      · have h2 := List.all_takeWhile (p := fun t : Sp => decide (t.e < s.b)) (l := st)
        rw [List.all_eq_true] at h2
        simpa using h2 p hp
      · exact absurd hp hn
    have hd : (st.dropWhile (fun t => decide (t.e < s.b))).Pairwise (fun t u => ancB u t = true) := hst.sublist (List.dropWhile_sublist _)
    have far : ∀ p ∈ st, p ∉ st.dropWhile (fun t => decide (t.e < s.b)) → ∀ q ∈ s :: r, NoX p q := by
      intro p hp hn q hq
      have h1 := hpop p hp hn
      rcases List.mem_cons.1 hq with rfl | hq
      · exact .inr (.inl h1)
      · have := hs2.1 q hq
        exact .inr (.inl (by omega))
    generalize st.dropWhile (fun t => decide (t.e < s.b)) = st1 at *
    have fin : ∀ st2 : List Sp, st2.Pairwise (fun t u => ancB u t = true) → crossF st2 r = false → s ∈ st2 → (∀ p ∈ st1, p ∈ st2 ∧ NoX p s) → (∀ p ∈ st, ∀ q ∈ s :: r, NoX p q) ∧ (s :: r).Pairwise NoX := by
      intro st2 h1 h2 h3 h4
      obtain ⟨i1, i2⟩ := crossF_law r st2 h1 hs2.2 h2
      refine ⟨fun p hp q hq => ?_, List.pairwise_cons.2 ⟨i1 s h3, i2⟩⟩
      by_cases hn : p ∈ st1
      · rcases List.mem_cons.1 hq with rfl | hq
        · exact (h4 p hn).2
        · exact i1 p (h4 p hn).1 q hq
      · exact far p hp hn q hq
    cases st1 with
    | nil => exact fin [s] (List.pairwise_singleton _ _) hc (by simp) (by simp)
    | cons t u =>
      have hu := List.pairwise_cons.1 hd
      simp only at hc
      by_cases he : t = s
      · rw [if_pos he] at hc
        subst he
        refine fin (t :: u) hd hc (by simp) fun p hp => ⟨hp, ?_⟩
        rcases List.mem_cons.1 hp with rfl | hp
        · exact .inl rfl
        · exact .inr (.inr (hu.1 p hp))
      · rw [if_neg he] at hc
        by_cases ha : ancB t s = true
        · rw [if_pos ha] at hc
          have an : ∀ p ∈ t :: u, ancB p s = true := by
            intro p hp
            rcases List.mem_cons.1 hp with rfl | hp
            · exact ha
            · have h1 := ancB_iff.1 (hu.1 p hp)
              have h2 := ancB_iff.1 ha
              exact ancB_iff.2 ⟨by omega, by omega⟩
          exact fin (s :: t :: u) (List.pairwise_cons.2 ⟨an, hd⟩) hc (by simp) fun p hp => ⟨List.mem_cons_of_mem _ hp, .inr (.inr (an p hp))⟩
        · rw [if_neg ha] at hc
          cases hc
theorem oneF_law : ∀ (l : List Pl) (q : Option Int), oneF q l = 0 → (∀ p ∈ l, canB p.s = true ∧ ∀ b, q = some b → b < p.s.b) ∧ l.Pairwise (fun x y => x.s.b < y.s.b)
  | [], _, _ => ⟨by simp, .nil⟩
  | p :: r, q, h => by
    rw [oneF] at h
    by_cases hc : canB p.s = false
    · rw [if_pos hc] at h; cases h
    rw [if_neg hc] at h
    by_cases hq : leO q p.s.b = true
    · rw [if_pos hq] at h; cases h
    rw [if_neg hq] at h
    obtain ⟨h1, h2⟩ := oneF_law r _ h
    have hq2 : ∀ b, q = some b → b < p.s.b := by rintro b rfl; simpa [leO] using hq
    refine ⟨fun x hx => ?_, List.pairwise_cons.2 ⟨fun y hy => (h1 y hy).2 _ rfl, h2⟩⟩
    rcases List.mem_cons.1 hx with rfl | hx
    · exact ⟨by simpa using hc, hq2⟩
    · refine ⟨(h1 x hx).1, fun b hb => ?_⟩
      have := hq2 b hb
      have := (h1 x hx).2 _ rfl
      omega
theorem ex_cons {s : Sp} {a : Pl} {p : List Pl} : (∃ x ∈ a :: p, x.s = s) ↔ s = a.s ∨ ∃ x ∈ p, x.s = s := by
  constructor
  · rintro ⟨x, hx, rfl⟩
    rcases List.mem_cons.1 hx with rfl | hx
    · exact .inl rfl
    · exact .inr ⟨x, hx, rfl⟩
  · rintro (rfl | ⟨x, hx, rfl⟩)
    · exact ⟨a, by simp, rfl⟩
    · exact ⟨x, by simp [hx], rfl⟩
theorem mergeF_mem {s : Sp} : ∀ (p q : List Pl), s ∈ mergeF p q ↔ (∃ x ∈ p, x.s = s) ∨ ∃ y ∈ q, y.s = s
  | [], q => by rw [mergeF]; simp
  | a :: p, [] => by rw [mergeF, List.mem_map]; simp
  | a :: p, d :: q => by
    rw [mergeF]
    split
    · rw [List.mem_cons, mergeF_mem p (d :: q), ex_cons (a := a)]; exact or_assoc.symm
    · rw [List.mem_cons, mergeF_mem (a :: p) q, ex_cons (a := d)]; exact or_left_comm
termination_by p q => p.length + q.length
theorem pw_all {α : Type} {S : α → α → Prop} (hr : ∀ x, S x x) (hs : ∀ x y, S x y → S y x) : ∀ {l : List α}, l.Pairwise S → ∀ x ∈ l, ∀ y ∈ l, S x y
  | [], _, x, hx, _, _ => by simp at hx
  | a :: l, h, x, hx, y, hy => by
    have h2 := List.pairwise_cons.1 h
    rcases List.mem_cons.1 hx with hx1 | hx1 <;> rcases List.mem_cons.1 hy with hy1 | hy1
    · subst hx1 hy1; exact hr _
    · subst hx1; exact h2.1 y hy1
    · subst hy1; exact hs _ _ (h2.1 x hx1)
    · exact pw_all hr hs h2.2 x hx1 y hy1
theorem mergeF_sorted : ∀ (p q : List Pl), p.Pairwise (fun x y => x.s.b < y.s.b) → q.Pairwise (fun x y => x.s.b < y.s.b) → (mergeF p q).Pairwise (fun s t => s.b ≤ t.b)
  | [], q, _, hq => by rw [mergeF, List.pairwise_map]; exact hq.imp fun h => by omega
  | a :: p, [], hp, _ => by rw [mergeF, List.pairwise_map]; exact hp.imp fun h => by omega
  | a :: p, d :: q, hp, hq => by
    rw [mergeF]
    have hp2 := List.pairwise_cons.1 hp
    have hq2 := List.pairwise_cons.1 hq
    split
    · rename_i hle
      refine List.pairwise_cons.2 ⟨fun s hs => ?_, mergeF_sorted p (d :: q) hp2.2 hq⟩
      rcases (mergeF_mem _ _).1 hs with ⟨x, hx, rfl⟩ | ⟨x, hx, rfl⟩
      · have := hp2.1 x hx; omega
      · rcases List.mem_cons.1 hx with rfl | hx
        · exact hle
        · have := hq2.1 x hx; omega
    · rename_i hle
      refine List.pairwise_cons.2 ⟨fun s hs => ?_, mergeF_sorted (a :: p) q hp hq2.2⟩
      rcases (mergeF_mem _ _).1 hs with ⟨x, hx, rfl⟩ | ⟨x, hx, rfl⟩
      · rcases List.mem_cons.1 hx with rfl | hx
        · omega
        · have := hp2.1 x hx; omega
      · have := hq2.1 x hx; omega
termination_by p q => p.length + q.length
/-- Two lists that fit. -/
structure Lam (a d : List Pl) : Prop where
  la : a.length ≤ 8192
  ld : d.length ≤ 8192
  ca : ∀ x ∈ a, canB x.s = true
  cd : ∀ x ∈ d, canB x.s = true
  sa : a.Pairwise (fun x y => x.s.b < y.s.b)
  sd : d.Pairwise (fun x y => x.s.b < y.s.b)
  aa : ∀ x ∈ a, ∀ y ∈ a, x.s.b < y.s.b → x.s.e < y.s.b ∨ ancB x.s y.s = true
  ad : ∀ x ∈ a, ∀ y ∈ d, x.s.b < y.s.b → x.s.e < y.s.b ∨ ancB x.s y.s = true
theorem canB_be {s : Sp} (h : canB s = true) : 1 ≤ s.b ∧ s.b < s.e ∧ s.e < 4611686018427387904 ∧ 0 ≤ s.l ∧ s.l < 64 := by
  simp [canB] at h; omega
theorem fitsF_lam {a d : List Pl} (h : fitsF a d = 0) : Lam a d := by
  unfold fitsF at h
  by_cases h1 : 8192 < a.length
  · rw [if_pos h1] at h; cases h
  rw [if_neg h1] at h
  by_cases h2 : 8192 < d.length
  · rw [if_pos h2] at h; cases h
  rw [if_neg h2] at h
  by_cases h3 : oneF none a ≠ 0
  · rw [if_pos h3] at h; exact absurd h h3
  rw [if_neg h3] at h
  by_cases h4 : oneF none d ≠ 0
  · rw [if_pos h4] at h; exact absurd h h4
  rw [if_neg h4] at h
  by_cases h5 : crossF [] (mergeF a d) = true
  · rw [if_pos h5] at h; cases h
  obtain ⟨a1, a2⟩ := oneF_law a _ (Decidable.not_not.1 h3)
  obtain ⟨d1, d2⟩ := oneF_law d _ (Decidable.not_not.1 h4)
  obtain ⟨_, px⟩ := crossF_law _ [] .nil (mergeF_sorted a d a2 d2) (by simpa using h5)
  have key : ∀ s ∈ mergeF a d, ∀ t ∈ mergeF a d, s.b < s.e → t.b < t.e → s.b < t.b → s.e < t.b ∨ ancB s t = true := by
    have hsym : ∀ s ∈ mergeF a d, ∀ t ∈ mergeF a d, s = t ∨ NoX s t ∨ NoX t s := by
      have := px.imp (S := fun s t => s = t ∨ NoX s t ∨ NoX t s) (fun h => .inr (.inl h))
      exact pw_all (fun _ => .inl rfl) (fun x y h => by rcases h with h | h | h; exact .inl h.symm; exact .inr (.inr h); exact .inr (.inl h)) this
    intro s hs t ht h1 h2 h3
    rcases hsym s hs t ht with rfl | (rfl | h | h) | (rfl | h | h)
    · omega
    · omega
    · exact .inl h
    · exact .inr h
    · omega
    · omega
    · have := ancB_iff.1 h; omega
  refine ⟨by omega, by omega, fun x hx => (a1 x hx).1, fun x hx => (d1 x hx).1, a2, d2, fun x hx y hy hb => ?_, fun x hx y hy hb => ?_⟩
  · exact key _ ((mergeF_mem a d).2 (.inl ⟨x, hx, rfl⟩)) _ ((mergeF_mem a d).2 (.inl ⟨y, hy, rfl⟩)) (canB_be (a1 x hx).1).2.1 (canB_be (a1 y hy).1).2.1 hb
  · exact key _ ((mergeF_mem a d).2 (.inl ⟨x, hx, rfl⟩)) _ ((mergeF_mem a d).2 (.inr ⟨y, hy, rfl⟩)) (canB_be (a1 x hx).1).2.1 (canB_be (d1 y hy).1).2.1 hb
def el (a : List Pl) (j : Nat) : Pl := a[j]!
/-- Those of a list around a span, by their numbers. -/
def ancs (a : List Pl) (x : Sp) : List Nat := (List.range a.length).filter fun j => ancB (el a j).s x
/-- The stack of a walk: of the first k those that end from t on are on it. -/
structure NI (a : List Pl) (k : Nat) (st : List Nat) (t : Int) : Prop where
  all : ∀ t', t ≤ t' → st.filter (fun j => decide (t' ≤ (el a j).s.e)) = ((List.range k).filter (fun j => decide (t' ≤ (el a j).s.e))).reverse
  nest : st.Pairwise (fun i j => (el a i).s.e < (el a j).s.e)
  lt : ∀ j ∈ st, j < k
  len : st.length ≤ k
theorem NI.up {a : List Pl} {k : Nat} {st : List Nat} {t t' : Int} (h : NI a k st t) (ht : t ≤ t') : NI a k st t' := ⟨fun u hu => h.all u (by omega), h.nest, h.lt, h.len⟩
theorem NI.nil (a : List Pl) (t : Int) : NI a 0 [] t := ⟨fun _ _ => by simp, .nil, by simp, by simp⟩
theorem NI.pop {a : List Pl} {k j : Nat} {st : List Nat} {t : Int} (h : NI a k (j :: st) t) (hj : (el a j).s.e < t) : NI a k st t := by
  refine ⟨fun u hu => ?_, (List.pairwise_cons.1 h.nest).2, fun x hx => h.lt x (List.mem_cons_of_mem _ hx), by have := h.len; simp at this; omega⟩
  rw [← h.all u hu, List.filter_cons_of_neg (by simp; omega)]
theorem NI.from_top {a : List Pl} {k : Nat} {st : List Nat} {t : Int} (h : NI a k st t) (htop : ∀ j u, st = j :: u → ¬ (el a j).s.e < t) : ∀ j ∈ st, t ≤ (el a j).s.e := by
  intro j hj
  cases st with
  | nil => simp at hj
  | cons i u =>
    have h1 := htop i u rfl
    rcases List.mem_cons.1 hj with rfl | hj
    · omega
    · have := (List.pairwise_cons.1 h.nest).1 j hj; omega
theorem at_mem {a : List Pl} {j : Nat} (h : j < a.length) : (el a j) ∈ a ∧ (el a j) = a[j] := by
  have : (el a j) = a[j] := by simp [el, h]
  exact ⟨this ▸ List.getElem_mem h, this⟩
theorem Lam.lt {a d : List Pl} (h : Lam a d) {i j : Nat} (hij : i < j) (hj : j < a.length) : (el a i).s.b < (el a j).s.b := by
  rw [(at_mem (by omega : i < a.length)).2, (at_mem hj).2]
  exact (List.pairwise_iff_getElem.1 h.sa) i j (by omega) hj hij
theorem NI.push {a d : List Pl} (L : Lam a d) {k : Nat} {st : List Nat} {t : Int} (h : NI a k st t) (hk : k < a.length) (ht : t = (el a k).s.b) (htop : ∀ j u, st = j :: u → ¬ (el a j).s.e < t) : NI a (k + 1) (k :: st) t := by
  have ge := h.from_top htop
  refine ⟨fun u hu => ?_, List.pairwise_cons.2 ⟨fun j hj => ?_, h.nest⟩, fun x hx => ?_, by simp; exact h.len⟩
  · rw [List.range_succ, List.filter_append, List.reverse_append, ← h.all u hu, List.filter_cons]
    by_cases hp : u ≤ (el a k).s.e <;> simp [hp]
  · have hlt := h.lt j hj
    have hb := L.lt hlt hk
    have hg := ge j hj
    rcases L.aa _ (at_mem (by omega : j < a.length)).1 _ (at_mem hk).1 hb with h1 | h1
    · omega
    · exact (ancB_iff.1 h1).2
  · rcases List.mem_cons.1 hx with rfl | hx
    · omega
    · have := h.lt x hx; omega
theorem range_filter_le {n k : Nat} (p : Nat → Bool) (hk : k ≤ n) (hp : ∀ j, k ≤ j → j < n → p j = false) : (List.range n).filter p = (List.range k).filter p := by
  obtain ⟨m, rfl⟩ := Nat.exists_eq_add_of_le hk
  rw [List.range_add, List.filter_append]
  have : ((List.range m).map (k + ·)).filter p = [] := by
    rw [List.filter_eq_nil_iff]
    intro j hj
    obtain ⟨i, hi, rfl⟩ := List.mem_map.1 hj
    have hi2 := List.mem_range.1 hi
    rw [hp (k + i) (by omega) (by omega)]; decide
  rw [this, List.append_nil]
theorem NI.ancs {a d : List Pl} (L : Lam a d) {k : Nat} {st : List Nat} {x : Pl} (hx : x ∈ d) (h : NI a k st x.s.b) (hk : k ≤ a.length) (hb : ∀ j, j < k → (el a j).s.b < x.s.b) (hk2 : k < a.length → ¬ (el a k).s.b < x.s.b) (htop : ∀ j u, st = j :: u → ¬ (el a j).s.e < x.s.b) : st.reverse = ancs a x.s := by
  have ge := h.from_top htop
  have h1 := h.all x.s.b (by omega)
  rw [List.filter_eq_self.2 (by simpa using ge)] at h1
  rw [h1, List.reverse_reverse]
  unfold Go.Proofs.Ytaanlildniiijaa.ancs
  rw [range_filter_le (n := a.length) (k := k) _ hk]
  · apply List.filter_congr
    intro j hj
    have hj2 := List.mem_range.1 hj
    have hjb := hb j hj2
    have hjm := (at_mem (by omega : j < a.length)).1
    rw [Bool.eq_iff_iff, decide_eq_true_eq]
    constructor
    · intro hle
      rcases L.ad _ hjm _ hx hjb with h3 | h3
      · omega
      · exact h3
    · intro ha
      have := ancB_iff.1 ha
      have := canB_be (L.cd x hx)
      omega
  · intro j hj hj2
    have : ¬ (el a j).s.b < x.s.b := by
      rcases Nat.eq_or_lt_of_le hj with rfl | hlt
      · exact hk2 hj2
      · have := L.lt hlt hj2
        have := hk2 (by omega)
        omega
    simp [ancB]; omega
end Go.Proofs.Ytaanlildniiijaa
