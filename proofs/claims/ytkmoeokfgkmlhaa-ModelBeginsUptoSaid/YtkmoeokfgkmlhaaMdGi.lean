/- Models in plain: the lists of places are short: each place once. -/
import Derived.Test.YtkmoeokfgkmlhaaMdPure
namespace Go.Mdl
set_option linter.unusedVariables false
set_option linter.unusedSimpArgs false
/-- Each once, all below n. -/
def Few (n : Nat) (l : List Nat) : Prop := l.Nodup ∧ ∀ x ∈ l, x < n
theorem Few.nil (n : Nat) : Few n [] := ⟨by simp, by simp⟩
theorem Few.mono {n m : Nat} {l : List Nat} (h : Few n l) (hm : n ≤ m) : Few m l := ⟨h.1, fun x hx => Nat.lt_of_lt_of_le (h.2 x hx) hm⟩
theorem Few.len : ∀ {n : Nat} {l : List Nat}, Few n l → l.length ≤ n
  | 0, l, h => by
    cases l with
    | nil => simp
    | cons x l => have := h.2 x (by simp); omega
  | n + 1, l, h => by
    have h1 : Few n (l.erase n) := by
      refine ⟨h.1.erase n, fun x hx => ?_⟩
      have h2 := (h.1.mem_erase_iff).1 hx
      have := h.2 x h2.2
      have := h2.1
      omega
    have := h1.len
    by_cases hm : n ∈ l
    · rw [List.length_erase_of_mem hm] at this; omega
    · rw [List.erase_of_not_mem hm] at this; omega
theorem Few.join1 {n x : Nat} {l : List Nat} (h : Few n l) (hx : x < n) : Few n (join1 l x) := by
  unfold Mdl.join1
  split
  · exact h
  · rename_i hc
    have hc : x ∉ l := fun hm => hc (List.contains_iff_mem.2 hm)
    refine ⟨?_, fun y hy => ?_⟩
    · rw [List.nodup_append]
      refine ⟨h.1, by simp, ?_⟩
      intro a ha b hb e
      simp at hb
      subst hb e
      exact hc ha
    · rcases List.mem_append.1 hy with hy | hy
      · exact h.2 y hy
      · simp at hy; omega
theorem Few.joined {n : Nat} : ∀ {b a : List Nat}, Few n a → (∀ x ∈ b, x < n) → Few n (joined a b)
  | [], a, h, _ => h
  | x :: b, a, h, hb => by
    have : Mdl.joined a (x :: b) = Mdl.joined (Mdl.join1 a x) b := rfl
    rw [this]
    exact Few.joined (h.join1 (hb x (by simp))) fun y hy => hb y (by simp [hy])
def GI (g : GS) : Prop := g.1.length = g.2.length ∧ ∀ l ∈ g.2, Few g.1.length l
theorem GI.get {g : GS} (h : GI g) (i : Nat) : Few g.1.length (g.2.getD i []) := by
  rw [List.getD_eq_getElem?_getD]
  cases hi : g.2[i]? with
  | none => exact Few.nil _
  | some l => exact h.2 l (List.mem_of_getElem? hi)
theorem GI.behind1 {g : GS} (h : GI g) {first : List Nat} (hf : ∀ x ∈ first, x < g.1.length) (i : Nat) : GI (g.1, behind1 first g.2 i) := by
  refine ⟨by simp [Mdl.behind1, h.1], fun l hl => ?_⟩
  unfold Mdl.behind1 at hl
  rcases List.mem_or_eq_of_mem_set hl with hl | rfl
  · exact h.2 l hl
  · exact (h.get i).joined hf
theorem GI.behind {first : List Nat} : ∀ {last : List Nat} {g : GS}, GI g → (∀ x ∈ first, x < g.1.length) → GI (g.1, behind g.2 last first)
  | [], g, h, _ => h
  | i :: last, g, h, hf => by
    have := GI.behind (first := first) (last := last) (h.behind1 hf i) hf
    exact this
theorem behind_take (f : List (List Nat)) (first last : List Nat) (k : Nat) (hk : k < last.length) : behind f (last.take (k + 1)) first = behind1 first (behind f (last.take k) first) last[k] := by
  unfold behind
  rw [List.take_add_one, List.getElem?_eq_getElem hk, Option.toList_some, List.foldl_append]; rfl
theorem behind1_at (first : List Nat) (f : List (List Nat)) (i : Nat) (hi : i < f.length) : behind1 first f i = f.set i (joined f[i] first) := by
  unfold behind1
  rw [List.getD_eq_getElem?_getD, List.getElem?_eq_getElem hi]; rfl
def PI (n : Nat) (p : Pc) : Prop := Few n p.first ∧ Few n p.last
theorem PI.mono {n m : Nat} {p : Pc} (h : PI n p) (hm : n ≤ m) : PI m p := ⟨h.1.mono hm, h.2.mono hm⟩
/-- A state that goes on: no shorter, at most c atoms more. -/
def GE (g g' : GS) (c : Nat) : Prop := GI g' ∧ g.1.length ≤ g'.1.length ∧ g'.1.length ≤ g.1.length + c
theorem cP_pos : ∀ p : Part, 0 < cP p
  | .mk a rows s => by simp only [cP]; omega
def sR : List Part → Nat
  | [] => 0
  | p :: ps => cP p + sR ps
def sC : List (List Part) → Nat
  | [] => 0
  | r :: rs => sR r + sC rs
theorem sR_t : ∀ l : List Part, sR l ≤ cRt l
  | [] => by simp [sR]
  | p :: ps => by have := sR_t ps; simp only [sR, cRt]; omega
theorem sR_le : ∀ l : List Part, sR l ≤ cR l
  | [] => by simp [sR]
  | p :: ps => by have := sR_t ps; simp only [sR, cR]; omega
theorem sC_t : ∀ l : List (List Part), sC l ≤ cCt l
  | [] => by simp [sC]
  | p :: ps => by have := sC_t ps; have := sR_le p; simp only [sC, cCt]; omega
theorem sC_le : ∀ l : List (List Part), sC l ≤ cC l
  | [] => by simp [sC]
  | p :: ps => by have := sC_t ps; have := sR_le p; simp only [sC, cC]; omega
theorem mem_sR {p : Part} : ∀ {l : List Part}, p ∈ l → cP p ≤ sR l
  | q :: l, h => by
    simp only [sR]
    rcases List.mem_cons.1 h with rfl | h
    · omega
    · have := mem_sR h; omega
theorem mem_sC {r : List Part} : ∀ {l : List (List Part)}, r ∈ l → sR r ≤ sC l
  | q :: l, h => by
    simp only [sC]
    rcases List.mem_cons.1 h with rfl | h
    · omega
    · have := mem_sC h; omega
mutual
theorem gi_P : ∀ (p : Part) (g : GS), GI g → GE g (uP p g).2 (cP p) ∧ PI (uP p g).2.1.length (uP p g).1
  | .mk a rows s, g, h => by
    have key : ∃ r : Pc × GS, r = (if a = Br then uC rows g ⟨[], [], false⟩ else if a = Mi then (⟨[], [], true⟩, g) else (⟨[g.1.length], [g.1.length], false⟩, (g.1 ++ [a], g.2 ++ [[]]))) ∧
        GE g r.2 (1 + if a = Br then cC rows else 0) ∧ PI r.2.1.length r.1 := by
      refine ⟨_, rfl, ?_⟩
      by_cases h1 : a = Br
      · rw [if_pos h1, if_pos h1]
        have := gi_C rows g ⟨[], [], false⟩ h ⟨Few.nil _, Few.nil _⟩
        exact ⟨⟨this.1.1, this.1.2.1, by have := this.1.2.2; have := sC_le rows; omega⟩, this.2⟩
      · rw [if_neg h1, if_neg h1]
        by_cases h2 : a = Mi
        · rw [if_pos h2]
          exact ⟨⟨h, by simp, by simp⟩, Few.nil _, Few.nil _⟩
        · rw [if_neg h2]
          refine ⟨⟨⟨by simp [h.1], fun l hl => ?_⟩, by simp, by simp⟩, ⟨by simp, by simp⟩, ⟨by simp, by simp⟩⟩
          rcases List.mem_append.1 hl with hl | hl
          · exact (h.2 l hl).mono (by simp)
          · simp at hl; subst hl; exact Few.nil _
    obtain ⟨r, hr, ⟨k1, k2, k3⟩, k4⟩ := key
    simp only [uP, cP]
    rw [← hr]
    clear hr
    have hb := GI.behind (first := r.1.first) (last := r.1.last) k1 k4.1.2
    by_cases hs : s = 42 ∨ s = 43
    · rw [if_pos hs]
      exact ⟨⟨hb, k2, by dsimp only; omega⟩, k4⟩
    · rw [if_neg hs]
      exact ⟨⟨k1, k2, by dsimp only; omega⟩, k4⟩
theorem gi_R : ∀ (xs : List Part) (g : GS) (all : Pc), GI g → PI g.1.length all → GE g (uR xs g all).2 (sR xs) ∧ PI (uR xs g all).2.1.length (uR xs g all).1
  | [], g, all, h, ha => by simp only [uR, sR]; exact ⟨⟨h, by omega, by omega⟩, ha⟩
  | x :: xs, g, all, h, ha => by
    simp only [uR, sR]
    obtain ⟨⟨k1, k2, k3⟩, k4⟩ := gi_P x g h
    generalize uP x g = r at k1 k2 k3 k4 ⊢
    have ha' := ha.mono k2
    have hb := GI.behind (first := r.1.first) (last := all.last) k1 k4.1.2
    have := gi_R xs (r.2.1, behind r.2.2 all.last r.1.first)
      ⟨if all.empty then joined all.first r.1.first else all.first, if r.1.empty then joined all.last r.1.last else r.1.last, all.empty && r.1.empty⟩ hb (by
        refine ⟨?_, ?_⟩
        · dsimp only
          split
          · exact ha'.1.joined k4.1.2
          · exact ha'.1
        · dsimp only
          split
          · exact ha'.2.joined k4.2.2
          · exact k4.2)
    exact ⟨⟨this.1.1, Nat.le_trans k2 this.1.2.1, by have := this.1.2.2; dsimp only at this; omega⟩, this.2⟩
theorem gi_C : ∀ (xs : List (List Part)) (g : GS) (all : Pc), GI g → PI g.1.length all → GE g (uC xs g all).2 (sC xs) ∧ PI (uC xs g all).2.1.length (uC xs g all).1
  | [], g, all, h, ha => by simp only [uC, sC]; exact ⟨⟨h, by omega, by omega⟩, ha⟩
  | x :: xs, g, all, h, ha => by
    simp only [uC, sC]
    obtain ⟨⟨k1, k2, k3⟩, k4⟩ := gi_R x g ⟨[], [], true⟩ h ⟨Few.nil _, Few.nil _⟩
    generalize uR x g ⟨[], [], true⟩ = r at k1 k2 k3 k4 ⊢
    have ha' := ha.mono k2
    have := gi_C xs r.2 ⟨joined all.first r.1.first, joined all.last r.1.last, all.empty || r.1.empty⟩ k1 ⟨ha'.1.joined k4.1.2, ha'.2.joined k4.2.2⟩
    exact ⟨⟨this.1.1, Nat.le_trans k2 this.1.2.1, by have := this.1.2.2; omega⟩, this.2⟩
end
/-- An atom's step. -/
def uA (a : ByteArray) (rows : List (List Part)) (g : GS) : Pc × GS :=
  if a = Br then uC rows g ⟨[], [], false⟩ else if a = Mi then (⟨[], [], true⟩, g) else (⟨[g.1.length], [g.1.length], false⟩, (g.1 ++ [a], g.2 ++ [[]]))
theorem uP_eq (a : ByteArray) (rows : List (List Part)) (s : Nat) (g : GS) : uP (.mk a rows s) g =
    (⟨(uA a rows g).1.first, (uA a rows g).1.last, (uA a rows g).1.empty || (s == 42 || s == 63)⟩, ((uA a rows g).2.1, if s = 42 ∨ s = 43 then behind (uA a rows g).2.2 (uA a rows g).1.last (uA a rows g).1.first else (uA a rows g).2.2)) := by
  rw [uP]; rfl
theorem gi_A (a : ByteArray) (rows : List (List Part)) (s : Nat) (g : GS) (h : GI g) : GE g (uA a rows g).2 (cP (.mk a rows s)) ∧ PI (uA a rows g).2.1.length (uA a rows g).1 := by
  unfold uA
  simp only [cP]
  by_cases h1 : a = Br
  · rw [if_pos h1, if_pos h1]
    have := gi_C rows g ⟨[], [], false⟩ h ⟨Few.nil _, Few.nil _⟩
    exact ⟨⟨this.1.1, this.1.2.1, by have := this.1.2.2; have := sC_le rows; omega⟩, this.2⟩
  · rw [if_neg h1, if_neg h1]
    by_cases h2 : a = Mi
    · rw [if_pos h2]
      exact ⟨⟨h, by simp, by simp⟩, Few.nil _, Few.nil _⟩
    · rw [if_neg h2]
      refine ⟨⟨⟨by simp [h.1], fun l hl => ?_⟩, by simp, by simp⟩, ⟨by simp, by simp⟩, ⟨by simp, by simp⟩⟩
      rcases List.mem_append.1 hl with hl | hl
      · exact (h.2 l hl).mono (by simp)
      · simp at hl; subst hl; exact Few.nil _
end Go.Mdl
