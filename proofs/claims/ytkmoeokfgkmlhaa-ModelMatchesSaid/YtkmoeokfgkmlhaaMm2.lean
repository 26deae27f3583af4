import Derived.Test.YtkmoeokfgkmlhaaProg
import Derived.Laws.Closers25b
import Derived.Test.YtkmoeokfgkmlhaaMm1
/- Models (layer 23) in plain: parts, their text, how they are read. -/
namespace Go.Mdl
set_option linter.unusedVariables false
set_option linter.unusedSimpArgs false
inductive Part where
  | mk (atom : ByteArray) (rows : List (List Part)) (sign : Nat)
def Br : ByteArray := ⟨#[40]⟩
def Mi : ByteArray := ⟨#[45]⟩
def Dt : ByteArray := ⟨#[46]⟩
def Dl : ByteArray := ⟨#[36]⟩
mutual
def tP : Part → List UInt8
  | .mk a rows s => (if a = Br then 40 :: (tC rows ++ [41]) else a.data.toList) ++ (if s = 0 then [] else [UInt8.ofNat s])
def tR : List Part → List UInt8
  | [] => []
  | p :: ps => tP p ++ tRt ps
def tRt : List Part → List UInt8
  | [] => []
  | p :: ps => 44 :: (tP p ++ tRt ps)
def tC : List (List Part) → List UInt8
  | [] => []
  | r :: rs => tR r ++ tCt rs
def tCt : List (List Part) → List UInt8
  | [] => []
  | r :: rs => 124 :: (tR r ++ tCt rs)
end
/- What is begun. -/
mutual
def cP : Part → Nat
  | .mk a rows s => 1 + (if a = Br then cC rows else 0) + (if s = 0 then 0 else 1)
def cR : List Part → Nat
  | [] => 0
  | p :: ps => cP p + cRt ps
def cRt : List Part → Nat
  | [] => 0
  | p :: ps => 1 + cP p + cRt ps
def cC : List (List Part) → Nat
  | [] => 0
  | r :: rs => cR r + cCt rs
def cCt : List (List Part) → Nat
  | [] => 0
  | r :: rs => 1 + cR r + cCt rs
end
/-- Without brackets that say nothing. -/
def plain : Part → Part
  | .mk a rows s => if a = Br then
      match rows with
      | [[.mk a' rows' s']] => if s = 0 then .mk a' rows' s' else if s' = 0 then .mk a' rows' s else .mk a rows s
      | _ => .mk a rows s
    else .mk a rows s
mutual
def nP : Part → Part
  | .mk a rows s => plain (.mk a (nC rows) s)
def nR : List Part → List Part
  | [] => []
  | p :: ps => nP p :: nR ps
def nC : List (List Part) → List (List Part)
  | [] => []
  | r :: rs => nR r :: nC rs
end
/-- No brackets that say nothing. -/
def noCol (rows : List (List Part)) (s : Nat) : Prop := ∀ a' r' s', rows = [[.mk a' r' s']] → s ≠ 0 ∧ s' ≠ 0
mutual
def gP : Part → Prop
  | .mk a rows s => (a = Br → noCol rows s) ∧ gC rows
def gR : List Part → Prop
  | [] => True
  | p :: ps => gP p ∧ gR ps
def gC : List (List Part) → Prop
  | [] => True
  | r :: rs => gR r ∧ gC rs
end
theorem plain_noCol {a : ByteArray} {rows : List (List Part)} {s : Nat} (h : a = Br → noCol rows s) : plain (.mk a rows s) = .mk a rows s := by
  simp only [plain]
  split
  · rename_i ha
    split
    · rename_i a' r' s'
      have := h ha a' r' s' rfl
      rw [if_neg this.1, if_neg this.2]
    · rfl
  · rfl
mutual
theorem nP_id : ∀ p, gP p → nP p = p
  | .mk a rows s, h => by
    simp only [gP] at h
    simp only [nP, nC_id rows h.2]
    exact plain_noCol h.1
theorem nR_id : ∀ r, gR r → nR r = r
  | [], _ => by simp only [nR]
  | p :: ps, h => by
    simp only [gR] at h
    simp only [nR, nP_id p h.1, nR_id ps h.2]
theorem nC_id : ∀ r, gC r → nC r = r
  | [], _ => by simp only [nC]
  | p :: ps, h => by
    simp only [gC] at h
    simp only [nC, nR_id p h.1, nC_id ps h.2]
end
def begins (c : UInt8) : Bool := (97 ≤ c && c ≤ 122) || (65 ≤ c && c ≤ 90) || c == 95
def inn (c : UInt8) : Bool := begins c || (48 ≤ c && c ≤ 57) || c == 45 || c == 46
def maxName : Nat := 32
def maxParts : Nat := 128
def nameOk (l : List UInt8) : Prop := ∃ c r, l = c :: r ∧ begins c = true ∧ (∀ x ∈ r, inn x = true) ∧ l.length ≤ maxName
def atomOk (a : ByteArray) : Prop := nameOk a.data.toList ∨ a = Dl ∨ a = Dt ∨ a = Mi
def signOk (s : Nat) : Prop := s = 0 ∨ s = 63 ∨ s = 42 ∨ s = 43
mutual
def vP : Part → Prop
  | .mk a rows s => signOk s ∧ ((a = Br ∧ rows ≠ [] ∧ vC rows) ∨ (atomOk a ∧ rows = []))
def vR : List Part → Prop
  | [] => True
  | p :: ps => vP p ∧ vR ps
def vC : List (List Part) → Prop
  | [] => True
  | r :: rs => r ≠ [] ∧ vR r ∧ vC rs
end
/-! ### Reading -/
abbrev Res (α : Type) := Except (Nat × Nat) (α × List UInt8 × Nat)
def skip (l : List UInt8) : List UInt8 := l.dropWhile (· == 32)
def eLong : Nat := 2
def eForm : Nat := 3
def eShort : Nat := 4
def eMore : Nat := 5
def eName : Nat := 6
def eOpen : Nat := 131
def atom (ch : List UInt8 → Nat → Res (List (List Part))) (l0 : List UInt8) (n : Nat) : Res Part :=
  match skip l0 with
  | [] => .error (0, eShort)
  | c :: r =>
    if begins c then
      if maxParts < n + 1 then .error ((c :: r).length, eLong)
      else if maxName < ((c :: r).takeWhile inn).length then .error ((c :: r).length, eName)
      else .ok (.mk ⟨((c :: r).takeWhile inn).toArray⟩ [] 0, (c :: r).dropWhile inn, n + 1)
    else if c = 36 ∨ c = 46 ∨ c = 45 then
      if maxParts < n + 1 then .error ((c :: r).length, eLong)
      else .ok (.mk ⟨#[c]⟩ [] 0, r, n + 1)
    else if c ≠ 40 then .error ((c :: r).length, eForm)
    else if maxParts < n + 1 then .error ((c :: r).length, eLong)
    else match ch r (n + 1) with
      | .error e => .error e
      | .ok (rows, l1, n1) =>
        match skip l1 with
        | [] => .error ((c :: r).length, eOpen)
        | d :: r1 => if d = 41 then .ok (.mk Br rows 0, r1, n1) else .error ((d :: r1).length, eForm)
def isSign (c : UInt8) : Bool := c == 63 || c == 42 || c == 43
def signed (s : Nat) : Part → Part
  | .mk a rows _ => .mk a rows s
def part (ch : List UInt8 → Nat → Res (List (List Part))) (l0 : List UInt8) (n : Nat) : Res Part :=
  match atom ch l0 n with
  | .error e => .error e
  | .ok (p, l1, n1) =>
    match skip l1 with
    | [] => .ok (plain p, [], n1)
    | c :: r =>
      if isSign c then
        if maxParts < n1 + 1 then .error ((c :: r).length, eLong)
        else .ok (plain (signed c.toNat p), r, n1 + 1)
      else .ok (plain p, c :: r, n1)
def row (ch : List UInt8 → Nat → Res (List (List Part))) : Nat → List UInt8 → Nat → Res (List Part)
  | 0, _, _ => .error (0, 0)
  | f + 1, l, n =>
    match part ch l n with
    | .error e => .error e
    | .ok (p, l1, n1) =>
      match skip l1 with
      | [] => .ok ([p], [], n1)
      | c :: r =>
        if c = 44 then
          if maxParts < n1 + 1 then .error ((c :: r).length, eLong)
          else match row ch f r (n1 + 1) with
            | .error e => .error e
            | .ok (ps, l2, n2) => .ok (p :: ps, l2, n2)
        else .ok ([p], c :: r, n1)
def rowsL (rw : List UInt8 → Nat → Res (List Part)) : Nat → List UInt8 → Nat → Res (List (List Part))
  | 0, _, _ => .error (0, 0)
  | f + 1, l, n =>
    match rw l n with
    | .error e => .error e
    | .ok (p, l1, n1) =>
      match skip l1 with
      | [] => .ok ([p], [], n1)
      | c :: r =>
        if c = 124 then
          if maxParts < n1 + 1 then .error ((c :: r).length, eLong)
          else match rowsL rw f r (n1 + 1) with
            | .error e => .error e
            | .ok (ps, l2, n2) => .ok (p :: ps, l2, n2)
        else .ok ([p], c :: r, n1)
def choices : Nat → List UInt8 → Nat → Res (List (List Part))
  | 0, _, _ => .error (0, 0)
  | f + 1, l, n => rowsL (row (choices f) (f + 1)) (f + 1) l n
/-- Parse: an error with how many bytes are left there. -/
def parse (s : List UInt8) : Except (Nat × Nat) (List (List Part)) :=
  if 1024 < s.length then .error (s.length, eLong)
  else match choices (s.length + 1) s 0 with
    | .error e => .error e
    | .ok (rows, l, _) => match skip l with
      | [] => .ok rows
      | c :: r => .error ((c :: r).length, eMore)
/-! ### What is read: sound -/
theorem skip_len (l : List UInt8) : (skip l).length ≤ l.length := by
  unfold skip
  exact (List.dropWhile_suffix _).length_le
theorem takeDrop_len (l : List UInt8) : (l.takeWhile inn).length + (l.dropWhile inn).length = l.length := by
  rw [← List.length_append, List.takeWhile_append_dropWhile]
/-- What is asked of what was read. -/
def Sd {α : Type} (len cost : α → Nat) (ok : α → Prop) (l : List UInt8) (n : Nat) (r : Res α) : Prop :=
  ∀ x l' n', r = .ok (x, l', n') → n ≤ maxParts → ok x ∧ len x + l'.length ≤ l.length ∧ n + cost x ≤ n' ∧ n' ≤ maxParts
def okC (r : List (List Part)) : Prop := r ≠ [] ∧ vC r ∧ gC r
def okR (r : List Part) : Prop := r ≠ [] ∧ vR r ∧ gR r
def okP (p : Part) : Prop := vP p ∧ gP p
/-- An atom: with brackets that may say nothing. -/
def okA (p : Part) : Prop := match p with | .mk a rows s => s = 0 ∧ ((a = Br ∧ okC rows) ∨ (atomOk a ∧ rows = []))
theorem br_ne {a : ByteArray} (h : atomOk a) : a ≠ Br := by
  rintro rfl
  rcases h with ⟨c, r, h1, h2, _⟩ | h | h | h
  · simp [Br] at h1
    rw [← h1.1] at h2
    revert h2; decide
  all_goals revert h; decide
theorem begins_inn {c : UInt8} (h : begins c = true) : inn c = true := by simp [inn, h]
theorem sound_atom {ch : List UInt8 → Nat → Res (List (List Part))} (hc : ∀ l n, Sd (fun r => (tC r).length) cC okC l n (ch l n)) (l : List UInt8) (n : Nat) :
    Sd (fun p => (tP p).length) cP okA l n (atom ch l n) := by
  intro x l' n' h hn
  have hs := skip_len l
  unfold atom at h
  split at h
  · cases h
  · rename_i c r hl
    rw [hl] at hs
    split at h
    · rename_i hb
      split at h
      · cases h
      split at h
      · cases h
      rename_i h1 h2
      cases h
      have hbi := begins_inn hb
      have hne : atomOk ⟨((c :: r).takeWhile inn).toArray⟩ := by
        refine .inl ⟨c, r.takeWhile inn, by simp [List.takeWhile_cons, hbi], hb, fun x hx => ?_, by simpa using h2⟩
        exact List.all_eq_true.1 (List.all_takeWhile) x hx
      refine ⟨⟨rfl, .inr ⟨hne, rfl⟩⟩, ?_, ?_, by omega⟩
      · have := takeDrop_len (c :: r)
        simp only [tP, if_neg (br_ne hne), if_true, List.append_nil]
        simp only [List.length_cons] at this hs ⊢
        omega
      · simp [cP, br_ne hne]
    split at h
    · rename_i hb
      split at h
      · cases h
      cases h
      have hne : atomOk ⟨#[c]⟩ := by
        rcases hb with rfl | rfl | rfl
        · exact .inr (.inl rfl)
        · exact .inr (.inr (.inl rfl))
        · exact .inr (.inr (.inr rfl))
      refine ⟨⟨rfl, .inr ⟨hne, rfl⟩⟩, ?_, ?_, by omega⟩
      · simp only [tP, if_neg (br_ne hne)]
        simp at hs ⊢; omega
      · simp [cP, br_ne hne]
    split at h
    · cases h
    split at h
    · cases h
    split at h
    · cases h
    rename_i rows l1 n1 hch
    have h1 := hc r (n + 1) _ _ _ hch (by omega)
    have hs1 := skip_len l1
    split at h
    · cases h
    rename_i d r1 hl1
    rw [hl1] at hs1
    split at h
    · cases h
      refine ⟨⟨rfl, .inl ⟨rfl, h1.1⟩⟩, ?_, ?_, h1.2.2.2⟩
      · simp only [tP, if_true, List.append_nil]
        have := h1.2.1
        simp at hs hs1 this ⊢; omega
      · simp [cP]; have := h1.2.2.1; omega
    · cases h
theorem plain_ok {a : ByteArray} {rows : List (List Part)} {s : Nat} (hs : signOk s) (h : (a = Br ∧ okC rows) ∨ (atomOk a ∧ rows = [])) :
    okP (plain (.mk a rows s)) ∧ (tP (plain (.mk a rows s))).length ≤ (tP (.mk a rows s)).length ∧ cP (plain (.mk a rows s)) ≤ cP (.mk a rows s) := by
  rcases h with ⟨rfl, h1, h2, h3⟩ | ⟨h, rfl⟩
  · by_cases hc : noCol rows s
    · rw [plain_noCol fun _ => hc]
      exact ⟨⟨by simp only [vP]; exact ⟨hs, .inl ⟨trivial, h1, h2⟩⟩, by simp only [gP]; exact ⟨fun _ => hc, h3⟩⟩, by omega, by omega⟩
    · have : ∃ a' r' s', rows = [[.mk a' r' s']] ∧ (s = 0 ∨ s' = 0) := by
        unfold noCol at hc
        simp only [Classical.not_forall] at hc
        obtain ⟨a', r', s', e, h⟩ := hc
        exact ⟨a', r', s', e, by omega⟩
      obtain ⟨a', r', s', rfl, h⟩ := this
      simp only [vC, vR, and_true] at h2
      simp only [gC, gR, and_true] at h3
      by_cases h0 : s = 0
      · have e : plain (.mk Br [[.mk a' r' s']] s) = .mk a' r' s' := by simp [plain, h0]
        rw [e]
        exact ⟨⟨h2.2, h3⟩, by simp [tP, tC, tR, tRt, tCt]; omega, by simp [cP, cC, cR, cRt, cCt]; omega⟩
      · obtain rfl : s' = 0 := by omega
        have e : plain (.mk Br [[.mk a' r' 0]] s) = .mk a' r' s := by simp [plain, h0]
        rw [e]
        refine ⟨⟨?_, ?_⟩, by simp [tP, tC, tR, tRt, tCt, h0], by simp [cP, cC, cR, cRt, cCt, h0]⟩
        · have := h2.2
          simp only [vP] at this ⊢
          exact ⟨hs, this.2⟩
        · simp only [gP] at h3 ⊢
          exact ⟨fun ha a2 r2 s2 e => absurd rfl (h3.1 ha a2 r2 s2 e).1, h3.2⟩
  · have : plain (.mk a [] s) = .mk a [] s := plain_noCol fun _ => by simp [noCol]
    rw [this]
    exact ⟨⟨by simp only [vP]; exact ⟨hs, .inr ⟨h, trivial⟩⟩, by simp [gP, gC, noCol]⟩, by omega, by omega⟩
theorem sound_part {ch : List UInt8 → Nat → Res (List (List Part))} (hc : ∀ l n, Sd (fun r => (tC r).length) cC okC l n (ch l n)) (l : List UInt8) (n : Nat) :
    Sd (fun p => (tP p).length) cP okP l n (part ch l n) := by
  intro x l' n' h hn
  unfold part at h
  split at h
  · cases h
  rename_i p l1 n1 ha
  obtain ⟨a, rows, s⟩ := p
  obtain ⟨⟨rfl, hk⟩, h2, h3, h4⟩ := sound_atom hc l n _ _ _ ha hn
  have hs := skip_len l1
  split at h
  · cases h
    have := plain_ok (s := 0) (.inl rfl) hk
    exact ⟨this.1, by simp at h2 ⊢; omega, by omega, h4⟩
  rename_i c r hl
  rw [hl] at hs
  split at h
  · rename_i hsg
    split at h
    · cases h
    cases h
    have hc : signOk c.toNat ∧ c.toNat ≠ 0 := by
      simp only [isSign, Bool.or_eq_true, beq_iff_eq] at hsg
      unfold signOk
      rcases hsg with (rfl | rfl) | rfl <;> decide
    have := plain_ok hc.1 hk
    refine ⟨this.1, ?_, ?_, by omega⟩
    · have h5 := this.2.1
      have e : (tP (.mk a rows c.toNat)).length = (tP (.mk a rows 0)).length + 1 := by
        simp only [tP, if_neg hc.2, if_true]; simp
      simp only [signed]
      simp at hs h2 ⊢; omega
    · have e : cP (.mk a rows c.toNat) = cP (.mk a rows 0) + 1 := by
        simp only [cP, if_neg hc.2, if_true]
      simp only [signed]
      omega
  · cases h
    have := plain_ok (s := 0) (.inl rfl) hk
    exact ⟨this.1, by simp at h2 hs ⊢; omega, by omega, h4⟩
theorem sound_row {ch : List UInt8 → Nat → Res (List (List Part))} (hc : ∀ l n, Sd (fun r => (tC r).length) cC okC l n (ch l n)) : ∀ (f : Nat) (l : List UInt8) (n : Nat),
    Sd (fun p => (tR p).length) cR okR l n (row ch f l n)
  | 0, l, n => fun x l' n' h _ => by cases h
  | f + 1, l, n => by
    intro x l' n' h hn
    unfold row at h
    split at h
    · cases h
    rename_i p l1 n1 hp
    obtain ⟨⟨h1, h1'⟩, h2, h3, h4⟩ := sound_part hc l n _ _ _ hp hn
    have hs := skip_len l1
    split at h
    · cases h
      exact ⟨⟨by simp, by simp [vR, h1], by simp [gR, h1']⟩, by simp [tR, tRt] at h2 ⊢; omega, by simp [cR, cRt]; omega, h4⟩
    rename_i c r hl
    rw [hl] at hs
    split at h
    · split at h
      · cases h
      split at h
      · cases h
      rename_i ps l2 n2 hr
      cases h
      obtain ⟨⟨k0, k1, k1'⟩, k2, k3, k4⟩ := sound_row hc f r (n1 + 1) _ _ _ hr (by omega)
      refine ⟨⟨by simp, by simp [vR, h1, k1], by simp [gR, h1', k1']⟩, ?_, ?_, k4⟩
      · cases ps with
        | nil => exact absurd rfl k0
        | cons q qs =>
          simp [tR, tRt] at h2 hs k2 ⊢; omega
      · cases ps with
        | nil => exact absurd rfl k0
        | cons q qs =>
          simp [cR, cRt] at k3 ⊢; omega
    · cases h
      exact ⟨⟨by simp, by simp [vR, h1], by simp [gR, h1']⟩, by simp [tR, tRt] at h2 hs ⊢; omega, by simp [cR, cRt]; omega, h4⟩
theorem sound_rows {rw : List UInt8 → Nat → Res (List Part)} (hc : ∀ l n, Sd (fun r => (tR r).length) cR okR l n (rw l n)) : ∀ (f : Nat) (l : List UInt8) (n : Nat),
    Sd (fun p => (tC p).length) cC okC l n (rowsL rw f l n)
  | 0, l, n => fun x l' n' h _ => by cases h
  | f + 1, l, n => by
    intro x l' n' h hn
    unfold rowsL at h
    split at h
    · cases h
    rename_i p l1 n1 hp
    obtain ⟨⟨h0, h1, h1'⟩, h2, h3, h4⟩ := hc l n _ _ _ hp hn
    have hs := skip_len l1
    split at h
    · cases h
      exact ⟨⟨by simp, by simp [vC, h0, h1], by simp [gC, h1']⟩, by simp [tC, tCt] at h2 ⊢; omega, by simp [cC, cCt]; omega, h4⟩
    rename_i c r hl
    rw [hl] at hs
    split at h
    · split at h
      · cases h
      split at h
      · cases h
      rename_i ps l2 n2 hr
      cases h
      obtain ⟨⟨k0, k1, k1'⟩, k2, k3, k4⟩ := sound_rows hc f r (n1 + 1) _ _ _ hr (by omega)
      refine ⟨⟨by simp, by simp [vC, h0, h1, k1], by simp [gC, h1', k1']⟩, ?_, ?_, k4⟩
      · cases ps with
        | nil => exact absurd rfl k0
        | cons q qs =>
          simp [tC, tCt] at h2 hs k2 ⊢; omega
      · cases ps with
        | nil => exact absurd rfl k0
        | cons q qs =>
          simp [cC, cCt] at k3 ⊢; omega
    · cases h
      exact ⟨⟨by simp, by simp [vC, h0, h1], by simp [gC, h1']⟩, by simp [tC, tCt] at h2 hs ⊢; omega, by simp [cC, cCt]; omega, h4⟩
theorem sound : ∀ (f : Nat) (l : List UInt8) (n : Nat), Sd (fun r => (tC r).length) cC okC l n (choices f l n)
  | 0, l, n => fun x l' n' h _ => by cases h
  | f + 1, l, n => by
    unfold choices
    exact sound_rows (fun l n => sound_row (sound f) (f + 1) l n) (f + 1) l n
/-- What was read can be, is no longer, and has begun no more. -/
theorem parse_ok {s : List UInt8} {r : List (List Part)} (h : parse s = .ok r) : okC r ∧ (tC r).length ≤ 1024 ∧ cC r ≤ maxParts := by
  unfold parse at h
  split at h
  · cases h
  split at h
  · cases h
  rename_i h0 rows l n hc
  obtain ⟨h1, h2, h3, h4⟩ := sound _ _ _ _ _ _ hc (by simp [maxParts])
  split at h
  · cases h
    exact ⟨h1, by simp at h2 h0; omega, by omega⟩
  · cases h
/-! ### What is written is read -/
def stopP (t : List UInt8) : Prop := t = [] ∨ ∃ c r, t = c :: r ∧ (c = 44 ∨ c = 124 ∨ c = 41)
def stopR (t : List UInt8) : Prop := t = [] ∨ ∃ c r, t = c :: r ∧ (c = 124 ∨ c = 41)
def stopC (t : List UInt8) : Prop := t = [] ∨ ∃ c r, t = c :: r ∧ c = 41
def Gets {α : Type} (r : Res α) (c n : Nat) (x : α) (t : List UInt8) : Prop :=
  (n + c ≤ maxParts ∧ r = .ok (x, t, n + c)) ∨ (maxParts < n + c ∧ ∃ p, r = .error (p, eLong))
theorem skip_cons {c : UInt8} {r : List UInt8} (h : c ≠ 32) : skip (c :: r) = c :: r := by simp [skip, List.dropWhile_cons, h]
theorem stopR.p {t : List UInt8} (h : stopR t) : stopP t := by
  rcases h with h | ⟨c, r, h1, h2⟩
  · exact .inl h
  · exact .inr ⟨c, r, h1, h2.elim (fun h => .inr (.inl h)) (fun h => .inr (.inr h))⟩
theorem stopC.r {t : List UInt8} (h : stopC t) : stopR t := by
  rcases h with h | ⟨c, r, h1, h2⟩
  · exact .inl h
  · exact .inr ⟨c, r, h1, .inr h2⟩
theorem begins_ne {c : UInt8} (h : begins c = true) : c ≠ 32 := by rintro rfl; revert h; decide
theorem name_take {l t : List UInt8} (hl : ∀ x ∈ l, inn x = true) (ht : ∀ c r, t = c :: r → inn c = false) : (l ++ t).takeWhile inn = l ∧ (l ++ t).dropWhile inn = t := by
  induction l with
  | nil =>
    cases t with
    | nil => simp
    | cons c r => simp [ht c r rfl]
  | cons x l ih =>
    have := ih fun y hy => hl y (by simp [hy])
    simp [hl x (by simp), this]
theorem cm_name {ch : List UInt8 → Nat → Res (List (List Part))} {a : ByteArray} (ha : atomOk a) (t : List UInt8) (ht : ∀ c r, t = c :: r → inn c = false) (n : Nat) :
    Gets (atom ch (a.data.toList ++ t) n) 1 n (.mk a [] 0) t := by
  obtain ⟨⟨a⟩⟩ := a
  rcases ha with ⟨c, r, h1, h2, h3, h4⟩ | h | h | h
  · dsimp only at h1 h4 ⊢
    subst h1
    have hall : ∀ x ∈ c :: r, inn x = true := by
      intro x hx
      rcases List.mem_cons.1 hx with rfl | hx
      · exact begins_inn h2
      · exact h3 x hx
    obtain ⟨e1, e2⟩ := name_take hall ht
    unfold atom
    simp only [List.cons_append] at e1 e2 ⊢
    rw [skip_cons (begins_ne h2)]
    simp only [h2, if_true, e1, e2]
    unfold Gets
    by_cases hn : maxParts < n + 1
    · rw [if_pos hn]; exact .inr ⟨hn, _, rfl⟩
    · rw [if_neg hn, if_neg (by omega)]; exact .inl ⟨by omega, rfl⟩
  all_goals
    cases h
    unfold atom
    simp only [Dl, Dt, Mi, List.cons_append, List.nil_append]
    rw [skip_cons (by decide)]
    simp only [begins]
    unfold Gets
    by_cases hn : maxParts < n + 1
    · right; refine ⟨hn, ?_⟩; simp [hn]
    · left; refine ⟨by omega, ?_⟩; simp [hn]
theorem sign_facts {s : Nat} (h : signOk s) (h0 : s ≠ 0) : isSign (UInt8.ofNat s) = true ∧ (UInt8.ofNat s).toNat = s ∧ UInt8.ofNat s ≠ 32 ∧ inn (UInt8.ofNat s) = false := by
  rcases h with h | h | h | h
  · exact absurd h h0
  all_goals subst h; decide
theorem stopP.facts {t : List UInt8} (h : stopP t) : skip t = t ∧ ∀ c r, t = c :: r → inn c = false ∧ isSign c = false := by
  rcases h with rfl | ⟨c, r, rfl, h⟩
  · exact ⟨rfl, by simp⟩
  · refine ⟨skip_cons ?_, ?_⟩
    · rcases h with rfl | rfl | rfl <;> decide
    · intro c' r' e
      cases e
      rcases h with rfl | rfl | rfl <;> decide
/-- A sign behind an atom, or none. -/
theorem cm_sign {ch : List UInt8 → Nat → Res (List (List Part))} {l : List UInt8} {a : ByteArray} {rows : List (List Part)} {s c n : Nat} {t : List UInt8} (hs : signOk s) (ht : stopP t)
    (h : ∀ t', (∀ c r, t' = c :: r → inn c = false) → t'.length ≤ t.length + 1 → (s = 0 → t' = t) → Gets (atom ch (l ++ t') n) c n (.mk a rows 0) t') :
    Gets (part ch (l ++ (if s = 0 then [] else [UInt8.ofNat s]) ++ t) n) (c + (if s = 0 then 0 else 1)) n (plain (.mk a rows s)) t := by
  obtain ⟨hsk, hf⟩ := ht.facts
  unfold part
  by_cases h0 : s = 0
  · subst h0
    simp only [if_true, List.append_nil, Nat.add_zero]
    rcases h t (fun c r e => (hf c r e).1) (by omega) (fun _ => rfl) with ⟨h1, h2⟩ | ⟨h1, p, h2⟩
    · rw [h2]
      refine .inl ⟨h1, ?_⟩
      dsimp only
      rw [hsk]
      cases t with
      | nil => rfl
      | cons d r => simp [(hf d r rfl).2]
    · rw [h2]; exact .inr ⟨h1, p, rfl⟩
  · obtain ⟨k1, k2, k3, k4⟩ := sign_facts hs h0
    simp only [if_neg h0, List.append_assoc, List.singleton_append]
    rcases h (UInt8.ofNat s :: t) (fun c r e => by cases e; exact k4) (by simp) (fun e => absurd e h0) with ⟨h1, h2⟩ | ⟨h1, p, h2⟩
    · rw [h2]
      dsimp only
      rw [skip_cons k3]
      simp only [k1, if_true, signed, k2]
      unfold Gets
      by_cases hn : maxParts < n + c + 1
      · rw [if_pos hn]; exact .inr ⟨by omega, _, rfl⟩
      · rw [if_neg hn]; exact .inl ⟨by omega, by rw [Nat.add_assoc]⟩
    · rw [h2]; exact .inr ⟨by omega, p, rfl⟩
mutual
theorem cmP : ∀ p, vP p → ∀ (f : Nat) (t : List UInt8) (n : Nat), stopP t → (tP p ++ t).length ≤ f → n ≤ maxParts → Gets (part (choices f) (tP p ++ t) n) (cP p) n (nP p) t
  | .mk a rows s, hv, f, t, n, ht, hl, hn => by
    simp only [vP] at hv
    obtain ⟨hs, ⟨rfl, hr, hv⟩ | ⟨ha, rfl⟩⟩ := hv
    · simp only [tP, cP, nP, if_true] at hl ⊢
      rw [show (1 + cC rows + if s = 0 then 0 else 1) = (1 + cC rows) + (if s = 0 then 0 else 1) from rfl]
      refine cm_sign hs ht fun t' ht' hlt' hst => ?_
      unfold atom
      simp only [List.cons_append, List.append_assoc, List.nil_append]
      rw [skip_cons (by decide)]
      have hb : begins 40 = false := by decide
      simp only [hb, Bool.false_eq_true, if_false]
      rw [if_neg (by decide)]
      simp only [ne_eq, not_true_eq_false, if_false]
      by_cases hm : maxParts < n + 1
      · rw [if_pos hm]; exact .inr ⟨by omega, _, rfl⟩
      rw [if_neg hm]
      have hlen : (tC rows ++ 41 :: t').length < f := by
        simp only [List.cons_append, List.append_assoc, List.nil_append, List.length_cons, List.length_append] at hl hlt' ⊢
        by_cases h0 : s = 0
        · have := hst h0; subst this; simp [h0] at hl; omega
        · simp [h0] at hl; omega
      obtain ⟨f', rfl⟩ : ∃ f', f = f' + 1 := ⟨f - 1, by omega⟩
      have := cmC rows hr hv f' (f' + 1) (41 :: t') (n + 1) (.inr ⟨_, _, rfl, rfl⟩) (by omega) (by omega) (by omega)
      unfold choices
      rcases this with ⟨h1, h2⟩ | ⟨h1, p, h2⟩
      · rw [h2]
        dsimp only
        rw [skip_cons (by decide)]
        refine .inl ⟨by omega, ?_⟩
        simp; omega
      · rw [h2]; exact .inr ⟨by omega, p, rfl⟩
    · simp only [tP, cP, nP, if_neg (br_ne ha), nC, Nat.add_zero]
      exact cm_sign hs ht fun t' ht' _ _ => cm_name ha t' ht' n
theorem cmR : ∀ r, r ≠ [] → vR r → ∀ (f g : Nat) (t : List UInt8) (n : Nat), stopR t → (tR r ++ t).length ≤ f → (tR r ++ t).length < g → n ≤ maxParts → Gets (row (choices f) g (tR r ++ t) n) (cR r) n (nR r) t
  | [], h, _, _, _, _, _, _, _, _, _ => absurd rfl h
  | p :: ps, _, hv, f, g, t, n, ht, hl, hg, hn => by
    obtain ⟨g, rfl⟩ : ∃ g', g = g' + 1 := ⟨g - 1, by omega⟩
    simp only [vR] at hv
    unfold row
    cases ps with
    | nil =>
      simp only [tR, tRt, cR, cRt, nR, List.append_nil, Nat.add_zero] at hl ⊢
      rcases cmP p hv.1 f t n ht.p hl hn with ⟨h1, h2⟩ | ⟨h1, q, h2⟩
      · rw [h2]
        refine .inl ⟨h1, ?_⟩
        dsimp only
        rw [ht.p.facts.1]
        rcases ht with rfl | ⟨c, r, rfl, hc⟩
        · rfl
        · dsimp only
          rw [if_neg (by rcases hc with rfl | rfl <;> decide)]
      · rw [h2]; exact .inr ⟨h1, q, rfl⟩
    | cons q qs =>
      have e : tR (p :: q :: qs) ++ t = tP p ++ 44 :: (tR (q :: qs) ++ t) := by simp [tR, tRt]
      rw [e] at hl hg ⊢
      have hcost : cR (p :: q :: qs) = cP p + (1 + cR (q :: qs)) := by simp [cR, cRt]; omega
      rw [hcost]
      rcases cmP p hv.1 f _ n (.inr ⟨_, _, rfl, .inl rfl⟩) hl hn with ⟨h1, h2⟩ | ⟨h1, q, h2⟩
      · rw [h2]
        dsimp only
        rw [skip_cons (by decide)]
        simp only [if_true]
        by_cases hm : maxParts < n + cP p + 1
        · rw [if_pos hm]; exact .inr ⟨by omega, _, rfl⟩
        rw [if_neg hm]
        simp only [List.length_append, List.length_cons] at hl hg
        rcases cmR (q :: qs) (by simp) hv.2 f g t (n + cP p + 1) ht (by simp; omega) (by simp; omega) (by omega) with ⟨k1, k2⟩ | ⟨k1, z, k2⟩
        · rw [k2]
          refine .inl ⟨by omega, ?_⟩
          simp [nR]; omega
        · rw [k2]; exact .inr ⟨by omega, z, rfl⟩
      · rw [h2]; exact .inr ⟨by omega, q, rfl⟩
theorem cmC : ∀ rs, rs ≠ [] → vC rs → ∀ (f g : Nat) (t : List UInt8) (n : Nat), stopC t → (tC rs ++ t).length ≤ f → (tC rs ++ t).length < g → n ≤ maxParts → Gets (rowsL (row (choices f) (f + 1)) g (tC rs ++ t) n) (cC rs) n (nC rs) t
  | [], h, _, _, _, _, _, _, _, _, _ => absurd rfl h
  | p :: ps, _, hv, f, g, t, n, ht, hl, hg, hn => by
    obtain ⟨g, rfl⟩ : ∃ g', g = g' + 1 := ⟨g - 1, by omega⟩
    simp only [vC] at hv
    unfold rowsL
    cases ps with
    | nil =>
      simp only [tC, tCt, cC, cCt, nC, List.append_nil, Nat.add_zero] at hl ⊢
      rcases cmR p hv.1 hv.2.1 f (f + 1) t n ht.r hl (by omega) hn with ⟨h1, h2⟩ | ⟨h1, q, h2⟩
      · rw [h2]
        refine .inl ⟨h1, ?_⟩
        dsimp only
        rw [ht.r.p.facts.1]
        rcases ht with rfl | ⟨c, r, rfl, hc⟩
        · rfl
        · dsimp only
          rw [if_neg (by rcases hc with rfl; decide)]
      · rw [h2]; exact .inr ⟨h1, q, rfl⟩
    | cons q qs =>
      have e : tC (p :: q :: qs) ++ t = tR p ++ 124 :: (tC (q :: qs) ++ t) := by simp [tC, tCt]
      rw [e] at hl hg ⊢
      have hcost : cC (p :: q :: qs) = cR p + (1 + cC (q :: qs)) := by simp [cC, cCt]; omega
      rw [hcost]
      rcases cmR p hv.1 hv.2.1 f (f + 1) _ n (.inr ⟨_, _, rfl, .inl rfl⟩) hl (by omega) hn with ⟨h1, h2⟩ | ⟨h1, q, h2⟩
      · rw [h2]
        dsimp only
        rw [skip_cons (by decide)]
        simp only [if_true]
        by_cases hm : maxParts < n + cR p + 1
        · rw [if_pos hm]; exact .inr ⟨by omega, _, rfl⟩
        rw [if_neg hm]
        simp only [List.length_append, List.length_cons] at hl hg
        rcases cmC (q :: qs) (by simp) hv.2.2 f g t (n + cR p + 1) ht (by simp; omega) (by simp; omega) (by omega) with ⟨k1, k2⟩ | ⟨k1, z, k2⟩
        · rw [k2]
          refine .inl ⟨by omega, ?_⟩
          simp [nC]; omega
        · rw [k2]; exact .inr ⟨by omega, z, rfl⟩
      · rw [h2]; exact .inr ⟨by omega, q, rfl⟩
end
/-- What is written of any parts that can be is read, or too long. -/
theorem parse_text {rs : List (List Part)} (h0 : rs ≠ []) (hv : vC rs) : (parse (tC rs) = .ok (nC rs) ∧ (tC rs).length ≤ 1024 ∧ cC rs ≤ maxParts) ∨ (∃ p, parse (tC rs) = .error (p, eLong) ∧ (1024 < (tC rs).length ∨ maxParts < cC rs)) := by
  unfold parse
  by_cases hl : 1024 < (tC rs).length
  · rw [if_pos hl]; exact .inr ⟨_, rfl, .inl hl⟩
  rw [if_neg hl]
  have := cmC rs h0 hv (tC rs).length ((tC rs).length + 1) [] 0 (.inl rfl) (by simp) (by simp) (by simp)
  rw [List.append_nil] at this
  unfold choices
  rcases this with ⟨h1, h2⟩ | ⟨h1, p, h2⟩
  · rw [h2]; exact .inl ⟨rfl, by omega, by omega⟩
  · rw [h2]; exact .inr ⟨p, rfl, .inr (by omega)⟩
abbrev Wd := List ByteArray
def fits (a name : ByteArray) : Bool := decide (a = Dt) || (decide (a = Dl) && decide (name = ByteArray.empty)) || (decide (a = name) && !decide (a = Dl))
/-- What matches, and what is a beginning (not empty) of what matches. -/
structure Lang where
  w : Wd → Prop
  p : Wd → Prop
theorem Lang.ext {x y : Lang} (h1 : ∀ w, x.w w ↔ y.w w) (h2 : ∀ w, x.p w ↔ y.p w) : x = y := by
  obtain ⟨a, b⟩ := x
  obtain ⟨c, d⟩ := y
  have e1 : a = c := funext fun w => propext (h1 w)
  have e2 : b = d := funext fun w => propext (h2 w)
  subst e1 e2; rfl
inductive Star (L : Wd → Prop) : Wd → Prop
  | nil : Star L []
  | cons {u v : Wd} : L u → Star L v → Star L (u ++ v)
def none : Lang := ⟨fun _ => False, fun _ => False⟩
def eps : Lang := ⟨fun w => w = [], fun _ => False⟩
def one (a : ByteArray) : Lang := ⟨fun w => ∃ x, w = [x] ∧ fits a x = true, fun w => ∃ x, w = [x] ∧ fits a x = true⟩
def alt (x y : Lang) : Lang := ⟨fun w => x.w w ∨ y.w w, fun w => x.p w ∨ y.p w⟩
def seq (x y : Lang) : Lang := ⟨fun w => ∃ u v, w = u ++ v ∧ x.w u ∧ y.w v, fun w => x.p w ∨ ∃ u v, w = u ++ v ∧ x.w u ∧ y.p v⟩
def star (x : Lang) : Lang := ⟨Star x.w, fun w => ∃ u v, w = u ++ v ∧ Star x.w u ∧ x.p v⟩
def plus (x : Lang) : Lang := ⟨fun w => ∃ u v, w = u ++ v ∧ x.w u ∧ Star x.w v, (star x).p⟩
def opt (x : Lang) : Lang := ⟨fun w => x.w w ∨ w = [], x.p⟩
def sg (s : Nat) (x : Lang) : Lang := if s = 63 then opt x else if s = 42 then star x else if s = 43 then plus x else x
mutual
def mP : Part → Lang
  | .mk a rows s => sg s (if a = Br then mC rows else if a = Mi then eps else one a)
def mR : List Part → Lang
  | [] => eps
  | p :: ps => seq (mP p) (mR ps)
def mC : List (List Part) → Lang
  | [] => none
  | r :: rs => alt (mR r) (mC rs)
end
/-! ### Laws -/
theorem seq_eps (x : Lang) : seq x eps = x := Lang.ext (fun w => by simp [seq, eps]) (fun w => by simp [seq, eps])
theorem eps_seq (x : Lang) : seq eps x = x := by
  refine Lang.ext (fun w => ⟨?_, fun h => ⟨[], w, rfl, rfl, h⟩⟩) (fun w => ⟨?_, fun h => .inr ⟨[], w, rfl, rfl, h⟩⟩)
  · rintro ⟨u, v, rfl, rfl, h⟩; exact h
  · rintro (h | ⟨u, v, rfl, rfl, h⟩)
    · exact h.elim
    · exact h
theorem alt_none (x : Lang) : alt x none = x := Lang.ext (fun w => by simp [alt, none]) (fun w => by simp [alt, none])
theorem alt_comm (x y : Lang) : alt x y = alt y x := Lang.ext (fun w => by simp [alt]; exact Or.comm) (fun w => by simp [alt]; exact Or.comm)
theorem seq_assoc (x y z : Lang) : seq (seq x y) z = seq x (seq y z) := by
  refine Lang.ext (fun w => ?_) (fun w => ?_)
  · simp only [seq]
    constructor
    · rintro ⟨_, v, rfl, ⟨a, b, rfl, h1, h2⟩, h3⟩; exact ⟨a, b ++ v, by simp, h1, b, v, rfl, h2, h3⟩
    · rintro ⟨a, _, rfl, h1, b, v, rfl, h2, h3⟩; exact ⟨a ++ b, v, by simp, ⟨a, b, rfl, h1, h2⟩, h3⟩
  · simp only [seq]
    constructor
    · rintro ((h | ⟨a, b, rfl, h1, h2⟩) | ⟨_, v, rfl, ⟨a, b, rfl, h1, h2⟩, h3⟩)
      · exact .inl h
      · exact .inr ⟨a, b, rfl, h1, .inl h2⟩
      · exact .inr ⟨a, b ++ v, by simp, h1, .inr ⟨b, v, rfl, h2, h3⟩⟩
    · rintro (h | ⟨a, _, rfl, h1, h2 | ⟨b, v, rfl, h2, h3⟩⟩)
      · exact .inl (.inl h)
      · exact .inl (.inr ⟨a, _, rfl, h1, h2⟩)
      · exact .inr ⟨a ++ b, v, by simp, ⟨a, b, rfl, h1, h2⟩, h3⟩
theorem Star.app {L : Wd → Prop} {u v : Wd} (h : Star L u) (k : Star L v) : Star L (u ++ v) := by
  induction h with
  | nil => exact k
  | cons h1 _ ih => rw [List.append_assoc]; exact .cons h1 ih
theorem Star.one {L : Wd → Prop} {u : Wd} (h : L u) : Star L u := by have := Star.cons h .nil; simpa using this
theorem Star.star {L : Wd → Prop} {u : Wd} (h : Star (Star L) u) : Star L u := by
  induction h with
  | nil => exact .nil
  | cons h1 _ ih => exact h1.app ih
theorem star_star (x : Lang) : Mdl.star (Mdl.star x) = Mdl.star x := by
  refine Lang.ext (fun w => ⟨Star.star, Star.one⟩) (fun w => ?_)
  simp only [Mdl.star]
  constructor
  · rintro ⟨a, _, rfl, h1, b, v, rfl, h2, h3⟩; exact ⟨a ++ b, v, by simp, h1.star.app h2, h3⟩
  · rintro ⟨a, v, rfl, h1, h2⟩; exact ⟨[], a ++ v, rfl, .nil, a, v, rfl, h1, h2⟩
theorem plus_eq (x : Lang) : plus x = seq x (star x) := by
  refine Lang.ext (fun w => Iff.rfl) (fun w => ?_)
  simp only [plus, star, seq]
  constructor
  · rintro ⟨_, v, rfl, h1, h2⟩
    cases h1 with
    | nil => exact .inl h2
    | cons h1 h3 => exact .inr ⟨_, _, List.append_assoc .., h1, _, v, rfl, h3, h2⟩
  · rintro (h | ⟨a, _, rfl, h1, b, v, rfl, h2, h3⟩)
    · exact ⟨[], w, rfl, .nil, h⟩
    · exact ⟨a ++ b, v, by simp, .cons h1 h2, h3⟩
theorem opt_eq (x : Lang) : opt x = alt x eps := Lang.ext (fun w => Iff.rfl) (fun w => by simp [opt, alt, eps])
theorem sg0 (x : Lang) : sg 0 x = x := by simp [sg]
theorem m_plain (p : Part) : mP (plain p) = mP p := by
  obtain ⟨a, rows, s⟩ := p
  simp only [plain]
  split
  · rename_i ha
    split
    · rename_i a' r' s'
      split
      · rename_i h0; subst h0
        simp only [mP, ha, if_true, mC, mR, seq_eps, alt_none, sg0]
      split
      · rename_i h1 h0; subst h0
        simp only [mP, ha, if_true, mC, mR, seq_eps, alt_none, sg0]
      · rfl
    · rfl
  · rfl
mutual
theorem mP_n : ∀ p, mP (nP p) = mP p
  | .mk a rows s => by simp only [nP, m_plain, mP, mC_n rows]
theorem mR_n : ∀ p, mR (nR p) = mR p
  | [] => by simp only [nR]
  | p :: ps => by simp only [nR, mR, mP_n p, mR_n ps]
theorem mC_n : ∀ p, mC (nC p) = mC p
  | [] => by simp only [nC]
  | p :: ps => by simp only [nC, mC, mR_n p, mC_n ps]
end
/-! ### Places -/
abbrev NS := Nat → Prop
/-- A word is read along places, the first one out of S, up to place j. -/
inductive Rch (F : Nat → Nat → Prop) (A : Nat → ByteArray → Prop) (S : NS) : Wd → Nat → Prop
  | one {i : Nat} {x : ByteArray} : S i → A i x → Rch F A S [x] i
  | snoc {w : Wd} {i j : Nat} {x : ByteArray} : Rch F A S w i → F i j → A j x → Rch F A S (w ++ [x]) j
/-- What places read. -/
structure Is (F : Nat → Nat → Prop) (A : Nat → ByteArray → Prop) (fst lst : NS) (emp : Prop) (a b : Nat) (x : Lang) : Prop where
  w : ∀ w, x.w w ↔ (w = [] ∧ emp) ∨ ∃ j, lst j ∧ Rch F A fst w j
  p : ∀ w, x.p w ↔ ∃ j, Rch F A fst w j
  f1 : ∀ i, fst i → a ≤ i ∧ i < b
  l1 : ∀ i, lst i → a ≤ i ∧ i < b
  shut : ∀ i j, a ≤ i → i < b → F i j → a ≤ j ∧ j < b
section
variable {F F' : Nat → Nat → Prop} {A : Nat → ByteArray → Prop} {S S' : NS}
theorem Rch.mono {w : Wd} {j : Nat} (h : Rch F A S w j) (hS : ∀ i, S i → S' i) (hF : ∀ i j, F i j → F' i j) : Rch F' A S' w j := by
  induction h with
  | one h1 h2 => exact .one (hS _ h1) h2
  | snoc _ h2 h3 ih => exact .snoc ih (hF _ _ h2) h3
/-- Within a shut range only what lies there counts. -/
theorem Rch.within {w : Wd} {j a b : Nat} (h : Rch F A S w j) (hS : ∀ i, S i → a ≤ i ∧ i < b) (hF : ∀ i j, a ≤ i → i < b → F i j → (a ≤ j ∧ j < b) ∧ F' i j) : (a ≤ j ∧ j < b) ∧ Rch F' A S w j := by
  induction h with
  | one h1 h2 => exact ⟨hS _ h1, .one h1 h2⟩
  | snoc _ h2 h3 ih => obtain ⟨k1, k2⟩ := hF _ _ ih.1.1 ih.1.2 h2; exact ⟨k1, .snoc ih.2 k2 h3⟩
theorem Rch.glue {u v : Wd} {k j : Nat} (h : Rch F A S u k) (hk : ∀ i, S' i → F k i) (h2 : Rch F A S' v j) : Rch F A S (u ++ v) j := by
  induction h2 with
  | one h1 h2 => exact .snoc h (hk _ h1) h2
  | snoc _ h3 h4 ih => rw [← List.append_assoc]; exact .snoc ih h3 h4
theorem Rch.ne {w : Wd} {j : Nat} (h : Rch F A S w j) : w ≠ [] := by cases h <;> simp
end
section
variable {F G : Nat → Nat → Prop} {A : Nat → ByteArray → Prop} {f1 l1 f2 l2 : NS} {e1 e2 : Prop} {a b c : Nat} {x y : Lang}
/-- The same places under another relation that is the same there. -/
theorem Is.same {A' : Nat → ByteArray → Prop} (h : Is F A f1 l1 e1 a b x) (hF : ∀ i j, a ≤ i → i < b → (F i j ↔ G i j)) (hA : ∀ i n, a ≤ i → i < b → (A i n ↔ A' i n)) : Is G A' f1 l1 e1 a b x := by
  have r1 : ∀ w j, Rch F A f1 w j ↔ Rch G A' f1 w j := by
    intro w j
    constructor
    · intro k
      have : (a ≤ j ∧ j < b) ∧ Rch G A' f1 w j := by
        induction k with
        | one h1 h2 => have := h.f1 _ h1; exact ⟨this, .one h1 ((hA _ _ this.1 this.2).1 h2)⟩
        | snoc _ h2 h3 ih =>
          have := h.shut _ _ ih.1.1 ih.1.2 h2
          exact ⟨this, .snoc ih.2 ((hF _ _ ih.1.1 ih.1.2).1 h2) ((hA _ _ this.1 this.2).1 h3)⟩
      exact this.2
    · intro k
      have : (a ≤ j ∧ j < b) ∧ Rch F A f1 w j := by
        induction k with
        | one h1 h2 => have := h.f1 _ h1; exact ⟨this, .one h1 ((hA _ _ this.1 this.2).2 h2)⟩
        | snoc _ h2 h3 ih =>
          have h2' := (hF _ _ ih.1.1 ih.1.2).2 h2
          have := h.shut _ _ ih.1.1 ih.1.2 h2'
          exact ⟨this, .snoc ih.2 h2' ((hA _ _ this.1 this.2).2 h3)⟩
      exact this.2
  refine ⟨fun w => ?_, fun w => ?_, h.f1, h.l1, fun i j h1 h2 h3 => h.shut i j h1 h2 ((hF i j h1 h2).2 h3)⟩
  · rw [h.w]; simp only [r1]
  · rw [h.p]; simp only [r1]
theorem Is.sub {f' l' : NS} {e' : Prop} (h : Is F A f1 l1 e1 a b x) (hf : ∀ i, f1 i ↔ f' i) (hl : ∀ i, l1 i ↔ l' i) (he : e1 ↔ e') : Is F A f' l' e' a b x := by
  have e1 : f1 = f' := funext fun i => propext (hf i)
  have e2 : l1 = l' := funext fun i => propext (hl i)
  have e3 := propext he
  subst e1 e2 e3
  exact h
theorem Is.alt (hx : Is F A f1 l1 e1 a b x) (hy : Is F A f2 l2 e2 b c y) (hab : a ≤ b) (hbc : b ≤ c) :
    Is F A (fun i => f1 i ∨ f2 i) (fun i => l1 i ∨ l2 i) (e1 ∨ e2) a c (alt x y) := by
  have key : ∀ w j, Rch F A (fun i => f1 i ∨ f2 i) w j ↔ (a ≤ j ∧ j < b ∧ Rch F A f1 w j) ∨ (b ≤ j ∧ j < c ∧ Rch F A f2 w j) := by
    intro w j
    constructor
    · intro h
      induction h with
      | one h1 h2 =>
        rcases h1 with h1 | h1
        · exact .inl ⟨(hx.f1 _ h1).1, (hx.f1 _ h1).2, .one h1 h2⟩
        · exact .inr ⟨(hy.f1 _ h1).1, (hy.f1 _ h1).2, .one h1 h2⟩
      | snoc _ h2 h3 ih =>
        rcases ih with ⟨k1, k2, k3⟩ | ⟨k1, k2, k3⟩
        · have := hx.shut _ _ k1 k2 h2; exact .inl ⟨this.1, this.2, .snoc k3 h2 h3⟩
        · have := hy.shut _ _ k1 k2 h2; exact .inr ⟨this.1, this.2, .snoc k3 h2 h3⟩
    · rintro (⟨_, _, h⟩ | ⟨_, _, h⟩)
      · exact h.mono (fun _ => .inl) (fun _ _ h => h)
      · exact h.mono (fun _ => .inr) (fun _ _ h => h)
  have lx : ∀ w j, Rch F A f1 w j → a ≤ j ∧ j < b := fun w j h => (h.within hx.f1 fun i j h1 h2 h3 => ⟨hx.shut i j h1 h2 h3, h3⟩).1
  have ly : ∀ w j, Rch F A f2 w j → b ≤ j ∧ j < c := fun w j h => (h.within hy.f1 fun i j h1 h2 h3 => ⟨hy.shut i j h1 h2 h3, h3⟩).1
  refine ⟨fun w => ?_, fun w => ?_, ?_, ?_, ?_⟩
  · simp only [Mdl.alt, hx.w, hy.w, key]
    constructor
    · rintro ((⟨h1, h2⟩ | ⟨j, h1, h2⟩) | (⟨h1, h2⟩ | ⟨j, h1, h2⟩))
      · exact .inl ⟨h1, .inl h2⟩
      · exact .inr ⟨j, .inl h1, .inl ⟨(lx _ _ h2).1, (lx _ _ h2).2, h2⟩⟩
      · exact .inl ⟨h1, .inr h2⟩
      · exact .inr ⟨j, .inr h1, .inr ⟨(ly _ _ h2).1, (ly _ _ h2).2, h2⟩⟩
    · rintro (⟨h1, h2 | h2⟩ | ⟨j, h1, h2⟩)
      · exact .inl (.inl ⟨h1, h2⟩)
      · exact .inr (.inl ⟨h1, h2⟩)
      · rcases h1 with h1 | h1 <;> rcases h2 with ⟨k1, k2, h2⟩ | ⟨k1, k2, h2⟩
        · exact .inl (.inr ⟨j, h1, h2⟩)
        · have := hx.l1 _ h1; omega
        · have := hy.l1 _ h1; omega
        · exact .inr (.inr ⟨j, h1, h2⟩)
  · simp only [Mdl.alt, hx.p, hy.p, key]
    constructor
    · rintro (⟨j, h⟩ | ⟨j, h⟩)
      · exact ⟨j, .inl ⟨(lx _ _ h).1, (lx _ _ h).2, h⟩⟩
      · exact ⟨j, .inr ⟨(ly _ _ h).1, (ly _ _ h).2, h⟩⟩
    · rintro ⟨j, ⟨_, _, h⟩ | ⟨_, _, h⟩⟩
      · exact .inl ⟨j, h⟩
      · exact .inr ⟨j, h⟩
  · rintro i (h | h)
    · have := hx.f1 i h; omega
    · have := hy.f1 i h; omega
  · rintro i (h | h)
    · have := hx.l1 i h; omega
    · have := hy.l1 i h; omega
  · intro i j h1 h2 h3
    rcases Nat.lt_or_ge i b with h | h
    · have := hx.shut i j h1 h h3; omega
    · have := hy.shut i j h h2 h3; omega
/-- One behind the other: the last ones of the one are followed by the first ones of the other. -/
theorem Is.seq (hx : Is F A f1 l1 e1 a b x) (hy : Is F A f2 l2 e2 b c y) (hab : a ≤ b) (hbc : b ≤ c) (hG : ∀ i j, G i j ↔ F i j ∨ (l1 i ∧ f2 j)) :
    Is G A (fun i => f1 i ∨ (e1 ∧ f2 i)) (fun i => l2 i ∨ (e2 ∧ l1 i)) (e1 ∧ e2) a c (seq x y) := by
  have lx : ∀ w j, Rch F A f1 w j → a ≤ j ∧ j < b := fun w j h => (h.within hx.f1 fun i j h1 h2 h3 => ⟨hx.shut i j h1 h2 h3, h3⟩).1
  have ly : ∀ w j, Rch F A f2 w j → b ≤ j ∧ j < c := fun w j h => (h.within hy.f1 fun i j h1 h2 h3 => ⟨hy.shut i j h1 h2 h3, h3⟩).1
  have hFG : ∀ i j, F i j → G i j := fun i j h => (hG i j).2 (.inl h)
  have key : ∀ w j, Rch G A (fun i => f1 i ∨ (e1 ∧ f2 i)) w j ↔ Rch F A f1 w j ∨ ∃ u v, w = u ++ v ∧ x.w u ∧ Rch F A f2 v j := by
    intro w j
    constructor
    · intro h
      induction h with
      | one h1 h2 =>
        rcases h1 with h1 | ⟨h1, h3⟩
        · exact .inl (.one h1 h2)
        · exact .inr ⟨[], _, rfl, (hx.w _).2 (.inl ⟨rfl, h1⟩), .one h3 h2⟩
      | snoc _ h2 h3 ih =>
        rcases ih with k | ⟨u, v, rfl, k1, k2⟩
        · rcases (hG _ _).1 h2 with h2 | ⟨h2, h4⟩
          · exact .inl (.snoc k h2 h3)
          · exact .inr ⟨_, _, rfl, (hx.w _).2 (.inr ⟨_, h2, k⟩), .one h4 h3⟩
        · rcases (hG _ _).1 h2 with h2 | ⟨h2, h4⟩
          · exact .inr ⟨u, _, List.append_assoc .., k1, .snoc k2 h2 h3⟩
          · have := hx.l1 _ h2; have := ly _ _ k2; omega
    · rintro (h | ⟨u, v, rfl, h1, h2⟩)
      · exact h.mono (fun _ => .inl) hFG
      · rcases (hx.w _).1 h1 with ⟨rfl, h⟩ | ⟨k, hk, h⟩
        · exact h2.mono (fun _ hi => .inr ⟨h, hi⟩) hFG
        · exact Rch.glue (S' := f2) (h.mono (fun _ => .inl) hFG) (fun i hi => (hG _ _).2 (.inr ⟨hk, hi⟩)) (h2.mono (fun _ h => h) hFG)
  refine ⟨fun w => ?_, fun w => ?_, ?_, ?_, ?_⟩
  · simp only [Mdl.seq, key]
    constructor
    · rintro ⟨u, v, rfl, h1, h2⟩
      rcases (hy.w _).1 h2 with ⟨rfl, h3⟩ | ⟨j, h3, h4⟩
      · rcases (hx.w _).1 h1 with ⟨rfl, h4⟩ | ⟨j, h4, h5⟩
        · exact .inl ⟨rfl, h4, h3⟩
        · exact .inr ⟨j, .inr ⟨h3, h4⟩, .inl (by simpa using h5)⟩
      · exact .inr ⟨j, .inl h3, .inr ⟨u, v, rfl, h1, h4⟩⟩
    · rintro (⟨rfl, h1, h2⟩ | ⟨j, h1, h2⟩)
      · exact ⟨[], [], rfl, (hx.w _).2 (.inl ⟨rfl, h1⟩), (hy.w _).2 (.inl ⟨rfl, h2⟩)⟩
      · rcases h2 with h2 | ⟨u, v, rfl, h2, h3⟩
        · rcases h1 with h1 | ⟨h1, h3⟩
          · have := hy.l1 _ h1; have := lx _ _ h2; omega
          · exact ⟨w, [], by simp, (hx.w _).2 (.inr ⟨j, h3, h2⟩), (hy.w _).2 (.inl ⟨rfl, h1⟩)⟩
        · rcases h1 with h1 | ⟨h1, h4⟩
          · exact ⟨u, v, rfl, h2, (hy.w _).2 (.inr ⟨j, h1, h3⟩)⟩
          · have := hx.l1 _ h4; have := ly _ _ h3; omega
  · simp only [Mdl.seq, key, hx.p, hy.p]
    constructor
    · rintro (⟨j, h⟩ | ⟨u, v, rfl, h1, j, h2⟩)
      · exact ⟨j, .inl h⟩
      · exact ⟨j, .inr ⟨u, v, rfl, h1, h2⟩⟩
    · rintro ⟨j, h | ⟨u, v, rfl, h1, h2⟩⟩
      · exact .inl ⟨j, h⟩
      · exact .inr ⟨u, v, rfl, h1, j, h2⟩
  · rintro i (h | ⟨_, h⟩)
    · have := hx.f1 i h; omega
    · have := hy.f1 i h; omega
  · rintro i (h | ⟨_, h⟩)
    · have := hy.l1 i h; omega
    · have := hx.l1 i h; omega
  · intro i j h1 h2 h3
    rcases (hG i j).1 h3 with h3 | ⟨h3, h4⟩
    · rcases Nat.lt_or_ge i b with h | h
      · have := hx.shut i j h1 h h3; omega
      · have := hy.shut i j h h2 h3; omega
    · have := hy.f1 j h4; omega
theorem Is.loop (hx : Is F A f1 l1 e1 a b x) (hG : ∀ i j, G i j ↔ F i j ∨ (l1 i ∧ f1 j)) :
    Is G A f1 l1 True a b (star x) ∧ Is G A f1 l1 e1 a b (plus x) := by
  have hFG : ∀ i j, F i j → G i j := fun i j h => (hG i j).2 (.inl h)
  have key : ∀ w j, Rch G A f1 w j ↔ ∃ u v, w = u ++ v ∧ Star x.w u ∧ Rch F A f1 v j := by
    intro w j
    constructor
    · intro h
      induction h with
      | one h1 h2 => exact ⟨[], _, rfl, .nil, .one h1 h2⟩
      | snoc _ h2 h3 ih =>
        obtain ⟨u, v, rfl, k1, k2⟩ := ih
        rcases (hG _ _).1 h2 with h2 | ⟨h2, h4⟩
        · exact ⟨u, _, List.append_assoc .., k1, .snoc k2 h2 h3⟩
        · exact ⟨u ++ v, _, rfl, k1.app (Star.one ((hx.w _).2 (.inr ⟨_, h2, k2⟩))), .one h4 h3⟩
    · rintro ⟨u, v, rfl, h1, h2⟩
      have h2 := h2.mono (fun _ h => h) hFG
      induction h1 with
      | nil => exact h2
      | cons k1 _ ih =>
        rw [List.append_assoc]
        rcases (hx.w _).1 k1 with ⟨rfl, _⟩ | ⟨k, hk, k2⟩
        · exact ih
        · exact Rch.glue (S' := f1) (k2.mono (fun _ h => h) hFG) (fun i hi => (hG _ _).2 (.inr ⟨hk, hi⟩)) ih
  have ends : ∀ w, Star x.w w → w = [] ∨ ∃ j, l1 j ∧ ∃ u v, w = u ++ v ∧ Star x.w u ∧ Rch F A f1 v j := by
    intro w h
    induction h with
    | nil => exact .inl rfl
    | @cons u v h1 h2 ih =>
      rcases ih with rfl | ⟨j, hj, u', v', rfl, k1, k2⟩
      · rcases (hx.w _).1 h1 with ⟨rfl, _⟩ | ⟨k, hk, k2⟩
        · exact .inl rfl
        · exact .inr ⟨k, hk, [], u, by simp, .nil, k2⟩
      · exact .inr ⟨j, hj, u ++ u', v', by simp, .cons h1 k1, k2⟩
  have shut : ∀ i j, a ≤ i → i < b → G i j → a ≤ j ∧ j < b := by
    intro i j h1 h2 h3
    rcases (hG i j).1 h3 with h3 | ⟨h3, h4⟩
    · exact hx.shut i j h1 h2 h3
    · exact hx.f1 j h4
  refine ⟨⟨fun w => ?_, fun w => ?_, hx.f1, hx.l1, shut⟩, ⟨fun w => ?_, fun w => ?_, hx.f1, hx.l1, shut⟩⟩
  · simp only [star, key]
    constructor
    · intro h
      rcases ends w h with rfl | h
      · exact .inl ⟨rfl, trivial⟩
      · exact .inr h
    · rintro (⟨rfl, _⟩ | ⟨j, hj, u, v, rfl, h1, h2⟩)
      · exact .nil
      · exact h1.app (Star.one ((hx.w _).2 (.inr ⟨j, hj, h2⟩)))
  · simp only [star, key, hx.p]
    constructor
    · rintro ⟨u, v, rfl, h1, j, h2⟩; exact ⟨j, u, v, rfl, h1, h2⟩
    · rintro ⟨j, u, v, rfl, h1, h2⟩; exact ⟨u, v, rfl, h1, j, h2⟩
  · simp only [plus, key]
    constructor
    · rintro ⟨u, v, rfl, h1, h2⟩
      rcases ends v h2 with rfl | ⟨j, hj, u', v', rfl, k1, k2⟩
      · rcases (hx.w _).1 h1 with ⟨rfl, h⟩ | ⟨k, hk, k2⟩
        · exact .inl ⟨rfl, h⟩
        · exact .inr ⟨k, hk, [], u, by simp, .nil, k2⟩
      · exact .inr ⟨j, hj, u ++ u', v', by simp, .cons h1 k1, k2⟩
    · rintro (⟨rfl, h⟩ | ⟨j, hj, u, v, rfl, h1, h2⟩)
      · exact ⟨[], [], rfl, (hx.w _).2 (.inl ⟨rfl, h⟩), .nil⟩
      · have hv := (hx.w _).2 (.inr ⟨j, hj, h2⟩)
        cases h1 with
        | nil => exact ⟨v, [], by simp, hv, .nil⟩
        | cons k1 k2 => exact ⟨_, _, List.append_assoc .., k1, k2.app (Star.one hv)⟩
  · simp only [plus, star, key, hx.p]
    constructor
    · rintro ⟨u, v, rfl, h1, j, h2⟩; exact ⟨j, u, v, rfl, h1, h2⟩
    · rintro ⟨j, u, v, rfl, h1, h2⟩; exact ⟨u, v, rfl, h1, j, h2⟩
end
def join1 (out : List Nat) (x : Nat) : List Nat := if out.contains x then out else out ++ [x]
def joined (a b : List Nat) : List Nat := b.foldl join1 a
def behind1 (first : List Nat) (f : List (List Nat)) (i : Nat) : List (List Nat) := f.set i (joined (f.getD i []) first)
def behind (f : List (List Nat)) (last first : List Nat) : List (List Nat) := last.foldl (behind1 first) f
structure Pc where
  first : List Nat
  last : List Nat
  empty : Bool
/-- Atoms, and what follows each. -/
abbrev GS := List ByteArray × List (List Nat)
mutual
def uP : Part → GS → Pc × GS
  | .mk a rows s, g =>
    let r := if a = Br then uC rows g ⟨[], [], false⟩ else if a = Mi then (⟨[], [], true⟩, g) else (⟨[g.1.length], [g.1.length], false⟩, (g.1 ++ [a], g.2 ++ [[]]))
    (⟨r.1.first, r.1.last, r.1.empty || (s == 42 || s == 63)⟩, (r.2.1, if s = 42 ∨ s = 43 then behind r.2.2 r.1.last r.1.first else r.2.2))
def uR : List Part → GS → Pc → Pc × GS
  | [], g, all => (all, g)
  | x :: xs, g, all =>
    let r := uP x g
    uR xs (r.2.1, behind r.2.2 all.last r.1.first)
      ⟨if all.empty then joined all.first r.1.first else all.first, if r.1.empty then joined all.last r.1.last else r.1.last, all.empty && r.1.empty⟩
def uC : List (List Part) → GS → Pc → Pc × GS
  | [], g, all => (all, g)
  | x :: xs, g, all =>
    let r := uR x g ⟨[], [], true⟩
    uC xs r.2 ⟨joined all.first r.1.first, joined all.last r.1.last, all.empty || r.1.empty⟩
end
theorem mem_joined {x : Nat} : ∀ (b a : List Nat), x ∈ joined a b ↔ x ∈ a ∨ x ∈ b
  | [], a => by simp [joined]
  | y :: b, a => by
    have := mem_joined (x := x) b (join1 a y)
    unfold joined at this ⊢
    rw [List.foldl_cons, this]
    unfold join1
    by_cases h : a.contains y = true
    · rw [if_pos h]
      have h := List.contains_iff_mem.1 h
      constructor
      · rintro (h | h)
        · exact .inl h
        · exact .inr (by simp [h])
      · rintro (h1 | h1)
        · exact .inl h1
        · rcases List.mem_cons.1 h1 with rfl | h1
          · exact .inl h
          · exact .inr h1
    · rw [if_neg h]
      simp [or_assoc]
def Fol (f : List (List Nat)) (i j : Nat) : Prop := j ∈ f.getD i []
theorem behind_len : ∀ (last : List Nat) (f : List (List Nat)) (first : List Nat), (behind f last first).length = f.length
  | [], f, first => rfl
  | i :: last, f, first => by
    unfold behind
    rw [List.foldl_cons]
    have := behind_len last (behind1 first f i) first
    unfold behind at this
    rw [this]; simp [behind1]
theorem fol_behind {i j : Nat} : ∀ (last : List Nat) (f : List (List Nat)) (first : List Nat), (∀ k ∈ last, k < f.length) → (Fol (behind f last first) i j ↔ Fol f i j ∨ (i ∈ last ∧ j ∈ first))
  | [], f, first, _ => by simp [behind]
  | k :: last, f, first, h => by
    unfold behind
    rw [List.foldl_cons]
    have := fol_behind (i := i) (j := j) last (behind1 first f k) first (fun m hm => by simp [behind1]; exact h m (by simp [hm]))
    unfold behind at this
    rw [this]
    have hk := h k (by simp)
    have e : Fol (behind1 first f k) i j ↔ Fol f i j ∨ (i = k ∧ j ∈ first) := by
      unfold Fol behind1
      simp only [List.getD_eq_getElem?_getD, List.getElem?_set]
      by_cases hik : k = i
      · subst hik
        simp [hk, mem_joined]
      · rw [if_neg hik]; simp [Ne.symm hik]
    rw [e]
    simp only [List.mem_cons]
    constructor
    · rintro ((h | ⟨h1, h2⟩) | ⟨h1, h2⟩)
      · exact .inl h
      · exact .inr ⟨.inl h1, h2⟩
      · exact .inr ⟨.inr h1, h2⟩
    · rintro (h | ⟨h1 | h1, h2⟩)
      · exact .inl (.inl h)
      · exact .inl (.inr ⟨h1, h2⟩)
      · exact .inr ⟨h1, h2⟩
theorem behind_other : ∀ (last : List Nat) (f : List (List Nat)) (first : List Nat) (i : Nat), i ∉ last → (behind f last first)[i]? = f[i]?
  | [], f, first, i, _ => rfl
  | k :: last, f, first, i, h => by
    unfold behind
    rw [List.foldl_cons]
    have := behind_other last (behind1 first f k) first i (fun hm => h (by simp [hm]))
    unfold behind at this
    rw [this]
    unfold behind1
    rw [List.getElem?_set_ne]
    rintro rfl; exact h (by simp)
def At (l : List ByteArray) (i : Nat) (n : ByteArray) : Prop := ∃ a, l[i]? = some a ∧ fits a n = true
/-- A state that goes on from another one: nothing below a turns. -/
structure On (a : Nat) (g g' : GS) : Prop where
  len : g'.1.length = g'.2.length
  le : g.1.length ≤ g'.1.length
  at_ : ∀ i, i < g.1.length → g'.1[i]? = g.1[i]?
  fol : ∀ i, i < a → g'.2[i]? = g.2[i]?
theorem On.trans {a : Nat} {g g' g'' : GS} (h : On a g g') (k : On a g' g'') : On a g g'' :=
  ⟨k.len, Nat.le_trans h.le k.le, fun i hi => (k.at_ i (Nat.lt_of_lt_of_le hi h.le)).trans (h.at_ i hi), fun i hi => (k.fol i hi).trans (h.fol i hi)⟩
theorem On.less {a b : Nat} {g g' : GS} (h : On a g g') (hb : b ≤ a) : On b g g' := ⟨h.len, h.le, h.at_, fun i hi => h.fol i (Nat.lt_of_lt_of_le hi hb)⟩
abbrev IsG (g : GS) (p : Pc) (a : Nat) (x : Lang) : Prop := Is (Fol g.2) (At g.1) (· ∈ p.first) (· ∈ p.last) (p.empty = true) a g.1.length x
theorem isNone (F : Nat → Nat → Prop) (A : Nat → ByteArray → Prop) (a : Nat) : Is F A (fun i => i ∈ ([] : List Nat)) (fun i => i ∈ ([] : List Nat)) (false = true) a a none := by
  have : ∀ w j, ¬ Rch F A (fun i => i ∈ ([] : List Nat)) w j := by
    intro w j h
    induction h with
    | one h => cases h
    | snoc _ _ _ ih => exact ih
  exact ⟨fun w => by simp [none], fun w => by simp only [none, this]; simp, by simp, by simp, by omega⟩
theorem isEps (F : Nat → Nat → Prop) (A : Nat → ByteArray → Prop) (a : Nat) : Is F A (fun i => i ∈ ([] : List Nat)) (fun i => i ∈ ([] : List Nat)) (true = true) a a eps := by
  have : ∀ w j, ¬ Rch F A (fun i => i ∈ ([] : List Nat)) w j := by
    intro w j h
    induction h with
    | one h => cases h
    | snoc _ _ _ ih => exact ih
  exact ⟨fun w => by simp [eps], fun w => by simp only [eps, this]; simp, by simp, by simp, by omega⟩
theorem isOne (g : GS) (a : ByteArray) (h : g.1.length = g.2.length) : IsG (g.1 ++ [a], g.2 ++ [[]]) ⟨[g.1.length], [g.1.length], false⟩ g.1.length (one a) := by
  have hF : ∀ j, ¬ Fol (g.2 ++ [[]]) g.1.length j := by intro j; simp [Fol, h]
  have hA : ∀ n, At (g.1 ++ [a]) g.1.length n ↔ fits a n = true := by intro n; simp [At]
  have key : ∀ w j, Rch (Fol (g.2 ++ [[]])) (At (g.1 ++ [a])) (fun i => i ∈ [g.1.length]) w j ↔ j = g.1.length ∧ ∃ x, w = [x] ∧ fits a x = true := by
    intro w j
    constructor
    · intro h
      induction h with
      | one h1 h2 =>
        obtain rfl := List.mem_singleton.1 h1
        exact ⟨rfl, _, rfl, (hA _).1 h2⟩
      | snoc _ h2 h3 ih =>
        obtain ⟨rfl, _⟩ := ih
        exact absurd h2 (hF _)
    · rintro ⟨rfl, x, rfl, h⟩
      exact .one (by simp) ((hA _).2 h)
  refine ⟨fun w => ?_, fun w => ?_, by simp, by simp, fun i j h1 h2 h3 => ?_⟩
  · simp only [key]; simp [one]
  · simp only [key]; simp [one]
  · simp at h2
    obtain rfl : i = g.1.length := by omega
    exact absurd h3 (hF j)
theorem fol_eq {f f' : List (List Nat)} {i : Nat} (h : f'[i]? = f[i]?) (j : Nat) : Fol f i j ↔ Fol f' i j := by
  unfold Fol; simp only [List.getD_eq_getElem?_getD, h]
theorem at_eq {f f' : List ByteArray} {i : Nat} (h : f'[i]? = f[i]?) (n : ByteArray) : At f i n ↔ At f' i n := by
  unfold At; rw [h]
theorem joined_iff {a b : List Nat} (i : Nat) : (i ∈ a ∨ i ∈ b) ↔ i ∈ joined a b := (mem_joined b a).symm
mutual
theorem isP : ∀ (p : Part) (g : GS), g.1.length = g.2.length → On g.1.length g (uP p g).2 ∧ IsG (uP p g).2 (uP p g).1 g.1.length (mP p)
  | .mk a rows s, g, hl => by
    have key : ∃ r : Pc × GS, r = (if a = Br then uC rows g ⟨[], [], false⟩ else if a = Mi then (⟨[], [], true⟩, g) else (⟨[g.1.length], [g.1.length], false⟩, (g.1 ++ [a], g.2 ++ [[]]))) ∧
        On g.1.length g r.2 ∧ IsG r.2 r.1 g.1.length (if a = Br then mC rows else if a = Mi then eps else one a) := by
      refine ⟨_, rfl, ?_⟩
      by_cases h1 : a = Br
      · rw [if_pos h1, if_pos h1]
        have := isC rows g ⟨[], [], false⟩ g.1.length none hl (Nat.le_refl _) (isNone _ _ _)
        rw [show alt none (mC rows) = mC rows from (alt_comm _ _).trans (alt_none _)] at this
        exact this
      · rw [if_neg h1, if_neg h1]
        by_cases h2 : a = Mi
        · rw [if_pos h2, if_pos h2]
          exact ⟨⟨hl, Nat.le_refl _, fun _ _ => rfl, fun _ _ => rfl⟩, isEps _ _ _⟩
        · rw [if_neg h2, if_neg h2]
          exact ⟨⟨by simp [hl], by simp, fun i hi => by simp [List.getElem?_append_left hi], fun i hi => by rw [hl] at hi; simp [List.getElem?_append_left hi]⟩, isOne g a hl⟩
    obtain ⟨r, hr, hon, his⟩ := key
    simp only [uP, mP]
    rw [← hr]
    clear hr
    generalize (if a = Br then mC rows else if a = Mi then eps else one a) = X at his ⊢
    have hlast : ∀ k ∈ r.1.last, k < r.2.2.length := fun k hk => by rw [← hon.len]; exact (his.l1 k hk).2
    have hon2 : On g.1.length g (r.2.1, behind r.2.2 r.1.last r.1.first) :=
      ⟨by simp [behind_len, hon.len], hon.le, hon.at_, fun i hi => by rw [behind_other _ _ _ _ (fun hm => by have := (his.l1 i hm).1; omega)]; exact hon.fol i hi⟩
    have lp := his.loop (G := Fol (behind r.2.2 r.1.last r.1.first)) fun i j => fol_behind _ _ _ hlast
    by_cases h1 : s = 63
    · subst h1
      simp only [sg, if_true]
      refine ⟨hon, ?_⟩
      refine ⟨fun w => ?_, his.p, his.f1, his.l1, his.shut⟩
      simp only [opt, his.w]
      constructor
      · rintro ((⟨h, k⟩ | h) | h)
        · exact .inl ⟨h, by simp⟩
        · exact .inr h
        · exact .inl ⟨h, by simp⟩
      · rintro (⟨h, k⟩ | h)
        · exact .inr h
        · exact .inl (.inr h)
    by_cases h2 : s = 42
    · subst h2
      simp only [sg, if_neg h1, if_true, true_or]
      refine ⟨hon2, lp.1.sub (fun _ => Iff.rfl) (fun _ => Iff.rfl) (by simp)⟩
    by_cases h3 : s = 43
    · subst h3
      simp only [sg, if_neg h1, if_neg h2, if_true, or_true]
      refine ⟨hon2, lp.2.sub (fun _ => Iff.rfl) (fun _ => Iff.rfl) (by simp)⟩
    · simp only [sg, if_neg h1, if_neg h2, if_neg h3]
      have e : ¬ (s = 42 ∨ s = 43) := by omega
      rw [if_neg e]
      exact ⟨hon, his.sub (fun _ => Iff.rfl) (fun _ => Iff.rfl) (by simp [h1, h2])⟩
theorem isR : ∀ (xs : List Part) (g : GS) (all : Pc) (a : Nat) (X : Lang), g.1.length = g.2.length → a ≤ g.1.length → IsG g all a X →
    On a g (uR xs g all).2 ∧ IsG (uR xs g all).2 (uR xs g all).1 a (seq X (mR xs))
  | [], g, all, a, X, hl, ha, h => by
    simp only [uR, mR, seq_eps]
    exact ⟨⟨hl, Nat.le_refl _, fun _ _ => rfl, fun _ _ => rfl⟩, h⟩
  | x :: xs, g, all, a, X, hl, ha, h => by
    simp only [uR, mR]
    obtain ⟨on1, is1⟩ := isP x g hl
    generalize uP x g = r at on1 is1 ⊢
    have h' := h.same (G := Fol r.2.2) (A' := At r.2.1) (fun i j h1 h2 => fol_eq (on1.fol i h2) j) (fun i n h1 h2 => at_eq (on1.at_ i h2) n)
    have hlast : ∀ k ∈ all.last, k < r.2.2.length := fun k hk => by have := (h.l1 k hk).2; have := on1.le; rw [← on1.len]; omega
    have s1 := h'.seq is1 ha on1.le (G := Fol (behind r.2.2 all.last r.1.first)) fun i j => fol_behind _ _ _ hlast
    have on2 : On a g (r.2.1, behind r.2.2 all.last r.1.first) :=
      ⟨by simp [behind_len, on1.len], on1.le, on1.at_, fun i hi => by rw [behind_other _ _ _ _ (fun hm => by have := (h.l1 i hm).1; omega)]; exact on1.fol i (by omega)⟩
    have := isR xs (r.2.1, behind r.2.2 all.last r.1.first)
      ⟨if all.empty then joined all.first r.1.first else all.first, if r.1.empty then joined all.last r.1.last else r.1.last, all.empty && r.1.empty⟩ a (seq X (mP x)) on2.len (Nat.le_trans ha on1.le) (by
        refine s1.sub (fun i => ?_) (fun i => ?_) (by simp)
        · cases all.empty
          · simp
          · simp [mem_joined]
        · cases r.1.empty
          · simp
          · simp [mem_joined, or_comm])
    rw [seq_assoc] at this
    exact ⟨on2.trans this.1, this.2⟩
theorem isC : ∀ (xs : List (List Part)) (g : GS) (all : Pc) (a : Nat) (X : Lang), g.1.length = g.2.length → a ≤ g.1.length → IsG g all a X →
    On a g (uC xs g all).2 ∧ IsG (uC xs g all).2 (uC xs g all).1 a (alt X (mC xs))
  | [], g, all, a, X, hl, ha, h => by
    simp only [uC, mC, alt_none]
    exact ⟨⟨hl, Nat.le_refl _, fun _ _ => rfl, fun _ _ => rfl⟩, h⟩
  | x :: xs, g, all, a, X, hl, ha, h => by
    simp only [uC, mC]
    obtain ⟨on1, is1⟩ := isR x g ⟨[], [], true⟩ g.1.length eps hl (Nat.le_refl _) (isEps _ _ _)
    rw [eps_seq] at is1
    generalize uR x g ⟨[], [], true⟩ = r at on1 is1 ⊢
    have h' := h.same (G := Fol r.2.2) (A' := At r.2.1) (fun i j h1 h2 => fol_eq (on1.fol i h2) j) (fun i n h1 h2 => at_eq (on1.at_ i h2) n)
    have s1 := h'.alt is1 ha on1.le
    have := isC xs r.2 ⟨joined all.first r.1.first, joined all.last r.1.last, all.empty || r.1.empty⟩ a (alt X (mR x)) on1.len (Nat.le_trans ha on1.le) (by
      refine s1.sub (fun i => ?_) (fun i => ?_) (by simp)
      · rw [mem_joined]
      · rw [mem_joined])
    refine ⟨(on1.less ha).trans this.1, ?_⟩
    have e : alt (alt X (mR x)) (mC xs) = alt X (alt (mR x) (mC xs)) := Lang.ext (fun w => by simp [alt, or_assoc]) (fun w => by simp [alt, or_assoc])
    rw [← e]; exact this.2
end
structure Pl where
  atoms : List ByteArray
  fol : List (List Nat)
  first : List Nat
  last : List Nat
  empty : Bool
def placed (rows : List (List Part)) : Pl :=
  let r := uC rows ([], []) ⟨[], [], false⟩
  ⟨r.2.1, r.2.2, r.1.first, r.1.last, r.1.empty⟩
def Pl.hit (m : Pl) (may : List Nat) (x : ByteArray) : List Nat := may.filter fun k => fits (m.atoms.getD k ByteArray.empty) x
def Pl.next (m : Pl) (hit : List Nat) : List Nat := hit.foldl (fun nx k => joined nx (m.fol.getD k [])) []
def Pl.goes (m : Pl) : Wd → Nat → List Nat → Bool → Nat × List Nat × Bool
  | [], i, may, is => (i, may, is)
  | x :: xs, i, may, is =>
    if (m.hit may x).isEmpty then (i, may, is) else m.goes xs (i + 1) (m.next (m.hit may x)) ((m.hit may x).any fun k => m.last.contains k)
def Pl.run (m : Pl) (names : Wd) : Nat × List Nat × Bool := m.goes names 0 m.first m.empty
def Pl.mat (m : Pl) (names : Wd) : Bool × Nat := ((m.run names).2.2 && (m.run names).1 == names.length, (m.run names).1)
/-- What Match must tell. -/
def Tells (X : Lang) (names : Wd) (b : Bool) (n : Nat) : Prop := ∃ v rest, names = v ++ rest ∧ n = v.length ∧ (v = [] ∨ X.p v) ∧
  (rest = [] ∨ ∃ x r, rest = x :: r ∧ ¬ X.p (v ++ [x])) ∧ (b = true ↔ rest = [] ∧ X.w v)
theorem Rch.pre {F : Nat → Nat → Prop} {A : Nat → ByteArray → Prop} {S : NS} {w u v : Wd} {j : Nat} (h : Rch F A S w j) (hu : u ≠ []) (e : w = u ++ v) : ∃ i, Rch F A S u i := by
  induction h generalizing v with
  | @one i x h1 h2 =>
    cases u with
    | nil => exact absurd rfl hu
    | cons y u =>
      simp only [List.cons_append, List.cons.injEq] at e
      obtain ⟨rfl, e⟩ := e
      obtain ⟨rfl, rfl⟩ := List.append_eq_nil_iff.1 e.symm
      exact ⟨_, .one h1 h2⟩
  | @snoc w i j x h1 h2 h3 ih =>
    rcases List.eq_nil_or_concat v with rfl | ⟨v', y, rfl⟩
    · simp only [List.append_nil] at e; subst e; exact ⟨_, .snoc h1 h2 h3⟩
    · rw [List.concat_eq_append, ← List.append_assoc] at e
      have := List.append_inj' e rfl
      exact ih this.1
def Lang.pre (X : Lang) : Prop := ∀ u v, u ≠ [] → X.p (u ++ v) → X.p u
theorem Is.pre {F : Nat → Nat → Prop} {A : Nat → ByteArray → Prop} {f l : NS} {e : Prop} {a b : Nat} {X : Lang} (h : Is F A f l e a b X) : X.pre := fun u v hu hp => by
  obtain ⟨j, hj⟩ := (h.p _).1 hp
  exact (h.p _).2 (hj.pre hu rfl)
theorem Tells.one {X : Lang} (hX : X.pre) {names : Wd} {b b' : Bool} {n n' : Nat} (h : Tells X names b n) (h' : Tells X names b' n') : b = b' ∧ n = n' := by
  have lt : ∀ {b b' : Bool} {n n' : Nat}, Tells X names b n → Tells X names b' n' → ¬ n < n' := by
    rintro b b' n n' ⟨v, r, rfl, rfl, _, h2, _⟩ ⟨v', r', e, rfl, k1, _, _⟩ hlt
    rcases List.append_eq_append_iff.1 e with ⟨c, rfl, e2⟩ | ⟨c, rfl, e2⟩
    · cases c with
      | nil => simp at hlt
      | cons y c =>
        rcases h2 with rfl | ⟨x, r1, rfl, h2⟩
        · simp at e2
        · simp only [List.cons_append, List.cons.injEq] at e2
          obtain ⟨rfl, _⟩ := e2
          rcases k1 with k1 | k1
          · simp at k1
          · refine h2 (hX (v ++ [x]) c (by simp) ?_)
            simpa using k1
    · simp at hlt; omega
  have e : n = n' := by
    have := lt h h'; have := lt h' h; omega
  subst e
  refine ⟨?_, rfl⟩
  obtain ⟨v, r, rfl, h1, _, _, h2⟩ := h
  obtain ⟨v', r', e, h1', _, _, h2'⟩ := h'
  obtain ⟨rfl, rfl⟩ := List.append_inj e (by omega)
  rw [Bool.eq_iff_iff, h2, h2']
theorem mem_next (m : Pl) (j : Nat) : ∀ (hit acc : List Nat), j ∈ hit.foldl (fun nx k => joined nx (m.fol.getD k [])) acc ↔ j ∈ acc ∨ ∃ k ∈ hit, Fol m.fol k j
  | [], acc => by simp
  | k :: hit, acc => by
    rw [List.foldl_cons, mem_next m j hit, mem_joined]
    simp [Fol, or_assoc]
theorem goes_spec {m : Pl} {a b : Nat} {X : Lang} (h : Is (Fol m.fol) (At m.atoms) (· ∈ m.first) (· ∈ m.last) (m.empty = true) a b X) (hb : b ≤ m.atoms.length) :
    ∀ (xs u : Wd) (may : List Nat) (is : Bool), (∀ k, k ∈ may ↔ (u = [] ∧ k ∈ m.first) ∨ ∃ i, Rch (Fol m.fol) (At m.atoms) (· ∈ m.first) u i ∧ Fol m.fol i k) →
      (is = true ↔ X.w u) → (u = [] ∨ X.p u) →
      ∃ v rest, xs = v ++ rest ∧ (m.goes xs u.length may is).1 = u.length + v.length ∧ ((m.goes xs u.length may is).2.2 = true ↔ X.w (u ++ v)) ∧ (u ++ v = [] ∨ X.p (u ++ v)) ∧
        (rest = [] ∨ ∃ x r, rest = x :: r ∧ ¬ X.p (u ++ v ++ [x]))
  | [], u, may, is, h1, h2, h3 => ⟨[], [], rfl, rfl, by simpa [Pl.goes] using h2, by simpa using h3, .inl rfl⟩
  | x :: xs, u, may, is, h1, h2, h3 => by
    have lst : ∀ w i, Rch (Fol m.fol) (At m.atoms) (· ∈ m.first) w i → a ≤ i ∧ i < b := fun w i hr => (hr.within h.f1 fun i j h1 h2 h3 => ⟨h.shut i j h1 h2 h3, h3⟩).1
    have hm : ∀ k, k ∈ may → a ≤ k ∧ k < b := by
      intro k hk
      rcases (h1 k).1 hk with ⟨_, hk⟩ | ⟨i, hi, hk⟩
      · exact h.f1 k hk
      · have := lst _ _ hi; exact h.shut i k this.1 this.2 hk
    have hhit : ∀ k, k ∈ m.hit may x ↔ Rch (Fol m.fol) (At m.atoms) (· ∈ m.first) (u ++ [x]) k := by
      intro k
      unfold Pl.hit
      rw [List.mem_filter]
      have hat : k ∈ may → (fits (m.atoms.getD k ByteArray.empty) x = true ↔ At m.atoms k x) := by
        intro hk
        have := (hm k hk).2
        unfold At
        rw [List.getD_eq_getElem?_getD, List.getElem?_eq_getElem (by omega)]
        simp
      constructor
      · rintro ⟨hk, hf⟩
        have hf := (hat hk).1 hf
        rcases (h1 k).1 hk with ⟨rfl, hk⟩ | ⟨i, hi, hk⟩
        · exact .one hk hf
        · exact .snoc hi hk hf
      · intro hr
        have : k ∈ may ∧ At m.atoms k x := by
          generalize he : u ++ [x] = w at hr
          cases hr with
          | one k1 k2 =>
            cases u with
            | nil => simp at he; subst he; exact ⟨(h1 k).2 (.inl ⟨rfl, k1⟩), k2⟩
            | cons y u => simp at he
          | snoc k1 k2 k3 =>
            have := List.append_inj' he rfl
            obtain ⟨rfl, e2⟩ := this
            simp at e2; subst e2
            exact ⟨(h1 k).2 (.inr ⟨_, k1, k2⟩), k3⟩
        exact ⟨this.1, (hat this.1).2 this.2⟩
    unfold Pl.goes
    by_cases he : (m.hit may x).isEmpty = true
    · rw [if_pos he]
      refine ⟨[], x :: xs, rfl, rfl, by simpa using h2, by simpa using h3, .inr ⟨x, xs, rfl, fun hp => ?_⟩⟩
      rw [List.append_nil] at hp
      obtain ⟨j, hj⟩ := (h.p _).1 hp
      have := (hhit j).2 hj
      rw [List.isEmpty_iff.1 he] at this
      cases this
    · rw [if_neg he]
      have hp : X.p (u ++ [x]) := by
        cases hc : m.hit may x with
        | nil => rw [hc] at he; exact absurd rfl he
        | cons k l => exact (h.p _).2 ⟨k, (hhit k).1 (by rw [hc]; simp)⟩
      obtain ⟨v, rest, e, k1, k2, k3, k4⟩ := goes_spec h hb xs (u ++ [x]) (m.next (m.hit may x)) ((m.hit may x).any fun k => m.last.contains k) (fun k => by
          unfold Pl.next
          rw [mem_next]
          simp only [List.not_mem_nil, false_or]
          constructor
          · rintro ⟨i, hi, hk⟩; exact .inr ⟨i, (hhit i).1 hi, hk⟩
          · rintro (⟨e, _⟩ | ⟨i, hi, hk⟩)
            · simp at e
            · exact ⟨i, (hhit i).2 hi, hk⟩) (by
          rw [h.w, List.any_eq_true]
          constructor
          · rintro ⟨k, hk, hl⟩; exact .inr ⟨k, by simpa using hl, (hhit k).1 hk⟩
          · rintro (⟨e, _⟩ | ⟨k, hl, hk⟩)
            · simp at e
            · exact ⟨k, (hhit k).2 hk, by simpa using hl⟩) (.inr hp)
      simp only [List.length_append, List.length_cons, List.length_nil, Nat.zero_add] at k1 k2
      refine ⟨x :: v, rest, by rw [e]; rfl, ?_, ?_, ?_, ?_⟩
      · rw [k1]; simp; omega
      · rw [k2]; simp
      · simpa using k3
      · simpa using k4
theorem placed_is (rows : List (List Part)) : Is (Fol (placed rows).fol) (At (placed rows).atoms) (· ∈ (placed rows).first) (· ∈ (placed rows).last) ((placed rows).empty = true) 0 (placed rows).atoms.length (mC rows) := by
  have := (isC rows ([], []) ⟨[], [], false⟩ 0 none rfl (Nat.le_refl _) (isNone _ _ _)).2
  rw [show alt none (mC rows) = mC rows from (alt_comm _ _).trans (alt_none _)] at this
  exact this
theorem mat_tells (rows : List (List Part)) (names : Wd) : Tells (mC rows) names ((placed rows).mat names).1 ((placed rows).mat names).2 := by
  have h := placed_is rows
  obtain ⟨v, rest, e, k1, k2, k3, k4⟩ := goes_spec h (Nat.le_refl _) names [] (placed rows).first (placed rows).empty (fun k => by
      constructor
      · exact fun hk => .inl ⟨rfl, hk⟩
      · rintro (⟨_, hk⟩ | ⟨i, hi, _⟩)
        · exact hk
        · exact absurd rfl hi.ne) (by
      rw [h.w]
      constructor
      · exact fun hk => .inl ⟨rfl, hk⟩
      · rintro (⟨_, hk⟩ | ⟨i, _, hi⟩)
        · exact hk
        · exact absurd rfl hi.ne) (.inl rfl)
  simp only [List.length_nil, Nat.zero_add, List.nil_append] at k1 k2 k3 k4
  refine ⟨v, rest, e, k1, k3, k4, ?_⟩
  unfold Pl.mat Pl.run
  rw [Bool.and_eq_true, k2, k1, beq_iff_eq]
  constructor
  · rintro ⟨h1, h2⟩
    subst e
    simp at h2
    exact ⟨h2, h1⟩
  · rintro ⟨rfl, h2⟩
    subst e
    exact ⟨h2, by simp⟩
/-- What matches the same tells the same. -/
theorem mat_eq {r r' : List (List Part)} (h : mC r = mC r') (names : Wd) : (placed r).mat names = (placed r').mat names := by
  have h1 := mat_tells r names
  have h2 := mat_tells r' names
  rw [← h] at h2
  have := Tells.one (placed_is r).pre h1 h2
  exact Prod.ext this.1 this.2
/-! ### The laws -/
def Po (A : List (List Part)) (s : Nat) : Part := .mk Br A s
def laws (A B : List (List Part)) : List (List (List Part) × List (List Part)) :=
  [([[Po A 0]], A), ([[Po A 63]], [[Po [[Po A 0], [.mk Mi [] 0]] 0]]), ([[Po A 43]], [[Po [[Po A 0, Po A 42]] 0]]), ([[Po [[Po A 42]] 42]], [[Po A 42]]),
   ([[Po [[Po [[Po A 0, Po B 0]] 0, Po A 0]] 0]], [[Po A 0, Po [[Po B 0, Po A 0]] 0]]), ([[Po [[Po A 0], [Po B 0]] 0]], [[Po [[Po B 0], [Po A 0]] 0]])]
theorem mP_po (A : List (List Part)) (s : Nat) : mP (Po A s) = sg s (mC A) := by simp [Po, mP]
theorem mC1 (p : Part) : mC [[p]] = mP p := by simp only [mC, mR, seq_eps, alt_none]
theorem mi_ne : Mi ≠ Br := by decide
theorem laws_ok {A B : List (List Part)} (hA : okC A) (hB : okC B) : ∀ l ∈ laws A B, (l.1 ≠ [] ∧ vC l.1) ∧ (l.2 ≠ [] ∧ vC l.2) ∧ mC l.1 = mC l.2 := by
  have vA : ∀ s, signOk s → vP (Po A s) := fun s hs => by simp only [Po, vP]; exact ⟨hs, .inl ⟨trivial, hA.1, hA.2.1⟩⟩
  have vB : ∀ s, signOk s → vP (Po B s) := fun s hs => by simp only [Po, vP]; exact ⟨hs, .inl ⟨trivial, hB.1, hB.2.1⟩⟩
  have vN : ∀ r s, signOk s → r ≠ [] → vC r → vP (Po r s) := fun r s hs h1 h2 => by simp only [Po, vP]; exact ⟨hs, .inl ⟨trivial, h1, h2⟩⟩
  have vM : vP (.mk Mi [] 0) := by simp only [vP]; exact ⟨.inl rfl, .inr ⟨.inr (.inr (.inr rfl)), trivial⟩⟩
  have s0 : signOk 0 := .inl rfl
  have s1 : signOk 63 := .inr (.inl rfl)
  have s2 : signOk 42 := .inr (.inr (.inl rfl))
  have s3 : signOk 43 := .inr (.inr (.inr rfl))
  have eM : mP (.mk Mi [] 0) = eps := by simp [mP, sg, mi_ne]
  have e63 : ∀ x, sg 63 x = opt x := fun x => by simp [sg]
  have e42 : ∀ x, sg 42 x = star x := fun x => by simp [sg]
  have e43 : ∀ x, sg 43 x = plus x := fun x => by simp [sg]
  intro l hl
  simp only [laws, List.mem_cons, List.not_mem_nil, or_false] at hl
  rcases hl with rfl | rfl | rfl | rfl | rfl | rfl
  · refine ⟨⟨by simp, by simp [vC, vR, vA 0 s0]⟩, ⟨hA.1, hA.2.1⟩, ?_⟩
    simp only [mC1, mP_po, sg0]
  · refine ⟨⟨by simp, by simp [vC, vR, vA 63 s1]⟩, ⟨by simp, ?_⟩, ?_⟩
    · simp only [vC, vR, and_true]; exact ⟨by simp, vN _ _ s0 (by simp) (by simp [vC, vR, vA 0 s0, vM])⟩
    · simp only [mC1, mP_po, sg0, mC, mR, seq_eps, alt_none, eM, e63, opt_eq]
  · refine ⟨⟨by simp, by simp [vC, vR, vA 43 s3]⟩, ⟨by simp, ?_⟩, ?_⟩
    · simp only [vC, vR, and_true]; exact ⟨by simp, vN _ _ s0 (by simp) (by simp [vC, vR, vA 0 s0, vA 42 s2])⟩
    · simp only [mC1, mP_po, sg0, mC, mR, seq_eps, alt_none, e43, e42, plus_eq]
  · refine ⟨⟨by simp, ?_⟩, ⟨by simp, by simp [vC, vR, vA 42 s2]⟩, ?_⟩
    · simp only [vC, vR, and_true]; exact ⟨by simp, vN _ _ s2 (by simp) (by simp [vC, vR, vA 42 s2])⟩
    · simp only [mC1, mP_po, sg0, mC, mR, seq_eps, alt_none, e42, star_star]
  · refine ⟨⟨by simp, ?_⟩, ⟨by simp, ?_⟩, ?_⟩
    · simp only [vC, vR, and_true]
      refine ⟨by simp, vN _ _ s0 (by simp) ?_⟩
      simp only [vC, vR, and_true]
      exact ⟨by simp, vN _ _ s0 (by simp) (by simp [vC, vR, vA 0 s0, vB 0 s0]), vA 0 s0⟩
    · simp only [vC, vR, and_true]
      exact ⟨by simp, vA 0 s0, vN _ _ s0 (by simp) (by simp [vC, vR, vA 0 s0, vB 0 s0])⟩
    · simp only [mP_po, sg0, mC, mR, seq_eps, alt_none, seq_assoc]
  · refine ⟨⟨by simp, ?_⟩, ⟨by simp, ?_⟩, ?_⟩
    · simp only [vC, vR, and_true]
      exact ⟨by simp, vN _ _ s0 (by simp) (by simp [vC, vR, vA 0 s0, vB 0 s0])⟩
    · simp only [vC, vR, and_true]
      exact ⟨by simp, vN _ _ s0 (by simp) (by simp [vC, vR, vA 0 s0, vB 0 s0])⟩
    · simp only [mP_po, sg0, mC, mR, seq_eps, alt_none]
      exact alt_comm _ _
/-- A model that was read is read again from its text. -/
theorem parse_again {s : List UInt8} {r : List (List Part)} (h : parse s = .ok r) : parse (tC r) = .ok r := by
  obtain ⟨⟨h1, h2, h3⟩, h4, h5⟩ := parse_ok h
  rcases parse_text h1 h2 with ⟨k, _⟩ | ⟨p, _, k | k⟩
  · rw [k, nC_id r h3]
  · omega
  · omega
end Go.Mdl
/- Models: parts in memory; worlds of which only some blocks are seen. -/
namespace Go.Proofs.Ytkmoeokfgkmlhaa
open Go.RowKit Go.Vc Go.Mdl
set_option linter.unusedVariables false
/-- What stays where only blocks of M turn. -/
structure Fm (M : Nat → Prop) (w w' : World) : Prop where
  os : w'.os = w.os
  tape : w'.tape = w.tape
  output : w'.output = w.output
  size : w.heap.size ≤ w'.heap.size
  block : ∀ b, b < w.heap.size → ¬ M b → w'.heap[b]? = w.heap[b]?
section
variable {M M' : Nat → Prop} {w w1 w2 : World}
theorem Fm.refl (M : Nat → Prop) (w : World) : Fm M w w := ⟨rfl, rfl, rfl, Nat.le_refl _, fun _ _ _ => rfl⟩
theorem Fm.trans (h : Fm M w w1) (k : Fm M w1 w2) : Fm M w w2 :=
  ⟨k.os.trans h.os, k.tape.trans h.tape, k.output.trans h.output, Nat.le_trans h.size k.size, fun b hb hm => (k.block b (Nat.lt_of_lt_of_le hb h.size) hm).trans (h.block b hb hm)⟩
theorem Fm.mono (h : Fm M w w1) (hm : ∀ b, b < w.heap.size → M b → M' b) : Fm M' w w1 := ⟨h.os, h.tape, h.output, h.size, fun b hb hn => h.block b hb fun k => hn (hm b hb k)⟩
theorem Fm.below (h : Below w.heap.size w w1) : Fm M w w1 := ⟨h.os, h.tape, h.output, h.size, fun b hb _ => h.block b hb⟩
theorem Fm.toBelow (h : Fm M w w1) {B : Nat} (hB : B ≤ w.heap.size) (hm : ∀ b, b < B → ¬ M b) : Below B w w1 := ⟨h.os, h.tape, h.output, h.size, fun b hb => h.block b (Nat.lt_of_lt_of_le hb hB) (hm b hb)⟩
theorem Fm.tr (h : Fm M w w1) (k : Below w1.heap.size w1 w2) : Fm M w w2 := h.trans (.below k)
theorem Fm.set (h : Fm M w w1) {b i : Nat} (hb : b < w.heap.size → M b) (v : Value) : Fm M w (w1.setCell ⟨b, i, none⟩ v) :=
  ⟨h.os, h.tape, h.output, by simp; exact h.size, fun k hk hm => by
    have : k ≠ b := fun e => hm (e ▸ hb (e ▸ hk))
    rw [Below.heap_setCell _ _ _ _ this]; exact h.block k hk hm⟩
theorem Fm.grown {r : Option Nat} (h : w.grownBy w1 r) (hr : ∀ b, r = some b → M b) : Fm M w w1 := ⟨h.os, h.tape, h.output, h.size, fun b hb hm => h.block b hb fun e => hm (hr b e.symm)⟩
theorem Fm.blk (h : Fm M w w1) {b : Nat} {c : Array Value} {t : TypeId} (hb : Blk w b c t) (hm : ¬ M b) : Blk w1 b c t := by
  have hl := hb.lt
  unfold Blk at *; rw [h.block b hl hm]; exact hb
/-- Then only new blocks turn. -/
theorem Fm.trans' {M M' : Nat → Prop} {w w1 w2 : World} (h : Fm M w w1) (k : Fm M' w1 w2) (hm : ∀ b, b < w.heap.size → ¬ M' b) : Fm M w w2 :=
  ⟨k.os.trans h.os, k.tape.trans h.tape, k.output.trans h.output, Nat.le_trans h.size k.size, fun b hb h1 => (k.block b (Nat.lt_of_lt_of_le hb h.size) (hm b hb)).trans (h.block b hb h1)⟩
/-- A store into a block that is known. -/
theorem st_blk {g i : Nat} {c : Array Value} {t : TypeId} {v : Value} {K : World → Prop} (hg : Blk w g c t) (hi : i < c.size) (h : ∀ w1, Blk w1 g (c.setIfInBounds i v) t → Fm (· = g) w w1 → K w1) : St w ⟨g, i, none⟩ v K := by
  refine ⟨⟨c[i], by rw [hg.cell]; simp [hi]⟩, hg.frozen i, h _ (hg.set i v) ((Fm.refl (fun x => x = g) _).set (fun _ => rfl) v)⟩
/-! ### Worlds of which only some blocks are seen -/
def Sub (w w1 : World) : Prop := ∀ (b : Nat) c t fr, w.heap[b]? = some (.cells c t fr) → w1.heap[b]? = some (.cells c t fr)
theorem Sub.refl (w : World) : Sub w w := fun _ _ _ _ h => h
theorem Sub.trans (h : Sub w w1) (k : Sub w1 w2) : Sub w w2 := fun b c t fr e => k b c t fr (h b c t fr e)
theorem Sub.cell (h : Sub w w1) {a : Addr} {v : Value} (hc : w.cell? a = some v) : w1.cell? a = some v := by
  unfold World.cell? at hc ⊢
  split at hc
  · rename_i c t fr he
    rw [h _ _ _ _ he]; exact hc
  · cases hc
theorem Sub.rd {α : Type} {L : Lay α} {A : Option Addr} {c : Nat} {xs : List α} (hs : Sub w w1) (h : Rd L w A c xs) : Rd L w1 A c xs := by
  refine ⟨h.1, h.2.1, h.2.2.1, fun h0 => ?_⟩
  obtain ⟨b, o, hA, hc⟩ := h.2.2.2 h0
  exact ⟨b, o, hA, fun j u hj => hs.cell (hc j u hj)⟩
def wOnly (ok : Nat → Bool) (w : World) : World := { w with heap := w.heap.mapIdx fun i o => if ok i then o else .map #[] 0 }
theorem wOnly_at (ok : Nat → Bool) (w : World) (b : Nat) : (wOnly ok w).heap[b]? = (w.heap[b]?).map fun o => if ok b then o else .map #[] 0 := by
  simp [wOnly, Array.getElem?_mapIdx]
theorem only_cells {ok : Nat → Bool} {b : Nat} {c : Array Value} {t : TypeId} {fr : Nat × Nat} (h : (wOnly ok w).heap[b]? = some (.cells c t fr)) : ok b = true ∧ w.heap[b]? = some (.cells c t fr) := by
  rw [wOnly_at] at h
  cases hb : w.heap[b]? with
  | none => rw [hb] at h; cases h
  | some o =>
    rw [hb] at h
    simp only [Option.map_some] at h
    cases hk : ok b with
    | true => rw [hk] at h; exact ⟨rfl, h⟩
    | false => rw [hk] at h; cases h
theorem sub_only {ok ok' : Nat → Bool} (hk : ∀ b, b < w.heap.size → ok b = true → ok' b = true) (hb : ∀ b, b < w.heap.size → ok b = true → w1.heap[b]? = w.heap[b]?) : Sub (wOnly ok w) (wOnly ok' w1) := by
  intro b c t fr h
  obtain ⟨h1, h2⟩ := only_cells h
  have hlt := (Array.getElem?_eq_some_iff.1 h2).1
  rw [wOnly_at, hb b hlt h1, h2, Option.map_some, hk b hlt h1]; rfl
theorem sub_of_only {ok : Nat → Bool} : Sub (wOnly ok w) w := fun b c t fr h => (only_cells h).2
theorem cells_only {ok : Nat → Bool} {b : Nat} {c : Array Value} {t : TypeId} {fr : Nat × Nat} (h : ok b = true) (hb : w.heap[b]? = some (.cells c t fr)) : (wOnly ok w).heap[b]? = some (.cells c t fr) := by
  rw [wOnly_at, hb, Option.map_some, h]; rfl
/-- Only what was made from number k on. -/
def above (k : Nat) (w : World) : World := wOnly (fun b => Nat.ble k b) w
/-- All but block g. -/
def but (g : Nat) (w : World) : World := wOnly (fun b => !(Nat.beq b g)) w
theorem above_fm {k k' : Nat} (h : Fm M w w1) (hk : k' ≤ k) (hm : ∀ b, k ≤ b → ¬ M b) : Sub (above k w) (above k' w1) :=
  sub_only (fun b _ h1 => Nat.ble_eq_true_of_le (Nat.le_trans hk (Nat.le_of_ble_eq_true h1))) fun b hb h1 => h.block b hb (hm b (Nat.le_of_ble_eq_true h1))
theorem above_but {k g : Nat} (h : Fm M w w1) (hg : g < k) (hm : ∀ b, k ≤ b → ¬ M b) : Sub (above k w) (but g w1) :=
  sub_only (fun b _ h1 => by
    have h2 := Nat.le_of_ble_eq_true h1
    cases hh : Nat.beq b g with
    | false => rfl
    | true => have := Nat.eq_of_beq_eq_true hh; omega) fun b hb h1 => h.block b hb (hm b (Nat.le_of_ble_eq_true h1))
end
/-! ### Parts -/
abbrev Sv := Option Addr × Nat × Nat
def LSv : Lay Sv := ⟨1, fun v => [.slice v.1 v.2.1 v.2.2], fun _ => rfl, fun _ => by simp [Value.oneCell'], by decide⟩
/-- A part as it lies in memory. -/
structure E where
  a : ByteArray
  sl : Sv
  s : Nat
def E.cells (e : E) : List Value := [.string e.a, .slice e.sl.1 e.sl.2.1 e.sl.2.2, .int .u8 e.s]
def LE : Lay E := ⟨3, E.cells, fun _ => rfl, fun _ => by simp [E.cells, Value.oneCell'], by decide⟩
mutual
def RdP (w : World) : Part → E → Prop
  | .mk a rows s, e => e.a = a ∧ e.s = s ∧ ∃ vs, e.sl.2.1 = vs.length ∧ Rd LSv w e.sl.1 e.sl.2.2 vs ∧ RdL w rows vs
def RdR (w : World) : List Part → List E → Prop
  | [], es => es = []
  | p :: ps, es => ∃ e es', es = e :: es' ∧ RdP w p e ∧ RdR w ps es'
def RdL (w : World) : List (List Part) → List Sv → Prop
  | [], vs => vs = []
  | r :: rs, vs => ∃ v vs', vs = v :: vs' ∧ (∃ es, v.2.1 = es.length ∧ Rd LE w v.1 v.2.2 es ∧ RdR w r es) ∧ RdL w rs vs'
end
/-- Choices, in a slice. -/
def RdC (w : World) (rows : List (List Part)) (v : Sv) : Prop := ∃ vs, v.2.1 = vs.length ∧ Rd LSv w v.1 v.2.2 vs ∧ RdL w rows vs
/-- A row. -/
def RdW (w : World) (r : List Part) (v : Sv) : Prop := ∃ es, v.2.1 = es.length ∧ Rd LE w v.1 v.2.2 es ∧ RdR w r es
mutual
theorem RdP.sub {w w1 : World} (h : Sub w w1) : ∀ (p : Part) (e : E), RdP w p e → RdP w1 p e
  | .mk a rows s, e, hp => by
    simp only [RdP] at hp ⊢
    obtain ⟨h1, h2, vs, h3, h4, h5⟩ := hp
    exact ⟨h1, h2, vs, h3, h.rd h4, RdL.sub h rows vs h5⟩
theorem RdR.sub {w w1 : World} (h : Sub w w1) : ∀ (p : List Part) (e : List E), RdR w p e → RdR w1 p e
  | [], es, hp => by simp only [RdR] at hp ⊢; exact hp
  | p :: ps, es, hp => by
    simp only [RdR] at hp ⊢
    obtain ⟨e, es', h1, h2, h3⟩ := hp
    exact ⟨e, es', h1, RdP.sub h p e h2, RdR.sub h ps es' h3⟩
theorem RdL.sub {w w1 : World} (h : Sub w w1) : ∀ (p : List (List Part)) (e : List Sv), RdL w p e → RdL w1 p e
  | [], es, hp => by simp only [RdL] at hp ⊢; exact hp
  | p :: ps, es, hp => by
    simp only [RdL] at hp ⊢
    obtain ⟨e, es', h1, ⟨es, h2, h3, h4⟩, h5⟩ := hp
    exact ⟨e, es', h1, ⟨es, h2, h.rd h3, RdR.sub h p es h4⟩, RdL.sub h ps es' h5⟩
end
theorem RdC.sub {w w1 : World} (h : Sub w w1) {rows : List (List Part)} {v : Sv} (hp : RdC w rows v) : RdC w1 rows v := by
  obtain ⟨vs, h1, h2, h3⟩ := hp; exact ⟨vs, h1, h.rd h2, RdL.sub h rows vs h3⟩
theorem RdW.sub {w w1 : World} (h : Sub w w1) {rows : List Part} {v : Sv} (hp : RdW w rows v) : RdW w1 rows v := by
  obtain ⟨vs, h1, h2, h3⟩ := hp; exact ⟨vs, h1, h.rd h2, RdR.sub h rows vs h3⟩
theorem RdR.len {w : World} : ∀ {p : List Part} {e : List E}, RdR w p e → e.length = p.length
  | [], es, hp => by simp only [RdR] at hp; subst hp; rfl
  | p :: ps, es, hp => by
    simp only [RdR] at hp
    obtain ⟨e, es', rfl, _, h3⟩ := hp
    simp [h3.len]
theorem RdL.len {w : World} : ∀ {p : List (List Part)} {e : List Sv}, RdL w p e → e.length = p.length
  | [], es, hp => by simp only [RdL] at hp; subst hp; rfl
  | p :: ps, es, hp => by
    simp only [RdL] at hp
    obtain ⟨e, es', rfl, _, h3⟩ := hp
    simp [h3.len]
theorem RdR.snoc {w : World} {q : Part} {f : E} (hq : RdP w q f) : ∀ {p : List Part} {e : List E}, RdR w p e → RdR w (p ++ [q]) (e ++ [f])
  | [], es, hp => by simp only [RdR] at hp; subst hp; simp only [List.nil_append, RdR]; exact ⟨f, [], rfl, hq, rfl⟩
  | p :: ps, es, hp => by
    simp only [RdR] at hp
    obtain ⟨e, es', rfl, h2, h3⟩ := hp
    simp only [List.cons_append, RdR]
    exact ⟨e, _, rfl, h2, RdR.snoc hq h3⟩
theorem RdL.snoc {w : World} {q : List Part} {f : Sv} (hq : RdW w q f) : ∀ {p : List (List Part)} {e : List Sv}, RdL w p e → RdL w (p ++ [q]) (e ++ [f])
  | [], es, hp => by simp only [RdL] at hp; subst hp; simp only [List.nil_append, RdL]; exact ⟨f, [], rfl, hq, rfl⟩
  | p :: ps, es, hp => by
    simp only [RdL] at hp
    obtain ⟨e, es', rfl, h2, h3⟩ := hp
    simp only [List.cons_append, RdL]
    exact ⟨e, _, rfl, h2, RdL.snoc hq h3⟩
theorem RdR.get {w : World} : ∀ {p : List Part} {e : List E}, RdR w p e → ∀ (i : Nat) (h : i < p.length) (h' : i < e.length), RdP w p[i] e[i]
  | [], es, _, i, h, _ => by simp at h
  | p :: ps, es, hp, i, h, h' => by
    simp only [RdR] at hp
    obtain ⟨e, es', rfl, h2, h3⟩ := hp
    cases i with
    | zero => exact h2
    | succ i => exact RdR.get h3 i (by simpa using h) (by simpa using h')
theorem RdL.get {w : World} : ∀ {p : List (List Part)} {e : List Sv}, RdL w p e → ∀ (i : Nat) (h : i < p.length) (h' : i < e.length), RdW w p[i] e[i]
  | [], es, _, i, h, _ => by simp at h
  | p :: ps, es, hp, i, h, h' => by
    simp only [RdL] at hp
    obtain ⟨e, es', rfl, h2, h3⟩ := hp
    cases i with
    | zero => exact h2
    | succ i => exact RdL.get h3 i (by simpa using h) (by simpa using h')
end Go.Proofs.Ytkmoeokfgkmlhaa
/- Models: a list under construction, whose elements read further blocks. -/
namespace Go.Proofs.Ytkmoeokfgkmlhaa
open Go.RowKit Go.Vc Go.Mdl
set_option linter.unusedVariables false
set_option linter.unusedSimpArgs false
/-- Elements of a kind: how they lie, what they read. -/
structure Knd (α β : Type) where
  L : Lay β
  RX : World → List α → List β → Prop
  RY : World → α → β → Prop
  sub : ∀ {w w1 : World}, Sub w w1 → ∀ (p : List α) (e : List β), RX w p e → RX w1 p e
  subY : ∀ {w w1 : World}, Sub w w1 → ∀ (p : α) (e : β), RY w p e → RY w1 p e
  nil : ∀ w, RX w [] []
  snoc : ∀ {w : World} {p : List α} {e : List β} {q : α} {f : β}, RX w p e → RY w q f → RX w (p ++ [q]) (e ++ [f])
  len : ∀ {w : World} {p : List α} {e : List β}, RX w p e → e.length = p.length
def hidB (k : Nat) (r : Option Nat) (b : Nat) : Bool := Nat.ble k b && decide (r ≠ some b)
theorem hidB_iff {k : Nat} {r : Option Nat} {b : Nat} : hidB k r b = true ↔ k ≤ b ∧ r ≠ some b := by
  unfold hidB
  rw [Bool.and_eq_true, decide_eq_true_eq]
  exact ⟨fun h => ⟨Nat.le_of_ble_eq_true h.1, h.2⟩, fun h => ⟨Nat.ble_eq_true_of_le h.1, h.2⟩⟩
/-- What lies from k on, but for a row. -/
def hid (k : Nat) (r : Option Nat) (w : World) : World := wOnly (hidB k r) w
section
variable {α β : Type} {N : Knd α β} {w w1 w2 : World} {k : Nat} {e : TypeId} {v : Value} {ps : List α} {M : Nat → Prop}
def Bld (N : Knd α β) (k : Nat) (e : TypeId) (w : World) (v : Value) (ps : List α) : Prop := ∃ es, Own N.L w k e v es ∧ N.RX (hid k (rowOf v) w) ps es
theorem own_above {γ : Type} {L : Lay γ} {xs : List γ} {j : Nat} (h : Own L w k e v xs) (hj : j ≤ k) : Own L (above j w) k e v xs := by
  rcases h with h | h | ⟨g, c, cur, rfl, hb, hh, hn, hm, hs, ht⟩
  · exact .inl h
  · exact .inr (.inl h)
  · exact .inr (.inr ⟨g, c, cur, rfl, hb, cells_only (Nat.ble_eq_true_of_le (Nat.le_trans hj hb)) hh, hn, hm, hs, ht⟩)
theorem own_fm {γ : Type} {L : Lay γ} {xs : List γ} (h : Own L w k e v xs) (hf : Fm M w w1) (hm : ∀ b, rowOf v = some b → ¬ M b) : Own L w1 k e v xs := by
  rcases h with h | h | ⟨g, c, cur, rfl, hb, hh, hn, hmx, hs, ht⟩
  · exact .inl h
  · exact .inr (.inl h)
  · refine .inr (.inr ⟨g, c, cur, rfl, hb, ?_, hn, hmx, hs, ht⟩)
    rw [hf.block g (Array.getElem?_eq_some_iff.1 hh).1 (hm g rfl)]; exact hh
theorem Bld.keep (h : Bld N k e w v ps) (hf : Fm M w w1) (hm : ∀ b, k ≤ b → ¬ M b) : Bld N k e w1 v ps := by
  obtain ⟨es, h1, h2⟩ := h
  refine ⟨es, own_fm h1 hf fun b hb => hm b (h1.lt b hb).1, N.sub (sub_only (fun b _ h => h) fun b hb h => hf.block b hb (hm b (hidB_iff.1 h).1)) _ _ h2⟩
theorem Bld.len (h : Bld N k e w v ps) : ∃ A c, v = .slice A ps.length c := by
  obtain ⟨es, h1, h2⟩ := h
  obtain ⟨A, c, rfl, _⟩ := h1.form
  exact ⟨A, c, by rw [N.len h2]⟩
theorem Bld.lt (h : Bld N k e w v ps) : ∀ b, rowOf v = some b → k ≤ b ∧ b < w.heap.size := by
  obtain ⟨es, h1, h2⟩ := h
  exact h1.lt
theorem Bld.nil (N : Knd α β) (k : Nat) (e : TypeId) (w : World) : Bld N k e w (.slice none 0 0) [] := ⟨[], Own.nil _ _ _ _, N.nil _⟩
/-- What it reads, all in all. -/
theorem Bld.read (h : Bld N k e w v ps) {j : Nat} (hj : j ≤ k) : ∃ A c es, v = .slice A es.length c ∧ Rd N.L (above j w) A c es ∧ N.RX (above j w) ps es := by
  obtain ⟨es, h1, h2⟩ := h
  obtain ⟨A, c, rfl, h3⟩ := (own_above h1 hj).form
  exact ⟨A, c, es, rfl, h3, N.sub (sub_only (fun b _ h => Nat.ble_eq_true_of_le (Nat.le_trans hj (hidB_iff.1 h).1)) fun _ _ _ => rfl) _ _ h2⟩
/-- A literal of one. -/
theorem Bld.one {g : Nat} {cur : Array Value} {x : α} {y : β} (hg : Blk w2 g cur e) (hc : cur.toList = N.L.cells y) (hb : Below w1.heap.size w1 w2) (hge : w1.heap.size ≤ g) (hk : k ≤ w1.heap.size) (hy : N.RY (above k w1) x y) :
    Bld N k e w2 (.slice (some ⟨g, 0, none⟩) 1 1) [x] := by
  refine ⟨[y], Own.lit' (L := N.L) (xs := [y]) hg (Nat.le_trans hk hge) (by rw [hc, N.L.all_one]) (by simp [maxLen]), ?_⟩
  refine N.snoc (p := []) (e := []) (N.nil _) (N.subY (sub_only (fun b hb2 h => ?_) fun b hb2 h => hb.block b hb2) _ _ hy)
  rw [hidB_iff]
  have h3 := Nat.le_of_ble_eq_true h
  exact ⟨h3, by show (some g : Option Nat) ≠ some b; intro e; cases e; omega⟩
/-- One more, that was made since. -/
theorem Bld.app {P : Program} {y : β} {x : α} {cs : Array Value} {t ty : TypeId} (z : Value) (bytes : Nat) (h : Bld N k e w v ps) (hf : Fm M w w1) (hm : ∀ b, k ≤ b → ¬ M b) (hk : k ≤ w.heap.size) (hy : N.RY (above w.heap.size w1) x y) (hcs : cs.toList = N.L.cells y)
    (ht : P.underlying t = some (.slice e)) (hinfo : (P.info? e).map (fun i => (i.zero, i.size, i.bytes)) = some (some z, N.L.n, bytes)) (hz : z.cells.size = N.L.n)
    (hl : (ps.length + 1) * bytes ≤ 140737488355328) (hml : ps.length + 1 ≤ maxLen) {K : Value → World → Prop}
    (hK : ∀ A' c' w2, Bld N k e w2 (.slice A' (ps.length + 1) c') (ps ++ [x]) → Fm (fun b => k ≤ b) w1 w2 → K (.slice A' (ps.length + 1) c') w2) :
    Al w1 cs e fun g w2 => Raw P (Builtin.append_ #[t, t] ty #[v, .slice (some g) 1 1]) w2 K := by
  have hlt := h.lt
  obtain ⟨es, h1, h2⟩ := h.keep hf hm
  have hlen := N.len h2
  rw [← hlen] at hl hml hK
  refine ap1 (L := N.L) (x := y) z bytes hcs ht hinfo hz h1 (Nat.le_trans hk hf.size) hl hml fun A' c' w2 ho hg => hK A' c' w2 ⟨es ++ [y], by simpa using ho, ?_⟩ ⟨hg.below.os, hg.below.tape, hg.below.output, hg.lt, fun b hb hm => hg.below.block b (by omega)⟩
  have hrow : ∀ b, b < w1.heap.size → rowOf v ≠ some b → rowOf (.slice A' (es.length + 1) c') ≠ some b := by
    intro b hb hne
    rcases hg.row with h3 | h3 | ⟨g, h3, h4⟩
    · rw [h3]; exact hne
    · rw [h3]; simp
    · rw [h3]; intro e; cases e; omega
  refine N.snoc (N.sub (sub_only (fun b hb h3 => ?_) fun b hb h3 => ?_) _ _ h2) (N.subY (sub_only (fun b hb h3 => ?_) fun b hb h3 => ?_) _ _ hy)
  · rw [hidB_iff] at h3 ⊢
    exact ⟨h3.1, hrow b hb h3.2⟩
  · rw [hidB_iff] at h3
    exact hg.grown.block b hb (Ne.symm h3.2)
  · have h4 := Nat.le_of_ble_eq_true h3
    rw [hidB_iff]
    exact ⟨Nat.le_trans hk h4, hrow b hb fun e => by have := (hlt b e).2; omega⟩
  · have h4 := Nat.le_of_ble_eq_true h3
    exact hg.grown.block b hb fun e => by have := (hlt b e.symm).2; omega
end
def KP : Knd Part E := ⟨LE, RdR, RdP, fun h p e => RdR.sub h p e, fun h p e => RdP.sub h p e, fun _ => by simp only [RdR], fun h k => RdR.snoc k h, RdR.len⟩
def KW : Knd (List Part) Sv := ⟨LSv, RdL, RdW, fun h p e => RdL.sub h p e, fun h p e => RdW.sub h, fun _ => by simp only [RdL], fun h k => RdL.snoc k h, RdL.len⟩
end Go.Proofs.Ytkmoeokfgkmlhaa
set_option linter.unusedVariables false
set_option maxRecDepth 100000
namespace Go.Proofs.Ytkmoeokfgkmlhaa
open Go.Vc
-- (*model.reader).choices
def F17_l2 (r : Option Addr) (L2 : Option Addr → Nat → Nat → World → Prop) (rows : Option Addr) (rowsN : Nat) (rowsC : Nat) (w_2 : World) (R : Ending → World → Prop) : Prop :=
 Calls Try.prog 34 #[(.pointer r)] w_2 (post R fun v2 w1_3 =>
 ∃ (x8 : Int), v2 = (.int .u8 x8) ∧
 Br (x8 == (124 : Int))
 (Calls Try.prog 35 #[(.pointer r)] w1_3 (post R fun v3 w1_4 =>
 v3 = (.tuple #[]) ∧
 NonNil r fun p13 =>
 LdI .i64 (w1_4.cell? (p13.add 1)) fun x15 =>
 InR .i64 (x15 + (1 : Int)) ∧ NonNil r fun p17 =>
 St w1_4 (p17.add 1) (.int .i64 (x15 + (1 : Int))) fun w1_5 =>
 Calls Try.prog 33 #[(.pointer r)] w1_5 (post R fun v4 w1_6 =>
 ∃ (x21 : Option Addr) (x21N : Nat) (x21C : Nat), v4 = (.slice x21 x21N x21C) ∧
 Al w1_6 #[(.slice x21 x21N x21C)] 77 fun g22 w1_7 =>
 Raw Try.prog (Builtin.append_ #[47, 47] 47 #[(.slice rows rowsN rowsC), (.slice (some g22) 1 1)]) w1_7 fun v5 w1_8 =>
 ∃ (x23 : Option Addr) (x23N : Nat) (x23C : Nat), v5 = (.slice x23 x23N x23C) ∧
 L2 x23 x23N x23C w1_8)))
 (R (.returned (.slice rows rowsN rowsC)) w1_3))

def F17 (r : Option Addr) (w_ : World) (R : Ending → World → Prop) : Prop :=
 Calls Try.prog 33 #[(.pointer r)] w_ (post R fun v w1 =>
 ∃ (x5 : Option Addr) (x5N : Nat) (x5C : Nat), v = (.slice x5 x5N x5C) ∧
 Al w1 #[(.slice x5 x5N x5C)] 77 fun g6 w1_2 =>
 ∃ (I : Option Addr → Nat → Nat → World → Prop) (m : Option Addr → Nat → Nat → World → Nat), I (some g6) 1 1 w1_2 ∧
 ∀ (rows : Option Addr) (rowsN : Nat) (rowsC : Nat) (w1_3 : World), I rows rowsN rowsC w1_3 → F17_l2 r (fun rows' rowsN' rowsC' w2 => I rows' rowsN' rowsC' w2 ∧ m rows' rowsN' rowsC' w2 < m rows rowsN rowsC w1_3) rows rowsN rowsC w1_3 R)

def pl17 : Plan := ⟨25, ⟨[]⟩, [], [(2, ⟨[(3, (.s .slice))], [(3, 24)]⟩)]⟩

theorem eq17 (r : Option Addr) (w : World) (R : Ending → World → Prop) : F17 r w R = vc Try.prog Try.f17 pl17 R 100000 [.code (bodyOf Try.f17)] (argEnv 0 #[(.pointer r)].toList) w := by kernel_rfl

theorem ok17 (r : Option Addr) {w : World} {R : Ending → World → Prop} (h : F17 r w R) : Calls Try.prog 17 #[(.pointer r)] w R :=
  vc_calls (pl := pl17) Try.func17 (by kernel_rfl) (by kernel_rfl) (by kernel_rfl) (Eq.mp (eq17 r w R) h)

-- (*model.reader).ends
def F18 (r : Option Addr) (w_ : World) (R : Ending → World → Prop) : Prop :=
 Calls Try.prog 34 #[(.pointer r)] w_ (post R fun v w1 =>
 ∃ (x4 : Int), v = (.int .u8 x4) ∧
 Dr w1 fun w1_2 =>
 NonNil r fun p6 =>
 LdI .i64 (w1_2.cell? (p6.add 1)) fun x8 =>
 NonNil r fun p10 =>
 LdStr (w1_2.cell? p10) fun x12 =>
 R (.returned (.bool (x8 == ((x12.size : Nat) : Int)))) w1_2)

def pl18 : Plan := ⟨15, ⟨[]⟩, [], []⟩

theorem eq18 (r : Option Addr) (w : World) (R : Ending → World → Prop) : F18 r w R = vc Try.prog Try.f18 pl18 R 100000 [.code (bodyOf Try.f18)] (argEnv 0 #[(.pointer r)].toList) w := by kernel_rfl

theorem ok18 (r : Option Addr) {w : World} {R : Ending → World → Prop} (h : F18 r w R) : Calls Try.prog 18 #[(.pointer r)] w R :=
  vc_calls (pl := pl18) Try.func18 (by kernel_rfl) (by kernel_rfl) (by kernel_rfl) (Eq.mp (eq18 r w R) h)

-- (*model.reader).fail
def F19 (r : Option Addr) (at_ : Int) (e : Int) (w_ : World) (R : Ending → World → Prop) : Prop :=
 R (.panicked [{ v := (.iface 43 (.agg #[(.int .i64 at_), (.int .i64 e)])), recovered := false }]) w_

def pl19 : Plan := ⟨10, ⟨[]⟩, [], []⟩

theorem eq19 (r : Option Addr) (at_ : Int) (e : Int) (w : World) (R : Ending → World → Prop) : F19 r at_ e w R = vc Try.prog Try.f19 pl19 R 100000 [.code (bodyOf Try.f19)] (argEnv 0 #[(.pointer r), (.int .i64 at_), (.int .i64 e)].toList) w := by kernel_rfl

theorem ok19 (r : Option Addr) (at_ : Int) (e : Int) {w : World} {R : Ending → World → Prop} (h : F19 r at_ e w R) : Calls Try.prog 19 #[(.pointer r), (.int .i64 at_), (.int .i64 e)] w R :=
  vc_calls (pl := pl19) Try.func19 (by kernel_rfl) (by kernel_rfl) (by kernel_rfl) (Eq.mp (eq19 r at_ e w R) h)

-- (*model.reader).row
def F33_l2 (r : Option Addr) (L2 : Option Addr → Nat → Nat → World → Prop) (row : Option Addr) (rowN : Nat) (rowC : Nat) (w_2 : World) (R : Ending → World → Prop) : Prop :=
 Calls Try.prog 34 #[(.pointer r)] w_2 (post R fun v2 w1_3 =>
 ∃ (x8 : Int), v2 = (.int .u8 x8) ∧
 Br (x8 == (44 : Int))
 (Calls Try.prog 35 #[(.pointer r)] w1_3 (post R fun v3 w1_4 =>
 v3 = (.tuple #[]) ∧
 NonNil r fun p13 =>
 LdI .i64 (w1_4.cell? (p13.add 1)) fun x15 =>
 InR .i64 (x15 + (1 : Int)) ∧ NonNil r fun p17 =>
 St w1_4 (p17.add 1) (.int .i64 (x15 + (1 : Int))) fun w1_5 =>
 Calls Try.prog 50 #[(.pointer r)] w1_5 (post R fun v4 w1_6 =>
 ∃ (x21_0 : ByteArray) (x21_1 : Option Addr) (x21_1N : Nat) (x21_1C : Nat) (x21_2 : Int), v4 = (.agg #[(.string x21_0), (.slice x21_1 x21_1N x21_1C), (.int .u8 x21_2)]) ∧
 Al w1_6 #[(.string x21_0), (.slice x21_1 x21_1N x21_1C), (.int .u8 x21_2)] 96 fun g22 w1_7 =>
 Raw Try.prog (Builtin.append_ #[77, 77] 77 #[(.slice row rowN rowC), (.slice (some g22) 1 1)]) w1_7 fun v5 w1_8 =>
 ∃ (x23 : Option Addr) (x23N : Nat) (x23C : Nat), v5 = (.slice x23 x23N x23C) ∧
 L2 x23 x23N x23C w1_8)))
 (R (.returned (.slice row rowN rowC)) w1_3))

def F33 (r : Option Addr) (w_ : World) (R : Ending → World → Prop) : Prop :=
 Calls Try.prog 50 #[(.pointer r)] w_ (post R fun v w1 =>
 ∃ (x5_0 : ByteArray) (x5_1 : Option Addr) (x5_1N : Nat) (x5_1C : Nat) (x5_2 : Int), v = (.agg #[(.string x5_0), (.slice x5_1 x5_1N x5_1C), (.int .u8 x5_2)]) ∧
 Al w1 #[(.string x5_0), (.slice x5_1 x5_1N x5_1C), (.int .u8 x5_2)] 96 fun g6 w1_2 =>
 ∃ (I : Option Addr → Nat → Nat → World → Prop) (m : Option Addr → Nat → Nat → World → Nat), I (some g6) 1 1 w1_2 ∧
 ∀ (row : Option Addr) (rowN : Nat) (rowC : Nat) (w1_3 : World), I row rowN rowC w1_3 → F33_l2 r (fun row' rowN' rowC' w2 => I row' rowN' rowC' w2 ∧ m row' rowN' rowC' w2 < m row rowN rowC w1_3) row rowN rowC w1_3 R)

def pl33 : Plan := ⟨25, ⟨[]⟩, [], [(2, ⟨[(3, (.s .slice))], [(3, 24)]⟩)]⟩

theorem eq33 (r : Option Addr) (w : World) (R : Ending → World → Prop) : F33 r w R = vc Try.prog Try.f33 pl33 R 100000 [.code (bodyOf Try.f33)] (argEnv 0 #[(.pointer r)].toList) w := by kernel_rfl

theorem ok33 (r : Option Addr) {w : World} {R : Ending → World → Prop} (h : F33 r w R) : Calls Try.prog 33 #[(.pointer r)] w R :=
  vc_calls (pl := pl33) Try.func33 (by kernel_rfl) (by kernel_rfl) (by kernel_rfl) (Eq.mp (eq33 r w R) h)

-- (*model.reader).peek
def F34_j3 (r : Option Addr) (w_2 : World) (R : Ending → World → Prop) : Prop :=
 Dr w_2 fun w1 =>
 NonNil r fun p33 =>
 LdI .i64 (w1.cell? (p33.add 1)) fun x35 =>
 NonNil r fun p37 =>
 LdStr (w1.cell? p37) fun x39 =>
 Br (x35 == ((x39.size : Nat) : Int))
 (R (.returned (.int .u8 0)) w1)
 (Dr w1 fun w1_2 =>
 NonNil r fun p43 =>
 LdStr (w1_2.cell? p43) fun x45 =>
 NonNil r fun p47 =>
 LdI .i64 (w1_2.cell? (p47.add 1)) fun x49 =>
 IdxS x45 x49 fun c50 =>
 R (.returned (.int .u8 c50)) w1_2)

def F34_j2 (r : Option Addr) (L1 : World → Prop) (w_3 : World) (R : Ending → World → Prop) : Prop :=
 NonNil r fun p26 =>
 LdI .i64 (w_3.cell? (p26.add 1)) fun x28 =>
 InR .i64 (x28 + (1 : Int)) ∧ NonNil r fun p30 =>
 St w_3 (p30.add 1) (.int .i64 (x28 + (1 : Int))) fun w1 =>
 L1 w1

def F34_l1 (r : Option Addr) (J3 : World → Prop) (L1 : World → Prop) (w_2 : World) (R : Ending → World → Prop) : Prop :=
 ∃ J2 : World → Prop, (∀  (w1 : World), J2 w1 → F34_j2 r L1 w1 R) ∧
 (Dr w_2 fun w1 =>
 NonNil r fun p4 =>
 LdI .i64 (w1.cell? (p4.add 1)) fun x6 =>
 NonNil r fun p8 =>
 LdStr (w1.cell? p8) fun x10 =>
 Br (decide (x6 < ((x10.size : Nat) : Int)))
 (NonNil r fun p15 =>
 LdStr (w1.cell? p15) fun x17 =>
 NonNil r fun p19 =>
 LdI .i64 (w1.cell? (p19.add 1)) fun x21 =>
 IdxS x17 x21 fun c22 =>
 Br (c22 == (32 : Int))
 (J2 w1)
 (J3 w1))
 (J3 w1))

def F34 (r : Option Addr) (w_ : World) (R : Ending → World → Prop) : Prop :=
 ∃ J3 : World → Prop, (∀  (w1 : World), J3 w1 → F34_j3 r w1 R) ∧
 (∃ (I : World → Prop) (m : World → Nat), I  w_ ∧
 ∀  (w1 : World), I  w1 → F34_l1 r J3 (fun  w2 => I  w2 ∧ m  w2 < m  w1)  w1 R)

def pl34 : Plan := ⟨51, ⟨[]⟩, [(2, ⟨[], [(3, 25)]⟩), (3, ⟨[], [(3, 32)]⟩)], [(1, ⟨[], [(3, 32)]⟩)]⟩

theorem eq34 (r : Option Addr) (w : World) (R : Ending → World → Prop) : F34 r w R = vc Try.prog Try.f34 pl34 R 100000 [.code (bodyOf Try.f34)] (argEnv 0 #[(.pointer r)].toList) w := by kernel_rfl

theorem ok34 (r : Option Addr) {w : World} {R : Ending → World → Prop} (h : F34 r w R) : Calls Try.prog 34 #[(.pointer r)] w R :=
  vc_calls (pl := pl34) Try.func34 (by kernel_rfl) (by kernel_rfl) (by kernel_rfl) (Eq.mp (eq34 r w R) h)

-- (*model.reader).began
def F35 (r : Option Addr) (w_ : World) (R : Ending → World → Prop) : Prop :=
 NonNil r fun p3 =>
 LdI .i64 (w_.cell? (p3.add 2)) fun x5 =>
 InR .i64 (x5 + (1 : Int)) ∧ NonNil r fun p7 =>
 St w_ (p7.add 2) (.int .i64 (x5 + (1 : Int))) fun w1 =>
 NonNil r fun p10 =>
 LdI .i64 (w1.cell? (p10.add 2)) fun x12 =>
 Br (decide (x12 > (128 : Int)))
 (NonNil r fun p16 =>
 LdI .i64 (w1.cell? (p16.add 1)) fun x18 =>
 Calls Try.prog 19 #[(.pointer r), (.int .i64 x18), (.int .i64 2)] w1 (post R fun v w1_2 =>
 v = (.tuple #[]) ∧
 R (.returned (.tuple #[])) w1_2))
 (R (.returned (.tuple #[])) w1)

def pl35 : Plan := ⟨20, ⟨[]⟩, [], []⟩

theorem eq35 (r : Option Addr) (w : World) (R : Ending → World → Prop) : F35 r w R = vc Try.prog Try.f35 pl35 R 100000 [.code (bodyOf Try.f35)] (argEnv 0 #[(.pointer r)].toList) w := by kernel_rfl

theorem ok35 (r : Option Addr) {w : World} {R : Ending → World → Prop} (h : F35 r w R) : Calls Try.prog 35 #[(.pointer r)] w R :=
  vc_calls (pl := pl35) Try.func35 (by kernel_rfl) (by kernel_rfl) (by kernel_rfl) (Eq.mp (eq35 r w R) h)

-- (*model.reader).part
def F50_j14 (g2 : Addr) (p : Addr) (w_3 : World) (R : Ending → World → Prop) : Prop :=
 LdStr (w_3.cell? p) fun x67_0 =>
 LdSl (w_3.cell? (p.add 1)) fun x67_1 x67_1N x67_1C =>
 LdI .u8 (w_3.cell? (p.add 2)) fun x67_2 =>
 St w_3 g2 (.string x67_0) fun w1_7 =>
 St w1_7 (g2.add 1) (.slice x67_1 x67_1N x67_1C) fun w1_8 =>
 St w1_8 (g2.add 2) (.int .u8 x67_2) fun w1_9 =>
 LdStr (w1_9.cell? g2) fun res0_0 =>
 LdSl (w1_9.cell? (g2.add 1)) fun res0_1 res0_1N res0_1C =>
 LdI .u8 (w1_9.cell? (g2.add 2)) fun res0_2 =>
 R (.returned (.agg #[(.string res0_0), (.slice res0_1 res0_1N res0_1C), (.int .u8 res0_2)])) w1_9

def F50_j7 (g2 : Addr) (p : Addr) (w_2 : World) (R : Ending → World → Prop) : Prop :=
 ∃ J14 : World → Prop, (∀  (w1_7 : World), J14 w1_7 → F50_j14 g2 p w1_7 R) ∧
 (LdStr (w_2.cell? p) fun x32 =>
 Br (x32.toList == (ByteArray.mk #[40]).toList)
 (LdSl (w_2.cell? (p.add 1)) fun x36 x36N x36C =>
 Br (((x36N : Nat) : Int) == (1 : Int))
 (LdSl (w_2.cell? (p.add 1)) fun x42 x42N x42C =>
 IdxA x42 x42N (0 : Int) 1 fun q43 =>
 LdSl (w_2.cell? q43) fun x44 x44N x44C =>
 Br (((x44N : Nat) : Int) == (1 : Int))
 (LdSl (w_2.cell? (p.add 1)) fun x49 x49N x49C =>
 IdxA x49 x49N (0 : Int) 1 fun q50 =>
 LdSl (w_2.cell? q50) fun x51 x51N x51C =>
 IdxA x51 x51N (0 : Int) 3 fun q52 =>
 LdStr (w_2.cell? q52) fun x53_0 =>
 LdSl (w_2.cell? (q52.add 1)) fun x53_1 x53_1N x53_1C =>
 LdI .u8 (w_2.cell? (q52.add 2)) fun x53_2 =>
 Al w_2 #[(.string (ByteArray.mk #[])), (.slice none 0 0), (.int .u8 0)] 96 fun q w1_7 =>
 St w1_7 q (.string x53_0) fun w1_8 =>
 St w1_8 (q.add 1) (.slice x53_1 x53_1N x53_1C) fun w1_9 =>
 St w1_9 (q.add 2) (.int .u8 x53_2) fun w1_10 =>
 LdI .u8 (w1_10.cell? (p.add 2)) fun x56 =>
 Br (x56 == (0 : Int))
 (LdStr (w1_10.cell? q) fun x58_0 =>
 LdSl (w1_10.cell? (q.add 1)) fun x58_1 x58_1N x58_1C =>
 LdI .u8 (w1_10.cell? (q.add 2)) fun x58_2 =>
 St w1_10 g2 (.string x58_0) fun w1_11 =>
 St w1_11 (g2.add 1) (.slice x58_1 x58_1N x58_1C) fun w1_12 =>
 St w1_12 (g2.add 2) (.int .u8 x58_2) fun w1_13 =>
 LdStr (w1_13.cell? g2) fun res0_0 =>
 LdSl (w1_13.cell? (g2.add 1)) fun res0_1 res0_1N res0_1C =>
 LdI .u8 (w1_13.cell? (g2.add 2)) fun res0_2 =>
 R (.returned (.agg #[(.string res0_0), (.slice res0_1 res0_1N res0_1C), (.int .u8 res0_2)])) w1_13)
 (LdI .u8 (w1_10.cell? (q.add 2)) fun x61 =>
 Br (x61 == (0 : Int))
 (LdI .u8 (w1_10.cell? (p.add 2)) fun x64 =>
 St w1_10 (q.add 2) (.int .u8 x64) fun w1_11 =>
 LdStr (w1_11.cell? q) fun x66_0 =>
 LdSl (w1_11.cell? (q.add 1)) fun x66_1 x66_1N x66_1C =>
 LdI .u8 (w1_11.cell? (q.add 2)) fun x66_2 =>
 St w1_11 g2 (.string x66_0) fun w1_12 =>
 St w1_12 (g2.add 1) (.slice x66_1 x66_1N x66_1C) fun w1_13 =>
 St w1_13 (g2.add 2) (.int .u8 x66_2) fun w1_14 =>
 LdStr (w1_14.cell? g2) fun res0_0 =>
 LdSl (w1_14.cell? (g2.add 1)) fun res0_1 res0_1N res0_1C =>
 LdI .u8 (w1_14.cell? (g2.add 2)) fun res0_2 =>
 R (.returned (.agg #[(.string res0_0), (.slice res0_1 res0_1N res0_1C), (.int .u8 res0_2)])) w1_14)
 (J14 w1_10)))
 (J14 w_2))
 (J14 w_2))
 (J14 w_2))

def F50 (r : Option Addr) (w_ : World) (R : Ending → World → Prop) : Prop :=
 Al w_ #[(.string (ByteArray.mk #[])), (.slice none 0 0), (.int .u8 0)] 96 fun g2 w1 =>
 Calls Try.prog 71 #[(.pointer r)] w1 (post R fun v w1_2 =>
 ∃ (x7_0 : ByteArray) (x7_1 : Option Addr) (x7_1N : Nat) (x7_1C : Nat) (x7_2 : Int), v = (.agg #[(.string x7_0), (.slice x7_1 x7_1N x7_1C), (.int .u8 x7_2)]) ∧
 Al w1_2 #[(.string (ByteArray.mk #[])), (.slice none 0 0), (.int .u8 0)] 96 fun p w1_3 =>
 St w1_3 p (.string x7_0) fun w1_4 =>
 St w1_4 (p.add 1) (.slice x7_1 x7_1N x7_1C) fun w1_5 =>
 St w1_5 (p.add 2) (.int .u8 x7_2) fun w1_6 =>
 ∃ J7 : World → Prop, (∀  (w1_7 : World), J7 w1_7 → F50_j7 g2 p w1_7 R) ∧
 (Calls Try.prog 34 #[(.pointer r)] w1_6 (post R fun v2 w1_7 =>
 ∃ (x9 : Int), v2 = (.int .u8 x9) ∧
 Br (x9 == (63 : Int))
 (Calls Try.prog 35 #[(.pointer r)] w1_7 (post R fun v3 w1_8 =>
 v3 = (.tuple #[]) ∧
 NonNil r fun p23 =>
 LdI .i64 (w1_8.cell? (p23.add 1)) fun x25 =>
 InR .i64 (x25 + (1 : Int)) ∧ NonNil r fun p27 =>
 St w1_8 (p27.add 1) (.int .i64 (x25 + (1 : Int))) fun w1_9 =>
 St w1_9 (p.add 2) (.int .u8 x9) fun w1_10 =>
 J7 w1_10))
 (Br (x9 == (42 : Int))
 (Calls Try.prog 35 #[(.pointer r)] w1_7 (post R fun v3 w1_8 =>
 v3 = (.tuple #[]) ∧
 NonNil r fun p23 =>
 LdI .i64 (w1_8.cell? (p23.add 1)) fun x25 =>
 InR .i64 (x25 + (1 : Int)) ∧ NonNil r fun p27 =>
 St w1_8 (p27.add 1) (.int .i64 (x25 + (1 : Int))) fun w1_9 =>
 St w1_9 (p.add 2) (.int .u8 x9) fun w1_10 =>
 J7 w1_10))
 (Br (x9 == (43 : Int))
 (Calls Try.prog 35 #[(.pointer r)] w1_7 (post R fun v3 w1_8 =>
 v3 = (.tuple #[]) ∧
 NonNil r fun p23 =>
 LdI .i64 (w1_8.cell? (p23.add 1)) fun x25 =>
 InR .i64 (x25 + (1 : Int)) ∧ NonNil r fun p27 =>
 St w1_8 (p27.add 1) (.int .i64 (x25 + (1 : Int))) fun w1_9 =>
 St w1_9 (p.add 2) (.int .u8 x9) fun w1_10 =>
 J7 w1_10))
 (J7 w1_7))))))

def pl50 : Plan := ⟨68, ⟨[]⟩, [(14, ⟨[], [(5, 67)]⟩), (7, ⟨[], [(4, 31)]⟩)], []⟩

theorem eq50 (r : Option Addr) (w : World) (R : Ending → World → Prop) : F50 r w R = vc Try.prog Try.f50 pl50 R 100000 [.code (bodyOf Try.f50)] (argEnv 0 #[(.pointer r)].toList) w := by kernel_rfl

theorem ok50 (r : Option Addr) {w : World} {R : Ending → World → Prop} (h : F50 r w R) : Calls Try.prog 50 #[(.pointer r)] w R :=
  vc_calls (pl := pl50) Try.func50 (by kernel_rfl) (by kernel_rfl) (by kernel_rfl) (Eq.mp (eq50 r w R) h)

-- (*model.reader).atom
def F71_j28 (r : Option Addr) (g2 : Addr) (p : Addr) (w_3 : World) (R : Ending → World → Prop) : Prop :=
 NonNil r fun p152 =>
 LdI .i64 (w_3.cell? (p152.add 1)) fun x154 =>
 InR .i64 (x154 + (1 : Int)) ∧ NonNil r fun p156 =>
 St w_3 (p156.add 1) (.int .i64 (x154 + (1 : Int))) fun w1_10 =>
 LdStr (w1_10.cell? p) fun x158_0 =>
 LdSl (w1_10.cell? (p.add 1)) fun x158_1 x158_1N x158_1C =>
 LdI .u8 (w1_10.cell? (p.add 2)) fun x158_2 =>
 St w1_10 g2 (.string x158_0) fun w1_11 =>
 St w1_11 (g2.add 1) (.slice x158_1 x158_1N x158_1C) fun w1_12 =>
 St w1_12 (g2.add 2) (.int .u8 x158_2) fun w1_13 =>
 LdStr (w1_13.cell? g2) fun res0_0 =>
 LdSl (w1_13.cell? (g2.add 1)) fun res0_1 res0_1N res0_1C =>
 LdI .u8 (w1_13.cell? (g2.add 2)) fun res0_2 =>
 R (.returned (.agg #[(.string res0_0), (.slice res0_1 res0_1N res0_1C), (.int .u8 res0_2)])) w1_13

def F71_j20 (r : Option Addr) (g2 : Addr) (w_2 : World) (R : Ending → World → Prop) : Prop :=
 NonNil r fun p113 =>
 LdI .i64 (w_2.cell? (p113.add 1)) fun x115 =>
 Calls Try.prog 35 #[(.pointer r)] w_2 (post R fun v2 w1_3 =>
 v2 = (.tuple #[]) ∧
 NonNil r fun p119 =>
 LdI .i64 (w1_3.cell? (p119.add 1)) fun x121 =>
 InR .i64 (x121 + (1 : Int)) ∧ NonNil r fun p123 =>
 St w1_3 (p123.add 1) (.int .i64 (x121 + (1 : Int))) fun w1_4 =>
 Calls Try.prog 17 #[(.pointer r)] w1_4 (post R fun v3 w1_5 =>
 ∃ (x126 : Option Addr) (x126N : Nat) (x126C : Nat), v3 = (.slice x126 x126N x126C) ∧
 Al w1_5 #[(.string (ByteArray.mk #[])), (.slice none 0 0), (.int .u8 0)] 96 fun p w1_6 =>
 St w1_6 p (.string (ByteArray.mk #[40])) fun w1_7 =>
 St w1_7 (p.add 1) (.slice x126 x126N x126C) fun w1_8 =>
 St w1_8 (p.add 2) (.int .u8 0) fun w1_9 =>
 ∃ J28 : World → Prop, (∀  (w1_10 : World), J28 w1_10 → F71_j28 r g2 p w1_10 R) ∧
 (Calls Try.prog 18 #[(.pointer r)] w1_9 (post R fun v4 w1_10 =>
 ∃ (x130 : Bool), v4 = (.bool x130) ∧
 Br x130
 (Calls Try.prog 19 #[(.pointer r), (.int .i64 x115), (.int .i64 131)] w1_10 (post R fun v5 w1_11 =>
 v5 = (.tuple #[]) ∧
 J28 w1_11))
 (Dr w1_10 fun w1_11 =>
 NonNil r fun p136 =>
 LdStr (w1_11.cell? p136) fun x138 =>
 NonNil r fun p140 =>
 LdI .i64 (w1_11.cell? (p140.add 1)) fun x142 =>
 IdxS x138 x142 fun c143 =>
 Br (c143 != (41 : Int))
 (NonNil r fun p147 =>
 LdI .i64 (w1_11.cell? (p147.add 1)) fun x149 =>
 Calls Try.prog 19 #[(.pointer r), (.int .i64 x149), (.int .i64 3)] w1_11 (post R fun v5 w1_12 =>
 v5 = (.tuple #[]) ∧
 J28 w1_12))
 (J28 w1_11))))))

def F71_j12 (r : Option Addr) (g2 : Addr) (i : Int) (x55 : ByteArray) (x59 : Int) (w_3 : World) (R : Ending → World → Prop) : Prop :=
 NonNil r fun p75 =>
 St w_3 (p75.add 1) (.int .i64 i) fun w1_7 =>
 St w1_7 g2 (.string (x55.extract (x59).toNat (i).toNat)) fun w1_8 =>
 St w1_8 (g2.add 1) (.slice none 0 0) fun w1_9 =>
 St w1_9 (g2.add 2) (.int .u8 0) fun w1_10 =>
 LdStr (w1_10.cell? g2) fun res0_0 =>
 LdSl (w1_10.cell? (g2.add 1)) fun res0_1 res0_1N res0_1C =>
 LdI .u8 (w1_10.cell? (g2.add 2)) fun res0_2 =>
 R (.returned (.agg #[(.string res0_0), (.slice res0_1 res0_1N res0_1C), (.int .u8 res0_2)])) w1_10

def F71_j8 (r : Option Addr) (g2 : Addr) (i : Int) (w_2 : World) (R : Ending → World → Prop) : Prop :=
 Dr w_2 fun w1_5 =>
 NonNil r fun p53 =>
 LdStr (w1_5.cell? p53) fun x55 =>
 NonNil r fun p57 =>
 LdI .i64 (w1_5.cell? (p57.add 1)) fun x59 =>
 SlB x59 i ((x55.size : Nat) : Int)
 (Calls Try.prog 35 #[(.pointer r)] w1_5 (post R fun v3 w1_6 =>
 v3 = (.tuple #[]) ∧
 ∃ J12 : World → Prop, (∀  (w1_7 : World), J12 w1_7 → F71_j12 r g2 i x55 x59 w1_7 R) ∧
 (Calls Try.prog 86 #[(.string (x55.extract (x59).toNat (i).toNat))] w1_6 (post R fun v4 w1_7 =>
 ∃ (x65 : Bool), v4 = (.bool x65) ∧
 Br (!x65)
 (NonNil r fun p69 =>
 LdI .i64 (w1_7.cell? (p69.add 1)) fun x71 =>
 Calls Try.prog 19 #[(.pointer r), (.int .i64 x71), (.int .i64 6)] w1_7 (post R fun v5 w1_8 =>
 v5 = (.tuple #[]) ∧
 J12 w1_8))
 (J12 w1_7)))))

def F71_j7 (L6 : Int → World → Prop) (i : Int) (w_3 : World) (R : Ending → World → Prop) : Prop :=
 InR .i64 (i + (1 : Int)) ∧ L6 (i + (1 : Int)) w_3

def F71_l6 (r : Option Addr) (J8 : Int → World → Prop) (L6 : Int → World → Prop) (i : Int) (w_2 : World) (R : Ending → World → Prop) : Prop :=
 ∃ J7 : World → Prop, (∀  (w1_5 : World), J7 w1_5 → F71_j7 L6 i w1_5 R) ∧
 (NonNil r fun p36 =>
 LdStr (w_2.cell? p36) fun x38 =>
 Br (decide (i < ((x38.size : Nat) : Int)))
 (NonNil r fun p43 =>
 LdStr (w_2.cell? p43) fun x45 =>
 IdxS x45 i fun c47 =>
 Calls Try.prog 85 #[(.int .u8 c47)] w_2 (post R fun v3 w1_5 =>
 ∃ (x48 : Bool), v3 = (.bool x48) ∧
 Br x48
 (J7 w1_5)
 (J8 i w1_5)))
 (J8 i w_2))

def F71 (r : Option Addr) (w_ : World) (R : Ending → World → Prop) : Prop :=
 Al w_ #[(.string (ByteArray.mk #[])), (.slice none 0 0), (.int .u8 0)] 96 fun g2 w1 =>
 Calls Try.prog 34 #[(.pointer r)] w1 (post R fun v w1_2 =>
 ∃ (x9 : Int), v = (.int .u8 x9) ∧
 ∃ J20 : World → Prop, (∀  (w1_3 : World), J20 w1_3 → F71_j20 r g2 w1_3 R) ∧
 (Dr w1_2 fun w1_3 =>
 NonNil r fun p12 =>
 LdI .i64 (w1_3.cell? (p12.add 1)) fun x14 =>
 NonNil r fun p16 =>
 LdStr (w1_3.cell? p16) fun x18 =>
 Br (x14 == ((x18.size : Nat) : Int))
 (NonNil r fun p23 =>
 LdI .i64 (w1_3.cell? (p23.add 1)) fun x25 =>
 Calls Try.prog 19 #[(.pointer r), (.int .i64 x25), (.int .i64 4)] w1_3 (post R fun v2 w1_4 =>
 v2 = (.tuple #[]) ∧
 J20 w1_4))
 (Calls Try.prog 84 #[(.int .u8 x9)] w1_3 (post R fun v2 w1_4 =>
 ∃ (x29 : Bool), v2 = (.bool x29) ∧
 Br x29
 (NonNil r fun p31 =>
 LdI .i64 (w1_4.cell? (p31.add 1)) fun x33 =>
 ∃ J8 : Int → World → Prop, (∀ (i : Int) (w1_5 : World), J8 i w1_5 → F71_j8 r g2 i w1_5 R) ∧
 (∃ (I : Int → World → Prop) (m : Int → World → Nat), I x33 w1_4 ∧
 ∀ (i : Int) (w1_5 : World), I i w1_5 → F71_l6 r J8 (fun i' w2 => I i' w2 ∧ m i' w2 < m i w1_5) i w1_5 R))
 (Br (x9 == (36 : Int))
 (Calls Try.prog 35 #[(.pointer r)] w1_4 (post R fun v3 w1_5 =>
 v3 = (.tuple #[]) ∧
 NonNil r fun p93 =>
 LdI .i64 (w1_5.cell? (p93.add 1)) fun x95 =>
 InR .i64 (x95 + (1 : Int)) ∧ NonNil r fun p97 =>
 St w1_5 (p97.add 1) (.int .i64 (x95 + (1 : Int))) fun w1_6 =>
 InR .i32 (x9) ∧ St w1_6 g2 (.string (Utf8.encode (x9))) fun w1_7 =>
 St w1_7 (g2.add 1) (.slice none 0 0) fun w1_8 =>
 St w1_8 (g2.add 2) (.int .u8 0) fun w1_9 =>
 LdStr (w1_9.cell? g2) fun res0_0 =>
 LdSl (w1_9.cell? (g2.add 1)) fun res0_1 res0_1N res0_1C =>
 LdI .u8 (w1_9.cell? (g2.add 2)) fun res0_2 =>
 R (.returned (.agg #[(.string res0_0), (.slice res0_1 res0_1N res0_1C), (.int .u8 res0_2)])) w1_9))
 (Br (x9 == (46 : Int))
 (Calls Try.prog 35 #[(.pointer r)] w1_4 (post R fun v3 w1_5 =>
 v3 = (.tuple #[]) ∧
 NonNil r fun p93 =>
 LdI .i64 (w1_5.cell? (p93.add 1)) fun x95 =>
 InR .i64 (x95 + (1 : Int)) ∧ NonNil r fun p97 =>
 St w1_5 (p97.add 1) (.int .i64 (x95 + (1 : Int))) fun w1_6 =>
 InR .i32 (x9) ∧ St w1_6 g2 (.string (Utf8.encode (x9))) fun w1_7 =>
 St w1_7 (g2.add 1) (.slice none 0 0) fun w1_8 =>
 St w1_8 (g2.add 2) (.int .u8 0) fun w1_9 =>
 LdStr (w1_9.cell? g2) fun res0_0 =>
 LdSl (w1_9.cell? (g2.add 1)) fun res0_1 res0_1N res0_1C =>
 LdI .u8 (w1_9.cell? (g2.add 2)) fun res0_2 =>
 R (.returned (.agg #[(.string res0_0), (.slice res0_1 res0_1N res0_1C), (.int .u8 res0_2)])) w1_9))
 (Br (x9 == (45 : Int))
 (Calls Try.prog 35 #[(.pointer r)] w1_4 (post R fun v3 w1_5 =>
 v3 = (.tuple #[]) ∧
 NonNil r fun p93 =>
 LdI .i64 (w1_5.cell? (p93.add 1)) fun x95 =>
 InR .i64 (x95 + (1 : Int)) ∧ NonNil r fun p97 =>
 St w1_5 (p97.add 1) (.int .i64 (x95 + (1 : Int))) fun w1_6 =>
 InR .i32 (x9) ∧ St w1_6 g2 (.string (Utf8.encode (x9))) fun w1_7 =>
 St w1_7 (g2.add 1) (.slice none 0 0) fun w1_8 =>
 St w1_8 (g2.add 2) (.int .u8 0) fun w1_9 =>
 LdStr (w1_9.cell? g2) fun res0_0 =>
 LdSl (w1_9.cell? (g2.add 1)) fun res0_1 res0_1N res0_1C =>
 LdI .u8 (w1_9.cell? (g2.add 2)) fun res0_2 =>
 R (.returned (.agg #[(.string res0_0), (.slice res0_1 res0_1N res0_1C), (.int .u8 res0_2)])) w1_9))
 (Br (x9 != (40 : Int))
 (NonNil r fun p108 =>
 LdI .i64 (w1_4.cell? (p108.add 1)) fun x110 =>
 Calls Try.prog 19 #[(.pointer r), (.int .i64 x110), (.int .i64 3)] w1_4 (post R fun v3 w1_5 =>
 v3 = (.tuple #[]) ∧
 J20 w1_5))
 (J20 w1_4)))))))))

def pl71 : Plan := ⟨159, ⟨[]⟩, [(7, ⟨[], [(34, 50)]⟩), (12, ⟨[], [(64, 73)]⟩), (8, ⟨[(4, (.s (.int .i64)))], [(4, 52)]⟩), (28, ⟨[], [(128, 151)]⟩), (20, ⟨[], [(4, 112)]⟩)], [(6, ⟨[(4, (.s (.int .i64)))], [(4, 52)]⟩)]⟩

theorem eq71 (r : Option Addr) (w : World) (R : Ending → World → Prop) : F71 r w R = vc Try.prog Try.f71 pl71 R 100000 [.code (bodyOf Try.f71)] (argEnv 0 #[(.pointer r)].toList) w := by kernel_rfl

theorem ok71 (r : Option Addr) {w : World} {R : Ending → World → Prop} (h : F71 r w R) : Calls Try.prog 71 #[(.pointer r)] w R :=
  vc_calls (pl := pl71) Try.func71 (by kernel_rfl) (by kernel_rfl) (by kernel_rfl) (Eq.mp (eq71 r w R) h)

-- model.begins
def F84 (c : Int) (w_ : World) (R : Ending → World → Prop) : Prop :=
 Br (decide (c ≥ (97 : Int)))
 (Br (decide (c ≤ (122 : Int)))
 (R (.returned (.bool true)) w_)
 (Br (decide (c ≥ (65 : Int)))
 (Br (decide (c ≤ (90 : Int)))
 (R (.returned (.bool true)) w_)
 (R (.returned (.bool (c == (95 : Int)))) w_))
 (R (.returned (.bool (c == (95 : Int)))) w_)))
 (Br (decide (c ≥ (65 : Int)))
 (Br (decide (c ≤ (90 : Int)))
 (R (.returned (.bool true)) w_)
 (R (.returned (.bool (c == (95 : Int)))) w_))
 (R (.returned (.bool (c == (95 : Int)))) w_))

def pl84 : Plan := ⟨21, ⟨[]⟩, [], []⟩

theorem eq84 (c : Int) (w : World) (R : Ending → World → Prop) : F84 c w R = vc Try.prog Try.f84 pl84 R 100000 [.code (bodyOf Try.f84)] (argEnv 0 #[(.int .u8 c)].toList) w := by kernel_rfl

theorem ok84 (c : Int) {w : World} {R : Ending → World → Prop} (h : F84 c w R) : Calls Try.prog 84 #[(.int .u8 c)] w R :=
  vc_calls (pl := pl84) Try.func84 (by kernel_rfl) (by kernel_rfl) (by kernel_rfl) (Eq.mp (eq84 c w R) h)

-- model.in
def F85 (c : Int) (w_ : World) (R : Ending → World → Prop) : Prop :=
 Calls Try.prog 84 #[(.int .u8 c)] w_ (post R fun v w1 =>
 ∃ (x4 : Bool), v = (.bool x4) ∧
 Br x4
 (R (.returned (.bool true)) w1)
 (Br (decide (c ≥ (48 : Int)))
 (Br (decide (c ≤ (57 : Int)))
 (R (.returned (.bool true)) w1)
 (Br (c == (45 : Int))
 (R (.returned (.bool true)) w1)
 (R (.returned (.bool (c == (46 : Int)))) w1)))
 (Br (c == (45 : Int))
 (R (.returned (.bool true)) w1)
 (R (.returned (.bool (c == (46 : Int)))) w1))))

def pl85 : Plan := ⟨21, ⟨[]⟩, [], []⟩

theorem eq85 (c : Int) (w : World) (R : Ending → World → Prop) : F85 c w R = vc Try.prog Try.f85 pl85 R 100000 [.code (bodyOf Try.f85)] (argEnv 0 #[(.int .u8 c)].toList) w := by kernel_rfl

theorem ok85 (c : Int) {w : World} {R : Ending → World → Prop} (h : F85 c w R) : Calls Try.prog 85 #[(.int .u8 c)] w R :=
  vc_calls (pl := pl85) Try.func85 (by kernel_rfl) (by kernel_rfl) (by kernel_rfl) (Eq.mp (eq85 c w R) h)

-- chars.Name
def F86_j9 (L4 : Int → World → Prop) (x20 : Int) (w_4 : World) (R : Ending → World → Prop) : Prop :=
 InR .i64 (x20 + (1 : Int)) ∧ L4 (x20 + (1 : Int)) w_4

def F86_l4 (s : ByteArray) (L4 : Int → World → Prop) (x20 : Int) (w_3 : World) (R : Ending → World → Prop) : Prop :=
 Br (decide (x20 < ((s.size : Nat) : Int)))
 (∃ J9 : World → Prop, (∀  (w1 : World), J9 w1 → F86_j9 L4 x20 w1 R) ∧
 (IdxS s x20 fun c25 =>
 Calls Try.prog 92 #[(.int .u8 c25)] w_3 (post R fun v w1 =>
 ∃ (x27 : Bool), v = (.bool x27) ∧
 Br (!x27)
 (Br (decide (c25 < (48 : Int)))
 (Br (c25 != (45 : Int))
 (Br (c25 != (46 : Int))
 (R (.returned (.bool false)) w1)
 (J9 w1))
 (J9 w1))
 (Br (decide (c25 > (57 : Int)))
 (Br (c25 != (45 : Int))
 (Br (c25 != (46 : Int))
 (R (.returned (.bool false)) w1)
 (J9 w1))
 (J9 w1))
 (J9 w1)))
 (J9 w1))))
 (R (.returned (.bool true)) w_3)

def F86_j3 (s : ByteArray) (w_2 : World) (R : Ending → World → Prop) : Prop :=
 ∃ (I : Int → World → Prop) (m : Int → World → Nat), I (0 : Int) w_2 ∧
 ∀ (x20 : Int) (w1 : World), I x20 w1 → F86_l4 s (fun x20' w2 => I x20' w2 ∧ m x20' w2 < m x20 w1) x20 w1 R

def F86 (s : ByteArray) (w_ : World) (R : Ending → World → Prop) : Prop :=
 ∃ J3 : World → Prop, (∀  (w1 : World), J3 w1 → F86_j3 s w1 R) ∧
 (Br (s.toList == (ByteArray.mk #[]).toList)
 (R (.returned (.bool false)) w_)
 (Br (decide (((s.size : Nat) : Int) > (32 : Int)))
 (R (.returned (.bool false)) w_)
 (IdxS s (0 : Int) fun c14 =>
 Calls Try.prog 92 #[(.int .u8 c14)] w_ (post R fun v w1 =>
 ∃ (x15 : Bool), v = (.bool x15) ∧
 Br (!x15)
 (R (.returned (.bool false)) w1)
 (J3 w1)))))

def pl86 : Plan := ⟨46, ⟨[]⟩, [(9, ⟨[], [(2, 5), (22, 45)]⟩), (3, ⟨[], [(2, 18)]⟩)], [(4, ⟨[(20, (.s (.int .i64)))], [(2, 5), (20, 46)]⟩)]⟩

theorem eq86 (s : ByteArray) (w : World) (R : Ending → World → Prop) : F86 s w R = vc Try.prog Try.f86 pl86 R 100000 [.code (bodyOf Try.f86)] (argEnv 0 #[(.string s)].toList) w := by kernel_rfl

theorem ok86 (s : ByteArray) {w : World} {R : Ending → World → Prop} (h : F86 s w R) : Calls Try.prog 86 #[(.string s)] w R :=
  vc_calls (pl := pl86) Try.func86 (by kernel_rfl) (by kernel_rfl) (by kernel_rfl) (Eq.mp (eq86 s w R) h)

-- chars.letter
def F92 (c : Int) (w_ : World) (R : Ending → World → Prop) : Prop :=
 Br (decide (c ≥ (97 : Int)))
 (Br (decide (c ≤ (122 : Int)))
 (R (.returned (.bool true)) w_)
 (Br (decide (c ≥ (65 : Int)))
 (Br (decide (c ≤ (90 : Int)))
 (R (.returned (.bool true)) w_)
 (R (.returned (.bool (c == (95 : Int)))) w_))
 (R (.returned (.bool (c == (95 : Int)))) w_)))
 (Br (decide (c ≥ (65 : Int)))
 (Br (decide (c ≤ (90 : Int)))
 (R (.returned (.bool true)) w_)
 (R (.returned (.bool (c == (95 : Int)))) w_))
 (R (.returned (.bool (c == (95 : Int)))) w_))

def pl92 : Plan := ⟨21, ⟨[]⟩, [], []⟩

theorem eq92 (c : Int) (w : World) (R : Ending → World → Prop) : F92 c w R = vc Try.prog Try.f92 pl92 R 100000 [.code (bodyOf Try.f92)] (argEnv 0 #[(.int .u8 c)].toList) w := by kernel_rfl

theorem ok92 (c : Int) {w : World} {R : Ending → World → Prop} (h : F92 c w R) : Calls Try.prog 92 #[(.int .u8 c)] w R :=
  vc_calls (pl := pl92) Try.func92 (by kernel_rfl) (by kernel_rfl) (by kernel_rfl) (Eq.mp (eq92 c w R) h)

end Go.Proofs.Ytkmoeokfgkmlhaa
/- Models: the reader's small functions. -/
namespace Go.Proofs.Ytkmoeokfgkmlhaa
open Go.RowKit Go.Vc Go.Mdl
set_option linter.unusedVariables false
set_option linter.unusedSimpArgs false
theorem inR_i64 {z : Int} (h0 : -9223372036854775808 ≤ z) (h1 : z ≤ 9223372036854775807) : InR .i64 z := ⟨by simpa [IntKind.min, IntKind.signed, IntKind.bits] using h0, by simpa [IntKind.max, IntKind.signed, IntKind.bits] using h1⟩
theorem bytes_eq (a b : ByteArray) : (a.toList == b.toList) = decide (a = b) := by
  rw [ByteArray.toList_eq, ByteArray.toList_eq]
  by_cases h : a = b
  · subst h; simp
  · rw [decide_eq_false h]
    obtain ⟨⟨a⟩⟩ := a
    obtain ⟨⟨b⟩⟩ := b
    simp only [beq_eq_false_iff_ne, ne_eq]
    intro e
    apply h
    rw [show a = b from e]
/-- A character, by its number. -/
theorem begins_eq (c : UInt8) : begins c = decide ((97 ≤ c.toNat ∧ c.toNat ≤ 122) ∨ (65 ≤ c.toNat ∧ c.toNat ≤ 90) ∨ c.toNat = 95) := by
  rw [Bool.eq_iff_iff]
  simp only [begins, Bool.or_eq_true, Bool.and_eq_true, decide_eq_true_eq, beq_iff_eq, UInt8.le_iff_toNat_le, ← UInt8.toNat_inj, UInt8.reduceToNat, or_assoc]
theorem inn_eq (c : UInt8) : inn c = (begins c || decide ((48 ≤ c.toNat ∧ c.toNat ≤ 57) ∨ c.toNat = 45 ∨ c.toNat = 46)) := by
  rw [Bool.eq_iff_iff]
  simp only [inn, Bool.or_eq_true, Bool.and_eq_true, decide_eq_true_eq, beq_iff_eq, UInt8.le_iff_toNat_le, ← UInt8.toNat_inj, UInt8.reduceToNat, or_assoc]
section
variable {w : World}
theorem lS {a : Addr} {x : ByteArray} {K : ByteArray → Prop} (h : w.cell? a = some (.string x)) (hk : K x) : LdStr (w.cell? a) K := by rw [h, LdStr_some]; exact hk
theorem lSl {a : Addr} {p : Option Addr} {n c : Nat} {K : Option Addr → Nat → Nat → Prop} (h : w.cell? a = some (.slice p n c)) (hk : K p n c) : LdSl (w.cell? a) K := by rw [h, LdSl_some]; exact hk
theorem lI {a : Addr} {k : IntKind} {x : Int} {K : Int → Prop} (h : w.cell? a = some (.int k x)) (hk : K x) : LdI k (w.cell? a) K := by rw [h, LdI_some]; exact hk
theorem lB {a : Addr} {x : Bool} {K : Bool → Prop} (h : w.cell? a = some (.bool x)) (hk : K x) : LdB (w.cell? a) K := by rw [h, LdB_some]; exact hk
end
section
variable {w : World} {R : Ending → World → Prop}
theorem letter_F {c : UInt8} {w : World} {R : Ending → World → Prop} (h : R (.returned (.bool (begins c))) w) : F84 c.toNat w R := by
  unfold F84
  rw [begins_eq] at h
  have t : ((97 ≤ c.toNat ∧ c.toNat ≤ 122) ∨ (65 ≤ c.toNat ∧ c.toNat ≤ 90) ∨ c.toNat = 95) → R (.returned (.bool true)) w := fun k => by rw [decide_eq_true k] at h; exact h
  have f : ¬ ((97 ≤ c.toNat ∧ c.toNat ≤ 122) ∨ (65 ≤ c.toNat ∧ c.toNat ≤ 90)) → R (.returned (.bool ((c.toNat : Int) == 95))) w := fun k => by
    have e : ((c.toNat : Int) == 95) = decide ((97 ≤ c.toNat ∧ c.toNat ≤ 122) ∨ (65 ≤ c.toNat ∧ c.toNat ≤ 90) ∨ c.toNat = 95) := by
      rw [Bool.eq_iff_iff]; simp; omega
    rw [e]; exact h
  repeat' refine brd (fun _ => ?_) (fun _ => ?_)
  all_goals first | exact t (by omega) | exact f (by omega)
theorem begins_calls {c : UInt8} (h : R (.returned (.bool (begins c))) w) : Calls Try.prog 84 #[.int .u8 (c.toNat : Int)] w R := ok84 _ (letter_F h)
theorem letter_calls {c : UInt8} (h : R (.returned (.bool (begins c))) w) : Calls Try.prog 92 #[.int .u8 (c.toNat : Int)] w R := ok92 _ (letter_F h)
theorem in_calls {c : UInt8} (h : R (.returned (.bool (inn c))) w) : Calls Try.prog 85 #[.int .u8 (c.toNat : Int)] w R := by
  refine ok85 _ ?_
  unfold F85
  refine begins_calls ⟨_, rfl, ?_⟩
  rw [inn_eq] at h
  cases hb : begins c with
  | true => rw [hb] at h; exact h
  | false =>
    rw [hb, Bool.false_or] at h
    rw [Br_f]
    have t : ((48 ≤ c.toNat ∧ c.toNat ≤ 57) ∨ c.toNat = 45 ∨ c.toNat = 46) → R (.returned (.bool true)) w := fun k => by rw [decide_eq_true k] at h; exact h
    have f : ¬ ((48 ≤ c.toNat ∧ c.toNat ≤ 57) ∨ c.toNat = 45) → R (.returned (.bool ((c.toNat : Int) == 46))) w := fun k => by
      have e : ((c.toNat : Int) == 46) = decide ((48 ≤ c.toNat ∧ c.toNat ≤ 57) ∨ c.toNat = 45 ∨ c.toNat = 46) := by
        rw [Bool.eq_iff_iff]; simp; omega
      rw [e]; exact h
    repeat' (first | refine brd (fun _ => ?_) (fun _ => ?_) | refine bre (fun _ => ?_) (fun _ => ?_))
    all_goals first | exact t (by omega) | exact f (by omega)
/-- Can this be a name? -/
def isName (a : ByteArray) : Bool := match a.data.toList with
  | [] => false
  | c :: r => decide ((c :: r).length ≤ maxName) && begins c && r.all inn
theorem ba_get {s : ByteArray} {i : Nat} (h : i < s.size) : s[i]? = some s[i] := by
  exact getElem?_pos s i h
theorem ba_list {s : ByteArray} {i : Nat} (h : i < s.size) : s.data.toList[i]? = some s[i] := by
  rw [List.getElem?_eq_getElem (by simpa using h)]
  exact congrArg some (by simp; rfl)
theorem name_calls {s : ByteArray} (h : R (.returned (.bool (isName s))) w) : Calls Try.prog 86 #[.string s] w R := by
  refine ok86 _ ?_
  unfold F86
  have hz : s.data.toList.length = s.size := by simp
  cases hs : s.data.toList with
  | nil =>
    have e : isName s = false := by simp [isName, hs]
    rw [e] at h
    have hsz : s = ByteArray.mk #[] := by
      obtain ⟨⟨l⟩⟩ := s
      have : l = [] := hs
      subst this; rfl
    refine ⟨fun _ => False, fun _ hf => hf.elim, ?_⟩
    rw [bytes_eq, decide_eq_true hsz]
    exact h
  | cons c r =>
    rw [hs] at hz
    have hne : s ≠ ByteArray.mk #[] := by rintro rfl; simp at hs
    have h0 : 0 < s.size := by rw [← hz]; simp
    have hc : s[0] = c := by
      have := ba_list h0
      rw [hs] at this
      simpa using this.symm
    refine ⟨fun w1 => w1 = w ∧ s.size ≤ 32 ∧ begins c = true, ?_, ?_⟩
    · rintro w1 ⟨rfl, h32, hb⟩
      unfold F86_j3
      refine ⟨fun i w1' => ∃ k : Nat, i = k ∧ k ≤ s.size ∧ w1' = w1 ∧ ∀ x ∈ s.data.toList.take k, inn x = true, fun i _ => s.size - i.toNat, ⟨0, rfl, by omega, rfl, by simp⟩, ?_⟩
      rintro i w2 ⟨k, rfl, hk, rfl, hall⟩
      unfold F86_l4
      refine brd (fun hlt => ?_) (fun hge => ?_)
      · have hlt' : k < s.size := by omega
        have next : inn s[k] = true → ∀ x ∈ s.data.toList.take (k + 1), inn x = true := fun hi x hx => by
          rw [List.take_add_one, ba_list hlt'] at hx
          rcases List.mem_append.1 hx with hx | hx
          · exact hall x hx
          · simp at hx; subst hx; exact hi
        refine ⟨fun w3 => w3 = w2 ∧ inn s[k] = true, ?_, ?_⟩
        · rintro w3 ⟨rfl, hi⟩
          unfold F86_j9
          exact ⟨inR_i64 (by omega) (by omega), ⟨k + 1, by simp, by omega, rfl, next hi⟩, by dsimp only; omega⟩
        · refine ⟨by omega, s[k], by simp [ba_get hlt'], ?_⟩
          refine letter_calls ⟨_, rfl, ?_⟩
          have hR : inn s[k] = false → R (.returned (.bool false)) w2 := fun hi => by
            have e : isName s = false := by
              simp only [isName, hs]
              rw [Bool.and_eq_false_iff]
              have hk0 : k ≠ 0 := by rintro rfl; rw [hc, begins_inn hb] at hi; cases hi
              right
              rw [List.all_eq_false]
              refine ⟨s[k], ?_, by simp [hi]⟩
              have h1 := ba_list hlt'
              rw [hs] at h1
              obtain ⟨k', rfl⟩ : ∃ k', k = k' + 1 := ⟨k - 1, by omega⟩
              rw [List.getElem?_cons_succ] at h1
              exact List.mem_of_getElem? h1
            rw [e] at h; exact h
          have hin := inn_eq s[k]
          cases hbk : begins s[k] with
          | true => exact ⟨rfl, begins_inn hbk⟩
          | false =>
            rw [hbk, Bool.false_or] at hin
            rw [Bool.not_false, Br_t]
            have yes : ((48 ≤ s[k].toNat ∧ s[k].toNat ≤ 57) ∨ s[k].toNat = 45 ∨ s[k].toNat = 46) → w2 = w2 ∧ inn s[k] = true := fun hh => ⟨rfl, by rw [hin, decide_eq_true hh]⟩
            have no : ¬ ((48 ≤ s[k].toNat ∧ s[k].toNat ≤ 57) ∨ s[k].toNat = 45 ∨ s[k].toNat = 46) → R (.returned (.bool false)) w2 := fun hh => hR (by rw [hin, decide_eq_false hh])
            repeat' (first | refine brd (fun _ => ?_) (fun _ => ?_) | refine brn (fun _ => ?_) (fun _ => ?_))
            all_goals first | exact yes (by omega) | exact no (by omega)
      · obtain rfl : k = s.size := by omega
        have e : isName s = true := by
          simp only [isName, hs]
          rw [List.take_of_length_le (by rw [hs]; omega), hs] at hall
          simp only [Bool.and_eq_true, decide_eq_true_eq, List.all_eq_true]
          exact ⟨⟨by unfold maxName; omega, hb⟩, fun x hx => hall x (by simp [hx])⟩
        rw [e] at h; exact h
    · rw [bytes_eq, decide_eq_false hne, Br_f]
      refine brd (fun hgt => ?_) (fun hle => ?_)
      · have e : isName s = false := by
          simp only [isName, hs]
          rw [decide_eq_false (by unfold maxName; omega)]; rfl
        rw [e] at h; exact h
      · refine ⟨by omega, s[0], by simp [ba_get h0], ?_⟩
        refine letter_calls ⟨_, rfl, ?_⟩
        rw [hc]
        cases hb : begins c with
        | false =>
          have e : isName s = false := by simp only [isName, hs, hb]; simp
          rw [e] at h; exact h
        | true => exact ⟨rfl, by omega, rfl⟩
end
/-! ### The reader -/
/-- The reader: l is what is left of s, n are begun. -/
structure RAt (w : World) (g : Nat) (s : ByteArray) (l : List UInt8) (n : Nat) : Prop where
  len : l.length ≤ s.size
  rest : l = s.data.toList.drop (s.size - l.length)
  nle : n ≤ maxParts
  blk : Blk w g #[.string s, .int .i64 ((s.size - l.length : Nat) : Int), .int .i64 (n : Int)] 46
def hd : List UInt8 → Nat
  | [] => 0
  | c :: _ => c.toNat
section
variable {w w1 : World} {R : Ending → World → Prop} {g n : Nat} {s : ByteArray} {l r : List UInt8} {c : UInt8}
theorem RAt.keep (h : RAt w g s l n) {M : Nat → Prop} (hf : Fm M w w1) (hm : ¬ M g) : RAt w1 g s l n := ⟨h.len, h.rest, h.nle, hf.blk h.blk hm⟩
theorem RAt.below (h : RAt w g s l n) (hf : Below w.heap.size w w1) : RAt w1 g s l n := h.keep (M := fun _ => False) (.below hf) (fun h => h)
theorem RAt.get (h : RAt w g s (c :: r) n) : s[s.size - (c :: r).length]? = some c ∧ s.size - (c :: r).length < s.size := by
  have h1 := h.len
  have h2 := h.rest
  simp only [List.length_cons] at *
  have hlt : s.size - (r.length + 1) < s.size := by omega
  refine ⟨?_, hlt⟩
  rw [ba_get hlt]
  have h3 := ba_list hlt
  rw [← h3]
  have := congrArg (fun l => l[0]?) h2
  simp only [List.getElem?_cons_zero, List.getElem?_drop, Nat.add_zero] at this
  exact this.symm
theorem RAt.size0 (h : RAt w g s [] n) : (((s.size - ([] : List UInt8).length : Nat) : Int) == ((s.size : Nat) : Int)) = true := by simp
theorem RAt.tail (h : RAt w g s (c :: r) n) : r.length ≤ s.size ∧ r = s.data.toList.drop (s.size - r.length) ∧ s.size - r.length = (s.size - (c :: r).length) + 1 := by
  have h1 := h.len
  have h2 := h.rest
  simp only [List.length_cons] at *
  have h3 : s.size - r.length = (s.size - (r.length + 1)) + 1 := by omega
  refine ⟨by omega, ?_, h3⟩
  have := congrArg List.tail h2
  rw [List.tail_drop] at this
  rw [h3]; exact this
/-- at++ -/
theorem adv (h : RAt w g s (c :: r) n) (hs : s.size ≤ 1024) {K : World → Prop} (hK : ∀ w', RAt w' g s r n → Fm (· = g) w w' → K w') :
    NonNil (some ⟨g, 0, none⟩) fun p => LdI .i64 (w.cell? (p.add 1)) fun x => InR .i64 (x + (1 : Int)) ∧ NonNil (some ⟨g, 0, none⟩) fun p2 => St w (p2.add 1) (.int .i64 (x + (1 : Int))) fun w2 => K w2 := by
  obtain ⟨k1, k2, k3⟩ := h.tail
  simp only [NonNil_some, h.blk.cell, Addr.add_mk, List.getElem?_toArray, List.getElem?_cons_zero, List.getElem?_cons_succ, LdI_some, LdB_some, LdStr_some, LdP_some, LdSl_some, LdM_some, Nat.zero_add, Br_t, Br_f, List.getElem?_toArray]
  refine ⟨inR_i64 (by omega) (by omega), st_blk h.blk (by simp) fun w' hb hf => hK w' ⟨k1, k2, h.nle, ?_⟩ hf⟩
  rw [k3]
  exact hb
theorem began_calls (h : RAt w g s l n) (h1 : n + 1 ≤ maxParts → ∀ w', RAt w' g s l (n + 1) → Fm (· = g) w w' → R (.returned (.tuple #[])) w')
    (h2 : maxParts < n + 1 → ∀ at_ w', Fm (· = g) w w' → R (.panicked [{ v := .iface 43 (.agg #[.int .i64 at_, .int .i64 (eLong : Int)]), recovered := false }]) w') :
    Calls Try.prog 35 #[.pointer (some ⟨g, 0, none⟩)] w R := by
  refine ok35 _ ?_
  unfold F35
  have hn := h.nle
  unfold maxParts at *
  simp only [NonNil_some, h.blk.cell, Addr.add_mk, List.getElem?_toArray, List.getElem?_cons_zero, List.getElem?_cons_succ, LdI_some, LdB_some, LdStr_some, LdP_some, LdSl_some, LdM_some, Nat.zero_add, Br_t, Br_f]
  refine ⟨inR_i64 (by omega) (by omega), st_blk h.blk (by simp) fun w' hb hf => ?_⟩
  simp only [hb.cell]
  simp [LdI_some]
  refine brd (fun hgt => ?_) (fun hle => ?_)
  · refine ok19 _ _ _ ?_
    unfold F19
    exact h2 (by omega) _ w' hf
  · exact h1 (by omega) w' ⟨h.len, h.rest, by unfold maxParts; omega, hb⟩ hf
theorem peek_calls (h : RAt w g s l n) (hs : s.size ≤ 1024) (hR : ∀ w', RAt w' g s (skip l) n → Fm (· = g) w w' → R (.returned (.int .u8 (hd (skip l) : Int))) w') :
    Calls Try.prog 34 #[.pointer (some ⟨g, 0, none⟩)] w R := by
  refine ok34 _ ?_
  unfold F34
  refine ⟨fun w1 => RAt w1 g s (skip l) n ∧ Fm (· = g) w w1, ?_, fun w1 => ∃ l1, RAt w1 g s l1 n ∧ skip l1 = skip l ∧ Fm (· = g) w w1, fun w1 => match w1.cell? ⟨g, 1, none⟩ with | some (.int _ k) => s.size - k.toNat | _ => 0, ⟨l, h, rfl, Fm.refl _ _⟩, ?_⟩
  · rintro w1 ⟨h1, hf⟩
    unfold F34_j3
    refine dr fun w2 hb _ => ?_
    have h2 := h1.below hb
    have hf2 := hf.tr hb
    simp only [NonNil_some, h2.blk.cell, Addr.add_mk, List.getElem?_toArray, List.getElem?_cons_zero, List.getElem?_cons_succ, LdI_some, LdB_some, LdStr_some, LdP_some, LdSl_some, LdM_some, Nat.zero_add, Br_t, Br_f]
    cases hsk : skip l with
    | nil =>
      rw [hsk] at h2
      have e := h2.size0
      rw [hsk] at hR
      rw [e, Br_t]
      exact hR w2 h2 hf2
    | cons c r =>
      rw [hsk] at h2 hR
      obtain ⟨k1, k2⟩ := h2.get
      have e : (((s.size - (c :: r).length : Nat) : Int) == ((s.size : Nat) : Int)) = false := by simp; omega
      rw [e, Br_f]
      refine dr fun w3 hb3 _ => ?_
      have h3 := h2.below hb3
      simp only [NonNil_some, h3.blk.cell, Addr.add_mk, List.getElem?_toArray, List.getElem?_cons_zero, List.getElem?_cons_succ, LdI_some, LdB_some, LdStr_some, LdP_some, LdSl_some, LdM_some, Nat.zero_add, Br_t, Br_f]
      refine ⟨by omega, c, by simpa using k1, hR w3 h3 (hf2.tr hb3)⟩
  · rintro w1 ⟨l1, h1, hsk, hf⟩
    unfold F34_l1
    refine ⟨fun w2 => ∃ r, l1 = 32 :: r ∧ RAt w2 g s l1 n ∧ Fm (· = g) w w2, ?_, ?_⟩
    · rintro w2 ⟨r, rfl, h2, hf2⟩
      unfold F34_j2
      refine adv h2 hs fun w3 h3 hf3 => ⟨⟨r, h3, by rw [← hsk]; rfl, hf2.trans hf3⟩, ?_⟩
      dsimp only
      rw [h3.blk.cell, h1.blk.cell]
      have := h3.len
      have := h2.len
      simp at *; omega
    · refine dr fun w2 hb _ => ?_
      have h2 := h1.below hb
      have hf2 := hf.tr hb
      simp only [NonNil_some, h2.blk.cell, Addr.add_mk, List.getElem?_toArray, List.getElem?_cons_zero, List.getElem?_cons_succ, LdI_some, LdB_some, LdStr_some, LdP_some, LdSl_some, LdM_some, Nat.zero_add, Br_t, Br_f]
      cases l1 with
      | nil =>
        rw [show skip l = [] from hsk.symm]
        refine brd (fun hlt => ?_) (fun _ => ⟨h2, hf2⟩)
        simp at hlt
      | cons c r =>
        obtain ⟨k1, k2⟩ := h2.get
        refine brd (fun _ => ?_) (fun hge => by omega)
        refine ⟨by omega, c, by simpa using k1, ?_⟩
        refine bre (fun he => ?_) (fun hne => ?_)
        · have : c = 32 := by
            rw [← UInt8.toNat_inj]
            have : c.toNat = 32 := by omega
            rw [this]; rfl
          subst this
          exact ⟨r, rfl, h2, hf2⟩
        · have hc : c ≠ 32 := by rintro rfl; exact hne rfl
          rw [skip_cons hc] at hsk
          rw [← hsk]
          exact ⟨h2, hf2⟩
theorem ends_calls (h : RAt w g s l n) (hs : s.size ≤ 1024) (hR : ∀ w', RAt w' g s (skip l) n → Fm (· = g) w w' → R (.returned (.bool (skip l).isEmpty)) w') :
    Calls Try.prog 18 #[.pointer (some ⟨g, 0, none⟩)] w R := by
  refine ok18 _ ?_
  unfold F18
  refine peek_calls h hs fun w1 h1 hf => ⟨_, rfl, ?_⟩
  refine dr fun w2 hb _ => ?_
  have h2 := h1.below hb
  simp only [NonNil_some, h2.blk.cell, Addr.add_mk, List.getElem?_toArray, List.getElem?_cons_zero, List.getElem?_cons_succ, LdI_some, LdB_some, LdStr_some, LdP_some, LdSl_some, LdM_some, Nat.zero_add, Br_t, Br_f]
  cases hsk : skip l with
  | nil =>
    rw [hsk] at h2 hR
    rw [h2.size0]
    exact hR w2 h2 (hf.tr hb)
  | cons c r =>
    rw [hsk] at h2 hR
    have e : (((s.size - (c :: r).length : Nat) : Int) == ((s.size : Nat) : Int)) = false := by have := h2.get.2; simp; omega
    rw [e]
    exact hR w2 h2 (hf.tr hb)
end
end Go.Proofs.Ytkmoeokfgkmlhaa
/- Models: the reader reads an atom, a part, a row, choices. -/
namespace Go.Proofs.Ytkmoeokfgkmlhaa
open Go.RowKit Go.Vc Go.Mdl
set_option linter.unusedVariables false
set_option linter.unusedSimpArgs false
set_option maxRecDepth 100000
abbrev oops (at_ e : Int) : List PanicEntry := [{ v := .iface 43 (.agg #[.int .i64 at_, .int .i64 e]), recovered := false }]
/-- What a function of the reader ends in. -/
def Ends {α : Type} (R : Ending → World → Prop) (g : Nat) (s : ByteArray) (w : World) (ret : World → α → Value → Prop) : Res α → Prop
  | .ok (x, l, n) => ∀ w' v, RAt w' g s l n → Fm (· = g) w w' → ret (above w.heap.size w') x v → R (.returned v) w'
  | .error (_, e) => ∀ at_ w', Fm (· = g) w w' → R (.panicked (oops at_ (e : Int))) w'
def retP (W : World) (p : Part) (v : Value) : Prop := ∃ e : E, v = .agg #[.string e.a, .slice e.sl.1 e.sl.2.1 e.sl.2.2, .int .u8 (e.s : Int)] ∧ RdP W p e
def retR (W : World) (r : List Part) (v : Value) : Prop := ∃ sl : Sv, v = .slice sl.1 sl.2.1 sl.2.2 ∧ RdW W r sl
def retC (W : World) (r : List (List Part)) (v : Value) : Prop := ∃ sl : Sv, v = .slice sl.1 sl.2.1 sl.2.2 ∧ RdC W r sl
/-- What 'choices' does, up to a depth. -/
def CC (f : Nat) : Prop := ∀ (w : World) (g : Nat) (s : ByteArray) (l : List UInt8) (n : Nat) (R : Ending → World → Prop), RAt w g s l n → s.size ≤ 1024 → l.length < f →
  Ends R g s w retC (choices f l n) → Calls Try.prog 17 #[.pointer (some ⟨g, 0, none⟩)] w R
section
variable {w w1 : World} {R : Ending → World → Prop} {g n : Nat} {s : ByteArray} {l r : List UInt8} {c : UInt8}
theorem nldA (h : RAt w g s l n) {K : Int → Prop} (hk : K ((s.size - l.length : Nat) : Int)) : NonNil (some ⟨g, 0, none⟩) fun p => LdI .i64 (w.cell? (p.add 1)) fun x => K x := by
  simp only [NonNil_some, h.blk.cell, Addr.add_mk, List.getElem?_toArray, List.getElem?_cons_zero, List.getElem?_cons_succ, LdI_some, LdB_some, LdStr_some, LdP_some, LdSl_some, LdM_some, Nat.zero_add, Br_t, Br_f]
  exact hk
theorem nldS (h : RAt w g s l n) {K : ByteArray → Prop} (hk : K s) : NonNil (some ⟨g, 0, none⟩) fun p => LdStr (w.cell? p) fun x => K x := by
  simp only [NonNil_some, h.blk.cell, Addr.add_mk, List.getElem?_toArray, List.getElem?_cons_zero, List.getElem?_cons_succ, LdI_some, LdB_some, LdStr_some, LdP_some, LdSl_some, LdM_some, Nat.zero_add, Br_t, Br_f]
  exact hk
/-- The result's box is written and read. -/
theorem res3 {g2 : Nat} {c0 : Array Value} (hg : Blk w g2 c0 96) (h0 : c0.size = 3) {a : ByteArray} {p : Option Addr} {n c : Nat} {k : Int}
    (h : ∀ w', Fm (· = g2) w w' → Blk w' g2 #[.string a, .slice p n c, .int .u8 k] 96 → R (.returned (.agg #[.string a, .slice p n c, .int .u8 k])) w') :
    St w ⟨g2, 0, none⟩ (.string a) fun w1 => St w1 (Addr.add ⟨g2, 0, none⟩ 1) (.slice p n c) fun w2 => St w2 (Addr.add ⟨g2, 0, none⟩ 2) (.int .u8 k) fun w3 =>
      LdStr (w3.cell? ⟨g2, 0, none⟩) fun a' => LdSl (w3.cell? (Addr.add ⟨g2, 0, none⟩ 1)) fun p' n' c' => LdI .u8 (w3.cell? (Addr.add ⟨g2, 0, none⟩ 2)) fun k' =>
        R (.returned (.agg #[.string a', .slice p' n' c', .int .u8 k'])) w3 := by
  obtain ⟨l⟩ := c0
  obtain ⟨x, y, z, rfl⟩ : ∃ x y z, l = [x, y, z] := by
    match l, h0 with
    | [x, y, z], _ => exact ⟨x, y, z, rfl⟩
  simp only [Addr.add_mk, Nat.zero_add]
  refine st_blk hg (by simp) fun w1 hb1 f1 => st_blk hb1 (by simp) fun w2 hb2 f2 => st_blk hb2 (by simp) fun w3 hb3 f3 => ?_
  have hb : Blk w3 g2 #[.string a, .slice p n c, .int .u8 k] 96 := hb3
  simp only [hb.cell, Addr.add_mk, List.getElem?_toArray, List.getElem?_cons_zero, List.getElem?_cons_succ, LdI_some, LdB_some, LdStr_some, LdP_some, LdSl_some, LdM_some, Nat.zero_add, Br_t, Br_f]
  exact h w3 ((f1.trans f2).trans f3) hb
theorem ld3 {g2 : Nat} {a : ByteArray} {p : Option Addr} {n c : Nat} {k : Int} (hb : Blk w g2 #[.string a, .slice p n c, .int .u8 k] 96) {K : ByteArray → Option Addr → Nat → Nat → Int → Prop} (h : K a p n c k) :
    LdStr (w.cell? ⟨g2, 0, none⟩) fun a' => LdSl (w.cell? (Addr.add ⟨g2, 0, none⟩ 1)) fun p' n' c' => LdI .u8 (w.cell? (Addr.add ⟨g2, 0, none⟩ 2)) fun k' => K a' p' n' c' k' := by
  simp only [hb.cell, Addr.add_mk, List.getElem?_toArray, List.getElem?_cons_zero, List.getElem?_cons_succ, LdI_some, LdB_some, LdStr_some, LdP_some, LdSl_some, LdM_some, Nat.zero_add, Br_t, Br_f]
  exact h
theorem above_nil (W : World) (a : ByteArray) : RdP W (.mk a [] 0) ⟨a, (none, 0, 0), 0⟩ := by
  simp only [RdP, RdL]
  exact ⟨trivial, trivial, [], rfl, Rd.nil _ _, rfl⟩
/-- at = i -/
theorem setAt (h : RAt w g s l n) {k : Nat} (hk : k ≤ l.length) {i : Int} (hi : i = ((s.size - l.length + k : Nat) : Int)) {K : World → Prop} (hK : ∀ w', RAt w' g s (l.drop k) n → Fm (· = g) w w' → K w') :
    NonNil (some ⟨g, 0, none⟩) fun p => St w (p.add 1) (.int .i64 i) fun w2 => K w2 := by
  subst hi
  have h1 := h.len
  simp only [NonNil_some, Addr.add_mk, Nat.zero_add]
  refine st_blk h.blk (by simp) fun w' hb hf => hK w' ⟨by simp; omega, ?_, h.nle, ?_⟩ hf
  · rw [List.length_drop, show s.size - (l.length - k) = (s.size - l.length) + k from by omega, ← List.drop_drop, ← h.rest]
  · rw [List.length_drop, show s.size - (l.length - k) = (s.size - l.length) + k from by omega]
    exact hb
theorem RAt.byte (h : RAt w g s l n) {k : Nat} (hk : k < l.length) : s[s.size - l.length + k]? = some l[k] ∧ s.size - l.length + k < s.size := by
  have h1 := h.len
  have hlt : s.size - l.length + k < s.size := by omega
  refine ⟨?_, hlt⟩
  rw [ba_get hlt, ← ba_list hlt]
  have := congrArg (fun l => l[k]?) h.rest
  simp only [List.getElem?_drop] at this
  rw [← this, List.getElem?_eq_getElem hk]
theorem RAt.cut (h : RAt w g s l n) {k : Nat} (hk : k ≤ l.length) : s.extract (s.size - l.length) (s.size - l.length + k) = ⟨(l.take k).toArray⟩ := by
  have h1 := h.len
  apply ByteArray.ext
  rw [ByteArray.data_extract]
  apply Array.ext'
  rw [Array.toList_extract, List.extract_eq_take_drop]
  have h2 := h.rest
  rw [show s.size - l.length + k - (s.size - l.length) = k from by omega]
  conv => rhs; simp only []
  rw [← h2]
theorem take_len : ∀ (l : List UInt8) (k : Nat), k ≤ l.length → (∀ x ∈ l.take k, inn x = true) → (∀ c r, l.drop k = c :: r → inn c = false) → l.takeWhile inn = l.take k ∧ l.dropWhile inn = l.drop k
  | l, k, hk, h1, h2 => by
    have := name_take h1 h2
    rw [List.take_append_drop] at this
    exact this
theorem isName_take {r : List UInt8} (hb : begins c = true) (h : ∀ x ∈ r, inn x = true) : isName ⟨(c :: r).toArray⟩ = decide ((c :: r).length ≤ maxName) := by
  simp only [isName]
  rw [hb, Bool.and_true, (List.all_eq_true.2 h : r.all inn = true), Bool.and_true]
theorem atom_calls {f : Nat} (hch : CC f) (h : RAt w g s l n) (hs : s.size ≤ 1024) (hl : l.length ≤ f) (hR : Ends R g s w retP (Mdl.atom (choices f) l n)) :
    Calls Try.prog 71 #[.pointer (some ⟨g, 0, none⟩)] w R := by
  refine ok71 _ ?_
  unfold F71
  refine al fun g2 w1 hb1 hg2 hge2 => ?_
  have h1 := h.below hb1
  have hgl := h.blk.lt
  have hne : ¬ (g2 = g) := by omega
  refine peek_calls h1 hs fun w2 h2 hf2 => ⟨_, rfl, ?_⟩
  have F2 : Fm (· = g) w w2 := (Fm.below hb1).trans hf2
  have G2 := hf2.blk hg2 hne
  have hle := skip_len l
  clear h1 hf2 hg2 hb1 h
  unfold Mdl.atom at hR
  have fin : ∀ (p : Part) (e : E) (l' : List UInt8) (n' : Nat) (w4 w' : World), Ends R g s w retP (.ok (p, l', n')) → RAt w4 g s l' n' → Fm (· = g) w w4 → RdP (above w.heap.size w') p e → Fm (· = g2) w4 w' →
      R (.returned (.agg #[.string e.a, .slice e.sl.1 e.sl.2.1 e.sl.2.2, .int .u8 (e.s : Int)])) w' := fun p e l' n' w4 w' hE hA hF hP hF2 =>
    hE w' _ (hA.keep hF2 (Ne.symm hne)) ⟨(hF2.os).trans hF.os, hF2.tape.trans hF.tape, hF2.output.trans hF.output, Nat.le_trans hF.size hF2.size, fun b hb hm => (hF2.block b (Nat.lt_of_lt_of_le hb hF.size) (by omega)).trans (hF.block b hb hm)⟩ ⟨e, rfl, hP⟩
  refine ⟨fun w3 => ∃ r, skip l = 40 :: r ∧ RAt w3 g s (skip l) n ∧ Fm (· = g) w w3 ∧ Blk w3 g2 #[.string (ByteArray.mk #[]), .slice none 0 0, .int .u8 0] 96, ?_, ?_⟩
  · rintro w3 ⟨r, hsk, h3, F3, G3⟩
    unfold F71_j20
    rw [hsk] at hR h3 hle
    dsimp only at hR
    rw [if_neg (by decide), if_neg (by decide), if_neg (by decide)] at hR
    refine nldA h3 ?_
    refine began_calls h3 (fun hn w4 h4 f4 => ⟨rfl, ?_⟩) (fun hn at_ w4 f4 => ?_)
    rotate_left
    · rw [if_pos hn] at hR
      exact hR _ _ (F3.trans f4)
    rw [if_neg (by omega)] at hR
    refine adv h4 hs fun w5 h5 f5 => ?_
    have F5 := (F3.trans f4).trans f5
    have G5 := f5.blk (f4.blk G3 hne) hne
    simp only [List.length_cons] at hle
    refine hch w5 g s r (n + 1) _ h5 hs (by omega) ?_
    clear h3 h4 f4 f5 G3
    cases hc : choices f r (n + 1) with
    | error e =>
      obtain ⟨pos, e⟩ := e
      rw [hc] at hR
      exact fun at_ w' f6 => hR at_ w' (F5.trans f6)
    | ok x =>
      obtain ⟨rows, l1, n1⟩ := x
      rw [hc] at hR
      dsimp only at hR
      rintro w6 _ h6 f6 ⟨sl, rfl, hrd⟩
      refine ⟨_, _, _, rfl, ?_⟩
      have F6 := F5.trans f6
      have G6 := f6.blk G5 hne
      refine al3 fun p w7 hb7 hp hgep => ?_
      have h7 := h6.below hb7
      have F7 := F6.tr hb7
      have G7 := G6.keep hb7
      have hpne : ¬ (p = g) := by have := h6.blk.lt; omega
      have Fq : Fm (· = g) w6 w7 := .below hb7
      refine ⟨fun w8 => ∃ r2, skip l1 = 41 :: r2 ∧ RAt w8 g s (41 :: r2) n1 ∧ Fm (· = g) w w8 ∧ Fm (· = g) w6 w8 ∧ Blk w8 g2 #[.string (ByteArray.mk #[]), .slice none 0 0, .int .u8 0] 96 ∧ Blk w8 p #[.string (ByteArray.mk #[40]), .slice sl.1 sl.2.1 sl.2.2, .int .u8 0] 96, ?_, ?_⟩
      · rintro w8 ⟨r2, hsk1, h8, F8, Fq8, G8, P8⟩
        unfold F71_j28
        rw [hsk1] at hR
        dsimp only at hR
        rw [if_pos rfl] at hR
        refine adv h8 hs fun w9 h9 f9 => ?_
        refine ld3 (f9.blk P8 hpne) ?_
        refine res3 (f9.blk G8 hne) rfl fun w' fw _ => ?_
        refine fin _ ⟨Br, sl, 0⟩ _ _ w9 w' hR h9 (F8.trans f9) ?_ fw
        simp only [RdP]
        refine ⟨trivial, trivial, ?_⟩
        have hsub : Sub (above w5.heap.size w6) (above w.heap.size w') := by
          have a1 : Sub (above w5.heap.size w6) (above w5.heap.size w9) := above_fm (Fq8.trans f9) (Nat.le_refl _) (fun b hb e => by have := h5.blk.lt; omega)
          have a2 : Sub (above w5.heap.size w9) (above w.heap.size w') := above_fm fw F5.size (fun b hb e => by have := G5.lt; omega)
          exact a1.trans a2
        obtain ⟨vs, q1, q2, q3⟩ := RdC.sub hsub hrd
        exact ⟨vs, q1, q2, q3⟩
      · refine ends_calls h7 hs fun w8 h8 f8 => ⟨_, rfl, ?_⟩
        have F8 := F7.trans f8
        have Fq8 := Fq.trans f8
        have G8 := f8.blk G7 hne
        have P8 := f8.blk hp hpne
        cases hsk1 : skip l1 with
        | nil =>
          rw [hsk1] at hR
          simp only [List.isEmpty_nil, Br_t]
          refine ok19 _ _ _ ?_
          unfold F19
          exact hR _ _ F8
        | cons d r2 =>
          rw [hsk1] at hR h8
          simp only [List.isEmpty_cons, Br_f]
          refine dr fun w9 hb9 _ => ?_
          have h9 := h8.below hb9
          refine nldS h9 (nldA h9 ?_)
          obtain ⟨k1, k2⟩ := h9.get
          refine ⟨by omega, d, by simpa using k1, ?_⟩
          refine brn (fun hd => ?_) (fun hd => ?_)
          · have hne41 : d ≠ 41 := by rintro rfl; exact hd rfl
            dsimp only at hR
            rw [if_neg hne41] at hR
            refine nldA h9 ?_
            refine ok19 _ _ _ ?_
            unfold F19
            exact hR _ _ (F8.tr hb9)
          · have : d = 41 := by rw [← UInt8.toNat_inj]; show d.toNat = 41; omega
            subst this
            exact ⟨r2, rfl, h9, F8.tr hb9, Fq8.tr hb9, G8.keep hb9, P8.keep hb9⟩
  · refine dr fun w3 hb3 _ => ?_
    have h3 := h2.below hb3
    have F3 := F2.tr hb3
    have G3 := G2.keep hb3
    refine nldA h3 (nldS h3 ?_)
    cases hsk : skip l with
    | nil =>
      rw [hsk] at hR h3
      rw [h3.size0, Br_t]
      refine nldA h3 ?_
      refine ok19 _ _ _ ?_
      unfold F19
      exact hR _ _ F3
    | cons c r =>
      rw [hsk] at hR h3
      dsimp only at hR
      have e : (((s.size - (c :: r).length : Nat) : Int) == ((s.size : Nat) : Int)) = false := by have := h3.get.2; simp; omega
      rw [e, Br_f]
      refine begins_calls ⟨_, rfl, ?_⟩
      cases hb : begins c with
      | true =>
        rw [hb] at hR
        simp only [if_true] at hR
        rw [Br_t]
        refine nldA h3 ?_
        have hL : s.size - (c :: r).length + (c :: r).length = s.size := by have := h3.len; omega
        generalize hLe : c :: r = L at *
        refine ⟨fun i w4 => ∃ k : Nat, i = ((s.size - L.length + k : Nat) : Int) ∧ k ≤ L.length ∧ L.takeWhile inn = L.take k ∧ L.dropWhile inn = L.drop k ∧ RAt w4 g s L n ∧ Fm (· = g) w w4 ∧ Blk w4 g2 #[.string (ByteArray.mk #[]), .slice none 0 0, .int .u8 0] 96, ?_,
          fun i w4 => ∃ k : Nat, i = ((s.size - L.length + k : Nat) : Int) ∧ k ≤ L.length ∧ (∀ x ∈ L.take k, inn x = true) ∧ RAt w4 g s L n ∧ Fm (· = g) w w4 ∧ Blk w4 g2 #[.string (ByteArray.mk #[]), .slice none 0 0, .int .u8 0] 96, fun i _ => s.size - i.toNat, ⟨0, rfl, by omega, by simp, h3, F3, G3⟩, ?_⟩
        · rintro i w4 ⟨k, rfl, hk, htk, hdr, h4, F4, G4⟩
          unfold F71_j8
          refine dr fun w5 hb5 _ => ?_
          have h5 := h4.below hb5
          have F5 := F4.tr hb5
          have G5 := G4.keep hb5
          refine nldS h5 (nldA h5 ⟨by omega, by omega, by omega, ?_⟩)
          simp only [Int.toNat_natCast, h5.cut hk]
          rw [htk, hdr] at hR
          refine began_calls h5 (fun hn w6 h6 f6 => ⟨rfl, ?_⟩) (fun hn at_ w6 f6 => ?_)
          rotate_left
          · rw [if_pos hn] at hR
            exact hR _ _ (F5.trans f6)
          rw [if_neg (by omega)] at hR
          have F6 := F5.trans f6
          have G6 := f6.blk G5 hne
          have hnm : isName ⟨(L.take k).toArray⟩ = decide ((L.take k).length ≤ maxName) := by
            have hin : ∀ x ∈ L.take k, inn x = true := by rw [← htk]; exact fun x hx => List.all_eq_true.1 List.all_takeWhile x hx
            cases hk0 : k with
            | zero =>
              subst hk0
              rw [← hLe] at htk
              simp [begins_inn hb] at htk
            | succ k' =>
              subst hk0
              rw [← hLe] at hin ⊢
              exact isName_take hb fun x hx => hin x (by simp [hx])
          refine ⟨fun w7 => w7 = w6 ∧ (L.take k).length ≤ maxName, ?_, ?_⟩
          · rintro w7 ⟨rfl, hle2⟩
            unfold F71_j12
            rw [if_neg (by omega)] at hR
            refine setAt h6 hk rfl fun w8 h8 f8 => ?_
            rw [Int.toNat_natCast, Int.toNat_natCast, h6.cut hk]
            refine res3 (f8.blk G6 hne) rfl fun w' fw _ => ?_
            refine fin _ ⟨⟨(L.take k).toArray⟩, (none, 0, 0), 0⟩ _ _ w8 w' hR h8 (F6.trans f8) (above_nil _ _) fw
          · refine name_calls ⟨_, rfl, ?_⟩
            rw [hnm]
            by_cases hle2 : (L.take k).length ≤ maxName
            · rw [decide_eq_true hle2]
              exact ⟨rfl, hle2⟩
            · rw [decide_eq_false hle2]
              rw [if_pos (by omega)] at hR
              rw [Bool.not_false, Br_t]
              refine nldA h6 ?_
              refine ok19 _ _ _ ?_
              unfold F19
              exact hR _ _ F6
        · rintro i w4 ⟨k, rfl, hk, hin, h4, F4, G4⟩
          unfold F71_l6
          refine ⟨fun w5 => ∃ hk2 : k < L.length, inn L[k] = true ∧ w5 = w4, ?_, ?_⟩
          · rintro w5 ⟨hk2, hi2, rfl⟩
            unfold F71_j7
            refine ⟨inR_i64 (by omega) (by omega), ⟨k + 1, by omega, by omega, fun x hx => ?_, h4, F4, G4⟩, by dsimp only; omega⟩
            rw [List.take_add_one, List.getElem?_eq_getElem hk2] at hx
            rcases List.mem_append.1 hx with hx | hx
            · exact hin x hx
            · simp at hx; subst hx; exact hi2
          · have done : (∀ c' r', L.drop k = c' :: r' → inn c' = false) → ∃ k' : Nat, ((s.size - L.length + k : Nat) : Int) = ((s.size - L.length + k' : Nat) : Int) ∧ k' ≤ L.length ∧ L.takeWhile inn = L.take k' ∧ L.dropWhile inn = L.drop k' ∧ RAt w4 g s L n ∧ Fm (· = g) w w4 ∧ Blk w4 g2 #[.string (ByteArray.mk #[]), .slice none 0 0, .int .u8 0] 96 := fun hd =>
              ⟨k, rfl, hk, (take_len L k hk hin hd).1, (take_len L k hk hin hd).2, h4, F4, G4⟩
            refine nldS h4 ?_
            refine brd (fun hlt => ?_) (fun hge => ?_)
            · have hk2 : k < L.length := by omega
              obtain ⟨q1, q2⟩ := h4.byte hk2
              refine nldS h4 ⟨by omega, L[k], by rw [Int.toNat_natCast]; exact q1, ?_⟩
              refine in_calls ⟨_, rfl, ?_⟩
              cases hik : inn L[k] with
              | true => exact ⟨hk2, hik, rfl⟩
              | false =>
                refine done fun c' r' e => ?_
                rw [List.drop_eq_getElem_cons hk2] at e
                cases e
                exact hik
            · refine done fun c' r' e => ?_
              rw [List.drop_of_length_le (by omega)] at e
              cases e
      | false =>
        rw [hb] at hR
        simp only [Bool.false_eq_true, if_false] at hR
        rw [Br_f]
        refine bre (fun h36 => ?a) (fun n36 => bre (fun h46 => ?b) (fun n46 => bre (fun h45 => ?c) (fun n45 => ?d)))
        case a => (
          obtain rfl : c = 36 := (by rw [← UInt8.toNat_inj]; show c.toNat = 36; simp only [hd] at *; omega)
          rw [if_pos (by decide)] at hR
          refine began_calls h3 (fun hn w4 h4 f4 => ⟨rfl, ?_⟩) (fun hn at_ w4 f4 => ?_)
          rotate_left
          · rw [if_pos hn] at hR; exact hR _ _ (F3.trans f4)
          rw [if_neg (by omega)] at hR
          refine adv h4 hs fun w5 h5 f5 => ⟨by simp [hd, InR, IntKind.min, IntKind.max, IntKind.signed, IntKind.bits], ?_⟩
          rw [show ((hd (36 :: r) : Nat) : Int) = ((36 : Nat) : Int) from rfl, (by decide +kernel : Utf8.encode ((36 : Nat) : Int) = (⟨#[36]⟩ : ByteArray))]
          refine res3 (f5.blk (f4.blk G3 hne) hne) rfl fun w' fw _ => ?_
          exact fin _ ⟨⟨#[36]⟩, (none, 0, 0), 0⟩ _ _ w5 w' hR h5 ((F3.trans f4).trans f5) (above_nil _ _) fw)
        case b => (
          obtain rfl : c = 46 := (by rw [← UInt8.toNat_inj]; show c.toNat = 46; simp only [hd] at *; omega)
          rw [if_pos (by decide)] at hR
          refine began_calls h3 (fun hn w4 h4 f4 => ⟨rfl, ?_⟩) (fun hn at_ w4 f4 => ?_)
          rotate_left
          · rw [if_pos hn] at hR; exact hR _ _ (F3.trans f4)
          rw [if_neg (by omega)] at hR
          refine adv h4 hs fun w5 h5 f5 => ⟨by simp [hd, InR, IntKind.min, IntKind.max, IntKind.signed, IntKind.bits], ?_⟩
          rw [show ((hd (46 :: r) : Nat) : Int) = ((46 : Nat) : Int) from rfl, (by decide +kernel : Utf8.encode ((46 : Nat) : Int) = (⟨#[46]⟩ : ByteArray))]
          refine res3 (f5.blk (f4.blk G3 hne) hne) rfl fun w' fw _ => ?_
          exact fin _ ⟨⟨#[46]⟩, (none, 0, 0), 0⟩ _ _ w5 w' hR h5 ((F3.trans f4).trans f5) (above_nil _ _) fw)
        case c => (
          obtain rfl : c = 45 := (by rw [← UInt8.toNat_inj]; show c.toNat = 45; simp only [hd] at *; omega)
          rw [if_pos (by decide)] at hR
          refine began_calls h3 (fun hn w4 h4 f4 => ⟨rfl, ?_⟩) (fun hn at_ w4 f4 => ?_)
          rotate_left
          · rw [if_pos hn] at hR; exact hR _ _ (F3.trans f4)
          rw [if_neg (by omega)] at hR
          refine adv h4 hs fun w5 h5 f5 => ⟨by simp [hd, InR, IntKind.min, IntKind.max, IntKind.signed, IntKind.bits], ?_⟩
          rw [show ((hd (45 :: r) : Nat) : Int) = ((45 : Nat) : Int) from rfl, (by decide +kernel : Utf8.encode ((45 : Nat) : Int) = (⟨#[45]⟩ : ByteArray))]
          refine res3 (f5.blk (f4.blk G3 hne) hne) rfl fun w' fw _ => ?_
          exact fin _ ⟨⟨#[45]⟩, (none, 0, 0), 0⟩ _ _ w5 w' hR h5 ((F3.trans f4).trans f5) (above_nil _ _) fw)
        case d =>
          have c36 : c ≠ 36 := by rintro rfl; exact n36 rfl
          have c46 : c ≠ 46 := by rintro rfl; exact n46 rfl
          have c45 : c ≠ 45 := by rintro rfl; exact n45 rfl
          rw [if_neg (by simp [c36, c46, c45])] at hR
          refine brn (fun h40 => ?_) (fun h40 => ?_)
          · have c40 : c ≠ 40 := by rintro rfl; exact h40 rfl
            rw [if_pos c40] at hR
            refine nldA h3 ?_
            refine ok19 _ _ _ ?_
            unfold F19
            exact hR _ _ F3
          · have c40 : c = 40 := by rw [← UInt8.toNat_inj]; show c.toNat = 40; simp only [hd] at h40; omega
            subst c40
            exact ⟨r, rfl, h3, F3, G3⟩
end
end Go.Proofs.Ytkmoeokfgkmlhaa
/- The document's models: parts as the reference keeps them. -/
namespace Go.Mdl
set_option linter.unusedVariables false
set_option linter.unusedSimpArgs false
/-- A part with a kind, a sign, a name, rows. -/
inductive RPart where
  | mk (k s : Nat) (a : ByteArray) (rows : List (List RPart))
def kindOf (a : ByteArray) : Nat := if a = Br then 40 else if a = Dl then 36 else if a = Dt then 46 else if a = Mi then 45 else 97
def nmOf (a : ByteArray) : ByteArray := if kindOf a = 97 then a else ByteArray.empty
mutual
def qP : Part → RPart
  | .mk a rows s => .mk (kindOf a) s (nmOf a) (qC rows)
def qR : List Part → List RPart
  | [] => []
  | p :: ps => qP p :: qR ps
def qC : List (List Part) → List (List RPart)
  | [] => []
  | r :: rs => qR r :: qC rs
end
theorem qR_map : ∀ r, qR r = r.map qP
  | [] => by simp only [qR, List.map_nil]
  | p :: ps => by simp only [qR, List.map_cons, qR_map ps]
theorem qC_map : ∀ r, qC r = r.map qR
  | [] => by simp only [qC, List.map_nil]
  | p :: ps => by simp only [qC, List.map_cons, qC_map ps]
def plain2 : RPart → RPart
  | .mk k s a rows => match rows with
    | [[.mk k' s' a' rows']] => if k ≠ 40 then .mk k s a rows else if s = 0 then .mk k' s' a' rows' else if s' = 0 then .mk k' s a' rows' else .mk k s a rows
    | _ => .mk k s a rows
theorem kind_br (a : ByteArray) : kindOf a = 40 ↔ a = Br := by
  unfold kindOf
  constructor
  · intro h
    split at h
    · assumption
    · split at h
      · cases h
      · split at h
        · cases h
        · split at h <;> cases h
  · intro h; rw [if_pos h]
theorem plain2_same {k s : Nat} {a : ByteArray} {rows : List (List RPart)} (h : ∀ k' s' a' rows', rows ≠ [[.mk k' s' a' rows']]) : plain2 (.mk k s a rows) = .mk k s a rows := by
  unfold plain2
  dsimp only
  split
  · exact absurd rfl (h _ _ _ _)
  · rfl
theorem qC_one {rows : List (List Part)} {y : RPart} (h : qC rows = [[y]]) : ∃ p, rows = [[p]] := by
  rw [qC_map] at h
  obtain ⟨r, hr, h1⟩ := List.map_eq_singleton_iff.1 h
  subst hr
  rw [qR_map] at h1
  obtain ⟨p, hp, _⟩ := List.map_eq_singleton_iff.1 h1
  exact ⟨p, by rw [hp]⟩
theorem plain2_q (p : Part) : plain2 (qP p) = qP (plain p) := by
  obtain ⟨a, rows, s⟩ := p
  simp only [qP]
  by_cases ha : a = Br
  · subst ha
    have hk : kindOf Br = 40 := (kind_br _).2 rfl
    by_cases hc : ∃ p, rows = [[p]]
    · obtain ⟨⟨a', rows', s'⟩, rfl⟩ := hc
      simp only [qC, qR, qP, plain2, plain, hk, ne_eq, not_true_eq_false, if_false, if_true]
      by_cases h0 : s = 0
      · simp only [h0, if_true, qP]
      · simp only [h0, if_false]
        by_cases h1 : s' = 0
        · simp only [h1, if_true, qP]
        · simp only [h1, if_false, qP, qC, qR, hk]
    · rw [plain2_same fun k' s' a' rows' h => hc (qC_one h), plain_noCol fun _ a' r' s' e => absurd ⟨_, e⟩ hc]
      simp only [qP]
  · have hk : kindOf a ≠ 40 := fun h => ha ((kind_br a).1 h)
    have e1 : plain (.mk a rows s) = .mk a rows s := plain_noCol fun e => absurd e ha
    rw [e1]
    simp only [qP]
    generalize qC rows = q
    unfold plain2
    dsimp only
    split
    · rw [if_pos hk]
    · rfl
end Go.Mdl
namespace Go.Proofs.Ytkmoeokfgkmlhaa
open Go.RowKit Go.Vc Go.Mdl
set_option linter.unusedVariables false
/-- A part as it lies in memory. -/
structure E4 where
  k : Nat
  s : Nat
  a : ByteArray
  sl : Sv
def E4.cells (e : E4) : List Value := [.int .u8 e.k, .int .u8 e.s, .string e.a, .slice e.sl.1 e.sl.2.1 e.sl.2.2]
def LE4 : Lay E4 := ⟨4, E4.cells, fun _ => rfl, fun _ => by simp [E4.cells, Value.oneCell'], by decide⟩
mutual
def QdP (w : World) : RPart → E4 → Prop
  | .mk k s a rows, e => e.k = k ∧ e.s = s ∧ e.a = a ∧ ∃ vs, e.sl.2.1 = vs.length ∧ Rd LSv w e.sl.1 e.sl.2.2 vs ∧ QdL w rows vs
def QdR (w : World) : List RPart → List E4 → Prop
  | [], es => es = []
  | p :: ps, es => ∃ e es', es = e :: es' ∧ QdP w p e ∧ QdR w ps es'
def QdL (w : World) : List (List RPart) → List Sv → Prop
  | [], vs => vs = []
  | r :: rs, vs => ∃ v vs', vs = v :: vs' ∧ (∃ es, v.2.1 = es.length ∧ Rd LE4 w v.1 v.2.2 es ∧ QdR w r es) ∧ QdL w rs vs'
end
/-- Choices, in a slice. -/
def QdC (w : World) (rows : List (List RPart)) (v : Sv) : Prop := ∃ vs, v.2.1 = vs.length ∧ Rd LSv w v.1 v.2.2 vs ∧ QdL w rows vs
/-- A row. -/
def QdW (w : World) (r : List RPart) (v : Sv) : Prop := ∃ es, v.2.1 = es.length ∧ Rd LE4 w v.1 v.2.2 es ∧ QdR w r es
mutual
theorem QdP.sub {w w1 : World} (h : Sub w w1) : ∀ (p : RPart) (e : E4), QdP w p e → QdP w1 p e
  | .mk k s a rows, e, hp => by
    simp only [QdP] at hp ⊢
    obtain ⟨h1, h2, h0, vs, h3, h4, h5⟩ := hp
    exact ⟨h1, h2, h0, vs, h3, h.rd h4, QdL.sub h rows vs h5⟩
theorem QdR.sub {w w1 : World} (h : Sub w w1) : ∀ (p : List RPart) (e : List E4), QdR w p e → QdR w1 p e
  | [], es, hp => by simp only [QdR] at hp ⊢; exact hp
  | p :: ps, es, hp => by
    simp only [QdR] at hp ⊢
    obtain ⟨e, es', h1, h2, h3⟩ := hp
    exact ⟨e, es', h1, QdP.sub h p e h2, QdR.sub h ps es' h3⟩
theorem QdL.sub {w w1 : World} (h : Sub w w1) : ∀ (p : List (List RPart)) (e : List Sv), QdL w p e → QdL w1 p e
  | [], es, hp => by simp only [QdL] at hp ⊢; exact hp
  | p :: ps, es, hp => by
    simp only [QdL] at hp ⊢
    obtain ⟨e, es', h1, ⟨es, h2, h3, h4⟩, h5⟩ := hp
    exact ⟨e, es', h1, ⟨es, h2, h.rd h3, QdR.sub h p es h4⟩, QdL.sub h ps es' h5⟩
end
theorem QdC.sub {w w1 : World} (h : Sub w w1) {rows : List (List RPart)} {v : Sv} (hp : QdC w rows v) : QdC w1 rows v := by
  obtain ⟨vs, h1, h2, h3⟩ := hp; exact ⟨vs, h1, h.rd h2, QdL.sub h rows vs h3⟩
theorem QdW.sub {w w1 : World} (h : Sub w w1) {rows : List RPart} {v : Sv} (hp : QdW w rows v) : QdW w1 rows v := by
  obtain ⟨vs, h1, h2, h3⟩ := hp; exact ⟨vs, h1, h.rd h2, QdR.sub h rows vs h3⟩
theorem QdR.len {w : World} : ∀ {p : List RPart} {e : List E4}, QdR w p e → e.length = p.length
  | [], es, hp => by simp only [QdR] at hp; subst hp; rfl
  | p :: ps, es, hp => by
    simp only [QdR] at hp
    obtain ⟨e, es', rfl, _, h3⟩ := hp
    simp [h3.len]
theorem QdL.len {w : World} : ∀ {p : List (List RPart)} {e : List Sv}, QdL w p e → e.length = p.length
  | [], es, hp => by simp only [QdL] at hp; subst hp; rfl
  | p :: ps, es, hp => by
    simp only [QdL] at hp
    obtain ⟨e, es', rfl, _, h3⟩ := hp
    simp [h3.len]
theorem QdR.snoc {w : World} {q : RPart} {f : E4} (hq : QdP w q f) : ∀ {p : List RPart} {e : List E4}, QdR w p e → QdR w (p ++ [q]) (e ++ [f])
  | [], es, hp => by simp only [QdR] at hp; subst hp; simp only [List.nil_append, QdR]; exact ⟨f, [], rfl, hq, rfl⟩
  | p :: ps, es, hp => by
    simp only [QdR] at hp
    obtain ⟨e, es', rfl, h2, h3⟩ := hp
    simp only [List.cons_append, QdR]
    exact ⟨e, _, rfl, h2, QdR.snoc hq h3⟩
theorem QdL.snoc {w : World} {q : List RPart} {f : Sv} (hq : QdW w q f) : ∀ {p : List (List RPart)} {e : List Sv}, QdL w p e → QdL w (p ++ [q]) (e ++ [f])
  | [], es, hp => by simp only [QdL] at hp; subst hp; simp only [List.nil_append, QdL]; exact ⟨f, [], rfl, hq, rfl⟩
  | p :: ps, es, hp => by
    simp only [QdL] at hp
    obtain ⟨e, es', rfl, h2, h3⟩ := hp
    simp only [List.cons_append, QdL]
    exact ⟨e, _, rfl, h2, QdL.snoc hq h3⟩
theorem QdR.get {w : World} : ∀ {p : List RPart} {e : List E4}, QdR w p e → ∀ (i : Nat) (h : i < p.length) (h' : i < e.length), QdP w p[i] e[i]
  | [], es, _, i, h, _ => by simp at h
  | p :: ps, es, hp, i, h, h' => by
    simp only [QdR] at hp
    obtain ⟨e, es', rfl, h2, h3⟩ := hp
    cases i with
    | zero => exact h2
    | succ i => exact QdR.get h3 i (by simpa using h) (by simpa using h')
theorem QdL.get {w : World} : ∀ {p : List (List RPart)} {e : List Sv}, QdL w p e → ∀ (i : Nat) (h : i < p.length) (h' : i < e.length), QdW w p[i] e[i]
  | [], es, _, i, h, _ => by simp at h
  | p :: ps, es, hp, i, h, h' => by
    simp only [QdL] at hp
    obtain ⟨e, es', rfl, h2, h3⟩ := hp
    cases i with
    | zero => exact h2
    | succ i => exact QdL.get h3 i (by simpa using h) (by simpa using h')

def KP4 : Knd RPart E4 := ⟨LE4, QdR, QdP, fun h p e => QdR.sub h p e, fun h p e => QdP.sub h p e, fun _ => by simp only [QdR], fun h k => QdR.snoc k h, QdR.len⟩
def KW4 : Knd (List RPart) Sv := ⟨LSv, QdL, QdW, fun h p e => QdL.sub h p e, fun h p e => QdW.sub h, fun _ => by simp only [QdL], fun h k => QdL.snoc k h, QdL.len⟩
theorem Bld.bare {α β : Type} (N : Knd α β) (k : Nat) (e : TypeId) (w : World) (a : Addr) : Bld N k e w (.slice (some a) 0 0) [] := ⟨[], Own.bare _ _ _ _ _, N.nil _⟩
end Go.Proofs.Ytkmoeokfgkmlhaa
set_option linter.unusedVariables false
set_option maxRecDepth 100000
namespace Go.Proofs.Ytkmoeokfgkmlhaa
open Go.Vc
-- espalierref23.Parse
def F6_j9 (g12 : Addr) (x14 : Option Addr) (x14N : Nat) (x14C : Nat) (w_2 : World) (R : Ending → World → Prop) : Prop :=
 LdI .i64 (w_2.cell? (g12.add 4)) fun x38 =>
 Br (x38 != (0 : Int))
 (Dr w_2 fun w1_3 =>
 LdI .i64 (w1_3.cell? (g12.add 3)) fun x43 =>
 LdI .i64 (w1_3.cell? (g12.add 4)) fun x47 =>
 R (.returned (.tuple #[(.slice none 0 0), (.int .i64 x43), (.int .i64 x47)])) w1_3)
 (R (.returned (.tuple #[(.slice x14 x14N x14C), (.int .i64 0), (.int .i64 0)])) w_2)

def F6 (s : ByteArray) (w_ : World) (R : Ending → World → Prop) : Prop :=
 Br (decide (((s.size : Nat) : Int) > (1024 : Int)))
 (R (.returned (.tuple #[(.slice none 0 0), (.int .i64 0), (.int .i64 2)])) w_)
 (Al w_ #[(.string s), (.int .i64 0), (.int .i64 0), (.int .i64 0), (.int .i64 0)] 53 fun g12 w1 =>
 Calls Try.prog 21 #[(.pointer (some g12))] w1 (post R fun v w1_2 =>
 ∃ (x14 : Option Addr) (x14N : Nat) (x14C : Nat), v = (.slice x14 x14N x14C) ∧
 ∃ J9 : World → Prop, (∀  (w1_3 : World), J9 w1_3 → F6_j9 g12 x14 x14N x14C w1_3 R) ∧
 (LdI .i64 (w1_2.cell? (g12.add 4)) fun x18 =>
 Br (x18 == (0 : Int))
 (Calls Try.prog 22 #[(.pointer (some g12))] w1_2 (post R fun v2 w1_3 =>
 ∃ (x21 : Int), v2 = (.int .u8 x21) ∧
 LdI .i64 (w1_3.cell? (g12.add 1)) fun x25 =>
 Br (decide (x25 < ((s.size : Nat) : Int)))
 (LdI .i64 (w1_3.cell? (g12.add 1)) fun x33 =>
 Calls Try.prog 23 #[(.pointer (some g12)), (.int .i64 x33), (.int .i64 5)] w1_3 (post R fun v3 w1_4 =>
 v3 = (.tuple #[]) ∧
 J9 w1_4))
 (J9 w1_3)))
 (J9 w1_2))))

def pl6 : Plan := ⟨49, ⟨[]⟩, [(9, ⟨[], [(15, 35)]⟩)], []⟩

theorem eq6 (s : ByteArray) (w : World) (R : Ending → World → Prop) : F6 s w R = vc Try.prog Try.f6 pl6 R 100000 [.code (bodyOf Try.f6)] (argEnv 0 #[(.string s)].toList) w := by kernel_rfl

theorem ok6 (s : ByteArray) {w : World} {R : Ending → World → Prop} (h : F6 s w R) : Calls Try.prog 6 #[(.string s)] w R :=
  vc_calls (pl := pl6) Try.func6 (by kernel_rfl) (by kernel_rfl) (by kernel_rfl) (Eq.mp (eq6 s w R) h)

-- (*espalierref23.reader).choices
def F21_j6 (r : Option Addr) (L2 : Option Addr → Nat → Nat → World → Prop) (x14 : Option Addr) (x14N : Nat) (x14C : Nat) (w_3 : World) (R : Ending → World → Prop) : Prop :=
 Calls Try.prog 38 #[(.pointer r)] w_3 (post R fun v3 w1_5 =>
 v3 = (.tuple #[]) ∧
 NonNil r fun p29 =>
 LdI .i64 (w1_5.cell? (p29.add 1)) fun x31 =>
 InR .i64 (x31 + (1 : Int)) ∧ NonNil r fun p33 =>
 St w1_5 (p33.add 1) (.int .i64 (x31 + (1 : Int))) fun w1_6 =>
 L2 x14 x14N x14C w1_6)

def F21_l2 (r : Option Addr) (L2 : Option Addr → Nat → Nat → World → Prop) (rows : Option Addr) (rowsN : Nat) (rowsC : Nat) (w_2 : World) (R : Ending → World → Prop) : Prop :=
 NonNil r fun p6 =>
 LdI .i64 (w_2.cell? (p6.add 4)) fun x8 =>
 Br (x8 == (0 : Int))
 (Calls Try.prog 37 #[(.pointer r)] w_2 (post R fun v w1_2 =>
 ∃ (x12 : Option Addr) (x12N : Nat) (x12C : Nat), v = (.slice x12 x12N x12C) ∧
 Al w1_2 #[(.slice x12 x12N x12C)] 62 fun g13 w1_3 =>
 Raw Try.prog (Builtin.append_ #[27, 27] 27 #[(.slice rows rowsN rowsC), (.slice (some g13) 1 1)]) w1_3 fun v2 w1_4 =>
 ∃ (x14 : Option Addr) (x14N : Nat) (x14C : Nat), v2 = (.slice x14 x14N x14C) ∧
 ∃ J6 : World → Prop, (∀  (w1_5 : World), J6 w1_5 → F21_j6 r L2 x14 x14N x14C w1_5 R) ∧
 (NonNil r fun p16 =>
 LdI .i64 (w1_4.cell? (p16.add 4)) fun x18 =>
 Br (x18 != (0 : Int))
 (R (.returned (.slice x14 x14N x14C)) w1_4)
 (Calls Try.prog 22 #[(.pointer r)] w1_4 (post R fun v3 w1_5 =>
 ∃ (x22 : Int), v3 = (.int .u8 x22) ∧
 Br (x22 != (124 : Int))
 (R (.returned (.slice x14 x14N x14C)) w1_5)
 (J6 w1_5))))))
 (R (.returned (.slice rows rowsN rowsC)) w_2)

def F21 (r : Option Addr) (w_ : World) (R : Ending → World → Prop) : Prop :=
 Al w_ #[] 62 fun g4 w1 =>
 ∃ (I : Option Addr → Nat → Nat → World → Prop) (m : Option Addr → Nat → Nat → World → Nat), I (some g4) 0 0 w1 ∧
 ∀ (rows : Option Addr) (rowsN : Nat) (rowsC : Nat) (w1_2 : World), I rows rowsN rowsC w1_2 → F21_l2 r (fun rows' rowsN' rowsC' w2 => I rows' rowsN' rowsC' w2 ∧ m rows' rowsN' rowsC' w2 < m rows rowsN rowsC w1_2) rows rowsN rowsC w1_2 R

def pl21 : Plan := ⟨36, ⟨[]⟩, [(6, ⟨[], [(2, 3), (15, 26)]⟩)], [(2, ⟨[(3, (.s .slice))], [(2, 35)]⟩)]⟩

theorem eq21 (r : Option Addr) (w : World) (R : Ending → World → Prop) : F21 r w R = vc Try.prog Try.f21 pl21 R 100000 [.code (bodyOf Try.f21)] (argEnv 0 #[(.pointer r)].toList) w := by kernel_rfl

theorem ok21 (r : Option Addr) {w : World} {R : Ending → World → Prop} (h : F21 r w R) : Calls Try.prog 21 #[(.pointer r)] w R :=
  vc_calls (pl := pl21) Try.func21 (by kernel_rfl) (by kernel_rfl) (by kernel_rfl) (Eq.mp (eq21 r w R) h)

-- (*espalierref23.reader).row
def F37_j6 (r : Option Addr) (L2 : Option Addr → Nat → Nat → World → Prop) (x14 : Option Addr) (x14N : Nat) (x14C : Nat) (w_3 : World) (R : Ending → World → Prop) : Prop :=
 Calls Try.prog 38 #[(.pointer r)] w_3 (post R fun v3 w1_5 =>
 v3 = (.tuple #[]) ∧
 NonNil r fun p29 =>
 LdI .i64 (w1_5.cell? (p29.add 1)) fun x31 =>
 InR .i64 (x31 + (1 : Int)) ∧ NonNil r fun p33 =>
 St w1_5 (p33.add 1) (.int .i64 (x31 + (1 : Int))) fun w1_6 =>
 L2 x14 x14N x14C w1_6)

def F37_l2 (r : Option Addr) (L2 : Option Addr → Nat → Nat → World → Prop) (l : Option Addr) (lN : Nat) (lC : Nat) (w_2 : World) (R : Ending → World → Prop) : Prop :=
 NonNil r fun p6 =>
 LdI .i64 (w_2.cell? (p6.add 4)) fun x8 =>
 Br (x8 == (0 : Int))
 (Calls Try.prog 52 #[(.pointer r)] w_2 (post R fun v w1_2 =>
 ∃ (x12_0 : Int) (x12_1 : Int) (x12_2 : ByteArray) (x12_3 : Option Addr) (x12_3N : Nat) (x12_3C : Nat), v = (.agg #[(.int .u8 x12_0), (.int .u8 x12_1), (.string x12_2), (.slice x12_3 x12_3N x12_3C)]) ∧
 Al w1_2 #[(.int .u8 x12_0), (.int .u8 x12_1), (.string x12_2), (.slice x12_3 x12_3N x12_3C)] 75 fun g13 w1_3 =>
 Raw Try.prog (Builtin.append_ #[62, 62] 62 #[(.slice l lN lC), (.slice (some g13) 1 1)]) w1_3 fun v2 w1_4 =>
 ∃ (x14 : Option Addr) (x14N : Nat) (x14C : Nat), v2 = (.slice x14 x14N x14C) ∧
 ∃ J6 : World → Prop, (∀  (w1_5 : World), J6 w1_5 → F37_j6 r L2 x14 x14N x14C w1_5 R) ∧
 (NonNil r fun p16 =>
 LdI .i64 (w1_4.cell? (p16.add 4)) fun x18 =>
 Br (x18 != (0 : Int))
 (R (.returned (.slice x14 x14N x14C)) w1_4)
 (Calls Try.prog 22 #[(.pointer r)] w1_4 (post R fun v3 w1_5 =>
 ∃ (x22 : Int), v3 = (.int .u8 x22) ∧
 Br (x22 != (44 : Int))
 (R (.returned (.slice x14 x14N x14C)) w1_5)
 (J6 w1_5))))))
 (R (.returned (.slice l lN lC)) w_2)

def F37 (r : Option Addr) (w_ : World) (R : Ending → World → Prop) : Prop :=
 Al w_ #[] 75 fun g4 w1 =>
 ∃ (I : Option Addr → Nat → Nat → World → Prop) (m : Option Addr → Nat → Nat → World → Nat), I (some g4) 0 0 w1 ∧
 ∀ (l : Option Addr) (lN : Nat) (lC : Nat) (w1_2 : World), I l lN lC w1_2 → F37_l2 r (fun l' lN' lC' w2 => I l' lN' lC' w2 ∧ m l' lN' lC' w2 < m l lN lC w1_2) l lN lC w1_2 R

def pl37 : Plan := ⟨36, ⟨[]⟩, [(6, ⟨[], [(2, 3), (15, 26)]⟩)], [(2, ⟨[(3, (.s .slice))], [(2, 35)]⟩)]⟩

theorem eq37 (r : Option Addr) (w : World) (R : Ending → World → Prop) : F37 r w R = vc Try.prog Try.f37 pl37 R 100000 [.code (bodyOf Try.f37)] (argEnv 0 #[(.pointer r)].toList) w := by kernel_rfl

theorem ok37 (r : Option Addr) {w : World} {R : Ending → World → Prop} (h : F37 r w R) : Calls Try.prog 37 #[(.pointer r)] w R :=
  vc_calls (pl := pl37) Try.func37 (by kernel_rfl) (by kernel_rfl) (by kernel_rfl) (Eq.mp (eq37 r w R) h)

-- (*espalierref23.reader).part
def F52_j5 (r : Option Addr) (g2 : Addr) (p : Addr) (x8 : Int) (w_2 : World) (R : Ending → World → Prop) : Prop :=
 Calls Try.prog 38 #[(.pointer r)] w_2 (post R fun v3 w1_9 =>
 v3 = (.tuple #[]) ∧
 NonNil r fun p43 =>
 LdI .i64 (w1_9.cell? (p43.add 1)) fun x45 =>
 InR .i64 (x45 + (1 : Int)) ∧ NonNil r fun p47 =>
 St w1_9 (p47.add 1) (.int .i64 (x45 + (1 : Int))) fun w1_10 =>
 St w1_10 (p.add 1) (.int .u8 x8) fun w1_11 =>
 LdI .u8 (w1_11.cell? p) fun x51_0 =>
 LdI .u8 (w1_11.cell? (p.add 1)) fun x51_1 =>
 LdStr (w1_11.cell? (p.add 2)) fun x51_2 =>
 LdSl (w1_11.cell? (p.add 3)) fun x51_3 x51_3N x51_3C =>
 Calls Try.prog 75 #[(.agg #[(.int .u8 x51_0), (.int .u8 x51_1), (.string x51_2), (.slice x51_3 x51_3N x51_3C)])] w1_11 (post R fun v4 w1_12 =>
 ∃ (x52_0 : Int) (x52_1 : Int) (x52_2 : ByteArray) (x52_3 : Option Addr) (x52_3N : Nat) (x52_3C : Nat), v4 = (.agg #[(.int .u8 x52_0), (.int .u8 x52_1), (.string x52_2), (.slice x52_3 x52_3N x52_3C)]) ∧
 St w1_12 g2 (.int .u8 x52_0) fun w1_13 =>
 St w1_13 (g2.add 1) (.int .u8 x52_1) fun w1_14 =>
 St w1_14 (g2.add 2) (.string x52_2) fun w1_15 =>
 St w1_15 (g2.add 3) (.slice x52_3 x52_3N x52_3C) fun w1_16 =>
 LdI .u8 (w1_16.cell? g2) fun res0_0 =>
 LdI .u8 (w1_16.cell? (g2.add 1)) fun res0_1 =>
 LdStr (w1_16.cell? (g2.add 2)) fun res0_2 =>
 LdSl (w1_16.cell? (g2.add 3)) fun res0_3 res0_3N res0_3C =>
 R (.returned (.agg #[(.int .u8 res0_0), (.int .u8 res0_1), (.string res0_2), (.slice res0_3 res0_3N res0_3C)])) w1_16))

def F52 (r : Option Addr) (w_ : World) (R : Ending → World → Prop) : Prop :=
 Al w_ #[(.int .u8 0), (.int .u8 0), (.string (ByteArray.mk #[])), (.slice none 0 0)] 75 fun g2 w1 =>
 Calls Try.prog 74 #[(.pointer r)] w1 (post R fun v w1_2 =>
 ∃ (x6_0 : Int) (x6_1 : Int) (x6_2 : ByteArray) (x6_3 : Option Addr) (x6_3N : Nat) (x6_3C : Nat), v = (.agg #[(.int .u8 x6_0), (.int .u8 x6_1), (.string x6_2), (.slice x6_3 x6_3N x6_3C)]) ∧
 Al w1_2 #[(.int .u8 0), (.int .u8 0), (.string (ByteArray.mk #[])), (.slice none 0 0)] 75 fun p w1_3 =>
 St w1_3 p (.int .u8 x6_0) fun w1_4 =>
 St w1_4 (p.add 1) (.int .u8 x6_1) fun w1_5 =>
 St w1_5 (p.add 2) (.string x6_2) fun w1_6 =>
 St w1_6 (p.add 3) (.slice x6_3 x6_3N x6_3C) fun w1_7 =>
 Calls Try.prog 22 #[(.pointer r)] w1_7 (post R fun v2 w1_8 =>
 ∃ (x8 : Int), v2 = (.int .u8 x8) ∧
 ∃ J5 : World → Prop, (∀  (w1_9 : World), J5 w1_9 → F52_j5 r g2 p x8 w1_9 R) ∧
 (Dr w1_8 fun w1_9 =>
 NonNil r fun p10 =>
 LdI .i64 (w1_9.cell? (p10.add 4)) fun x12 =>
 Br (x12 != (0 : Int))
 (LdI .u8 (w1_9.cell? p) fun x38_0 =>
 LdI .u8 (w1_9.cell? (p.add 1)) fun x38_1 =>
 LdStr (w1_9.cell? (p.add 2)) fun x38_2 =>
 LdSl (w1_9.cell? (p.add 3)) fun x38_3 x38_3N x38_3C =>
 Calls Try.prog 75 #[(.agg #[(.int .u8 x38_0), (.int .u8 x38_1), (.string x38_2), (.slice x38_3 x38_3N x38_3C)])] w1_9 (post R fun v3 w1_10 =>
 ∃ (x39_0 : Int) (x39_1 : Int) (x39_2 : ByteArray) (x39_3 : Option Addr) (x39_3N : Nat) (x39_3C : Nat), v3 = (.agg #[(.int .u8 x39_0), (.int .u8 x39_1), (.string x39_2), (.slice x39_3 x39_3N x39_3C)]) ∧
 St w1_10 g2 (.int .u8 x39_0) fun w1_11 =>
 St w1_11 (g2.add 1) (.int .u8 x39_1) fun w1_12 =>
 St w1_12 (g2.add 2) (.string x39_2) fun w1_13 =>
 St w1_13 (g2.add 3) (.slice x39_3 x39_3N x39_3C) fun w1_14 =>
 LdI .u8 (w1_14.cell? g2) fun res0_0 =>
 LdI .u8 (w1_14.cell? (g2.add 1)) fun res0_1 =>
 LdStr (w1_14.cell? (g2.add 2)) fun res0_2 =>
 LdSl (w1_14.cell? (g2.add 3)) fun res0_3 res0_3N res0_3C =>
 R (.returned (.agg #[(.int .u8 res0_0), (.int .u8 res0_1), (.string res0_2), (.slice res0_3 res0_3N res0_3C)])) w1_14))
 (NonNil r fun p16 =>
 LdI .i64 (w1_9.cell? (p16.add 1)) fun x18 =>
 NonNil r fun p20 =>
 LdStr (w1_9.cell? p20) fun x22 =>
 Br (x18 == ((x22.size : Nat) : Int))
 (LdI .u8 (w1_9.cell? p) fun x38_0 =>
 LdI .u8 (w1_9.cell? (p.add 1)) fun x38_1 =>
 LdStr (w1_9.cell? (p.add 2)) fun x38_2 =>
 LdSl (w1_9.cell? (p.add 3)) fun x38_3 x38_3N x38_3C =>
 Calls Try.prog 75 #[(.agg #[(.int .u8 x38_0), (.int .u8 x38_1), (.string x38_2), (.slice x38_3 x38_3N x38_3C)])] w1_9 (post R fun v3 w1_10 =>
 ∃ (x39_0 : Int) (x39_1 : Int) (x39_2 : ByteArray) (x39_3 : Option Addr) (x39_3N : Nat) (x39_3C : Nat), v3 = (.agg #[(.int .u8 x39_0), (.int .u8 x39_1), (.string x39_2), (.slice x39_3 x39_3N x39_3C)]) ∧
 St w1_10 g2 (.int .u8 x39_0) fun w1_11 =>
 St w1_11 (g2.add 1) (.int .u8 x39_1) fun w1_12 =>
 St w1_12 (g2.add 2) (.string x39_2) fun w1_13 =>
 St w1_13 (g2.add 3) (.slice x39_3 x39_3N x39_3C) fun w1_14 =>
 LdI .u8 (w1_14.cell? g2) fun res0_0 =>
 LdI .u8 (w1_14.cell? (g2.add 1)) fun res0_1 =>
 LdStr (w1_14.cell? (g2.add 2)) fun res0_2 =>
 LdSl (w1_14.cell? (g2.add 3)) fun res0_3 res0_3N res0_3C =>
 R (.returned (.agg #[(.int .u8 res0_0), (.int .u8 res0_1), (.string res0_2), (.slice res0_3 res0_3N res0_3C)])) w1_14))
 (Br (x8 != (63 : Int))
 (Br (x8 != (42 : Int))
 (Br (x8 != (43 : Int))
 (LdI .u8 (w1_9.cell? p) fun x38_0 =>
 LdI .u8 (w1_9.cell? (p.add 1)) fun x38_1 =>
 LdStr (w1_9.cell? (p.add 2)) fun x38_2 =>
 LdSl (w1_9.cell? (p.add 3)) fun x38_3 x38_3N x38_3C =>
 Calls Try.prog 75 #[(.agg #[(.int .u8 x38_0), (.int .u8 x38_1), (.string x38_2), (.slice x38_3 x38_3N x38_3C)])] w1_9 (post R fun v3 w1_10 =>
 ∃ (x39_0 : Int) (x39_1 : Int) (x39_2 : ByteArray) (x39_3 : Option Addr) (x39_3N : Nat) (x39_3C : Nat), v3 = (.agg #[(.int .u8 x39_0), (.int .u8 x39_1), (.string x39_2), (.slice x39_3 x39_3N x39_3C)]) ∧
 St w1_10 g2 (.int .u8 x39_0) fun w1_11 =>
 St w1_11 (g2.add 1) (.int .u8 x39_1) fun w1_12 =>
 St w1_12 (g2.add 2) (.string x39_2) fun w1_13 =>
 St w1_13 (g2.add 3) (.slice x39_3 x39_3N x39_3C) fun w1_14 =>
 LdI .u8 (w1_14.cell? g2) fun res0_0 =>
 LdI .u8 (w1_14.cell? (g2.add 1)) fun res0_1 =>
 LdStr (w1_14.cell? (g2.add 2)) fun res0_2 =>
 LdSl (w1_14.cell? (g2.add 3)) fun res0_3 res0_3N res0_3C =>
 R (.returned (.agg #[(.int .u8 res0_0), (.int .u8 res0_1), (.string res0_2), (.slice res0_3 res0_3N res0_3C)])) w1_14))
 (J5 w1_9))
 (J5 w1_9))
 (J5 w1_9))))))

def pl52 : Plan := ⟨53, ⟨[]⟩, [(5, ⟨[], [(9, 40)]⟩)], []⟩

theorem eq52 (r : Option Addr) (w : World) (R : Ending → World → Prop) : F52 r w R = vc Try.prog Try.f52 pl52 R 100000 [.code (bodyOf Try.f52)] (argEnv 0 #[(.pointer r)].toList) w := by kernel_rfl

theorem ok52 (r : Option Addr) {w : World} {R : Ending → World → Prop} (h : F52 r w R) : Calls Try.prog 52 #[(.pointer r)] w R :=
  vc_calls (pl := pl52) Try.func52 (by kernel_rfl) (by kernel_rfl) (by kernel_rfl) (Eq.mp (eq52 r w R) h)

-- espalierref23.plain
def F75_j3 (p : Addr) (g2 : Addr) (w_2 : World) (R : Ending → World → Prop) : Prop :=
 LdSl (w_2.cell? (p.add 3)) fun x23 x23N x23C =>
 IdxA x23 x23N (0 : Int) 1 fun q24 =>
 LdSl (w_2.cell? q24) fun x25 x25N x25C =>
 IdxA x25 x25N (0 : Int) 4 fun q26 =>
 LdI .u8 (w_2.cell? q26) fun x27_0 =>
 LdI .u8 (w_2.cell? (q26.add 1)) fun x27_1 =>
 LdStr (w_2.cell? (q26.add 2)) fun x27_2 =>
 LdSl (w_2.cell? (q26.add 3)) fun x27_3 x27_3N x27_3C =>
 Al w_2 #[(.int .u8 0), (.int .u8 0), (.string (ByteArray.mk #[])), (.slice none 0 0)] 75 fun q w1_3 =>
 St w1_3 q (.int .u8 x27_0) fun w1_4 =>
 St w1_4 (q.add 1) (.int .u8 x27_1) fun w1_5 =>
 St w1_5 (q.add 2) (.string x27_2) fun w1_6 =>
 St w1_6 (q.add 3) (.slice x27_3 x27_3N x27_3C) fun w1_7 =>
 LdI .u8 (w1_7.cell? (p.add 1)) fun x29 =>
 Br (x29 == (0 : Int))
 (LdI .u8 (w1_7.cell? q) fun x31_0 =>
 LdI .u8 (w1_7.cell? (q.add 1)) fun x31_1 =>
 LdStr (w1_7.cell? (q.add 2)) fun x31_2 =>
 LdSl (w1_7.cell? (q.add 3)) fun x31_3 x31_3N x31_3C =>
 St w1_7 g2 (.int .u8 x31_0) fun w1_8 =>
 St w1_8 (g2.add 1) (.int .u8 x31_1) fun w1_9 =>
 St w1_9 (g2.add 2) (.string x31_2) fun w1_10 =>
 St w1_10 (g2.add 3) (.slice x31_3 x31_3N x31_3C) fun w1_11 =>
 LdI .u8 (w1_11.cell? g2) fun res0_0 =>
 LdI .u8 (w1_11.cell? (g2.add 1)) fun res0_1 =>
 LdStr (w1_11.cell? (g2.add 2)) fun res0_2 =>
 LdSl (w1_11.cell? (g2.add 3)) fun res0_3 res0_3N res0_3C =>
 R (.returned (.agg #[(.int .u8 res0_0), (.int .u8 res0_1), (.string res0_2), (.slice res0_3 res0_3N res0_3C)])) w1_11)
 (LdI .u8 (w1_7.cell? (q.add 1)) fun x33 =>
 Br (x33 == (0 : Int))
 (LdI .u8 (w1_7.cell? (p.add 1)) fun x36 =>
 St w1_7 (q.add 1) (.int .u8 x36) fun w1_8 =>
 LdI .u8 (w1_8.cell? q) fun x38_0 =>
 LdI .u8 (w1_8.cell? (q.add 1)) fun x38_1 =>
 LdStr (w1_8.cell? (q.add 2)) fun x38_2 =>
 LdSl (w1_8.cell? (q.add 3)) fun x38_3 x38_3N x38_3C =>
 St w1_8 g2 (.int .u8 x38_0) fun w1_9 =>
 St w1_9 (g2.add 1) (.int .u8 x38_1) fun w1_10 =>
 St w1_10 (g2.add 2) (.string x38_2) fun w1_11 =>
 St w1_11 (g2.add 3) (.slice x38_3 x38_3N x38_3C) fun w1_12 =>
 LdI .u8 (w1_12.cell? g2) fun res0_0 =>
 LdI .u8 (w1_12.cell? (g2.add 1)) fun res0_1 =>
 LdStr (w1_12.cell? (g2.add 2)) fun res0_2 =>
 LdSl (w1_12.cell? (g2.add 3)) fun res0_3 res0_3N res0_3C =>
 R (.returned (.agg #[(.int .u8 res0_0), (.int .u8 res0_1), (.string res0_2), (.slice res0_3 res0_3N res0_3C)])) w1_12)
 (LdI .u8 (w1_7.cell? p) fun x39_0 =>
 LdI .u8 (w1_7.cell? (p.add 1)) fun x39_1 =>
 LdStr (w1_7.cell? (p.add 2)) fun x39_2 =>
 LdSl (w1_7.cell? (p.add 3)) fun x39_3 x39_3N x39_3C =>
 St w1_7 g2 (.int .u8 x39_0) fun w1_8 =>
 St w1_8 (g2.add 1) (.int .u8 x39_1) fun w1_9 =>
 St w1_9 (g2.add 2) (.string x39_2) fun w1_10 =>
 St w1_10 (g2.add 3) (.slice x39_3 x39_3N x39_3C) fun w1_11 =>
 LdI .u8 (w1_11.cell? g2) fun res0_0 =>
 LdI .u8 (w1_11.cell? (g2.add 1)) fun res0_1 =>
 LdStr (w1_11.cell? (g2.add 2)) fun res0_2 =>
 LdSl (w1_11.cell? (g2.add 3)) fun res0_3 res0_3N res0_3C =>
 R (.returned (.agg #[(.int .u8 res0_0), (.int .u8 res0_1), (.string res0_2), (.slice res0_3 res0_3N res0_3C)])) w1_11))

def F75 (p_0 : Int) (p_1 : Int) (p_2 : ByteArray) (p_3 : Option Addr) (p_3N : Nat) (p_3C : Nat) (w_ : World) (R : Ending → World → Prop) : Prop :=
 Al w_ #[(.int .u8 p_0), (.int .u8 p_1), (.string p_2), (.slice p_3 p_3N p_3C)] 75 fun p w1 =>
 Al w1 #[(.int .u8 0), (.int .u8 0), (.string (ByteArray.mk #[])), (.slice none 0 0)] 75 fun g2 w1_2 =>
 ∃ J3 : World → Prop, (∀  (w1_3 : World), J3 w1_3 → F75_j3 p g2 w1_3 R) ∧
 (LdI .u8 (w1_2.cell? p) fun x5 =>
 Br (x5 != (40 : Int))
 (LdI .u8 (w1_2.cell? p) fun x21_0 =>
 LdI .u8 (w1_2.cell? (p.add 1)) fun x21_1 =>
 LdStr (w1_2.cell? (p.add 2)) fun x21_2 =>
 LdSl (w1_2.cell? (p.add 3)) fun x21_3 x21_3N x21_3C =>
 St w1_2 g2 (.int .u8 x21_0) fun w1_3 =>
 St w1_3 (g2.add 1) (.int .u8 x21_1) fun w1_4 =>
 St w1_4 (g2.add 2) (.string x21_2) fun w1_5 =>
 St w1_5 (g2.add 3) (.slice x21_3 x21_3N x21_3C) fun w1_6 =>
 LdI .u8 (w1_6.cell? g2) fun res0_0 =>
 LdI .u8 (w1_6.cell? (g2.add 1)) fun res0_1 =>
 LdStr (w1_6.cell? (g2.add 2)) fun res0_2 =>
 LdSl (w1_6.cell? (g2.add 3)) fun res0_3 res0_3N res0_3C =>
 R (.returned (.agg #[(.int .u8 res0_0), (.int .u8 res0_1), (.string res0_2), (.slice res0_3 res0_3N res0_3C)])) w1_6)
 (LdSl (w1_2.cell? (p.add 3)) fun x9 x9N x9C =>
 Br (((x9N : Nat) : Int) != (1 : Int))
 (LdI .u8 (w1_2.cell? p) fun x21_0 =>
 LdI .u8 (w1_2.cell? (p.add 1)) fun x21_1 =>
 LdStr (w1_2.cell? (p.add 2)) fun x21_2 =>
 LdSl (w1_2.cell? (p.add 3)) fun x21_3 x21_3N x21_3C =>
 St w1_2 g2 (.int .u8 x21_0) fun w1_3 =>
 St w1_3 (g2.add 1) (.int .u8 x21_1) fun w1_4 =>
 St w1_4 (g2.add 2) (.string x21_2) fun w1_5 =>
 St w1_5 (g2.add 3) (.slice x21_3 x21_3N x21_3C) fun w1_6 =>
 LdI .u8 (w1_6.cell? g2) fun res0_0 =>
 LdI .u8 (w1_6.cell? (g2.add 1)) fun res0_1 =>
 LdStr (w1_6.cell? (g2.add 2)) fun res0_2 =>
 LdSl (w1_6.cell? (g2.add 3)) fun res0_3 res0_3N res0_3C =>
 R (.returned (.agg #[(.int .u8 res0_0), (.int .u8 res0_1), (.string res0_2), (.slice res0_3 res0_3N res0_3C)])) w1_6)
 (LdSl (w1_2.cell? (p.add 3)) fun x15 x15N x15C =>
 IdxA x15 x15N (0 : Int) 1 fun q16 =>
 LdSl (w1_2.cell? q16) fun x17 x17N x17C =>
 Br (((x17N : Nat) : Int) != (1 : Int))
 (LdI .u8 (w1_2.cell? p) fun x21_0 =>
 LdI .u8 (w1_2.cell? (p.add 1)) fun x21_1 =>
 LdStr (w1_2.cell? (p.add 2)) fun x21_2 =>
 LdSl (w1_2.cell? (p.add 3)) fun x21_3 x21_3N x21_3C =>
 St w1_2 g2 (.int .u8 x21_0) fun w1_3 =>
 St w1_3 (g2.add 1) (.int .u8 x21_1) fun w1_4 =>
 St w1_4 (g2.add 2) (.string x21_2) fun w1_5 =>
 St w1_5 (g2.add 3) (.slice x21_3 x21_3N x21_3C) fun w1_6 =>
 LdI .u8 (w1_6.cell? g2) fun res0_0 =>
 LdI .u8 (w1_6.cell? (g2.add 1)) fun res0_1 =>
 LdStr (w1_6.cell? (g2.add 2)) fun res0_2 =>
 LdSl (w1_6.cell? (g2.add 3)) fun res0_3 res0_3N res0_3C =>
 R (.returned (.agg #[(.int .u8 res0_0), (.int .u8 res0_1), (.string res0_2), (.slice res0_3 res0_3N res0_3C)])) w1_6)
 (J3 w1_2))))

def pl75 : Plan := ⟨40, ⟨[]⟩, [(3, ⟨[], [(4, 22)]⟩)], []⟩

theorem eq75 (p_0 : Int) (p_1 : Int) (p_2 : ByteArray) (p_3 : Option Addr) (p_3N : Nat) (p_3C : Nat) (w : World) (R : Ending → World → Prop) : F75 p_0 p_1 p_2 p_3 p_3N p_3C w R = vc Try.prog Try.f75 pl75 R 100000 [.code (bodyOf Try.f75)] (argEnv 0 #[(.agg #[(.int .u8 p_0), (.int .u8 p_1), (.string p_2), (.slice p_3 p_3N p_3C)])].toList) w := by kernel_rfl

theorem ok75 (p_0 : Int) (p_1 : Int) (p_2 : ByteArray) (p_3 : Option Addr) (p_3N : Nat) (p_3C : Nat) {w : World} {R : Ending → World → Prop} (h : F75 p_0 p_1 p_2 p_3 p_3N p_3C w R) : Calls Try.prog 75 #[(.agg #[(.int .u8 p_0), (.int .u8 p_1), (.string p_2), (.slice p_3 p_3N p_3C)])] w R :=
  vc_calls (pl := pl75) Try.func75 (by kernel_rfl) (by kernel_rfl) (by kernel_rfl) (Eq.mp (eq75 p_0 p_1 p_2 p_3 p_3N p_3C w R) h)

-- (*espalierref23.reader).atom
def F74_j18 (g2 : Addr) (x64 : Int) (x99 : ByteArray) (x104 : Int) (w_4 : World) (R : Ending → World → Prop) : Prop :=
 St w_4 g2 (.int .u8 97) fun w1_7 =>
 St w1_7 (g2.add 1) (.int .u8 0) fun w1_8 =>
 St w1_8 (g2.add 2) (.string (x99.extract (x64).toNat (x104).toNat)) fun w1_9 =>
 St w1_9 (g2.add 3) (.slice none 0 0) fun w1_10 =>
 LdI .u8 (w1_10.cell? g2) fun res0_0 =>
 LdI .u8 (w1_10.cell? (g2.add 1)) fun res0_1 =>
 LdStr (w1_10.cell? (g2.add 2)) fun res0_2 =>
 LdSl (w1_10.cell? (g2.add 3)) fun res0_3 res0_3N res0_3C =>
 R (.returned (.agg #[(.int .u8 res0_0), (.int .u8 res0_1), (.string res0_2), (.slice res0_3 res0_3N res0_3C)])) w1_10

def F74_j15 (r : Option Addr) (g2 : Addr) (x64 : Int) (w_3 : World) (R : Ending → World → Prop) : Prop :=
 Dr w_3 fun w1_6 =>
 NonNil r fun p97 =>
 LdStr (w1_6.cell? p97) fun x99 =>
 NonNil r fun p102 =>
 LdI .i64 (w1_6.cell? (p102.add 1)) fun x104 =>
 SlB x64 x104 ((x99.size : Nat) : Int)
 (∃ J18 : World → Prop, (∀  (w1_7 : World), J18 w1_7 → F74_j18 g2 x64 x99 x104 w1_7 R) ∧
 (Calls Try.prog 89 #[(.string (x99.extract (x64).toNat (x104).toNat))] w1_6 (post R fun v4 w1_7 =>
 ∃ (x107 : Bool), v4 = (.bool x107) ∧
 Br (!x107)
 (Calls Try.prog 23 #[(.pointer r), (.int .i64 x64), (.int .i64 6)] w1_7 (post R fun v5 w1_8 =>
 v5 = (.tuple #[]) ∧
 J18 w1_8))
 (J18 w1_7))))

def F74_j14 (r : Option Addr) (L13 : World → Prop) (w_4 : World) (R : Ending → World → Prop) : Prop :=
 NonNil r fun p90 =>
 LdI .i64 (w_4.cell? (p90.add 1)) fun x92 =>
 InR .i64 (x92 + (1 : Int)) ∧ NonNil r fun p94 =>
 St w_4 (p94.add 1) (.int .i64 (x92 + (1 : Int))) fun w1_6 =>
 L13 w1_6

def F74_l13 (r : Option Addr) (J15 : World → Prop) (L13 : World → Prop) (w_3 : World) (R : Ending → World → Prop) : Prop :=
 ∃ J14 : World → Prop, (∀  (w1_6 : World), J14 w1_6 → F74_j14 r L13 w1_6 R) ∧
 (∃ S : World → Prop, S w_3.drew ∧ NonNil r fun p68 =>
 ∃ (x70 : Int), Held S (p68.add 1) (.int .i64 x70) ∧ NonNil r fun p72 =>
 ∃ (x74 : ByteArray), Held S p72 (.string x74) ∧ Br (decide (x70 < ((x74.size : Nat) : Int)))
 (NonNil r fun p79 =>
 ∃ (x81 : ByteArray), Held S p79 (.string x81) ∧ NonNil r fun p83 =>
 ∃ (x85 : Int), Held S (p83.add 1) (.int .i64 x85) ∧ IdxS x81 x85 fun c86 =>
 Calls Try.prog 88 #[(.int .u8 c86)] w_3.drew (post R fun v4 w1_7 =>
 ∃ (x87 : Bool), v4 = (.bool x87) ∧
 Br x87
 (J14 w1_7)
 (J15 w1_7)))
 (J15 w_3.drew))

def F74_j31 (g2 : Addr) (p : Addr) (w_3 : World) (R : Ending → World → Prop) : Prop :=
 LdI .u8 (w_3.cell? p) fun x164_0 =>
 LdI .u8 (w_3.cell? (p.add 1)) fun x164_1 =>
 LdStr (w_3.cell? (p.add 2)) fun x164_2 =>
 LdSl (w_3.cell? (p.add 3)) fun x164_3 x164_3N x164_3C =>
 St w_3 g2 (.int .u8 x164_0) fun w1_14 =>
 St w1_14 (g2.add 1) (.int .u8 x164_1) fun w1_15 =>
 St w1_15 (g2.add 2) (.string x164_2) fun w1_16 =>
 St w1_16 (g2.add 3) (.slice x164_3 x164_3N x164_3C) fun w1_17 =>
 LdI .u8 (w1_17.cell? g2) fun res0_0 =>
 LdI .u8 (w1_17.cell? (g2.add 1)) fun res0_1 =>
 LdStr (w1_17.cell? (g2.add 2)) fun res0_2 =>
 LdSl (w1_17.cell? (g2.add 3)) fun res0_3 res0_3N res0_3C =>
 R (.returned (.agg #[(.int .u8 res0_0), (.int .u8 res0_1), (.string res0_2), (.slice res0_3 res0_3N res0_3C)])) w1_17

def F74_j8 (r : Option Addr) (g2 : Addr) (x9 : Int) (w_2 : World) (R : Ending → World → Prop) : Prop :=
 Calls Try.prog 38 #[(.pointer r)] w_2 (post R fun v2 w1_4 =>
 v2 = (.tuple #[]) ∧
 NonNil r fun p56 =>
 LdI .i64 (w1_4.cell? (p56.add 4)) fun x58 =>
 Br (x58 != (0 : Int))
 (St w1_4 g2 (.int .u8 0) fun w1_5 =>
 St w1_5 (g2.add 1) (.int .u8 0) fun w1_6 =>
 St w1_6 (g2.add 2) (.string (ByteArray.mk #[])) fun w1_7 =>
 St w1_7 (g2.add 3) (.slice none 0 0) fun w1_8 =>
 LdI .u8 (w1_8.cell? g2) fun res0_0 =>
 LdI .u8 (w1_8.cell? (g2.add 1)) fun res0_1 =>
 LdStr (w1_8.cell? (g2.add 2)) fun res0_2 =>
 LdSl (w1_8.cell? (g2.add 3)) fun res0_3 res0_3N res0_3C =>
 R (.returned (.agg #[(.int .u8 res0_0), (.int .u8 res0_1), (.string res0_2), (.slice res0_3 res0_3N res0_3C)])) w1_8)
 (NonNil r fun p62 =>
 LdI .i64 (w1_4.cell? (p62.add 1)) fun x64 =>
 Calls Try.prog 87 #[(.int .u8 x9)] w1_4 (post R fun v3 w1_5 =>
 ∃ (x66 : Bool), v3 = (.bool x66) ∧
 Br x66
 (∃ J15 : World → Prop, (∀  (w1_6 : World), J15 w1_6 → F74_j15 r g2 x64 w1_6 R) ∧
 (∃ (I : World → Prop) (m : World → Nat), I  w1_5 ∧
 ∀  (w1_6 : World), I  w1_6 → F74_l13 r J15 (fun  w2 => I  w2 ∧ m  w2 < m  w1_6)  w1_6 R))
 (NonNil r fun p115 =>
 LdI .i64 (w1_5.cell? (p115.add 1)) fun x117 =>
 InR .i64 (x117 + (1 : Int)) ∧ NonNil r fun p119 =>
 St w1_5 (p119.add 1) (.int .i64 (x117 + (1 : Int))) fun w1_6 =>
 Br (x9 != (40 : Int))
 (St w1_6 g2 (.int .u8 x9) fun w1_7 =>
 St w1_7 (g2.add 1) (.int .u8 0) fun w1_8 =>
 St w1_8 (g2.add 2) (.string (ByteArray.mk #[])) fun w1_9 =>
 St w1_9 (g2.add 3) (.slice none 0 0) fun w1_10 =>
 LdI .u8 (w1_10.cell? g2) fun res0_0 =>
 LdI .u8 (w1_10.cell? (g2.add 1)) fun res0_1 =>
 LdStr (w1_10.cell? (g2.add 2)) fun res0_2 =>
 LdSl (w1_10.cell? (g2.add 3)) fun res0_3 res0_3N res0_3C =>
 R (.returned (.agg #[(.int .u8 res0_0), (.int .u8 res0_1), (.string res0_2), (.slice res0_3 res0_3N res0_3C)])) w1_10)
 (Calls Try.prog 21 #[(.pointer r)] w1_6 (post R fun v4 w1_7 =>
 ∃ (x126 : Option Addr) (x126N : Nat) (x126C : Nat), v4 = (.slice x126 x126N x126C) ∧
 Al w1_7 #[(.int .u8 0), (.int .u8 0), (.string (ByteArray.mk #[])), (.slice none 0 0)] 75 fun p w1_8 =>
 St w1_8 p (.int .u8 40) fun w1_9 =>
 St w1_9 (p.add 1) (.int .u8 0) fun w1_10 =>
 St w1_10 (p.add 2) (.string (ByteArray.mk #[])) fun w1_11 =>
 St w1_11 (p.add 3) (.slice x126 x126N x126C) fun w1_12 =>
 NonNil r fun p129 =>
 LdI .i64 (w1_12.cell? (p129.add 4)) fun x131 =>
 Br (x131 != (0 : Int))
 (LdI .u8 (w1_12.cell? p) fun x133_0 =>
 LdI .u8 (w1_12.cell? (p.add 1)) fun x133_1 =>
 LdStr (w1_12.cell? (p.add 2)) fun x133_2 =>
 LdSl (w1_12.cell? (p.add 3)) fun x133_3 x133_3N x133_3C =>
 St w1_12 g2 (.int .u8 x133_0) fun w1_13 =>
 St w1_13 (g2.add 1) (.int .u8 x133_1) fun w1_14 =>
 St w1_14 (g2.add 2) (.string x133_2) fun w1_15 =>
 St w1_15 (g2.add 3) (.slice x133_3 x133_3N x133_3C) fun w1_16 =>
 LdI .u8 (w1_16.cell? g2) fun res0_0 =>
 LdI .u8 (w1_16.cell? (g2.add 1)) fun res0_1 =>
 LdStr (w1_16.cell? (g2.add 2)) fun res0_2 =>
 LdSl (w1_16.cell? (g2.add 3)) fun res0_3 res0_3N res0_3C =>
 R (.returned (.agg #[(.int .u8 res0_0), (.int .u8 res0_1), (.string res0_2), (.slice res0_3 res0_3N res0_3C)])) w1_16)
 (Calls Try.prog 22 #[(.pointer r)] w1_12 (post R fun v5 w1_13 =>
 ∃ (x135 : Int), v5 = (.int .u8 x135) ∧
 ∃ J31 : World → Prop, (∀  (w1_14 : World), J31 w1_14 → F74_j31 g2 p w1_14 R) ∧
 (Dr w1_13 fun w1_14 =>
 NonNil r fun p137 =>
 LdI .i64 (w1_14.cell? (p137.add 1)) fun x139 =>
 NonNil r fun p141 =>
 LdStr (w1_14.cell? p141) fun x143 =>
 Br (x139 == ((x143.size : Nat) : Int))
 (Calls Try.prog 23 #[(.pointer r), (.int .i64 x64), (.int .i64 131)] w1_14 (post R fun v6 w1_15 =>
 v6 = (.tuple #[]) ∧
 J31 w1_15))
 (Br (x135 != (41 : Int))
 (NonNil r fun p153 =>
 LdI .i64 (w1_14.cell? (p153.add 1)) fun x155 =>
 Calls Try.prog 23 #[(.pointer r), (.int .i64 x155), (.int .i64 3)] w1_14 (post R fun v6 w1_15 =>
 v6 = (.tuple #[]) ∧
 J31 w1_15))
 (NonNil r fun p158 =>
 LdI .i64 (w1_14.cell? (p158.add 1)) fun x160 =>
 InR .i64 (x160 + (1 : Int)) ∧ NonNil r fun p162 =>
 St w1_14 (p162.add 1) (.int .i64 (x160 + (1 : Int))) fun w1_15 =>
 J31 w1_15)))))))))))

def F74 (r : Option Addr) (w_ : World) (R : Ending → World → Prop) : Prop :=
 Al w_ #[(.int .u8 0), (.int .u8 0), (.string (ByteArray.mk #[])), (.slice none 0 0)] 75 fun g2 w1 =>
 Calls Try.prog 22 #[(.pointer r)] w1 (post R fun v w1_2 =>
 ∃ (x9 : Int), v = (.int .u8 x9) ∧
 Dr w1_2 fun w1_3 =>
 NonNil r fun p11 =>
 LdI .i64 (w1_3.cell? (p11.add 1)) fun x13 =>
 NonNil r fun p15 =>
 LdStr (w1_3.cell? p15) fun x17 =>
 Br (x13 == ((x17.size : Nat) : Int))
 (NonNil r fun p22 =>
 LdI .i64 (w1_3.cell? (p22.add 1)) fun x24 =>
 Calls Try.prog 23 #[(.pointer r), (.int .i64 x24), (.int .i64 4)] w1_3 (post R fun v2 w1_4 =>
 v2 = (.tuple #[]) ∧
 St w1_4 g2 (.int .u8 0) fun w1_5 =>
 St w1_5 (g2.add 1) (.int .u8 0) fun w1_6 =>
 St w1_6 (g2.add 2) (.string (ByteArray.mk #[])) fun w1_7 =>
 St w1_7 (g2.add 3) (.slice none 0 0) fun w1_8 =>
 LdI .u8 (w1_8.cell? g2) fun res0_0 =>
 LdI .u8 (w1_8.cell? (g2.add 1)) fun res0_1 =>
 LdStr (w1_8.cell? (g2.add 2)) fun res0_2 =>
 LdSl (w1_8.cell? (g2.add 3)) fun res0_3 res0_3N res0_3C =>
 R (.returned (.agg #[(.int .u8 res0_0), (.int .u8 res0_1), (.string res0_2), (.slice res0_3 res0_3N res0_3C)])) w1_8))
 (∃ J8 : World → Prop, (∀  (w1_4 : World), J8 w1_4 → F74_j8 r g2 x9 w1_4 R) ∧
 (Calls Try.prog 87 #[(.int .u8 x9)] w1_3 (post R fun v2 w1_4 =>
 ∃ (x28 : Bool), v2 = (.bool x28) ∧
 Br (!x28)
 (Br (x9 != (36 : Int))
 (Br (x9 != (46 : Int))
 (Br (x9 != (45 : Int))
 (Br (x9 != (40 : Int))
 (NonNil r fun p48 =>
 LdI .i64 (w1_4.cell? (p48.add 1)) fun x50 =>
 Calls Try.prog 23 #[(.pointer r), (.int .i64 x50), (.int .i64 3)] w1_4 (post R fun v3 w1_5 =>
 v3 = (.tuple #[]) ∧
 St w1_5 g2 (.int .u8 0) fun w1_6 =>
 St w1_6 (g2.add 1) (.int .u8 0) fun w1_7 =>
 St w1_7 (g2.add 2) (.string (ByteArray.mk #[])) fun w1_8 =>
 St w1_8 (g2.add 3) (.slice none 0 0) fun w1_9 =>
 LdI .u8 (w1_9.cell? g2) fun res0_0 =>
 LdI .u8 (w1_9.cell? (g2.add 1)) fun res0_1 =>
 LdStr (w1_9.cell? (g2.add 2)) fun res0_2 =>
 LdSl (w1_9.cell? (g2.add 3)) fun res0_3 res0_3N res0_3C =>
 R (.returned (.agg #[(.int .u8 res0_0), (.int .u8 res0_1), (.string res0_2), (.slice res0_3 res0_3N res0_3C)])) w1_9))
 (J8 w1_4))
 (J8 w1_4))
 (J8 w1_4))
 (J8 w1_4))
 (J8 w1_4)))))

def pl74 : Plan := ⟨165, ⟨[]⟩, [(14, ⟨[], [(67, 89)]⟩), (18, ⟨[], [(106, 112)]⟩), (15, ⟨[], [(67, 96)]⟩), (31, ⟨[], [(136, 164)]⟩), (8, ⟨[], [(27, 53)]⟩)], [(13, ⟨[], [(67, 96)]⟩)]⟩

theorem eq74 (r : Option Addr) (w : World) (R : Ending → World → Prop) : F74 r w R = vc Try.prog Try.f74 pl74 R 100000 [.code (bodyOf Try.f74)] (argEnv 0 #[(.pointer r)].toList) w := by kernel_rfl

theorem ok74 (r : Option Addr) {w : World} {R : Ending → World → Prop} (h : F74 r w R) : Calls Try.prog 74 #[(.pointer r)] w R :=
  vc_calls (pl := pl74) Try.func74 (by kernel_rfl) (by kernel_rfl) (by kernel_rfl) (Eq.mp (eq74 r w R) h)

-- (*espalierref23.reader).peek
def F22_j3 (r : Option Addr) (w_2 : World) (R : Ending → World → Prop) : Prop :=
 Dr w_2 fun w1 =>
 NonNil r fun p33 =>
 LdI .i64 (w1.cell? (p33.add 1)) fun x35 =>
 NonNil r fun p37 =>
 LdStr (w1.cell? p37) fun x39 =>
 Br (x35 == ((x39.size : Nat) : Int))
 (R (.returned (.int .u8 0)) w1)
 (Dr w1 fun w1_2 =>
 NonNil r fun p43 =>
 LdStr (w1_2.cell? p43) fun x45 =>
 NonNil r fun p47 =>
 LdI .i64 (w1_2.cell? (p47.add 1)) fun x49 =>
 IdxS x45 x49 fun c50 =>
 R (.returned (.int .u8 c50)) w1_2)

def F22_j2 (r : Option Addr) (L1 : World → Prop) (w_3 : World) (R : Ending → World → Prop) : Prop :=
 NonNil r fun p26 =>
 LdI .i64 (w_3.cell? (p26.add 1)) fun x28 =>
 InR .i64 (x28 + (1 : Int)) ∧ NonNil r fun p30 =>
 St w_3 (p30.add 1) (.int .i64 (x28 + (1 : Int))) fun w1 =>
 L1 w1

def F22_l1 (r : Option Addr) (J3 : World → Prop) (L1 : World → Prop) (w_2 : World) (R : Ending → World → Prop) : Prop :=
 ∃ J2 : World → Prop, (∀  (w1 : World), J2 w1 → F22_j2 r L1 w1 R) ∧
 (Dr w_2 fun w1 =>
 NonNil r fun p4 =>
 LdI .i64 (w1.cell? (p4.add 1)) fun x6 =>
 NonNil r fun p8 =>
 LdStr (w1.cell? p8) fun x10 =>
 Br (decide (x6 < ((x10.size : Nat) : Int)))
 (NonNil r fun p15 =>
 LdStr (w1.cell? p15) fun x17 =>
 NonNil r fun p19 =>
 LdI .i64 (w1.cell? (p19.add 1)) fun x21 =>
 IdxS x17 x21 fun c22 =>
 Br (c22 == (32 : Int))
 (J2 w1)
 (J3 w1))
 (J3 w1))

def F22 (r : Option Addr) (w_ : World) (R : Ending → World → Prop) : Prop :=
 ∃ J3 : World → Prop, (∀  (w1 : World), J3 w1 → F22_j3 r w1 R) ∧
 (∃ (I : World → Prop) (m : World → Nat), I  w_ ∧
 ∀  (w1 : World), I  w1 → F22_l1 r J3 (fun  w2 => I  w2 ∧ m  w2 < m  w1)  w1 R)

def pl22 : Plan := ⟨51, ⟨[]⟩, [(2, ⟨[], [(3, 25)]⟩), (3, ⟨[], [(3, 32)]⟩)], [(1, ⟨[], [(3, 32)]⟩)]⟩

theorem eq22 (r : Option Addr) (w : World) (R : Ending → World → Prop) : F22 r w R = vc Try.prog Try.f22 pl22 R 100000 [.code (bodyOf Try.f22)] (argEnv 0 #[(.pointer r)].toList) w := by kernel_rfl

theorem ok22 (r : Option Addr) {w : World} {R : Ending → World → Prop} (h : F22 r w R) : Calls Try.prog 22 #[(.pointer r)] w R :=
  vc_calls (pl := pl22) Try.func22 (by kernel_rfl) (by kernel_rfl) (by kernel_rfl) (Eq.mp (eq22 r w R) h)

-- (*espalierref23.reader).begin
def F38_j2 (r : Option Addr) (w_2 : World) (R : Ending → World → Prop) : Prop :=
 NonNil r fun p14 =>
 LdI .i64 (w_2.cell? (p14.add 2)) fun x16 =>
 InR .i64 (x16 + (1 : Int)) ∧ NonNil r fun p18 =>
 St w_2 (p18.add 2) (.int .i64 (x16 + (1 : Int))) fun w1 =>
 R (.returned (.tuple #[])) w1

def F38 (r : Option Addr) (w_ : World) (R : Ending → World → Prop) : Prop :=
 ∃ J2 : World → Prop, (∀  (w1 : World), J2 w1 → F38_j2 r w1 R) ∧
 (NonNil r fun p3 =>
 LdI .i64 (w_.cell? (p3.add 2)) fun x5 =>
 Br (decide (x5 ≥ (128 : Int)))
 (NonNil r fun p9 =>
 LdI .i64 (w_.cell? (p9.add 1)) fun x11 =>
 Calls Try.prog 23 #[(.pointer r), (.int .i64 x11), (.int .i64 2)] w_ (post R fun v w1 =>
 v = (.tuple #[]) ∧
 J2 w1))
 (J2 w_))

def pl38 : Plan := ⟨20, ⟨[]⟩, [(2, ⟨[], [(2, 13)]⟩)], []⟩

theorem eq38 (r : Option Addr) (w : World) (R : Ending → World → Prop) : F38 r w R = vc Try.prog Try.f38 pl38 R 100000 [.code (bodyOf Try.f38)] (argEnv 0 #[(.pointer r)].toList) w := by kernel_rfl

theorem ok38 (r : Option Addr) {w : World} {R : Ending → World → Prop} (h : F38 r w R) : Calls Try.prog 38 #[(.pointer r)] w R :=
  vc_calls (pl := pl38) Try.func38 (by kernel_rfl) (by kernel_rfl) (by kernel_rfl) (Eq.mp (eq38 r w R) h)

-- (*espalierref23.reader).bad
def F23 (r : Option Addr) (at_ : Int) (why : Int) (w_ : World) (R : Ending → World → Prop) : Prop :=
 NonNil r fun p7 =>
 LdI .i64 (w_.cell? (p7.add 4)) fun x9 =>
 Br (x9 == (0 : Int))
 (NonNil r fun p15 =>
 St w_ (p15.add 3) (.int .i64 at_) fun w1 =>
 NonNil r fun p17 =>
 St w1 (p17.add 4) (.int .i64 why) fun w1_2 =>
 R (.returned (.tuple #[])) w1_2)
 (R (.returned (.tuple #[])) w_)

def pl23 : Plan := ⟨19, ⟨[]⟩, [], []⟩

theorem eq23 (r : Option Addr) (at_ : Int) (why : Int) (w : World) (R : Ending → World → Prop) : F23 r at_ why w R = vc Try.prog Try.f23 pl23 R 100000 [.code (bodyOf Try.f23)] (argEnv 0 #[(.pointer r), (.int .i64 at_), (.int .i64 why)].toList) w := by kernel_rfl

theorem ok23 (r : Option Addr) (at_ : Int) (why : Int) {w : World} {R : Ending → World → Prop} (h : F23 r at_ why w R) : Calls Try.prog 23 #[(.pointer r), (.int .i64 at_), (.int .i64 why)] w R :=
  vc_calls (pl := pl23) Try.func23 (by kernel_rfl) (by kernel_rfl) (by kernel_rfl) (Eq.mp (eq23 r at_ why w R) h)

-- espalierref23.first
def F87 (c : Int) (w_ : World) (R : Ending → World → Prop) : Prop :=
 Br (decide (c ≥ (97 : Int)))
 (Br (decide (c ≤ (122 : Int)))
 (R (.returned (.bool true)) w_)
 (Br (decide (c ≥ (65 : Int)))
 (Br (decide (c ≤ (90 : Int)))
 (R (.returned (.bool true)) w_)
 (R (.returned (.bool (c == (95 : Int)))) w_))
 (R (.returned (.bool (c == (95 : Int)))) w_)))
 (Br (decide (c ≥ (65 : Int)))
 (Br (decide (c ≤ (90 : Int)))
 (R (.returned (.bool true)) w_)
 (R (.returned (.bool (c == (95 : Int)))) w_))
 (R (.returned (.bool (c == (95 : Int)))) w_))

def pl87 : Plan := ⟨21, ⟨[]⟩, [], []⟩

theorem eq87 (c : Int) (w : World) (R : Ending → World → Prop) : F87 c w R = vc Try.prog Try.f87 pl87 R 100000 [.code (bodyOf Try.f87)] (argEnv 0 #[(.int .u8 c)].toList) w := by kernel_rfl

theorem ok87 (c : Int) {w : World} {R : Ending → World → Prop} (h : F87 c w R) : Calls Try.prog 87 #[(.int .u8 c)] w R :=
  vc_calls (pl := pl87) Try.func87 (by kernel_rfl) (by kernel_rfl) (by kernel_rfl) (Eq.mp (eq87 c w R) h)

-- espalierref23.later
def F88 (c : Int) (w_ : World) (R : Ending → World → Prop) : Prop :=
 Calls Try.prog 87 #[(.int .u8 c)] w_ (post R fun v w1 =>
 ∃ (x4 : Bool), v = (.bool x4) ∧
 Br x4
 (R (.returned (.bool true)) w1)
 (Br (decide (c ≥ (48 : Int)))
 (Br (decide (c ≤ (57 : Int)))
 (R (.returned (.bool true)) w1)
 (Br (c == (45 : Int))
 (R (.returned (.bool true)) w1)
 (R (.returned (.bool (c == (46 : Int)))) w1)))
 (Br (c == (45 : Int))
 (R (.returned (.bool true)) w1)
 (R (.returned (.bool (c == (46 : Int)))) w1))))

def pl88 : Plan := ⟨21, ⟨[]⟩, [], []⟩

theorem eq88 (c : Int) (w : World) (R : Ending → World → Prop) : F88 c w R = vc Try.prog Try.f88 pl88 R 100000 [.code (bodyOf Try.f88)] (argEnv 0 #[(.int .u8 c)].toList) w := by kernel_rfl

theorem ok88 (c : Int) {w : World} {R : Ending → World → Prop} (h : F88 c w R) : Calls Try.prog 88 #[(.int .u8 c)] w R :=
  vc_calls (pl := pl88) Try.func88 (by kernel_rfl) (by kernel_rfl) (by kernel_rfl) (Eq.mp (eq88 c w R) h)

-- espalierref02.Name
def F89_l4 (s : ByteArray) (L4 : Int → World → Prop) (i : Int) (w_3 : World) (R : Ending → World → Prop) : Prop :=
 Br (decide (i < ((s.size : Nat) : Int)))
 (IdxS s i fun c26 =>
 Calls Try.prog 94 #[(.int .u8 c26)] w_3 (post R fun v w1 =>
 ∃ (x27 : Bool), v = (.bool x27) ∧
 Br (!x27)
 (R (.returned (.bool false)) w1)
 (InR .i64 (i + (1 : Int)) ∧ L4 (i + (1 : Int)) w1)))
 (R (.returned (.bool true)) w_3)

def F89_j3 (s : ByteArray) (w_2 : World) (R : Ending → World → Prop) : Prop :=
 ∃ (I : Int → World → Prop) (m : Int → World → Nat), I (0 : Int) w_2 ∧
 ∀ (i : Int) (w1 : World), I i w1 → F89_l4 s (fun i' w2 => I i' w2 ∧ m i' w2 < m i w1) i w1 R

def F89 (s : ByteArray) (w_ : World) (R : Ending → World → Prop) : Prop :=
 ∃ J3 : World → Prop, (∀  (w1 : World), J3 w1 → F89_j3 s w1 R) ∧
 (Br (decide (((s.size : Nat) : Int) < (1 : Int)))
 (R (.returned (.bool false)) w_)
 (Br (decide (((s.size : Nat) : Int) > (32 : Int)))
 (R (.returned (.bool false)) w_)
 (IdxS s (0 : Int) fun c14 =>
 Calls Try.prog 93 #[(.int .u8 c14)] w_ (post R fun v w1 =>
 ∃ (x15 : Bool), v = (.bool x15) ∧
 Br (!x15)
 (R (.returned (.bool false)) w1)
 (J3 w1)))))

def pl89 : Plan := ⟨29, ⟨[]⟩, [(3, ⟨[], [(2, 18)]⟩)], [(4, ⟨[(3, (.s (.int .i64)))], [(2, 29)]⟩)]⟩

theorem eq89 (s : ByteArray) (w : World) (R : Ending → World → Prop) : F89 s w R = vc Try.prog Try.f89 pl89 R 100000 [.code (bodyOf Try.f89)] (argEnv 0 #[(.string s)].toList) w := by kernel_rfl

theorem ok89 (s : ByteArray) {w : World} {R : Ending → World → Prop} (h : F89 s w R) : Calls Try.prog 89 #[(.string s)] w R :=
  vc_calls (pl := pl89) Try.func89 (by kernel_rfl) (by kernel_rfl) (by kernel_rfl) (Eq.mp (eq89 s w R) h)

-- espalierref02.Begins
def F93 (c : Int) (w_ : World) (R : Ending → World → Prop) : Prop :=
 Br (decide (c ≥ (97 : Int)))
 (Br (decide (c ≤ (122 : Int)))
 (R (.returned (.bool true)) w_)
 (Br (decide (c ≥ (65 : Int)))
 (Br (decide (c ≤ (90 : Int)))
 (R (.returned (.bool true)) w_)
 (R (.returned (.bool (c == (95 : Int)))) w_))
 (R (.returned (.bool (c == (95 : Int)))) w_)))
 (Br (decide (c ≥ (65 : Int)))
 (Br (decide (c ≤ (90 : Int)))
 (R (.returned (.bool true)) w_)
 (R (.returned (.bool (c == (95 : Int)))) w_))
 (R (.returned (.bool (c == (95 : Int)))) w_))

def pl93 : Plan := ⟨21, ⟨[]⟩, [], []⟩

theorem eq93 (c : Int) (w : World) (R : Ending → World → Prop) : F93 c w R = vc Try.prog Try.f93 pl93 R 100000 [.code (bodyOf Try.f93)] (argEnv 0 #[(.int .u8 c)].toList) w := by kernel_rfl

theorem ok93 (c : Int) {w : World} {R : Ending → World → Prop} (h : F93 c w R) : Calls Try.prog 93 #[(.int .u8 c)] w R :=
  vc_calls (pl := pl93) Try.func93 (by kernel_rfl) (by kernel_rfl) (by kernel_rfl) (Eq.mp (eq93 c w R) h)

-- espalierref02.In
def F94 (c : Int) (w_ : World) (R : Ending → World → Prop) : Prop :=
 Calls Try.prog 93 #[(.int .u8 c)] w_ (post R fun v w1 =>
 ∃ (x4 : Bool), v = (.bool x4) ∧
 Br x4
 (R (.returned (.bool true)) w1)
 (Br (decide (c ≥ (48 : Int)))
 (Br (decide (c ≤ (57 : Int)))
 (R (.returned (.bool true)) w1)
 (Br (c == (45 : Int))
 (R (.returned (.bool true)) w1)
 (R (.returned (.bool (c == (46 : Int)))) w1)))
 (Br (c == (45 : Int))
 (R (.returned (.bool true)) w1)
 (R (.returned (.bool (c == (46 : Int)))) w1))))

def pl94 : Plan := ⟨21, ⟨[]⟩, [], []⟩

theorem eq94 (c : Int) (w : World) (R : Ending → World → Prop) : F94 c w R = vc Try.prog Try.f94 pl94 R 100000 [.code (bodyOf Try.f94)] (argEnv 0 #[(.int .u8 c)].toList) w := by kernel_rfl

theorem ok94 (c : Int) {w : World} {R : Ending → World → Prop} (h : F94 c w R) : Calls Try.prog 94 #[(.int .u8 c)] w R :=
  vc_calls (pl := pl94) Try.func94 (by kernel_rfl) (by kernel_rfl) (by kernel_rfl) (Eq.mp (eq94 c w R) h)

end Go.Proofs.Ytkmoeokfgkmlhaa
/- The document's models: the reader's small functions. -/
namespace Go.Proofs.Ytkmoeokfgkmlhaa
open Go.RowKit Go.Vc Go.Mdl
set_option linter.unusedVariables false
set_option linter.unusedSimpArgs false
set_option maxRecDepth 100000
section
variable {w : World} {R : Ending → World → Prop}
theorem first_calls {c : UInt8} (h : R (.returned (.bool (begins c))) w) : Calls Try.prog 87 #[.int .u8 (c.toNat : Int)] w R := ok87 _ (letter_F h)
theorem begins2_calls {c : UInt8} (h : R (.returned (.bool (begins c))) w) : Calls Try.prog 93 #[.int .u8 (c.toNat : Int)] w R := ok93 _ (letter_F h)
theorem later_calls {c : UInt8} (h : R (.returned (.bool (inn c))) w) : Calls Try.prog 88 #[.int .u8 (c.toNat : Int)] w R := by
  refine ok88 _ ?_
  unfold F88
  refine first_calls ⟨_, rfl, ?_⟩
  (
  rw [inn_eq] at h
  cases hb : begins c with
  | true => rw [hb] at h; exact h
  | false =>
    rw [hb, Bool.false_or] at h
    rw [Br_f]
    have t : ((48 ≤ c.toNat ∧ c.toNat ≤ 57) ∨ c.toNat = 45 ∨ c.toNat = 46) → R (.returned (.bool true)) w := fun k => (by rw [decide_eq_true k] at h; exact h)
    have f : ¬ ((48 ≤ c.toNat ∧ c.toNat ≤ 57) ∨ c.toNat = 45) → R (.returned (.bool ((c.toNat : Int) == 46))) w := fun k => (by
      have e : ((c.toNat : Int) == 46) = decide ((48 ≤ c.toNat ∧ c.toNat ≤ 57) ∨ c.toNat = 45 ∨ c.toNat = 46) := (by
        rw [Bool.eq_iff_iff]; simp; omega)
      rw [e]; exact h)
    repeat' (first | refine brd (fun _ => ?_) (fun _ => ?_) | refine bre (fun _ => ?_) (fun _ => ?_))
    all_goals first | exact t (by omega) | exact f (by omega))
theorem in2_calls {c : UInt8} (h : R (.returned (.bool (inn c))) w) : Calls Try.prog 94 #[.int .u8 (c.toNat : Int)] w R := by
  refine ok94 _ ?_
  unfold F94
  refine begins2_calls ⟨_, rfl, ?_⟩
  (
  rw [inn_eq] at h
  cases hb : begins c with
  | true => rw [hb] at h; exact h
  | false =>
    rw [hb, Bool.false_or] at h
    rw [Br_f]
    have t : ((48 ≤ c.toNat ∧ c.toNat ≤ 57) ∨ c.toNat = 45 ∨ c.toNat = 46) → R (.returned (.bool true)) w := fun k => (by rw [decide_eq_true k] at h; exact h)
    have f : ¬ ((48 ≤ c.toNat ∧ c.toNat ≤ 57) ∨ c.toNat = 45) → R (.returned (.bool ((c.toNat : Int) == 46))) w := fun k => (by
      have e : ((c.toNat : Int) == 46) = decide ((48 ≤ c.toNat ∧ c.toNat ≤ 57) ∨ c.toNat = 45 ∨ c.toNat = 46) := (by
        rw [Bool.eq_iff_iff]; simp; omega)
      rw [e]; exact h)
    repeat' (first | refine brd (fun _ => ?_) (fun _ => ?_) | refine bre (fun _ => ?_) (fun _ => ?_))
    all_goals first | exact t (by omega) | exact f (by omega))
theorem name2_calls {s : ByteArray} (h : R (.returned (.bool (isName s))) w) : Calls Try.prog 89 #[.string s] w R := by
  refine ok89 _ ?_
  unfold F89
  have hz : s.data.toList.length = s.size := by simp
  cases hs : s.data.toList with
  | nil =>
    have e : isName s = false := by simp [isName, hs]
    rw [e] at h
    have hsz : s.size = 0 := by rw [← hz, hs]; rfl
    refine ⟨fun _ => False, fun _ hf => hf.elim, ?_⟩
    refine brd (fun _ => h) (fun hge => by omega)
  | cons c r =>
    rw [hs] at hz
    have h0 : 0 < s.size := by rw [← hz]; simp
    have hc : s[0] = c := by
      have := ba_list h0
      rw [hs] at this
      simpa using this.symm
    refine ⟨fun w1 => w1 = w ∧ s.size ≤ 32 ∧ begins c = true, ?_, ?_⟩
    · rintro w1 ⟨rfl, h32, hb⟩
      unfold F89_j3
      refine ⟨fun i w1' => ∃ k : Nat, i = k ∧ k ≤ s.size ∧ w1' = w1 ∧ ∀ x ∈ s.data.toList.take k, inn x = true, fun i _ => s.size - i.toNat, ⟨0, rfl, by omega, rfl, by simp⟩, ?_⟩
      rintro i w2 ⟨k, rfl, hk, rfl, hall⟩
      unfold F89_l4
      refine brd (fun hlt => ?_) (fun hge => ?_)
      · have hlt' : k < s.size := by omega
        have next : inn s[k] = true → ∀ x ∈ s.data.toList.take (k + 1), inn x = true := fun hi x hx => by
          rw [List.take_add_one, ba_list hlt'] at hx
          rcases List.mem_append.1 hx with hx | hx
          · exact hall x hx
          · simp at hx; subst hx; exact hi
        refine ⟨by omega, s[k], by simp [ba_get hlt'], ?_⟩
        refine in2_calls ⟨_, rfl, ?_⟩
        cases hin : inn s[k] with
        | true => 
          rw [Bool.not_true, Br_f]
          exact ⟨inR_i64 (by omega) (by omega), ⟨k + 1, by simp, by omega, rfl, next hin⟩, by dsimp only; omega⟩
        | false =>
          rw [Bool.not_false, Br_t]
          have e : isName s = false := by
            simp only [isName, hs]
            rw [Bool.and_eq_false_iff]
            have hk0 : k ≠ 0 := by rintro rfl; rw [hc, begins_inn hb] at hin; cases hin
            right
            rw [List.all_eq_false]
            refine ⟨s[k], ?_, by simp [hin]⟩
            have h1 := ba_list hlt'
            rw [hs] at h1
            obtain ⟨k', rfl⟩ : ∃ k', k = k' + 1 := ⟨k - 1, by omega⟩
            rw [List.getElem?_cons_succ] at h1
            exact List.mem_of_getElem? h1
          rw [e] at h; exact h
      · obtain rfl : k = s.size := by omega
        have e : isName s = true := by
          simp only [isName, hs]
          rw [List.take_of_length_le (by rw [hs]; omega), hs] at hall
          simp only [Bool.and_eq_true, decide_eq_true_eq, List.all_eq_true]
          exact ⟨⟨by unfold maxName; omega, hb⟩, fun x hx => hall x (by simp [hx])⟩
        rw [e] at h; exact h
    · refine brd (fun hlt => by omega) (fun _ => ?_)
      refine brd (fun hgt => ?_) (fun hle => ?_)
      · have e : isName s = false := by
          simp only [isName, hs]
          rw [decide_eq_false (by unfold maxName; omega)]; rfl
        rw [e] at h; exact h
      · refine ⟨by omega, s[0], by simp [ba_get h0], ?_⟩
        refine begins2_calls ⟨_, rfl, ?_⟩
        rw [hc]
        cases hb : begins c with
        | false =>
          have e : isName s = false := by simp only [isName, hs, hb]; simp
          rw [e] at h; exact h
        | true => exact ⟨rfl, by omega, rfl⟩
end
/-! ### The reader -/
/-- The document's reader: l is what is left of s, n are begun, why it failed (0: it did not). -/
structure FRt (w : World) (g : Nat) (s : ByteArray) (l : List UInt8) (n why : Nat) : Prop where
  len : l.length ≤ s.size
  rest : l = s.data.toList.drop (s.size - l.length)
  nle : why = 0 → n ≤ maxParts
  nle2 : n ≤ 1000
  blk : ∃ pl : Int, Blk w g #[.string s, .int .i64 ((s.size - l.length : Nat) : Int), .int .i64 (n : Int), .int .i64 pl, .int .i64 (why : Int)] 53
section
variable {w w1 : World} {R : Ending → World → Prop} {g n why : Nat} {s : ByteArray} {l r : List UInt8} {c : UInt8}
theorem FRt.keep (h : FRt w g s l n why) {M : Nat → Prop} (hf : Fm M w w1) (hm : ¬ M g) : FRt w1 g s l n why := by
  obtain ⟨pl, hb⟩ := h.blk
  exact ⟨h.len, h.rest, h.nle, h.nle2, pl, hf.blk hb hm⟩
theorem FRt.below (h : FRt w g s l n why) (hf : Below w.heap.size w w1) : FRt w1 g s l n why := h.keep (M := fun _ => False) (.below hf) (fun h => h)
theorem FRt.lt (h : FRt w g s l n why) : g < w.heap.size := by obtain ⟨pl, hb⟩ := h.blk; exact hb.lt
theorem FRt.get (h : FRt w g s (c :: r) n why) : s[s.size - (c :: r).length]? = some c ∧ s.size - (c :: r).length < s.size := by
  have h1 := h.len
  have h2 := h.rest
  simp only [List.length_cons] at *
  have hlt : s.size - (r.length + 1) < s.size := by omega
  refine ⟨?_, hlt⟩
  rw [ba_get hlt]
  have h3 := ba_list hlt
  rw [← h3]
  have := congrArg (fun l => l[0]?) h2
  simp only [List.getElem?_cons_zero, List.getElem?_drop, Nat.add_zero] at this
  exact this.symm
theorem FRt.size0 (h : FRt w g s [] n why) : (((s.size - ([] : List UInt8).length : Nat) : Int) == ((s.size : Nat) : Int)) = true := by simp
theorem FRt.size1 (h : FRt w g s (c :: r) n why) : (((s.size - (c :: r).length : Nat) : Int) == ((s.size : Nat) : Int)) = false := by have := h.get.2; exact beq_eq_false_iff_ne.2 (by omega)
theorem FRt.tail (h : FRt w g s (c :: r) n why) : r.length ≤ s.size ∧ r = s.data.toList.drop (s.size - r.length) ∧ s.size - r.length = (s.size - (c :: r).length) + 1 := by
  have h1 := h.len
  have h2 := h.rest
  simp only [List.length_cons] at *
  have h3 : s.size - r.length = (s.size - (r.length + 1)) + 1 := by omega
  refine ⟨by omega, ?_, h3⟩
  have := congrArg List.tail h2
  rw [List.tail_drop] at this
  rw [h3]; exact this
/-- at++ -/
theorem fadv (h : FRt w g s (c :: r) n why) (hs : s.size ≤ 1024) {K : World → Prop} (hK : ∀ w', FRt w' g s r n why → Fm (· = g) w w' → K w') :
    NonNil (some ⟨g, 0, none⟩) fun p => LdI .i64 (w.cell? (p.add 1)) fun x => InR .i64 (x + (1 : Int)) ∧ NonNil (some ⟨g, 0, none⟩) fun p2 => St w (p2.add 1) (.int .i64 (x + (1 : Int))) fun w2 => K w2 := by
  obtain ⟨k1, k2, k3⟩ := h.tail
  obtain ⟨pl, hb⟩ := h.blk
  rw [NonNil_some]
  refine lI (by rw [Addr.add_mk]; exact hb.cell 1) ⟨inR_i64 (by omega) (by omega), ?_⟩
  rw [NonNil_some, Addr.add_mk]
  refine st_blk hb (by simp) fun w' hb2 hf => hK w' ⟨k1, k2, h.nle, h.nle2, pl, ?_⟩ hf
  rw [k3]
  exact hb2
theorem fldA (h : FRt w g s l n why) {K : Int → Prop} (hk : K ((s.size - l.length : Nat) : Int)) : NonNil (some ⟨g, 0, none⟩) fun p => LdI .i64 (w.cell? (p.add 1)) fun x => K x := by
  obtain ⟨pl, hb⟩ := h.blk
  rw [NonNil_some]
  exact lI (by rw [Addr.add_mk]; exact hb.cell 1) hk
theorem fldW (h : FRt w g s l n why) {K : Int → Prop} (hk : K (why : Int)) : NonNil (some ⟨g, 0, none⟩) fun p => LdI .i64 (w.cell? (p.add 4)) fun x => K x := by
  obtain ⟨pl, hb⟩ := h.blk
  rw [NonNil_some]
  exact lI (by rw [Addr.add_mk]; exact hb.cell 4) hk
theorem fldS (h : FRt w g s l n why) {K : ByteArray → Prop} (hk : K s) : NonNil (some ⟨g, 0, none⟩) fun p => LdStr (w.cell? p) fun x => K x := by
  obtain ⟨pl, hb⟩ := h.blk
  rw [NonNil_some]
  exact lS (hb.cell 0) hk
theorem bad_calls (h : FRt w g s l n 0) {at_ : Int} {e : Nat} (he : e ≠ 0) (hR : ∀ w', FRt w' g s l n e → Fm (· = g) w w' → R (.returned (.tuple #[])) w') :
    Calls Try.prog 23 #[.pointer (some ⟨g, 0, none⟩), .int .i64 at_, .int .i64 (e : Int)] w R := by
  refine ok23 _ _ _ ?_
  unfold F23
  refine fldW h ?_
  rw [show (((0 : Nat) : Int) == (0 : Int)) = true from rfl, Br_t, NonNil_some, Addr.add_mk]
  obtain ⟨pl, hb⟩ := h.blk
  refine st_blk hb (by simp) fun w' hb2 hf => ?_
  rw [NonNil_some, Addr.add_mk]
  refine st_blk hb2 (by simp) fun w2 hb3 hf2 => ?_
  exact hR w2 ⟨h.len, h.rest, fun h => absurd h he, h.nle2, at_, hb3⟩ (hf.trans hf2)
theorem begin_calls (h : FRt w g s l n 0) (hR : ∀ w' why, FRt w' g s l (n + 1) why → Fm (· = g) w w' → (why = 0 ↔ n + 1 ≤ maxParts) → R (.returned (.tuple #[])) w') :
    Calls Try.prog 38 #[.pointer (some ⟨g, 0, none⟩)] w R := by
  refine ok38 _ ?_
  unfold F38
  have hn := h.nle rfl
  unfold maxParts at hn
  refine ⟨fun w' => ∃ why, FRt w' g s l n why ∧ Fm (· = g) w w' ∧ (why = 0 ↔ n + 1 ≤ maxParts), ?_, ?_⟩
  · rintro w1 ⟨why, h1, hf, hw⟩
    unfold F38_j2
    obtain ⟨pl, hb⟩ := h1.blk
    rw [NonNil_some]
    refine lI (by rw [Addr.add_mk]; exact hb.cell 2) ⟨inR_i64 (by omega) (by omega), ?_⟩
    rw [NonNil_some, Addr.add_mk]
    refine st_blk hb (by simp) fun w' hb2 hf2 => hR w' why ⟨h1.len, h1.rest, fun e => hw.1 e, by omega, pl, ?_⟩ (hf.trans hf2) hw
    exact hb2
  · obtain ⟨pl, hb⟩ := h.blk
    rw [NonNil_some]
    refine lI (by rw [Addr.add_mk]; exact hb.cell 2) ?_
    refine brd (fun hge => ?_) (fun hlt => ?_)
    · refine fldA h ?_
      refine bad_calls (e := 2) h (by decide) fun w' h1 hf => ⟨rfl, 2, h1, hf, ?_⟩
      unfold maxParts; omega
    · exact ⟨0, h, Fm.refl _ _, by unfold maxParts; omega⟩
theorem fpeek_calls (h : FRt w g s l n why) (hs : s.size ≤ 1024) (hR : ∀ w', FRt w' g s (skip l) n why → Fm (· = g) w w' → R (.returned (.int .u8 (hd (skip l) : Int))) w') :
    Calls Try.prog 22 #[.pointer (some ⟨g, 0, none⟩)] w R := by
  refine ok22 _ ?_
  unfold F22
  refine ⟨fun w1 => FRt w1 g s (skip l) n why ∧ Fm (· = g) w w1, ?_, fun w1 => ∃ l1, FRt w1 g s l1 n why ∧ skip l1 = skip l ∧ Fm (· = g) w w1, fun w1 => match w1.cell? ⟨g, 1, none⟩ with | some (.int _ k) => s.size - k.toNat | _ => 0, ⟨l, h, rfl, Fm.refl _ _⟩, ?_⟩
  · rintro w1 ⟨h1, hf⟩
    unfold F22_j3
    refine dr fun w2 hb _ => ?_
    have h2 := h1.below hb
    have hf2 := hf.tr hb
    refine fldA h2 (fldS h2 ?_)
    cases hsk : skip l with
    | nil =>
      rw [hsk] at h2
      have e := h2.size0
      rw [hsk] at hR
      rw [e, Br_t]
      exact hR w2 h2 hf2
    | cons c r =>
      rw [hsk] at h2 hR
      obtain ⟨k1, k2⟩ := h2.get
      rw [h2.size1, Br_f]
      refine dr fun w3 hb3 _ => ?_
      have h3 := h2.below hb3
      refine fldS h3 (fldA h3 ?_)
      refine ⟨by omega, c, by simpa using k1, hR w3 h3 (hf2.tr hb3)⟩
  · rintro w1 ⟨l1, h1, hsk, hf⟩
    unfold F22_l1
    refine ⟨fun w2 => ∃ r, l1 = 32 :: r ∧ FRt w2 g s l1 n why ∧ Fm (· = g) w w2, ?_, ?_⟩
    · rintro w2 ⟨r, rfl, h2, hf2⟩
      unfold F22_j2
      refine fadv h2 hs fun w3 h3 hf3 => ⟨⟨r, h3, by rw [← hsk]; rfl, hf2.trans hf3⟩, ?_⟩
      dsimp only
      obtain ⟨pl3, hb3⟩ := h3.blk
      obtain ⟨pl1, hb1⟩ := h1.blk
      rw [hb3.cell, hb1.cell]
      have := h3.len
      have := h2.len
      simp at *; omega
    · refine dr fun w2 hb _ => ?_
      have h2 := h1.below hb
      have hf2 := hf.tr hb
      refine fldA h2 (fldS h2 ?_)
      cases l1 with
      | nil =>
        rw [show skip l = [] from hsk.symm]
        refine brd (fun hlt => ?_) (fun _ => ⟨h2, hf2⟩)
        simp at hlt
      | cons c r =>
        obtain ⟨k1, k2⟩ := h2.get
        refine brd (fun _ => ?_) (fun hge => by omega)
        refine fldS h2 (fldA h2 ?_)
        refine ⟨by omega, c, by simpa using k1, ?_⟩
        refine bre (fun he => ?_) (fun hne => ?_)
        · have : c = 32 := by
            rw [← UInt8.toNat_inj]
            have : c.toNat = 32 := by omega
            rw [this]; rfl
          subst this
          exact ⟨r, rfl, h2, hf2⟩
        · have hc : c ≠ 32 := by rintro rfl; exact hne rfl
          rw [skip_cons hc] at hsk
          rw [← hsk]
          exact ⟨h2, hf2⟩
end
end Go.Proofs.Ytkmoeokfgkmlhaa
