/- Models (layer 23) in plain: parts, their text, how they are read. -/
namespace Go.Mdl
set_option linter.unusedVariables false
set_option linter.unusedSimpArgs false
inductive Part where
  | mk (atom : ByteArray) (rows : List (List Part)) (sign : Nat)
def Br : ByteArray := ⟨#[40]⟩
def Mi : ByteArray := ⟨#[45]⟩
def Dt : ByteArray := ⟨#[46]⟩
def Dl : ByteArray := ⟨#[36]⟩
mutual
def tP : Part → List UInt8
  | .mk a rows s => (if a = Br then 40 :: (tC rows ++ [41]) else a.data.toList) ++ (if s = 0 then [] else [UInt8.ofNat s])
def tR : List Part → List UInt8
  | [] => []
  | p :: ps => tP p ++ tRt ps
def tRt : List Part → List UInt8
  | [] => []
  | p :: ps => 44 :: (tP p ++ tRt ps)
def tC : List (List Part) → List UInt8
  | [] => []
  | r :: rs => tR r ++ tCt rs
def tCt : List (List Part) → List UInt8
  | [] => []
  | r :: rs => 124 :: (tR r ++ tCt rs)
end
/- What is begun. -/
mutual
def cP : Part → Nat
  | .mk a rows s => 1 + (if a = Br then cC rows else 0) + (if s = 0 then 0 else 1)
def cR : List Part → Nat
  | [] => 0
  | p :: ps => cP p + cRt ps
def cRt : List Part → Nat
  | [] => 0
  | p :: ps => 1 + cP p + cRt ps
def cC : List (List Part) → Nat
  | [] => 0
  | r :: rs => cR r + cCt rs
def cCt : List (List Part) → Nat
  | [] => 0
  | r :: rs => 1 + cR r + cCt rs
end
/-- Without brackets that say nothing. -/
def plain : Part → Part
  | .mk a rows s => if a = Br then
      match rows with
      | [[.mk a' rows' s']] => if s = 0 then .mk a' rows' s' else if s' = 0 then .mk a' rows' s else .mk a rows s
      | _ => .mk a rows s
    else .mk a rows s
mutual
def nP : Part → Part
  | .mk a rows s => plain (.mk a (nC rows) s)
def nR : List Part → List Part
  | [] => []
  | p :: ps => nP p :: nR ps
def nC : List (List Part) → List (List Part)
  | [] => []
  | r :: rs => nR r :: nC rs
end
/-- No brackets that say nothing. -/
def noCol (rows : List (List Part)) (s : Nat) : Prop := ∀ a' r' s', rows = [[.mk a' r' s']] → s ≠ 0 ∧ s' ≠ 0
mutual
def gP : Part → Prop
  | .mk a rows s => (a = Br → noCol rows s) ∧ gC rows
def gR : List Part → Prop
  | [] => True
  | p :: ps => gP p ∧ gR ps
def gC : List (List Part) → Prop
  | [] => True
  | r :: rs => gR r ∧ gC rs
end
theorem plain_noCol {a : ByteArray} {rows : List (List Part)} {s : Nat} (h : a = Br → noCol rows s) : plain (.mk a rows s) = .mk a rows s := by
  simp only [plain]
  split
  · rename_i ha
    split
    · rename_i a' r' s'
      have := h ha a' r' s' rfl
      rw [if_neg this.1, if_neg this.2]
    · rfl
  · rfl
mutual
theorem nP_id : ∀ p, gP p → nP p = p
  | .mk a rows s, h => by
    simp only [gP] at h
    simp only [nP, nC_id rows h.2]
    exact plain_noCol h.1
theorem nR_id : ∀ r, gR r → nR r = r
  | [], _ => by simp only [nR]
  | p :: ps, h => by
    simp only [gR] at h
    simp only [nR, nP_id p h.1, nR_id ps h.2]
theorem nC_id : ∀ r, gC r → nC r = r
  | [], _ => by simp only [nC]
  | p :: ps, h => by
    simp only [gC] at h
    simp only [nC, nR_id p h.1, nC_id ps h.2]
end
def begins (c : UInt8) : Bool := (97 ≤ c && c ≤ 122) || (65 ≤ c && c ≤ 90) || c == 95
def inn (c : UInt8) : Bool := begins c || (48 ≤ c && c ≤ 57) || c == 45 || c == 46
def maxName : Nat := 32
def maxParts : Nat := 128
def nameOk (l : List UInt8) : Prop := ∃ c r, l = c :: r ∧ begins c = true ∧ (∀ x ∈ r, inn x = true) ∧ l.length ≤ maxName
def atomOk (a : ByteArray) : Prop := nameOk a.data.toList ∨ a = Dl ∨ a = Dt ∨ a = Mi
def signOk (s : Nat) : Prop := s = 0 ∨ s = 63 ∨ s = 42 ∨ s = 43
mutual
def vP : Part → Prop
  | .mk a rows s => signOk s ∧ ((a = Br ∧ rows ≠ [] ∧ vC rows) ∨ (atomOk a ∧ rows = []))
def vR : List Part → Prop
  | [] => True
  | p :: ps => vP p ∧ vR ps
def vC : List (List Part) → Prop
  | [] => True
  | r :: rs => r ≠ [] ∧ vR r ∧ vC rs
end
/-! ### Reading -/
abbrev Res (α : Type) := Except (Nat × Nat) (α × List UInt8 × Nat)
def skip (l : List UInt8) : List UInt8 := l.dropWhile (· == 32)
def eLong : Nat := 2
def eForm : Nat := 3
def eShort : Nat := 4
def eMore : Nat := 5
def eName : Nat := 6
def eOpen : Nat := 131
def atom (ch : List UInt8 → Nat → Res (List (List Part))) (l0 : List UInt8) (n : Nat) : Res Part :=
  match skip l0 with
  | [] => .error (0, eShort)
  | c :: r =>
    if begins c then
      if maxParts < n + 1 then .error ((c :: r).length, eLong)
      else if maxName < ((c :: r).takeWhile inn).length then .error ((c :: r).length, eName)
      else .ok (.mk ⟨((c :: r).takeWhile inn).toArray⟩ [] 0, (c :: r).dropWhile inn, n + 1)
    else if c = 36 ∨ c = 46 ∨ c = 45 then
      if maxParts < n + 1 then .error ((c :: r).length, eLong)
      else .ok (.mk ⟨#[c]⟩ [] 0, r, n + 1)
    else if c ≠ 40 then .error ((c :: r).length, eForm)
    else if maxParts < n + 1 then .error ((c :: r).length, eLong)
    else match ch r (n + 1) with
      | .error e => .error e
      | .ok (rows, l1, n1) =>
        match skip l1 with
        | [] => .error ((c :: r).length, eOpen)
        | d :: r1 => if d = 41 then .ok (.mk Br rows 0, r1, n1) else .error ((d :: r1).length, eForm)
def isSign (c : UInt8) : Bool := c == 63 || c == 42 || c == 43
def signed (s : Nat) : Part → Part
  | .mk a rows _ => .mk a rows s
def part (ch : List UInt8 → Nat → Res (List (List Part))) (l0 : List UInt8) (n : Nat) : Res Part :=
  match atom ch l0 n with
  | .error e => .error e
  | .ok (p, l1, n1) =>
    match skip l1 with
    | [] => .ok (plain p, [], n1)
    | c :: r =>
      if isSign c then
        if maxParts < n1 + 1 then .error ((c :: r).length, eLong)
        else .ok (plain (signed c.toNat p), r, n1 + 1)
      else .ok (plain p, c :: r, n1)
def row (ch : List UInt8 → Nat → Res (List (List Part))) : Nat → List UInt8 → Nat → Res (List Part)
  | 0, _, _ => .error (0, 0)
  | f + 1, l, n =>
    match part ch l n with
    | .error e => .error e
    | .ok (p, l1, n1) =>
      match skip l1 with
      | [] => .ok ([p], [], n1)
      | c :: r =>
        if c = 44 then
          if maxParts < n1 + 1 then .error ((c :: r).length, eLong)
          else match row ch f r (n1 + 1) with
            | .error e => .error e
            | .ok (ps, l2, n2) => .ok (p :: ps, l2, n2)
        else .ok ([p], c :: r, n1)
def rowsL (rw : List UInt8 → Nat → Res (List Part)) : Nat → List UInt8 → Nat → Res (List (List Part))
  | 0, _, _ => .error (0, 0)
  | f + 1, l, n =>
    match rw l n with
    | .error e => .error e
    | .ok (p, l1, n1) =>
      match skip l1 with
      | [] => .ok ([p], [], n1)
      | c :: r =>
        if c = 124 then
          if maxParts < n1 + 1 then .error ((c :: r).length, eLong)
          else match rowsL rw f r (n1 + 1) with
            | .error e => .error e
            | .ok (ps, l2, n2) => .ok (p :: ps, l2, n2)
        else .ok ([p], c :: r, n1)
def choices : Nat → List UInt8 → Nat → Res (List (List Part))
  | 0, _, _ => .error (0, 0)
  | f + 1, l, n => rowsL (row (choices f) (f + 1)) (f + 1) l n
/-- Parse: an error with how many bytes are left there. -/
def parse (s : List UInt8) : Except (Nat × Nat) (List (List Part)) :=
  if 1024 < s.length then .error (s.length, eLong)
  else match choices (s.length + 1) s 0 with
    | .error e => .error e
    | .ok (rows, l, _) => match skip l with
      | [] => .ok rows
      | c :: r => .error ((c :: r).length, eMore)
/-! ### What is read: sound -/
theorem skip_len (l : List UInt8) : (skip l).length ≤ l.length := by
  unfold skip
  exact (List.dropWhile_suffix _).length_le
theorem takeDrop_len (l : List UInt8) : (l.takeWhile inn).length + (l.dropWhile inn).length = l.length := by
  rw [← List.length_append, List.takeWhile_append_dropWhile]
/-- What is asked of what was read. -/
def Sd {α : Type} (len cost : α → Nat) (ok : α → Prop) (l : List UInt8) (n : Nat) (r : Res α) : Prop :=
  ∀ x l' n', r = .ok (x, l', n') → n ≤ maxParts → ok x ∧ len x + l'.length ≤ l.length ∧ n + cost x ≤ n' ∧ n' ≤ maxParts
def okC (r : List (List Part)) : Prop := r ≠ [] ∧ vC r ∧ gC r
def okR (r : List Part) : Prop := r ≠ [] ∧ vR r ∧ gR r
def okP (p : Part) : Prop := vP p ∧ gP p
/-- An atom: with brackets that may say nothing. -/
def okA (p : Part) : Prop := match p with | .mk a rows s => s = 0 ∧ ((a = Br ∧ okC rows) ∨ (atomOk a ∧ rows = []))
theorem br_ne {a : ByteArray} (h : atomOk a) : a ≠ Br := by
  rintro rfl
  rcases h with ⟨c, r, h1, h2, _⟩ | h | h | h
  · simp [Br] at h1
    rw [← h1.1] at h2
    revert h2; decide
  all_goals revert h; decide
theorem begins_inn {c : UInt8} (h : begins c = true) : inn c = true := by simp [inn, h]
theorem sound_atom {ch : List UInt8 → Nat → Res (List (List Part))} (hc : ∀ l n, Sd (fun r => (tC r).length) cC okC l n (ch l n)) (l : List UInt8) (n : Nat) :
    Sd (fun p => (tP p).length) cP okA l n (atom ch l n) := by
  intro x l' n' h hn
  have hs := skip_len l
  unfold atom at h
  split at h
  · cases h
  · rename_i c r hl
    rw [hl] at hs
    split at h
    · rename_i hb
      split at h
      · cases h
      split at h
      · cases h
      rename_i h1 h2
      cases h
      have hbi := begins_inn hb
      have hne : atomOk ⟨((c :: r).takeWhile inn).toArray⟩ := by
        refine .inl ⟨c, r.takeWhile inn, by simp [List.takeWhile_cons, hbi], hb, fun x hx => ?_, by simpa using h2⟩
        exact List.all_eq_true.1 (List.all_takeWhile) x hx
      refine ⟨⟨rfl, .inr ⟨hne, rfl⟩⟩, ?_, ?_, by omega⟩
      · have := takeDrop_len (c :: r)
        simp only [tP, if_neg (br_ne hne), if_true, List.append_nil]
        simp only [List.length_cons] at this hs ⊢
        omega
      · simp [cP, br_ne hne]
    split at h
    · rename_i hb
      split at h
      · cases h
      cases h
      have hne : atomOk ⟨#[c]⟩ := by
        rcases hb with rfl | rfl | rfl
        · exact .inr (.inl rfl)
        · exact .inr (.inr (.inl rfl))
        · exact .inr (.inr (.inr rfl))
      refine ⟨⟨rfl, .inr ⟨hne, rfl⟩⟩, ?_, ?_, by omega⟩
      · simp only [tP, if_neg (br_ne hne)]
        simp at hs ⊢; omega
      · simp [cP, br_ne hne]
    split at h
    · cases h
    split at h
    · cases h
    split at h
    · cases h
    rename_i rows l1 n1 hch
    have h1 := hc r (n + 1) _ _ _ hch (by omega)
    have hs1 := skip_len l1
    split at h
    · cases h
    rename_i d r1 hl1
    rw [hl1] at hs1
    split at h
    · cases h
      refine ⟨⟨rfl, .inl ⟨rfl, h1.1⟩⟩, ?_, ?_, h1.2.2.2⟩
      · simp only [tP, if_true, List.append_nil]
        have := h1.2.1
        simp at hs hs1 this ⊢; omega
      · simp [cP]; have := h1.2.2.1; omega
    · cases h
theorem plain_ok {a : ByteArray} {rows : List (List Part)} {s : Nat} (hs : signOk s) (h : (a = Br ∧ okC rows) ∨ (atomOk a ∧ rows = [])) :
    okP (plain (.mk a rows s)) ∧ (tP (plain (.mk a rows s))).length ≤ (tP (.mk a rows s)).length ∧ cP (plain (.mk a rows s)) ≤ cP (.mk a rows s) := by
  rcases h with ⟨rfl, h1, h2, h3⟩ | ⟨h, rfl⟩
  · by_cases hc : noCol rows s
    · rw [plain_noCol fun _ => hc]
      exact ⟨⟨by simp only [vP]; exact ⟨hs, .inl ⟨trivial, h1, h2⟩⟩, by simp only [gP]; exact ⟨fun _ => hc, h3⟩⟩, by omega, by omega⟩
    · have : ∃ a' r' s', rows = [[.mk a' r' s']] ∧ (s = 0 ∨ s' = 0) := by
        unfold noCol at hc
        simp only [Classical.not_forall] at hc
        obtain ⟨a', r', s', e, h⟩ := hc
        exact ⟨a', r', s', e, by omega⟩
      obtain ⟨a', r', s', rfl, h⟩ := this
      simp only [vC, vR, and_true] at h2
      simp only [gC, gR, and_true] at h3
      by_cases h0 : s = 0
      · have e : plain (.mk Br [[.mk a' r' s']] s) = .mk a' r' s' := by simp [plain, h0]
        rw [e]
        exact ⟨⟨h2.2, h3⟩, by simp [tP, tC, tR, tRt, tCt]; omega, by simp [cP, cC, cR, cRt, cCt]; omega⟩
      · obtain rfl : s' = 0 := by omega
        have e : plain (.mk Br [[.mk a' r' 0]] s) = .mk a' r' s := by simp [plain, h0]
        rw [e]
        refine ⟨⟨?_, ?_⟩, by simp [tP, tC, tR, tRt, tCt, h0], by simp [cP, cC, cR, cRt, cCt, h0]⟩
        · have := h2.2
          simp only [vP] at this ⊢
          exact ⟨hs, this.2⟩
        · simp only [gP] at h3 ⊢
          exact ⟨fun ha a2 r2 s2 e => absurd rfl (h3.1 ha a2 r2 s2 e).1, h3.2⟩
  · have : plain (.mk a [] s) = .mk a [] s := plain_noCol fun _ => by simp [noCol]
    rw [this]
    exact ⟨⟨by simp only [vP]; exact ⟨hs, .inr ⟨h, trivial⟩⟩, by simp [gP, gC, noCol]⟩, by omega, by omega⟩
theorem sound_part {ch : List UInt8 → Nat → Res (List (List Part))} (hc : ∀ l n, Sd (fun r => (tC r).length) cC okC l n (ch l n)) (l : List UInt8) (n : Nat) :
    Sd (fun p => (tP p).length) cP okP l n (part ch l n) := by
  intro x l' n' h hn
  unfold part at h
  split at h
  · cases h
  rename_i p l1 n1 ha
  obtain ⟨a, rows, s⟩ := p
  obtain ⟨⟨rfl, hk⟩, h2, h3, h4⟩ := sound_atom hc l n _ _ _ ha hn
  have hs := skip_len l1
  split at h
  · cases h
    have := plain_ok (s := 0) (.inl rfl) hk
    exact ⟨this.1, by simp at h2 ⊢; omega, by omega, h4⟩
  rename_i c r hl
  rw [hl] at hs
  split at h
  · rename_i hsg
    split at h
    · cases h
    cases h
    have hc : signOk c.toNat ∧ c.toNat ≠ 0 := by
      simp only [isSign, Bool.or_eq_true, beq_iff_eq] at hsg
      unfold signOk
      rcases hsg with (rfl | rfl) | rfl <;> decide
    have := plain_ok hc.1 hk
    refine ⟨this.1, ?_, ?_, by omega⟩
    · have h5 := this.2.1
      have e : (tP (.mk a rows c.toNat)).length = (tP (.mk a rows 0)).length + 1 := by
        simp only [tP, if_neg hc.2, if_true]; simp
      simp only [signed]
      simp at hs h2 ⊢; omega
    · have e : cP (.mk a rows c.toNat) = cP (.mk a rows 0) + 1 := by
        simp only [cP, if_neg hc.2, if_true]
      simp only [signed]
      omega
  · cases h
    have := plain_ok (s := 0) (.inl rfl) hk
    exact ⟨this.1, by simp at h2 hs ⊢; omega, by omega, h4⟩
theorem sound_row {ch : List UInt8 → Nat → Res (List (List Part))} (hc : ∀ l n, Sd (fun r => (tC r).length) cC okC l n (ch l n)) : ∀ (f : Nat) (l : List UInt8) (n : Nat),
    Sd (fun p => (tR p).length) cR okR l n (row ch f l n)
  | 0, l, n => fun x l' n' h _ => by cases h
  | f + 1, l, n => by
    intro x l' n' h hn
    unfold row at h
    split at h
    · cases h
    rename_i p l1 n1 hp
    obtain ⟨⟨h1, h1'⟩, h2, h3, h4⟩ := sound_part hc l n _ _ _ hp hn
    have hs := skip_len l1
    split at h
    · cases h
      exact ⟨⟨by simp, by simp [vR, h1], by simp [gR, h1']⟩, by simp [tR, tRt] at h2 ⊢; omega, by simp [cR, cRt]; omega, h4⟩
    rename_i c r hl
    rw [hl] at hs
    split at h
    · split at h
      · cases h
      split at h
      · cases h
      rename_i ps l2 n2 hr
      cases h
      obtain ⟨⟨k0, k1, k1'⟩, k2, k3, k4⟩ := sound_row hc f r (n1 + 1) _ _ _ hr (by omega)
      refine ⟨⟨by simp, by simp [vR, h1, k1], by simp [gR, h1', k1']⟩, ?_, ?_, k4⟩
      · cases ps with
        | nil => exact absurd rfl k0
        | cons q qs =>
          simp [tR, tRt] at h2 hs k2 ⊢; omega
      · cases ps with
        | nil => exact absurd rfl k0
        | cons q qs =>
          simp [cR, cRt] at k3 ⊢; omega
    · cases h
      exact ⟨⟨by simp, by simp [vR, h1], by simp [gR, h1']⟩, by simp [tR, tRt] at h2 hs ⊢; omega, by simp [cR, cRt]; omega, h4⟩
theorem sound_rows {rw : List UInt8 → Nat → Res (List Part)} (hc : ∀ l n, Sd (fun r => (tR r).length) cR okR l n (rw l n)) : ∀ (f : Nat) (l : List UInt8) (n : Nat),
    Sd (fun p => (tC p).length) cC okC l n (rowsL rw f l n)
  | 0, l, n => fun x l' n' h _ => by cases h
  | f + 1, l, n => by
    intro x l' n' h hn
    unfold rowsL at h
    split at h
    · cases h
    rename_i p l1 n1 hp
    obtain ⟨⟨h0, h1, h1'⟩, h2, h3, h4⟩ := hc l n _ _ _ hp hn
    have hs := skip_len l1
    split at h
    · cases h
      exact ⟨⟨by simp, by simp [vC, h0, h1], by simp [gC, h1']⟩, by simp [tC, tCt] at h2 ⊢; omega, by simp [cC, cCt]; omega, h4⟩
    rename_i c r hl
    rw [hl] at hs
    split at h
    · split at h
      · cases h
      split at h
      · cases h
      rename_i ps l2 n2 hr
      cases h
      obtain ⟨⟨k0, k1, k1'⟩, k2, k3, k4⟩ := sound_rows hc f r (n1 + 1) _ _ _ hr (by omega)
      refine ⟨⟨by simp, by simp [vC, h0, h1, k1], by simp [gC, h1', k1']⟩, ?_, ?_, k4⟩
      · cases ps with
        | nil => exact absurd rfl k0
        | cons q qs =>
          simp [tC, tCt] at h2 hs k2 ⊢; omega
      · cases ps with
        | nil => exact absurd rfl k0
        | cons q qs =>
          simp [cC, cCt] at k3 ⊢; omega
    · cases h
      exact ⟨⟨by simp, by simp [vC, h0, h1], by simp [gC, h1']⟩, by simp [tC, tCt] at h2 hs ⊢; omega, by simp [cC, cCt]; omega, h4⟩
theorem sound : ∀ (f : Nat) (l : List UInt8) (n : Nat), Sd (fun r => (tC r).length) cC okC l n (choices f l n)
  | 0, l, n => fun x l' n' h _ => by cases h
  | f + 1, l, n => by
    unfold choices
    exact sound_rows (fun l n => sound_row (sound f) (f + 1) l n) (f + 1) l n
/-- What was read can be, is no longer, and has begun no more. -/
theorem parse_ok {s : List UInt8} {r : List (List Part)} (h : parse s = .ok r) : okC r ∧ (tC r).length ≤ 1024 ∧ cC r ≤ maxParts := by
  unfold parse at h
  split at h
  · cases h
  split at h
  · cases h
  rename_i h0 rows l n hc
  obtain ⟨h1, h2, h3, h4⟩ := sound _ _ _ _ _ _ hc (by simp [maxParts])
  split at h
  · cases h
    exact ⟨h1, by simp at h2 h0; omega, by omega⟩
  · cases h
/-! ### What is written is read -/
def stopP (t : List UInt8) : Prop := t = [] ∨ ∃ c r, t = c :: r ∧ (c = 44 ∨ c = 124 ∨ c = 41)
def stopR (t : List UInt8) : Prop := t = [] ∨ ∃ c r, t = c :: r ∧ (c = 124 ∨ c = 41)
def stopC (t : List UInt8) : Prop := t = [] ∨ ∃ c r, t = c :: r ∧ c = 41
def Gets {α : Type} (r : Res α) (c n : Nat) (x : α) (t : List UInt8) : Prop :=
  (n + c ≤ maxParts ∧ r = .ok (x, t, n + c)) ∨ (maxParts < n + c ∧ ∃ p, r = .error (p, eLong))
theorem skip_cons {c : UInt8} {r : List UInt8} (h : c ≠ 32) : skip (c :: r) = c :: r := by simp [skip, List.dropWhile_cons, h]
theorem stopR.p {t : List UInt8} (h : stopR t) : stopP t := by
  rcases h with h | ⟨c, r, h1, h2⟩
  · exact .inl h
  · exact .inr ⟨c, r, h1, h2.elim (fun h => .inr (.inl h)) (fun h => .inr (.inr h))⟩
theorem stopC.r {t : List UInt8} (h : stopC t) : stopR t := by
  rcases h with h | ⟨c, r, h1, h2⟩
  · exact .inl h
  · exact .inr ⟨c, r, h1, .inr h2⟩
theorem begins_ne {c : UInt8} (h : begins c = true) : c ≠ 32 := by rintro rfl; revert h; decide
theorem name_take {l t : List UInt8} (hl : ∀ x ∈ l, inn x = true) (ht : ∀ c r, t = c :: r → inn c = false) : (l ++ t).takeWhile inn = l ∧ (l ++ t).dropWhile inn = t := by
  induction l with
  | nil =>
    cases t with
    | nil => simp
    | cons c r => simp [ht c r rfl]
  | cons x l ih =>
    have := ih fun y hy => hl y (by simp [hy])
    simp [hl x (by simp), this]
theorem cm_name {ch : List UInt8 → Nat → Res (List (List Part))} {a : ByteArray} (ha : atomOk a) (t : List UInt8) (ht : ∀ c r, t = c :: r → inn c = false) (n : Nat) :
    Gets (atom ch (a.data.toList ++ t) n) 1 n (.mk a [] 0) t := by
  obtain ⟨⟨a⟩⟩ := a
  rcases ha with ⟨c, r, h1, h2, h3, h4⟩ | h | h | h
  · dsimp only at h1 h4 ⊢
    subst h1
    have hall : ∀ x ∈ c :: r, inn x = true := by
      intro x hx
      rcases List.mem_cons.1 hx with rfl | hx
      · exact begins_inn h2
      · exact h3 x hx
    obtain ⟨e1, e2⟩ := name_take hall ht
    unfold atom
    simp only [List.cons_append] at e1 e2 ⊢
    rw [skip_cons (begins_ne h2)]
    simp only [h2, if_true, e1, e2]
    unfold Gets
    by_cases hn : maxParts < n + 1
    · rw [if_pos hn]; exact .inr ⟨hn, _, rfl⟩
    · rw [if_neg hn, if_neg (by omega)]; exact .inl ⟨by omega, rfl⟩
  all_goals
    cases h
    unfold atom
    simp only [Dl, Dt, Mi, List.cons_append, List.nil_append]
    rw [skip_cons (by decide)]
    simp only [begins]
    unfold Gets
    by_cases hn : maxParts < n + 1
    · right; refine ⟨hn, ?_⟩; simp [hn]
    · left; refine ⟨by omega, ?_⟩; simp [hn]
theorem sign_facts {s : Nat} (h : signOk s) (h0 : s ≠ 0) : isSign (UInt8.ofNat s) = true ∧ (UInt8.ofNat s).toNat = s ∧ UInt8.ofNat s ≠ 32 ∧ inn (UInt8.ofNat s) = false := by
  rcases h with h | h | h | h
  · exact absurd h h0
  all_goals subst h; decide
theorem stopP.facts {t : List UInt8} (h : stopP t) : skip t = t ∧ ∀ c r, t = c :: r → inn c = false ∧ isSign c = false := by
  rcases h with rfl | ⟨c, r, rfl, h⟩
  · exact ⟨rfl, by simp⟩
  · refine ⟨skip_cons ?_, ?_⟩
    · rcases h with rfl | rfl | rfl <;> decide
    · intro c' r' e
      cases e
      rcases h with rfl | rfl | rfl <;> decide
/-- A sign behind an atom, or none. -/
theorem cm_sign {ch : List UInt8 → Nat → Res (List (List Part))} {l : List UInt8} {a : ByteArray} {rows : List (List Part)} {s c n : Nat} {t : List UInt8} (hs : signOk s) (ht : stopP t)
    (h : ∀ t', (∀ c r, t' = c :: r → inn c = false) → t'.length ≤ t.length + 1 → (s = 0 → t' = t) → Gets (atom ch (l ++ t') n) c n (.mk a rows 0) t') :
    Gets (part ch (l ++ (if s = 0 then [] else [UInt8.ofNat s]) ++ t) n) (c + (if s = 0 then 0 else 1)) n (plain (.mk a rows s)) t := by
  obtain ⟨hsk, hf⟩ := ht.facts
  unfold part
  by_cases h0 : s = 0
  · subst h0
    simp only [if_true, List.append_nil, Nat.add_zero]
    rcases h t (fun c r e => (hf c r e).1) (by omega) (fun _ => rfl) with ⟨h1, h2⟩ | ⟨h1, p, h2⟩
    · rw [h2]
      refine .inl ⟨h1, ?_⟩
      dsimp only
      rw [hsk]
      cases t with
      | nil => rfl
      | cons d r => simp [(hf d r rfl).2]
    · rw [h2]; exact .inr ⟨h1, p, rfl⟩
  · obtain ⟨k1, k2, k3, k4⟩ := sign_facts hs h0
    simp only [if_neg h0, List.append_assoc, List.singleton_append]
    rcases h (UInt8.ofNat s :: t) (fun c r e => by cases e; exact k4) (by simp) (fun e => absurd e h0) with ⟨h1, h2⟩ | ⟨h1, p, h2⟩
    · rw [h2]
      dsimp only
      rw [skip_cons k3]
      simp only [k1, if_true, signed, k2]
      unfold Gets
      by_cases hn : maxParts < n + c + 1
      · rw [if_pos hn]; exact .inr ⟨by omega, _, rfl⟩
      · rw [if_neg hn]; exact .inl ⟨by omega, by rw [Nat.add_assoc]⟩
    · rw [h2]; exact .inr ⟨by omega, p, rfl⟩
mutual
theorem cmP : ∀ p, vP p → ∀ (f : Nat) (t : List UInt8) (n : Nat), stopP t → (tP p ++ t).length ≤ f → n ≤ maxParts → Gets (part (choices f) (tP p ++ t) n) (cP p) n (nP p) t
  | .mk a rows s, hv, f, t, n, ht, hl, hn => by
    simp only [vP] at hv
    obtain ⟨hs, ⟨rfl, hr, hv⟩ | ⟨ha, rfl⟩⟩ := hv
    · simp only [tP, cP, nP, if_true] at hl ⊢
      rw [show (1 + cC rows + if s = 0 then 0 else 1) = (1 + cC rows) + (if s = 0 then 0 else 1) from rfl]
      refine cm_sign hs ht fun t' ht' hlt' hst => ?_
      unfold atom
      simp only [List.cons_append, List.append_assoc, List.nil_append]
      rw [skip_cons (by decide)]
      have hb : begins 40 = false := by decide
      simp only [hb, Bool.false_eq_true, if_false]
      rw [if_neg (by decide)]
      simp only [ne_eq, not_true_eq_false, if_false]
      by_cases hm : maxParts < n + 1
      · rw [if_pos hm]; exact .inr ⟨by omega, _, rfl⟩
      rw [if_neg hm]
      have hlen : (tC rows ++ 41 :: t').length < f := by
        simp only [List.cons_append, List.append_assoc, List.nil_append, List.length_cons, List.length_append] at hl hlt' ⊢
        by_cases h0 : s = 0
        · have := hst h0; subst this; simp [h0] at hl; omega
        · simp [h0] at hl; omega
      obtain ⟨f', rfl⟩ : ∃ f', f = f' + 1 := ⟨f - 1, by omega⟩
      have := cmC rows hr hv f' (f' + 1) (41 :: t') (n + 1) (.inr ⟨_, _, rfl, rfl⟩) (by omega) (by omega) (by omega)
      unfold choices
      rcases this with ⟨h1, h2⟩ | ⟨h1, p, h2⟩
      · rw [h2]
        dsimp only
        rw [skip_cons (by decide)]
        refine .inl ⟨by omega, ?_⟩
        simp; omega
      · rw [h2]; exact .inr ⟨by omega, p, rfl⟩
    · simp only [tP, cP, nP, if_neg (br_ne ha), nC, Nat.add_zero]
      exact cm_sign hs ht fun t' ht' _ _ => cm_name ha t' ht' n
theorem cmR : ∀ r, r ≠ [] → vR r → ∀ (f g : Nat) (t : List UInt8) (n : Nat), stopR t → (tR r ++ t).length ≤ f → (tR r ++ t).length < g → n ≤ maxParts → Gets (row (choices f) g (tR r ++ t) n) (cR r) n (nR r) t
  | [], h, _, _, _, _, _, _, _, _, _ => absurd rfl h
  | p :: ps, _, hv, f, g, t, n, ht, hl, hg, hn => by
    obtain ⟨g, rfl⟩ : ∃ g', g = g' + 1 := ⟨g - 1, by omega⟩
    simp only [vR] at hv
    unfold row
    cases ps with
    | nil =>
      simp only [tR, tRt, cR, cRt, nR, List.append_nil, Nat.add_zero] at hl ⊢
      rcases cmP p hv.1 f t n ht.p hl hn with ⟨h1, h2⟩ | ⟨h1, q, h2⟩
      · rw [h2]
        refine .inl ⟨h1, ?_⟩
        dsimp only
        rw [ht.p.facts.1]
        rcases ht with rfl | ⟨c, r, rfl, hc⟩
        · rfl
        · dsimp only
          rw [if_neg (by rcases hc with rfl | rfl <;> decide)]
      · rw [h2]; exact .inr ⟨h1, q, rfl⟩
    | cons q qs =>
      have e : tR (p :: q :: qs) ++ t = tP p ++ 44 :: (tR (q :: qs) ++ t) := by simp [tR, tRt]
      rw [e] at hl hg ⊢
      have hcost : cR (p :: q :: qs) = cP p + (1 + cR (q :: qs)) := by simp [cR, cRt]; omega
      rw [hcost]
      rcases cmP p hv.1 f _ n (.inr ⟨_, _, rfl, .inl rfl⟩) hl hn with ⟨h1, h2⟩ | ⟨h1, q, h2⟩
      · rw [h2]
        dsimp only
        rw [skip_cons (by decide)]
        simp only [if_true]
        by_cases hm : maxParts < n + cP p + 1
        · rw [if_pos hm]; exact .inr ⟨by omega, _, rfl⟩
        rw [if_neg hm]
        simp only [List.length_append, List.length_cons] at hl hg
        rcases cmR (q :: qs) (by simp) hv.2 f g t (n + cP p + 1) ht (by simp; omega) (by simp; omega) (by omega) with ⟨k1, k2⟩ | ⟨k1, z, k2⟩
        · rw [k2]
          refine .inl ⟨by omega, ?_⟩
          simp [nR]; omega
        · rw [k2]; exact .inr ⟨by omega, z, rfl⟩
      · rw [h2]; exact .inr ⟨by omega, q, rfl⟩
theorem cmC : ∀ rs, rs ≠ [] → vC rs → ∀ (f g : Nat) (t : List UInt8) (n : Nat), stopC t → (tC rs ++ t).length ≤ f → (tC rs ++ t).length < g → n ≤ maxParts → Gets (rowsL (row (choices f) (f + 1)) g (tC rs ++ t) n) (cC rs) n (nC rs) t
  | [], h, _, _, _, _, _, _, _, _, _ => absurd rfl h
  | p :: ps, _, hv, f, g, t, n, ht, hl, hg, hn => by
    obtain ⟨g, rfl⟩ : ∃ g', g = g' + 1 := ⟨g - 1, by omega⟩
    simp only [vC] at hv
    unfold rowsL
    cases ps with
    | nil =>
      simp only [tC, tCt, cC, cCt, nC, List.append_nil, Nat.add_zero] at hl ⊢
      rcases cmR p hv.1 hv.2.1 f (f + 1) t n ht.r hl (by omega) hn with ⟨h1, h2⟩ | ⟨h1, q, h2⟩
      · rw [h2]
        refine .inl ⟨h1, ?_⟩
        dsimp only
        rw [ht.r.p.facts.1]
        rcases ht with rfl | ⟨c, r, rfl, hc⟩
        · rfl
        · dsimp only
          rw [if_neg (by rcases hc with rfl; decide)]
      · rw [h2]; exact .inr ⟨h1, q, rfl⟩
    | cons q qs =>
      have e : tC (p :: q :: qs) ++ t = tR p ++ 124 :: (tC (q :: qs) ++ t) := by simp [tC, tCt]
      rw [e] at hl hg ⊢
      have hcost : cC (p :: q :: qs) = cR p + (1 + cC (q :: qs)) := by simp [cC, cCt]; omega
      rw [hcost]
      rcases cmR p hv.1 hv.2.1 f (f + 1) _ n (.inr ⟨_, _, rfl, .inl rfl⟩) hl (by omega) hn with ⟨h1, h2⟩ | ⟨h1, q, h2⟩
      · rw [h2]
        dsimp only
        rw [skip_cons (by decide)]
        simp only [if_true]
        by_cases hm : maxParts < n + cR p + 1
        · rw [if_pos hm]; exact .inr ⟨by omega, _, rfl⟩
        rw [if_neg hm]
        simp only [List.length_append, List.length_cons] at hl hg
        rcases cmC (q :: qs) (by simp) hv.2.2 f g t (n + cR p + 1) ht (by simp; omega) (by simp; omega) (by omega) with ⟨k1, k2⟩ | ⟨k1, z, k2⟩
        · rw [k2]
          refine .inl ⟨by omega, ?_⟩
          simp [nC]; omega
        · rw [k2]; exact .inr ⟨by omega, z, rfl⟩
      · rw [h2]; exact .inr ⟨by omega, q, rfl⟩
end
/-- What is written of any parts that can be is read, or too long. -/
theorem parse_text {rs : List (List Part)} (h0 : rs ≠ []) (hv : vC rs) : (parse (tC rs) = .ok (nC rs) ∧ (tC rs).length ≤ 1024 ∧ cC rs ≤ maxParts) ∨ (∃ p, parse (tC rs) = .error (p, eLong) ∧ (1024 < (tC rs).length ∨ maxParts < cC rs)) := by
  unfold parse
  by_cases hl : 1024 < (tC rs).length
  · rw [if_pos hl]; exact .inr ⟨_, rfl, .inl hl⟩
  rw [if_neg hl]
  have := cmC rs h0 hv (tC rs).length ((tC rs).length + 1) [] 0 (.inl rfl) (by simp) (by simp) (by simp)
  rw [List.append_nil] at this
  unfold choices
  rcases this with ⟨h1, h2⟩ | ⟨h1, p, h2⟩
  · rw [h2]; exact .inl ⟨rfl, by omega, by omega⟩
  · rw [h2]; exact .inr ⟨p, rfl, .inr (by omega)⟩
abbrev Wd := List ByteArray
def fits (a name : ByteArray) : Bool := decide (a = Dt) || (decide (a = Dl) && decide (name = ByteArray.empty)) || (decide (a = name) && !decide (a = Dl))
/-- What matches, and what is a beginning (not empty) of what matches. -/
structure Lang where
  w : Wd → Prop
  p : Wd → Prop
theorem Lang.ext {x y : Lang} (h1 : ∀ w, x.w w ↔ y.w w) (h2 : ∀ w, x.p w ↔ y.p w) : x = y := by
  obtain ⟨a, b⟩ := x
  obtain ⟨c, d⟩ := y
  have e1 : a = c := funext fun w => propext (h1 w)
  have e2 : b = d := funext fun w => propext (h2 w)
  subst e1 e2; rfl
inductive Star (L : Wd → Prop) : Wd → Prop
  | nil : Star L []
  | cons {u v : Wd} : L u → Star L v → Star L (u ++ v)
def none : Lang := ⟨fun _ => False, fun _ => False⟩
def eps : Lang := ⟨fun w => w = [], fun _ => False⟩
def one (a : ByteArray) : Lang := ⟨fun w => ∃ x, w = [x] ∧ fits a x = true, fun w => ∃ x, w = [x] ∧ fits a x = true⟩
def alt (x y : Lang) : Lang := ⟨fun w => x.w w ∨ y.w w, fun w => x.p w ∨ y.p w⟩
def seq (x y : Lang) : Lang := ⟨fun w => ∃ u v, w = u ++ v ∧ x.w u ∧ y.w v, fun w => x.p w ∨ ∃ u v, w = u ++ v ∧ x.w u ∧ y.p v⟩
def star (x : Lang) : Lang := ⟨Star x.w, fun w => ∃ u v, w = u ++ v ∧ Star x.w u ∧ x.p v⟩
def plus (x : Lang) : Lang := ⟨fun w => ∃ u v, w = u ++ v ∧ x.w u ∧ Star x.w v, (star x).p⟩
def opt (x : Lang) : Lang := ⟨fun w => x.w w ∨ w = [], x.p⟩
def sg (s : Nat) (x : Lang) : Lang := if s = 63 then opt x else if s = 42 then star x else if s = 43 then plus x else x
mutual
def mP : Part → Lang
  | .mk a rows s => sg s (if a = Br then mC rows else if a = Mi then eps else one a)
def mR : List Part → Lang
  | [] => eps
  | p :: ps => seq (mP p) (mR ps)
def mC : List (List Part) → Lang
  | [] => none
  | r :: rs => alt (mR r) (mC rs)
end
/-! ### Laws -/
theorem seq_eps (x : Lang) : seq x eps = x := Lang.ext (fun w => by simp [seq, eps]) (fun w => by simp [seq, eps])
theorem eps_seq (x : Lang) : seq eps x = x := by
  refine Lang.ext (fun w => ⟨?_, fun h => ⟨[], w, rfl, rfl, h⟩⟩) (fun w => ⟨?_, fun h => .inr ⟨[], w, rfl, rfl, h⟩⟩)
  · rintro ⟨u, v, rfl, rfl, h⟩; exact h
  · rintro (h | ⟨u, v, rfl, rfl, h⟩)
    · exact h.elim
    · exact h
theorem alt_none (x : Lang) : alt x none = x := Lang.ext (fun w => by simp [alt, none]) (fun w => by simp [alt, none])
theorem alt_comm (x y : Lang) : alt x y = alt y x := Lang.ext (fun w => by simp [alt]; exact Or.comm) (fun w => by simp [alt]; exact Or.comm)
theorem seq_assoc (x y z : Lang) : seq (seq x y) z = seq x (seq y z) := by
  refine Lang.ext (fun w => ?_) (fun w => ?_)
  · simp only [seq]
    constructor
    · rintro ⟨_, v, rfl, ⟨a, b, rfl, h1, h2⟩, h3⟩; exact ⟨a, b ++ v, by simp, h1, b, v, rfl, h2, h3⟩
    · rintro ⟨a, _, rfl, h1, b, v, rfl, h2, h3⟩; exact ⟨a ++ b, v, by simp, ⟨a, b, rfl, h1, h2⟩, h3⟩
  · simp only [seq]
    constructor
    · rintro ((h | ⟨a, b, rfl, h1, h2⟩) | ⟨_, v, rfl, ⟨a, b, rfl, h1, h2⟩, h3⟩)
      · exact .inl h
      · exact .inr ⟨a, b, rfl, h1, .inl h2⟩
      · exact .inr ⟨a, b ++ v, by simp, h1, .inr ⟨b, v, rfl, h2, h3⟩⟩
    · rintro (h | ⟨a, _, rfl, h1, h2 | ⟨b, v, rfl, h2, h3⟩⟩)
      · exact .inl (.inl h)
      · exact .inl (.inr ⟨a, _, rfl, h1, h2⟩)
      · exact .inr ⟨a ++ b, v, by simp, ⟨a, b, rfl, h1, h2⟩, h3⟩
theorem Star.app {L : Wd → Prop} {u v : Wd} (h : Star L u) (k : Star L v) : Star L (u ++ v) := by
  induction h with
  | nil => exact k
  | cons h1 _ ih => rw [List.append_assoc]; exact .cons h1 ih
theorem Star.one {L : Wd → Prop} {u : Wd} (h : L u) : Star L u := by have := Star.cons h .nil; simpa using this
theorem Star.star {L : Wd → Prop} {u : Wd} (h : Star (Star L) u) : Star L u := by
  induction h with
  | nil => exact .nil
  | cons h1 _ ih => exact h1.app ih
theorem star_star (x : Lang) : Mdl.star (Mdl.star x) = Mdl.star x := by
  refine Lang.ext (fun w => ⟨Star.star, Star.one⟩) (fun w => ?_)
  simp only [Mdl.star]
  constructor
  · rintro ⟨a, _, rfl, h1, b, v, rfl, h2, h3⟩; exact ⟨a ++ b, v, by simp, h1.star.app h2, h3⟩
  · rintro ⟨a, v, rfl, h1, h2⟩; exact ⟨[], a ++ v, rfl, .nil, a, v, rfl, h1, h2⟩
theorem plus_eq (x : Lang) : plus x = seq x (star x) := by
  refine Lang.ext (fun w => Iff.rfl) (fun w => ?_)
  simp only [plus, star, seq]
  constructor
  · rintro ⟨_, v, rfl, h1, h2⟩
    cases h1 with
    | nil => exact .inl h2
    | cons h1 h3 => exact .inr ⟨_, _, List.append_assoc .., h1, _, v, rfl, h3, h2⟩
  · rintro (h | ⟨a, _, rfl, h1, b, v, rfl, h2, h3⟩)
    · exact ⟨[], w, rfl, .nil, h⟩
    · exact ⟨a ++ b, v, by simp, .cons h1 h2, h3⟩
theorem opt_eq (x : Lang) : opt x = alt x eps := Lang.ext (fun w => Iff.rfl) (fun w => by simp [opt, alt, eps])
theorem sg0 (x : Lang) : sg 0 x = x := by simp [sg]
theorem m_plain (p : Part) : mP (plain p) = mP p := by
  obtain ⟨a, rows, s⟩ := p
  simp only [plain]
  split
  · rename_i ha
    split
    · rename_i a' r' s'
      split
      · rename_i h0; subst h0
        simp only [mP, ha, if_true, mC, mR, seq_eps, alt_none, sg0]
      split
      · rename_i h1 h0; subst h0
        simp only [mP, ha, if_true, mC, mR, seq_eps, alt_none, sg0]
      · rfl
    · rfl
  · rfl
mutual
theorem mP_n : ∀ p, mP (nP p) = mP p
  | .mk a rows s => by simp only [nP, m_plain, mP, mC_n rows]
theorem mR_n : ∀ p, mR (nR p) = mR p
  | [] => by simp only [nR]
  | p :: ps => by simp only [nR, mR, mP_n p, mR_n ps]
theorem mC_n : ∀ p, mC (nC p) = mC p
  | [] => by simp only [nC]
  | p :: ps => by simp only [nC, mC, mR_n p, mC_n ps]
end
/-! ### Places -/
abbrev NS := Nat → Prop
/-- A word is read along places, the first one out of S, up to place j. -/
inductive Rch (F : Nat → Nat → Prop) (A : Nat → ByteArray → Prop) (S : NS) : Wd → Nat → Prop
  | one {i : Nat} {x : ByteArray} : S i → A i x → Rch F A S [x] i
  | snoc {w : Wd} {i j : Nat} {x : ByteArray} : Rch F A S w i → F i j → A j x → Rch F A S (w ++ [x]) j
/-- What places read. -/
structure Is (F : Nat → Nat → Prop) (A : Nat → ByteArray → Prop) (fst lst : NS) (emp : Prop) (a b : Nat) (x : Lang) : Prop where
  w : ∀ w, x.w w ↔ (w = [] ∧ emp) ∨ ∃ j, lst j ∧ Rch F A fst w j
  p : ∀ w, x.p w ↔ ∃ j, Rch F A fst w j
  f1 : ∀ i, fst i → a ≤ i ∧ i < b
  l1 : ∀ i, lst i → a ≤ i ∧ i < b
  shut : ∀ i j, a ≤ i → i < b → F i j → a ≤ j ∧ j < b
section
variable {F F' : Nat → Nat → Prop} {A : Nat → ByteArray → Prop} {S S' : NS}
theorem Rch.mono {w : Wd} {j : Nat} (h : Rch F A S w j) (hS : ∀ i, S i → S' i) (hF : ∀ i j, F i j → F' i j) : Rch F' A S' w j := by
  induction h with
  | one h1 h2 => exact .one (hS _ h1) h2
  | snoc _ h2 h3 ih => exact .snoc ih (hF _ _ h2) h3
/-- Within a shut range only what lies there counts. -/
theorem Rch.within {w : Wd} {j a b : Nat} (h : Rch F A S w j) (hS : ∀ i, S i → a ≤ i ∧ i < b) (hF : ∀ i j, a ≤ i → i < b → F i j → (a ≤ j ∧ j < b) ∧ F' i j) : (a ≤ j ∧ j < b) ∧ Rch F' A S w j := by
  induction h with
  | one h1 h2 => exact ⟨hS _ h1, .one h1 h2⟩
  | snoc _ h2 h3 ih => obtain ⟨k1, k2⟩ := hF _ _ ih.1.1 ih.1.2 h2; exact ⟨k1, .snoc ih.2 k2 h3⟩
theorem Rch.glue {u v : Wd} {k j : Nat} (h : Rch F A S u k) (hk : ∀ i, S' i → F k i) (h2 : Rch F A S' v j) : Rch F A S (u ++ v) j := by
  induction h2 with
  | one h1 h2 => exact .snoc h (hk _ h1) h2
  | snoc _ h3 h4 ih => rw [← List.append_assoc]; exact .snoc ih h3 h4
theorem Rch.ne {w : Wd} {j : Nat} (h : Rch F A S w j) : w ≠ [] := by cases h <;> simp
end
section
variable {F G : Nat → Nat → Prop} {A : Nat → ByteArray → Prop} {f1 l1 f2 l2 : NS} {e1 e2 : Prop} {a b c : Nat} {x y : Lang}
/-- The same places under another relation that is the same there. -/
theorem Is.same {A' : Nat → ByteArray → Prop} (h : Is F A f1 l1 e1 a b x) (hF : ∀ i j, a ≤ i → i < b → (F i j ↔ G i j)) (hA : ∀ i n, a ≤ i → i < b → (A i n ↔ A' i n)) : Is G A' f1 l1 e1 a b x := by
  have r1 : ∀ w j, Rch F A f1 w j ↔ Rch G A' f1 w j := by
    intro w j
    constructor
    · intro k
      have : (a ≤ j ∧ j < b) ∧ Rch G A' f1 w j := by
        induction k with
        | one h1 h2 => have := h.f1 _ h1; exact ⟨this, .one h1 ((hA _ _ this.1 this.2).1 h2)⟩
        | snoc _ h2 h3 ih =>
          have := h.shut _ _ ih.1.1 ih.1.2 h2
          exact ⟨this, .snoc ih.2 ((hF _ _ ih.1.1 ih.1.2).1 h2) ((hA _ _ this.1 this.2).1 h3)⟩
      exact this.2
    · intro k
      have : (a ≤ j ∧ j < b) ∧ Rch F A f1 w j := by
        induction k with
        | one h1 h2 => have := h.f1 _ h1; exact ⟨this, .one h1 ((hA _ _ this.1 this.2).2 h2)⟩
        | snoc _ h2 h3 ih =>
          have h2' := (hF _ _ ih.1.1 ih.1.2).2 h2
          have := h.shut _ _ ih.1.1 ih.1.2 h2'
          exact ⟨this, .snoc ih.2 h2' ((hA _ _ this.1 this.2).2 h3)⟩
      exact this.2
  refine ⟨fun w => ?_, fun w => ?_, h.f1, h.l1, fun i j h1 h2 h3 => h.shut i j h1 h2 ((hF i j h1 h2).2 h3)⟩
  · rw [h.w]; simp only [r1]
  · rw [h.p]; simp only [r1]
theorem Is.sub {f' l' : NS} {e' : Prop} (h : Is F A f1 l1 e1 a b x) (hf : ∀ i, f1 i ↔ f' i) (hl : ∀ i, l1 i ↔ l' i) (he : e1 ↔ e') : Is F A f' l' e' a b x := by
  have e1 : f1 = f' := funext fun i => propext (hf i)
  have e2 : l1 = l' := funext fun i => propext (hl i)
  have e3 := propext he
  subst e1 e2 e3
  exact h
theorem Is.alt (hx : Is F A f1 l1 e1 a b x) (hy : Is F A f2 l2 e2 b c y) (hab : a ≤ b) (hbc : b ≤ c) :
    Is F A (fun i => f1 i ∨ f2 i) (fun i => l1 i ∨ l2 i) (e1 ∨ e2) a c (alt x y) := by
  have key : ∀ w j, Rch F A (fun i => f1 i ∨ f2 i) w j ↔ (a ≤ j ∧ j < b ∧ Rch F A f1 w j) ∨ (b ≤ j ∧ j < c ∧ Rch F A f2 w j) := by
    intro w j
    constructor
    · intro h
      induction h with
      | one h1 h2 =>
        rcases h1 with h1 | h1
        · exact .inl ⟨(hx.f1 _ h1).1, (hx.f1 _ h1).2, .one h1 h2⟩
        · exact .inr ⟨(hy.f1 _ h1).1, (hy.f1 _ h1).2, .one h1 h2⟩
      | snoc _ h2 h3 ih =>
        rcases ih with ⟨k1, k2, k3⟩ | ⟨k1, k2, k3⟩
        · have := hx.shut _ _ k1 k2 h2; exact .inl ⟨this.1, this.2, .snoc k3 h2 h3⟩
        · have := hy.shut _ _ k1 k2 h2; exact .inr ⟨this.1, this.2, .snoc k3 h2 h3⟩
    · rintro (⟨_, _, h⟩ | ⟨_, _, h⟩)
      · exact h.mono (fun _ => .inl) (fun _ _ h => h)
      · exact h.mono (fun _ => .inr) (fun _ _ h => h)
  have lx : ∀ w j, Rch F A f1 w j → a ≤ j ∧ j < b := fun w j h => (h.within hx.f1 fun i j h1 h2 h3 => ⟨hx.shut i j h1 h2 h3, h3⟩).1
  have ly : ∀ w j, Rch F A f2 w j → b ≤ j ∧ j < c := fun w j h => (h.within hy.f1 fun i j h1 h2 h3 => ⟨hy.shut i j h1 h2 h3, h3⟩).1
  refine ⟨fun w => ?_, fun w => ?_, ?_, ?_, ?_⟩
  · simp only [Mdl.alt, hx.w, hy.w, key]
    constructor
    · rintro ((⟨h1, h2⟩ | ⟨j, h1, h2⟩) | (⟨h1, h2⟩ | ⟨j, h1, h2⟩))
      · exact .inl ⟨h1, .inl h2⟩
      · exact .inr ⟨j, .inl h1, .inl ⟨(lx _ _ h2).1, (lx _ _ h2).2, h2⟩⟩
      · exact .inl ⟨h1, .inr h2⟩
      · exact .inr ⟨j, .inr h1, .inr ⟨(ly _ _ h2).1, (ly _ _ h2).2, h2⟩⟩
    · rintro (⟨h1, h2 | h2⟩ | ⟨j, h1, h2⟩)
      · exact .inl (.inl ⟨h1, h2⟩)
      · exact .inr (.inl ⟨h1, h2⟩)
      · rcases h1 with h1 | h1 <;> rcases h2 with ⟨k1, k2, h2⟩ | ⟨k1, k2, h2⟩
        · exact .inl (.inr ⟨j, h1, h2⟩)
        · have := hx.l1 _ h1; omega
        · have := hy.l1 _ h1; omega
        · exact .inr (.inr ⟨j, h1, h2⟩)
  · simp only [Mdl.alt, hx.p, hy.p, key]
    constructor
    · rintro (⟨j, h⟩ | ⟨j, h⟩)
      · exact ⟨j, .inl ⟨(lx _ _ h).1, (lx _ _ h).2, h⟩⟩
      · exact ⟨j, .inr ⟨(ly _ _ h).1, (ly _ _ h).2, h⟩⟩
    · rintro ⟨j, ⟨_, _, h⟩ | ⟨_, _, h⟩⟩
      · exact .inl ⟨j, h⟩
      · exact .inr ⟨j, h⟩
  · rintro i (h | h)
    · have := hx.f1 i h; omega
    · have := hy.f1 i h; omega
  · rintro i (h | h)
    · have := hx.l1 i h; omega
    · have := hy.l1 i h; omega
  · intro i j h1 h2 h3
    rcases Nat.lt_or_ge i b with h | h
    · have := hx.shut i j h1 h h3; omega
    · have := hy.shut i j h h2 h3; omega
/-- One behind the other: the last ones of the one are followed by the first ones of the other. -/
theorem Is.seq (hx : Is F A f1 l1 e1 a b x) (hy : Is F A f2 l2 e2 b c y) (hab : a ≤ b) (hbc : b ≤ c) (hG : ∀ i j, G i j ↔ F i j ∨ (l1 i ∧ f2 j)) :
    Is G A (fun i => f1 i ∨ (e1 ∧ f2 i)) (fun i => l2 i ∨ (e2 ∧ l1 i)) (e1 ∧ e2) a c (seq x y) := by
  have lx : ∀ w j, Rch F A f1 w j → a ≤ j ∧ j < b := fun w j h => (h.within hx.f1 fun i j h1 h2 h3 => ⟨hx.shut i j h1 h2 h3, h3⟩).1
  have ly : ∀ w j, Rch F A f2 w j → b ≤ j ∧ j < c := fun w j h => (h.within hy.f1 fun i j h1 h2 h3 => ⟨hy.shut i j h1 h2 h3, h3⟩).1
  have hFG : ∀ i j, F i j → G i j := fun i j h => (hG i j).2 (.inl h)
  have key : ∀ w j, Rch G A (fun i => f1 i ∨ (e1 ∧ f2 i)) w j ↔ Rch F A f1 w j ∨ ∃ u v, w = u ++ v ∧ x.w u ∧ Rch F A f2 v j := by
    intro w j
    constructor
    · intro h
      induction h with
      | one h1 h2 =>
        rcases h1 with h1 | ⟨h1, h3⟩
        · exact .inl (.one h1 h2)
        · exact .inr ⟨[], _, rfl, (hx.w _).2 (.inl ⟨rfl, h1⟩), .one h3 h2⟩
      | snoc _ h2 h3 ih =>
        rcases ih with k | ⟨u, v, rfl, k1, k2⟩
        · rcases (hG _ _).1 h2 with h2 | ⟨h2, h4⟩
          · exact .inl (.snoc k h2 h3)
          · exact .inr ⟨_, _, rfl, (hx.w _).2 (.inr ⟨_, h2, k⟩), .one h4 h3⟩
        · rcases (hG _ _).1 h2 with h2 | ⟨h2, h4⟩
          · exact .inr ⟨u, _, List.append_assoc .., k1, .snoc k2 h2 h3⟩
          · have := hx.l1 _ h2; have := ly _ _ k2; omega
    · rintro (h | ⟨u, v, rfl, h1, h2⟩)
      · exact h.mono (fun _ => .inl) hFG
      · rcases (hx.w _).1 h1 with ⟨rfl, h⟩ | ⟨k, hk, h⟩
        · exact h2.mono (fun _ hi => .inr ⟨h, hi⟩) hFG
        · exact Rch.glue (S' := f2) (h.mono (fun _ => .inl) hFG) (fun i hi => (hG _ _).2 (.inr ⟨hk, hi⟩)) (h2.mono (fun _ h => h) hFG)
  refine ⟨fun w => ?_, fun w => ?_, ?_, ?_, ?_⟩
  · simp only [Mdl.seq, key]
    constructor
    · rintro ⟨u, v, rfl, h1, h2⟩
      rcases (hy.w _).1 h2 with ⟨rfl, h3⟩ | ⟨j, h3, h4⟩
      · rcases (hx.w _).1 h1 with ⟨rfl, h4⟩ | ⟨j, h4, h5⟩
        · exact .inl ⟨rfl, h4, h3⟩
        · exact .inr ⟨j, .inr ⟨h3, h4⟩, .inl (by simpa using h5)⟩
      · exact .inr ⟨j, .inl h3, .inr ⟨u, v, rfl, h1, h4⟩⟩
    · rintro (⟨rfl, h1, h2⟩ | ⟨j, h1, h2⟩)
      · exact ⟨[], [], rfl, (hx.w _).2 (.inl ⟨rfl, h1⟩), (hy.w _).2 (.inl ⟨rfl, h2⟩)⟩
      · rcases h2 with h2 | ⟨u, v, rfl, h2, h3⟩
        · rcases h1 with h1 | ⟨h1, h3⟩
          · have := hy.l1 _ h1; have := lx _ _ h2; omega
          · exact ⟨w, [], by simp, (hx.w _).2 (.inr ⟨j, h3, h2⟩), (hy.w _).2 (.inl ⟨rfl, h1⟩)⟩
        · rcases h1 with h1 | ⟨h1, h4⟩
          · exact ⟨u, v, rfl, h2, (hy.w _).2 (.inr ⟨j, h1, h3⟩)⟩
          · have := hx.l1 _ h4; have := ly _ _ h3; omega
  · simp only [Mdl.seq, key, hx.p, hy.p]
    constructor
    · rintro (⟨j, h⟩ | ⟨u, v, rfl, h1, j, h2⟩)
      · exact ⟨j, .inl h⟩
      · exact ⟨j, .inr ⟨u, v, rfl, h1, h2⟩⟩
    · rintro ⟨j, h | ⟨u, v, rfl, h1, h2⟩⟩
      · exact .inl ⟨j, h⟩
      · exact .inr ⟨u, v, rfl, h1, j, h2⟩
  · rintro i (h | ⟨_, h⟩)
    · have := hx.f1 i h; omega
    · have := hy.f1 i h; omega
  · rintro i (h | ⟨_, h⟩)
    · have := hy.l1 i h; omega
    · have := hx.l1 i h; omega
  · intro i j h1 h2 h3
    rcases (hG i j).1 h3 with h3 | ⟨h3, h4⟩
    · rcases Nat.lt_or_ge i b with h | h
      · have := hx.shut i j h1 h h3; omega
      · have := hy.shut i j h h2 h3; omega
    · have := hy.f1 j h4; omega
theorem Is.loop (hx : Is F A f1 l1 e1 a b x) (hG : ∀ i j, G i j ↔ F i j ∨ (l1 i ∧ f1 j)) :
    Is G A f1 l1 True a b (star x) ∧ Is G A f1 l1 e1 a b (plus x) := by
  have hFG : ∀ i j, F i j → G i j := fun i j h => (hG i j).2 (.inl h)
  have key : ∀ w j, Rch G A f1 w j ↔ ∃ u v, w = u ++ v ∧ Star x.w u ∧ Rch F A f1 v j := by
    intro w j
    constructor
    · intro h
      induction h with
      | one h1 h2 => exact ⟨[], _, rfl, .nil, .one h1 h2⟩
      | snoc _ h2 h3 ih =>
        obtain ⟨u, v, rfl, k1, k2⟩ := ih
        rcases (hG _ _).1 h2 with h2 | ⟨h2, h4⟩
        · exact ⟨u, _, List.append_assoc .., k1, .snoc k2 h2 h3⟩
        · exact ⟨u ++ v, _, rfl, k1.app (Star.one ((hx.w _).2 (.inr ⟨_, h2, k2⟩))), .one h4 h3⟩
    · rintro ⟨u, v, rfl, h1, h2⟩
      have h2 := h2.mono (fun _ h => h) hFG
      induction h1 with
      | nil => exact h2
      | cons k1 _ ih =>
        rw [List.append_assoc]
        rcases (hx.w _).1 k1 with ⟨rfl, _⟩ | ⟨k, hk, k2⟩
        · exact ih
        · exact Rch.glue (S' := f1) (k2.mono (fun _ h => h) hFG) (fun i hi => (hG _ _).2 (.inr ⟨hk, hi⟩)) ih
  have ends : ∀ w, Star x.w w → w = [] ∨ ∃ j, l1 j ∧ ∃ u v, w = u ++ v ∧ Star x.w u ∧ Rch F A f1 v j := by
    intro w h
    induction h with
    | nil => exact .inl rfl
    | @cons u v h1 h2 ih =>
      rcases ih with rfl | ⟨j, hj, u', v', rfl, k1, k2⟩
      · rcases (hx.w _).1 h1 with ⟨rfl, _⟩ | ⟨k, hk, k2⟩
        · exact .inl rfl
        · exact .inr ⟨k, hk, [], u, by simp, .nil, k2⟩
      · exact .inr ⟨j, hj, u ++ u', v', by simp, .cons h1 k1, k2⟩
  have shut : ∀ i j, a ≤ i → i < b → G i j → a ≤ j ∧ j < b := by
    intro i j h1 h2 h3
    rcases (hG i j).1 h3 with h3 | ⟨h3, h4⟩
    · exact hx.shut i j h1 h2 h3
    · exact hx.f1 j h4
  refine ⟨⟨fun w => ?_, fun w => ?_, hx.f1, hx.l1, shut⟩, ⟨fun w => ?_, fun w => ?_, hx.f1, hx.l1, shut⟩⟩
  · simp only [star, key]
    constructor
    · intro h
      rcases ends w h with rfl | h
      · exact .inl ⟨rfl, trivial⟩
      · exact .inr h
    · rintro (⟨rfl, _⟩ | ⟨j, hj, u, v, rfl, h1, h2⟩)
      · exact .nil
      · exact h1.app (Star.one ((hx.w _).2 (.inr ⟨j, hj, h2⟩)))
  · simp only [star, key, hx.p]
    constructor
    · rintro ⟨u, v, rfl, h1, j, h2⟩; exact ⟨j, u, v, rfl, h1, h2⟩
    · rintro ⟨j, u, v, rfl, h1, h2⟩; exact ⟨u, v, rfl, h1, j, h2⟩
  · simp only [plus, key]
    constructor
    · rintro ⟨u, v, rfl, h1, h2⟩
      rcases ends v h2 with rfl | ⟨j, hj, u', v', rfl, k1, k2⟩
      · rcases (hx.w _).1 h1 with ⟨rfl, h⟩ | ⟨k, hk, k2⟩
        · exact .inl ⟨rfl, h⟩
        · exact .inr ⟨k, hk, [], u, by simp, .nil, k2⟩
      · exact .inr ⟨j, hj, u ++ u', v', by simp, .cons h1 k1, k2⟩
    · rintro (⟨rfl, h⟩ | ⟨j, hj, u, v, rfl, h1, h2⟩)
      · exact ⟨[], [], rfl, (hx.w _).2 (.inl ⟨rfl, h⟩), .nil⟩
      · have hv := (hx.w _).2 (.inr ⟨j, hj, h2⟩)
        cases h1 with
        | nil => exact ⟨v, [], by simp, hv, .nil⟩
        | cons k1 k2 => exact ⟨_, _, List.append_assoc .., k1, k2.app (Star.one hv)⟩
  · simp only [plus, star, key, hx.p]
    constructor
    · rintro ⟨u, v, rfl, h1, j, h2⟩; exact ⟨j, u, v, rfl, h1, h2⟩
    · rintro ⟨j, u, v, rfl, h1, h2⟩; exact ⟨u, v, rfl, h1, j, h2⟩
end
def join1 (out : List Nat) (x : Nat) : List Nat := if out.contains x then out else out ++ [x]
def joined (a b : List Nat) : List Nat := b.foldl join1 a
def behind1 (first : List Nat) (f : List (List Nat)) (i : Nat) : List (List Nat) := f.set i (joined (f.getD i []) first)
def behind (f : List (List Nat)) (last first : List Nat) : List (List Nat) := last.foldl (behind1 first) f
structure Pc where
  first : List Nat
  last : List Nat
  empty : Bool
/-- Atoms, and what follows each. -/
abbrev GS := List ByteArray × List (List Nat)
mutual
def uP : Part → GS → Pc × GS
  | .mk a rows s, g =>
    let r := if a = Br then uC rows g ⟨[], [], false⟩ else if a = Mi then (⟨[], [], true⟩, g) else (⟨[g.1.length], [g.1.length], false⟩, (g.1 ++ [a], g.2 ++ [[]]))
    (⟨r.1.first, r.1.last, r.1.empty || (s == 42 || s == 63)⟩, (r.2.1, if s = 42 ∨ s = 43 then behind r.2.2 r.1.last r.1.first else r.2.2))
def uR : List Part → GS → Pc → Pc × GS
  | [], g, all => (all, g)
  | x :: xs, g, all =>
    let r := uP x g
    uR xs (r.2.1, behind r.2.2 all.last r.1.first)
      ⟨if all.empty then joined all.first r.1.first else all.first, if r.1.empty then joined all.last r.1.last else r.1.last, all.empty && r.1.empty⟩
def uC : List (List Part) → GS → Pc → Pc × GS
  | [], g, all => (all, g)
  | x :: xs, g, all =>
    let r := uR x g ⟨[], [], true⟩
    uC xs r.2 ⟨joined all.first r.1.first, joined all.last r.1.last, all.empty || r.1.empty⟩
end
theorem mem_joined {x : Nat} : ∀ (b a : List Nat), x ∈ joined a b ↔ x ∈ a ∨ x ∈ b
  | [], a => by simp [joined]
  | y :: b, a => by
    have := mem_joined (x := x) b (join1 a y)
    unfold joined at this ⊢
    rw [List.foldl_cons, this]
    unfold join1
    by_cases h : a.contains y = true
    · rw [if_pos h]
      have h := List.contains_iff_mem.1 h
      constructor
      · rintro (h | h)
        · exact .inl h
        · exact .inr (by simp [h])
      · rintro (h1 | h1)
        · exact .inl h1
        · rcases List.mem_cons.1 h1 with rfl | h1
          · exact .inl h
          · exact .inr h1
    · rw [if_neg h]
      simp [or_assoc]
def Fol (f : List (List Nat)) (i j : Nat) : Prop := j ∈ f.getD i []
theorem behind_len : ∀ (last : List Nat) (f : List (List Nat)) (first : List Nat), (behind f last first).length = f.length
  | [], f, first => rfl
  | i :: last, f, first => by
    unfold behind
    rw [List.foldl_cons]
    have := behind_len last (behind1 first f i) first
    unfold behind at this
    rw [this]; simp [behind1]
theorem fol_behind {i j : Nat} : ∀ (last : List Nat) (f : List (List Nat)) (first : List Nat), (∀ k ∈ last, k < f.length) → (Fol (behind f last first) i j ↔ Fol f i j ∨ (i ∈ last ∧ j ∈ first))
  | [], f, first, _ => by simp [behind]
  | k :: last, f, first, h => by
    unfold behind
    rw [List.foldl_cons]
    have := fol_behind (i := i) (j := j) last (behind1 first f k) first (fun m hm => by simp [behind1]; exact h m (by simp [hm]))
    unfold behind at this
    rw [this]
    have hk := h k (by simp)
    have e : Fol (behind1 first f k) i j ↔ Fol f i j ∨ (i = k ∧ j ∈ first) := by
      unfold Fol behind1
      simp only [List.getD_eq_getElem?_getD, List.getElem?_set]
      by_cases hik : k = i
      · subst hik
        simp [hk, mem_joined]
      · rw [if_neg hik]; simp [Ne.symm hik]
    rw [e]
    simp only [List.mem_cons]
    constructor
    · rintro ((h | ⟨h1, h2⟩) | ⟨h1, h2⟩)
      · exact .inl h
      · exact .inr ⟨.inl h1, h2⟩
      · exact .inr ⟨.inr h1, h2⟩
    · rintro (h | ⟨h1 | h1, h2⟩)
      · exact .inl (.inl h)
      · exact .inl (.inr ⟨h1, h2⟩)
      · exact .inr ⟨h1, h2⟩
theorem behind_other : ∀ (last : List Nat) (f : List (List Nat)) (first : List Nat) (i : Nat), i ∉ last → (behind f last first)[i]? = f[i]?
  | [], f, first, i, _ => rfl
  | k :: last, f, first, i, h => by
    unfold behind
    rw [List.foldl_cons]
    have := behind_other last (behind1 first f k) first i (fun hm => h (by simp [hm]))
    unfold behind at this
    rw [this]
    unfold behind1
    rw [List.getElem?_set_ne]
    rintro rfl; exact h (by simp)
def At (l : List ByteArray) (i : Nat) (n : ByteArray) : Prop := ∃ a, l[i]? = some a ∧ fits a n = true
/-- A state that goes on from another one: nothing below a turns. -/
structure On (a : Nat) (g g' : GS) : Prop where
  len : g'.1.length = g'.2.length
  le : g.1.length ≤ g'.1.length
  at_ : ∀ i, i < g.1.length → g'.1[i]? = g.1[i]?
  fol : ∀ i, i < a → g'.2[i]? = g.2[i]?
theorem On.trans {a : Nat} {g g' g'' : GS} (h : On a g g') (k : On a g' g'') : On a g g'' :=
  ⟨k.len, Nat.le_trans h.le k.le, fun i hi => (k.at_ i (Nat.lt_of_lt_of_le hi h.le)).trans (h.at_ i hi), fun i hi => (k.fol i hi).trans (h.fol i hi)⟩
theorem On.less {a b : Nat} {g g' : GS} (h : On a g g') (hb : b ≤ a) : On b g g' := ⟨h.len, h.le, h.at_, fun i hi => h.fol i (Nat.lt_of_lt_of_le hi hb)⟩
abbrev IsG (g : GS) (p : Pc) (a : Nat) (x : Lang) : Prop := Is (Fol g.2) (At g.1) (· ∈ p.first) (· ∈ p.last) (p.empty = true) a g.1.length x
theorem isNone (F : Nat → Nat → Prop) (A : Nat → ByteArray → Prop) (a : Nat) : Is F A (fun i => i ∈ ([] : List Nat)) (fun i => i ∈ ([] : List Nat)) (false = true) a a none := by
  have : ∀ w j, ¬ Rch F A (fun i => i ∈ ([] : List Nat)) w j := by
    intro w j h
    induction h with
    | one h => cases h
    | snoc _ _ _ ih => exact ih
  exact ⟨fun w => by simp [none], fun w => by simp only [none, this]; simp, by simp, by simp, by omega⟩
theorem isEps (F : Nat → Nat → Prop) (A : Nat → ByteArray → Prop) (a : Nat) : Is F A (fun i => i ∈ ([] : List Nat)) (fun i => i ∈ ([] : List Nat)) (true = true) a a eps := by
  have : ∀ w j, ¬ Rch F A (fun i => i ∈ ([] : List Nat)) w j := by
    intro w j h
    induction h with
    | one h => cases h
    | snoc _ _ _ ih => exact ih
  exact ⟨fun w => by simp [eps], fun w => by simp only [eps, this]; simp, by simp, by simp, by omega⟩
theorem isOne (g : GS) (a : ByteArray) (h : g.1.length = g.2.length) : IsG (g.1 ++ [a], g.2 ++ [[]]) ⟨[g.1.length], [g.1.length], false⟩ g.1.length (one a) := by
  have hF : ∀ j, ¬ Fol (g.2 ++ [[]]) g.1.length j := by intro j; simp [Fol, h]
  have hA : ∀ n, At (g.1 ++ [a]) g.1.length n ↔ fits a n = true := by intro n; simp [At]
  have key : ∀ w j, Rch (Fol (g.2 ++ [[]])) (At (g.1 ++ [a])) (fun i => i ∈ [g.1.length]) w j ↔ j = g.1.length ∧ ∃ x, w = [x] ∧ fits a x = true := by
    intro w j
    constructor
    · intro h
      induction h with
      | one h1 h2 =>
        obtain rfl := List.mem_singleton.1 h1
        exact ⟨rfl, _, rfl, (hA _).1 h2⟩
      | snoc _ h2 h3 ih =>
        obtain ⟨rfl, _⟩ := ih
        exact absurd h2 (hF _)
    · rintro ⟨rfl, x, rfl, h⟩
      exact .one (by simp) ((hA _).2 h)
  refine ⟨fun w => ?_, fun w => ?_, by simp, by simp, fun i j h1 h2 h3 => ?_⟩
  · simp only [key]; simp [one]
  · simp only [key]; simp [one]
  · simp at h2
    obtain rfl : i = g.1.length := by omega
    exact absurd h3 (hF j)
theorem fol_eq {f f' : List (List Nat)} {i : Nat} (h : f'[i]? = f[i]?) (j : Nat) : Fol f i j ↔ Fol f' i j := by
  unfold Fol; simp only [List.getD_eq_getElem?_getD, h]
theorem at_eq {f f' : List ByteArray} {i : Nat} (h : f'[i]? = f[i]?) (n : ByteArray) : At f i n ↔ At f' i n := by
  unfold At; rw [h]
theorem joined_iff {a b : List Nat} (i : Nat) : (i ∈ a ∨ i ∈ b) ↔ i ∈ joined a b := (mem_joined b a).symm
mutual
theorem isP : ∀ (p : Part) (g : GS), g.1.length = g.2.length → On g.1.length g (uP p g).2 ∧ IsG (uP p g).2 (uP p g).1 g.1.length (mP p)
  | .mk a rows s, g, hl => by
    have key : ∃ r : Pc × GS, r = (if a = Br then uC rows g ⟨[], [], false⟩ else if a = Mi then (⟨[], [], true⟩, g) else (⟨[g.1.length], [g.1.length], false⟩, (g.1 ++ [a], g.2 ++ [[]]))) ∧
        On g.1.length g r.2 ∧ IsG r.2 r.1 g.1.length (if a = Br then mC rows else if a = Mi then eps else one a) := by
      refine ⟨_, rfl, ?_⟩
      by_cases h1 : a = Br
      · rw [if_pos h1, if_pos h1]
        have := isC rows g ⟨[], [], false⟩ g.1.length none hl (Nat.le_refl _) (isNone _ _ _)
        rw [show alt none (mC rows) = mC rows from (alt_comm _ _).trans (alt_none _)] at this
        exact this
      · rw [if_neg h1, if_neg h1]
        by_cases h2 : a = Mi
        · rw [if_pos h2, if_pos h2]
          exact ⟨⟨hl, Nat.le_refl _, fun _ _ => rfl, fun _ _ => rfl⟩, isEps _ _ _⟩
        · rw [if_neg h2, if_neg h2]
          exact ⟨⟨by simp [hl], by simp, fun i hi => by simp [List.getElem?_append_left hi], fun i hi => by rw [hl] at hi; simp [List.getElem?_append_left hi]⟩, isOne g a hl⟩
    obtain ⟨r, hr, hon, his⟩ := key
    simp only [uP, mP]
    rw [← hr]
    clear hr
    generalize (if a = Br then mC rows else if a = Mi then eps else one a) = X at his ⊢
    have hlast : ∀ k ∈ r.1.last, k < r.2.2.length := fun k hk => by rw [← hon.len]; exact (his.l1 k hk).2
    have hon2 : On g.1.length g (r.2.1, behind r.2.2 r.1.last r.1.first) :=
      ⟨by simp [behind_len, hon.len], hon.le, hon.at_, fun i hi => by rw [behind_other _ _ _ _ (fun hm => by have := (his.l1 i hm).1; omega)]; exact hon.fol i hi⟩
    have lp := his.loop (G := Fol (behind r.2.2 r.1.last r.1.first)) fun i j => fol_behind _ _ _ hlast
    by_cases h1 : s = 63
    · subst h1
      simp only [sg, if_true]
      refine ⟨hon, ?_⟩
      refine ⟨fun w => ?_, his.p, his.f1, his.l1, his.shut⟩
      simp only [opt, his.w]
      constructor
      · rintro ((⟨h, k⟩ | h) | h)
        · exact .inl ⟨h, by simp⟩
        · exact .inr h
        · exact .inl ⟨h, by simp⟩
      · rintro (⟨h, k⟩ | h)
        · exact .inr h
        · exact .inl (.inr h)
    by_cases h2 : s = 42
    · subst h2
      simp only [sg, if_neg h1, if_true, true_or]
      refine ⟨hon2, lp.1.sub (fun _ => Iff.rfl) (fun _ => Iff.rfl) (by simp)⟩
    by_cases h3 : s = 43
    · subst h3
      simp only [sg, if_neg h1, if_neg h2, if_true, or_true]
      refine ⟨hon2, lp.2.sub (fun _ => Iff.rfl) (fun _ => Iff.rfl) (by simp)⟩
    · simp only [sg, if_neg h1, if_neg h2, if_neg h3]
      have e : ¬ (s = 42 ∨ s = 43) := by omega
      rw [if_neg e]
      exact ⟨hon, his.sub (fun _ => Iff.rfl) (fun _ => Iff.rfl) (by simp [h1, h2])⟩
theorem isR : ∀ (xs : List Part) (g : GS) (all : Pc) (a : Nat) (X : Lang), g.1.length = g.2.length → a ≤ g.1.length → IsG g all a X →
    On a g (uR xs g all).2 ∧ IsG (uR xs g all).2 (uR xs g all).1 a (seq X (mR xs))
  | [], g, all, a, X, hl, ha, h => by
    simp only [uR, mR, seq_eps]
    exact ⟨⟨hl, Nat.le_refl _, fun _ _ => rfl, fun _ _ => rfl⟩, h⟩
  | x :: xs, g, all, a, X, hl, ha, h => by
    simp only [uR, mR]
    obtain ⟨on1, is1⟩ := isP x g hl
    generalize uP x g = r at on1 is1 ⊢
    have h' := h.same (G := Fol r.2.2) (A' := At r.2.1) (fun i j h1 h2 => fol_eq (on1.fol i h2) j) (fun i n h1 h2 => at_eq (on1.at_ i h2) n)
    have hlast : ∀ k ∈ all.last, k < r.2.2.length := fun k hk => by have := (h.l1 k hk).2; have := on1.le; rw [← on1.len]; omega
    have s1 := h'.seq is1 ha on1.le (G := Fol (behind r.2.2 all.last r.1.first)) fun i j => fol_behind _ _ _ hlast
    have on2 : On a g (r.2.1, behind r.2.2 all.last r.1.first) :=
      ⟨by simp [behind_len, on1.len], on1.le, on1.at_, fun i hi => by rw [behind_other _ _ _ _ (fun hm => by have := (h.l1 i hm).1; omega)]; exact on1.fol i (by omega)⟩
    have := isR xs (r.2.1, behind r.2.2 all.last r.1.first)
      ⟨if all.empty then joined all.first r.1.first else all.first, if r.1.empty then joined all.last r.1.last else r.1.last, all.empty && r.1.empty⟩ a (seq X (mP x)) on2.len (Nat.le_trans ha on1.le) (by
        refine s1.sub (fun i => ?_) (fun i => ?_) (by simp)
        · cases all.empty
          · simp
          · simp [mem_joined]
        · cases r.1.empty
          · simp
          · simp [mem_joined, or_comm])
    rw [seq_assoc] at this
    exact ⟨on2.trans this.1, this.2⟩
theorem isC : ∀ (xs : List (List Part)) (g : GS) (all : Pc) (a : Nat) (X : Lang), g.1.length = g.2.length → a ≤ g.1.length → IsG g all a X →
    On a g (uC xs g all).2 ∧ IsG (uC xs g all).2 (uC xs g all).1 a (alt X (mC xs))
  | [], g, all, a, X, hl, ha, h => by
    simp only [uC, mC, alt_none]
    exact ⟨⟨hl, Nat.le_refl _, fun _ _ => rfl, fun _ _ => rfl⟩, h⟩
  | x :: xs, g, all, a, X, hl, ha, h => by
    simp only [uC, mC]
    obtain ⟨on1, is1⟩ := isR x g ⟨[], [], true⟩ g.1.length eps hl (Nat.le_refl _) (isEps _ _ _)
    rw [eps_seq] at is1
    generalize uR x g ⟨[], [], true⟩ = r at on1 is1 ⊢
    have h' := h.same (G := Fol r.2.2) (A' := At r.2.1) (fun i j h1 h2 => fol_eq (on1.fol i h2) j) (fun i n h1 h2 => at_eq (on1.at_ i h2) n)
    have s1 := h'.alt is1 ha on1.le
    have := isC xs r.2 ⟨joined all.first r.1.first, joined all.last r.1.last, all.empty || r.1.empty⟩ a (alt X (mR x)) on1.len (Nat.le_trans ha on1.le) (by
      refine s1.sub (fun i => ?_) (fun i => ?_) (by simp)
      · rw [mem_joined]
      · rw [mem_joined])
    refine ⟨(on1.less ha).trans this.1, ?_⟩
    have e : alt (alt X (mR x)) (mC xs) = alt X (alt (mR x) (mC xs)) := Lang.ext (fun w => by simp [alt, or_assoc]) (fun w => by simp [alt, or_assoc])
    rw [← e]; exact this.2
end
structure Pl where
  atoms : List ByteArray
  fol : List (List Nat)
  first : List Nat
  last : List Nat
  empty : Bool
def placed (rows : List (List Part)) : Pl :=
  let r := uC rows ([], []) ⟨[], [], false⟩
  ⟨r.2.1, r.2.2, r.1.first, r.1.last, r.1.empty⟩
def Pl.hit (m : Pl) (may : List Nat) (x : ByteArray) : List Nat := may.filter fun k => fits (m.atoms.getD k ByteArray.empty) x
def Pl.next (m : Pl) (hit : List Nat) : List Nat := hit.foldl (fun nx k => joined nx (m.fol.getD k [])) []
def Pl.goes (m : Pl) : Wd → Nat → List Nat → Bool → Nat × List Nat × Bool
  | [], i, may, is => (i, may, is)
  | x :: xs, i, may, is =>
    if (m.hit may x).isEmpty then (i, may, is) else m.goes xs (i + 1) (m.next (m.hit may x)) ((m.hit may x).any fun k => m.last.contains k)
def Pl.run (m : Pl) (names : Wd) : Nat × List Nat × Bool := m.goes names 0 m.first m.empty
def Pl.mat (m : Pl) (names : Wd) : Bool × Nat := ((m.run names).2.2 && (m.run names).1 == names.length, (m.run names).1)
/-- What Match must tell. -/
def Tells (X : Lang) (names : Wd) (b : Bool) (n : Nat) : Prop := ∃ v rest, names = v ++ rest ∧ n = v.length ∧ (v = [] ∨ X.p v) ∧
  (rest = [] ∨ ∃ x r, rest = x :: r ∧ ¬ X.p (v ++ [x])) ∧ (b = true ↔ rest = [] ∧ X.w v)
theorem Rch.pre {F : Nat → Nat → Prop} {A : Nat → ByteArray → Prop} {S : NS} {w u v : Wd} {j : Nat} (h : Rch F A S w j) (hu : u ≠ []) (e : w = u ++ v) : ∃ i, Rch F A S u i := by
  induction h generalizing v with
  | @one i x h1 h2 =>
    cases u with
    | nil => exact absurd rfl hu
    | cons y u =>
      simp only [List.cons_append, List.cons.injEq] at e
      obtain ⟨rfl, e⟩ := e
      obtain ⟨rfl, rfl⟩ := List.append_eq_nil_iff.1 e.symm
      exact ⟨_, .one h1 h2⟩
  | @snoc w i j x h1 h2 h3 ih =>
    rcases List.eq_nil_or_concat v with rfl | ⟨v', y, rfl⟩
    · simp only [List.append_nil] at e; subst e; exact ⟨_, .snoc h1 h2 h3⟩
    · rw [List.concat_eq_append, ← List.append_assoc] at e
      have := List.append_inj' e rfl
      exact ih this.1
def Lang.pre (X : Lang) : Prop := ∀ u v, u ≠ [] → X.p (u ++ v) → X.p u
theorem Is.pre {F : Nat → Nat → Prop} {A : Nat → ByteArray → Prop} {f l : NS} {e : Prop} {a b : Nat} {X : Lang} (h : Is F A f l e a b X) : X.pre := fun u v hu hp => by
  obtain ⟨j, hj⟩ := (h.p _).1 hp
  exact (h.p _).2 (hj.pre hu rfl)
theorem Tells.one {X : Lang} (hX : X.pre) {names : Wd} {b b' : Bool} {n n' : Nat} (h : Tells X names b n) (h' : Tells X names b' n') : b = b' ∧ n = n' := by
  have lt : ∀ {b b' : Bool} {n n' : Nat}, Tells X names b n → Tells X names b' n' → ¬ n < n' := by
    rintro b b' n n' ⟨v, r, rfl, rfl, _, h2, _⟩ ⟨v', r', e, rfl, k1, _, _⟩ hlt
    rcases List.append_eq_append_iff.1 e with ⟨c, rfl, e2⟩ | ⟨c, rfl, e2⟩
    · cases c with
      | nil => simp at hlt
      | cons y c =>
        rcases h2 with rfl | ⟨x, r1, rfl, h2⟩
        · simp at e2
        · simp only [List.cons_append, List.cons.injEq] at e2
          obtain ⟨rfl, _⟩ := e2
          rcases k1 with k1 | k1
          · simp at k1
          · refine h2 (hX (v ++ [x]) c (by simp) ?_)
            simpa using k1
    · simp at hlt; omega
  have e : n = n' := by
    have := lt h h'; have := lt h' h; omega
  subst e
  refine ⟨?_, rfl⟩
  obtain ⟨v, r, rfl, h1, _, _, h2⟩ := h
  obtain ⟨v', r', e, h1', _, _, h2'⟩ := h'
  obtain ⟨rfl, rfl⟩ := List.append_inj e (by omega)
  rw [Bool.eq_iff_iff, h2, h2']
theorem mem_next (m : Pl) (j : Nat) : ∀ (hit acc : List Nat), j ∈ hit.foldl (fun nx k => joined nx (m.fol.getD k [])) acc ↔ j ∈ acc ∨ ∃ k ∈ hit, Fol m.fol k j
  | [], acc => by simp
  | k :: hit, acc => by
    rw [List.foldl_cons, mem_next m j hit, mem_joined]
    simp [Fol, or_assoc]
theorem goes_spec {m : Pl} {a b : Nat} {X : Lang} (h : Is (Fol m.fol) (At m.atoms) (· ∈ m.first) (· ∈ m.last) (m.empty = true) a b X) (hb : b ≤ m.atoms.length) :
    ∀ (xs u : Wd) (may : List Nat) (is : Bool), (∀ k, k ∈ may ↔ (u = [] ∧ k ∈ m.first) ∨ ∃ i, Rch (Fol m.fol) (At m.atoms) (· ∈ m.first) u i ∧ Fol m.fol i k) →
      (is = true ↔ X.w u) → (u = [] ∨ X.p u) →
      ∃ v rest, xs = v ++ rest ∧ (m.goes xs u.length may is).1 = u.length + v.length ∧ ((m.goes xs u.length may is).2.2 = true ↔ X.w (u ++ v)) ∧ (u ++ v = [] ∨ X.p (u ++ v)) ∧
        (rest = [] ∨ ∃ x r, rest = x :: r ∧ ¬ X.p (u ++ v ++ [x]))
  | [], u, may, is, h1, h2, h3 => ⟨[], [], rfl, rfl, by simpa [Pl.goes] using h2, by simpa using h3, .inl rfl⟩
  | x :: xs, u, may, is, h1, h2, h3 => by
    have lst : ∀ w i, Rch (Fol m.fol) (At m.atoms) (· ∈ m.first) w i → a ≤ i ∧ i < b := fun w i hr => (hr.within h.f1 fun i j h1 h2 h3 => ⟨h.shut i j h1 h2 h3, h3⟩).1
    have hm : ∀ k, k ∈ may → a ≤ k ∧ k < b := by
      intro k hk
      rcases (h1 k).1 hk with ⟨_, hk⟩ | ⟨i, hi, hk⟩
      · exact h.f1 k hk
      · have := lst _ _ hi; exact h.shut i k this.1 this.2 hk
    have hhit : ∀ k, k ∈ m.hit may x ↔ Rch (Fol m.fol) (At m.atoms) (· ∈ m.first) (u ++ [x]) k := by
      intro k
      unfold Pl.hit
      rw [List.mem_filter]
      have hat : k ∈ may → (fits (m.atoms.getD k ByteArray.empty) x = true ↔ At m.atoms k x) := by
        intro hk
        have := (hm k hk).2
        unfold At
        rw [List.getD_eq_getElem?_getD, List.getElem?_eq_getElem (by omega)]
        simp
      constructor
      · rintro ⟨hk, hf⟩
        have hf := (hat hk).1 hf
        rcases (h1 k).1 hk with ⟨rfl, hk⟩ | ⟨i, hi, hk⟩
        · exact .one hk hf
        · exact .snoc hi hk hf
      · intro hr
        have : k ∈ may ∧ At m.atoms k x := by
          generalize he : u ++ [x] = w at hr
          cases hr with
          | one k1 k2 =>
            cases u with
            | nil => simp at he; subst he; exact ⟨(h1 k).2 (.inl ⟨rfl, k1⟩), k2⟩
            | cons y u => simp at he
          | snoc k1 k2 k3 =>
            have := List.append_inj' he rfl
            obtain ⟨rfl, e2⟩ := this
            simp at e2; subst e2
            exact ⟨(h1 k).2 (.inr ⟨_, k1, k2⟩), k3⟩
        exact ⟨this.1, (hat this.1).2 this.2⟩
    unfold Pl.goes
    by_cases he : (m.hit may x).isEmpty = true
    · rw [if_pos he]
      refine ⟨[], x :: xs, rfl, rfl, by simpa using h2, by simpa using h3, .inr ⟨x, xs, rfl, fun hp => ?_⟩⟩
      rw [List.append_nil] at hp
      obtain ⟨j, hj⟩ := (h.p _).1 hp
      have := (hhit j).2 hj
      rw [List.isEmpty_iff.1 he] at this
      cases this
    · rw [if_neg he]
      have hp : X.p (u ++ [x]) := by
        cases hc : m.hit may x with
        | nil => rw [hc] at he; exact absurd rfl he
        | cons k l => exact (h.p _).2 ⟨k, (hhit k).1 (by rw [hc]; simp)⟩
      obtain ⟨v, rest, e, k1, k2, k3, k4⟩ := goes_spec h hb xs (u ++ [x]) (m.next (m.hit may x)) ((m.hit may x).any fun k => m.last.contains k) (fun k => by
          unfold Pl.next
          rw [mem_next]
          simp only [List.not_mem_nil, false_or]
          constructor
          · rintro ⟨i, hi, hk⟩; exact .inr ⟨i, (hhit i).1 hi, hk⟩
          · rintro (⟨e, _⟩ | ⟨i, hi, hk⟩)
            · simp at e
            · exact ⟨i, (hhit i).2 hi, hk⟩) (by
          rw [h.w, List.any_eq_true]
          constructor
          · rintro ⟨k, hk, hl⟩; exact .inr ⟨k, by simpa using hl, (hhit k).1 hk⟩
          · rintro (⟨e, _⟩ | ⟨k, hl, hk⟩)
            · simp at e
            · exact ⟨k, (hhit k).2 hk, by simpa using hl⟩) (.inr hp)
      simp only [List.length_append, List.length_cons, List.length_nil, Nat.zero_add] at k1 k2
      refine ⟨x :: v, rest, by rw [e]; rfl, ?_, ?_, ?_, ?_⟩
      · rw [k1]; simp; omega
      · rw [k2]; simp
      · simpa using k3
      · simpa using k4
theorem placed_is (rows : List (List Part)) : Is (Fol (placed rows).fol) (At (placed rows).atoms) (· ∈ (placed rows).first) (· ∈ (placed rows).last) ((placed rows).empty = true) 0 (placed rows).atoms.length (mC rows) := by
  have := (isC rows ([], []) ⟨[], [], false⟩ 0 none rfl (Nat.le_refl _) (isNone _ _ _)).2
  rw [show alt none (mC rows) = mC rows from (alt_comm _ _).trans (alt_none _)] at this
  exact this
theorem mat_tells (rows : List (List Part)) (names : Wd) : Tells (mC rows) names ((placed rows).mat names).1 ((placed rows).mat names).2 := by
  have h := placed_is rows
  obtain ⟨v, rest, e, k1, k2, k3, k4⟩ := goes_spec h (Nat.le_refl _) names [] (placed rows).first (placed rows).empty (fun k => by
      constructor
      · exact fun hk => .inl ⟨rfl, hk⟩
      · rintro (⟨_, hk⟩ | ⟨i, hi, _⟩)
        · exact hk
        · exact absurd rfl hi.ne) (by
      rw [h.w]
      constructor
      · exact fun hk => .inl ⟨rfl, hk⟩
      · rintro (⟨_, hk⟩ | ⟨i, _, hi⟩)
        · exact hk
        · exact absurd rfl hi.ne) (.inl rfl)
  simp only [List.length_nil, Nat.zero_add, List.nil_append] at k1 k2 k3 k4
  refine ⟨v, rest, e, k1, k3, k4, ?_⟩
  unfold Pl.mat Pl.run
  rw [Bool.and_eq_true, k2, k1, beq_iff_eq]
  constructor
  · rintro ⟨h1, h2⟩
    subst e
    simp at h2
    exact ⟨h2, h1⟩
  · rintro ⟨rfl, h2⟩
    subst e
    exact ⟨h2, by simp⟩
/-- What matches the same tells the same. -/
theorem mat_eq {r r' : List (List Part)} (h : mC r = mC r') (names : Wd) : (placed r).mat names = (placed r').mat names := by
  have h1 := mat_tells r names
  have h2 := mat_tells r' names
  rw [← h] at h2
  have := Tells.one (placed_is r).pre h1 h2
  exact Prod.ext this.1 this.2
/-! ### The laws -/
def Po (A : List (List Part)) (s : Nat) : Part := .mk Br A s
def laws (A B : List (List Part)) : List (List (List Part) × List (List Part)) :=
  [([[Po A 0]], A), ([[Po A 63]], [[Po [[Po A 0], [.mk Mi [] 0]] 0]]), ([[Po A 43]], [[Po [[Po A 0, Po A 42]] 0]]), ([[Po [[Po A 42]] 42]], [[Po A 42]]),
   ([[Po [[Po [[Po A 0, Po B 0]] 0, Po A 0]] 0]], [[Po A 0, Po [[Po B 0, Po A 0]] 0]]), ([[Po [[Po A 0], [Po B 0]] 0]], [[Po [[Po B 0], [Po A 0]] 0]])]
theorem mP_po (A : List (List Part)) (s : Nat) : mP (Po A s) = sg s (mC A) := by simp [Po, mP]
theorem mC1 (p : Part) : mC [[p]] = mP p := by simp only [mC, mR, seq_eps, alt_none]
theorem mi_ne : Mi ≠ Br := by decide
theorem laws_ok {A B : List (List Part)} (hA : okC A) (hB : okC B) : ∀ l ∈ laws A B, (l.1 ≠ [] ∧ vC l.1) ∧ (l.2 ≠ [] ∧ vC l.2) ∧ mC l.1 = mC l.2 := by
  have vA : ∀ s, signOk s → vP (Po A s) := fun s hs => by simp only [Po, vP]; exact ⟨hs, .inl ⟨trivial, hA.1, hA.2.1⟩⟩
  have vB : ∀ s, signOk s → vP (Po B s) := fun s hs => by simp only [Po, vP]; exact ⟨hs, .inl ⟨trivial, hB.1, hB.2.1⟩⟩
  have vN : ∀ r s, signOk s → r ≠ [] → vC r → vP (Po r s) := fun r s hs h1 h2 => by simp only [Po, vP]; exact ⟨hs, .inl ⟨trivial, h1, h2⟩⟩
  have vM : vP (.mk Mi [] 0) := by simp only [vP]; exact ⟨.inl rfl, .inr ⟨.inr (.inr (.inr rfl)), trivial⟩⟩
  have s0 : signOk 0 := .inl rfl
  have s1 : signOk 63 := .inr (.inl rfl)
  have s2 : signOk 42 := .inr (.inr (.inl rfl))
  have s3 : signOk 43 := .inr (.inr (.inr rfl))
  have eM : mP (.mk Mi [] 0) = eps := by simp [mP, sg, mi_ne]
  have e63 : ∀ x, sg 63 x = opt x := fun x => by simp [sg]
  have e42 : ∀ x, sg 42 x = star x := fun x => by simp [sg]
  have e43 : ∀ x, sg 43 x = plus x := fun x => by simp [sg]
  intro l hl
  simp only [laws, List.mem_cons, List.not_mem_nil, or_false] at hl
  rcases hl with rfl | rfl | rfl | rfl | rfl | rfl
  · refine ⟨⟨by simp, by simp [vC, vR, vA 0 s0]⟩, ⟨hA.1, hA.2.1⟩, ?_⟩
    simp only [mC1, mP_po, sg0]
  · refine ⟨⟨by simp, by simp [vC, vR, vA 63 s1]⟩, ⟨by simp, ?_⟩, ?_⟩
    · simp only [vC, vR, and_true]; exact ⟨by simp, vN _ _ s0 (by simp) (by simp [vC, vR, vA 0 s0, vM])⟩
    · simp only [mC1, mP_po, sg0, mC, mR, seq_eps, alt_none, eM, e63, opt_eq]
  · refine ⟨⟨by simp, by simp [vC, vR, vA 43 s3]⟩, ⟨by simp, ?_⟩, ?_⟩
    · simp only [vC, vR, and_true]; exact ⟨by simp, vN _ _ s0 (by simp) (by simp [vC, vR, vA 0 s0, vA 42 s2])⟩
    · simp only [mC1, mP_po, sg0, mC, mR, seq_eps, alt_none, e43, e42, plus_eq]
  · refine ⟨⟨by simp, ?_⟩, ⟨by simp, by simp [vC, vR, vA 42 s2]⟩, ?_⟩
    · simp only [vC, vR, and_true]; exact ⟨by simp, vN _ _ s2 (by simp) (by simp [vC, vR, vA 42 s2])⟩
    · simp only [mC1, mP_po, sg0, mC, mR, seq_eps, alt_none, e42, star_star]
  · refine ⟨⟨by simp, ?_⟩, ⟨by simp, ?_⟩, ?_⟩
    · simp only [vC, vR, and_true]
      refine ⟨by simp, vN _ _ s0 (by simp) ?_⟩
      simp only [vC, vR, and_true]
      exact ⟨by simp, vN _ _ s0 (by simp) (by simp [vC, vR, vA 0 s0, vB 0 s0]), vA 0 s0⟩
    · simp only [vC, vR, and_true]
      exact ⟨by simp, vA 0 s0, vN _ _ s0 (by simp) (by simp [vC, vR, vA 0 s0, vB 0 s0])⟩
    · simp only [mP_po, sg0, mC, mR, seq_eps, alt_none, seq_assoc]
  · refine ⟨⟨by simp, ?_⟩, ⟨by simp, ?_⟩, ?_⟩
    · simp only [vC, vR, and_true]
      exact ⟨by simp, vN _ _ s0 (by simp) (by simp [vC, vR, vA 0 s0, vB 0 s0])⟩
    · simp only [vC, vR, and_true]
      exact ⟨by simp, vN _ _ s0 (by simp) (by simp [vC, vR, vA 0 s0, vB 0 s0])⟩
    · simp only [mP_po, sg0, mC, mR, seq_eps, alt_none]
      exact alt_comm _ _
/-- A model that was read is read again from its text. -/
theorem parse_again {s : List UInt8} {r : List (List Part)} (h : parse s = .ok r) : parse (tC r) = .ok r := by
  obtain ⟨⟨h1, h2, h3⟩, h4, h5⟩ := parse_ok h
  rcases parse_text h1 h2 with ⟨k, _⟩ | ⟨p, _, k | k⟩
  · rw [k, nC_id r h3]
  · omega
  · omega
end Go.Mdl
