/- Models in plain: an error has a number; the laws' texts. -/
import Derived.Test.YtkmoeokfgkmlhaaMdRow
namespace Go.Mdl
set_option linter.unusedVariables false
set_option linter.unusedSimpArgs false
def NE {α : Type} (r : Res α) : Prop := ∀ p e, r = .error (p, e) → e ≠ 0
theorem ne_atom {ch : List UInt8 → Nat → Res (List (List Part))} {l : List UInt8} {n : Nat} (hn : n ≤ maxParts) (hc : ∀ l' n', l'.length < l.length → n' ≤ maxParts → NE (ch l' n')) : NE (atom ch l n) := by
  intro p e h
  have hs := skip_len l
  unfold atom at h
  split at h
  · cases h; decide
  rename_i c r hl
  rw [hl] at hs
  split at h
  · split at h
    · cases h; decide
    split at h
    · cases h; decide
    · cases h
  split at h
  · split at h
    · cases h; decide
    · cases h
  split at h
  · cases h; decide
  split at h
  · cases h; decide
  rename_i hm
  split at h
  · rename_i x hx
    cases h
    exact hc r (n + 1) (by simp at hs; omega) (by omega) _ _ hx
  · split at h
    · cases h; decide
    split at h
    · cases h
    · cases h; decide
theorem ne_part {ch : List UInt8 → Nat → Res (List (List Part))} {l : List UInt8} {n : Nat} (hn : n ≤ maxParts) (hc : ∀ l' n', l'.length < l.length → n' ≤ maxParts → NE (ch l' n')) : NE (part ch l n) := by
  intro p e h
  unfold part at h
  split at h
  · rename_i x hx
    cases h
    exact ne_atom hn hc _ _ hx
  split at h
  · cases h
  split at h
  · split at h
    · cases h; decide
    · cases h
  · cases h
theorem ne_row {g : Nat} : ∀ (f : Nat) (l : List UInt8) (n : Nat), l.length < f → n ≤ maxParts → (∀ l' n', l'.length < l.length → n' ≤ maxParts → NE (choices g l' n')) → NE (row (choices g) f l n)
  | 0, l, n, h, _, _ => by omega
  | f + 1, l, n, hf, hn, hc => by
    intro p e h
    rw [row_succ] at h
    split at h
    · rename_i x hx
      cases h
      exact ne_part hn hc _ _ hx
    rename_i q l1 n1 hq
    obtain ⟨ok1, le1, co1, mx1⟩ := sound_part (sound g) l n _ _ _ hq hn
    have hs := skip_len l1
    unfold rowT at h
    split at h
    · cases h
    rename_i c r hl
    rw [hl] at hs
    split at h
    · split at h
      · cases h; decide
      · rename_i hm
        cases hr : row (choices g) f r (n1 + 1) with
        | ok y => rw [hr] at h; obtain ⟨a, b, c⟩ := y; cases h
        | error y =>
          obtain ⟨p', e'⟩ := y
          rw [hr] at h
          cases h
          simp only [List.length_cons] at hs
          exact ne_row f r (n1 + 1) (by omega) (by omega) (fun l' n' h1 h2 => hc l' n' (by omega) h2) _ _ hr
    · cases h
theorem ne_rows {g : Nat} : ∀ (f : Nat) (l : List UInt8) (n : Nat), l.length < f → l.length ≤ g → n ≤ maxParts → (∀ l' n', l'.length < l.length → n' ≤ maxParts → NE (choices g l' n')) → NE (rowsL (row (choices g) (g + 1)) f l n)
  | 0, l, n, h, _, _, _ => by omega
  | f + 1, l, n, hf, hg, hn, hc => by
    intro p e h
    rw [rows_succ] at h
    split at h
    · rename_i x hx
      cases h
      exact ne_row (g + 1) l n (by omega) hn hc _ _ hx
    rename_i q l1 n1 hq
    obtain ⟨ok1, le1, co1, mx1⟩ := sound_row (sound g) (g + 1) l n _ _ _ hq hn
    have hs := skip_len l1
    unfold rowsT at h
    split at h
    · cases h
    rename_i c r hl
    rw [hl] at hs
    split at h
    · split at h
      · cases h; decide
      · rename_i hm
        cases hr : rowsL (row (choices g) (g + 1)) f r (n1 + 1) with
        | ok y => rw [hr] at h; obtain ⟨a, b, c⟩ := y; cases h
        | error y =>
          obtain ⟨p', e'⟩ := y
          rw [hr] at h
          cases h
          simp only [List.length_cons] at hs
          exact ne_rows f r (n1 + 1) (by omega) (by omega) (by omega) (fun l' n' h1 h2 => hc l' n' (by omega) h2) _ _ hr
    · cases h
theorem ne_choices : ∀ (f : Nat) (l : List UInt8) (n : Nat), l.length < f → n ≤ maxParts → NE (choices f l n)
  | 0, l, n, h, _ => by omega
  | f + 1, l, n, h, hn => by
    unfold choices
    exact ne_rows (f + 1) l n h (by omega) hn fun l' n' h1 h2 => ne_choices f l' n' (by omega) h2
theorem parse_ne {s : List UInt8} {p e : Nat} (h : parse s = .error (p, e)) : e ≠ 0 := by
  unfold parse at h
  split at h
  · cases h; decide
  split at h
  · rename_i x hx
    cases h
    exact ne_choices _ _ _ (by omega) (by simp) _ _ hx
  · split at h
    · cases h
    · cases h; decide
def ba (l : List UInt8) : ByteArray := ⟨l.toArray⟩
theorem ba_append (a b : List UInt8) : ba a ++ ba b = ba (a ++ b) := by
  apply ByteArray.ext
  simp [ba]
theorem ba_size (a : List UInt8) : (ba a).size = a.length := by simp [ba, ByteArray.size]
theorem ba_list (a : List UInt8) : (ba a).data.toList = a := by simp [ba]
/-- The laws' texts, as the program writes them. -/
theorem laws_text (A B : List (List Part)) : (laws A B).map (fun l => (tC l.1, tC l.2)) =
    [(([40] ++ tC A) ++ [41], tC A),
     ((([40] ++ tC A) ++ [41]) ++ [63], ([40] ++ (([40] ++ tC A) ++ [41])) ++ [124, 45, 41]),
     ((([40] ++ tC A) ++ [41]) ++ [43], ((([40] ++ (([40] ++ tC A) ++ [41])) ++ [44]) ++ (([40] ++ tC A) ++ [41])) ++ [42, 41]),
     (([40] ++ (([40] ++ tC A) ++ [41])) ++ [42, 41, 42], (([40] ++ tC A) ++ [41]) ++ [42]),
     ((((((([40, 40] ++ (([40] ++ tC A) ++ [41])) ++ [44]) ++ (([40] ++ tC B) ++ [41])) ++ [41, 44]) ++ (([40] ++ tC A) ++ [41]))) ++ [41],
      ((((((([40] ++ tC A) ++ [41]) ++ [44, 40]) ++ (([40] ++ tC B) ++ [41])) ++ [44]) ++ (([40] ++ tC A) ++ [41]))) ++ [41]),
     ((((([40] ++ (([40] ++ tC A) ++ [41])) ++ [124]) ++ (([40] ++ tC B) ++ [41]))) ++ [41], (((([40] ++ (([40] ++ tC B) ++ [41])) ++ [124]) ++ (([40] ++ tC A) ++ [41]))) ++ [41])] := by
  have hM : ¬ Mi = Br := by decide
  simp [laws, Po, tC, tCt, tR, tRt, tP, hM]
  simp [Mi]
end Go.Mdl
