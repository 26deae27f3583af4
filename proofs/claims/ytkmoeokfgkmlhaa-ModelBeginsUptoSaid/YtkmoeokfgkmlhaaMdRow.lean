/- Models: the reader reads a row, and choices. -/
import Derived.Test.YtkmoeokfgkmlhaaMdPart
import Derived.Test.YtkmoeokfgkmlhaaMdGi
import Derived.Test.YtkmoeokfgkmlhaaMdBld
namespace Go.Mdl
def pre {α : Type} (ps : List α) : Res (List α) → Res (List α)
  | .error e => .error e
  | .ok (qs, l, n) => .ok (ps ++ qs, l, n)
/-- What comes behind a part of a row. -/
def rowT (ch : List UInt8 → Nat → Res (List (List Part))) (f : Nat) (l : List UInt8) (n : Nat) : Res (List Part) :=
  match skip l with
  | [] => .ok ([], [], n)
  | c :: r => if c = 44 then (if maxParts < n + 1 then .error ((c :: r).length, eLong) else row ch f r (n + 1)) else .ok ([], c :: r, n)
theorem row_succ (ch : List UInt8 → Nat → Res (List (List Part))) (f : Nat) (l : List UInt8) (n : Nat) : row ch (f + 1) l n = match part ch l n with
    | .error e => .error e
    | .ok (p, l1, n1) => pre [p] (rowT ch f l1 n1) := by
  rw [row]
  cases part ch l n with
  | error e => rfl
  | ok x =>
    obtain ⟨p, l1, n1⟩ := x
    simp only [rowT]
    cases skip l1 with
    | nil => rfl
    | cons c r =>
      dsimp only
      by_cases h : c = 44
      · rw [if_pos h, if_pos h]
        by_cases h2 : maxParts < n1 + 1
        · rw [if_pos h2, if_pos h2]; rfl
        · rw [if_neg h2, if_neg h2]
          cases row ch f r (n1 + 1) with
          | error e => rfl
          | ok y => rfl
      · rw [if_neg h, if_neg h]; rfl
def rowsT (rw_ : List UInt8 → Nat → Res (List Part)) (f : Nat) (l : List UInt8) (n : Nat) : Res (List (List Part)) :=
  match skip l with
  | [] => .ok ([], [], n)
  | c :: r => if c = 124 then (if maxParts < n + 1 then .error ((c :: r).length, eLong) else rowsL rw_ f r (n + 1)) else .ok ([], c :: r, n)
theorem rows_succ (rw_ : List UInt8 → Nat → Res (List Part)) (f : Nat) (l : List UInt8) (n : Nat) : rowsL rw_ (f + 1) l n = match rw_ l n with
    | .error e => .error e
    | .ok (p, l1, n1) => pre [p] (rowsT rw_ f l1 n1) := by
  rw [rowsL]
  cases rw_ l n with
  | error e => rfl
  | ok x =>
    obtain ⟨p, l1, n1⟩ := x
    simp only [rowsT]
    cases skip l1 with
    | nil => rfl
    | cons c r =>
      dsimp only
      by_cases h : c = 124
      · rw [if_pos h, if_pos h]
        by_cases h2 : maxParts < n1 + 1
        · rw [if_pos h2, if_pos h2]; rfl
        · rw [if_neg h2, if_neg h2]
          cases rowsL rw_ f r (n1 + 1) with
          | error e => rfl
          | ok y => rfl
      · rw [if_neg h, if_neg h]; rfl
theorem pre_pre {α : Type} (a b : List α) (r : Res (List α)) : pre a (pre b r) = pre (a ++ b) r := by
  cases r with
  | error e => rfl
  | ok x => simp [pre]
theorem tP_pos (p : Part) (h : okP p) : 0 < (tP p).length := by
  obtain ⟨a, rows, s⟩ := p
  have := h.1
  simp only [vP] at this
  rcases this.2 with ⟨rfl, _⟩ | ⟨ha, _⟩
  · simp [tP]
  · simp only [tP, if_neg (br_ne ha)]
    rcases ha with ⟨c, r, h1, _⟩ | rfl | rfl | rfl
    · rw [h1]; simp
    all_goals simp [Dl, Dt, Mi]
theorem tR_pos (r : List Part) (h : okR r) : 0 < (tR r).length := by
  cases r with
  | nil => exact absurd rfl h.1
  | cons p ps =>
    have h1 := h.2.1
    have h2 := h.2.2
    simp only [vR] at h1
    simp only [gR] at h2
    have := tP_pos p ⟨h1.1, h2.1⟩
    simp only [tR, List.length_append]; omega
theorem cR_pos (r : List Part) (h : r ≠ []) : 0 < cR r := by
  cases r with
  | nil => exact absurd rfl h
  | cons p ps => have := cP_pos p; simp only [cR]; omega
end Go.Mdl
namespace Go.Proofs.Ytkmoeokfgkmlhaa
open Go.RowKit Go.Vc Go.Mdl
set_option linter.unusedVariables false
set_option linter.unusedSimpArgs false
set_option maxRecDepth 100000
section
variable {w w1 : World} {R : Ending → World → Prop} {g n : Nat} {s : ByteArray} {l r : List UInt8} {c : UInt8}
/-- How many bytes are left, as the reader's cell tells. -/
def left (s : ByteArray) (g : Nat) (w : World) : Nat := match w.cell? ⟨g, 1, none⟩ with | some (.int _ k) => s.size - k.toNat | _ => 0
theorem RAt.left (h : RAt w g s l n) : left s g w = l.length := by
  unfold Ytkmoeokfgkmlhaa.left
  rw [h.blk.cell]
  have := h.len
  simp; omega
theorem row_calls {f : Nat} (hch : CC f) (h : RAt w g s l n) (hs : s.size ≤ 1024) (hl : l.length ≤ f) {f1 : Nat} (hf1 : l.length < f1) (hR : Ends R g s w retR (Mdl.row (choices f) f1 l n)) :
    Calls Try.prog 33 #[.pointer (some ⟨g, 0, none⟩)] w R := by
  refine ok33 _ ?_
  unfold F33
  have hgl := h.blk.lt
  obtain ⟨f1, rfl⟩ : ∃ f', f1 = f' + 1 := ⟨f1 - 1, by omega⟩
  rw [row_succ] at hR
  refine part_calls hch h hs hl ?_
  cases hp : Mdl.part (choices f) l n with
  | error e =>
    obtain ⟨pos, e⟩ := e
    rw [hp] at hR
    exact fun at_ w' f' => hR at_ w' f'
  | ok x =>
    obtain ⟨p, l1, n1⟩ := x
    rw [hp] at hR
    dsimp only at hR
    obtain ⟨ok1, le1, co1, mx1⟩ := sound_part (sound f) l n _ _ _ hp h.nle
    have tp1 := tP_pos p ok1
    have cp1 := cP_pos p
    rintro w1 _ h1 F1 ⟨e, rfl, hrd⟩
    refine ⟨_, _, _, _, _, rfl, ?_⟩
    refine al fun g6 w2 hb2 hg6 hge6 => ?_
    have h2 := h1.below hb2
    have F2 := F1.tr hb2
    have B2 : Bld KP w.heap.size 96 w2 (.slice (some ⟨g6, 0, none⟩) 1 1) [p] := Bld.one (N := KP) hg6 rfl hb2 hge6 F1.size hrd
    refine ⟨fun A m c w' => ∃ (ps : List Part) (l' : List UInt8) (n' f' : Nat), Bld KP w.heap.size 96 w' (.slice A m c) ps ∧ RAt w' g s l' n' ∧ Fm (· = g) w w' ∧ l'.length ≤ f ∧ l'.length < f' + 1 ∧ ps.length ≤ n' ∧ Ends R g s w retR (pre ps (rowT (choices f) f' l' n')),
      fun A m c w' => left s g w', ⟨[p], l1, n1, f1, B2, h2, F2, by omega, by omega, by simp; omega, hR⟩, ?_⟩
    clear hR B2 F2 h2 hg6 hge6 hb2 hrd h1 F1
    rintro A m c w3 ⟨ps, l', n', f', B3, h3, F3, hl3, hf3, hn3, hR⟩
    unfold F33_l2
    refine peek_calls h3 hs fun w4 h4 f4 => ⟨_, rfl, ?_⟩
    have F4 := F3.trans f4
    have B4 := B3.keep f4 (fun b hb e => by omega)
    have hsk := skip_len l'
    unfold rowT at hR
    refine bre (fun h44 => ?_) (fun h44 => ?_)
    · cases hs1 : skip l' with
      | nil => rw [hs1] at h44; exact absurd h44 (by decide)
      | cons c1 r1 =>
        rw [hs1] at hR h4 h44 hsk
        obtain rfl : c1 = 44 := (by rw [← UInt8.toNat_inj]; show c1.toNat = 44; simp only [hd] at h44; omega)
        dsimp only at hR
        rw [if_pos rfl] at hR
        refine began_calls h4 (fun hn w5 h5 f5 => ⟨rfl, ?_⟩) (fun hn at_ w5 f5 => ?_)
        rotate_left
        · rw [if_pos hn] at hR; exact hR _ _ (F4.trans f5)
        rw [if_neg (by omega)] at hR
        refine adv h5 hs fun w6 h6 f6 => ?_
        have F6 := (F4.trans f5).trans f6
        have B6 := (B4.keep f5 (fun b hb e => by omega)).keep f6 (fun b hb e => by omega)
        simp only [List.length_cons] at hsk
        obtain ⟨f', rfl⟩ : ∃ f2, f' = f2 + 1 := ⟨f' - 1, by omega⟩
        rw [row_succ] at hR
        refine part_calls hch h6 hs (by omega) ?_
        cases hp : Mdl.part (choices f) r1 (n' + 1) with
        | error e =>
          obtain ⟨pos, e⟩ := e
          rw [hp] at hR
          exact fun at_ w' f' => hR at_ w' (F6.trans f')
        | ok x =>
          obtain ⟨p2, l2, n2⟩ := x
          rw [hp] at hR
          dsimp only at hR
          obtain ⟨ok2, le2, co2, mx2⟩ := sound_part (sound f) r1 (n' + 1) _ _ _ hp h6.nle
          have tp2 := tP_pos p2 ok2
          have cp2 := cP_pos p2
          rintro w7 _ h7 f7 ⟨e2, rfl, hrd2⟩
          refine ⟨_, _, _, _, _, rfl, ?_⟩
          have hm := h7.nle
          unfold maxParts at hm
          refine B6.app (N := KP) (.agg #[.string (ByteArray.mk #[]), .slice none 0 0, .int .u8 0]) 48 f7 (fun b hb e => by omega) F6.size hrd2 rfl rfl rfl rfl (by omega) (by simp [maxLen]; omega) fun A' c' w8 B8 f8 => ⟨A', _, c', rfl, ⟨ps ++ [p2], l2, n2, f', B8, h7.keep f8 (by omega), (F6.trans f7).trans' f8 (fun b hb e => by omega), by omega, by omega, by simp; omega, ?_⟩, ?_⟩
          · rw [← pre_pre]; exact hR
          · dsimp only; rw [(h7.keep f8 (by omega)).left, h3.left]; omega
    · have key : rowT (choices f) f' l' n' = .ok ([], skip l', n') := by
        unfold rowT
        cases hs1 : skip l' with
        | nil => rfl
        | cons c1 r1 =>
          dsimp only
          rw [if_neg]
          rintro rfl
          rw [hs1] at h44
          exact h44 rfl
      have hR2 : Ends R g s w retR (pre ps (rowT (choices f) f' l' n')) := by unfold rowT; exact hR
      rw [key] at hR2
      simp only [pre, List.append_nil] at hR2
      obtain ⟨A', c', es, e1, e2, e3⟩ := B4.read (j := w.heap.size) (Nat.le_refl _)
      cases e1
      exact hR2 w4 _ h4 F4 ⟨(A, es.length, c), rfl, es, rfl, e2, e3⟩
theorem choices_calls : ∀ f, CC f
  | 0 => fun w g s l n R h hs hl hR => by omega
  | f + 1 => fun w g s l n R h hs hl hR => by
    have hch := choices_calls f
    refine ok17 _ ?_
    unfold F17
    have hgl := h.blk.lt
    rw [choices, rows_succ] at hR
    refine row_calls hch h hs (by omega) (f1 := f + 1) (by omega) ?_
    have snd := sound_row (sound f) (f + 1)
    cases hp : Mdl.row (choices f) (f + 1) l n with
    | error e =>
      obtain ⟨pos, e⟩ := e
      rw [hp] at hR
      exact fun at_ w' f' => hR at_ w' f'
    | ok x =>
      obtain ⟨p, l1, n1⟩ := x
      rw [hp] at hR
      dsimp only at hR
      obtain ⟨ok1, le1, co1, mx1⟩ := snd l n _ _ _ hp h.nle
      have tp1 := tR_pos p ok1
      have cp1 := cR_pos p ok1.1
      rintro w1 _ h1 F1 ⟨e, rfl, hrd⟩
      refine ⟨_, _, _, rfl, ?_⟩
      refine al fun g6 w2 hb2 hg6 hge6 => ?_
      have h2 := h1.below hb2
      have F2 := F1.tr hb2
      have B2 : Bld KW w.heap.size 77 w2 (.slice (some ⟨g6, 0, none⟩) 1 1) [p] := Bld.one (N := KW) hg6 rfl hb2 hge6 F1.size hrd
      refine ⟨fun A m c w' => ∃ (ps : List (List Part)) (l' : List UInt8) (n' f' : Nat), Bld KW w.heap.size 77 w' (.slice A m c) ps ∧ RAt w' g s l' n' ∧ Fm (· = g) w w' ∧ l'.length ≤ f ∧ l'.length < f' + 1 ∧ ps.length ≤ n' ∧ Ends R g s w retC (pre ps (rowsT (Mdl.row (choices f) (f + 1)) f' l' n')),
        fun A m c w' => left s g w', ⟨[p], l1, n1, f, B2, h2, F2, by omega, by omega, by simp; omega, hR⟩, ?_⟩
      clear hR B2 F2 h2 hg6 hge6 hb2 hrd h1 F1
      rintro A m c w3 ⟨ps, l', n', f', B3, h3, F3, hl3, hf3, hn3, hR⟩
      unfold F17_l2
      refine peek_calls h3 hs fun w4 h4 f4 => ⟨_, rfl, ?_⟩
      have F4 := F3.trans f4
      have B4 := B3.keep f4 (fun b hb e => by omega)
      have hsk := skip_len l'
      unfold rowsT at hR
      refine bre (fun h44 => ?_) (fun h44 => ?_)
      · cases hs1 : skip l' with
        | nil => rw [hs1] at h44; exact absurd h44 (by decide)
        | cons c1 r1 =>
          rw [hs1] at hR h4 h44 hsk
          obtain rfl : c1 = 124 := (by rw [← UInt8.toNat_inj]; show c1.toNat = 124; simp only [hd] at h44; omega)
          dsimp only at hR
          rw [if_pos rfl] at hR
          refine began_calls h4 (fun hn w5 h5 f5 => ⟨rfl, ?_⟩) (fun hn at_ w5 f5 => ?_)
          rotate_left
          · rw [if_pos hn] at hR; exact hR _ _ (F4.trans f5)
          rw [if_neg (by omega)] at hR
          refine adv h5 hs fun w6 h6 f6 => ?_
          have F6 := (F4.trans f5).trans f6
          have B6 := (B4.keep f5 (fun b hb e => by omega)).keep f6 (fun b hb e => by omega)
          simp only [List.length_cons] at hsk
          obtain ⟨f', rfl⟩ : ∃ f2, f' = f2 + 1 := ⟨f' - 1, by omega⟩
          rw [rows_succ] at hR
          refine row_calls hch h6 hs (by omega) (f1 := f + 1) (by omega) ?_
          cases hp : Mdl.row (choices f) (f + 1) r1 (n' + 1) with
          | error e =>
            obtain ⟨pos, e⟩ := e
            rw [hp] at hR
            exact fun at_ w' f' => hR at_ w' (F6.trans f')
          | ok x =>
            obtain ⟨p2, l2, n2⟩ := x
            rw [hp] at hR
            dsimp only at hR
            obtain ⟨ok2, le2, co2, mx2⟩ := snd r1 (n' + 1) _ _ _ hp h6.nle
            have tp2 := tR_pos p2 ok2
            have cp2 := cR_pos p2 ok2.1
            rintro w7 _ h7 f7 ⟨e2, rfl, hrd2⟩
            refine ⟨_, _, _, rfl, ?_⟩
            have hm := h7.nle
            unfold maxParts at hm
            refine B6.app (N := KW) (.slice none 0 0) 24 f7 (fun b hb e => by omega) F6.size hrd2 rfl rfl rfl rfl (by omega) (by simp [maxLen]; omega) fun A' c' w8 B8 f8 => ⟨A', _, c', rfl, ⟨ps ++ [p2], l2, n2, f', B8, h7.keep f8 (by omega), (F6.trans f7).trans' f8 (fun b hb e => by omega), by omega, by omega, by simp; omega, ?_⟩, ?_⟩
            · rw [← pre_pre]; exact hR
            · dsimp only; rw [(h7.keep f8 (by omega)).left, h3.left]; omega
      · have key : rowsT (Mdl.row (choices f) (f + 1)) f' l' n' = .ok ([], skip l', n') := by
          unfold rowsT
          cases hs1 : skip l' with
          | nil => rfl
          | cons c1 r1 =>
            dsimp only
            rw [if_neg]
            rintro rfl
            rw [hs1] at h44
            exact h44 rfl
        have hR2 : Ends R g s w retC (pre ps (rowsT (Mdl.row (choices f) (f + 1)) f' l' n')) := by unfold rowsT; exact hR
        rw [key] at hR2
        simp only [pre, List.append_nil] at hR2
        obtain ⟨A', c', es, e1, e2, e3⟩ := B4.read (j := w.heap.size) (Nat.le_refl _)
        cases e1
        exact hR2 w4 _ h4 F4 ⟨(A, es.length, c), rfl, es, rfl, e2, e3⟩
end
end Go.Proofs.Ytkmoeokfgkmlhaa
