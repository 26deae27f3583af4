/- Models: a model's text is written. -/
import Derived.Test.YtkmoeokfgkmlhaaMdBuild
import Derived.Test.YtkmoeokfgkmlhaaMdRows
namespace Go.Mdl
def rC (rows : List (List Part)) (k : Nat) : List UInt8 := if k = 0 then tC rows else tCt (rows.drop k)
def rR (row : List Part) (k : Nat) : List UInt8 := if k = 0 then tR row else tRt (row.drop k)
theorem rC_step {rows : List (List Part)} {k : Nat} (hk : k < rows.length) : rC rows k = (if k = 0 then [] else [124]) ++ (tR rows[k] ++ rC rows (k + 1)) := by
  unfold rC
  rw [if_neg (Nat.succ_ne_zero k)]
  by_cases h : k = 0
  · subst h
    cases rows with
    | nil => simp at hk
    | cons r rs => simp [tC]
  · rw [if_neg h, if_neg h, List.drop_eq_getElem_cons hk]
    simp [tCt]
theorem rC_end (rows : List (List Part)) : rC rows rows.length = [] := by
  unfold rC
  cases rows with
  | nil => simp [tC]
  | cons r rs => simp [tCt]
theorem rR_step {rows : List Part} {k : Nat} (hk : k < rows.length) : rR rows k = (if k = 0 then [] else [44]) ++ (tP rows[k] ++ rR rows (k + 1)) := by
  unfold rR
  rw [if_neg (Nat.succ_ne_zero k)]
  by_cases h : k = 0
  · subst h
    cases rows with
    | nil => simp at hk
    | cons r rs => simp [tR]
  · rw [if_neg h, if_neg h, List.drop_eq_getElem_cons hk]
    simp [tRt]
theorem rR_end (rows : List Part) : rR rows rows.length = [] := by
  unfold rR
  cases rows with
  | nil => simp [tR]
  | cons r rs => simp [tRt]
theorem vC_get {rows : List (List Part)} (h : vC rows) {k : Nat} (hk : k < rows.length) : vR rows[k] := by
  induction rows generalizing k with
  | nil => simp at hk
  | cons r rs ih =>
    simp only [vC] at h
    cases k with
    | zero => exact h.2.1
    | succ k => exact ih h.2.2 (by simpa using hk)
theorem vR_get {rows : List Part} (h : vR rows) {k : Nat} (hk : k < rows.length) : vP rows[k] := by
  induction rows generalizing k with
  | nil => simp at hk
  | cons r rs ih =>
    simp only [vR] at h
    cases k with
    | zero => exact h.1
    | succ k => exact ih h.2 (by simpa using hk)
end Go.Mdl
namespace Go.Proofs.Ytkmoeokfgkmlhaa
open Go.RowKit Go.Vc Go.Mdl
set_option linter.unusedVariables false
set_option linter.unusedSimpArgs false
set_option maxRecDepth 100000
theorem ofNat_sign {s : Nat} (h : signOk s) : (s : Int) = ((UInt8.ofNat s).toNat : Int) := by
  rcases h with rfl | rfl | rfl | rfl <;> rfl
theorem write_calls : ∀ (N : Nat) (rows : List (List Part)), cC rows < N → vC rows → ∀ (w0 : World) (B : Nat) (w : World) (b : Nat) (bs : List UInt8) (v : Sv) (R : Ending → World → Prop), Old w0 B → Sub w0 w → RdC w0 rows v → Bl w B b bs → B ≤ w.heap.size → bs.length + (tC rows).length ≤ 1048576 →
    (∀ w', Bl w' B b (bs ++ tC rows) → Fb B w w' → R (.returned (.tuple #[])) w') → Calls Try.prog 39 #[.pointer (some ⟨b, 0, none⟩), .slice v.1 v.2.1 v.2.2] w R
  | 0, rows, h => by omega
  | N + 1, rows, hN => by
    intro hv w0 B w b bs v R ho hs hp hbl hBw hlen hR
    refine ok39 _ _ _ _ ?_
    unfold F39
    obtain ⟨es, e1, e2, e3⟩ := hp
    have hel := e3.len
    have hsz : rows.length ≤ 9223372036854775807 := by have := e2.1; have := e2.2.1; unfold maxLen at this; omega
    refine ⟨fun i w1 => ∃ (k : Nat) (bk : List UInt8), i = k ∧ k ≤ rows.length ∧ Bl w1 B b bk ∧ Fb B w w1 ∧ bk ++ rC rows k = bs ++ tC rows, fun i _ => rows.length - i.toNat, ⟨0, bs, rfl, by omega, hbl, Fb.refl _ _, rfl⟩, ?_⟩
    rintro i w1 ⟨k, bk, rfl, hk, h1, f1, hb⟩
    unfold F39_l1
    refine brd (fun hlt => ?_) (fun hge => ?_)
    rotate_left
    · obtain rfl : k = rows.length := by rw [← hel] at hk ⊢; omega
      rw [rC_end, List.append_nil] at hb
      subst hb
      exact hR w1 h1 f1
    have hk2 : k < rows.length := by rw [← hel]; omega
    have hk3 : k < es.length := by rw [hel]; exact hk2
    have hstep := rC_step hk2
    have hs1 := f1.sub hs ho.lt
    have hB1 : B ≤ w1.heap.size := Nat.le_trans hBw f1.size
    have hblen : bk.length + (rC rows k).length ≤ 1048576 := by have := congrArg List.length hb; simp at this; omega
    rw [hstep] at hb hblen
    refine (hs1.rd e2).idx e1 (by omega) (by rw [e1]; omega) rfl fun q o hc => ?_
    simp only [Int.toNat_natCast] at hc
    refine lSl (hc 0 _ rfl) ?_
    obtain ⟨ps, p1, p2, p3⟩ := e3.get k hk2 hk3
    have hpl := p3.len
    have hvr := vC_get hv hk2
    have hrc : sR rows[k] ≤ cC rows := Nat.le_trans (mem_sC (List.getElem_mem hk2)) (sC_le rows)
    generalize rows[k] = row at p3 hpl hvr hrc hb hblen hstep
    refine ⟨fun w2 => ∃ b2, Bl w2 B b b2 ∧ Fb B w w2 ∧ b2 ++ (tR row ++ rC rows (k + 1)) = bs ++ tC rows, ?_, ?_⟩
    · rintro w2 ⟨b2, h2, f2, hb2⟩
      unfold F39_j5
      refine ⟨fun i w3 => ∃ (j : Nat) (bj : List UInt8), i = j ∧ j ≤ row.length ∧ Bl w3 B b bj ∧ Fb B w w3 ∧ bj ++ (rR row j ++ rC rows (k + 1)) = bs ++ tC rows, fun i _ => row.length - i.toNat, ⟨0, b2, rfl, by omega, h2, f2, hb2⟩, ?_⟩
      clear h2 f2 hb2
      rintro i w3 ⟨j, bj, rfl, hj, h3, f3, hb3⟩
      unfold F39_l6
      refine brd (fun hlt2 => ?_) (fun hge2 => ?_)
      rotate_left
      · obtain rfl : j = row.length := by rw [← hpl] at hj ⊢; omega
        rw [rR_end, List.nil_append] at hb3
        exact ⟨inR_i64 (by omega) (by omega), ⟨k + 1, bj, by simp, by omega, h3, f3, hb3⟩, by dsimp only; omega⟩
      have hj2 : j < row.length := by rw [← hpl]; omega
      have hj3 : j < ps.length := by rw [hpl]; exact hj2
      have hstep2 := rR_step hj2
      have hs3 := f3.sub hs ho.lt
      have hB3 : B ≤ w3.heap.size := Nat.le_trans hBw f3.size
      have hblen3 : bj.length + (rR row j).length ≤ 1048576 := by have := congrArg List.length hb3; simp at this; omega
      rw [hstep2] at hb3 hblen3
      have hjsz : row.length ≤ 9223372036854775807 := by have := p2.1; have := p2.2.1; unfold maxLen at this; omega
      have hget := p3.get j hj2 hj3
      have hvp := vR_get hvr hj2
      have hcp := mem_sR (List.getElem_mem hj2)
      refine ⟨fun w4 => ∃ b4, Bl w4 B b b4 ∧ Fb B w w4 ∧ b4 ++ (rR row (j + 1) ++ rC rows (k + 1)) = bs ++ tC rows, ?_, ?_⟩
      · rintro w4 ⟨b4, h4, f4, hb4⟩
        unfold F39_j17
        exact ⟨inR_i64 (by omega) (by omega), ⟨j + 1, b4, by simp, by omega, h4, f4, hb4⟩, by dsimp only; omega⟩
      refine (hs3.rd p2).idx p1 (by omega) (by rw [p1]; omega) rfl fun q o hc => ?_
      simp only [Int.toNat_natCast] at hc
      refine lS (hc 0 _ rfl) (lSl (by rw [Addr.add_mk]; exact hc 1 _ rfl) (lI (by rw [Addr.add_mk]; exact hc 2 _ rfl) ?_))
      obtain ⟨a, prows, s, hpe⟩ : ∃ a prows s, row[j] = Part.mk a prows s := by cases row[j]; exact ⟨_, _, _, rfl⟩
      rw [hpe] at hget hvp hcp hb3 hblen3
      generalize ps[j] = ej at hget ⊢
      obtain ⟨ea, esl, es'⟩ := ej
      simp only [RdP] at hget
      obtain ⟨rfl, rfl, hget⟩ := hget
      replace hget : RdC w0 prows esl := hget
      simp only [vP] at hvp
      refine al3 fun p w4 hb4 hp4 hgep => ?_
      have qp : Blk w4 p #[.string ea, .slice esl.1 esl.2.1 esl.2.2, .int .u8 (es' : Int)] 96 := hp4
      have h4 := h3.below hb4
      have f4 : Fb B w w4 := f3.trans (.below hb4)
      -- behind the comma
      refine ⟨fun w5 => ∃ b5, Bl w5 B b b5 ∧ Fb B w w5 ∧ Blk w5 p #[.string ea, .slice esl.1 esl.2.1 esl.2.2, .int .u8 (es' : Int)] 96 ∧ b5 ++ (tP (.mk ea prows es') ++ (rR row (j + 1) ++ rC rows (k + 1))) = bs ++ tC rows ∧ b5.length + (tP (.mk ea prows es')).length ≤ 1048576, ?_, ?_⟩
      · rintro w5 ⟨b5, h5, f5, qp, hb5, hl5⟩
        unfold F39_j10
        have hB5 : B ≤ w5.heap.size := Nat.le_trans hBw f5.size
        simp only [tP] at hb5 hl5
        refine ⟨fun w6 => ∃ b6, Bl w6 B b b6 ∧ Fb B w w6 ∧ Blk w6 p #[.string ea, .slice esl.1 esl.2.1 esl.2.2, .int .u8 (es' : Int)] 96 ∧ b6 ++ ((if es' = 0 then [] else [UInt8.ofNat es']) ++ (rR row (j + 1) ++ rC rows (k + 1))) = bs ++ tC rows ∧ b6.length ≤ 1048576, ?_, ?_⟩
        · rintro w6 ⟨b6, h6, f6, qp, hb6, hl6⟩
          unfold F39_j15
          refine lI (qp.cell 2) ?_
          refine brn (fun hne => ?_) (fun he => ?_)
          · refine lI (qp.cell 2) ?_
            have hne' : es' ≠ 0 := by rintro rfl; exact hne rfl
            rw [if_neg hne'] at hb6
            refine writeByte_calls h6 (Nat.le_trans hBw f6.size) hl6 (ofNat_sign hvp.1) fun w7 h7 f7 => ⟨_, rfl, _, h7, f6.trans f7, ?_⟩
            rw [← hb6]; simp
          · have he' : es' = 0 := by omega
            rw [if_pos he', List.nil_append] at hb6
            exact ⟨b6, h6, f6, hb6⟩
        · refine lS (qp.cell 0) ?_
          rw [bytes_eq]
          refine brd (fun hbr => ?_) (fun hbr => ?_)
          · replace hbr : ea = Mdl.Br := hbr
            rw [if_pos hbr] at hb5 hl5
            simp only [List.length_append, List.length_cons, List.length_nil] at hl5
            refine writeByte_calls h5 hB5 (by omega) (c := 40) rfl fun w6 h6 f6 => ⟨_, rfl, ?_⟩
            have qp6 := f6.blk qp (by decide)
            have f6' := f5.trans f6
            refine lSl (qp6.cell 1) ?_
            have hvc : vC prows := by
              rcases hvp.2 with ⟨_, _, h⟩ | ⟨h, _⟩
              · exact h
              · exact absurd hbr (br_ne h)
            have hcc := cP_lt ea prows es' hbr
            refine write_calls N prows (by omega) hvc w0 B w6 b _ esl _ ho (f6'.sub hs ho.lt) hget h6 (Nat.le_trans hB5 f6.size) (by simp; omega) fun w7 h7 f7 => ⟨rfl, ?_⟩
            have qp7 := f7.blk qp6 (by decide)
            refine writeByte_calls h7 (Nat.le_trans (Nat.le_trans hB5 f6.size) f7.size) (by simp; omega) (c := 41) rfl fun w8 h8 f8 => ⟨_, rfl, _, h8, (f6'.trans f7).trans f8, f8.blk qp7 (by decide), ?_, by simp; omega⟩
            rw [← hb5]; simp
          · replace hbr : ¬ ea = Mdl.Br := hbr
            rw [if_neg hbr] at hb5 hl5
            simp only [List.length_append] at hl5
            refine lS (qp.cell 0) ?_
            have hez : ea.data.toList.length = ea.size := by simp
            refine writeString_calls h5 hB5 (by omega) fun w6 h6 f6 => ⟨_, _, rfl, _, h6, f5.trans f6, f6.blk qp (by decide), ?_, by rw [List.length_append]; omega⟩
            rw [← hb5]; simp
      · refine brd (fun hgt => ?_) (fun hle => ?_)
        · have : j ≠ 0 := by omega
          rw [if_neg this] at hb3 hblen3
          simp only [List.length_append, List.length_cons, List.length_nil] at hblen3
          refine writeByte_calls h4 (Nat.le_trans hB3 hb4.size) (by omega) (c := 44) rfl fun w5 h5 f5 => ⟨_, rfl, _, h5, f4.trans f5, f5.blk qp (by decide), ?_, by simp; omega⟩
          rw [← hb3]; simp
        · have : j = 0 := by omega
          rw [if_pos this, List.nil_append] at hb3 hblen3
          rw [List.length_append] at hblen3
          exact ⟨bj, h4, f4, qp, by rw [← hb3]; simp, by omega⟩
    · refine brd (fun hgt => ?_) (fun hle => ?_)
      · have : k ≠ 0 := by omega
        rw [if_neg this] at hb hblen
        simp only [List.length_append, List.length_cons, List.length_nil] at hblen
        refine writeByte_calls h1 hB1 (by omega) (c := 124) rfl fun w2 h2 f2 => ⟨_, rfl, _, h2, f1.trans f2, ?_⟩
        rw [← hb]; simp
      · have : k = 0 := by omega
        rw [if_pos this, List.nil_append] at hb
        exact ⟨bk, h1, f1, hb⟩
end Go.Proofs.Ytkmoeokfgkmlhaa
