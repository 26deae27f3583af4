/- Models: the reader reads a part, a row, choices. -/
import Derived.Test.YtkmoeokfgkmlhaaMdAtom
namespace Go.Proofs.Ytkmoeokfgkmlhaa
open Go.RowKit Go.Vc Go.Mdl
set_option linter.unusedVariables false
set_option linter.unusedSimpArgs false
set_option maxRecDepth 100000
section
variable {w w1 : World} {R : Ending → World → Prop} {g n : Nat} {s : ByteArray} {l r : List UInt8} {c : UInt8}
theorem len1 {α : Type} {l : List α} (h : ((l.length : Nat) : Int) = 1) : ∃ x, l = [x] := List.length_eq_one_iff.1 (by omega)
theorem plain_sg (a' : ByteArray) (rows' : List (List Part)) (s' s0 : Nat) : plain (.mk Mdl.Br [[.mk a' rows' s']] s0) = if s0 = 0 then .mk a' rows' s' else if s' = 0 then .mk a' rows' s0 else .mk Mdl.Br [[.mk a' rows' s']] s0 := by
  simp only [plain, if_true]
theorem part_calls {f : Nat} (hch : CC f) (h : RAt w g s l n) (hs : s.size ≤ 1024) (hl : l.length ≤ f) (hR : Ends R g s w retP (Mdl.part (choices f) l n)) :
    Calls Try.prog 50 #[.pointer (some ⟨g, 0, none⟩)] w R := by
  refine ok50 _ ?_
  unfold F50
  refine al fun g2 w1 hb1 hg2 hge2 => ?_
  have h1 := h.below hb1
  have hgl := h.blk.lt
  have hne : ¬ (g2 = g) := by omega
  unfold Mdl.part at hR
  refine atom_calls hch h1 hs hl ?_
  have F1 : Fm (· = g) w w1 := .below hb1
  cases ha : Mdl.atom (choices f) l n with
  | error e =>
    obtain ⟨pos, e⟩ := e
    rw [ha] at hR
    exact fun at_ w' f' => hR at_ w' (F1.trans f')
  | ok x =>
    obtain ⟨⟨a, rows, s0⟩, l1, n1⟩ := x
    rw [ha] at hR
    dsimp only at hR
    rintro w2 _ h2 f2 ⟨⟨ea, esl, es⟩, rfl, hrd⟩
    simp only [RdP] at hrd
    obtain ⟨rfl, rfl, hrd⟩ := hrd
    replace hrd : RdC (above w1.heap.size w2) rows esl := hrd
    refine ⟨_, _, _, _, _, rfl, ?_⟩
    have F2 := F1.trans f2
    have G2 := f2.blk hg2 hne
    have hg2lt := hg2.lt
    refine al3 fun pb w3 hb3 hp hgep => ?_
    have hpne : ¬ (pb = g) := by have := h2.blk.lt; omega
    have hpne2 : ¬ (pb = g2) := by have := G2.lt; omega
    have h3 := h2.below hb3
    have F3 := F2.tr hb3
    have G3 := G2.keep hb3
    have Q3 : Fm (· = g) w2 w3 := .below hb3
    have hsz2 : w1.heap.size ≤ w2.heap.size := f2.size
    have hsz1 : w.heap.size ≤ w1.heap.size := hb1.size
    clear h1 f2 hg2 hb1 h2 hb3 G2 F2 F1
    -- what is read stays
    have keepS : ∀ {w4 w' : World}, Fm (· = g) w2 w4 → Fm (· = g2) w4 w' → Sub (above w1.heap.size w2) (above w.heap.size w') := by
      intro w4 w' q1 q2
      have a1 : Sub (above w1.heap.size w2) (above w1.heap.size w4) := above_fm q1 (Nat.le_refl _) (fun b hb e => by omega)
      have a2 : Sub (above w1.heap.size w4) (above w.heap.size w') := above_fm q2 hsz1 (fun b hb e => by omega)
      exact a1.trans a2
    have keep : ∀ {w4 w' : World}, Fm (· = g) w2 w4 → Fm (· = g2) w4 w' → RdC (above w.heap.size w') rows esl := fun q1 q2 => RdC.sub (keepS q1 q2) hrd
    have fin : ∀ (p : Part) (e : E) (l' : List UInt8) (n' : Nat) (w4 w' : World), Ends R g s w retP (.ok (p, l', n')) → RAt w4 g s l' n' → Fm (· = g) w w4 → RdP (above w.heap.size w') p e → Fm (· = g2) w4 w' →
        R (.returned (.agg #[.string e.a, .slice e.sl.1 e.sl.2.1 e.sl.2.2, .int .u8 (e.s : Int)])) w' := fun p e l' n' w4 w' hE hA hF hP hF2 =>
      hE w' _ (hA.keep hF2 (Ne.symm hne)) ⟨(hF2.os).trans hF.os, hF2.tape.trans hF.tape, hF2.output.trans hF.output, Nat.le_trans hF.size hF2.size, fun b hb hm => (hF2.block b (Nat.lt_of_lt_of_le hb hF.size) (by omega)).trans (hF.block b hb hm)⟩ ⟨e, rfl, hP⟩
    refine ⟨fun w' => ∃ (sgn : Nat) (l' : List UInt8) (n' : Nat), RAt w' g s l' n' ∧ Fm (· = g) w w' ∧ Fm (· = g) w2 w' ∧ Blk w' g2 #[.string (ByteArray.mk #[]), .slice none 0 0, .int .u8 0] 96 ∧ Blk w' pb #[.string ea, .slice esl.1 esl.2.1 esl.2.2, .int .u8 (sgn : Int)] 96 ∧
      Ends R g s w retP (.ok (plain (.mk ea rows sgn), l', n')), ?_, ?_⟩
    · rintro w4 ⟨sgn, l', n', h4, F4, Q4, G4, P4, hE⟩
      unfold F50_j7
      refine ⟨fun w5 => RAt w5 g s l' n' ∧ Fm (· = g) w w5 ∧ Fm (· = g) w2 w5 ∧ Blk w5 g2 #[.string (ByteArray.mk #[]), .slice none 0 0, .int .u8 0] 96 ∧ Blk w5 pb #[.string ea, .slice esl.1 esl.2.1 esl.2.2, .int .u8 (sgn : Int)] 96 ∧ plain (.mk ea rows sgn) = .mk ea rows sgn, ?_, ?_⟩
      · rintro w5 ⟨h5, F5, Q5, G5, P5, hpl⟩
        unfold F50_j14
        refine ld3 P5 ?_
        refine res3 G5 rfl fun w' fw _ => ?_
        rw [hpl] at hE
        refine fin _ ⟨ea, esl, sgn⟩ _ _ w5 w' hE h5 F5 ?_ fw
        simp only [RdP]
        exact ⟨trivial, trivial, keep Q5 fw⟩
      · refine lS (P4.cell 0) ?_
        rw [bytes_eq]
        refine brd (fun hbr => ?_) (fun hbr => ⟨h4, F4, Q4, G4, P4, plain_noCol fun e => absurd e hbr⟩)
        replace hbr : ea = Mdl.Br := hbr
        subst hbr
        refine lSl (P4.cell 1) ?_
        have hsub4 : Sub (above w1.heap.size w2) w4 := (above_fm Q4 (Nat.le_refl _) (fun b hb e => by omega)).trans sub_of_only
        obtain ⟨vs, q1, q2', q3⟩ := hrd
        have q2 := hsub4.rd q2'
        have hvl := q3.len
        refine bre (fun hone => ?_) (fun hone => ⟨h4, F4, Q4, G4, P4, plain_noCol fun _ a' r' s' e => by subst e; rw [q1, hvl] at hone; simp at hone⟩)
        rw [q1, hvl] at hone
        obtain ⟨r1, rfl⟩ := len1 hone
        refine lSl (P4.cell 1) ?_
        obtain ⟨v1, rfl⟩ : ∃ v1, vs = [v1] := List.length_eq_one_iff.1 (by simpa using hvl)
        refine q2.idx q1 (by omega) (by rw [q1]; simp) rfl fun b o hc => ?_
        have hc0 := hc 0 _ rfl
        refine lSl hc0 ?_
        obtain ⟨es1, u1, u2, u3⟩ := q3.get 0 (by simp) (by simp)
        replace u1 : v1.2.1 = es1.length := u1
        have u2 : Rd LE w4 v1.1 v1.2.2 es1 := hsub4.rd u2
        replace u3 : RdR (above w1.heap.size w2) r1 es1 := u3
        have hel := u3.len
        refine bre (fun hone1 => ?_) (fun hone1 => ⟨h4, F4, Q4, G4, P4, plain_noCol fun _ a' r' s' e => by
          simp only [List.cons.injEq, and_true] at e
          subst e
          refine absurd ?_ hone1
          show ((v1.2.1 : Nat) : Int) = 1
          rw [u1, hel]; rfl⟩)
        replace hone1 : ((v1.2.1 : Nat) : Int) = 1 := hone1
        rw [u1] at hone1
        obtain ⟨e1, rfl⟩ := len1 hone1
        obtain ⟨p1, rfl⟩ : ∃ p1, r1 = [p1] := List.length_eq_one_iff.1 (by rw [← hel]; rfl)
        refine lSl (P4.cell 1) ?_
        refine q2.idx q1 (by omega) (by rw [q1]; simp) rfl fun b' o' hc' => ?_
        refine lSl (hc' 0 _ rfl) ?_
        refine u2.idx u1 (by omega) (by show (0 : Int) < (v1.2.1 : Int); rw [u1]; simp) rfl fun b2 o2 hc2 => ?_
        have t0 := hc2 0 _ rfl
        have t1 := hc2 1 _ rfl
        have t2 := hc2 2 _ rfl
        refine lS t0 (lSl (by rw [Addr.add_mk]; exact t1) (lI (by rw [Addr.add_mk]; exact t2) ?_))
        obtain ⟨a', rows', s'⟩ := p1
        have hp1 := u3.get 0 (by simp) (by simp)
        obtain ⟨e1a, e1sl, e1s⟩ := e1
        have hp1' := hp1
        simp only [List.getElem_cons_zero, RdP] at hp1
        obtain ⟨rfl, rfl, hp1⟩ := hp1
        -- the inner part, as it is behind
        have inner : ∀ {w5 w' : World}, Fm (· = g) w2 w5 → Fm (· = g2) w5 w' → RdC (above w.heap.size w') rows' e1sl := by
          intro w5 w' k1 k2
          exact RdC.sub (keepS k1 k2) hp1
        refine al3 fun q w5 hb5 hq hgeq => ?_
        have h5 := h4.below hb5
        have F5 := F4.tr hb5
        have Q5 := Q4.tr hb5
        have G5 := G4.keep hb5
        have P5 := P4.keep hb5
        have hqg : ¬ q = g := by have := h4.blk.lt; omega
        have hqg2 : ¬ q = g2 := by have := G4.lt; omega
        have hqp : ¬ q = pb := by have := P4.lt; omega
        rw [plain_sg] at hE ⊢
        refine lI (P5.cell 2) ?_
        refine bre (fun hz => ?_) (fun hz => ?_)
        · have : sgn = 0 := by omega
          rw [if_pos this] at hE
          refine ld3 hq ?_
          refine res3 G5 rfl fun w' fw _ => ?_
          refine fin _ ⟨e1a, e1sl, e1s⟩ _ _ w5 w' hE h5 F5 ?_ fw
          simp only [RdP]
          exact ⟨trivial, trivial, inner Q5 fw⟩
        have hz' : sgn ≠ 0 := by rintro rfl; exact hz rfl
        rw [if_neg hz'] at hE ⊢
        refine lI (hq.cell 2) ?_
        refine bre (fun hz1 => ?_) (fun hz1 => ?_)
        · have : e1s = 0 := by have : (e1s : Int) = 0 := hz1; omega
          rw [if_pos this] at hE
          refine lI (P5.cell 2) ?_
          refine st_blk (g := q) (i := 2) hq (by simp) fun w6 hb6 f6 => ?_
          have hsz3 := F5.size
          have hsz4 := Q5.size
          have F6 := F5.trans' f6 (fun b hb e => by have := F4.size; omega)
          have Q6 := Q5.trans' f6 (fun b hb e => by have := Q4.size; omega)
          refine ld3 hb6 ?_
          refine res3 (f6.blk G5 (Ne.symm hqg2)) rfl fun w' fw _ => ?_
          refine fin _ ⟨e1a, e1sl, sgn⟩ _ _ w6 w' hE (h5.keep f6 (Ne.symm hqg)) F6 ?_ fw
          simp only [RdP]
          exact ⟨trivial, trivial, inner Q6 fw⟩
        · have hz1' : e1s ≠ 0 := by rintro rfl; exact hz1 rfl
          rw [if_neg hz1']
          exact ⟨h5, F5, Q5, G5, P5, rfl⟩
    · refine peek_calls h3 hs fun w4 h4 f4 => ⟨_, rfl, ?_⟩
      have F4 := F3.trans f4
      have Q4 := Q3.trans f4
      have G4 := f4.blk G3 hne
      have P4 := f4.blk hp hpne
      have rest : isSign (UInt8.ofNat (hd (skip l1))) = false → ∃ (sgn : Nat) (l' : List UInt8) (n' : Nat), RAt w4 g s l' n' ∧ Fm (· = g) w w4 ∧ Fm (· = g) w2 w4 ∧ Blk w4 g2 #[.string (ByteArray.mk #[]), .slice none 0 0, .int .u8 0] 96 ∧ Blk w4 pb #[.string ea, .slice esl.1 esl.2.1 esl.2.2, .int .u8 (sgn : Int)] 96 ∧
          Ends R g s w retP (.ok (plain (.mk ea rows sgn), l', n')) := by
        intro hsg
        cases hsk : skip l1 with
        | nil => rw [hsk] at hR h4; exact ⟨es, _, _, h4, F4, Q4, G4, P4, hR⟩
        | cons c r =>
          rw [hsk] at hR h4 hsg
          dsimp only at hR
          rw [if_neg (by simpa [hd] using hsg)] at hR
          exact ⟨es, _, _, h4, F4, Q4, G4, P4, hR⟩
      refine bre (fun h1 => ?ca) (fun k1 => bre (fun h1 => ?cb) (fun k2 => bre (fun h1 => ?cc) (fun k3 => ?cd)))
      case ca => (
        cases hsk : skip l1 with
        | nil => rw [hsk] at h1; exact absurd h1 (by decide)
        | cons c r =>
          rw [hsk] at hR h4 h1
          obtain rfl : c = 63 := (by rw [← UInt8.toNat_inj]; show c.toNat = 63; simp only [hd] at h1; omega)
          dsimp only at hR
          rw [if_pos (by decide)] at hR
          refine began_calls h4 (fun hn w5 h5 f5 => ⟨rfl, ?_⟩) (fun hn at_ w5 f5 => ?_)
          rotate_left
          · rw [if_pos hn] at hR; exact hR _ _ (F4.trans f5)
          rw [if_neg (by omega)] at hR
          refine adv h5 hs fun w6 h6 f6 => ?_
          have P6 := f6.blk (f5.blk P4 hpne) hpne
          refine st_blk (g := pb) (i := 2) P6 (by simp) fun w7 hb7 f7 => ?_
          have G6 := f6.blk (f5.blk G4 hne) hne
          exact ⟨63, r, _, h6.keep f7 (Ne.symm hpne), ((F4.trans f5).trans f6).trans' f7 (fun b hb e => by omega), ((Q4.trans f5).trans f6).trans' f7 (fun b hb e => by omega), f7.blk G6 (Ne.symm hpne2), hb7, hR⟩)
      case cb => (
        cases hsk : skip l1 with
        | nil => rw [hsk] at h1; exact absurd h1 (by decide)
        | cons c r =>
          rw [hsk] at hR h4 h1
          obtain rfl : c = 42 := (by rw [← UInt8.toNat_inj]; show c.toNat = 42; simp only [hd] at h1; omega)
          dsimp only at hR
          rw [if_pos (by decide)] at hR
          refine began_calls h4 (fun hn w5 h5 f5 => ⟨rfl, ?_⟩) (fun hn at_ w5 f5 => ?_)
          rotate_left
          · rw [if_pos hn] at hR; exact hR _ _ (F4.trans f5)
          rw [if_neg (by omega)] at hR
          refine adv h5 hs fun w6 h6 f6 => ?_
          have P6 := f6.blk (f5.blk P4 hpne) hpne
          refine st_blk (g := pb) (i := 2) P6 (by simp) fun w7 hb7 f7 => ?_
          have G6 := f6.blk (f5.blk G4 hne) hne
          exact ⟨42, r, _, h6.keep f7 (Ne.symm hpne), ((F4.trans f5).trans f6).trans' f7 (fun b hb e => by omega), ((Q4.trans f5).trans f6).trans' f7 (fun b hb e => by omega), f7.blk G6 (Ne.symm hpne2), hb7, hR⟩)
      case cc => (
        cases hsk : skip l1 with
        | nil => rw [hsk] at h1; exact absurd h1 (by decide)
        | cons c r =>
          rw [hsk] at hR h4 h1
          obtain rfl : c = 43 := (by rw [← UInt8.toNat_inj]; show c.toNat = 43; simp only [hd] at h1; omega)
          dsimp only at hR
          rw [if_pos (by decide)] at hR
          refine began_calls h4 (fun hn w5 h5 f5 => ⟨rfl, ?_⟩) (fun hn at_ w5 f5 => ?_)
          rotate_left
          · rw [if_pos hn] at hR; exact hR _ _ (F4.trans f5)
          rw [if_neg (by omega)] at hR
          refine adv h5 hs fun w6 h6 f6 => ?_
          have P6 := f6.blk (f5.blk P4 hpne) hpne
          refine st_blk (g := pb) (i := 2) P6 (by simp) fun w7 hb7 f7 => ?_
          have G6 := f6.blk (f5.blk G4 hne) hne
          exact ⟨43, r, _, h6.keep f7 (Ne.symm hpne), ((F4.trans f5).trans f6).trans' f7 (fun b hb e => by omega), ((Q4.trans f5).trans f6).trans' f7 (fun b hb e => by omega), f7.blk G6 (Ne.symm hpne2), hb7, hR⟩)
      case cd =>
        refine rest ?_
        cases hsk : skip l1 with
        | nil => rfl
        | cons c r =>
          rw [hsk] at k1 k2 k3
          have c1 : c ≠ 63 := by rintro rfl; exact k1 rfl
          have c2 : c ≠ 42 := by rintro rfl; exact k2 rfl
          have c3 : c ≠ 43 := by rintro rfl; exact k3 rfl
          simp [isSign, hd, c1, c2, c3]
end
end Go.Proofs.Ytkmoeokfgkmlhaa
