/- ModelBegins comes to true. -/
import Derived.Test.YtkmoeokfgkmlhaaMdNext
import Derived.Test.YtkmoeokfgkmlhaaMdLives
namespace Go.Proofs.Ytkmoeokfgkmlhaa
open Go.RowKit Go.Vc Go.Mdl
set_option linter.unusedVariables false
set_option linter.unusedSimpArgs false
set_option maxRecDepth 100000
def LU8 : Lay UInt8 := ⟨1, fun n => [.int .u8 n.toNat], fun _ => rfl, fun _ => by simp [Value.oneCell'], by decide⟩
theorem dt_test (x : ByteArray) : (x.toList == (ByteArray.mk #[46]).toList) = decide (x = Dt) := bytes_eq x Dt
def hasB (l : Wd) (x : ByteArray) : Bool := l.any fun y => decide (y = x)
theorem hasB_iff {l : Wd} {x : ByteArray} : hasB l x = true ↔ x ∈ l := by simp [hasB]
theorem hasB_snoc (l : Wd) (x y : ByteArray) : hasB (l ++ [y]) x = (hasB l x || decide (y = x)) := by simp [hasB]
theorem hasB_nil (x : ByteArray) : hasB [] x = false := rfl
theorem fol_lt {m : Pl} (ok : PlOk m) : ∀ i j, Fol m.fol i j → j < m.atoms.length := fun i j h => (fol_few ok i).2 j h
section
variable {w w1 : World} {R : Ending → World → Prop}
theorem modelBegins_calls {s other : ByteArray} {ts : List UInt8} {A : Option Addr} {c : Nat} (hn : Rd LU8 w A c ts) (hnl : ts.length ≤ 1048576) (hR : ∀ w', Below w.heap.size w w' → R (.returned (.bool true)) w') :
    Calls Try.prog 4 #[.string s, .slice A ts.length c, .string other] w R := by
  refine ok4 _ _ _ _ _ ?_
  unfold F4
  have lives : ∀ {w2 : World}, Below w.heap.size w w2 → Calls Try.prog 7 #[] w2 (post R fun v3 w3 => ∃ x : Bool, v3 = .bool x ∧ R (.returned (.bool x)) w3) := fun hb =>
    lives_calls fun w' hb' => ⟨true, rfl, hR w' (btr hb hb.size hb')⟩
  refine parse_calls w (fun g1 w1 P1 hp1 hm1 hb1 => ?_) (fun pos e at_ w1 hp1 hb1 => ?_)
  rotate_left
  · have he := parse_ne hp1
    refine ⟨_, _, _, rfl, ?_⟩
    have hx : ((e : Int) != (0 : Int)) = true := by simp; omega
    rw [show (none : Option Addr).isNone = true from rfl, Br_t, hx, Br_t]
    exact lives hb1
  refine ⟨_, _, _, rfl, ?_⟩
  rw [show (some (⟨g1, 0, none⟩ : Addr)).isNone = false from rfl, Br_f]
  obtain ⟨okc, ln1, cc1⟩ := parse_ok hp1
  have ok := placed_ok cc1
  have lv := placed_live okc
  clear hp1 okc ln1 cc1
  generalize placed P1 = m at ok lv hm1
  have hF := fol_lt ok
  have hf : ∀ k ∈ m.first, k < m.atoms.length := ok.first.2
  refine al fun g35 w2 hb2 hg2 hge2 => ?_
  have B2 := btr hb1 hb1.size hb2
  have hm2 := hm1.below hb2
  refine ⟨fun names namesN namesC w' => ∃ nm : Wd, nm.length ≤ ts.length ∧ Own LSt w' w2.heap.size 9 (.slice names namesN namesC) nm ∧ m.beg nm ∧ Below w2.heap.size w2 w', ?_, ?_⟩
  · rintro names namesN namesC w3 ⟨nm, hnm, ho, hbeg, hb3⟩
    unfold F4_j26
    obtain ⟨e1, hr⟩ := ho.rd
    subst e1
    refine match_calls (hm2.below hb3) ok hr fun w4 hb4 => ?_
    refine ⟨(m.mat nm).1, ((m.mat nm).2 : Int), rfl, ?_⟩
    have e2 : (m.mat nm).2 = nm.length := hbeg
    rw [e2, beq_self_eq_true, Br_t]
    exact lives (btr (btr B2 B2.size hb3) (Nat.le_trans B2.size hb3.size) hb4)
  refine ⟨fun names namesN namesC i w' => ∃ (k : Nat) (nm : Wd), i = k ∧ k ≤ ts.length ∧ nm.length = k ∧ Own LSt w' w2.heap.size 9 (.slice names namesN namesC) nm ∧ m.beg nm ∧ Below w2.heap.size w2 w', fun names namesN namesC i w' => ts.length - i.toNat,
    ⟨0, [], rfl, by omega, rfl, Own.bare _ _ _ _ _, beg_nil m, Below.refl _ _⟩, ?_⟩
  rintro names namesN namesC i w3 ⟨k, nm, rfl, hk, hnm, ho, hbeg, hb3⟩
  unfold F4_l6
  refine brd (fun hlt => ?_) (fun hge => ⟨nm, by omega, ho, hbeg, hb3⟩)
  have hk2 : k < ts.length := by omega
  obtain ⟨e1, hr⟩ := ho.rd
  subst e1
  have hs3 : w1.heap.size ≤ w3.heap.size := Nat.le_trans hb2.size hb3.size
  obtain ⟨fact1, fact2, fact3⟩ := beg_facts lv hf hF hbeg
  have hbeg' : (m.run nm).1 = nm.length := hbeg
  -- a copy of the names
  have copy : ∀ {w4 : World} {K : Value → World → Prop}, Below w3.heap.size w3 w4 → (∀ A' c' w6, Below w4.heap.size w4 w6 → Rd LSt w6 A' c' nm → Own LSt w6 w4.heap.size 9 (.slice A' nm.length c') nm → K (.slice A' nm.length c') w6) →
      Al w4 #[] 9 fun g44 w1_3 => Raw Try.prog (Builtin.append_ #[33, 33] 33 #[.slice (some g44) 0 0, .slice names nm.length namesC]) w1_3 K := by
    intro w4 K hb4 hK
    refine al fun g3 w5 hb5 hg3 hge3 => ?_
    have B5 := btr hb4 hb4.size hb5
    refine ap (L := LSt) (xs := []) (ys := nm) (base := w4.heap.size) (.string ByteArray.empty) 16 rfl rfl rfl rfl (Own.bare _ _ _ _ _) (hr.keep B5) hb5.size (by simp; omega) (by simp [maxLen]; omega) fun A1 c1 w6 ho6 hgr => ?_
    have hr6 := ho6.rd
    simp only [List.nil_append, List.length_nil, Nat.zero_add] at hr6 ho6 ⊢
    exact hK A1 c1 w6 (hb5.trans (hgr.below)) hr6.2 ho6
  refine copy (Below.refl _ _) fun A1 c1 w4 hb4 hr4 ho4 => ⟨_, _, _, rfl, ?_⟩
  have m4 := hm2.below (hb3.trans (hb4.mono hb3.size))
  refine next_calls m4 ok hr4 (fun h => by omega) fun _ A2 c2 w5 hb5 hl5 => ?_
  have B5 := btr hb4 hb4.size hb5
  have hne : (m.run nm).2.2 = false → (nxt (m.names (m.run nm).2.1)) ≠ [] := fun h => by
    rcases fact1 with h1 | h1
    · rw [h] at h1; cases h1
    · exact nxt_ne (by unfold Pl.names; simpa using h1)
  have hll : (nxt (m.names (m.run nm).2.1)).length ≤ 128 := by
    refine Nat.le_trans (nxt_len _) ?_
    unfold Pl.names
    rw [List.length_map]
    exact Nat.le_trans (run_few ok nm).len ok.le
  generalize nxt (m.names (m.run nm).2.1) = l at hl5 hne fact2 hll
  refine ⟨_, _, _, _, rfl, ?_⟩
  refine copy B5 fun A3 c3 w6 hb6 hr6 ho6 => ⟨_, _, _, rfl, ?_⟩
  have B6 := btr B5 B5.size hb6
  have m6 := hm2.below (hb3.trans (B6.mono hb3.size))
  refine match_calls m6 ok hr6 fun w7 hb7 => ?_
  have B7 := btr B6 B6.size hb7
  have em : m.mat nm = ((m.run nm).2.2, nm.length) := by unfold Pl.mat; rw [hbeg']; simp
  rw [em]
  have hl7 : Rd LSt w7 A2 c2 l := hl5.keep (btr hb6 hb6.size hb7)
  clear fact1 em
  generalize (m.run nm).2.2 = is at hne
  refine ⟨_, _, rfl, ?_⟩
  refine ⟨fun w' => w' = w7, ?_, ?_⟩
  rotate_left
  · rw [show (is == is) = true from by cases is <;> rfl, Bool.not_true, Br_f, show ((nm.length : Int) != (nm.length : Int)) = false from by simp, Br_f]
    cases is with
    | true => exact rfl
    | false =>
      rw [Bool.not_false, Br_t]
      have := hne rfl
      have hpos : 0 < l.length := List.length_pos_iff.2 this
      rw [show (((l.length : Nat) : Int) == (0 : Int)) = false from by simp; omega, Br_f]
  rintro w7 rfl
  unfold F4_j12
  have h37 := hb3.trans (B7.mono hb3.size)
  have m7 := hm2.below h37
  have hr7 := hr.keep B7
  have ho7 := ho.keep B7
  clear copy hb7 hb6 B6 ho6 hr6 m6 hl5 hb5 m4 hb4 ho4 hr4 hne
  refine ⟨fun any is k' w' => ∃ j : Nat, k' = j ∧ j ≤ l.length ∧ any = hasB (l.take j) Dt ∧ is = hasB (l.take j) other ∧ w' = w7, fun any is k' w' => l.length - k'.toNat, ⟨0, rfl, by omega, rfl, rfl, rfl⟩, ?_⟩
  rintro any is' k' w8 ⟨j, rfl, hj, rfl, rfl, rfl⟩
  unfold F4_l14
  refine brd (fun hlt2 => ?_) (fun hge2 => ?_)
  · have hj2 : j < l.length := by omega
    have htk : ∀ x, hasB (l.take (j + 1)) x = (hasB (l.take j) x || decide (l[j] = x)) := by
      intro x
      have e : l.take (j + 1) = l.take j ++ [l[j]] := by rw [List.take_add_one, List.getElem?_eq_getElem hj2, Option.toList_some]
      rw [e, hasB_snoc]
    refine ⟨fun any2 is2 w' => any2 = hasB (l.take (j + 1)) Dt ∧ is2 = hasB (l.take (j + 1)) other ∧ w' = w8, ?_, ?_⟩
    · rintro any2 is2 w9 ⟨rfl, rfl, rfl⟩
      unfold F4_j15
      exact ⟨inR_i64 (by omega) (by omega), ⟨j + 1, by simp, by omega, rfl, rfl, rfl⟩, by dsimp only; omega⟩
    refine ⟨fun any2 w' => any2 = hasB (l.take (j + 1)) Dt ∧ w' = w8, ?_, ?_⟩
    · rintro any2 w9 ⟨rfl, rfl⟩
      unfold F4_j17
      have ht := htk other
      cases hi : hasB (l.take j) other with
      | true => rw [hi] at ht; rw [Br_t]; exact ⟨rfl, by rw [ht]; rfl, rfl⟩
      | false =>
        rw [hi, Bool.false_or] at ht
        rw [Br_f]
        refine hl7.idx rfl (by omega) (by omega) rfl fun b o hc => ?_
        simp only [Int.toNat_natCast] at hc
        refine lS (hc 0 _ rfl) ⟨rfl, ?_, rfl⟩
        rw [ht, bytes_eq]
    · have ht := htk Dt
      cases hi : hasB (l.take j) Dt with
      | true => rw [hi] at ht; rw [Br_t]; exact ⟨by rw [ht]; rfl, rfl⟩
      | false =>
        rw [hi, Bool.false_or] at ht
        rw [Br_f]
        refine hl7.idx rfl (by omega) (by omega) rfl fun b o hc => ?_
        simp only [Int.toNat_natCast] at hc
        refine lS (hc 0 _ rfl) ⟨?_, rfl⟩
        rw [ht, dt_test]
  obtain rfl : j = l.length := by omega
  rw [List.take_length]
  refine al fun g3 w9 hb9 hg3 hge3 => ?_
  refine ap (L := LSt) (xs := []) (ys := nm) (base := w8.heap.size) (.string ByteArray.empty) 16 rfl rfl rfl rfl (Own.bare _ _ _ _ _) (hr7.keep hb9) hb9.size (by simp; omega) (by simp [maxLen]; omega) fun A4 c4 w10 ho10 hgr10 => ⟨_, _, _, rfl, ?_⟩
  simp only [List.nil_append, List.length_nil, Nat.zero_add] at ho10 hgr10 ⊢
  have B10 := hb9.trans hgr10.below
  refine al fun g4 w11 hb11 hg4 hge4 => ?_
  have hn1 : Rd LSt w11 (some ⟨g4, 0, none⟩) 1 [other] := (Own.lit' (L := LSt) (xs := [other]) (base := 0) hg4 (Nat.zero_le _) rfl (by simp [maxLen])).rd.2
  have B11 := btr B10 B10.size hb11
  refine ap (L := LSt) (xs := nm) (ys := [other]) (base := w8.heap.size) (.string ByteArray.empty) 16 rfl rfl rfl rfl (ho10.keep hb11) hn1 B11.size (by simp; omega) (by simp [maxLen]; omega) fun A5 c5 w12 ho12 hgr12 => ⟨_, _, _, rfl, ?_⟩
  have B12 := B11.trans hgr12.below
  have hr12 := ho12.rd.2
  have el : nm.length + [other].length = (nm ++ [other]).length := by simp
  rw [el]
  refine match_calls (m7.below B12) ok hr12 fun w13 hb13 => ⟨(m.mat (nm ++ [other])).1, ((m.mat (nm ++ [other])).2 : Int), rfl, ?_⟩
  have B13 := btr B12 B12.size hb13
  have e13 : (m.mat (nm ++ [other])).2 = (m.run (nm ++ [other])).1 := rfl
  rw [e13]
  refine ⟨fun w' => w' = w13, ?_, inR_i64 (by omega) (by omega), ?_⟩
  rotate_left
  · have ff := fact2 other
    have tst : (((m.run (nm ++ [other])).1 : Int) == ((nm.length : Int) + 1)) = decide ((m.run (nm ++ [other])).1 = nm.length + 1) := by
      rw [Bool.eq_iff_iff]; simp; omega
    rw [tst, dt_test]
    have hc1 : ∀ x, (hasB (l) x = true ↔ x ∈ l) := fun x => hasB_iff
    cases h1 : hasB (l) Dt with
    | true =>
      have := (hc1 Dt).1 h1
      rw [decide_eq_true (ff.2 (.inl this)), Br_t]; exact rfl
    | false =>
      have h1' : Dt ∉ l := fun h => by rw [(hc1 Dt).2 h] at h1; cases h1
      cases h2 : hasB (l) other with
      | true =>
        have h2' := (hc1 other).1 h2
        rw [Br_f, Br_t]
        by_cases hd : other = Dt
        · subst hd; exact absurd h2' h1'
        · rw [decide_eq_true (ff.2 (.inr ⟨h2', hd⟩)), decide_eq_false hd]; exact rfl
      | false =>
        have h2' : other ∉ l := fun h => by rw [(hc1 other).2 h] at h2; cases h2
        have : ¬ (m.run (nm ++ [other])).1 = nm.length + 1 := fun h => by
          rcases ff.1 h with h | h
          · exact h1' h
          · exact h2' h.1
        rw [Br_f, Br_f, decide_eq_false this]; exact rfl
  rintro w13 rfl
  unfold F4_j21
  have hl13 := hl7.keep B13
  have ho13 := ho7.keep B13
  have h313 := hb3.trans ((btr B7 B7.size B13).mono hb3.size)
  by_cases hz : l.length = 0
  · rw [show (((l.length : Nat) : Int) == (0 : Int)) = true from by simp [hz], Br_t]
    exact ⟨nm, by omega, ho13, hbeg, h313⟩
  rw [show (((l.length : Nat) : Int) == (0 : Int)) = false from beq_eq_false_iff_ne.2 (by omega), Br_f]
  have hn13 := hn.keep (btr B2 B2.size h313)
  refine hn13.idx rfl (by omega) (by omega) rfl fun b o hc => ?_
  simp only [Int.toNat_natCast] at hc
  refine lI (hc 0 _ rfl) ?_
  generalize ts[k] = t
  have ht := t.toNat_lt
  refine ⟨inR_i64 (by omega) (by omega), by omega, ?_⟩
  have htm : ((t.toNat : Int).tmod (l.length : Int)) = ((t.toNat % l.length : Nat) : Int) := by
    rw [Int.tmod_eq_emod_of_nonneg (by omega)]; rfl
  rw [htm]
  have hlt3 : t.toNat % l.length < l.length := Nat.mod_lt _ (by omega)
  refine hl13.idx rfl (by omega) (by omega) rfl fun b o hc => ?_
  simp only [Int.toNat_natCast] at hc
  refine lS (hc 0 _ rfl) ?_
  have hmem : l[t.toNat % l.length] ∈ l := List.getElem_mem hlt3
  generalize l[t.toNat % l.length] = x at hmem
  refine ⟨fun x' w' => w' = w13 ∧ m.beg (nm ++ [x']), ?_, ?_⟩
  · rintro x' w14 ⟨rfl, hbx⟩
    unfold F4_j25
    refine al fun g5 w15 hb15 hg5 hge5 => ?_
    have hn5 : Rd LSt w15 (some ⟨g5, 0, none⟩) 1 [x'] := (Own.lit' (L := LSt) (xs := [x']) (base := 0) hg5 (Nat.zero_le _) rfl (by simp [maxLen])).rd.2
    have h315 := h313.trans (hb15.mono h313.size)
    refine ap (L := LSt) (xs := nm) (ys := [x']) (base := w2.heap.size) (.string ByteArray.empty) 16 rfl rfl rfl rfl (ho13.keep hb15) hn5 h315.size (by simp; omega) (by simp [maxLen]; omega) fun A6 c6 w16 ho16 hgr16 => ⟨_, _, _, rfl, inR_i64 (by omega) (by omega), ?_, by omega⟩
    refine ⟨k + 1, nm ++ [x'], by simp, by omega, by simp [hnm], by simpa using ho16, hbx, h315.trans hgr16.below⟩
  · rw [dt_test]
    by_cases hd : x = Dt
    · subst hd
      rw [decide_eq_true rfl, Br_t]
      exact ⟨rfl, fact3 other ((fact2 other).2 (.inl hmem))⟩
    · rw [decide_eq_false hd, Br_f]
      exact ⟨rfl, fact3 x ((fact2 x).2 (.inr ⟨hmem, hd⟩))⟩
end
end Go.Proofs.Ytkmoeokfgkmlhaa
