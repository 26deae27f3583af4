/- Joins: what is wrong with two lists. -/
import Derived.Test.YtaanlildniiijaaSpCross
namespace Go.Proofs.Ytaanlildniiijaa
open Go.RowKit Go.Vc
set_option maxRecDepth 100000
set_option linter.unusedSimpArgs false
def fitsF (a d : List Pl) : Int :=
  if 8192 < a.length then 2 else if 8192 < d.length then 2 else if oneF none a ≠ 0 then oneF none a else if oneF none d ≠ 0 then oneF none d else if crossF [] (mergeF a d) = true then 111 else 0
theorem fits_calls (a d : List Pl) (A : Option Addr) (aC : Nat) (D : Option Addr) (dC : Nat) {w : World} (ha : Rd LPl w A aC a) (hd : Rd LPl w D dC d) {R : Ending → World → Prop}
    (h : ∀ w', Below w.heap.size w w' → R (.returned (.int .i64 (fitsF a d))) w') : Calls Try.prog 59 #[.slice A a.length aC, .slice D d.length dC] w R := by
  refine ok59 A a.length aC D d.length dC ?_
  unfold F59
  refine ⟨fun w1 => w1 = w ∧ a.length ≤ 8192 ∧ d.length ≤ 8192, ?_, ?_⟩
  · rintro w1 ⟨rfl, la, ld⟩
    unfold F59_j3
    unfold fitsF at h
    rw [if_neg (by omega), if_neg (by omega)] at h
    refine oneP_calls a A aC ha la fun w2 hb2 => ⟨_, rfl, ?_⟩
    refine brn (fun h1 => by rw [if_pos h1] at h; exact h w2 hb2) (fun h1 => ?_)
    rw [if_neg (by simpa using h1)] at h
    refine oneP_calls d D dC (hd.keep hb2) ld fun w3 hb3 => ⟨_, rfl, ?_⟩
    have B3 := btr hb2 hb2.size hb3
    refine brn (fun h1 => by rw [if_pos h1] at h; exact h w3 B3) (fun h1 => ?_)
    rw [if_neg (by simpa using h1)] at h
    refine merged_calls a d A aC D dC (ha.keep B3) (hd.keep B3) la ld fun M n c w4 hb4 ho => ⟨_, _, _, rfl, ?_⟩
    have B4 := btr B3 B3.size hb4
    obtain ⟨rfl, hr⟩ := ho.rd
    refine crossed_calls _ M c hr (by rw [mergeF_len]; omega) fun w5 hb5 => ⟨_, rfl, ?_⟩
    have B5 := btr B4 B4.size hb5
    refine br (fun hx => ?_) (fun hx => ?_)
    · rw [if_pos hx] at h; exact h w5 B5
    · rw [if_neg (by rw [hx]; decide)] at h; exact h w5 B5
  · unfold fitsF at h
    refine brd (fun h1 => by rw [if_pos (by omega)] at h; exact h w (Below.refl _ _)) (fun h1 => brd (fun h2 => ?_) (fun h2 => ⟨rfl, by omega, by omega⟩))
    rw [if_neg (by omega), if_pos (by omega)] at h
    exact h w (Below.refl _ _)
theorem fitsR_calls (a d : List Pl) (A : Option Addr) (aC : Nat) (D : Option Addr) (dC : Nat) {w : World} (ha : Rd LPl w A aC a) (hd : Rd LPl w D dC d) {R : Ending → World → Prop}
    (h : ∀ w', Below w.heap.size w w' → R (.returned (.int .i64 (fitsF a d))) w') : Calls Try.prog 36 #[.slice A a.length aC, .slice D d.length dC] w R := by
  refine ok36 A a.length aC D d.length dC ?_
  unfold F36
  refine ⟨fun w1 => w1 = w ∧ a.length ≤ 8192 ∧ d.length ≤ 8192, ?_, ?_⟩
  rotate_left
  · unfold fitsF at h
    refine brd (fun h1 => by rw [if_pos (by omega)] at h; exact h w (Below.refl _ _)) (fun h1 => brd (fun h2 => ?_) (fun h2 => ⟨rfl, by omega, by omega⟩))
    rw [if_neg (by omega), if_pos (by omega)] at h
    exact h w (Below.refl _ _)
  rintro w1 ⟨rfl, la, ld⟩
  unfold F36_j3
  unfold fitsF at h
  rw [if_neg (by omega), if_neg (by omega)] at h
  refine oneR_calls a A aC ha la fun w2 hb2 => ⟨_, rfl, ?_⟩
  refine brn (fun h1 => by rw [if_pos h1] at h; exact h w2 hb2) (fun h1 => ?_)
  rw [if_neg (by simpa using h1)] at h
  refine oneR_calls d D dC (hd.keep hb2) ld fun w3 hb3 => ⟨_, rfl, ?_⟩
  have B3 := btr hb2 hb2.size hb3
  refine brn (fun h1 => by rw [if_pos h1] at h; exact h w3 B3) (fun h1 => ?_)
  rw [if_neg (by simpa using h1)] at h
  refine both_calls a d A aC D dC (ha.keep B3) (hd.keep B3) la ld fun M n c w4 hb4 ho => ⟨_, _, _, rfl, ?_⟩
  have B4 := btr B3 B3.size hb4
  obtain ⟨rfl, hl⟩ := ho.rd
  have hz : (mergeF a d).length ≤ 16384 := by rw [mergeF_len]; omega
  clear ho
  generalize mergeF a d = l at h hl hz
  refine al fun g0 w5 hb5 _ _ => ?_
  have B5 := btr B4 B4.size hb5
  replace hl := hl.keep hb5
  refine ⟨fun O n oc x w1' => ∃ (k : Nat) (st : List Sp), x = k ∧ k ≤ l.length ∧ st.length ≤ k ∧ Below w5.heap.size w5 w1' ∧ Own LSp w1' w5.heap.size 29 (.slice O n oc) st.reverse ∧ crossF st (l.drop k) = crossF [] l, fun O n oc x w1 => l.length - x.toNat, ⟨0, [], rfl, by omega, by simp, Below.refl _ _, Own.bare _ _ _ _ _, by simp⟩, ?_⟩
  rintro O n oc x w1' ⟨k, st, rfl, hk, hst, hb, own, hc⟩
  unfold F36_l11
  refine brd (fun hlt => ?_) (fun hge => ?_)
  · have hk2 : k < l.length := by omega
    rw [List.drop_eq_getElem_cons hk2] at hc
    refine ⟨fun O n oc w2 => ∃ st : List Sp, st.length ≤ k + 1 ∧ Below w5.heap.size w5 w2 ∧ Own LSp w2 w5.heap.size 29 (.slice O n oc) st.reverse ∧ crossF st (l.drop (k + 1)) = crossF [] l, ?_, ?_⟩
    · rintro O n oc w2 ⟨st, hst, hb, own, hc⟩
      unfold F36_j12
      exact ⟨inR_i64 (by omega) (by omega), ⟨k + 1, st, by simp, by omega, hst, hb, own, hc⟩, by dsimp only; omega⟩
    refine (hl.keep hb).sp rfl rfl hk2 fun b o c0 c1 c2 => ?_
    simp only [c0, c1, c2, Addr.add_mk, List.getElem?_toArray, List.getElem?_cons_zero, List.getElem?_cons_succ, LdI_some, LdB_some, LdStr_some, LdP_some, LdSl_some, LdM_some, Nat.zero_add, Br_t, Br_f]
    generalize l[k] = s at hc
    refine al3 fun g w2 hb2 hg hge => ?_
    refine ⟨fun O n oc w3 => ∃ st : List Sp, st.length ≤ k ∧ Below w5.heap.size w5 w3 ∧ Blk w3 g #[.int .u64 s.b, .int .u64 s.e, .int .i64 s.l] 29 ∧ Own LSp w3 w5.heap.size 29 (.slice O n oc) st.reverse ∧ (∀ t u, st = t :: u → ¬ t.e < s.b) ∧ crossF st (s :: l.drop (k + 1)) = crossF [] l, ?_, ?_⟩
    · rintro O n oc w3 ⟨st, hst, hb3, hg3, own3, htop, hc3⟩
      unfold F36_j16
      refine ⟨fun w4 => Below w5.heap.size w5 w4 ∧ Blk w4 g #[.int .u64 s.b, .int .u64 s.e, .int .i64 s.l] 29 ∧ Own LSp w4 w5.heap.size 29 (.slice O n oc) st.reverse ∧ crossF (s :: st) (l.drop (k + 1)) = crossF [] l, ?_, ?_⟩
      · rintro w4 ⟨hb4, hg4, own4, hc4⟩
        unfold F36_j23
        simp only [hg4.cell, Addr.add_mk, List.getElem?_toArray, List.getElem?_cons_zero, List.getElem?_cons_succ, LdI_some, LdB_some, LdStr_some, LdP_some, LdSl_some, LdM_some, Nat.zero_add, Br_t, Br_f]
        refine ap1 (L := LSp) (x := s) (.agg #[.int .u64 0, .int .u64 0, .int .i64 0]) 24 rfl rfl rfl rfl own4 hb4.size (by simp; omega) (by simp [maxLen]; omega) fun A' c' w5 ho hgr => ?_
        refine ⟨A', _, c', rfl, s :: st, by simp; omega, hb4.trans hgr.below, by rw [List.reverse_cons]; exact ho, hc4⟩
      · have hn := own3.rd.1
        rw [List.length_reverse] at hn
        refine brd (fun hpos => ?_) (fun hneg => ?_)
        · obtain _ | ⟨t, u⟩ := st
          · simp at hn; omega
          refine ⟨inR_i64 (by omega) (by omega), ?_⟩
          refine own3.rd.2.topSp (by simpa using hn) fun b o c0 c1 c2 => ?_
          simp only [c0, c1, c2, Addr.add_mk, List.getElem?_toArray, List.getElem?_cons_zero, List.getElem?_cons_succ, LdI_some, LdB_some, LdStr_some, LdP_some, LdSl_some, LdM_some, Nat.zero_add, Br_t, Br_f]
          refine al3 fun g2 w4 hb4 hg4 _ => ?_
          have hg4' := hg3.keep hb4
          have own4 := own3.keep hb4
          have B4 := btr hb3 hb3.size hb4
          simp only [hg4.cell, hg4'.cell, Addr.add_mk, List.getElem?_toArray, List.getElem?_cons_zero, List.getElem?_cons_succ, LdI_some, LdB_some, LdStr_some, LdP_some, LdSl_some, LdM_some, Nat.zero_add, Br_t, Br_f]
          rw [crossF_cons (htop t u rfl)] at hc3
          refine selfR_calls s t fun w6 hb6 => ⟨_, rfl, ?_⟩
          have hg6 := hg4'.keep hb6
          have hg6' := hg4.keep hb6
          have own6 := own4.keep hb6
          have B6 := btr B4 B4.size hb6
          simp only [hg6.cell, hg6'.cell, Addr.add_mk, List.getElem?_toArray, List.getElem?_cons_zero, List.getElem?_cons_succ, LdI_some, LdB_some, LdStr_some, LdP_some, LdSl_some, LdM_some, Nat.zero_add, Br_t, Br_f]
          refine br (fun hs => ?_) (fun hs => ?_)
          · refine brn (fun hl => ?_) (fun hl => ?_)
            · rw [if_neg (by rintro rfl; exact hl rfl), if_neg] at hc3
              · rw [← hc3] at h
                exact h w6 (btr B5 B5.size B6)
              · simp [selfB, ancB] at hs ⊢; omega
            · rw [if_pos] at hc3
              · exact ⟨t :: u, by omega, B6, own6, hc3⟩
              · cases s; cases t; simp [selfB] at hs hl ⊢; omega
          · rw [if_neg (by rintro rfl; simp [selfB] at hs)] at hc3
            refine ancR_calls t s fun w7 hb7 => ⟨_, rfl, ?_⟩
            rw [brnot]
            refine br (fun ha => ?_) (fun ha => ?_)
            · rw [if_pos ha] at hc3
              exact ⟨btr B6 B6.size hb7, hg6.keep hb7, own6.keep hb7, hc3⟩
            · rw [if_neg (by rw [ha]; decide)] at hc3
              rw [← hc3] at h
              exact h w7 (btr B5 B5.size (btr B6 B6.size hb7))
        · obtain rfl : st = [] := List.eq_nil_of_length_eq_zero (by omega)
          rw [crossF_nil] at hc3
          exact ⟨hb3, hg3, own3, hc3⟩
    · refine ⟨fun O n oc w3 => ∃ st : List Sp, st.length ≤ k ∧ Below w5.heap.size w5 w3 ∧ Blk w3 g #[.int .u64 s.b, .int .u64 s.e, .int .i64 s.l] 29 ∧ Own LSp w3 w5.heap.size 29 (.slice O n oc) st.reverse ∧ crossF st (s :: l.drop (k + 1)) = crossF [] l, fun O n oc w3 => n, ⟨st, hst, btr hb hb.size hb2, hg, own.keep hb2, hc⟩, ?_⟩
      rintro O n oc w3 ⟨st, hst, hb3, hg3, own3, hc3⟩
      unfold F36_l14
      have hn := own3.rd.1
      rw [List.length_reverse] at hn
      refine ⟨fun w4 => Below w5.heap.size w5 w4 ∧ Blk w4 g #[.int .u64 s.b, .int .u64 s.e, .int .i64 s.l] 29 ∧ ∃ t u, st = t :: u ∧ t.e < s.b ∧ Own LSp w4 w5.heap.size 29 (.slice O n oc) st.reverse, ?_, ?_⟩
      · rintro w4 ⟨hb4, hg4, t, u, rfl, hlt2, own4⟩
        unfold F36_j15
        simp only [List.length_cons] at hn hst
        refine ⟨inR_i64 (by omega) (by omega), by omega, by omega, by have := own4.cap; omega, ⟨u, by omega, hb4, hg4, own4.pop' (by omega), ?_⟩, by dsimp only; omega⟩
        rw [← hc3, crossF_pop hlt2]
      · refine dr fun w4 hb4 _ => ?_
        have own4 := own3.keep hb4
        have hg4 := hg3.keep hb4
        have B4 := btr hb3 hb3.size hb4
        refine brd (fun hpos => ?_) (fun hneg => ?_)
        · obtain _ | ⟨t, u⟩ := st
          · simp at hn; omega
          refine ⟨inR_i64 (by omega) (by omega), ?_⟩
          refine own4.rd.2.topSp (by simpa using hn) fun b o c0 c1 c2 => ?_
          simp only [c1, hg4.cell, Addr.add_mk, List.getElem?_toArray, List.getElem?_cons_zero, List.getElem?_cons_succ, LdI_some, LdB_some, LdStr_some, LdP_some, LdSl_some, LdM_some, Nat.zero_add, Br_t, Br_f]
          refine brd (fun hlt2 => ⟨B4, hg4, t, u, rfl, hlt2, own4⟩) (fun hlt2 => ⟨t :: u, hst, B4, hg4, own4, ?_, hc3⟩)
          rintro _ _ ⟨⟩
          exact hlt2
        · obtain rfl : st = [] := List.eq_nil_of_length_eq_zero (by omega)
          exact ⟨[], hst, B4, hg4, own4, by simp, hc3⟩
  · rw [List.drop_of_length_le (by omega), crossF] at hc
    rw [← hc] at h
    exact h w1' (btr B5 B5.size hb)
end Go.Proofs.Ytaanlildniiijaa
