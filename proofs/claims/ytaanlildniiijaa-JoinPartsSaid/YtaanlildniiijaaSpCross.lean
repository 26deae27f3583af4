/- Joins: whether spans cross. -/
import Derived.Test.YtaanlildniiijaaSpJoin
namespace Go.Proofs.Ytaanlildniiijaa
open Go.RowKit Go.Vc
set_option maxRecDepth 100000
set_option linter.unusedSimpArgs false
/-- One span more in a merge, of the document's. -/
theorem mtakeR {w0 w : World} {A : Option Addr} {aN aC : Nat} {x : Pl} {r : List Pl} {out : Option Addr} {outN outC : Nat} {pre : List Sp} (hr : Rd LPl w0 A aC (x :: r)) (hn : aN = r.length + 1) (hb : Below w0.heap.size w0 w) (own : Own LSp w w0.heap.size 29 (.slice out outN outC) pre) (hp : pre.length ≤ 16384)
    {K : Option Addr → Nat → Nat → World → Prop}
    (hK : ∀ A' n' c' w1, Below w0.heap.size w0 w1 → Own LSp w1 w0.heap.size 29 (.slice A' n' c') (pre ++ [x.s]) → Rd LPl w0 (SlA A aC 1 4) (aC - 1) r → K A' n' c' w1) :
    IdxA A aN (0 : Int) 4 fun q38 =>
     LdI .u64 (w.cell? (q38.add 1)) fun x40_0 =>
     LdI .u64 (w.cell? ((q38.add 1).add 1)) fun x40_1 =>
     LdI .i64 (w.cell? ((q38.add 1).add 2)) fun x40_2 =>
     Al w #[(.int .u64 x40_0), (.int .u64 x40_1), (.int .i64 x40_2)] 29 fun g41 w1_3 =>
     Raw Try.prog (Builtin.append_ #[22, 22] 22 #[(.slice out outN outC), (.slice (some g41) 1 1)]) w1_3 fun v w1_4 =>
     ∃ (x42 : Option Addr) (x42N : Nat) (x42C : Nat), v = (.slice x42 x42N x42C) ∧
     SlB (1 : Int) ((aN : Nat) : Int) ((aC : Nat) : Int) (K x42 x42N x42C w1_4) := by
  subst hn
  refine (hr.keep hb).pl (by simp) (k := 0) rfl (by simp) fun b o c0 c1 c2 c3 => ?_
  simp only [c1, c2, c3, Addr.add_mk, List.getElem?_toArray, List.getElem?_cons_zero, List.getElem?_cons_succ, LdI_some, LdB_some, LdStr_some, LdP_some, LdSl_some, LdM_some, Nat.zero_add, Br_t, Br_f, List.getElem_cons_zero]
  refine ap1 (L := LSp) (x := x.s) (.agg #[.int .u64 0, .int .u64 0, .int .i64 0]) 24 rfl rfl rfl rfl own hb.size (by omega) (by simp [maxLen]; omega) fun A' c' w1 ho hg => ?_
  refine ⟨A', _, c', rfl, by omega, by omega, by have := hr.1; simp at this; omega, hK A' _ c' w1 (hb.trans hg.below) ho (hr.slice (k := 1) (by simp))⟩
theorem both_calls (a d : List Pl) (A : Option Addr) (aC : Nat) (D : Option Addr) (dC : Nat) {w : World} (ha : Rd LPl w A aC a) (hd : Rd LPl w D dC d) (la : a.length ≤ 8192) (ld : d.length ≤ 8192) {R : Ending → World → Prop}
    (h : ∀ M n c w', Below w.heap.size w w' → Own LSp w' w.heap.size 29 (.slice M n c) (mergeF a d) → R (.returned (.slice M n c)) w') : Calls Try.prog 66 #[.slice A a.length aC, .slice D d.length dC] w R := by
  refine ok66 A a.length aC D d.length dC ?_
  unfold F66
  refine al fun g w1 hb hg hge => ⟨fun L n c w' => Below w.heap.size w w' ∧ Own LSp w' w.heap.size 29 (.slice L n c) (mergeF a d), fun L n c w' hj => h L n c w' hj.1 hj.2, ?_⟩
  refine ⟨fun A2 aN2 aC2 D2 dN2 dC2 out outN outC w2 => ∃ p q pre, MS w a d A2 aN2 aC2 D2 dN2 dC2 (.slice out outN outC) w2 p q pre, fun A2 aN2 aC2 D2 dN2 dC2 out outN outC w2 => aN2 + dN2, ⟨a, d, [], hb, ha, hd, rfl, rfl, Own.bare _ _ _ _ _, by simp⟩, ?_⟩
  rintro A2 aN2 aC2 D2 dN2 dC2 out outN outC w2 ⟨p, q, pre, H⟩
  obtain ⟨B2, ra, rd, rfl, rfl, own, heq⟩ := H
  have hlen : pre.length + (p.length + q.length) = a.length + d.length := by
    have := congrArg List.length heq
    rwa [List.length_append, mergeF_len, mergeF_len] at this
  unfold F66_l2
  refine ⟨fun w3 => 0 < p.length + q.length ∧ Below w.heap.size w w3 ∧ Own LSp w3 w.heap.size 29 (.slice out outN outC) pre, ?_, ?_⟩
  · rintro w3 ⟨hlt, B3, own3⟩
    unfold F66_j3
    refine dr fun w3' hb3 _ => ?_
    replace own3 := own3.keep hb3
    replace B3 := btr B3 B3.size hb3
    refine bre (fun h0 => ?_) (fun h0 => ?_)
    · obtain rfl : q = [] := List.eq_nil_of_length_eq_zero (by omega)
      obtain _ | ⟨x, r⟩ := p
      · simp at hlt
      refine mtakeR ra rfl B3 own3 (by omega) fun A' n' c' w4 hb4 ho hr => ?_
      refine ⟨⟨r, [], pre ++ [x.s], hb4, hr, rd, by simp, rfl, ho, ?_⟩, by simp⟩
      rw [← heq, mergeF_l (by simp)]; simp
    · obtain _ | ⟨y, s⟩ := q
      · simp at h0
      refine brd (fun hp => ?_) (fun hp => ?_)
      · obtain _ | ⟨x, r⟩ := p
        · simp at hp
        refine (ra.keep B3).pl (by simp) (k := 0) rfl (by simp) fun b o c0 c1 c2 c3 => ?_
        simp only [c1, Addr.add_mk, List.getElem?_toArray, List.getElem?_cons_zero, List.getElem?_cons_succ, LdI_some, LdB_some, LdStr_some, LdP_some, LdSl_some, LdM_some, Nat.zero_add, Br_t, Br_f]
        refine (rd.keep B3).pl (by simp) (k := 0) rfl (by simp) fun b o c0 c1 c2 c3 => ?_
        simp only [c1, Addr.add_mk, List.getElem?_toArray, List.getElem?_cons_zero, List.getElem?_cons_succ, LdI_some, LdB_some, LdStr_some, LdP_some, LdSl_some, LdM_some, Nat.zero_add, Br_t, Br_f, List.getElem_cons_zero]
        refine brd (fun hle => ?_) (fun hle => ?_)
        · refine mtakeR ra rfl B3 own3 (by omega) fun A' n' c' w4 hb4 ho hr => ?_
          refine ⟨⟨r, y :: s, pre ++ [x.s], hb4, hr, rd, by simp, rfl, ho, ?_⟩, by simp⟩
          rw [← heq, mergeF_l (by rintro _ _ ⟨⟩; exact hle)]; simp
        · refine mtakeR rd rfl B3 own3 (by omega) fun A' n' c' w4 hb4 ho hr => ?_
          refine ⟨⟨x :: r, s, pre ++ [y.s], hb4, ra, hr, rfl, by simp, ho, ?_⟩, by simp⟩
          rw [← heq, mergeF_r (by rintro _ _ ⟨⟩; exact hle)]; simp
      · obtain rfl : p = [] := List.eq_nil_of_length_eq_zero (by omega)
        refine mtakeR rd rfl B3 own3 (by omega) fun A' n' c' w4 hb4 ho hr => ?_
        refine ⟨⟨[], s, pre ++ [y.s], hb4, ra, hr, rfl, by simp, ho, ?_⟩, by simp⟩
        rw [← heq, mergeF_r (by simp)]; simp
  · refine brd (fun hlt => ⟨by omega, B2, own⟩) (fun hge => brd (fun hlt => ⟨by omega, B2, own⟩) (fun hge2 => ?_))
    have e1 : p = [] := List.eq_nil_of_length_eq_zero (by omega)
    have e2 : q = [] := List.eq_nil_of_length_eq_zero (by omega)
    subst e1 e2
    rw [mergeF_nil] at heq
    simp only [List.map_nil, List.append_nil] at heq
    rw [heq] at own
    exact ⟨B2, own⟩
/-- Whether spans cross, or are one with two levels; the open ones, the last one first. -/
def crossF : List Sp → List Sp → Bool
  | _, [] => false
  | st, s :: r => match st.dropWhile (fun t => decide (t.e < s.b)) with
    | [] => crossF [s] r
    | t :: u => if t = s then crossF (t :: u) r else if ancB t s then crossF (s :: t :: u) r else true
theorem crossF_pop {t s : Sp} {u r : List Sp} (h : t.e < s.b) : crossF (t :: u) (s :: r) = crossF u (s :: r) := by
  rw [crossF, crossF, List.dropWhile_cons_of_pos (by simpa using h)]
theorem crossF_nil {s : Sp} {r : List Sp} : crossF [] (s :: r) = crossF [s] r := by rw [crossF]; rfl
theorem crossF_cons {t s : Sp} {u r : List Sp} (h : ¬ t.e < s.b) : crossF (t :: u) (s :: r) = if t = s then crossF (t :: u) r else if ancB t s then crossF (s :: t :: u) r else true := by
  rw [crossF, List.dropWhile_cons_of_neg (by simpa using h)]
/-- The last one of a stack. -/
theorem Rd.topSp {w : World} {A : Option Addr} {n c : Nat} {t : Sp} {u : List Sp} (h : Rd LSp w A c (t :: u).reverse) (hn : n = u.length + 1) {K : Addr → Prop}
    (hK : ∀ b o, w.cell? ⟨b, o, none⟩ = some (.int .u64 t.b) → w.cell? ⟨b, o + 1, none⟩ = some (.int .u64 t.e) → w.cell? ⟨b, o + 2, none⟩ = some (.int .i64 t.l) → K ⟨b, o, none⟩) : IdxA A n ((n : Int) - 1) 3 K := by
  subst hn
  refine h.sp (by simp) (k := u.length) (by omega) (by simp) fun b o c0 c1 c2 => ?_
  have e : (t :: u).reverse[u.length]'(by simp) = t := by simp
  rw [e] at c0 c1 c2
  exact hK b o c0 c1 c2
theorem Own.pop' {α : Type} {L : Lay α} {w : World} {base : Nat} {e : TypeId} {A : Option Addr} {n c : Nat} {x : α} {xs : List α} (h : Own L w base e (.slice A n c) (x :: xs).reverse) {m : Nat} (hm : m = xs.length) : Own L w base e (.slice A m c) xs.reverse := by
  have hn := h.rd.1
  simp at hn
  subst hm hn
  rw [List.reverse_cons] at h
  have := Own.pop (x := x) (xs := xs.reverse) (A := A) (c := c) (w := w) (L := L) (base := base) (e := e) (by simpa using h)
  simpa using this
theorem Own.cap {α : Type} {L : Lay α} {w : World} {base : Nat} {e : TypeId} {A : Option Addr} {n c : Nat} {xs : List α} (h : Own L w base e (.slice A n c) xs) : n ≤ c := by
  have := h.rd; have h2 := this.2.1; omega
theorem SpEq (a b : Sp) : (a.b == b.b && (a.e == b.e && (a.l == b.l && true))) = decide (a = b) := by
  cases a; cases b; rw [Bool.eq_iff_iff]; simp
theorem crossed_calls (l : List Sp) (A : Option Addr) (c : Nat) {w : World} (hl : Rd LSp w A c l) (hz : l.length ≤ 16384) {R : Ending → World → Prop} (h : ∀ w', Below w.heap.size w w' → R (.returned (.bool (crossF [] l))) w') :
    Calls Try.prog 80 #[.slice A l.length c] w R := by
  refine ok80 A l.length c ?_
  unfold F80
  refine ⟨fun O n oc x w1 => ∃ (k : Nat) (st : List Sp), x = k ∧ k ≤ l.length ∧ st.length ≤ k ∧ Below w.heap.size w w1 ∧ Own LSp w1 w.heap.size 29 (.slice O n oc) st.reverse ∧ crossF st (l.drop k) = crossF [] l, fun O n oc x w1 => l.length - x.toNat, ⟨0, [], rfl, by omega, by simp, Below.refl _ _, Own.nil _ _ _ _, by simp⟩, ?_⟩
  rintro O n oc x w1 ⟨k, st, rfl, hk, hst, hb, own, hc⟩
  unfold F80_l3
  refine brd (fun hlt => ?_) (fun hge => ?_)
  · have hk2 : k < l.length := by omega
    rw [List.drop_eq_getElem_cons hk2] at hc
    refine ⟨fun O n oc w2 => ∃ st : List Sp, st.length ≤ k + 1 ∧ Below w.heap.size w w2 ∧ Own LSp w2 w.heap.size 29 (.slice O n oc) st.reverse ∧ crossF st (l.drop (k + 1)) = crossF [] l, ?_, ?_⟩
    · rintro O n oc w2 ⟨st, hst, hb, own, hc⟩
      unfold F80_j13
      exact ⟨inR_i64 (by omega) (by omega), ⟨k + 1, st, by simp, by omega, hst, hb, own, hc⟩, by dsimp only; omega⟩
    refine (hl.keep hb).sp rfl rfl hk2 fun b o c0 c1 c2 => ?_
    simp only [c0, c1, c2, Addr.add_mk, List.getElem?_toArray, List.getElem?_cons_zero, List.getElem?_cons_succ, LdI_some, LdB_some, LdStr_some, LdP_some, LdSl_some, LdM_some, Nat.zero_add, Br_t, Br_f]
    generalize l[k] = s at hc
    refine al3 fun g w2 hb2 hg hge => ?_
    refine ⟨fun O n oc w3 => ∃ st : List Sp, st.length ≤ k ∧ Below w.heap.size w w3 ∧ Blk w3 g #[.int .u64 s.b, .int .u64 s.e, .int .i64 s.l] 29 ∧ Own LSp w3 w.heap.size 29 (.slice O n oc) st.reverse ∧ (∀ t u, st = t :: u → ¬ t.e < s.b) ∧ crossF st (s :: l.drop (k + 1)) = crossF [] l, ?_, ?_⟩
    · rintro O n oc w3 ⟨st, hst, hb3, hg3, own3, htop, hc3⟩
      unfold F80_j7
      refine ⟨fun w4 => Below w.heap.size w w4 ∧ Blk w4 g #[.int .u64 s.b, .int .u64 s.e, .int .i64 s.l] 29 ∧ Own LSp w4 w.heap.size 29 (.slice O n oc) st.reverse ∧ crossF (s :: st) (l.drop (k + 1)) = crossF [] l, ?_, ?_⟩
      · rintro w4 ⟨hb4, hg4, own4, hc4⟩
        unfold F80_j12
        simp only [hg4.cell, Addr.add_mk, List.getElem?_toArray, List.getElem?_cons_zero, List.getElem?_cons_succ, LdI_some, LdB_some, LdStr_some, LdP_some, LdSl_some, LdM_some, Nat.zero_add, Br_t, Br_f]
        refine ap1 (L := LSp) (x := s) (.agg #[.int .u64 0, .int .u64 0, .int .i64 0]) 24 rfl rfl rfl rfl own4 hb4.size (by simp; omega) (by simp [maxLen]; omega) fun A' c' w5 ho hgr => ?_
        refine ⟨A', _, c', rfl, s :: st, by simp; omega, hb4.trans hgr.below, by rw [List.reverse_cons]; exact ho, hc4⟩
      · have hn := own3.rd.1
        rw [List.length_reverse] at hn
        refine brd (fun hpos => ?_) (fun hneg => ?_)
        · obtain _ | ⟨t, u⟩ := st
          · simp at hn; omega
          refine ⟨inR_i64 (by omega) (by omega), ?_⟩
          refine own3.rd.2.topSp (by simpa using hn) fun b o c0 c1 c2 => ?_
          simp only [c0, c1, c2, Addr.add_mk, List.getElem?_toArray, List.getElem?_cons_zero, List.getElem?_cons_succ, LdI_some, LdB_some, LdStr_some, LdP_some, LdSl_some, LdM_some, Nat.zero_add, Br_t, Br_f]
          refine al3 fun g2 w4 hb4 hg4 _ => ?_
          have hg4' := hg3.keep hb4
          have own4 := own3.keep hb4
          have B4 := btr hb3 hb3.size hb4
          simp only [hg4.cell, hg4'.cell, Addr.add_mk, List.getElem?_toArray, List.getElem?_cons_zero, List.getElem?_cons_succ, LdI_some, LdB_some, LdStr_some, LdP_some, LdSl_some, LdM_some, Nat.zero_add, Br_t, Br_f, SpEq]
          rw [crossF_cons (htop t u rfl)] at hc3
          refine brd (fun he => ?_) (fun he => ?_)
          · rw [if_pos he] at hc3
            exact ⟨t :: u, by omega, B4, own4, hc3⟩
          · rw [if_neg he] at hc3
            refine anc_calls t s fun w5 hb5 => ⟨_, rfl, ?_⟩
            rw [brnot]
            refine br (fun ha => ?_) (fun ha => ?_)
            · rw [if_pos ha] at hc3
              exact ⟨btr B4 B4.size hb5, hg4'.keep hb5, own4.keep hb5, hc3⟩
            · rw [if_neg (by rw [ha]; decide)] at hc3
              rw [← hc3] at h
              exact h w5 (btr B4 B4.size hb5)
        · obtain rfl : st = [] := List.eq_nil_of_length_eq_zero (by omega)
          rw [crossF_nil] at hc3
          exact ⟨hb3, hg3, own3, hc3⟩
    · refine ⟨fun O n oc w3 => ∃ st : List Sp, st.length ≤ k ∧ Below w.heap.size w w3 ∧ Blk w3 g #[.int .u64 s.b, .int .u64 s.e, .int .i64 s.l] 29 ∧ Own LSp w3 w.heap.size 29 (.slice O n oc) st.reverse ∧ crossF st (s :: l.drop (k + 1)) = crossF [] l, fun O n oc w3 => n, ⟨st, hst, btr hb hb.size hb2, hg, own.keep hb2, hc⟩, ?_⟩
      rintro O n oc w3 ⟨st, hst, hb3, hg3, own3, hc3⟩
      unfold F80_l5
      have hn := own3.rd.1
      rw [List.length_reverse] at hn
      refine ⟨fun w4 => Below w.heap.size w w4 ∧ Blk w4 g #[.int .u64 s.b, .int .u64 s.e, .int .i64 s.l] 29 ∧ ∃ t u, st = t :: u ∧ t.e < s.b ∧ Own LSp w4 w.heap.size 29 (.slice O n oc) st.reverse, ?_, ?_⟩
      · rintro w4 ⟨hb4, hg4, t, u, rfl, hlt2, own4⟩
        unfold F80_j6
        simp only [List.length_cons] at hn hst
        refine ⟨inR_i64 (by omega) (by omega), by omega, by omega, by have := own4.cap; omega, ⟨u, by omega, hb4, hg4, own4.pop' (by omega), ?_⟩, by dsimp only; omega⟩
        rw [← hc3, crossF_pop hlt2]
      · refine dr fun w4 hb4 _ => ?_
        have own4 := own3.keep hb4
        have hg4 := hg3.keep hb4
        have B4 := btr hb3 hb3.size hb4
        refine brd (fun hpos => ?_) (fun hneg => ?_)
        · obtain _ | ⟨t, u⟩ := st
          · simp at hn; omega
          refine ⟨inR_i64 (by omega) (by omega), ?_⟩
          refine own4.rd.2.topSp (by simpa using hn) fun b o c0 c1 c2 => ?_
          simp only [c1, hg4.cell, Addr.add_mk, List.getElem?_toArray, List.getElem?_cons_zero, List.getElem?_cons_succ, LdI_some, LdB_some, LdStr_some, LdP_some, LdSl_some, LdM_some, Nat.zero_add, Br_t, Br_f]
          refine brd (fun hlt2 => ⟨B4, hg4, t, u, rfl, hlt2, own4⟩) (fun hlt2 => ⟨t :: u, hst, B4, hg4, own4, ?_, hc3⟩)
          rintro _ _ ⟨⟩
          exact hlt2
        · obtain rfl : st = [] := List.eq_nil_of_length_eq_zero (by omega)
          exact ⟨[], hst, B4, hg4, own4, by simp, hc3⟩
  · rw [← hc, List.drop_of_length_le (by omega), crossF] at h
    exact h w1 hb
end Go.Proofs.Ytaanlildniiijaa
