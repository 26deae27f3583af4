/- Joins: the law about the joins together. -/
import Derived.Test.YtaanlildniiijaaSpAll2
namespace Go.Proofs.Ytaanlildniiijaa
open Go.RowKit Go.Vc
set_option maxRecDepth 100000
set_option linter.unusedSimpArgs false
set_option linter.unusedVariables false
theorem keptT_both (l : List Pl) (ns : List Nat) : ∀ k, (keptT l ns true k).length + (keptT l ns false k).length = k
  | 0 => by simp [keptT]
  | k + 1 => by
    have := keptT_both l ns k
    rw [keptT_succ, keptT_succ]
    generalize ns[k]! = z
    by_cases h : 0 < z
    · simp [h, show z ≠ 0 by omega]; omega
    · obtain rfl : z = 0 := by omega
      simp; omega
theorem keptT_more (l : List Pl) (ns : List Nat) (is : Bool) {k m : Nat} (h : k ≤ m) : ∃ r, keptT l ns is m = keptT l ns is k ++ r ∧ ∀ x ∈ r, ∃ j, k ≤ j ∧ j < m ∧ x = el l j := by
  obtain ⟨n, rfl⟩ := Nat.exists_eq_add_of_le h
  clear h
  induction n with
  | zero => exact ⟨[], by simp, by simp⟩
  | succ n ih =>
    obtain ⟨r, h1, h2⟩ := ih
    rw [← Nat.add_assoc, keptT_succ]
    split
    · refine ⟨r ++ [el l (k + n)], by rw [h1, List.append_assoc], fun x hx => ?_⟩
      rcases List.mem_append.1 hx with hx | hx
      · obtain ⟨j, h3, h4, h5⟩ := h2 x hx; exact ⟨j, h3, by omega, h5⟩
      · exact ⟨k + n, by omega, by omega, by simpa using hx⟩
    · refine ⟨r, h1, fun x hx => ?_⟩
      obtain ⟨j, h3, h4, h5⟩ := h2 x hx; exact ⟨j, h3, by omega, h5⟩
/-- Number j is the next one kept. -/
theorem kept_next (l : List Pl) (ns : List Nat) (is : Bool) {j : Nat} (hj : j < l.length) (h : (decide (0 < ns[j]!) == is) = true) : (keptF l ns is)[(keptT l ns is j).length]? = some (el l j) := by
  obtain ⟨r, h1, _⟩ := keptT_more l ns is (show j + 1 ≤ l.length by omega)
  unfold keptF
  rw [h1, keptT_succ, if_pos h, List.append_assoc]
  simp
theorem kept_later (l : List Pl) (ns : List Nat) (is : Bool) {j : Nat} (hj : j < l.length) (h : (decide (0 < ns[j]!) == is) = false) {x : Pl} (hx : (keptF l ns is)[(keptT l ns is j).length]? = some x) : ∃ i, j < i ∧ i < l.length ∧ x = el l i := by
  obtain ⟨r, h1, h2⟩ := keptT_more l ns is (show j + 1 ≤ l.length by omega)
  unfold keptF at hx
  rw [h1, keptT_succ, if_neg (by rw [h]; decide)] at hx
  rw [List.getElem?_append_right (Nat.le_refl _)] at hx
  obtain ⟨i, h3, h4, h5⟩ := h2 x (List.mem_of_getElem? hx)
  exact ⟨i, by omega, h4, h5⟩
theorem sum_count {p : Nat → Bool} {f g : Nat → Nat} (h : ∀ k, g k = f k + if p k = true then 1 else 0) : ∀ l : List Nat, (l.map g).sum = (l.map f).sum + l.countP p
  | [] => by simp
  | k :: l => by
    rw [List.map_cons, List.map_cons, List.sum_cons, List.sum_cons, sum_count h l, List.countP_cons, h k]; omega
theorem cntF_sum (a d : List Pl) (direct : Bool) : (cntF a d direct).sum = (pairsTo a d direct d.length).length := by
  unfold cntF
  generalize d.length = m
  induction m with
  | zero =>
    have : ∀ l : List Nat, (l.map fun k => (List.range 0).countP (fun j => joinB (el a k).s (el d j).s direct)).sum = 0 := by
      intro l; induction l with
      | nil => rfl
      | cons k l ih => rw [List.map_cons, List.sum_cons, ih]; simp
    rw [this]; simp [pairsTo]
  | succ m ih =>
    rw [pairsTo_succ, List.length_append, ← ih, sum_count (f := fun k => (List.range m).countP (fun j => joinB (el a k).s (el d j).s direct)) (p := fun k => joinB (el a k).s (el d m).s direct)]
    · congr 1
      simp [pairsOf, jn, List.countP_eq_length_filter]
    · intro k
      rw [List.range_succ, List.countP_append, List.countP_singleton]
theorem pairsTo_sub (a d : List Pl) : ∀ n, (pairsTo a d true n).Sublist (pairsTo a d false n)
  | 0 => by simp [pairsTo]
  | n + 1 => by
    rw [pairsTo_succ, pairsTo_succ]
    refine (pairsTo_sub a d n).append ?_
    unfold pairsOf
    refine List.Sublist.map _ ?_
    rw [jn_true, jn_false]
    exact List.filter_sublist
theorem take_sum (l : List Nat) {k : Nat} (hk : k < l.length) : (l.take (k + 1)).sum = (l.take k).sum + l[k] := by
  rw [List.take_succ_eq_append_getElem hk, List.sum_append]; simp
theorem cntF_le (a d : List Pl) (direct : Bool) : ∀ x ∈ cntF a d direct, x ≤ d.length := by
  intro x hx
  obtain ⟨k, _, rfl⟩ := List.mem_map.1 hx
  have := List.countP_le_length (p := fun j => joinB (el a k).s (el d j).s direct) (l := List.range d.length)
  rwa [List.length_range] at this
/-- The direct pairs are looked for in turn. -/
theorem sub_skip {x : Int × Int} {r l : List (Int × Int)} {k : Nat} (h : (x :: r).Sublist (l.drop k)) (hk : k < l.length) (hne : l[k] ≠ x) : (x :: r).Sublist (l.drop (k + 1)) := by
  rw [List.drop_eq_getElem_cons hk] at h
  cases h with
  | cons _ h => exact h
  | cons_cons _ h => exact absurd rfl hne
theorem PlEq (a b : Pl) : (a.node == b.node && (a.s.b == b.s.b && (a.s.e == b.s.e && (a.s.l == b.s.l && true)))) = decide (a = b) := by
  obtain ⟨n, b0, e0, l0⟩ := a; obtain ⟨m, b1, e1, l1⟩ := b; rw [Bool.eq_iff_iff]; simp
theorem PrEq (a b : Int × Int) : (a.1 == b.1 && (a.2 == b.2 && true)) = decide (a = b) := by
  obtain ⟨n, m⟩ := a; obtain ⟨n', m'⟩ := b; rw [Bool.eq_iff_iff]; simp
theorem joinParts_calls (a d : List Pl) (A : Option Addr) (aC : Nat) (D : Option Addr) (dC : Nat) {w : World} (hA : Rd LPl w A aC a) (hD : Rd LPl w D dC d) (za : a.length * 32 ≤ 140737488351232) (zd : d.length * 32 ≤ 140737488351232) {R : Ending → World → Prop}
    (h : ∀ w', Below w.heap.size w w' → R (.returned (.bool true)) w') : Calls Try.prog 6 #[.slice A a.length aC, .slice D d.length dC] w R := by
  refine ok6 A a.length aC D d.length dC ?_
  unfold F6
  refine copied_calls a A aC hA za fun X xc w1 hb1 hx => ⟨_, _, _, rfl, ?_⟩
  have b1 : Below w.heap.size w w1 := hb1
  refine copied_calls d D dC (hD.keep b1) zd fun Y yc w2 hb2 hy => ⟨_, _, _, rfl, ?_⟩
  have b2 := btr b1 b1.size hb2
  refine pairs_calls a d false X xc Y yc (hx.keep hb2) hy fun l ln lc w3 hb3 hol => ⟨_, _, _, _, rfl, ?_⟩
  have b3 := btr b2 b2.size hb3
  refine copied_calls a A aC (hA.keep b3) za fun X xc w4 hb4 hx => ⟨_, _, _, rfl, ?_⟩
  have b4 := btr b3 b3.size hb4
  refine copied_calls d D dC (hD.keep b4) zd fun Y yc w5 hb5 hy => ⟨_, _, _, rfl, ?_⟩
  have b5 := btr b4 b4.size hb5
  refine pairs_calls a d true X xc Y yc (hx.keep hb5) hy fun m mn mc w6 hb6 hom => ⟨_, _, _, _, rfl, ?_⟩
  have b6 := btr b5 b5.size hb6
  refine copied_calls a A aC (hA.keep b6) za fun X xc w7 hb7 hx => ⟨_, _, _, rfl, ?_⟩
  have b7 := btr b6 b6.size hb7
  refine copied_calls d D dC (hD.keep b7) zd fun Y yc w8 hb8 hy => ⟨_, _, _, rfl, ?_⟩
  have b8 := btr b7 b7.size hb8
  refine inner_calls a d false X xc Y yc (hx.keep hb8) hy fun p pn pc w9 hb9 hop => ⟨_, _, _, _, rfl, ?_⟩
  have b9 := btr b8 b8.size hb9
  refine copied_calls a A aC (hA.keep b9) za fun X xc w10 hb10 hx => ⟨_, _, _, rfl, ?_⟩
  have b10 := btr b9 b9.size hb10
  refine copied_calls d D dC (hD.keep b10) zd fun Y yc w11 hb11 hy => ⟨_, _, _, rfl, ?_⟩
  have b11 := btr b10 b10.size hb11
  refine without_calls a d false X xc Y yc (hx.keep hb11) hy fun q qn qc w12 hb12 hoq => ⟨_, _, _, _, rfl, ?_⟩
  have b12 := btr b11 b11.size hb12
  refine copied_calls a A aC (hA.keep b12) za fun X xc w13 hb13 hx => ⟨_, _, _, rfl, ?_⟩
  have b13 := btr b12 b12.size hb13
  refine copied_calls d D dC (hD.keep b13) zd fun Y yc w14 hb14 hy => ⟨_, _, _, rfl, ?_⟩
  have b14 := btr b13 b13.size hb14
  refine count_calls a d false X xc Y yc (hx.keep hb14) hy fun n nn nc w15 hb15 hn' hrn => ⟨_, _, _, _, rfl, ?_⟩
  have b15 := btr b14 b14.size hb15
  refine fitsR_calls a d A aC D dC (hA.keep b15) (hD.keep b15) fun w16 hb16 => ⟨_, rfl, ?_⟩
  have b16 := btr b15 b15.size hb16
  obtain ⟨hln, hl⟩ := hol.rd
  obtain ⟨hmn, hm⟩ := hom.rd
  obtain ⟨hpn, hp⟩ := hop.rd
  obtain ⟨hqn, hq⟩ := hoq.rd
  replace hl := (((((((((((((hl.keep hb4).keep hb5).keep hb6).keep hb7).keep hb8).keep hb9).keep hb10).keep hb11).keep hb12).keep hb13).keep hb14).keep hb15).keep hb16)
  replace hm := ((((((((((hm.keep hb7).keep hb8).keep hb9).keep hb10).keep hb11).keep hb12).keep hb13).keep hb14).keep hb15).keep hb16)
  replace hp := (((((((hp.keep hb10).keep hb11).keep hb12).keep hb13).keep hb14).keep hb15).keep hb16)
  replace hq := ((((hq.keep hb13).keep hb14).keep hb15).keep hb16)
  replace hrn := hrn.keep hb16
  have hDD := hD.keep b16
  clear hb1 hb2 hb3 hb4 hb5 hb6 hb7 hb8 hb9 hb10 hb11 hb12 hb13 hb14 hb15 hb16 hx hy hol hom hop hoq b1 b2 b3 b4 b5 b6 b7 b8 b9 b10 b11 b12 b13 b14 b15 hA hD
  subst hln hmn hpn hqn hn'
  by_cases hf : fitsF a d ≠ 0
  · have e1 : (pairsF a d false).2 = fitsF a d := by unfold pairsF; rw [if_pos hf]
    have e2 : (pairsF a d true).2 = fitsF a d := by unfold pairsF; rw [if_pos hf]
    have e3 : (innerF a d false true).2 = fitsF a d := by unfold innerF; rw [if_pos hf]
    have e4 : (innerF a d false false).2 = fitsF a d := by unfold innerF; rw [if_pos hf]
    have e5 : (countF a d false).2 = fitsF a d := by unfold countF; rw [if_pos hf]
    rw [e1, e2, e3, e4, e5]
    refine brn (fun _ => ?_) (fun e => absurd e hf)
    refine brn (fun _ => ?_) (fun e => absurd e hf)
    simp only [beq_self_eq_true, Br_t]
    exact lives_calls fun w17 hb17 => ⟨_, rfl, h w17 (btr b16 b16.size hb17)⟩
  have hf0 : fitsF a d = 0 := Decidable.not_not.1 hf
  have L := fitsF_lam hf0
  have hla := L.la
  have hld := L.ld
  have e3 : innerF a d false true = (keptF d (lenF a d false) true, 0) := by unfold innerF; rw [if_neg hf]
  have e4 : innerF a d false false = (keptF d (lenF a d false) false, 0) := by unfold innerF; rw [if_neg hf]
  have e5 : countF a d false = (cntF a d false, 0) := by unfold countF; rw [if_neg hf]
  rw [e3, e4, e5, hf0]
  rw [e3] at hp
  rw [e4] at hq
  rw [e5] at hrn
  dsimp only at hp hq hrn ⊢
  have hboth := keptT_both d (lenF a d false) d.length
  have hin : (keptF d (lenF a d false) true).length + (keptF d (lenF a d false) false).length = d.length := hboth
  refine brn (fun e => absurd rfl e) (fun _ => ?_)
  refine ⟨fun w' => Below w16.heap.size w16 w', ?_, ?_⟩
  rotate_left
  · refine brn (fun e => absurd rfl e) (fun _ => brn (fun e => absurd rfl e) (fun _ => brn (fun e => absurd rfl e) (fun _ => ⟨inR_i64 (by omega) (by omega), ?_⟩)))
    exact brn (fun e => absurd (by omega) e) (fun _ => Below.refl _ _)
  intro w17 b17
  unfold F6_j10
  generalize hns : lenF a d false = ns at *
  refine ⟨fun k j w' => ∃ j' : Nat, j = j' ∧ j' ≤ d.length ∧ k = ((keptT d ns true j').length : Nat) ∧ Below w16.heap.size w16 w', fun k j w' => d.length - j.toNat, ⟨0, rfl, by omega, by simp [keptT], b17⟩, ?_⟩
  rintro k j w18 ⟨j, rfl, hj, rfl, b18⟩
  unfold F6_l12
  have hjj := keptT_both d ns j
  refine brd (fun hlt => ?_) (fun hge => ?_)
  · have hj2 : j < d.length := by omega
    refine ⟨fun k w' => k = ((keptT d ns true (j + 1)).length : Nat) ∧ Below w16.heap.size w16 w', ?_, ?_⟩
    · rintro k w19 ⟨rfl, b19⟩
      unfold F6_j13
      exact ⟨inR_i64 (by omega) (by omega), ⟨j + 1, by simp, by omega, rfl, b19⟩, by dsimp only; omega⟩
    refine dr fun w19 hb19 _ => ?_
    have b19 := btr b18 b18.size hb19
    have hsucc := keptT_succ d ns true j
    refine brd (fun hk1 => ?_) (fun hk1 => ?_)
    · have hk2 : (keptT d ns true j).length < (keptF d ns true).length := by omega
      refine (hp.keep b19).plEl rfl rfl hk2 fun b o c0 c1 c2 c3 => ?_
      simp only [c0, c1, c2, c3, Addr.add_mk, List.getElem?_toArray, List.getElem?_cons_zero, List.getElem?_cons_succ, LdI_some, LdB_some, LdStr_some, LdP_some, LdSl_some, LdM_some, Nat.zero_add, Br_t, Br_f]
      refine (hDD.keep b19).plEl rfl rfl hj2 fun b o c0 c1 c2 c3 => ?_
      simp only [c0, c1, c2, c3, Addr.add_mk, List.getElem?_toArray, List.getElem?_cons_zero, List.getElem?_cons_succ, LdI_some, LdB_some, LdStr_some, LdP_some, LdSl_some, LdM_some, Nat.zero_add, Br_t, Br_f, PlEq]
      have hget : (keptF d ns true)[(keptT d ns true j).length]? = some (el (keptF d ns true) (keptT d ns true j).length) := by rw [(at_mem hk2).2]; exact List.getElem?_eq_getElem hk2
      refine brd (fun heq => ?_) (fun hne => ?_)
      · cases hc : (decide (0 < ns[j]!) == true)
        · obtain ⟨i, h1, h2, h3⟩ := kept_later d ns true hj2 hc hget
          have := (List.pairwise_iff_getElem.1 L.sd) j i hj2 h2 h1
          rw [← (at_mem hj2).2, ← (at_mem h2).2, ← heq, h3] at this
          omega
        · rw [if_pos hc] at hsucc
          refine ⟨inR_i64 (by omega) (by omega), ?_, b19⟩
          rw [hsucc]; simp
      · have hc : (decide (0 < ns[j]!) == true) = false := by
          cases hc : (decide (0 < ns[j]!) == true)
          · rfl
          · have := kept_next d ns true hj2 hc
            rw [hget] at this
            exact absurd (Option.some.inj this) hne
        refine dr fun w20 hb20 _ => ?_
        have b20 := btr b19 b19.size hb20
        have hc' : (decide (0 < ns[j]!) == false) = true := by revert hc; cases decide (0 < ns[j]!) <;> simp
        have hkf : (keptT d ns true (j + 1)) = keptT d ns true j := by rw [hsucc, if_neg (by rw [hc]; decide)]
        have hnext := kept_next d ns false hj2 hc'
        have hlt2 : (keptT d ns false j).length < (keptF d ns false).length := (List.getElem?_eq_some_iff.1 hnext).1
        refine ⟨inR_i64 (by omega) (by omega), brd (fun e => by omega) (fun _ => ⟨inR_i64 (by omega) (by omega), ?_⟩)⟩
        refine (hq.keep b20).plEl rfl (k := (keptT d ns false j).length) (by omega) hlt2 fun b o c0 c1 c2 c3 => ?_
        have hel : el (keptF d ns false) (keptT d ns false j).length = el d j := by rw [(at_mem hlt2).2]; exact (List.getElem?_eq_some_iff.1 hnext).2
        rw [hel] at c0 c1 c2 c3
        simp only [c0, c1, c2, c3, Addr.add_mk, List.getElem?_toArray, List.getElem?_cons_zero, List.getElem?_cons_succ, LdI_some, LdB_some, LdStr_some, LdP_some, LdSl_some, LdM_some, Nat.zero_add, Br_t, Br_f]
        refine (hDD.keep b20).plEl rfl rfl hj2 fun b o c0 c1 c2 c3 => ?_
        simp only [c0, c1, c2, c3, Addr.add_mk, List.getElem?_toArray, List.getElem?_cons_zero, List.getElem?_cons_succ, LdI_some, LdB_some, LdStr_some, LdP_some, LdSl_some, LdM_some, Nat.zero_add, Br_t, Br_f, beq_self_eq_true, Bool.and_self, Bool.not_true, Br_f]
        exact ⟨by rw [hkf], b20⟩
    · have hc : (decide (0 < ns[j]!) == true) = false := by
        cases hc : (decide (0 < ns[j]!) == true)
        · rfl
        · have := (List.getElem?_eq_some_iff.1 (kept_next d ns true hj2 hc)).1
          omega
      refine dr fun w20 hb20 _ => ?_
      have b20 := btr b19 b19.size hb20
      have hc' : (decide (0 < ns[j]!) == false) = true := by revert hc; cases decide (0 < ns[j]!) <;> simp
      have hkf : (keptT d ns true (j + 1)) = keptT d ns true j := by rw [hsucc, if_neg (by rw [hc]; decide)]
      have hnext := kept_next d ns false hj2 hc'
      have hlt2 : (keptT d ns false j).length < (keptF d ns false).length := (List.getElem?_eq_some_iff.1 hnext).1
      refine ⟨inR_i64 (by omega) (by omega), brd (fun e => by omega) (fun _ => ⟨inR_i64 (by omega) (by omega), ?_⟩)⟩
      refine (hq.keep b20).plEl rfl (k := (keptT d ns false j).length) (by omega) hlt2 fun b o c0 c1 c2 c3 => ?_
      have hel : el (keptF d ns false) (keptT d ns false j).length = el d j := by rw [(at_mem hlt2).2]; exact (List.getElem?_eq_some_iff.1 hnext).2
      rw [hel] at c0 c1 c2 c3
      simp only [c0, c1, c2, c3, Addr.add_mk, List.getElem?_toArray, List.getElem?_cons_zero, List.getElem?_cons_succ, LdI_some, LdB_some, LdStr_some, LdP_some, LdSl_some, LdM_some, Nat.zero_add, Br_t, Br_f]
      refine (hDD.keep b20).plEl rfl rfl hj2 fun b o c0 c1 c2 c3 => ?_
      simp only [c0, c1, c2, c3, Addr.add_mk, List.getElem?_toArray, List.getElem?_cons_zero, List.getElem?_cons_succ, LdI_some, LdB_some, LdStr_some, LdP_some, LdSl_some, LdM_some, Nat.zero_add, Br_t, Br_f, beq_self_eq_true, Bool.and_self, Bool.not_true, Br_f]
      exact ⟨by rw [hkf], b20⟩
  have hcl := cntF_len a d false
  refine ⟨fun sum j w' => ∃ j' : Nat, j = j' ∧ j' ≤ (cntF a d false).length ∧ sum = (((cntF a d false).take j').sum : Nat) ∧ ((cntF a d false).take j').sum ≤ j' * 8192 ∧ Below w16.heap.size w16 w', fun sum j w' => (cntF a d false).length - j.toNat, ⟨0, rfl, by omega, by simp, by simp, b18⟩, ?_⟩
  clear hjj hge b18 b17 hp hq hin hboth
  rintro sum j w19 ⟨j, rfl, hj, rfl, hsl, b19⟩
  unfold F6_l19
  refine brd (fun hlt => ?_) (fun hge => ?_)
  · have hj2 : j < (cntF a d false).length := by omega
    have hts := take_sum (cntF a d false) hj2
    have hce := cntF_le a d false _ (List.getElem_mem hj2)
    refine (hrn.keep b19).nat rfl rfl hj2 fun b o c0 => ?_
    simp only [c0, Addr.add_mk, List.getElem?_toArray, List.getElem?_cons_zero, List.getElem?_cons_succ, LdI_some, LdB_some, LdStr_some, LdP_some, LdSl_some, LdM_some, Nat.zero_add, Br_t, Br_f]
    exact ⟨inR_i64 (by omega) (by omega), inR_i64 (by omega) (by omega), ⟨j + 1, by simp, by omega, by rw [hts]; simp, by omega, b19⟩, by omega⟩
  obtain rfl : j = (cntF a d false).length := by omega
  rw [List.take_length, cntF_sum] at hsl ⊢
  clear hrn hge
  have hf1 : pairsF a d false = if 16384 < (pairsTo a d false d.length).length then ([], 2) else (pairsTo a d false d.length, 0) := by unfold pairsF; rw [if_neg hf]
  by_cases hbig : 16384 < (pairsTo a d false d.length).length
  · rw [if_pos hbig] at hf1
    rw [hf1]
    refine brn (fun _ => bre (fun _ => ?_) (fun e => absurd rfl e)) (fun e => absurd e (by decide))
    have : decide ((((pairsTo a d false d.length).length : Nat) : Int) > 16384) = true := by simp; omega
    rw [this]
    exact h w19 (btr b16 b16.size b19)
  rw [if_neg hbig] at hf1
  have hsub := pairsTo_sub a d d.length
  have hf2 : pairsF a d true = (pairsTo a d true d.length, 0) := by
    have := hsub.length_le
    unfold pairsF; rw [if_neg hf, if_neg (by omega)]
  rw [hf1] at hl ⊢
  rw [hf2] at hm ⊢
  dsimp only at hl hm ⊢
  clear hf1 hf2
  generalize pairsTo a d false d.length = all at *
  generalize pairsTo a d true d.length = dir at *
  have hdl := hsub.length_le
  refine brn (fun e => absurd rfl e) (fun _ => ?_)
  refine ⟨fun k j w' => ∃ k' j' : Nat, k = k' ∧ j = j' ∧ k' ≤ all.length ∧ j' ≤ dir.length ∧ (dir.drop j').Sublist (all.drop k') ∧ Below w16.heap.size w16 w', fun k j w' => dir.length - j.toNat, ⟨0, 0, rfl, rfl, by omega, by omega, by simpa using hsub, b19⟩, ?_⟩
  clear b19
  rintro k j w20 ⟨k, j, rfl, rfl, hk, hj, hs, b20⟩
  unfold F6_l26
  refine brd (fun hlt => ?_) (fun hge => ?_)
  rotate_left
  · refine bre (fun _ => bre (fun _ => ?_) (fun e => absurd rfl e)) (fun e => absurd rfl e)
    exact lives_calls fun w21 hb21 => ⟨_, rfl, h w21 (btr b16 b16.size (btr b20 b20.size hb21))⟩
  have hj2 : j < dir.length := by omega
  rw [List.drop_eq_getElem_cons hj2] at hs
  refine ⟨fun k w' => ∃ k' : Nat, k = k' ∧ k' < all.length ∧ (dir.drop (j + 1)).Sublist (all.drop k') ∧ Below w16.heap.size w16 w', ?_, ?_⟩
  · rintro k w21 ⟨k, rfl, hk2, hs2, b21⟩
    unfold F6_j30
    refine bre (fun e => by omega) (fun _ => ⟨inR_i64 (by omega) (by omega), ⟨k, j + 1, rfl, by simp, by omega, by omega, hs2, b21⟩, by dsimp only; omega⟩)
  refine ⟨fun k w' => ∃ k' : Nat, k = k' ∧ k' ≤ all.length ∧ (dir[j] :: dir.drop (j + 1)).Sublist (all.drop k') ∧ Below w16.heap.size w16 w', fun k w' => all.length - k.toNat, ⟨k, rfl, hk, hs, b20⟩, ?_⟩
  clear hs b20 hk
  rintro k w21 ⟨k, rfl, hk, hs, b21⟩
  unfold F6_l28
  have hk2 : k < all.length := by
    have := hs.length_le
    simp at this
    omega
  refine ⟨fun w' => all[k] ≠ dir[j] ∧ Below w16.heap.size w16 w', ?_, ?_⟩
  · rintro w22 ⟨hne, b22⟩
    unfold F6_j29
    exact ⟨inR_i64 (by omega) (by omega), ⟨k + 1, by simp, by omega, sub_skip hs hk2 hne, b22⟩, by dsimp only; omega⟩
  refine dr fun w22 hb22 _ => ?_
  have b22 := btr b21 b21.size hb22
  refine brd (fun _ => ?_) (fun e => by omega)
  refine (hl.keep b22).pr rfl rfl hk2 fun b o c0 c1 => ?_
  simp only [c0, c1, Addr.add_mk, List.getElem?_toArray, List.getElem?_cons_zero, List.getElem?_cons_succ, LdI_some, LdB_some, LdStr_some, LdP_some, LdSl_some, LdM_some, Nat.zero_add, Br_t, Br_f]
  refine (hm.keep b22).pr rfl rfl hj2 fun b o c0 c1 => ?_
  simp only [c0, c1, Addr.add_mk, List.getElem?_toArray, List.getElem?_cons_zero, List.getElem?_cons_succ, LdI_some, LdB_some, LdStr_some, LdP_some, LdSl_some, LdM_some, Nat.zero_add, Br_t, Br_f, PrEq]
  rw [brnot]
  refine brd (fun heq => ?_) (fun hne => ⟨hne, b22⟩)
  refine ⟨k, rfl, hk2, ?_, b22⟩
  exact (List.sublist_cons_self _ _).trans hs
end Go.Proofs.Ytaanlildniiijaa
