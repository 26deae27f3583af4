/- Joins: the law that compares all, as a whole. -/
import Derived.Test.YtaanlildniiijaaSpAll
namespace Go.Proofs.Ytaanlildniiijaa
open Go.RowKit Go.Vc
set_option maxRecDepth 100000
set_option linter.unusedSimpArgs false
set_option linter.unusedVariables false
/-- A row that may be written over. -/
def ZP (w5 w : World) (P : Option Addr) (n : Nat) : Prop := n = 0 ∨ ∃ g cur, P = some ⟨g, 0, none⟩ ∧ w5.heap.size ≤ g ∧ Blk w g cur 51 ∧ n * 4 ≤ cur.size
theorem ZP.of_own {w5 w : World} {P : Option Addr} {n pc : Nat} {xs : List Pl} (h : Own LPl w w5.heap.size 51 (.slice P n pc) xs) : ZP w5 w P n := by
  rcases h with ⟨h, _⟩ | ⟨⟨a, h⟩, _⟩ | ⟨g, c, cur, h, hb, hh, hn, hm, hsz, ht⟩
  · injection h with _ h _; exact .inl h
  · injection h with _ h _; exact .inl h
  · injection h with h1 h2 _
    refine .inr ⟨g, cur, h1, hb, hh, ?_⟩
    have : LPl.n = 4 := rfl
    rw [hsz, h2, this]
    exact Nat.mul_le_mul_right _ hn
theorem ZP.keep {w5 w w1 : World} {P : Option Addr} {n : Nat} (h : ZP w5 w P n) (hb : Below w.heap.size w w1) : ZP w5 w1 P n := by
  rcases h with h | ⟨g, cur, h1, h2, h3, h4⟩
  · exact .inl h
  · exact .inr ⟨g, cur, h1, h2, h3.keep hb, h4⟩
theorem ZP.set {w5 w : World} {P : Option Addr} {n : Nat} (h : ZP w5 w P n) (b i : Nat) (v : Value) : ZP w5 (w.setCell ⟨b, i, none⟩ v) P n := by
  rcases h with h | ⟨g, cur, h1, h2, h3, h4⟩
  · exact .inl h
  · by_cases e : b = g
    · subst e; exact .inr ⟨b, _, h1, h2, h3.set i v, by simpa using h4⟩
    · exact .inr ⟨g, cur, h1, h2, h3.other e v, h4⟩
/-- Four cells of such a row are written over. -/
theorem ZP.store {w5 w : World} {P Q : Option Addr} {n m : Nat} (h : ZP w5 w P n) (hq : ZP w5 w Q m) (hb : Below w5.heap.size w5 w) {k : Nat} (hk : k < n) {v0 v1 v2 v3 : Value} {K : World → Prop}
    (hK : ∀ w1, Below w5.heap.size w5 w1 → ZP w5 w1 P n → ZP w5 w1 Q m → K w1) : IdxA P n (k : Int) 4 fun q => St w q v0 fun w1 => St w1 (q.add 1) v1 fun w2 => St w2 (q.add 2) v2 fun w3 => St w3 (q.add 3) v3 fun w4 => K w4 := by
  rcases h with h | ⟨g, cur, rfl, h2, h3, h4⟩
  · omega
  rw [IdxA_some (by omega) (by omega)]
  simp only [Int.toNat_natCast, Addr.add_mk, Nat.zero_add]
  have cell : ∀ {w : World} {cur : Array Value} {i : Nat}, Blk w g cur 51 → n * 4 ≤ cur.size → i < 4 → ∃ old, w.cell? ⟨g, k * 4 + i, none⟩ = some old := fun {w cur i} hb hs hi => ⟨cur[k * 4 + i]'(by omega), by rw [hb.cell]; simp⟩
  have s1 := h3.set (k * 4) v0
  have s2 := s1.set (k * 4 + 1) v1
  have s3 := s2.set (k * 4 + 2) v2
  have s4 := s3.set (k * 4 + 3) v3
  refine ⟨cell (i := 0) h3 h4 (by omega), h3.frozen _, cell (i := 1) s1 (by simpa using h4) (by omega), s1.frozen _, cell (i := 2) s2 (by simpa using h4) (by omega), s2.frozen _, cell (i := 3) s3 (by simpa using h4) (by omega), s3.frozen _, ?_⟩
  exact hK _ ((((hb.setCell h2 _).setCell h2 _).setCell h2 _).setCell h2 _) (.inr ⟨g, _, rfl, h2, s4, by simpa using h4⟩) ((((hq.set _ _ _).set _ _ _).set _ _ _).set _ _ _)
theorem pairsF_len (a d : List Pl) (direct : Bool) : (pairsF a d direct).1.length ≤ 16384 := by
  unfold pairsF; split
  · simp
  · split
    · simp
    · dsimp only; omega
theorem keptF_len (l : List Pl) (ns : List Nat) (is : Bool) : (keptF l ns is).length ≤ l.length := keptT_len _ _ _ _
theorem outerF_len (a d : List Pl) (direct : Bool) : (outerF a d direct).1.length ≤ a.length := by
  unfold outerF; split
  · simp
  · exact keptF_len _ _ _
theorem innerF_len (a d : List Pl) (direct is : Bool) : (innerF a d direct is).1.length ≤ d.length := by
  unfold innerF; split
  · simp
  · exact keptF_len _ _ _
theorem nearF_len (a d : List Pl) : (nearF a d).1.length ≤ d.length := by
  unfold nearF; split
  · simp
  · exact nearTo_len _ _ _
theorem countF_len (a d : List Pl) (direct : Bool) : (countF a d direct).1.length ≤ a.length := by
  unfold countF; split
  · simp
  · rw [cntF_len]; exact Nat.le_refl _
theorem joinAll_calls (a d : List Pl) (direct : Bool) (A : Option Addr) (aC : Nat) (D : Option Addr) (dC : Nat) {w : World} (hA : Rd LPl w A aC a) (hD : Rd LPl w D dC d) (za : a.length * 32 ≤ 140737488351232) (zd : d.length * 32 ≤ 140737488351232) {R : Ending → World → Prop}
    (h : ∀ w', Below w.heap.size w w' → R (.returned (.bool true)) w') : Calls Try.prog 7 #[.slice A a.length aC, .slice D d.length dC, .bool direct] w R := by
  refine ok7 A a.length aC D d.length dC direct ?_
  unfold F7
  refine copied_calls a A aC hA za fun X xc w1 hb1 hx => ⟨_, _, _, rfl, ?_⟩
  refine copied_calls d D dC (hD.keep hb1) zd fun Y yc w2 hb2 hy => ⟨_, _, _, rfl, ?_⟩
  have B2 := btr hb1 hb1.size hb2
  replace hx := hx.keep hb2
  refine pairs_calls a d direct X xc Y yc hx hy fun l ln lc w3 hb3 hol => ⟨_, _, _, _, rfl, ?_⟩
  obtain ⟨rfl, hl⟩ := hol.rd
  have B3 := btr B2 B2.size hb3
  refine pairsR_calls a d direct A aC D dC (hA.keep B3) (hD.keep B3) fun m mn mc w4 hb4 hom => ⟨_, _, _, _, rfl, ?_⟩
  obtain ⟨rfl, hm⟩ := hom.rd
  have B4 := btr B3 B3.size hb4
  refine ⟨fun w' => Below w.heap.size w w' ∧ Rd LPl w' X xc a ∧ Rd LPl w' Y yc d, ?_, ?_⟩
  rotate_left
  · refine brn (fun e => absurd rfl e) (fun _ => ?_)
    have hpl := pairsF_len a d direct
    refine pairsEq_calls _ l lc m mc (hl.keep hb4) hm (by omega) fun w5 hb5 => ⟨_, rfl, ?_⟩
    simp only [Bool.not_true, Br_f]
    exact ⟨btr B4 B4.size hb5, ((hx.keep hb3).keep hb4).keep hb5, ((hy.keep hb3).keep hb4).keep hb5⟩
  clear hx hy hl hm hol hom hb1 hb2 hb3 hb4 B2 B3 B4
  rintro w0 ⟨B0, hx, hy⟩
  unfold F7_j6
  have zX := outerF_len a d direct
  have zI := innerF_len a d direct true
  have zW := innerF_len a d direct false
  have zN := nearF_len a d
  have zC := countF_len a d direct
  refine outer_calls a d direct X xc Y yc hx hy fun P pn pc w1 hb1 hop => ⟨_, _, _, _, rfl, ?_⟩
  have b1 : Below w0.heap.size w0 w1 := hb1
  refine outerR_calls a d direct A aC D dC (hA.keep (btr B0 B0.size b1)) (hD.keep (btr B0 B0.size b1)) fun Q qn qc w2 hb2 hoq => ⟨_, _, _, _, rfl, ?_⟩
  have b2 := btr b1 b1.size hb2
  refine inner_calls a d direct X xc Y yc (hx.keep b2) (hy.keep b2) fun r rn rc w3 hb3 hor => ⟨_, _, _, _, rfl, ?_⟩
  have b3 := btr b2 b2.size hb3
  refine innerR_calls a d direct A aC D dC (hA.keep (btr B0 B0.size b3)) (hD.keep (btr B0 B0.size b3)) fun s sn sc w4 hb4 hos => ⟨_, _, _, _, rfl, ?_⟩
  have b4 := btr b3 b3.size hb4
  refine without_calls a d direct X xc Y yc (hx.keep b4) (hy.keep b4) fun t tn tc w5 hb5 hot => ⟨_, _, _, _, rfl, ?_⟩
  have b5 := btr b4 b4.size hb5
  refine withoutR_calls a d direct A aC D dC (hA.keep (btr B0 B0.size b5)) (hD.keep (btr B0 B0.size b5)) fun u un uc w6 hb6 hou => ⟨_, _, _, _, rfl, ?_⟩
  have b6 := btr b5 b5.size hb6
  obtain ⟨rfl, hp⟩ := hop.rd
  obtain ⟨rfl, hq⟩ := hoq.rd
  obtain ⟨rfl, hr⟩ := hor.rd
  obtain ⟨rfl, hs⟩ := hos.rd
  obtain ⟨rfl, ht⟩ := hot.rd
  obtain ⟨rfl, hu⟩ := hou.rd
  have zp : ZP w0 w6 P (outerF a d direct).1.length := ((((ZP.of_own hop).keep hb2).keep hb3).keep hb4).keep hb5 |>.keep hb6
  have zt : ZP w0 w6 t (innerF a d direct false).1.length := ZP.keep (ZP.of_own (hot.rebase fun k hk => Nat.le_trans b4.size (hot.lt k hk).1)) hb6
  refine ⟨fun w' => Below w0.heap.size w0 w' ∧ ZP w0 w' P (outerF a d direct).1.length ∧ ZP w0 w' t (innerF a d direct false).1.length, ?_, ?_⟩
  rotate_left
  · refine brn (fun e => absurd rfl e) (fun _ => brn (fun e => absurd rfl e) (fun _ => brn (fun e => absurd rfl e) (fun _ => ?_)))
    refine placedEq_calls _ P pc Q qc (((((hp.keep hb2).keep hb3).keep hb4).keep hb5).keep hb6) ((((hq.keep hb3).keep hb4).keep hb5).keep hb6) (by omega) fun w7 hb7 => ⟨_, rfl, ?_⟩
    simp only [Bool.not_true, Br_f]
    refine placedEq_calls _ r rc s sc ((((hr.keep hb4).keep hb5).keep hb6).keep hb7) (((hs.keep hb5).keep hb6).keep hb7) (by omega) fun w8 hb8 => ⟨_, rfl, ?_⟩
    simp only [Bool.not_true, Br_f]
    refine placedEq_calls _ t tc u uc (((ht.keep hb6).keep hb7).keep hb8) ((hu.keep hb7).keep hb8) (by omega) fun w9 hb9 => ⟨_, rfl, ?_⟩
    simp only [Bool.not_true, Br_f]
    have b7 := btr b6 b6.size hb7
    have b8 := btr b7 b7.size hb8
    exact ⟨btr b8 b8.size hb9, ((zp.keep hb7).keep hb8).keep hb9, ((zt.keep hb7).keep hb8).keep hb9⟩
  clear zp zt hp hq hr hs ht hu hop hoq hor hos hot hou b1 b2 b3 b4 b5 b6 hb1 hb2 hb3 hb4 hb5 hb6
  rintro w1 ⟨b1, zp, zt⟩
  unfold F7_j14
  refine count_calls a d direct X xc Y yc (hx.keep b1) (hy.keep b1) fun n nn nc w2 hb2 hn' hrn => ⟨_, _, _, _, rfl, ?_⟩
  subst hn'
  have b2 := btr b1 b1.size hb2
  refine countR_calls a d direct A aC D dC (hA.keep (btr B0 B0.size b2)) (hD.keep (btr B0 B0.size b2)) fun o on oc w3 hb3 hoo => ⟨_, _, _, _, rfl, ?_⟩
  have b3 := btr b2 b2.size hb3
  refine near_calls a d X xc Y yc (hx.keep b3) (hy.keep b3) fun v vn vc w4 hb4 hov => ⟨_, _, _, _, rfl, ?_⟩
  have b4 := btr b3 b3.size hb4
  refine nearR_calls a d A aC D dC (hA.keep (btr B0 B0.size b4)) (hD.keep (btr B0 B0.size b4)) fun y yn yc' w5 hb5 hoy => ⟨_, _, _, _, rfl, ?_⟩
  have b5 := btr b4 b4.size hb5
  obtain ⟨rfl, ho⟩ := hoo.rd
  obtain ⟨rfl, hv⟩ := hov.rd
  obtain ⟨rfl, hyy⟩ := hoy.rd
  refine ⟨fun w' => Below w0.heap.size w0 w' ∧ ZP w0 w' P (outerF a d direct).1.length ∧ ZP w0 w' t (innerF a d direct false).1.length ∧ Rd LN w' n nc (countF a d direct).1 ∧ Rd LN w' o oc (countF a d direct).1, ?_, ?_⟩
  rotate_left
  · refine brn (fun e => absurd rfl e) (fun _ => brn (fun e => absurd rfl e) (fun _ => brn (fun e => absurd rfl e) (fun _ => ?_)))
    refine pairsEq_calls _ v vc y yc' (hv.keep hb5) hyy (by omega) fun w7 hb7 => ⟨_, rfl, ?_⟩
    simp only [Bool.not_true, Br_f]
    exact ⟨btr b5 b5.size hb7, ((((zp.keep hb2).keep hb3).keep hb4).keep hb5).keep hb7, ((((zt.keep hb2).keep hb3).keep hb4).keep hb5).keep hb7, (((hrn.keep hb3).keep hb4).keep hb5).keep hb7, ((ho.keep hb4).keep hb5).keep hb7⟩
  clear zp zt hrn ho hv hyy hoo hov hoy b1 b2 b3 b4 b5 hb2 hb3 hb4 hb5
  rintro w1 ⟨b1, zp, zt, hrn, hro⟩
  unfold F7_j20
  refine ⟨fun k w2 => ∃ i : Nat, k = i ∧ i ≤ (countF a d direct).1.length ∧ Below w1.heap.size w1 w2, fun k w2 => (countF a d direct).1.length - k.toNat, ⟨0, rfl, by omega, Below.refl _ _⟩, ?_⟩
  rintro k w2 ⟨k, rfl, hk, hb2⟩
  unfold F7_l21
  refine brd (fun hlt => ?_) (fun hge => ?_)
  · refine dr fun w3 hb3 _ => ?_
    have hb13 := btr hb2 hb2.size hb3
    refine (hrn.keep hb13).nat rfl rfl (by omega) fun b o' c0 => ?_
    simp only [c0, Addr.add_mk, List.getElem?_toArray, List.getElem?_cons_zero, List.getElem?_cons_succ, LdI_some, LdB_some, LdStr_some, LdP_some, LdSl_some, LdM_some, Nat.zero_add, Br_t, Br_f]
    refine (hro.keep hb13).nat rfl rfl (by omega) fun b o' c0 => ?_
    simp only [c0, Addr.add_mk, List.getElem?_toArray, List.getElem?_cons_zero, List.getElem?_cons_succ, LdI_some, LdB_some, LdStr_some, LdP_some, LdSl_some, LdM_some, Nat.zero_add, Br_t, Br_f]
    exact brn (fun e => absurd rfl e) (fun _ => ⟨inR_i64 (by omega) (by omega), ⟨k + 1, by simp, by omega, hb13⟩, by omega⟩)
  have b2 := btr b1 b1.size hb2
  replace zp := zp.keep hb2
  replace zt := zt.keep hb2
  clear hb2 hrn hro b1
  refine ⟨fun k w3 => ∃ i : Nat, k = i ∧ i ≤ (outerF a d direct).1.length ∧ Below w0.heap.size w0 w3 ∧ ZP w0 w3 P (outerF a d direct).1.length ∧ ZP w0 w3 t (innerF a d direct false).1.length, fun k w3 => (outerF a d direct).1.length - k.toNat, ⟨0, rfl, by omega, b2, zp, zt⟩, ?_⟩
  clear zp zt b2 hge
  rintro k2 w3 ⟨k2, rfl, hk2, b3, zp, zt⟩
  unfold F7_l26
  refine brd (fun hlt => ?_) (fun hge => ?_)
  · exact zp.store zt b3 (by omega) fun w4 b4 zp4 zt4 => ⟨inR_i64 (by omega) (by omega), ⟨k2 + 1, by simp, by omega, b4, zp4, zt4⟩, by dsimp only; omega⟩
  refine ⟨fun k w3 => ∃ i : Nat, k = i ∧ i ≤ (innerF a d direct false).1.length ∧ Below w0.heap.size w0 w3 ∧ ZP w0 w3 t (innerF a d direct false).1.length, fun k w3 => (innerF a d direct false).1.length - k.toNat, ⟨0, rfl, by omega, b3, zt⟩, ?_⟩
  clear zp zt b3 hge
  rintro k3 w4 ⟨k3, rfl, hk3, b4, zt⟩
  unfold F7_l30
  refine brd (fun hlt => ?_) (fun hge => ?_)
  · exact zt.store zt b4 (by omega) fun w4 b4 zt4 _ => ⟨inR_i64 (by omega) (by omega), ⟨k3 + 1, by simp, by omega, b4, zt4⟩, by dsimp only; omega⟩
  have B4 := btr B0 B0.size b4
  refine placedEq_calls a X xc A aC (hx.keep b4) (hA.keep B4) (by omega) fun w5 hb5 => ⟨_, rfl, ?_⟩
  simp only [Br_t]
  refine placedEq_calls d Y yc D dC ((hy.keep b4).keep hb5) ((hD.keep B4).keep hb5) (by omega) fun w6 hb6 => ⟨_, rfl, ?_⟩
  simp only [Br_t]
  refine lives_calls fun w7 hb7 => ⟨_, rfl, ?_⟩
  have B5 := btr B4 B4.size hb5
  have B6 := btr B5 B5.size hb6
  exact h w7 (btr B6 B6.size hb7)
end Go.Proofs.Ytaanlildniiijaa
