import Derived.Test.YthbeeonmfbigcaaGreatDoorProg
import Derived.Lib.Bytealg
import Derived.Laws.Externs
import Derived.Test.YthbeeonmfbigcaaGreatDoorAt3
/- Documents of the program: whether one lies within another, how deep one is; a node put at a place, taken out. -/
namespace Go.Proofs.YthbeeonmfbigcaaGreatDoor
open Go.RowKit Go.Vc
set_option linter.unusedVariables false
set_option linter.unusedSimpArgs false
set_option maxRecDepth 100000
section
variable {w w1 w2 : World} {o o1 o2 : Nat → Nat} {θ : Th} {S : PS} {M : Nat → Prop} {bs : List Nat} {R : Ending → World → Prop}
theorem ptrL_H (h0 : slA S.D.sl 0 = none) {x : Nat} (hx : x = 0 ∨ ∃ s, slA S.D.sl x = some s) : ptrL S x = ptrH S.bs x := by
  unfold ptrL ptrH
  rcases hx with rfl | ⟨s, hs⟩
  · rw [h0]; simp
  · have : x ≠ 0 := fun e => by subst e; rw [h0] at hs; cases hs
    rw [hs, if_neg this]; simp
theorem lstI_R {p : Nat} (hp : p = 0 ∨ ∃ s, slA S.D.sl p = some s) : lstR S.D p = lstI S.D p := by
  unfold lstR lstI lstA
  by_cases h0 : p = 0
  · rw [if_pos h0, if_pos h0]
  · rw [if_neg h0, if_neg h0]
    obtain ⟨s, hs⟩ := hp.resolve_left h0
    obtain ⟨k, h1, h2, _⟩ := slA_iff.1 hs
    rw [h1, Nat.add_sub_cancel, h2, hs]
theorem pb_inj (h : PM w o θ S) {x y : Nat} {s t : Sl} (hx : slA S.D.sl x = some s) (hy : slA S.D.sl y = some t) (e : pb S.bs x = pb S.bs y) : x = y := by
  obtain ⟨i, i1, i2, i3, _⟩ := h.of hx
  obtain ⟨j, j1, j2, j3, _⟩ := h.of hy
  rw [e] at i2
  obtain rfl := nodup_col h i2 j2
  obtain ⟨i', a1, a2, a3, a4⟩ := slA_iff.1 hx
  obtain ⟨j', b1, b2, b3, b4⟩ := slA_iff.1 hy
  obtain rfl : i' = i := by omega
  obtain rfl : j' = i' := by omega
  rw [a2] at b2; cases b2
  exact a4.symm.trans b4
theorem idxOf_map {f : Nat → Nat} {a : Nat} : ∀ {l : List Nat}, (∀ x ∈ l, f x = f a → x = a) → (l.map f).idxOf (f a) = l.idxOf a
  | [], _ => rfl
  | x :: l, h => by
    rw [List.map_cons, List.idxOf_cons, List.idxOf_cons]
    by_cases e : x = a
    · subst e; simp
    · have h1 : f x ≠ f a := fun e2 => e (h x (by simp) e2)
      have e1 : (f x == f a) = false := by simpa using h1
      have e2 : (x == a) = false := by simpa using e
      rw [e1, e2]
      simp only [cond_false]
      rw [idxOf_map fun y hy => h y (by simp [hy])]
theorem take_drop_erase {a : Nat} : ∀ {l : List Nat}, a ∈ l → l.take (l.idxOf a) ++ l.drop (l.idxOf a + 1) = l.erase a
  | [], h => by simp at h
  | x :: l, h => by
    rw [List.idxOf_cons, List.erase_cons]
    by_cases e : x = a
    · subst e; simp
    · have e2 : (x == a) = false := by simpa using e
      rw [e2]
      simp only [cond_false, List.take_succ_cons, List.drop_succ_cons, List.cons_append, Bool.false_eq_true, if_false]
      rw [take_drop_erase ((List.mem_cons.1 h).resolve_left (Ne.symm e))]
theorem pb_cells (h : PM w o θ S) {x : Nat} {s : Sl} (hx : slA S.D.sl x = some s) : ∃ c t, w.heap[pb S.bs x]? = some (.cells c t (0, 0)) := by
  obtain ⟨i, i1, i2, i3, _⟩ := h.of hx
  obtain ⟨a, kv, hn⟩ := h.nodes _ _ _ i2 i3
  exact ⟨_, _, hn.blk⟩
theorem idxH_calls (h : PM w o θ S) {l : List Nat} {v : Sv} {a : Nat} {s : Sl} (hv : v.2.1 = l.length) (hr : Rd LPt w v.1 v.2.2 (l.map (pb S.bs))) (hl : l.length ≤ 1048576) (ha : slA S.D.sl a = some s) (hll : ∀ x ∈ l, ∃ t, slA S.D.sl x = some t) (hm : a ∈ l)
    (hK : R (.returned (.int .i64 (l.idxOf a : Nat))) w) : Calls Tryz.prog 80 #[slV v, .pointer (some ⟨pb S.bs a, 0, none⟩)] w R := by
  refine idx_calls (l := l.map (pb S.bs)) (by rw [List.length_map]; exact hv) hr (by rw [List.length_map]; exact hl) (fun x hx => ?_) (List.mem_map.2 ⟨a, hm, rfl⟩) ?_
  · rcases hx with rfl | hx
    · exact pb_cells h ha
    · obtain ⟨y, hy, rfl⟩ := List.mem_map.1 hx
      obtain ⟨t, ht⟩ := hll y hy
      exact pb_cells h ht
  · rw [idxOf_map fun x hx e => ?_]
    · exact hK
    · obtain ⟨t, ht⟩ := hll x hx
      exact pb_inj h ht ha e
theorem out_calls (h : PM w o θ S) {n : Nat} {s : Sl} (hn : slA S.D.sl n = some s) (hp : s.parent = 0 ∨ ∃ t, slA S.D.sl s.parent = some t) (hm : n ∈ lstI S.D s.parent) (hll : ∀ x ∈ lstI S.D s.parent, ∃ t, slA S.D.sl x = some t)
    (hK : ∀ w' o', PM w' o' θ { S with D := outI S.D n } → EvC (lcC s.parent) w o w' o' → R (.returned (.tuple #[])) w') : Calls Tryz.prog 138 #[.pointer (some ⟨θ.g, 0, none⟩), .pointer (some ⟨pb S.bs n, 0, none⟩)] w R := by
  obtain ⟨i, i1, i2, i3, i4⟩ := h.of hn
  have hpn : s.parent = 0 ∨ inN S.D.sl.length s.parent := (h.rng s (List.mem_of_getElem? i3)).par
  refine ok138 (some ⟨θ.g, 0, none⟩) (some ⟨pb S.bs n, 0, none⟩) ?_
  unfold F138
  simp only [NonNil_some, Addr.add_mk, Nat.zero_add, h.cPar i2 i3, Addr.add_mk, List.getElem?_toArray, List.getElem?_cons_zero, List.getElem?_cons_succ, LdI_some, LdB_some, LdStr_some, LdP_some, LdSl_some, LdM_some, Nat.zero_add, Br_t, Br_f]
  refine list_calls ⟨_, rfl, ?_⟩
  obtain ⟨v, cv, ov, rv, lv⟩ := h.list hpn
  rw [lstI_R hp] at ov lv
  obtain ⟨A, c, hv, hr⟩ := ov.form
  have hv2 : v = (A, (lstI S.D s.parent).length, c) := by
    obtain ⟨a1, a2, a3⟩ := v
    unfold slV at hv
    simp only [Value.slice.injEq, List.length_map] at hv
    obtain ⟨rfl, rfl, rfl⟩ := hv
    rfl
  have cv' : w.cell? (lad θ.g S.bs s.parent) = some (.slice A (lstI S.D s.parent).length c) := by rw [cv, hv2]; rfl
  simp only [NonNil_some, cv', LdSl_some]
  refine idxH_calls (v := (A, (lstI S.D s.parent).length, c)) h rfl hr lv hn hll hm ⟨_, rfl, ?_⟩
  simp only [NonNil_some, cv', LdSl_some]
  have hlt : (lstI S.D s.parent).idxOf n < (lstI S.D s.parent).length := List.idxOf_lt_length_iff.2 hm
  refine ⟨inR_i64 (by omega) (by omega), ?_⟩
  have e1 : (((lstI S.D s.parent).idxOf n : Nat) : Int) + 1 = (((lstI S.D s.parent).idxOf n + 1 : Nat) : Int) := by omega
  rw [e1]
  rw [hv2] at ov rv
  refine delP_calls ov (by omega) (by rw [List.length_map]; omega) fun v' w1 o1 f1 r1 => ⟨_, _, _, rfl, ?_⟩
  rw [← List.map_take, ← List.map_drop, ← List.map_append, take_drop_erase hm] at o1
  refine h.setList (v' := v') hpn rv f1 o1 r1 ⟨fun x hx => ?_, ?_⟩ fun w2 o2 h2 e2 => ?_
  · obtain ⟨t, ht⟩ := hll x (List.mem_of_mem_erase hx)
    obtain ⟨_, _, _, _, hin⟩ := h.of ht
    exact hin
  · exact Nat.le_trans List.length_erase_le lv
  · refine hK w2 o2 ?_ e2
    unfold outI
    rw [hn]; exact h2
theorem put_calls (h : PM w o θ S) {n p a : Nat} {wh : Int} {s : Sl} (hn : slA S.D.sl n = some s) (hp : p = 0 ∨ ∃ t, slA S.D.sl p = some t) (hll : ∀ x ∈ lstI S.D p, ∃ t, slA S.D.sl x = some t) (hfew : (lstI S.D p).length ≤ 4096)
    (ha : 2 < wh → a ∈ lstI S.D p) (hnp : n ≠ p)
    (hK : ∀ w' o', PM w' o' θ { S with D := updI (putI S.D n p wh a) n fun s => { s with parent := p } } → EvP w o w' o' → R (.returned (.tuple #[])) w') :
    Calls Tryz.prog 60 #[.pointer (some ⟨θ.g, 0, none⟩), .pointer (some ⟨pb S.bs n, 0, none⟩), .pointer (ptrH S.bs p), .int .i64 wh, .pointer (ptrH S.bs a)] w R := by
  obtain ⟨i, i1, i2, i3, i4⟩ := h.of hn
  have hpn : p = 0 ∨ inN S.D.sl.length p := by
    rcases hp with e | ⟨t, ht⟩
    · exact .inl e
    · obtain ⟨_, _, _, _, hin⟩ := h.of ht; exact .inr hin
  refine ok60 (some ⟨θ.g, 0, none⟩) (some ⟨pb S.bs n, 0, none⟩) (ptrH S.bs p) wh (ptrH S.bs a) ?_
  unfold F60
  refine list_calls ⟨_, rfl, ?_⟩
  obtain ⟨v, cv, ov, rv, lv⟩ := h.list hpn
  rw [lstI_R hp] at ov lv
  generalize hL : lstI S.D p = l at *
  obtain ⟨A, c, hv, hr⟩ := ov.form
  have hv2 : v = (A, l.length, c) := by
    obtain ⟨a1, a2, a3⟩ := v
    unfold slV at hv
    simp only [Value.slice.injEq, List.length_map] at hv
    obtain ⟨rfl, rfl, rfl⟩ := hv
    rfl
  have cv' : w.cell? (lad θ.g S.bs p) = some (.slice A l.length c) := by rw [cv, hv2]; rfl
  rw [hv2] at ov rv
  have hpos : posF wh a l ≤ l.length := by
    unfold posF
    split
    · omega
    · split
      · exact List.idxOf_le_length
      · split
        · have := List.idxOf_lt_length_iff.2 (ha (by omega)); omega
        · omega
  refine ⟨fun j w' => w = w' ∧ j = (posF wh a l : Nat), ?_, ?_⟩
  · rintro j _ ⟨rfl, rfl⟩
    unfold F60_j9
    simp only [NonNil_some, cv', LdSl_some]
    refine al fun gx w1 hb1 bx hgex => ?_
    have h1 := h.below hb1
    refine insP_calls (x := pb S.bs n) (ov.keep hb1) (by rw [List.length_map]; exact hpos) bx rfl (fun e => by
      have := rv gx e
      have := h.lt gx (by unfold lcl at this; split at this <;> omega)
      omega) (by rw [List.length_map]; omega) fun v' w2 o2 f2 r2 => ⟨_, _, _, rfl, ?_⟩
    rw [← List.map_take, ← List.map_drop, ← List.map_cons, ← List.map_append] at o2
    refine h1.setList (v' := v') (l := insAt l (posF wh a l) n) hpn rv f2 o2 r2 ⟨fun x hx => ?_, ?_⟩ fun w3 o3 h3 e3 => ?_
    · rcases mem_insAt.1 hx with rfl | hx
      · exact i4
      · obtain ⟨t, ht⟩ := hll x hx
        obtain ⟨_, _, _, _, hin⟩ := h.of ht
        exact hin
    · unfold insAt; simp; omega
    · have e4 : slA (setI S.D p (insAt l (posF wh a l) n)).sl n = some s := by
        rw [(setI_A (l := insAt l (posF wh a l) n) hp).1, setA_of hn, if_neg (fun e => hnp e.1)]
      obtain ⟨j, j1, j2, j3, j4⟩ := h3.of e4
      obtain rfl : i = j := by omega
      simp only [NonNil_some, Addr.add_mk, Nat.zero_add]
      have hlen3 : (setI S.D p (insAt l (posF wh a l) n)).sl.length = S.D.sl.length := by
        unfold setI; split
        · rfl
        · simp
      have := fun K => h3.stPar (K := K) j2 j3 (p := p) (by dsimp only; rw [hlen3]; exact hpn)
      refine this _ fun w4 h4 e4' => ?_
      refine hK w4 o3 ?_ (EvP.trans (EvP.trans (EvC.below hb1) (e3.mono fun c hc => ?_)) (e4'.mono fun c hc => ?_))
      · have e5 : ({ S with D := setI S.D p (insAt l (posF wh a l) n) } : PS).setS i { s with parent := p } = { S with D := updI (putI S.D n p wh a) n fun s => { s with parent := p } } := by
          unfold PS.setS updI putI
          rw [hL, i1, Nat.add_sub_cancel, modify_set _ _ _ _ j3]
        rw [← e5]; exact h4
      · unfold lcC at hc
        unfold pc
        split at hc <;> omega
      · unfold pc; omega
  · refine bre (fun h2 => ?_) (fun h2 => bre (fun h3 => ?_) (fun h3 => bre (fun h4 => ?_) (fun h4 => ?_)))
    · simp only [NonNil_some, cv', LdSl_some]
      exact ⟨trivial, by unfold posF; rw [if_pos h2]⟩
    · simp only [NonNil_some, cv', LdSl_some]
      have ham := ha (by omega)
      obtain ⟨t, ht⟩ := hll a ham
      have a0 : ptrH S.bs a = some ⟨pb S.bs a, 0, none⟩ := by
        unfold ptrH; rw [if_neg]
        rintro rfl; rw [slA_zero] at ht; cases ht
      rw [a0]
      refine idxH_calls (v := (A, l.length, c)) h rfl hr lv ht hll ham ⟨_, rfl, rfl, ?_⟩
      unfold posF; rw [if_neg h2, if_pos h3]
    · simp only [NonNil_some, cv', LdSl_some]
      have ham := ha (by omega)
      obtain ⟨t, ht⟩ := hll a ham
      have a0 : ptrH S.bs a = some ⟨pb S.bs a, 0, none⟩ := by
        unfold ptrH; rw [if_neg]
        rintro rfl; rw [slA_zero] at ht; cases ht
      rw [a0]
      have hlt := List.idxOf_lt_length_iff.2 ham
      refine idxH_calls (v := (A, l.length, c)) h rfl hr lv ht hll ham ⟨_, rfl, inR_i64 (by omega) (by omega), rfl, ?_⟩
      unfold posF; rw [if_neg h2, if_neg h3, if_pos h4]; omega
    · exact ⟨rfl, by unfold posF; rw [if_neg h2, if_neg h3, if_neg h4]; rfl⟩
noncomputable def chN (A : Nat → Option Sl) (bs : List Nat) (p : Option Addr) : Nat := by
  classical exact if h : ∃ d q, p = ptrH bs q ∧ Ch A q d then h.choose else 0
theorem chN_eq (h : PM w o θ S) {q d : Nat} (hq : Ch (slA S.D.sl) q d) : chN (slA S.D.sl) S.bs (ptrH S.bs q) = d := by
  have hex : ∃ d' q', ptrH S.bs q = ptrH S.bs q' ∧ Ch (slA S.D.sl) q' d' := ⟨d, q, rfl, hq⟩
  unfold chN
  rw [dif_pos hex]
  obtain ⟨q', e1, e2⟩ := hex.choose_spec
  generalize hex.choose = d' at e2 ⊢
  have : q = q' := by
    cases hq with
    | zero =>
      cases e2 with
      | zero => rfl
      | succ h0 _ _ => unfold ptrH at e1; rw [if_pos rfl, if_neg h0] at e1; cases e1
    | succ h0 ha _ =>
      cases e2 with
      | zero => unfold ptrH at e1; rw [if_neg h0, if_pos rfl] at e1; cases e1
      | succ h0' ha' _ =>
        unfold ptrH at e1; rw [if_neg h0, if_neg h0'] at e1
        simp only [Option.some.injEq, Addr.mk.injEq, and_true] at e1
        exact pb_inj h ha ha' e1
  rw [← this] at e2
  exact e2.fn hq
theorem within_calls (h : PM w o θ S) {n x c : Nat} {s : Sl} (hn : slA S.D.sl n = some s) (hc : Ch (slA S.D.sl) x c) (hc2 : c ≤ 64) (hx : x ≠ 0)
    (hK : R (.returned (.bool (wiI S.D n x))) w) : Calls Tryz.prog 143 #[.pointer (ptrH S.bs x), .pointer (some ⟨pb S.bs n, 0, none⟩)] w R := by
  refine ok143 (ptrH S.bs x) (some ⟨pb S.bs n, 0, none⟩) ?_
  unfold F143
  have hok : ∀ q d, Ch (slA S.D.sl) q d → PtrOk w (ptrH S.bs q) (some ⟨pb S.bs n, 0, none⟩) := fun q d hq p r e1 e2 hne => by
    cases hq with
    | zero => unfold ptrH at e1; rw [if_pos rfl] at e1; cases e1
    | succ h0 ha _ =>
      unfold ptrH at e1; rw [if_neg h0] at e1; cases e1; cases e2
      exact ⟨pb_cells h ha, pb_cells h hn⟩
  refine ⟨fun n2 w' => w = w' ∧ ∃ q d, n2 = ptrH S.bs q ∧ Ch (slA S.D.sl) q d ∧ (wiI S.D n x = true ↔ q = n) , ?_, ?_⟩
  · rintro n2 _ ⟨rfl, q, d, rfl, hq, he⟩
    unfold F143_j3
    refine ⟨hok q d hq, ?_⟩
    have e : decide (ptrH S.bs q = some ⟨pb S.bs n, 0, none⟩) = wiI S.D n x := by
      rw [Bool.eq_iff_iff, decide_eq_true_eq, he]
      cases hq with
      | zero =>
        constructor
        · intro e; unfold ptrH at e; rw [if_pos rfl] at e; cases e
        · rintro rfl; rw [slA_zero] at hn; cases hn
      | succ h0 ha _ =>
        unfold ptrH; rw [if_neg h0]
        constructor
        · intro e
          simp only [Option.some.injEq, Addr.mk.injEq, and_true] at e
          exact pb_inj h ha hn e
        · rintro rfl; rfl
    rw [e]; exact hK
  · refine ⟨fun n2 w' => w = w' ∧ ∃ q d r, n2 = ptrH S.bs q ∧ Ch (slA S.D.sl) q d ∧ d < r ∧ wiB (slA S.D.sl) r n q = wiI S.D n x, fun n2 w' => chN (slA S.D.sl) S.bs n2, ⟨rfl, x, c, 65, rfl, hc, by omega, rfl⟩, ?_⟩
    rintro n2 _ ⟨rfl, q, d, r, rfl, hq, hr, he⟩
    have hm := chN_eq h hq
    unfold F143_l1
    refine ⟨fun w' => w = w' ∧ q ≠ 0 ∧ q ≠ n, ?_, ?_⟩
    · rintro _ ⟨rfl, hq0, hqn⟩
      unfold F143_j2
      cases hq with
      | zero => exact absurd rfl hq0
      | @succ _ d' t h0 ha h3 =>
        obtain ⟨k, k1, k2, k3, _⟩ := h.of ha
        have e : ptrH S.bs q = some ⟨pb S.bs q, 0, none⟩ := by unfold ptrH; rw [if_neg hq0]
        rw [e] at hm ⊢
        simp only [NonNil_some, Addr.add_mk, Nat.zero_add, h.cPar k2 k3, Addr.add_mk, List.getElem?_toArray, List.getElem?_cons_zero, List.getElem?_cons_succ, LdI_some, LdB_some, LdStr_some, LdP_some, LdSl_some, LdM_some, Nat.zero_add, Br_t, Br_f]
        obtain ⟨r', rfl⟩ : ∃ r', r = r' + 1 := ⟨r - 1, by omega⟩
        refine ⟨⟨trivial, t.parent, d', r', rfl, h3, by omega, ?_⟩, ?_⟩
        · rw [← he, wiB, if_neg hq0, if_neg hqn, ha]
        · rw [chN_eq h h3, hm]; omega
    · obtain ⟨r', rfl⟩ : ∃ r', r = r' + 1 := ⟨r - 1, by omega⟩
      have hJ3 : (wiI S.D n x = true ↔ q = n) → True ∧ ∃ q' d, ptrH S.bs q = ptrH S.bs q' ∧ Ch (slA S.D.sl) q' d ∧ (wiI S.D n x = true ↔ q' = n) := fun e => ⟨trivial, q, d, rfl, hq, e⟩
      cases hq with
      | zero =>
        have e : (ptrH S.bs 0).isNone = true := rfl
        rw [e]
        simp only [Bool.not_true, Br_f]
        refine hJ3 ?_
        rw [← he, wiB, if_pos rfl]
        constructor
        · intro h; cases h
        · rintro rfl; rw [slA_zero] at hn; cases hn
      | @succ _ d' t h0 ha h3 =>
        have e : ptrH S.bs q = some ⟨pb S.bs q, 0, none⟩ := by unfold ptrH; rw [if_neg h0]
        have e1 : (ptrH S.bs q).isNone = false := by rw [e]; rfl
        rw [e1]
        simp only [Bool.not_false, Br_t]
        refine ⟨hok q _ (.succ h0 ha h3), ?_⟩
        rw [brnot]
        refine brd (fun h4 => ?_) (fun h4 => ?_)
        · have hqn : q = n := by
            rw [e] at h4
            simp only [Option.some.injEq, Addr.mk.injEq, and_true] at h4
            exact pb_inj h ha hn h4
          refine hJ3 ?_
          rw [← he, wiB, if_neg h0, if_pos hqn]
          exact ⟨fun _ => hqn, fun _ => rfl⟩
        · refine ⟨trivial, h0, fun e2 => h4 ?_⟩
          rw [e, e2]
end
end Go.Proofs.YthbeeonmfbigcaaGreatDoor
/- Documents of the program: what is wrong with a tree; how deep a node's subtree is. -/
namespace Go.Proofs.YthbeeonmfbigcaaGreatDoor
open Go.RowKit Go.Vc
set_option linter.unusedVariables false
set_option linter.unusedSimpArgs false
set_option maxRecDepth 100000
theorem Tabs.sub {w w1 : World} (h : Tabs w) (hs : Sub w w1) : Tabs w1 := ⟨fun c hc => hs.cell (h.1 c hc), fun i hi => ⟨hs.cell (h.2 i hi).1, hs.cell (h.2 i hi).2⟩⟩
theorem looks_app : ∀ (l m : List Tr) (deep n : Nat), looksF (l ++ m) deep n = if (looksF l deep n).2 ≠ 0 then looksF l deep n else looksF m deep (looksF l deep n).1
  | [], m, deep, n => by simp [looksF]
  | x :: l, m, deep, n => by
    rw [List.cons_append, looksF]
    conv => rhs; rw [looksF]
    by_cases h : (lookF x deep n).2 ≠ 0
    · simp only [if_pos h]
    · simp only [if_neg h]
      exact looks_app l m deep _
theorem dpL_snoc (l : List Tr) (x : Tr) : dpL (l ++ [x]) = max (dpL l) (dpT x) := by
  induction l with
  | nil => simp [dpL]
  | cons y l ih => simp only [List.cons_append, dpL, ih]; omega
theorem subB {w w' : World} {gl : Nat} (hf : Fm (· = gl) w w') : Sub (but gl w) (but gl w') :=
  sub_only (fun b _ h => h) fun b hb h => hf.block b hb fun e => by
    have e : b = gl := e
    subst e
    rw [show Nat.beq b b = true from Nat.beq_refl b] at h; cases h
theorem look_calls : ∀ (x : Tr) {w : World} {gl deep n md : Nat} {e : E5} {R : Ending → World → Prop}, Blk w gl #[.int .i64 (n : Nat), .int .i64 (md : Nat)] 117 → RTr (but gl w) x e → Tabs (but gl w) → n ≤ 4096 → deep ≤ 65 → 1 ≤ deep → md ≤ 65 →
    (∀ w' n' md', Fm (· = gl) w w' → Blk w' gl #[.int .i64 (n' : Nat), .int .i64 (md' : Nat)] 117 → n' = (lookF x deep n).1 → ((lookF x deep n).2 = 0 → md' = max md (deep + dpT x - 1)) → R (.returned (.int .i64 (lookF x deep n).2)) w') →
    Calls Tryz.prog 57 #[.pointer (some ⟨gl, 0, none⟩), .agg #[.int .i64 e.kind, .string e.nm, slV e.ats, .string e.text, slV e.kids], .int .i64 (deep : Nat)] w R := by
  refine Tr.ind fun kind nm attrs text kids ih => ?_
  intro w gl deep n md e R hB hT hTb hn hd hd1 hmd hK
  have hT0 := hT
  simp only [RTr] at hT
  obtain ⟨t1, t2, t3, t4, t5, es, t6, t7, t8⟩ := hT
  have hel := t8.len
  refine ok57 (some ⟨gl, 0, none⟩) e.kind e.nm e.ats.1 e.ats.2.1 e.ats.2.2 e.text e.kids.1 e.kids.2.1 e.kids.2.2 (deep : Nat) ?_
  unfold F57
  refine al fun g4 w1 hb1 b4 hge4 => ?_
  have hgl := hB.lt
  have hB1 := hB.keep hb1
  have hne4 : g4 ≠ gl := by omega
  have hlook : lookF (.mk kind nm attrs text kids) deep n = if 64 < deep ∨ 4096 ≤ n then (n, 2) else if ownF kind nm attrs text ≠ 0 then (n, ownF kind nm attrs text) else if kind = 2 then (n + 1, 0) else looksF kids (deep + 1) (n + 1) := by rw [lookF]
  refine ⟨fun w' => w1 = w' ∧ ¬ (64 < deep ∨ 4096 ≤ n), ?_, ?_⟩
  · rintro _ ⟨rfl, hlim⟩
    rw [if_neg hlim] at hlook
    unfold F57_j3
    simp only [Addr.add_mk, Nat.zero_add, NonNil_some, b4.cell, List.getElem?_toArray, List.getElem?_cons_zero, List.getElem?_cons_succ, Addr.add_mk, List.getElem?_toArray, List.getElem?_cons_zero, List.getElem?_cons_succ, LdI_some, LdB_some, LdStr_some, LdP_some, LdSl_some, LdM_some, Nat.zero_add, Br_t, Br_f]
    have hs1 : Sub (but gl w) (but gl w1) := subB (.below hb1)
    refine own1_calls e.kind e.nm attrs e.ats e.text e.kids ((hTb.sub hs1).sub sub_of_only) ((t4.sub hs1).sub sub_of_only) fun w2 hb2 => ⟨_, rfl, ?_⟩
    rw [t1, t2, t3]
    have hB2 := hB1.keep hb2
    have b42 := b4.keep hb2
    refine brn (fun hne => ?_) (fun heq => ?_)
    · rw [if_pos hne] at hlook
      have := hK w2 n md (.below (btr hb1 hb1.size hb2)) hB2 (by rw [hlook]) (fun h => by rw [hlook] at h; exact absurd h hne)
      rw [hlook] at this; exact this
    rw [if_neg (by rw [heq]; simp)] at hlook
    simp only [Addr.add_mk, Nat.zero_add, NonNil_some, hB2.cell, List.getElem?_toArray, List.getElem?_cons_zero, List.getElem?_cons_succ, Addr.add_mk, List.getElem?_toArray, List.getElem?_cons_zero, List.getElem?_cons_succ, LdI_some, LdB_some, LdStr_some, LdP_some, LdSl_some, LdM_some, Nat.zero_add, Br_t, Br_f]
    have e5 : ((n : Nat) : Int) + 1 = ((n + 1 : Nat) : Int) := by omega
    rw [e5]
    refine ⟨inR_i64 (by omega) (by omega), st_blk hB2 (by simp) fun w3 hB3 f3 => ?_⟩
    simp only [List.setIfInBounds_toArray, List.set_cons_zero, List.set_cons_succ] at hB3
    simp only [Addr.add_mk, Nat.zero_add, NonNil_some, hB3.cell, List.getElem?_toArray, List.getElem?_cons_zero, List.getElem?_cons_succ, Addr.add_mk, List.getElem?_toArray, List.getElem?_cons_zero, List.getElem?_cons_succ, LdI_some, LdB_some, LdStr_some, LdP_some, LdSl_some, LdM_some, Nat.zero_add, Br_t, Br_f]
    refine st_blk hB3 (by simp) fun w4 hB4 f4 => ?_
    simp only [List.setIfInBounds_toArray, List.set_cons_zero, List.set_cons_succ] at hB4
    have e6 : (if ((deep : Nat) : Int) > ((md : Nat) : Int) then ((deep : Nat) : Int) else ((md : Nat) : Int)) = ((max md deep : Nat) : Int) := by
      split <;> omega
    rw [e6] at hB4
    have F4 : Fm (· = gl) w w4 := ((Fm.below (btr hb1 hb1.size hb2)).trans f3).trans f4
    have b44 : Blk w4 g4 _ 45 := (f3.trans f4).blk b42 (fun e => hne4 e)
    simp only [Addr.add_mk, Nat.zero_add, NonNil_some, b44.cell, List.getElem?_toArray, List.getElem?_cons_zero, List.getElem?_cons_succ, Addr.add_mk, List.getElem?_toArray, List.getElem?_cons_zero, List.getElem?_cons_succ, LdI_some, LdB_some, LdStr_some, LdP_some, LdSl_some, LdM_some, Nat.zero_add, Br_t, Br_f]
    have hpos : dpT (.mk kind nm attrs text kids) = if kind = 2 then 1 else 1 + dpL kids := by rw [dpT]
    refine bre (fun hk => ?_) (fun hk => ?_)
    · rw [if_pos (by rw [← t1]; exact hk)] at hlook hpos
      have := hK w4 (n + 1) (max md deep) F4 hB4 (by rw [hlook]) (fun _ => by rw [hpos]; omega)
      rw [hlook] at this; exact this
    · rw [if_neg (by rw [← t1]; exact hk)] at hlook hpos
      refine ⟨fun j w' => ∃ k n' md' : Nat, j = k ∧ k ≤ kids.length ∧ Fm (· = gl) w w' ∧ Blk w' gl #[.int .i64 (n' : Nat), .int .i64 (md' : Nat)] 117 ∧ (looksF (kids.take k) (deep + 1) (n + 1)).2 = 0 ∧ n' = (looksF (kids.take k) (deep + 1) (n + 1)).1 ∧ md' = max (max md deep) (deep + dpL (kids.take k)) ∧ n' ≤ 4096 ∧ md' ≤ 65, fun j _ => kids.length - j.toNat,
        ⟨0, n + 1, max md deep, rfl, by omega, F4, hB4, by simp [looksF], by simp [looksF], by simp [dpL], by omega, by omega⟩, ?_⟩
      rintro j w5 ⟨k, n5, md5, rfl, hk5, F5, hB5, q1, q2, q3, q4, q5⟩
      unfold F57_l11
      have hs5 : Sub (but gl w) (but gl w5) := subB F5
      have hr5 : Rd LE5 w5 e.kids.1 e.kids.2.2 es := sub_of_only.rd (hs5.rd t7)
      refine brd (fun hlt => ?_) (fun hge => ?_)
      · have hk6 : k < kids.length := by omega
        have hk7 : k < es.length := by omega
        refine hr5.e5 t6 rfl (k := k) hk7 fun bb oo c0 c1 c2 c3 c4 => ?_
        simp only [Addr.add_mk, Nat.zero_add, c0, c1, c2, c3, c4, Addr.add_mk, List.getElem?_toArray, List.getElem?_cons_zero, List.getElem?_cons_succ, LdI_some, LdB_some, LdStr_some, LdP_some, LdSl_some, LdM_some, Nat.zero_add, Br_t, Br_f]
        refine al fun kb w6 hb6 bk6 hge6 => ?_
        refine st_blk bk6 (by simp) fun u1 s1 f1 => st_blk s1 (by simp) fun u2 s2 f2 => st_blk s2 (by simp) fun u3 s3 f3 => st_blk s3 (by simp) fun u4 s4 f4 => st_blk s4 (by simp) fun w7 s5 f5 => ?_
        simp only [List.setIfInBounds_toArray, List.set_cons_zero, List.set_cons_succ] at s5
        have FK : Fm (· = kb) w6 w7 := (((f1.trans f2).trans f3).trans f4).trans f5
        have D7 : Below w5.heap.size w5 w7 := hb6.trans (FK.toBelow hb6.size fun b hb e => by have e : b = kb := e; omega)
        simp only [Addr.add_mk, Nat.zero_add, NonNil_some, s5.cell, List.getElem?_toArray, List.getElem?_cons_zero, List.getElem?_cons_succ, Addr.add_mk, List.getElem?_toArray, List.getElem?_cons_zero, List.getElem?_cons_succ, LdI_some, LdB_some, LdStr_some, LdP_some, LdSl_some, LdM_some, Nat.zero_add, Br_t, Br_f]
        have e8 : ((deep : Nat) : Int) + 1 = ((deep + 1 : Nat) : Int) := by omega
        rw [e8]
        have hs7 : Sub (but gl w) (but gl w7) := hs5.trans (subB (.below D7))
        refine ⟨inR_i64 (by omega) (by omega), ?_⟩
        refine ih kids[k] (List.getElem_mem hk6) (gl := gl) (n := n5) (md := md5) (e := es[k]) (hB5.keep D7) (RTr.sub hs7 _ _ (t8.get k hk6 hk7)) (hTb.sub hs7) q4 (by omega) (by omega) q5 fun w8 n8 md8 F8 hB8 z1 z2 => ⟨_, rfl, ?_⟩
        have F58 : Fm (· = gl) w w8 := (F5.trans (.below D7)).trans F8
        have hst := looks_app (kids.take k) [kids[k]] (deep + 1) (n + 1)
        rw [if_neg (by rw [q1]; simp), ← q2] at hst
        have hst2 : looksF [kids[k]] (deep + 1) n5 = lookF kids[k] (deep + 1) n5 := by
          rw [looksF]
          by_cases h : (lookF kids[k] (deep + 1) n5).2 ≠ 0
          · rw [if_pos h]
          · rw [if_neg h, looksF]
            have h : (lookF kids[k] (deep + 1) n5).2 = 0 := by simpa using h
            rw [← h]
        rw [hst2, ← List.take_succ_eq_append_getElem hk6] at hst
        refine brn (fun hne => ?_) (fun heq => ?_)
        · have hall := looks_app (kids.take (k + 1)) (kids.drop (k + 1)) (deep + 1) (n + 1)
          rw [List.take_append_drop, hst, if_pos hne] at hall
          rw [hall] at hlook
          have := hK w8 n8 md8 F58 hB8 (by rw [hlook]; exact z1) (fun h => by rw [hlook] at h; exact absurd h hne)
          rw [hlook] at this; exact this
        · obtain ⟨a1, a2, a3, a4⟩ := look_ok kids[k] (deep + 1) n5 heq
          have z2 := z2 heq
          refine ⟨inR_i64 (by omega) (by omega), ⟨k + 1, n8, md8, by simp, by omega, F58, hB8, by rw [hst]; exact heq, by rw [hst]; exact z1, ?_, by omega, by omega⟩, (by first | omega | (dsimp only; omega))⟩
          rw [List.take_succ_eq_append_getElem hk6, dpL_snoc]
          omega
      · have hk6 : k = kids.length := by omega
        subst hk6
        rw [List.take_length] at q1 q2 q3
        have := hK w5 n5 md5 F5 hB5 (by rw [hlook]; exact q2) (fun _ => by rw [hpos]; omega)
        rw [hlook, q1] at this; exact this
  · have hbad : (64 < deep ∨ 4096 ≤ n) → R (.returned (.int .i64 2)) w1 := fun h => by
      rw [if_pos h] at hlook
      have := hK w1 n md (.below hb1) hB1 (by rw [hlook]) (fun h => by rw [hlook] at h; cases h)
      rw [hlook] at this; exact this
    refine brd (fun h => hbad (.inl (by omega))) (fun h => ?_)
    simp only [Addr.add_mk, Nat.zero_add, NonNil_some, hB1.cell, List.getElem?_toArray, List.getElem?_cons_zero, List.getElem?_cons_succ, Addr.add_mk, List.getElem?_toArray, List.getElem?_cons_zero, List.getElem?_cons_succ, LdI_some, LdB_some, LdStr_some, LdP_some, LdSl_some, LdM_some, Nat.zero_add, Br_t, Br_f]
    exact brd (fun h2 => hbad (.inr (by omega))) (fun h2 => ⟨trivial, by omega⟩)
section
variable {w w1 w2 : World} {o o1 o2 : Nat → Nat} {θ : Th} {S : PS} {M : Nat → Prop} {bs : List Nat} {R : Ending → World → Prop}
theorem fmax_le {f : Nat → Nat} {r : Nat} : ∀ (l : List Nat) (a : Nat), a ≤ r → (∀ k ∈ l, f k ≤ r) → (l.map f).foldl max a ≤ r
  | [], a, ha, _ => by simpa using ha
  | x :: l, a, ha, h => by
    rw [List.map_cons, List.foldl_cons]
    have := h x (by simp)
    exact fmax_le l _ (by omega) fun k hk => h k (by simp [hk])
theorem fmax_snoc (l : List Nat) (a x : Nat) : (l ++ [x]).foldl max a = max (l.foldl max a) x := by simp
theorem depth_calls {loose : List Nat} (h : PM w o θ S) (hA : WfA (slA S.D.sl) S.D.roots loose) : ∀ (r x c : Nat) {s : Sl} {R : Ending → World → Prop}, slA S.D.sl x = some s → Ch (slA S.D.sl) x c → c + r = 65 → R (.returned (.int .i64 (dpA (slA S.D.sl) r x : Nat))) w →
    dpA (slA S.D.sl) r x ≤ r ∧ Calls Tryz.prog 144 #[.pointer (some ⟨pb S.bs x, 0, none⟩)] w R := by
  intro r
  induction r with
  | zero =>
    intro x c s R hx hc hr _
    obtain ⟨c', h1, h2⟩ := hA.chain x s hx
    have := hc.fn h2
    omega
  | succ r ih =>
    intro x c s R hx hc hr hK
    obtain ⟨i, i1, i2, i3, i4⟩ := h.of hx
    rw [dpA_some hx] at hK ⊢
    have hkid : ∀ k ∈ s.kids, ∃ t, slA S.D.sl k = some t ∧ t.parent = x := fun k hk => ((hA.kid x s hx).2 k hk).2
    have hch : ∀ k ∈ s.kids, Ch (slA S.D.sl) k (c + 1) := fun k hk => by
      obtain ⟨t, t1, t2⟩ := hkid k hk
      exact .succ (hA.ne0 t1) t1 (by rw [t2]; exact hc)
    have hrle : ∀ l : List Nat, (∀ k ∈ l, k ∈ s.kids) → (l.map (dpA (slA S.D.sl) r)).foldl max 0 ≤ r := fun l hl => fmax_le l 0 (Nat.zero_le _) fun k hk => by
      obtain ⟨t, t1, _⟩ := hkid k (hl k hk)
      exact (ih k (c + 1) (R := fun _ _ => True) t1 (hch k (hl k hk)) (by omega) trivial).1
    refine ⟨by have := hrle s.kids fun _ h => h; omega, ?_⟩
    obtain ⟨v, cv, ov, rv⟩ := h.cKids i2 i3
    obtain ⟨A, cc, hv, hrd⟩ := ov.form
    rw [List.length_map] at hv
    rw [hv] at cv
    refine ok144 (some ⟨pb S.bs x, 0, none⟩) ?_
    unfold F144
    simp only [NonNil_some, Addr.add_mk, Nat.zero_add, cv, Addr.add_mk, List.getElem?_toArray, List.getElem?_cons_zero, List.getElem?_cons_succ, LdI_some, LdB_some, LdStr_some, LdP_some, LdSl_some, LdM_some, Nat.zero_add, Br_t, Br_f]
    have hfew := (h.rng s (List.mem_of_getElem? i3)).few
    refine ⟨fun most j w' => w = w' ∧ ∃ k : Nat, j = k ∧ k ≤ s.kids.length ∧ most = (((s.kids.take k).map (dpA (slA S.D.sl) r)).foldl max 0 : Nat), fun _ j _ => s.kids.length - j.toNat, ⟨rfl, 0, rfl, by omega, by simp⟩, ?_⟩
    rintro most j _ ⟨rfl, k, rfl, hk, rfl⟩
    unfold F144_l3
    have hle := hrle (s.kids.take k) fun y hy => List.mem_of_mem_take hy
    refine brd (fun hlt => ?_) (fun hge => ?_)
    · have hk2 : k < s.kids.length := by omega
      refine hrd.pt (by rw [List.length_map]) rfl (k := k) (by rw [List.length_map]; exact hk2) fun bb oo c0 => ?_
      rw [List.getElem_map] at c0
      simp only [c0, Addr.add_mk, List.getElem?_toArray, List.getElem?_cons_zero, List.getElem?_cons_succ, LdI_some, LdB_some, LdStr_some, LdP_some, LdSl_some, LdM_some, Nat.zero_add, Br_t, Br_f]
      obtain ⟨t, t1, t2⟩ := hkid _ (List.getElem_mem hk2)
      have hc2 := hch _ (List.getElem_mem hk2)
      have hle2 := (ih s.kids[k] (c + 1) (R := fun _ _ => True) t1 hc2 (by omega) trivial).1
      refine (ih s.kids[k] (c + 1) t1 hc2 (by omega) ⟨_, rfl, inR_i64 (by omega) (by omega), ⟨rfl, k + 1, by simp, by omega, ?_⟩, (by first | omega | (dsimp only; omega))⟩).2
      rw [List.take_succ_eq_append_getElem hk2, List.map_append, List.map_singleton, fmax_snoc]
      split <;> omega
    · have hk2 : k = s.kids.length := by omega
      subst hk2
      rw [List.take_length] at hle ⊢
      refine ⟨inR_i64 (by omega) (by omega), ?_⟩
      have e : (((s.kids.map (dpA (slA S.D.sl) r)).foldl max 0 : Nat) : Int) + 1 = ((1 + (s.kids.map (dpA (slA S.D.sl) r)).foldl max 0 : Nat) : Int) := by omega
      rw [e]; exact hK
end
end Go.Proofs.YthbeeonmfbigcaaGreatDoor
/- Documents of the program: Insert, Move. -/
namespace Go.Proofs.YthbeeonmfbigcaaGreatDoor
open Go.RowKit Go.Vc
set_option linter.unusedVariables false
set_option linter.unusedSimpArgs false
set_option maxRecDepth 100000
section
variable {w w1 w2 : World} {o o1 o2 : Nat → Nat} {θ : Th} {S : PS} {M : Nat → Prop} {bs : List Nat} {R : Ending → World → Prop}
theorem lst_live {loose : List Nat} (hA : WfA (slA S.D.sl) S.D.roots loose) (p : Nat) : ∀ x ∈ lstI S.D p, ∃ t, slA S.D.sl x = some t := fun x hx => by
  obtain ⟨_, t, ht, _⟩ := (hA.lst p).2 x hx
  exact ⟨t, ht⟩
theorem lst_few {loose : List Nat} (hw : WfS S.D.sl) (hA : WfA (slA S.D.sl) S.D.roots loose) (p : Nat) : (lstI S.D p).length ≤ 4096 :=
  Nat.le_trans (live_few (lst_live hA p) (hA.lst p).1) hw.few
theorem upd_same {D : Im} {n : Nat} {f : Sl → Sl} {s : Sl} (hn : slA D.sl n = some s) (hf : f s = s) : updI D n f = D := by
  obtain ⟨k, h1, h2, _⟩ := slA_iff.1 hn
  unfold updI
  rw [h1, Nat.add_sub_cancel, modify_set _ _ _ _ h2, hf]
  have : D.sl.set k s = D.sl := by
    refine List.ext_getElem? fun j => ?_
    by_cases e : k = j
    · subst e; rw [List.getElem?_set_self (List.getElem?_eq_some_iff.1 h2).1, h2]
    · rw [List.getElem?_set_ne e]
  rw [this]
theorem insert_calls (h : PM w o θ S) (hp : PI S) (hw : Wf S.D) (hT : Tabs (wc o w)) {x : Tr} {e : E5} (hx : RTr (wc o w) x e) {wh : Int} {a : Nat} (ha : a < 18446744073709551616)
    (hK : ∀ w' o' S', PM w' o' θ S' → PI S' → S'.D = (insF S.D wh a x).1 → EvP w o w' o' → R (.returned (.tuple #[.int .u64 ((insF S.D wh a x).2.1 : Nat), .int .i64 (insF S.D wh a x).2.2])) w') :
    Calls Tryz.prog 35 #[.pointer (some ⟨θ.g, 0, none⟩), .int .i64 wh, .int .u64 (a : Nat), .agg #[.int .i64 e.kind, .string e.nm, slV e.ats, .string e.text, slV e.kids]] w R := by
  have h00 := slA_zero S.D.sl
  have hfewS := h.few
  refine ok35 (some ⟨θ.g, 0, none⟩) wh (a : Nat) e.kind e.nm e.ats.1 e.ats.2.1 e.ats.2.2 e.text e.kids.1 e.kids.2.1 e.kids.2.2 ?_
  unfold F35
  refine al fun g7 w1 hb1 b7 hge7 => ?_
  have h1 := h.below hb1
  refine shaped_calls ⟨_, rfl, ?_⟩
  rw [Bool.not_not]
  have hpl : (placeF S.D wh a) = if wh < 1 ∨ 4 < wh ∨ (a = 0 ∧ 2 < wh) then ((0, 1) : Nat × Int) else if a = 0 then (0, 0) else match slA S.D.sl a with
    | none => (0, 8)
    | some s => if wh ≤ 2 then (if s.kind = 2 then (0, 31) else (a, 0)) else (s.parent, 0) := by unfold placeF; rfl
  refine brd (fun hsh => ?_) (fun hsh => ?_)
  · rw [if_pos hsh] at hpl
    have e1 : insF S.D wh a x = (S.D, 0, 1) := by unfold insF; rw [hpl, if_pos rfl]
    have := hK w1 o S h1 hp (by rw [e1]) (EvC.below hb1)
    rw [e1] at this; exact this
  rw [if_neg hsh] at hpl
  have hne1 : (placeF S.D wh a).2 ≠ 1 := by
    rw [hpl]
    split
    · simp
    · split
      · simp
      · split
        · split <;> simp
        · simp
  refine al fun gl w2 hb2 bl hgel => ?_
  have h2 := h1.below hb2
  have b72 := b7.keep hb2
  have B12 := btr hb1 hb1.size hb2
  simp only [Addr.add_mk, Nat.zero_add, NonNil_some, b72.cell, List.getElem?_toArray, List.getElem?_cons_zero, List.getElem?_cons_succ, Addr.add_mk, List.getElem?_toArray, List.getElem?_cons_zero, List.getElem?_cons_succ, LdI_some, LdB_some, LdStr_some, LdP_some, LdSl_some, LdM_some, Nat.zero_add, Br_t, Br_f]
  have hlsub : Sub w (but gl w2) := old_but B12 (by have := hb1.size; omega)
  refine look_calls x (gl := gl) (deep := 1) (n := 0) (md := 0) (e := e) bl (RTr.sub (sub_of_only.trans hlsub) _ _ hx) (hT.sub (sub_of_only.trans hlsub)) (by omega) (by omega) (by omega) (by omega) fun w3 n3 md3 F3 hB3 q1 q2 => ⟨_, rfl, ?_⟩
  have og : o gl = 0 := Classical.byContradiction fun h0 => by have := h1.lt gl h0; have := hb1.size; omega
  have o7 : o g7 = 0 := Classical.byContradiction fun h0 => by have := h.lt g7 h0; omega
  have h3 : PM w3 o θ S := h2.keep F3 (fun b hb hm => by have hm : b = gl := hm; rw [hm, og] at hb; exact not_pc0 hb) (fun _ _ => rfl) fun b hb => Nat.lt_of_lt_of_le (h2.lt b hb) F3.size
  have E3 : EvP w o w3 o := ⟨(Fm.below B12).trans' F3 (fun b hb hm => by have hm : b = gl := hm; have := hb1.size; omega), fun _ _ => rfl, fun _ _ h => h, fun _ h => .inl h⟩
  refine brn (fun hne => ?_) (fun heq => ?_)
  · have e1 : insF S.D wh a x = (S.D, 0, (lookF x 1 0).2) := by unfold insF; rw [if_neg hne1, if_pos hne]
    have := hK w3 o S h3 hp (by rw [e1]) E3
    rw [e1] at this; exact this
  obtain ⟨k1, k2, k3, k4⟩ := look_ok x 1 0 heq
  have q2 := q2 heq
  rw [k2] at q1
  have hdpos := dpT_pos x
  have hmd : md3 = dpT x := by rw [q2]; omega
  refine atL_calls h3 ha fun w4 hb4 => ⟨_, rfl, ?_⟩
  have h4 := h3.below hb4
  have E4 := EvP.trans E3 (EvC.below hb4)
  have bl4 := hB3.keep hb4
  have b74 : Blk w4 g7 _ 45 := (F3.blk b72 (fun e => by have e : g7 = gl := e; have := b7.lt; omega)).keep hb4
  refine ⟨fun w' => w4 = w' ∧ (a = 0 ∨ ∃ s, slA S.D.sl a = some s), ?_, ?_⟩
  · rintro _ ⟨rfl, hae⟩
    unfold F35_j10
    rw [ptrL_H h00 hae]
    refine par_calls h4 hsh hae ⟨_, _, rfl, ?_⟩
    have hins : insF S.D wh a x = if (placeF S.D wh a).2 ≠ 0 then (S.D, 0, (placeF S.D wh a).2) else
        if 64 < cntI S.D (placeF S.D wh a).1 + dpT x then (S.D, 0, 32) else if 4096 < tk S.D.sl + szT x then (S.D, 0, 33) else
        (putI { S.D with sl := makeF x (placeF S.D wh a).1 S.D.sl } (freshH S.D.sl) (placeF S.D wh a).1 wh a, freshH S.D.sl, 0) := by
      unfold insF; rw [if_neg hne1, if_neg (by rw [heq]; simp)]
    refine brn (fun hne => ?_) (fun hpz => ?_)
    · rw [if_pos hne] at hins
      have := hK w4 o S h4 hp (by rw [hins]) E4
      rw [hins] at this; exact this
    rw [if_neg (by rw [hpz]; simp)] at hins
    obtain ⟨p1, p2, p3, p4, p5, p6⟩ := place_ok hw hpz
    generalize hP : (placeF S.D wh a).1 = p at *
    obtain ⟨c1, c2⟩ := hw.cnt (p1.imp id fun ⟨t, h, _⟩ => ⟨t, h⟩)
    have hd4 : Below w4.heap.size w4 w4.drew := (Below.refl _ _).drew
    refine ⟨fun w' => Below w4.heap.size w4 w', hd4, ?_⟩
    simp only [Addr.add_mk, Nat.zero_add]
    refine ⟨_, fun w' hb => by rw [(bl4.keep hb).cell]; rfl, ?_⟩
    refine level_calls (h4.below hd4) h00 c2 c1 ⟨_, rfl, hd4, ?_⟩
    refine ⟨inR_i64 (by clear p1; omega) (by clear p1; omega), inR_i64 (by clear p1; omega) (by clear p1; omega), ?_⟩
    refine brd (fun hgt => ?_) (fun hle => ?_)
    · rw [if_pos (by clear p1; omega)] at hins
      have := hK w4.drew o S (h4.below hd4) hp (by rw [hins]) (EvP.trans E4 (EvC.below hd4))
      rw [hins] at this; exact this
    rw [if_neg (by clear p1; omega)] at hins
    refine dr fun w5 hb5 _ => ?_
    have D5 := btr hd4 (by simp) hb5
    have h5 := h4.below D5
    have bl5 := bl4.keep D5
    obtain ⟨_, d2, d3, _⟩ := h5.cells
    have htk := tk_sum S.D.sl
    have hlv := hp.lv
    have hwn := hp.wn
    have htl := tk_le (sl := S.D.sl)
    simp only [NonNil_some, d2, d3, bl5.cell, List.getElem?_toArray, List.getElem?_cons_zero, List.getElem?_cons_succ, Addr.add_mk, List.getElem?_toArray, List.getElem?_cons_zero, List.getElem?_cons_succ, LdI_some, LdB_some, LdStr_some, LdP_some, LdSl_some, LdM_some, Nat.zero_add, Br_t, Br_f]
    refine ⟨inR_i64 (by clear p1; omega) (by clear p1; omega), inR_i64 (by clear p1; omega) (by clear p1; omega), ?_⟩
    refine brd (fun hgt => ?_) (fun hle2 => ?_)
    · rw [if_pos (by clear p1; omega)] at hins
      have := hK w5 o S h5 hp (by rw [hins]) (EvP.trans E4 (EvC.below D5))
      rw [hins] at this; exact this
    rw [if_neg (by clear p1; omega)] at hins
    have b75 := b74.keep D5
    simp only [Addr.add_mk, Nat.zero_add, NonNil_some, b75.cell, List.getElem?_toArray, List.getElem?_cons_zero, List.getElem?_cons_succ, Addr.add_mk, List.getElem?_toArray, List.getElem?_cons_zero, List.getElem?_cons_succ, LdI_some, LdB_some, LdStr_some, LdP_some, LdSl_some, LdM_some, Nat.zero_add, Br_t, Br_f]
    have E5 := EvP.trans E4 (EvC.below D5)
    refine make_calls x (p := p) (c := cntI S.D p) (loose := []) h5 hp k1 hw.s hw.a p1 c2 (by clear p1; omega) (by clear p1; omega) (RTr.sub E5.sub _ _ hx) fun w6 o6 S6 h6 p6' hD6 ⟨y6, hy6⟩ e6 => ⟨_, rfl, ?_⟩
    have Mk := make_wf x k1 hw.s hw.a p1 c2 (by clear p1; omega) (by clear p1; omega)
    obtain ⟨st, st1, st2⟩ := Mk.top
    have hne0 : freshH S.D.sl ≠ 0 := by unfold freshH hnd; omega
    have hsl6 : S6.D.sl = makeF x p S.D.sl := by rw [hD6]
    have hro6 : S6.D.roots = S.D.roots := by rw [hD6]
    have hn6 : slA S6.D.sl (freshH S.D.sl) = some st := by rw [hsl6]; exact st1
    have hA6 : WfA (slA S6.D.sl) S6.D.roots [freshH S.D.sl] := by rw [hsl6, hro6]; exact Mk.wf
    have hpe : p = 0 ∨ ∃ t, slA S6.D.sl p = some t := by
      rcases p1 with e | ⟨t, ht, _⟩
      · exact .inl e
      · exact .inr ⟨t, by rw [hsl6]; exact Mk.ext _ _ ht⟩
    have hptr : ptrH S6.bs (freshH S.D.sl) = some ⟨pb S6.bs (freshH S.D.sl), 0, none⟩ := by unfold ptrH; rw [if_neg hne0]
    have hpp : ptrH S.bs p = ptrH S6.bs p := by
      rw [hy6]
      refine (ptr_ext ?_).symm
      rw [h.len]; exact live_inN p1
    have hpa : ptrH S.bs a = ptrH S6.bs a := by
      rw [hy6]
      refine (ptr_ext ?_).symm
      rw [h.len]
      rcases hae with e | ⟨s, hs⟩
      · exact .inl e
      · obtain ⟨_, _, _, _, hin⟩ := h.of hs; exact .inr hin
    have hnp : freshH S.D.sl ≠ p := fun e => by
      rcases p1 with e1 | ⟨t, ht, _⟩
      · exact hne0 (e.trans e1)
      · rw [← e, Mk.new] at ht; cases ht
    rw [hptr, hpp, hpa]
    have hlst6 : lstI S6.D p = lstI S.D p := by
      unfold lstI lstA
      rw [hro6]
      by_cases h0 : p = 0
      · rw [if_pos h0, if_pos h0]
      · rw [if_neg h0, if_neg h0]
        obtain ⟨t, ht, _⟩ := p1.resolve_left h0
        rw [ht, hsl6, Mk.ext _ _ ht]
    refine put_calls h6 hn6 hpe (lst_live hA6 p) (lst_few (by rw [hsl6]; exact Mk.wfs) hA6 p) (fun h2 => ?_) hnp fun w7 o7 h7 e7 => ⟨rfl, ?_⟩
    · rw [hlst6]
      obtain ⟨s, s1, s2⟩ := p4 h2
      have := hw.a.mem a s s1 (by simp)
      rw [s2] at this; exact this
    have hput : updI (putI S6.D (freshH S.D.sl) p wh a) (freshH S.D.sl) (fun s => { s with parent := p }) = putI S6.D (freshH S.D.sl) p wh a := by
      have e4 : slA (putI S6.D (freshH S.D.sl) p wh a).sl (freshH S.D.sl) = some st := by
        unfold putI
        rw [(setI_A (l := insAt (lstI S6.D p) (posF wh a (lstI S6.D p)) (freshH S.D.sl)) hpe).1, setA_of hn6, if_neg (fun e => hnp e.1)]
      refine upd_same e4 ?_
      cases st
      simp only at st2
      simp only [st2]
    rw [hput] at h7
    have e4 : slA (putI S6.D (freshH S.D.sl) p wh a).sl (freshH S.D.sl) = some st := by
      unfold putI
      rw [(setI_A (l := insAt (lstI S6.D p) (posF wh a (lstI S6.D p)) (freshH S.D.sl)) hpe).1, setA_of hn6, if_neg (fun e => hnp e.1)]
    refine hnd_calls h7 e4 fun w8 hb8 => ⟨_, rfl, ?_⟩
    have p7 : PI { S6 with D := putI S6.D (freshH S.D.sl) p wh a } := by
      unfold putI setI
      by_cases h0 : p = 0
      · rw [if_pos h0]; exact ⟨p6'.lv, p6'.wn, p6'.lo, p6'.lo2⟩
      · rw [if_neg h0]
        obtain ⟨t, ht⟩ := hpe.resolve_left h0
        obtain ⟨k, m1, m2, _⟩ := slA_iff.1 ht
        rw [m1, Nat.add_sub_cancel, modify_set _ _ _ _ m2]
        exact p6'.set (s' := { t with kids := insAt (lstI S6.D p) (posF wh a (lstI S6.D p)) (freshH S.D.sl) }) m2 rfl rfl
    have := hK w8 o7 { S6 with D := putI S6.D (freshH S.D.sl) p wh a } (h7.below hb8) p7 (by rw [hins, hD6]) (EvP.trans (EvP.trans (EvP.trans E5 (e6.mono fun c h => h.1)) e7) (EvC.below hb8))
    rw [hins] at this; exact this
  · have hbad : slA S.D.sl a = none → a ≠ 0 → R (.returned (.tuple #[.int .u64 0, .int .i64 8])) w4 := fun hn h0 => by
      rw [if_neg h0, hn] at hpl
      have e1 : insF S.D wh a x = (S.D, 0, 8) := by unfold insF; rw [if_neg hne1, if_neg (by rw [heq]; simp), if_pos (by rw [hpl]; simp), hpl]
      have := hK w4 o S h4 hp (by rw [e1]) E4
      rw [e1] at this; exact this
    refine brn (fun h0 => ?_) (fun h0 => ⟨rfl, .inl (by omega)⟩)
    have h0 : a ≠ 0 := by omega
    cases hs : slA S.D.sl a with
    | none =>
      have e : ptrL S a = none := by unfold ptrL; rw [hs]; rfl
      rw [e]
      simp only [Option.isNone_none, Br_t]
      exact hbad hs h0
    | some s =>
      have e : (ptrL S a).isNone = false := by unfold ptrL; rw [hs]; rfl
      rw [e, Br_f]
      exact ⟨rfl, .inr ⟨s, rfl⟩⟩
theorem PI.setI (h : PI S) {p : Nat} {l : List Nat} (hp : p = 0 ∨ ∃ s, slA S.D.sl p = some s) : PI { S with D := setI S.D p l } := by
  unfold Go.Proofs.YthbeeonmfbigcaaGreatDoor.setI
  by_cases h0 : p = 0
  · rw [if_pos h0]; exact ⟨h.lv, h.wn, h.lo, h.lo2⟩
  · rw [if_neg h0]
    obtain ⟨t, ht⟩ := hp.resolve_left h0
    obtain ⟨k, m1, m2, _⟩ := slA_iff.1 ht
    rw [m1, Nat.add_sub_cancel, modify_set _ _ _ _ m2]
    exact h.set (s' := { t with kids := l }) m2 rfl rfl
theorem PI.updI (h : PI S) {n : Nat} {s : Sl} {f : Sl → Sl} (hn : slA S.D.sl n = some s) (hl : (f s).live = s.live) (hg : (f s).gen = s.gen) : PI { S with D := updI S.D n f } := by
  unfold Go.Proofs.YthbeeonmfbigcaaGreatDoor.updI
  obtain ⟨k, m1, m2, _⟩ := slA_iff.1 hn
  rw [m1, Nat.add_sub_cancel, modify_set _ _ _ _ m2]
  exact h.set (s' := f s) m2 hl hg
theorem dpA_fuel {A : Nat → Option Sl} {roots loose : List Nat} (hA : WfA A roots loose) : ∀ (r x c : Nat) {s : Sl}, A x = some s → Ch A x c → c + r = 65 → ∀ r', r ≤ r' → dpA A r x = dpA A r' x := by
  intro r
  induction r with
  | zero =>
    intro x c s hx hc hr r' _
    obtain ⟨c', h1, h2⟩ := hA.chain x s hx
    have := hc.fn h2
    omega
  | succ r ih =>
    intro x c s hx hc hr r' hr'
    obtain ⟨q, rfl⟩ : ∃ q, r' = q + 1 := ⟨r' - 1, by omega⟩
    rw [dpA_some hx, dpA_some hx]
    congr 2
    refine List.map_congr_left fun k hk => ?_
    obtain ⟨_, t, t1, t2⟩ := (hA.kid x s hx).2 k hk
    exact ih k (c + 1) t1 (.succ (hA.ne0 t1) t1 (by rw [t2]; exact hc)) (by omega) q (by omega)
theorem allA_fuel {A : Nat → Option Sl} {roots loose : List Nat} (hA : WfA A roots loose) : ∀ (r x c : Nat) {s : Sl}, A x = some s → Ch A x c → c + r = 65 → ∀ r', r ≤ r' → allA A r x = allA A r' x := by
  intro r
  induction r with
  | zero =>
    intro x c s hx hc hr r' _
    obtain ⟨c', h1, h2⟩ := hA.chain x s hx
    have := hc.fn h2
    omega
  | succ r ih =>
    intro x c s hx hc hr r' hr'
    obtain ⟨q, rfl⟩ : ∃ q, r' = q + 1 := ⟨r' - 1, by omega⟩
    rw [allA_some hx, allA_some hx]
    congr 1
    rw [List.flatMap_def, List.flatMap_def]
    congr 1
    refine List.map_congr_left fun k hk => ?_
    obtain ⟨_, t, t1, t2⟩ := (hA.kid x s hx).2 k hk
    exact ih k (c + 1) t1 (.succ (hA.ne0 t1) t1 (by rw [t2]; exact hc)) (by omega) q (by omega)
theorem mov_facts {D : Im} (hw : Wf D) {n a : Nat} {wh : Int} {s : Sl} (hs : slA D.sl n = some s) (h3 : ¬ (a ≠ 0 ∧ wiI D n a = true)) (h4 : (placeF D wh a).2 = 0) :
    ¬ Wi (slA D.sl) n (placeF D wh a).1 ∧ n ≠ (placeF D wh a).1 ∧ n ≠ s.parent ∧ n ≠ a := by
  obtain ⟨p1, p2, p3, p4, p5, p6⟩ := place_ok hw h4
  have n0 := hw.a.ne0 hs
  have hwa : ∀ t, slA D.sl a = some t → Wi (slA D.sl) n a → False := fun t ht hwi => h3 ⟨hw.a.ne0 ht, (hw.wi n0 ht).2 hwi⟩
  have hwp : ¬ Wi (slA D.sl) n (placeF D wh a).1 := fun hwi => by
    by_cases hwh : wh ≤ 2
    · have := p5 hwh
      rw [this] at hwi
      rcases p6 with e | ⟨t, ht⟩
      · rw [e] at hwi
        cases hwi with
        | self => exact n0 rfl
        | up ha _ => rw [hw.a.zero] at ha; cases ha
      · exact hwa t ht hwi
    · obtain ⟨t, t1, t2⟩ := p4 (by omega)
      rw [← t2] at hwi
      exact hwa t t1 (.up t1 hwi)
  refine ⟨hwp, fun e => hwp (by rw [← e]; exact .self), fun e => wi_par hw.a hs (by rw [← e]; exact .self), fun e => ?_⟩
  subst e
  exact hwa s hs .self
theorem move_calls (h : PM w o θ S) (hp : PI S) (hw : Wf S.D) {wh : Int} {n a : Nat} (hn : n < 18446744073709551616) (ha : a < 18446744073709551616)
    (hK : ∀ w' o' S', PM w' o' θ S' → PI S' → S'.D = (movF S.D n wh a).1 → EvP w o w' o' → R (.returned (.int .i64 (movF S.D n wh a).2)) w') :
    Calls Tryz.prog 132 #[.pointer (some ⟨θ.g, 0, none⟩), .int .u64 (n : Nat), .int .i64 wh, .int .u64 (a : Nat)] w R := by
  have h00 := slA_zero S.D.sl
  refine ok132 (some ⟨θ.g, 0, none⟩) (n : Nat) wh (a : Nat) ?_
  unfold F132
  refine shaped_calls ⟨_, rfl, ?_⟩
  rw [Bool.not_not]
  have hpl : (placeF S.D wh a) = if wh < 1 ∨ 4 < wh ∨ (a = 0 ∧ 2 < wh) then ((0, 1) : Nat × Int) else if a = 0 then (0, 0) else match slA S.D.sl a with
    | none => (0, 8)
    | some s => if wh ≤ 2 then (if s.kind = 2 then (0, 31) else (a, 0)) else (s.parent, 0) := by unfold placeF; rfl
  refine brd (fun hsh => ?_) (fun hsh => ?_)
  · rw [if_pos hsh] at hpl
    have e1 : movF S.D n wh a = (S.D, 1) := by unfold movF; rw [hpl, if_pos rfl]
    have := hK w o S h hp (by rw [e1]) EvC.refl
    rw [e1] at this; exact this
  rw [if_neg hsh] at hpl
  have hne1 : (placeF S.D wh a).2 ≠ 1 := by
    rw [hpl]
    split
    · simp
    · split
      · simp
      · split
        · split <;> simp
        · simp
  refine atL_calls h hn fun w1 hb1 => ⟨_, rfl, ?_⟩
  have h1 := h.below hb1
  refine atL_calls h1 ha fun w2 hb2 => ⟨_, rfl, ?_⟩
  have h2 := h1.below hb2
  have B2 := btr hb1 hb1.size hb2
  have E2 : EvP w o w2 o := EvC.below B2
  have bad8 : (slA S.D.sl n = none ∨ (placeF S.D wh a).2 = 8) → R (.returned (.int .i64 8)) w2 := fun hb => by
    have e1 : movF S.D n wh a = (S.D, 8) := by unfold movF; rw [if_neg hne1, if_pos hb]
    have := hK w2 o S h2 hp (by rw [e1]) E2
    rw [e1] at this; exact this
  refine ⟨fun w' => w2 = w' ∧ (a = 0 ∨ ∃ s, slA S.D.sl a = some s) ∧ (∃ s, slA S.D.sl n = some s) ∧ ¬ (a ≠ 0 ∧ wiI S.D n a = true), ?_, ?_⟩
  · rintro _ ⟨rfl, hae, ⟨s, hs⟩, hnw⟩
    unfold F132_j8
    have n0 := hw.a.ne0 hs
    rw [ptrL_H h00 hae, ptrL_H h00 (.inr ⟨s, hs⟩)]
    have hne8 : ¬ (slA S.D.sl n = none ∨ (placeF S.D wh a).2 = 8) := by
      rintro (e | e)
      · rw [hs] at e; cases e
      · rw [hpl] at e
        rcases hae with e1 | ⟨t, ht⟩
        · rw [if_pos e1] at e; cases e
        · rw [if_neg (hw.a.ne0 ht), ht] at e
          dsimp only at e
          split at e
          · split at e <;> cases e
          · cases e
    have hmov : movF S.D n wh a = if (placeF S.D wh a).2 ≠ 0 then (S.D, (placeF S.D wh a).2) else
        if 64 < cntI S.D (placeF S.D wh a).1 + dpA (slA S.D.sl) 65 n then (S.D, 32) else
        (updI (putI (outI S.D n) n (placeF S.D wh a).1 wh a) n fun s => { s with parent := (placeF S.D wh a).1 }, 0) := by
      unfold movF; rw [if_neg hne1, if_neg hne8, if_neg hnw]
    refine par_calls h2 hsh hae ⟨_, _, rfl, ?_⟩
    refine brn (fun hne => ?_) (fun hpz => ?_)
    · rw [if_pos hne] at hmov
      have := hK w2 o S h2 hp (by rw [hmov]) E2
      rw [hmov] at this; exact this
    rw [if_neg (by rw [hpz]; simp)] at hmov
    obtain ⟨p1, p2, p3, p4, p5, p6⟩ := place_ok hw hpz
    obtain ⟨m1, m2, m3, m4⟩ := mov_facts hw hs hnw hpz
    generalize hP : (placeF S.D wh a).1 = p at *
    obtain ⟨c1, c2⟩ := hw.cnt (p1.imp id fun ⟨t, h, _⟩ => ⟨t, h⟩)
    refine level_calls h2 h00 c2 c1 ⟨_, rfl, ?_⟩
    have hptr : ptrH S.bs n = some ⟨pb S.bs n, 0, none⟩ := by unfold ptrH; rw [if_neg n0]
    rw [hptr]
    obtain ⟨cn, cn1, cn2⟩ := hw.a.chain n s hs
    have hcn0 : 0 < cn := by
      cases cn2 with
      | zero => exact absurd rfl n0
      | succ _ _ _ => omega
    have hdp : dpA (slA S.D.sl) (65 - cn) n = dpA (slA S.D.sl) 65 n := dpA_fuel hw.a (65 - cn) n cn hs cn2 (by omega) 65 (by omega)
    have d1 := (depth_calls h2 hw.a (65 - cn) n cn hs cn2 (by clear p1; omega) (R := fun _ _ => True) trivial).1
    refine ⟨inR_i64 (by clear p1; omega) (by clear p1; omega), (depth_calls h2 hw.a (65 - cn) n cn hs cn2 (by clear p1; omega) ⟨_, rfl, ?_⟩).2⟩
    rw [hdp] at d1 ⊢
    refine ⟨inR_i64 (by clear p1; omega) (by clear p1; omega), ?_⟩
    refine brd (fun hgt => ?_) (fun hle => ?_)
    · rw [if_pos (by clear p1; omega)] at hmov
      have := hK w2 o S h2 hp (by rw [hmov]) E2
      rw [hmov] at this; exact this
    rw [if_neg (by clear p1; omega)] at hmov
    obtain ⟨o1, o2, o3, o4⟩ := out_wf hw hs
    have hpar := (hw.a.par n s hs).imp id (fun ⟨t, ht, _⟩ => (⟨t, ht⟩ : ∃ t, slA S.D.sl s.parent = some t))
    refine out_calls h2 hs hpar (hw.a.mem n s hs (by simp)) (lst_live hw.a _) fun w3 o3' h3 e3 => ⟨rfl, ?_⟩
    have hs1 : slA (outI S.D n).sl n = some s := by rw [o3, setA_of hs, if_neg (fun e => m3 e.1)]
    have pe1 : p = 0 ∨ ∃ t, slA (outI S.D n).sl p = some t := by
      rcases p1 with e | ⟨t, ht, _⟩
      · exact .inl e
      · rw [o3]
        obtain ⟨u, u1, _⟩ := setA_of' (p := s.parent) (l := (lstI S.D s.parent).erase n) ht
        exact .inr ⟨u, u1⟩
    have hp3 : PI { S with D := outI S.D n } := by
      have e : outI S.D n = setI S.D s.parent ((lstI S.D s.parent).erase n) := by unfold outI; rw [hs]
      rw [e]; exact hp.setI hpar
    have hlst : ∀ q, (q = 0 ∨ ∃ t, slA S.D.sl q = some t) → lstI (outI S.D n) q = if q = s.parent then (lstI S.D s.parent).erase n else lstI S.D q := fun q hq => by
      unfold lstI at o3 o4 ⊢
      rw [o3, o4]
      exact lst_setA hq hw.a.zero
    refine put_calls h3 hs1 pe1 (lst_live (S := { S with D := outI S.D n }) o2 p) (lst_few (S := { S with D := outI S.D n }) o1 o2 p) (fun h2' => ?_) m2 fun w4 o4' h4 e4 => ⟨rfl, ?_⟩
    · show a ∈ lstI (outI S.D n) p
      obtain ⟨t, t1, t2⟩ := p4 h2'
      have hmem := hw.a.mem a t t1 (by simp)
      rw [t2] at hmem
      rw [hlst p (p1.imp id fun ⟨t, h, _⟩ => ⟨t, h⟩)]
      split
      · rename_i e
        rw [← e]
        exact (List.mem_erase_of_ne (Ne.symm m4)).2 hmem
      · exact hmem
    · have hs2 : slA (putI (outI S.D n) n p wh a).sl n = some s := by
        unfold putI
        rw [(setI_A (l := insAt (lstI (outI S.D n) p) (posF wh a (lstI (outI S.D n) p)) n) pe1).1, setA_of hs1, if_neg (fun e => m2 e.1)]
      have hp4 : PI { S with D := putI (outI S.D n) n p wh a } := by
        unfold putI
        exact hp3.setI pe1
      have hp5 := PI.updI (f := fun s => { s with parent := p }) hp4 hs2 rfl rfl
      have := hK w4 o4' _ h4 hp5 (by rw [hmov]) (EvP.trans (EvP.trans E2 (e3.mono fun c hc => ?_)) e4)
      · rw [hmov] at this; exact this
      · unfold lcC at hc
        unfold pc
        split at hc <;> clear p1 <;> omega
  · cases hs : slA S.D.sl n with
    | none =>
      have e : (ptrL S n).isNone = true := by unfold ptrL; rw [hs]; rfl
      rw [e, Br_t]
      exact bad8 (.inl hs)
    | some s =>
      have e : (ptrL S n).isNone = false := by unfold ptrL; rw [hs]; rfl
      rw [e, Br_f]
      have n0 := hw.a.ne0 hs
      refine brn (fun h0 => ?_) (fun h0 => ?_)
      · have h0 : a ≠ 0 := by omega
        cases hsa : slA S.D.sl a with
        | none =>
          have e : (ptrL S a).isNone = true := by unfold ptrL; rw [hsa]; rfl
          rw [e, Br_t]
          refine bad8 (.inr ?_)
          rw [hpl, if_neg h0, hsa]
        | some t =>
          have e : (ptrL S a).isNone = false := by unfold ptrL; rw [hsa]; rfl
          rw [e, Br_f]
          simp only [Bool.not_false, Br_t]
          obtain ⟨c, c1, c2⟩ := hw.a.chain a t hsa
          rw [ptrL_H h00 (.inr ⟨t, hsa⟩), ptrL_H h00 (.inr ⟨s, hs⟩)]
          have hptr : ptrH S.bs n = some ⟨pb S.bs n, 0, none⟩ := by unfold ptrH; rw [if_neg n0]
          rw [hptr]
          refine within_calls h2 hs c2 c1 h0 ⟨_, rfl, ?_⟩
          have hne8 : ¬ (slA S.D.sl n = none ∨ (placeF S.D wh a).2 = 8) := by
            rintro (e | e)
            · rw [hs] at e; cases e
            · rw [hpl, if_neg h0, hsa] at e
              dsimp only at e
              split at e
              · split at e <;> cases e
              · cases e
          refine br (fun hwi => ?_) (fun hwi => ⟨rfl, .inr ⟨t, rfl⟩, ⟨s, rfl⟩, fun e => ?_⟩)
          · have e1 : movF S.D n wh a = (S.D, 34) := by unfold movF; rw [if_neg hne1, if_neg hne8, if_pos ⟨h0, hwi⟩]
            have := hK w2 o S h2 hp (by rw [e1]) E2
            rw [e1] at this; exact this
          · rw [hwi] at e; cases e.2
      · have h0 : a = 0 := by omega
        have e : (ptrL S a).isNone = true := by unfold ptrL; rw [h0, h00]; rfl
        rw [e]
        simp only [Bool.not_true, Br_f]
        exact ⟨trivial, .inl h0, ⟨s, rfl⟩, fun e => e.1 h0⟩
end
end Go.Proofs.YthbeeonmfbigcaaGreatDoor
/- Documents of the program: Delete. -/
namespace Go.Proofs.YthbeeonmfbigcaaGreatDoor
open Go.RowKit Go.Vc
set_option linter.unusedVariables false
set_option linter.unusedSimpArgs false
set_option maxRecDepth 100000
def postA (A : Nat → Option Sl) : Nat → Nat → List Nat
  | 0, _ => []
  | r + 1, x => (match A x with | some s => s.kids.flatMap (postA A r) | none => []) ++ [x]
theorem postA_some {A : Nat → Option Sl} {r x : Nat} {s : Sl} (h : A x = some s) : postA A (r + 1) x = s.kids.flatMap (postA A r) ++ [x] := by rw [postA, h]
theorem flatMap_perm {f g : Nat → List Nat} : ∀ (l : List Nat), (∀ a ∈ l, (f a).Perm (g a)) → (l.flatMap f).Perm (l.flatMap g)
  | [], _ => List.Perm.refl _
  | x :: l, h => by
    rw [List.flatMap_cons, List.flatMap_cons]
    exact (h x (by simp)).append (flatMap_perm l fun a ha => h a (by simp [ha]))
theorem post_perm (A : Nat → Option Sl) : ∀ (r x : Nat), (postA A r x).Perm (allA A r x)
  | 0, x => by simp [postA, allA]
  | r + 1, x => by
    rw [postA, allA]
    cases A x with
    | none => exact List.Perm.refl _
    | some s => exact (List.perm_append_singleton x _).trans (List.Perm.cons x (flatMap_perm _ fun k _ => post_perm A r k))
theorem killF_get : ∀ (L : List Nat) (sl : List Sl) (k : Nat), (killF sl L)[k]? = (sl[k]?).map fun s => if (∃ h ∈ L, h % 4294967296 - 1 = k) then deadS s.gen else s
  | [], sl, k => by
    unfold killF
    simp
  | h :: L, sl, k => by
    have e : killF sl (h :: L) = killF (sl.modify (h % 4294967296 - 1) fun s => deadS s.gen) L := rfl
    have hm : (sl.modify (h % 4294967296 - 1) fun s => deadS s.gen)[k]? = (sl[k]?).map fun s => if h % 4294967296 - 1 = k then deadS s.gen else s := by
      rw [List.getElem?_modify]; cases sl[k]? <;> rfl
    rw [e, killF_get L, hm, Option.map_map]
    congr 1
    funext s
    simp only [Function.comp]
    by_cases e2 : h % 4294967296 - 1 = k
    · simp only [if_pos e2]
      rw [if_pos (show ∃ y ∈ h :: L, y % 4294967296 - 1 = k from ⟨h, by simp, e2⟩)]
      split <;> rfl
    · simp only [if_neg e2]
      by_cases e3 : ∃ y ∈ L, y % 4294967296 - 1 = k
      · rw [if_pos e3]
        obtain ⟨y, y1, y2⟩ := e3
        rw [if_pos (show ∃ y ∈ h :: L, y % 4294967296 - 1 = k from ⟨y, by simp [y1], y2⟩)]
      · rw [if_neg e3, if_neg]
        rintro ⟨y, y1, y2⟩
        rcases List.mem_cons.1 y1 with rfl | y1
        · exact e2 y2
        · exact e3 ⟨y, y1, y2⟩
theorem killF_mem {L L' : List Nat} (h : ∀ y, y ∈ L ↔ y ∈ L') (sl : List Sl) : killF sl L = killF sl L' := by
  refine List.ext_getElem? fun k => ?_
  rw [killF_get, killF_get]
  have : (∃ h ∈ L, h % 4294967296 - 1 = k) = (∃ h ∈ L', h % 4294967296 - 1 = k) := by
    apply propext
    constructor <;> rintro ⟨y, y1, y2⟩
    · exact ⟨y, (h y).1 y1, y2⟩
    · exact ⟨y, (h y).2 y1, y2⟩
  simp only [this]
theorem killF_app (sl : List Sl) (L L' : List Nat) : killF sl (L ++ L') = killF (killF sl L) L' := by
  unfold killF; rw [List.foldl_append]
theorem killF_one {sl : List Sl} {x k : Nat} {s : Sl} (hk : x % 4294967296 = k + 1) (hs : sl[k]? = some s) : killF sl [x] = sl.set k (deadS s.gen) := by
  unfold killF
  rw [List.foldl_cons, List.foldl_nil, hk, Nat.add_sub_cancel, modify_set _ _ _ _ hs]
def Cg (c : Nat) : Prop := c = 1 ∨ c = 2 ∨ c = 3 ∨ (8 ≤ c ∧ c % 4 = 0)
section
variable {w w1 w2 : World} {o o1 o2 : Nat → Nat} {θ : Th} {S : PS} {M : Nat → Prop} {bs : List Nat} {R : Ending → World → Prop}
theorem EvG.trans {w : World} {o : Nat → Nat} (h : EvC Cg w o w1 o1) (k : EvC Cg w1 o1 w2 o2) (hlt : ∀ b, o b ≠ 0 → b < w.heap.size) : EvC Cg w o w2 o2 :=
  h.trans (by unfold Cg; omega) hlt (fun _ _ h => h) k
theorem gone_calls {A : Nat → Option Sl} {roots loose : List Nat} (hA : WfA A roots loose) : ∀ (r x c : Nat) {s : Sl} {w : World} {o : Nat → Nat} {S : PS} {R : Ending → World → Prop}, A x = some s → (∀ z, z ∈ loose → z = x ∨ ¬ Wi A x z) → Ch A x c → c + r = 65 →
    PM w o θ S → PI S → WfS S.D.sl → (∀ y, y ∈ allA A r x → slA S.D.sl y = A y) →
    (∀ w' S', PM w' o θ S' → PI S' → S'.D = { S.D with sl := killF S.D.sl (postA A r x) } → S'.bs = S.bs → EvC Cg w o w' o → R (.returned (.tuple #[])) w') →
    Calls Tryz.prog 139 #[.pointer (some ⟨θ.g, 0, none⟩), .pointer (some ⟨pb S.bs x, 0, none⟩)] w R := by
  intro r
  induction r with
  | zero =>
    intro x c s w o S R hx hll hc hr
    obtain ⟨c', h1, h2⟩ := hA.chain x s hx
    have := hc.fn h2
    omega
  | succ r ih =>
    intro x c s w o S R hx hll hc hr h hp hw heq hK
    have hall := allA_some (r := r) hx
    have hpost := postA_some (r := r) hx
    have hnd : (allA A (r + 1) x).Nodup := all_nodup hA (r + 1) x ⟨s, hx⟩ hll
    rw [hall, List.nodup_cons] at hnd
    obtain ⟨hnd1, hnd2⟩ := hnd
    have hsx : slA S.D.sl x = some s := by rw [heq x (by rw [hall]; simp)]; exact hx
    obtain ⟨i, i1, i2, i3, i4⟩ := h.of hsx
    have hob := h.nc i _ i2
    have hkid : ∀ k ∈ s.kids, ∃ t, A k = some t ∧ t.parent = x := fun k hk => ((hA.kid x s hx).2 k hk).2
    obtain ⟨v, cv, ov, rv⟩ := h.cKids i2 i3
    obtain ⟨Ad, cc, hv, hrd0⟩ := ov.form
    rw [List.length_map] at hv
    have hv2 : v = (Ad, s.kids.length, cc) := by
      obtain ⟨a1, a2, a3⟩ := v
      unfold slV at hv
      simp only [Value.slice.injEq] at hv
      obtain ⟨rfl, rfl, rfl⟩ := hv
      rfl
    rw [hv] at cv
    have hfewk := (h.rng s (List.mem_of_getElem? i3)).few
    refine ok139 (some ⟨θ.g, 0, none⟩) (some ⟨pb S.bs x, 0, none⟩) ?_
    unfold F139
    simp only [NonNil_some, Addr.add_mk, Nat.zero_add, cv, Addr.add_mk, List.getElem?_toArray, List.getElem?_cons_zero, List.getElem?_cons_succ, LdI_some, LdB_some, LdStr_some, LdP_some, LdSl_some, LdM_some, Nat.zero_add, Br_t, Br_f]
    have hlive : ∀ k, ∀ y ∈ (s.kids.take k).flatMap (postA A r), y ∈ allA A (r + 1) x ∧ y ≠ x := fun k y hy => by
      obtain ⟨z, z1, z2⟩ := List.mem_flatMap.1 hy
      have z3 : y ∈ s.kids.flatMap (allA A r) := List.mem_flatMap.2 ⟨z, List.mem_of_mem_take z1, (post_perm A r z).mem_iff.1 z2⟩
      refine ⟨by rw [hall]; exact List.mem_cons_of_mem _ z3, fun e => hnd1 (e ▸ z3)⟩
    have hndk : ∀ k, ((s.kids.take k).flatMap (postA A r)).Nodup := fun k => by
      have h1 : ((s.kids.take k).flatMap (postA A r)).Perm ((s.kids.take k).flatMap (allA A r)) := flatMap_perm _ fun y _ => post_perm A r y
      refine h1.nodup_iff.2 ?_
      have h2 : s.kids.flatMap (allA A r) = (s.kids.take k).flatMap (allA A r) ++ (s.kids.drop k).flatMap (allA A r) := by rw [← List.flatMap_append, List.take_append_drop]
      rw [h2, List.nodup_append] at hnd2
      exact hnd2.1
    have hex : ∀ y ∈ allA A (r + 1) x, ∃ t, slA S.D.sl y = some t := fun y hy => by
      rw [heq y hy]
      exact all_live hA ⟨s, hx⟩ hll hy
    have WK : ∀ k, WfS (killF S.D.sl ((s.kids.take k).flatMap (postA A r))) ∧ ∀ y, slA (killF S.D.sl ((s.kids.take k).flatMap (postA A r))) y = if y ∈ (s.kids.take k).flatMap (postA A r) then none else slA S.D.sl y := fun k =>
      killF_A _ _ hw (hndk k) fun y hy => hex y (hlive k y hy).1
    refine ⟨fun j w' => ∃ (k : Nat) (S' : PS), j = k ∧ k ≤ s.kids.length ∧ PM w' o θ S' ∧ PI S' ∧ S'.D = { S.D with sl := killF S.D.sl ((s.kids.take k).flatMap (postA A r)) } ∧ S'.bs = S.bs ∧ EvC Cg w o w' o, fun j _ => s.kids.length - j.toNat,
      ⟨0, S, rfl, by omega, h, hp, by simp [killF], rfl, EvC.refl⟩, ?_⟩
    rintro j w1 ⟨k, S1, rfl, hk, h1, hp1, hD1, hb1, e1⟩
    unfold F139_l1
    have hsl1 : S1.D.sl = killF S.D.sl ((s.kids.take k).flatMap (postA A r)) := by rw [hD1]
    have ov1 : Own LPt w1 0 111 (slV v) (s.kids.map (pb S.bs)) := own_fm ov e1.fm fun b hb hm => by
      have := rv b hb
      rw [this] at hm
      unfold Cg at hm; omega
    rw [hv2] at ov1
    obtain ⟨hvn, hrd⟩ := ov1.rd
    refine brd (fun hlt => ?_) (fun hge => ?_)
    · have hk2 : k < s.kids.length := by omega
      refine hrd.pt (by rw [List.length_map]) rfl (k := k) (by rw [List.length_map]; exact hk2) fun bb oo c0 => ?_
      rw [List.getElem_map] at c0
      simp only [c0, Addr.add_mk, List.getElem?_toArray, List.getElem?_cons_zero, List.getElem?_cons_succ, LdI_some, LdB_some, LdStr_some, LdP_some, LdSl_some, LdM_some, Nat.zero_add, Br_t, Br_f]
      obtain ⟨t, t1, t2⟩ := hkid _ (List.getElem_mem hk2)
      have hck : Ch A s.kids[k] (c + 1) := .succ (hA.ne0 t1) t1 (by rw [t2]; exact hc)
      rw [← hb1]
      have hkl : ∀ z, z ∈ loose → z = s.kids[k] ∨ ¬ Wi A s.kids[k] z := fun z hz => by
        refine .inr fun hwi => ?_
        obtain ⟨d, hd⟩ := hwi.de
        have h2 := hd.down t1 t2
        rcases hll z hz with e | e
        · exact hA.de_ne ⟨s, hx⟩ z d h2 e
        · exact e h2.wi
      refine ih s.kids[k] (c + 1) t1 hkl hck (by omega) h1 hp1 (by rw [hsl1]; exact (WK k).1) (fun y hy => ?_) fun w2 S2 h2 hp2 hD2 hb2 e2 => ⟨rfl, inR_i64 (by omega) (by omega), ⟨k + 1, S2, by simp, by omega, h2, hp2, ?_, by rw [hb2, hb1], EvG.trans e1 e2 h.lt⟩, (by first | omega | (dsimp only; omega))⟩
      · have hyall : y ∈ s.kids.flatMap (allA A r) := List.mem_flatMap.2 ⟨_, List.getElem_mem hk2, hy⟩
        rw [hsl1, (WK k).2, if_neg, heq y (by rw [hall]; exact List.mem_cons_of_mem _ hyall)]
        intro hm
        have h2 : s.kids.flatMap (allA A r) = (s.kids.take k).flatMap (allA A r) ++ (s.kids.drop k).flatMap (allA A r) := by rw [← List.flatMap_append, List.take_append_drop]
        rw [h2, List.nodup_append] at hnd2
        refine hnd2.2.2 y ?_ y ?_ rfl
        · obtain ⟨z, z1, z2⟩ := List.mem_flatMap.1 hm
          exact List.mem_flatMap.2 ⟨z, z1, (post_perm A r z).mem_iff.1 z2⟩
        · rw [List.drop_eq_getElem_cons hk2]
          exact List.mem_flatMap.2 ⟨s.kids[k], List.mem_cons_self, hy⟩
      · rw [hD2, hD1]
        dsimp only
        rw [List.take_succ_eq_append_getElem hk2, List.flatMap_append, killF_app]
        simp
    · have hk2 : k = s.kids.length := by omega
      subst hk2
      rw [List.take_length] at hsl1 hD1
      have hd1 : Below w1.heap.size w1 w1.drew := (Below.refl _ _).drew
      have WKf := WK s.kids.length
      rw [List.take_length] at WKf
      have hxn : x ∉ s.kids.flatMap (postA A r) := fun hm => by
        have := hlive s.kids.length x (by rw [List.take_length]; exact hm)
        exact this.2 rfl
      have hs1 : slA S1.D.sl x = some s := by rw [hsl1, WKf.2, if_neg hxn]; exact hsx
      obtain ⟨i', a1, a2, a3, a4⟩ := h1.of hs1
      obtain rfl : i = i' := by omega
      rw [hb1] at a2
      have a2' : S1.bs[i]? = some (pb S.bs x) := by rw [hb1]; exact a2
      generalize hbb : pb S.bs x = b at *
      have ci := h1.cIdx a2' a3
      have cg := h1.cGen a2' a3
      simp only [Addr.add_mk, Nat.zero_add, NonNil_some]
      refine ⟨fun w' => Below w1.heap.size w1 w', hd1, ?_⟩
      refine ⟨_, fun w' hb => by rw [(sub_below hb).cell ci], ?_⟩
      refine ⟨_, fun w' hb => by rw [(sub_below hb).cell cg], ?_⟩
      obtain ⟨a0, kv0, hn⟩ := h1.nodes i b s a2' a3
      have hn0 := hn.blk.keep hd1
      refine st_blk hn0 (by simp [nodeC]) fun u1 s1 f1 => st_blk s1 (by simp [nodeC]) fun u2 s2 f2 => st_blk s2 (by simp [nodeC]) fun u3 s3 f3 => st_blk s3 (by simp [nodeC]) fun u4 s4 f4 => st_blk s4 (by simp [nodeC]) fun u5 s5 f5 => st_blk s5 (by simp [nodeC]) fun u6 s6 f6 => st_blk s6 (by simp [nodeC]) fun u7 s7 f7 => st_blk s7 (by simp [nodeC]) fun u8 s8 f8 => st_blk s8 (by simp [nodeC]) fun w2 s9 f9 => ?_
      have s9 : Blk w2 b (nodeC i (deadS s.gen) (none, 0, 0) (ptrH S1.bs (deadS s.gen).parent) (none, 0, 0)) 134 := by simpa [nodeC, deadS, ptrH, noB] using s9
      have F2 : Fm (· = b) w1 w2 := ((((((((((Fm.below hd1).trans f1).trans f2).trans f3).trans f4).trans f5).trans f6).trans f7).trans f8).trans f9)
      have hob1 := h1.nc i b a2'
      have hrs := h1.rng s (List.mem_of_getElem? a3)
      obtain ⟨h2, _⟩ := h1.setNode (r := none) (c := 9 + 4 * i) a2' a3 F2 (fun x hx => .inl (.inl (by have e : x = b := hx; rw [e]; exact hob1))) (.inl rfl) (fun x hx => by cases hx) (a := (none, 0, 0)) (kv := (none, 0, 0)) (s' := deadS s.gen)
        ⟨s9, Own.nil _ _ _ _, fun x hx => (by cases hx), Own.nil _ _ _ _, fun x hx => (by cases hx)⟩ ⟨hrs.gen, .inl rfl, by simp [deadS], by simp [deadS], by simp [deadS]⟩
      rw [cl_none] at h2
      have e2 : EvC Cg w1 o w2 o := ⟨F2.mono fun y _ e => by have e : y = b := e; rw [e, hob1]; unfold Cg; omega, fun _ _ => rfl, fun _ _ h => h, fun _ h => .inl h⟩
      have hlv1 := hp1.lv
      have hwn1 := hp1.wn
      have hll1 := slA_live hs1
      have ls := live_set (b := deadS s.gen) a3
      have ws := worn_set (b := deadS s.gen) a3
      rw [hll1] at ls ws
      simp only [show (deadS s.gen).live = false from rfl, show (deadS s.gen).gen = s.gen from rfl, if_true, Bool.false_eq_true, if_false, Bool.not_true, Bool.false_and, Bool.not_false, Bool.true_and, Nat.add_zero] at ls ws
      obtain ⟨_, d2, d3, d4⟩ := h2.cells
      have d2 : w2.cell? ⟨θ.g, 2, none⟩ = some (.int .i64 (S1.lv : Nat)) := d2
      simp only [NonNil_some, d2, Addr.add_mk, List.getElem?_toArray, List.getElem?_cons_zero, List.getElem?_cons_succ, LdI_some, LdB_some, LdStr_some, LdP_some, LdSl_some, LdM_some, Nat.zero_add, Br_t, Br_f]
      have hcn := h1.cnt
      have e5 : ((S1.lv : Nat) : Int) - 1 = ((S1.lv - 1 : Nat) : Int) := by omega
      rw [e5]
      refine ⟨inR_i64 (by omega) (by omega), h2.stLive (S1.lv - 1) (by omega) fun w3 h3 e3 => ?_⟩
      have e3 : EvC Cg w2 o w3 o := e3.mono fun c hc => by unfold Cg; omega
      have hsl3 : (S1.setS i (deadS s.gen)).D.sl = S1.D.sl.set i (deadS s.gen) := rfl
      have hbd3 : (S1.setS i (deadS s.gen)).bs[i]? = some b := a2'
      have hgd3 : (S1.D.sl.set i (deadS s.gen))[i]? = some (deadS s.gen) := by simp [(List.getElem?_eq_some_iff.1 a3).1]
      have fin : ∀ {w' : World} {S' : PS}, PM w' o θ S' → S'.D = (S1.setS i (deadS s.gen)).D → S'.bs = S1.bs → S'.lv = S1.lv - 1 → S'.wn = wornN (S1.D.sl.set i (deadS s.gen)) → S'.lo ≤ S1.lo → S'.lo ≤ i → EvC Cg w3 o w' o → R (.returned (.tuple #[])) w' := by
        intro w' S' h' hD' hbs' hlv' hwn' hlo' hlo2' e'
        have hlt := (List.getElem?_eq_some_iff.1 a3).1
        refine hK w' S' h' ⟨?_, ?_, ?_, ?_⟩ ?_ (by rw [hbs', hb1]) (EvG.trans (EvG.trans (EvG.trans e1 e2 h.lt) e3 h.lt) e' h.lt)
        · rw [hlv', hD', hsl3]; omega
        · rw [hwn', hD', hsl3]
        · rw [hD', hsl3, List.length_set]; have := hp1.lo; omega
        · intro j t hj ht
          rw [hD', hsl3, List.getElem?_set_ne (by omega)] at ht
          exact hp1.lo2 j t (by omega) ht
        · rw [hD']
          show { S1.D with sl := S1.D.sl.set i (deadS s.gen) } = _
          rw [hD1]
          dsimp only
          rw [hpost, killF_app, killF_one i1 (by rw [← hsl1]; exact a3)]
      have cg3 := h3.cGen hbd3 hgd3
      have cg3 : w3.cell? ⟨b, 1, none⟩ = some (.int .u32 (s.gen : Nat)) := cg3
      refine ⟨fun w' => ∃ S', PM w' o θ S' ∧ S'.D = (S1.setS i (deadS s.gen)).D ∧ S'.bs = S1.bs ∧ S'.lv = S1.lv - 1 ∧ S'.wn = wornN (S1.D.sl.set i (deadS s.gen)) ∧ S'.lo = S1.lo ∧ EvC Cg w3 o w' o, ?_, ?_⟩
      · rintro w4 ⟨S4, h4, D4, B4, L4, W4, O4, e4⟩
        unfold F139_j9
        have hd4 : Below w4.heap.size w4 w4.drew := (Below.refl _ _).drew
        obtain ⟨_, _, _, d44⟩ := h4.cells
        have ci4 := h4.cIdx (i := i) (b := b) (s := deadS s.gen) (by rw [B4]; exact a2') (by rw [D4]; exact hgd3)
        have hi4 : i < 4096 := by have := (List.getElem?_eq_some_iff.1 a3).1; have := h1.few; omega
        refine ⟨fun w' => Below w4.heap.size w4 w', hd4, ?_⟩
        simp only [NonNil_some]
        refine ⟨_, fun w' hb => by rw [Addr.add_mk, Nat.zero_add, (sub_below hb).cell d44], ?_⟩
        refine ⟨_, fun w' hb => by rw [(sub_below hb).cell ci4], ?_⟩
        have e6 : ((i + 1 : Nat) : Int) - 1 = ((i : Nat) : Int) := by omega
        refine ⟨inR_i64 (by omega) (by omega), inR_i64 (by omega) (by omega), ?_⟩
        simp only [e6]
        have e7 : (if ((i : Nat) : Int) < ((S4.lo : Nat) : Int) then ((i : Nat) : Int) else ((S4.lo : Nat) : Int)) = ((min i S4.lo : Nat) : Int) := by split <;> omega
        rw [e7]
        have h4d := h4.below hd4
        rw [Addr.add_mk, Nat.zero_add]
        refine h4d.stLow (min i S4.lo) (by omega) fun w5 h5 e5 => ?_
        refine fin (S' := { S4 with lo := min i S4.lo }) h5 D4 B4 L4 W4 (by show min i S4.lo ≤ S1.lo; omega) (by show min i S4.lo ≤ i; omega) (EvG.trans (EvG.trans e4 (EvC.below hd4) h3.lt) (e5.mono fun c hc => by unfold Cg; omega) h3.lt)
      · simp only [NonNil_some, Addr.add_mk, Nat.zero_add, cg3, Addr.add_mk, List.getElem?_toArray, List.getElem?_cons_zero, List.getElem?_cons_succ, LdI_some, LdB_some, LdStr_some, LdP_some, LdSl_some, LdM_some, Nat.zero_add, Br_t, Br_f]
        refine bre (fun hg => ?_) (fun hg => ?_)
        · obtain ⟨_, _, d3, _⟩ := h3.cells
          have d3 : w3.cell? ⟨θ.g, 3, none⟩ = some (.int .i64 (S1.wn : Nat)) := d3
          simp only [NonNil_some, d3, Addr.add_mk, List.getElem?_toArray, List.getElem?_cons_zero, List.getElem?_cons_succ, LdI_some, LdB_some, LdStr_some, LdP_some, LdSl_some, LdM_some, Nat.zero_add, Br_t, Br_f]
          have e8 : ((S1.wn : Nat) : Int) + 1 = ((S1.wn + 1 : Nat) : Int) := by omega
          rw [e8]
          have hg : s.gen = 4294967295 := by omega
          have hdg : (decide (4294967295 ≤ s.gen)) = true := decide_eq_true (by omega)
          rw [hdg] at ws
          simp only [if_true] at ws
          have hwlt : S1.wn + 1 ≤ 4096 := by
            have := tk_sum (S1.D.sl.set i (deadS s.gen))
            have := tk_le (sl := S1.D.sl.set i (deadS s.gen))
            rw [List.length_set] at this
            have := h1.few
            omega
          refine ⟨inR_i64 (by omega) (by omega), h3.stWorn (S1.wn + 1) hwlt fun w4 h4 e4 => ⟨_, h4, rfl, rfl, rfl, ?_, rfl, e4.mono fun c hc => by unfold Cg; omega⟩⟩
          show S1.wn + 1 = _
          omega
        · have hdg : (decide (4294967295 ≤ s.gen)) = false := decide_eq_false (by have := hrs.gen; omega)
          rw [hdg] at ws
          simp only [Bool.false_eq_true, if_false, Nat.add_zero] at ws
          refine ⟨_, h3, rfl, rfl, rfl, ?_, rfl, EvC.refl⟩
          show S1.wn = _
          omega
theorem delete_calls (h : PM w o θ S) (hp : PI S) (hw : Wf S.D) {n : Nat} (hn : n < 18446744073709551616)
    (hK : ∀ w' o' S', PM w' o' θ S' → PI S' → S'.D = (delF S.D n).1 → EvP w o w' o' → R (.returned (.int .i64 (delF S.D n).2)) w') :
    Calls Tryz.prog 130 #[.pointer (some ⟨θ.g, 0, none⟩), .int .u64 (n : Nat)] w R := by
  refine ok130 (some ⟨θ.g, 0, none⟩) (n : Nat) ?_
  unfold F130
  refine atL_calls h hn fun w1 hb1 => ⟨_, rfl, ?_⟩
  have h1 := h.below hb1
  cases hs : slA S.D.sl n with
  | none =>
    have e : (ptrL S n).isNone = true := by unfold ptrL; rw [hs]; rfl
    rw [e, Br_t]
    have e1 : delF S.D n = (S.D, 8) := by unfold delF; rw [hs]
    have := hK w1 o S h1 hp (by rw [e1]) (EvC.below hb1)
    rw [e1] at this; exact this
  | some s =>
    have e : (ptrL S n).isNone = false := by unfold ptrL; rw [hs]; rfl
    rw [e, Br_f]
    have n0 := hw.a.ne0 hs
    have e1 : delF S.D n = ({ outI S.D n with sl := killF (outI S.D n).sl (allA (slA S.D.sl) 65 n) }, 0) := by unfold delF; rw [hs]
    have hptr : ptrL S n = some ⟨pb S.bs n, 0, none⟩ := by unfold ptrL; rw [hs]; rfl
    rw [hptr]
    obtain ⟨o1, o2, o3, o4⟩ := out_wf hw hs
    have hpar := (hw.a.par n s hs).imp id (fun ⟨t, ht, _⟩ => (⟨t, ht⟩ : ∃ t, slA S.D.sl s.parent = some t))
    refine out_calls h1 hs hpar (hw.a.mem n s hs (by simp)) (lst_live hw.a _) fun w2 o2' h2 e2 => ⟨rfl, ?_⟩
    have hnq : n ≠ s.parent := fun e => wi_par hw.a hs (by rw [← e]; exact .self)
    have hs1 : slA (outI S.D n).sl n = some s := by rw [o3, setA_of hs, if_neg (fun e => hnq e.1)]
    have hp2 : PI { S with D := outI S.D n } := by
      have e : outI S.D n = setI S.D s.parent ((lstI S.D s.parent).erase n) := by unfold outI; rw [hs]
      rw [e]; exact hp.setI hpar
    have hpa : ∀ x t, slA S.D.sl x = some t → ∃ u, slA (outI S.D n).sl x = some u ∧ u.parent = t.parent := by rw [o3]; exact setA_pa
    have hap : ∀ x t, slA (outI S.D n).sl x = some t → ∃ u, slA S.D.sl x = some u ∧ u.parent = t.parent := by rw [o3]; exact setA_ap
    obtain ⟨c, c1, c2⟩ := hw.a.chain n s hs
    have hll0 : ∀ z, z ∈ [n] → z = n ∨ ¬ Wi (slA (outI S.D n).sl) n z := fun z hz => .inl (by simpa using hz)
    refine gone_calls (S := { S with D := outI S.D n }) o2 (65 - c) n c hs1 hll0 (c2.mono hpa) (by omega) h2 hp2 o1 (fun y _ => rfl) fun w3 S3 h3 hp3 hD3 hb3 e3 => ⟨rfl, ?_⟩
    have hk : killF (outI S.D n).sl (postA (slA (outI S.D n).sl) (65 - c) n) = killF (outI S.D n).sl (allA (slA S.D.sl) 65 n) := by
      refine killF_mem (fun y => ?_) _
      rw [(post_perm _ _ _).mem_iff, mem_all o2 ⟨s, hs1⟩ hll0 (c2.mono hpa) (by omega), mem_all hw.a ⟨s, hs⟩ (fun z hz => by simp at hz) c2 (by omega)]
      exact ⟨fun h => h.mono hap, fun h => h.mono hpa⟩
    have := hK w3 o2' S3 h3 hp3 (by rw [e1, hD3]; dsimp only; rw [hk]) (EvP.trans (EvP.trans (EvC.below hb1) (e2.mono fun c hc => ?_)) (e3.mono fun c hc => ?_))
    · rw [e1] at this; exact this
    · unfold lcC at hc
      unfold pc
      split at hc <;> omega
    · unfold Cg at hc
      unfold pc
      omega
end
end Go.Proofs.YthbeeonmfbigcaaGreatDoor
set_option linter.unusedVariables false
set_option maxRecDepth 100000
namespace Go.Proofs.YthbeeonmfbigcaaGreatDoor
open Go.Vc
def F152 (a : ByteArray) (b : ByteArray) (w_ : World) (R : Ending → World → Prop) : Prop :=
 ByRow Tryz.prog 154 #[(.string a), (.string b)] w_ (fun v w1 =>
 ∃ (x7 : Int), v = (.int .i64 x7) ∧
 R (.returned (.int .i64 x7)) w1)
theorem ok152 (a : ByteArray) (b : ByteArray) {w : World} {R : Ending → World → Prop} (h : F152 a b w R) : Calls Tryz.prog 152 #[(.string a), (.string b)] w R :=
  vc_calls (pl := ⟨8, ⟨[]⟩, [], []⟩) Tryz.func152 (by kernel_rfl) (by kernel_rfl) (by kernel_rfl) (Eq.mp (by kernel_rfl) h)
def F149 (a : ByteArray) (b : ByteArray) (w_ : World) (R : Ending → World → Prop) : Prop :=
 Calls Tryz.prog 152 #[(.string a), (.string b)] w_ (post R fun v w1 =>
 ∃ (x7 : Int), v = (.int .i64 x7) ∧
 R (.returned (.int .i64 x7)) w1)
theorem ok149 (a : ByteArray) (b : ByteArray) {w : World} {R : Ending → World → Prop} (h : F149 a b w R) : Calls Tryz.prog 149 #[(.string a), (.string b)] w R :=
  vc_calls (pl := ⟨8, ⟨[]⟩, [], []⟩) Tryz.func149 (by kernel_rfl) (by kernel_rfl) (by kernel_rfl) (Eq.mp (by kernel_rfl) h)
end Go.Proofs.YthbeeonmfbigcaaGreatDoor
/- Strings in their order; attributes by their names; strings.Compare. -/
namespace Go.Proofs.YthbeeonmfbigcaaGreatDoor
open Go.RowKit Go.Vc
set_option linter.unusedVariables false
set_option linter.unusedSimpArgs false
set_option maxRecDepth 100000
theorem bl_irr : ∀ a : List UInt8, Op.bytesLess a a = false
  | [] => rfl
  | x :: a => by
    rw [Op.bytesLess, bl_irr a]; simp
theorem bl_tri : ∀ a b : List UInt8, Op.bytesLess a b = true ∨ a = b ∨ Op.bytesLess b a = true
  | [], [] => .inr (.inl rfl)
  | [], _ :: _ => .inl rfl
  | _ :: _, [] => .inr (.inr rfl)
  | x :: a, y :: b => by
    rw [Op.bytesLess, Op.bytesLess]
    rcases Nat.lt_trichotomy x.toNat y.toNat with h | h | h
    · refine .inl ?_
      rw [decide_eq_true (UInt8.lt_iff_toNat_lt.2 h)]; rfl
    · have h := UInt8.toNat_inj.1 h
      subst h
      rcases bl_tri a b with h | h | h
      · refine .inl ?_; rw [h]; simp
      · refine .inr (.inl ?_); rw [h]
      · refine .inr (.inr ?_); rw [h]; simp
    · refine .inr (.inr ?_)
      rw [decide_eq_true (UInt8.lt_iff_toNat_lt.2 h)]; rfl
theorem bl_trans : ∀ {a b c : List UInt8}, Op.bytesLess a b = true → Op.bytesLess b c = true → Op.bytesLess a c = true
  | _, [], _, h, _ => by cases ‹List UInt8› <;> simp [Op.bytesLess] at h
  | _, _ :: _, [], _, h => by simp [Op.bytesLess] at h
  | [], _ :: _, _ :: _, _, _ => rfl
  | x :: a, y :: b, z :: c, h1, h2 => by
    rw [Op.bytesLess, Bool.or_eq_true, Bool.and_eq_true, decide_eq_true_eq, beq_iff_eq] at *
    rcases h1 with h1 | ⟨rfl, h1⟩
    · rcases h2 with h2 | ⟨rfl, h2⟩
      · exact .inl (UInt8.lt_trans h1 h2)
      · exact .inl h1
    · rcases h2 with h2 | ⟨rfl, h2⟩
      · exact .inl h2
      · exact .inr ⟨rfl, bl_trans h1 h2⟩
def blt (a b : ByteArray) : Bool := Op.bytesLess a.toList b.toList
theorem blt_irr (a : ByteArray) : blt a a = false := bl_irr _
theorem toList_inj {a b : ByteArray} (h : a.toList = b.toList) : a = b := by
  have := bytes_eq a b
  rw [h] at this
  simpa using this.symm
theorem blt_tri (a b : ByteArray) : blt a b = true ∨ a = b ∨ blt b a = true := (bl_tri a.toList b.toList).imp id (Or.imp toList_inj id)
theorem blt_trans {a b c : ByteArray} (h1 : blt a b = true) (h2 : blt b c = true) : blt a c = true := bl_trans h1 h2
theorem blt_asymm {a b : ByteArray} (h : blt a b = true) : blt b a = false := by
  cases h2 : blt b a with
  | false => rfl
  | true => have := blt_trans h h2; rw [blt_irr] at this; cases this
theorem cmp_lt : ∀ a b : List UInt8, (Lib.compareBytes a b < 0 ↔ Op.bytesLess a b = true) ∧ (Lib.compareBytes a b = 0 ↔ a = b)
  | [], [] => by simp [Lib.compareBytes, Op.bytesLess]
  | [], _ :: _ => by simp [Lib.compareBytes, Op.bytesLess]
  | _ :: _, [] => by simp [Lib.compareBytes, Op.bytesLess]
  | x :: a, y :: b => by
    rw [Lib.compareBytes, Op.bytesLess]
    obtain ⟨i1, i2⟩ := cmp_lt a b
    by_cases h1 : x < y
    · rw [if_pos h1]
      have hne : x ≠ y := fun e => by subst e; exact UInt8.lt_irrefl _ h1
      simp [h1, hne]
    · rw [if_neg h1]
      by_cases h2 : y < x
      · rw [if_pos h2]
        have hne : x ≠ y := fun e => by subst e; exact UInt8.lt_irrefl _ h2
        simp [h1, hne]
      · rw [if_neg h2]
        have he : x = y := UInt8.toNat_inj.1 (by
          rw [UInt8.lt_iff_toNat_lt] at h1 h2; omega)
        subst he
        simp [h1, i1, i2]
theorem cmpB (a b : ByteArray) : (Lib.compareBytes a.data.toList b.data.toList < 0 ↔ blt a b = true) ∧ (Lib.compareBytes a.data.toList b.data.toList = 0 ↔ a = b) := by
  have h := cmp_lt a.toList b.toList
  rw [ByteArray.toList_eq, ByteArray.toList_eq] at h
  refine ⟨by rw [h.1]; unfold blt; rw [ByteArray.toList_eq, ByteArray.toList_eq], ?_⟩
  rw [h.2]
  constructor
  · intro e; exact toList_inj (by rw [ByteArray.toList_eq, ByteArray.toList_eq]; exact e)
  · rintro rfl; rfl
theorem behindB_eq (p : Option ByteArray) (a : ByteArray) : behindB p a = true ↔ ∀ b, p = some b → blt b a = true := by
  unfold behindB
  cases p with
  | none => simp
  | some b =>
    simp only [Option.some.injEq, forall_eq']
    rw [bytes_eq]
    constructor
    · intro h
      rcases blt_tri b a with h1 | h1 | h1
      · exact h1
      · subst h1; simp at h
      · unfold blt at h1; rw [h1] at h; simp at h
    · intro h
      have h1 := blt_asymm h
      have h2 : a ≠ b := fun e => by subst e; rw [blt_irr] at h; cases h
      unfold blt at h1
      rw [h1, decide_eq_false h2]; rfl
def okA (l : List At) : Prop := (∀ a ∈ l, isName a.nm = true ∧ (textS a.val).2 = 0) ∧ l.Pairwise fun a b => blt a.nm b.nm = true
theorem attrsF_ok : ∀ (l : List At) (p : Option ByteArray), attrsF p l = 0 ↔ okA l ∧ ∀ b, p = some b → ∀ a ∈ l, blt b a.nm = true
  | [], p => by simp [attrsF, okA]
  | a :: l, p => by
    rw [attrsF]
    have ih := attrsF_ok l (some a.nm)
    by_cases h1 : isName a.nm = true
    · rw [if_pos h1]
      by_cases h2 : behindB p a.nm = true
      · rw [if_pos h2]
        have h2' := (behindB_eq p a.nm).1 h2
        by_cases h3 : (textS a.val).2 = 0
        · rw [if_pos h3, ih]
          constructor
          · rintro ⟨⟨k1, k2⟩, k3⟩
            refine ⟨⟨fun x hx => ?_, List.pairwise_cons.2 ⟨fun x hx => k3 a.nm rfl x hx, k2⟩⟩, fun b hb x hx => ?_⟩
            · rcases List.mem_cons.1 hx with rfl | hx
              · exact ⟨h1, h3⟩
              · exact k1 x hx
            · rcases List.mem_cons.1 hx with rfl | hx
              · exact h2' b hb
              · exact blt_trans (h2' b hb) (k3 a.nm rfl x hx)
          · rintro ⟨⟨k1, k2⟩, k3⟩
            have k2 := List.pairwise_cons.1 k2
            refine ⟨⟨fun x hx => k1 x (List.mem_cons_of_mem _ hx), k2.2⟩, fun b hb x hx => ?_⟩
            cases hb; exact k2.1 x hx
        · rw [if_neg h3]
          constructor
          · intro e
            have : (textS a.val).2 = 0 := by omega
            exact absurd this h3
          · rintro ⟨⟨k1, _⟩, _⟩
            exact absurd (k1 a (by simp)).2 h3
      · rw [if_neg h2]
        constructor
        · intro e; cases e
        · rintro ⟨_, k3⟩
          exact absurd ((behindB_eq p a.nm).2 fun b hb => k3 b hb a (by simp)) h2
    · rw [if_neg h1]
      constructor
      · intro e; cases e
      · rintro ⟨⟨k1, _⟩, _⟩
        exact absurd (k1 a (by simp)).1 h1
theorem attrF_ok (l : List At) : attrF l = 0 ↔ l.length ≤ 32 ∧ okA l := by
  unfold attrF
  by_cases h : 32 < l.length
  · rw [if_pos h]
    constructor
    · intro e; cases e
    · rintro ⟨k, _⟩; omega
  · rw [if_neg h, attrsF_ok]
    constructor
    · rintro ⟨k, _⟩; exact ⟨by omega, k⟩
    · rintro ⟨_, k⟩; exact ⟨k, fun b hb => by cases hb⟩
theorem compare_calls (a b : ByteArray) {w : World} {R : Ending → World → Prop} (hK : R (.returned (.int .i64 (Lib.compareBytes a.data.toList b.data.toList))) w) : Calls Tryz.prog 149 #[.string a, .string b] w R := by
  refine ok149 a b ?_
  unfold F149
  refine ok152 a b ?_
  unfold F152
  refine ⟨_, w, ?_, _, rfl, _, rfl, hK⟩
  rw [run_callFunc_extern Tryz.func154 (by kernel_rfl) (by kernel_rfl) (by kernel_rfl) (e := Extern.BytealgCompare.compare) (by kernel_rfl), Lib.run_compareString]
  rfl
end Go.Proofs.YthbeeonmfbigcaaGreatDoor
/- Documents of the program: SetName, SetText, SetAttr, DropAttr. -/
namespace Go.Proofs.YthbeeonmfbigcaaGreatDoor
open Go.RowKit Go.Vc
set_option linter.unusedVariables false
set_option linter.unusedSimpArgs false
set_option maxRecDepth 100000
def posA (l : List At) (nm : ByteArray) : Nat := l.findIdx fun a => !blt a.nm nm
def thereA (l : List At) (nm : ByteArray) : Bool := match l[posA l nm]? with | some a => decide (a.nm = nm) | none => false
def setA' (l : List At) (nm v : ByteArray) : List At := if thereA l nm = true then l.set (posA l nm) ⟨nm, v⟩ else l.take (posA l nm) ++ ⟨nm, v⟩ :: l.drop (posA l nm)
def chgF (D : Im) (n : Nat) (kind : Int) : Int := match slA D.sl n with
  | none => 8
  | some s => if s.kind = kind then 0 else 30
def setNameF (D : Im) (n : Nat) (nm : ByteArray) : Im × Int :=
  if chgF D n 1 ≠ 0 then (D, chgF D n 1) else if isName nm = true then (updI D n fun s => { s with nm := nm }, 0) else (D, 6)
def setTextF (D : Im) (n : Nat) (t : ByteArray) : Im × Int :=
  if chgF D n 2 ≠ 0 then (D, chgF D n 2) else if (textS t).2 = 0 then (updI D n fun s => { s with text := t }, 0) else (D, ((textS t).2 : Nat))
def atsI (D : Im) (n : Nat) : List At := match slA D.sl n with | some s => s.attrs | none => []
def setAttrF (D : Im) (n : Nat) (nm v : ByteArray) : Im × Int :=
  if chgF D n 1 ≠ 0 then (D, chgF D n 1) else if isName nm ≠ true then (D, 6) else if (textS v).2 ≠ 0 then (D, ((textS v).2 : Nat)) else
  if thereA (atsI D n) nm = false ∧ 32 ≤ (atsI D n).length then (D, 2) else (updI D n fun s => { s with attrs := setA' s.attrs nm v }, 0)
def dropAttrF (D : Im) (n : Nat) (nm : ByteArray) : Im × Int :=
  if chgF D n 1 ≠ 0 then (D, chgF D n 1) else if thereA (atsI D n) nm = true then (updI D n fun s => { s with attrs := s.attrs.take (posA s.attrs nm) ++ s.attrs.drop (posA s.attrs nm + 1) }, 0) else (D, 35)
theorem posA_le (l : List At) (nm : ByteArray) : posA l nm ≤ l.length := List.findIdx_le_length
theorem posA_below {l : List At} {nm : ByteArray} {k : Nat} (hk : k < posA l nm) (hl : k < l.length) : blt l[k].nm nm = true := by
  have := List.not_of_lt_findIdx (p := fun a : At => !blt a.nm nm) (xs := l) hk
  simpa using this
theorem posA_at {l : List At} {nm : ByteArray} (h : posA l nm < l.length) : blt l[posA l nm].nm nm = false := by
  have := List.findIdx_getElem (p := fun a : At => !blt a.nm nm) (xs := l) (w := h)
  unfold posA
  simpa using this
theorem posA_eq {l : List At} {nm : ByteArray} {i : Nat} (hi : i ≤ l.length) (h1 : ∀ k, k < i → ∀ h : k < l.length, blt l[k].nm nm = true) (h2 : ∀ h : i < l.length, blt l[i].nm nm = false) : posA l nm = i := by
  have hle := posA_le l nm
  rcases Nat.lt_trichotomy (posA l nm) i with h | h | h
  · have := posA_at (l := l) (nm := nm) (by omega)
    rw [h1 _ h (by omega)] at this; cases this
  · exact h
  · have := posA_below h (by omega)
    rw [h2 (by omega)] at this; cases this
theorem okA_posA {l : List At} {nm : ByteArray} (h : okA l) {k : Nat} (hk : posA l nm < k) (hl : k < l.length) : blt nm l[k].nm = true := by
  have hp := List.pairwise_iff_getElem.1 h.2 (posA l nm) k (by omega) hl hk
  have ha := posA_at (l := l) (nm := nm) (by omega)
  rcases blt_tri l[posA l nm].nm nm with e | e | e
  · rw [e] at ha; cases ha
  · rw [← e]; exact hp
  · exact blt_trans e hp
theorem okA_set {l : List At} {nm v : ByteArray} (h : okA l) (hn : isName nm = true) (hv : (textS v).2 = 0) : okA (setA' l nm v) := by
  unfold setA'
  by_cases ht : thereA l nm = true
  · rw [if_pos ht]
    have hlt : posA l nm < l.length := by
      unfold thereA at ht
      refine Classical.byContradiction fun h => ?_
      rw [List.getElem?_eq_none (by omega)] at ht; cases ht
    have hnm : l[posA l nm].nm = nm := by
      unfold thereA at ht
      rw [List.getElem?_eq_getElem hlt] at ht
      simpa using ht
    refine ⟨fun a ha => ?_, ?_⟩
    · rcases List.mem_or_eq_of_mem_set ha with ha | rfl
      · exact h.1 a ha
      · exact ⟨hn, hv⟩
    · refine List.pairwise_iff_getElem.2 fun i j hi hj hij => ?_
      rw [List.length_set] at hi hj
      have hp := List.pairwise_iff_getElem.1 h.2 i j hi hj hij
      rw [List.getElem_set, List.getElem_set]
      split
      · rename_i e
        split
        · omega
        · subst e; rw [hnm] at hp; exact hp
      · split
        · rename_i e; subst e; rw [hnm] at hp; exact hp
        · exact hp
  · rw [if_neg ht]
    have hle := posA_le l nm
    have hnm : ∀ h : posA l nm < l.length, blt nm l[posA l nm].nm = true := fun hlt => by
      rcases blt_tri l[posA l nm].nm nm with e | e | e
      · rw [posA_at hlt] at e; cases e
      · exfalso; apply ht
        unfold thereA
        rw [List.getElem?_eq_getElem hlt]
        simpa using e
      · exact e
    refine ⟨fun a ha => ?_, ?_⟩
    · rw [List.mem_append, List.mem_cons] at ha
      rcases ha with ha | rfl | ha
      · exact h.1 a (List.mem_of_mem_take ha)
      · exact ⟨hn, hv⟩
      · exact h.1 a (List.mem_of_mem_drop ha)
    · have hp := h.2
      rw [← List.take_append_drop (posA l nm) l, List.pairwise_append] at hp
      obtain ⟨q1, q2, q3⟩ := hp
      have hdrop : ∀ x ∈ l.drop (posA l nm), blt nm x.nm = true := fun x hx => by
        obtain ⟨k, hk, rfl⟩ := List.mem_iff_getElem.1 hx
        rw [List.length_drop] at hk
        rw [List.getElem_drop]
        by_cases h0 : k = 0
        · subst h0; exact hnm (by omega)
        · exact okA_posA h (by omega) (by omega)
      have htake : ∀ x ∈ l.take (posA l nm), blt x.nm nm = true := fun x hx => by
        obtain ⟨k, hk, rfl⟩ := List.mem_iff_getElem.1 hx
        rw [List.length_take] at hk
        rw [List.getElem_take]
        exact posA_below (by omega) (by omega)
      rw [List.pairwise_append, List.pairwise_cons]
      refine ⟨q1, ⟨hdrop, q2⟩, fun x hx y hy => ?_⟩
      rcases List.mem_cons.1 hy with rfl | hy
      · exact htake x hx
      · exact q3 x hx y hy
theorem okA_drop {l : List At} (h : okA l) (k : Nat) : okA (l.take k ++ l.drop (k + 1)) := by
  have hs : (l.take k ++ l.drop (k + 1)).Sublist l := by
    conv => rhs; rw [← List.take_append_drop k l]
    exact (List.Sublist.refl _).append (by rw [← List.drop_drop]; exact List.drop_sublist _ _)
  exact ⟨fun a ha => h.1 a (hs.subset ha), h.2.sublist hs⟩
section
variable {w w1 w2 : World} {o o1 o2 : Nat → Nat} {θ : Th} {S : PS} {M : Nat → Prop} {bs : List Nat} {R : Ending → World → Prop}
theorem of_calls (h : PM w o θ S) {n : Nat} (hn : n < 18446744073709551616) (kind : Int) (hk : kind ≠ 0)
    (hK : ∀ w', Below w.heap.size w w' → R (.returned (.tuple #[.pointer (if chgF S.D n kind = 0 then some ⟨pb S.bs n, 0, none⟩ else none), .int .i64 (chgF S.D n kind)])) w') : Calls Tryz.prog 140 #[.pointer (some ⟨θ.g, 0, none⟩), .int .u64 (n : Nat), .int .i64 kind] w R := by
  refine ok140 (some ⟨θ.g, 0, none⟩) (n : Nat) kind ?_
  unfold F140
  refine atL_calls h hn fun w1 hb1 => ⟨_, rfl, ?_⟩
  have h1 := h.below hb1
  have := hK w1 hb1
  unfold chgF at this
  cases hs : slA S.D.sl n with
  | none =>
    have e : ptrL S n = none := by unfold ptrL; rw [hs]; rfl
    rw [e]
    rw [hs] at this
    exact this
  | some s =>
    have e : ptrL S n = some ⟨pb S.bs n, 0, none⟩ := by unfold ptrL; rw [hs]; rfl
    rw [e]
    rw [hs] at this
    dsimp only at this
    obtain ⟨i, i1, i2, i3, i4⟩ := h1.of hs
    simp only [Option.isNone_some, Br_f, NonNil_some, Addr.add_mk, Nat.zero_add, h1.cKind i2 i3, Addr.add_mk, List.getElem?_toArray, List.getElem?_cons_zero, List.getElem?_cons_succ, LdI_some, LdB_some, LdStr_some, LdP_some, LdSl_some, LdM_some, Nat.zero_add, Br_t, Br_f]
    refine brn (fun hne => ?_) (fun he => ?_)
    · simp only [if_neg hne] at this; exact this
    · simp only [if_pos he] at this; exact this
theorem chg_some {D : Im} {n : Nat} {kind : Int} (h : chgF D n kind = 0) : ∃ s, slA D.sl n = some s ∧ s.kind = kind := by
  unfold chgF at h
  cases hs : slA D.sl n with
  | none => rw [hs] at h; cases h
  | some s =>
    rw [hs] at h
    dsimp only at h
    by_cases hk : s.kind = kind
    · exact ⟨s, rfl, hk⟩
    · rw [if_neg hk] at h; cases h
theorem updI_setS {i n : Nat} {s : Sl} {f : Sl → Sl} (hi : n % 4294967296 = i + 1) (hs : S.D.sl[i]? = some s) : S.setS i (f s) = { S with D := updI S.D n f } := by
  unfold PS.setS updI
  rw [hi, Nat.add_sub_cancel, modify_set _ _ _ _ hs]
theorem nodeC_pc {i c : Nat} (hc : c = 8 + 4 * i ∨ c = 9 + 4 * i ∨ c = 10 + 4 * i) : pc c := by unfold pc; omega
theorem setName_calls (h : PM w o θ S) (hp : PI S) {n : Nat} (hn : n < 18446744073709551616) {nm : ByteArray}
    (hK : ∀ w' S', PM w' o θ S' → PI S' → S'.D = (setNameF S.D n nm).1 → EvP w o w' o → R (.returned (.int .i64 (setNameF S.D n nm).2)) w') :
    Calls Tryz.prog 134 #[.pointer (some ⟨θ.g, 0, none⟩), .int .u64 (n : Nat), .string nm] w R := by
  refine ok134 (some ⟨θ.g, 0, none⟩) (n : Nat) nm ?_
  unfold F134
  refine of_calls h hn 1 (by decide) fun w1 hb1 => ⟨_, _, rfl, ?_⟩
  have h1 := h.below hb1
  unfold setNameF at hK
  refine brn (fun hne => ?_) (fun he => ?_)
  · rw [if_pos hne] at hK
    exact hK w1 S h1 hp rfl (EvC.below hb1)
  rw [if_neg (by rw [he]; simp)] at hK
  obtain ⟨s, hs, hk⟩ := chg_some he
  obtain ⟨i, i1, i2, i3, i4⟩ := h1.of hs
  rw [if_pos he]
  refine name_calls ⟨_, rfl, ?_⟩
  rw [brnot]
  refine br (fun hnm => ?_) (fun hnm => ?_)
  · rw [if_pos hnm] at hK
    simp only [NonNil_some, Addr.add_mk, Nat.zero_add]
    refine h1.stName i2 i3 nm fun w2 h2 e2 => ?_
    have hp2 := hp.updI (f := fun s => { s with nm := nm }) hs rfl rfl
    rw [updI_setS (f := fun s => { s with nm := nm }) i1 i3] at h2
    exact hK w2 _ h2 hp2 rfl (EvP.trans (EvC.below hb1) (e2.mono fun c => nodeC_pc))
  · rw [if_neg (by rw [hnm]; decide)] at hK
    exact hK w1 S h1 hp rfl (EvC.below hb1)
theorem setText_calls (h : PM w o θ S) (hp : PI S) (hT : Tabs (wc o w)) {n : Nat} (hn : n < 18446744073709551616) {t : ByteArray}
    (hK : ∀ w' S', PM w' o θ S' → PI S' → S'.D = (setTextF S.D n t).1 → EvP w o w' o → R (.returned (.int .i64 (setTextF S.D n t).2)) w') :
    Calls Tryz.prog 135 #[.pointer (some ⟨θ.g, 0, none⟩), .int .u64 (n : Nat), .string t] w R := by
  refine ok135 (some ⟨θ.g, 0, none⟩) (n : Nat) t ?_
  unfold F135
  refine of_calls h hn 2 (by decide) fun w1 hb1 => ⟨_, _, rfl, ?_⟩
  have h1 := h.below hb1
  unfold setTextF at hK
  refine brn (fun hne => ?_) (fun he => ?_)
  · rw [if_pos hne] at hK
    exact hK w1 S h1 hp rfl (EvC.below hb1)
  rw [if_neg (by rw [he]; simp)] at hK
  obtain ⟨s, hs, hk⟩ := chg_some he
  rw [if_pos he]
  refine charsText_calls t ((hT.sub sub_of_only).keep hb1) fun w2 hb2 => ⟨_, _, rfl, ?_⟩
  have B2 := btr hb1 hb1.size hb2
  have h2 := h.below B2
  obtain ⟨i, i1, i2, i3, i4⟩ := h2.of hs
  refine brn (fun hne => ?_) (fun hz => ?_)
  · rw [if_neg (by omega)] at hK
    exact hK w2 S h2 hp rfl (EvC.below B2)
  · rw [if_pos (by omega)] at hK
    simp only [NonNil_some, Addr.add_mk, Nat.zero_add]
    refine h2.stText i2 i3 t fun w3 h3 e3 => ?_
    have hp2 := hp.updI (f := fun s => { s with text := t }) hs rfl rfl
    rw [updI_setS (f := fun s => { s with text := t }) i1 i3] at h3
    exact hK w3 _ h3 hp2 rfl (EvP.trans (EvC.below B2) (e3.mono fun c => nodeC_pc))
theorem attr1_calls (a : At) (nm : ByteArray) (hK : ∀ w', Below w.heap.size w w' → R (.returned (.int .i64 (Lib.compareBytes a.nm.data.toList nm.data.toList))) w') : Calls Tryz.prog 148 #[.agg #[.string a.nm, .string a.val], .string nm] w R := by
  refine ok148 a.nm a.val nm ?_
  unfold F148
  refine al fun g w1 hb1 b1 hge => ?_
  simp only [Addr.add_mk, Nat.zero_add, b1.cell, List.getElem?_toArray, List.getElem?_cons_zero, List.getElem?_cons_succ, Addr.add_mk, List.getElem?_toArray, List.getElem?_cons_zero, List.getElem?_cons_succ, LdI_some, LdB_some, LdStr_some, LdP_some, LdSl_some, LdM_some, Nat.zero_add, Br_t, Br_f]
  exact compare_calls a.nm nm ⟨_, rfl, hK w1 hb1⟩
theorem bsearch_calls (l : List At) (v : Sv) {nm : ByteArray} (hl : RR LAt w l v) (ho : okA l) (hK : ∀ w', Below w.heap.size w w' → R (.returned (.tuple #[.int .i64 (posA l nm : Nat), .bool (thereA l nm)])) w') :
    Calls Tryz.prog 147 #[.slice v.1 v.2.1 v.2.2, .string nm, .func (.func 148) #[] #[]] w R := by
  obtain ⟨z0, z1, z2⟩ := hl
  refine ok147 v.1 v.2.1 v.2.2 nm (.func (.func 148) #[] #[]) ?_
  unfold F147
  refine ⟨fun i j w' => ∃ a b : Nat, i = a ∧ j = b ∧ a ≤ b ∧ b ≤ l.length ∧ Below w.heap.size w w' ∧ (∀ k, k < a → ∀ h : k < l.length, blt l[k].nm nm = true) ∧ (∀ k, b ≤ k → ∀ h : k < l.length, blt l[k].nm nm = false), fun i j _ => j.toNat - i.toNat,
    ⟨0, l.length, rfl, by rw [z1], by omega, by omega, Below.refl _ _, fun k hk => by omega, fun k hk h => by omega⟩, ?_⟩
  rintro i j w1 ⟨a, b, rfl, rfl, hab, hbl, hb1, q1, q2⟩
  unfold F147_l3
  refine brd (fun hlt => ?_) (fun hge => ?_)
  · have hm : (((a : Nat) : Int) + ((b : Nat) : Int)).fdiv (2 ^ (min ((1 : Int)).toNat 64)) = (((a + b) / 2 : Nat) : Int) := by
      have e : (2 : Int) ^ (min ((1 : Int)).toNat 64) = 2 := by decide
      rw [e, Int.fdiv_eq_ediv_of_nonneg _ (by decide)]; omega
    rw [hm]
    have hk : (a + b) / 2 < l.length := by omega
    refine ⟨inR_i64 (by omega) (by omega), inR_u64 (by omega) (by omega), inR_i64 (by omega) (by omega), ?_⟩
    refine (z2.keep hb1).at2 z1 rfl hk fun bb oo c0 c1 => ?_
    simp only [Addr.add_mk, c0, c1, Addr.add_mk, List.getElem?_toArray, List.getElem?_cons_zero, List.getElem?_cons_succ, LdI_some, LdB_some, LdStr_some, LdP_some, LdSl_some, LdM_some, Nat.zero_add, Br_t, Br_f]
    refine ⟨by kernel_rfl, ?_⟩
    refine attr1_calls l[(a + b) / 2] nm fun w2 hb2 => ⟨_, rfl, ?_⟩
    have B2 := btr hb1 hb1.size hb2
    have hc := (cmpB l[(a + b) / 2].nm nm).1
    refine brd (fun hneg => ?_) (fun hpos => ?_)
    · have hlt' := hc.1 hneg
      refine ⟨inR_i64 (by omega) (by omega), ⟨(a + b) / 2 + 1, b, by omega, rfl, by omega, hbl, B2, fun k hk h => ?_, q2⟩, by omega⟩
      by_cases e : k = (a + b) / 2
      · subst e; exact hlt'
      · have := List.pairwise_iff_getElem.1 ho.2 k ((a + b) / 2) h (by omega) (by omega)
        exact blt_trans this hlt'
    · refine ⟨⟨a, (a + b) / 2, rfl, rfl, by omega, by omega, B2, q1, fun k hk h => ?_⟩, by omega⟩
      have hnot : blt l[(a + b) / 2].nm nm = false := by
        cases hb : blt l[(a + b) / 2].nm nm with
        | false => rfl
        | true => exact absurd (hc.2 hb) hpos
      by_cases e : k = (a + b) / 2
      · subst e; exact hnot
      · have h3 := List.pairwise_iff_getElem.1 ho.2 ((a + b) / 2) k (by omega) h (by omega)
        cases hb : blt l[k].nm nm with
        | false => rfl
        | true => rw [blt_trans h3 hb] at hnot; cases hnot
  · have hab2 : a = b := by omega
    subst hab2
    have hpos : posA l nm = a := posA_eq hbl q1 fun h => q2 a (Nat.le_refl _) h
    refine brd (fun hlt => ?_) (fun hge2 => ?_)
    · have hk : a < l.length := by omega
      refine (z2.keep hb1).at2 z1 rfl hk fun bb oo c0 c1 => ?_
      simp only [Addr.add_mk, c0, c1, Addr.add_mk, List.getElem?_toArray, List.getElem?_cons_zero, List.getElem?_cons_succ, LdI_some, LdB_some, LdStr_some, LdP_some, LdSl_some, LdM_some, Nat.zero_add, Br_t, Br_f]
      refine ⟨by kernel_rfl, ?_⟩
      refine attr1_calls l[a] nm fun w2 hb2 => ⟨_, rfl, ?_⟩
      have := hK w2 (btr hb1 hb1.size hb2)
      rw [hpos] at this
      have e : (Lib.compareBytes l[a].nm.data.toList nm.data.toList == 0) = thereA l nm := by
        unfold thereA
        rw [hpos, List.getElem?_eq_getElem hk]
        rw [Bool.eq_iff_iff, beq_iff_eq, decide_eq_true_eq]
        exact (cmpB l[a].nm nm).2
      rw [e]; exact this
    · have := hK w1 hb1
      rw [hpos] at this
      have e : thereA l nm = false := by
        unfold thereA
        rw [hpos, List.getElem?_eq_none (by omega)]
      rw [e] at this; exact this
theorem attr_calls (h : PM w o θ S) {n i : Nat} {s : Sl} (i2 : S.bs[i]? = some (pb S.bs n)) (i3 : S.D.sl[i]? = some s) (ho : okA s.attrs) {nm : ByteArray} (hK : ∀ w', Below w.heap.size w w' → R (.returned (.tuple #[.int .i64 (posA s.attrs nm : Nat), .bool (thereA s.attrs nm)])) w') :
    Calls Tryz.prog 141 #[.pointer (some ⟨pb S.bs n, 0, none⟩), .string nm] w R := by
  refine ok141 (some ⟨pb S.bs n, 0, none⟩) nm ?_
  unfold F141
  obtain ⟨a, ca, oa, ra⟩ := h.cAts i2 i3
  obtain ⟨A, c, hv, hr⟩ := oa.form
  rw [hv] at ca
  simp only [NonNil_some, Addr.add_mk, Nat.zero_add, ca, Addr.add_mk, List.getElem?_toArray, List.getElem?_cons_zero, List.getElem?_cons_succ, LdI_some, LdB_some, LdStr_some, LdP_some, LdSl_some, LdM_some, Nat.zero_add, Br_t, Br_f]
  exact bsearch_calls s.attrs (A, s.attrs.length, c) ⟨(h.rng s (List.mem_of_getElem? i3)).atf, rfl, hr⟩ ho fun w' hb => ⟨_, _, rfl, hK w' hb⟩
end
end Go.Proofs.YthbeeonmfbigcaaGreatDoor
/- Documents of the program: SetAttr, DropAttr. -/
namespace Go.Proofs.YthbeeonmfbigcaaGreatDoor
open Go.RowKit Go.Vc
set_option linter.unusedVariables false
set_option linter.unusedSimpArgs false
set_option maxRecDepth 100000
section
variable {w w1 w2 : World} {o o1 o2 : Nat → Nat} {θ : Th} {S : PS} {M : Nat → Prop} {bs : List Nat} {R : Ending → World → Prop}
theorem own_poke {v : Sv} {xs : List At} {k : Nat} {nv : ByteArray} (hO : Own LAt w 0 96 (slV v) xs) (hk : k < xs.length) {K : World → Prop}
    (hK : ∀ w1, Own LAt w1 0 96 (slV v) (xs.set k ⟨xs[k].nm, nv⟩) → Fm (fun b => rowOf (slV v) = some b) w w1 → K w1) : IdxA v.1 v.2.1 (k : Nat) 2 fun q => St w (q.add 1) (.string nv) fun w1 => K w1 := by
  obtain ⟨g, c, rest, rfl, hrow, _, hB, hc1, hc2, hc3⟩ := hO.row1 (by omega)
  dsimp only
  rw [IdxA_some (by omega) (by omega)]
  simp only [Addr.add_mk, Nat.zero_add, Int.toNat_natCast]
  have hall := LAt.all_length xs
  have hLn : LAt.n = 2 := rfl
  rw [hLn] at hall hc3
  refine st_blk hB (by rw [List.size_toArray, hc3]; omega) fun w1 hB1 f1 => hK w1 ?_ (f1.mono fun b _ e => by have e : b = g := e; rw [hrow, e])
  have hset : (LAt.all xs ++ rest).set (k * 2 + 1) (.string nv) = LAt.all (xs.set k ⟨xs[k].nm, nv⟩) ++ rest := by
    rw [LAt.all_set xs k _ hk]
    have h1 : LAt.all xs = (LAt.all xs).take (k * 2) ++ (LAt.cells xs[k] ++ (LAt.all xs).drop ((k + 1) * 2)) := by
      have h2 := LAt.all_set xs k xs[k] hk
      rw [List.set_getElem_self] at h2
      exact h2
    have hl : ((LAt.all xs).take (k * 2)).length = k * 2 := by rw [List.length_take, hall]; omega
    show _ = (LAt.all xs).take (k * 2) ++ (LAt.cells ⟨xs[k].nm, nv⟩ ++ (LAt.all xs).drop ((k + 1) * 2)) ++ rest
    generalize (LAt.all xs).drop ((k + 1) * 2) = dd at h1 ⊢
    generalize hpp : (LAt.all xs).take (k * 2) = pp at h1 hl ⊢
    rw [h1]
    simp only [LAt, List.append_assoc, List.cons_append, List.nil_append]
    rw [List.set_append_right _ _ (by omega), hl, show k * 2 + 1 - k * 2 = 1 by omega]
    rfl
  rw [List.setIfInBounds_toArray, hset] at hB1
  have hln : (xs.set k ⟨xs[k].nm, nv⟩).length = xs.length := List.length_set
  have hO1 := Own.ofBlk (k := 0) (c := c) hB1 (Nat.zero_le _) (by rw [hln]; exact hc1) (by omega) hc2 (by rw [← hset, List.length_set, hc3]; rfl)
  rw [hln] at hO1
  exact hO1
theorem PM.pokeAts (h : PM w o θ S) {i b : Nat} {s : Sl} {a : Sv} {l : List At} (hb : S.bs[i]? = some b) (hs : S.D.sl[i]? = some s) (ca : w.cell? ⟨b, 5, none⟩ = some (slV a)) (ra : ∀ x, rowOf (slV a) = some x → o x = 10 + 4 * i) (hf : Fm (fun x => rowOf (slV a) = some x) w w1)
    (hO : Own LAt w1 0 96 (slV a) l) (hl : l.length ≤ 1048576) : PM w1 o θ (S.setS i { s with attrs := l }) ∧ EvP w o w1 o := by
  obtain ⟨a', kv, hn⟩ := h.nodes i b s hb hs
  have hcb := h.nc i b hb
  have haa : a' = a := by
    have hcell := hn.blk.cell 5
    rw [ca] at hcell
    have e : (nodeC i s a' (ptrH S.bs s.parent) kv)[5]? = some (slV a') := rfl
    rw [e] at hcell
    obtain ⟨a1, a2, a3⟩ := a
    obtain ⟨c1, c2, c3⟩ := a'
    unfold slV at hcell
    simp only [Option.some.injEq, Value.slice.injEq] at hcell
    obtain ⟨rfl, rfl, rfl⟩ := hcell
    rfl
  subst haa
  have hrs := h.rng s (List.mem_of_getElem? hs)
  have hN : NodeR w1 (cl o none (9 + 4 * i)) S.bs i b { s with attrs := l } a' kv := by
    rw [cl_none]
    refine ⟨hf.blk hn.blk fun e => ?_, hO, ra, own_fm hn.kd1 hf fun x hx e => ?_, hn.kd2⟩
    · have := ra _ e; omega
    · have := ra _ e
      have := hn.kd2 x hx; omega
  have := h.setNode (r := none) (c := 9 + 4 * i) hb hs hf (fun x hx => .inl (.inr (.inr (ra x hx)))) (.inl rfl) (fun x hx => by cases hx) hN ⟨hrs.gen, hrs.par, hrs.kids, hrs.few, hl⟩
  rw [cl_none] at this
  exact ⟨this.1, this.2.mono fun c => nodeC_pc⟩
theorem ats_some {D : Im} {n : Nat} {s : Sl} (hs : slA D.sl n = some s) : atsI D n = s.attrs := by unfold atsI; rw [hs]
theorem okS_ats {s : Sl} (h : okSl s) (hk : s.kind = 1) : s.attrs.length ≤ 32 ∧ okA s.attrs := by
  have h1 := h.1
  unfold ownF at h1
  rw [if_pos hk] at h1
  split at h1
  · exact (attrF_ok _).1 h1
  · cases h1
theorem posA_there {l : List At} {nm : ByteArray} (h : thereA l nm = true) : ∃ hk : posA l nm < l.length, l[posA l nm].nm = nm := by
  unfold thereA at h
  rcases Nat.lt_or_ge (posA l nm) l.length with hk | hk
  · rw [List.getElem?_eq_getElem hk] at h
    exact ⟨hk, by simpa using h⟩
  · rw [List.getElem?_eq_none hk] at h; cases h
theorem setAttr_calls (h : PM w o θ S) (hp : PI S) (hw : Wf S.D) (hT : Tabs (wc o w)) {n : Nat} (hn : n < 18446744073709551616) {nm v : ByteArray}
    (hK : ∀ w' o' S', PM w' o' θ S' → PI S' → S'.D = (setAttrF S.D n nm v).1 → EvP w o w' o' → R (.returned (.int .i64 (setAttrF S.D n nm v).2)) w') :
    Calls Tryz.prog 133 #[.pointer (some ⟨θ.g, 0, none⟩), .int .u64 (n : Nat), .string nm, .string v] w R := by
  refine ok133 (some ⟨θ.g, 0, none⟩) (n : Nat) nm v ?_
  unfold F133
  refine of_calls h hn 1 (by decide) fun w1 hb1 => ⟨_, _, rfl, ?_⟩
  have h1 := h.below hb1
  unfold setAttrF at hK
  refine brn (fun hne => ?_) (fun he => ?_)
  · rw [if_pos hne] at hK
    exact hK w1 o S h1 hp rfl (EvC.below hb1)
  rw [if_neg (by rw [he]; simp)] at hK
  obtain ⟨s, hs, hk⟩ := chg_some he
  obtain ⟨a1, a2⟩ := okS_ats (hw.a.ok n s hs) hk
  rw [if_pos he]
  refine name_calls ⟨_, rfl, ?_⟩
  rw [brnot]
  refine br (fun hnm => ?_) (fun hnm => ?_)
  rotate_left
  · rw [if_pos (by rw [hnm]; decide)] at hK
    exact hK w1 o S h1 hp rfl (EvC.below hb1)
  rw [if_neg (by rw [hnm]; simp)] at hK
  refine charsText_calls v ((hT.sub sub_of_only).keep hb1) fun w2 hb2 => ⟨_, _, rfl, ?_⟩
  have B2 := btr hb1 hb1.size hb2
  have h2 := h.below B2
  refine brn (fun hne => ?_) (fun hz => ?_)
  · rw [if_pos (by omega)] at hK
    exact hK w2 o S h2 hp rfl (EvC.below B2)
  rw [if_neg (by omega), ats_some hs] at hK
  obtain ⟨i, i1, i2, i3, i4⟩ := h2.of hs
  refine attr_calls h2 i2 i3 a2 fun w3 hb3 => ⟨_, _, rfl, ?_⟩
  have B3 := btr B2 B2.size hb3
  have h3 := h.below B3
  obtain ⟨a, ca, oa, ra⟩ := h3.cAts i2 i3
  obtain ⟨A, c, hv, hr⟩ := oa.form
  have hv2 : a = (A, s.attrs.length, c) := by
    obtain ⟨z1, z2, z3⟩ := a
    unfold slV at hv
    simp only [Value.slice.injEq] at hv
    obtain ⟨rfl, rfl, rfl⟩ := hv
    rfl
  have ca' : w3.cell? ⟨pb S.bs n, 5, none⟩ = some (.slice A s.attrs.length c) := by rw [ca, hv]
  have hle := posA_le s.attrs nm
  refine ⟨fun w' => ∃ o', PM w' o' θ { S with D := updI S.D n fun s => { s with attrs := setA' s.attrs nm v } } ∧ EvP w3 o w' o' ∧ ¬ (thereA s.attrs nm = false ∧ 32 ≤ s.attrs.length), ?_, ?_⟩
  · rintro w4 ⟨o4, h4, e4, hnl⟩
    unfold F133_j15
    rw [if_neg hnl] at hK
    exact hK w4 o4 _ h4 (hp.updI (f := fun s => { s with attrs := setA' s.attrs nm v }) hs rfl rfl) rfl (EvP.trans (EvC.below B3) e4)
  · refine br (fun ht => ?_) (fun ht => ?_)
    · obtain ⟨k1, k2⟩ := posA_there ht
      simp only [NonNil_some, Addr.add_mk, Nat.zero_add, ca', Addr.add_mk, List.getElem?_toArray, List.getElem?_cons_zero, List.getElem?_cons_succ, LdI_some, LdB_some, LdStr_some, LdP_some, LdSl_some, LdM_some, Nat.zero_add, Br_t, Br_f]
      rw [hv2] at oa
      refine own_poke oa k1 fun w4 o4 f4 => ?_
      rw [k2] at o4
      obtain ⟨h4, e4⟩ := h3.pokeAts (a := (A, s.attrs.length, c)) i2 i3 ca' (by rw [← hv2]; exact ra) f4 o4 (by rw [List.length_set]; omega)
      refine ⟨o, ?_, e4, by rw [ht]; simp⟩
      have : setA' s.attrs nm v = s.attrs.set (posA s.attrs nm) ⟨nm, v⟩ := by unfold setA'; rw [if_pos ht]
      rw [← this, updI_setS (f := fun s => { s with attrs := setA' s.attrs nm v }) i1 i3] at h4
      exact h4
    · simp only [NonNil_some, Addr.add_mk, Nat.zero_add, ca', Addr.add_mk, List.getElem?_toArray, List.getElem?_cons_zero, List.getElem?_cons_succ, LdI_some, LdB_some, LdStr_some, LdP_some, LdSl_some, LdM_some, Nat.zero_add, Br_t, Br_f]
      refine brd (fun hge => ?_) (fun hlt => ?_)
      · rw [if_pos ⟨ht, by omega⟩] at hK
        exact hK w3 o S h3 hp rfl (EvC.below B3)
      · refine al fun gx w4 hb4 bx hgex => ?_
        have h4 := h3.below hb4
        rw [hv2] at oa ra
        refine insA_calls (x := ⟨nm, v⟩) (oa.keep hb4) hle bx rfl (fun e => by
          have := ra gx e
          have := h3.lt gx (by omega)
          omega) (by omega) fun v' w5 o5 f5 r5 => ⟨_, _, _, rfl, ?_⟩
        refine h4.setAts (b := pb S.bs n) i2 i3 (v := (A, s.attrs.length, c)) (v' := v') ra f5 o5 r5 (by simp; omega) fun w6 o6 h6 e6 => ⟨o6, ?_, EvP.trans (EvC.below hb4) (e6.mono fun c => nodeC_pc), ?_⟩
        · have : setA' s.attrs nm v = s.attrs.take (posA s.attrs nm) ++ ⟨nm, v⟩ :: s.attrs.drop (posA s.attrs nm) := by unfold setA'; rw [if_neg (by rw [ht]; decide)]
          rw [← this, updI_setS (f := fun s => { s with attrs := setA' s.attrs nm v }) i1 i3] at h6
          exact h6
        · rintro ⟨_, h7⟩; omega
theorem dropAttr_calls (h : PM w o θ S) (hp : PI S) (hw : Wf S.D) {n : Nat} (hn : n < 18446744073709551616) {nm : ByteArray}
    (hK : ∀ w' o' S', PM w' o' θ S' → PI S' → S'.D = (dropAttrF S.D n nm).1 → EvP w o w' o' → R (.returned (.int .i64 (dropAttrF S.D n nm).2)) w') :
    Calls Tryz.prog 131 #[.pointer (some ⟨θ.g, 0, none⟩), .int .u64 (n : Nat), .string nm] w R := by
  refine ok131 (some ⟨θ.g, 0, none⟩) (n : Nat) nm ?_
  unfold F131
  refine of_calls h hn 1 (by decide) fun w1 hb1 => ⟨_, _, rfl, ?_⟩
  have h1 := h.below hb1
  unfold dropAttrF at hK
  refine brn (fun hne => ?_) (fun he => ?_)
  · rw [if_pos hne] at hK
    exact hK w1 o S h1 hp rfl (EvC.below hb1)
  rw [if_neg (by rw [he]; simp)] at hK
  obtain ⟨s, hs, hk⟩ := chg_some he
  obtain ⟨a1, a2⟩ := okS_ats (hw.a.ok n s hs) hk
  rw [if_pos he]
  rw [ats_some hs] at hK
  obtain ⟨i, i1, i2, i3, i4⟩ := h1.of hs
  refine attr_calls h1 i2 i3 a2 fun w3 hb3 => ⟨_, _, rfl, ?_⟩
  have B3 := btr hb1 hb1.size hb3
  have h3 := h.below B3
  rw [brnot]
  refine br (fun ht => ?_) (fun ht => ?_)
  · rw [if_pos ht] at hK
    obtain ⟨k1, k2⟩ := posA_there ht
    obtain ⟨a, ca, oa, ra⟩ := h3.cAts i2 i3
    obtain ⟨A, c, hv, hr⟩ := oa.form
    have hv2 : a = (A, s.attrs.length, c) := by
      obtain ⟨z1, z2, z3⟩ := a
      unfold slV at hv
      simp only [Value.slice.injEq] at hv
      obtain ⟨rfl, rfl, rfl⟩ := hv
      rfl
    have ca' : w3.cell? ⟨pb S.bs n, 5, none⟩ = some (.slice A s.attrs.length c) := by rw [ca, hv]
    simp only [NonNil_some, Addr.add_mk, Nat.zero_add, ca', Addr.add_mk, List.getElem?_toArray, List.getElem?_cons_zero, List.getElem?_cons_succ, LdI_some, LdB_some, LdStr_some, LdP_some, LdSl_some, LdM_some, Nat.zero_add, Br_t, Br_f]
    rw [hv2] at oa ra
    have e1 : ((posA s.attrs nm : Nat) : Int) + 1 = ((posA s.attrs nm + 1 : Nat) : Int) := by omega
    rw [e1]
    refine ⟨inR_i64 (by omega) (by omega), ?_⟩
    refine delA_calls oa (by omega) (by omega) fun v' w5 o5 f5 r5 => ⟨_, _, _, rfl, ?_⟩
    refine h3.setAts (b := pb S.bs n) i2 i3 (v := (A, s.attrs.length, c)) (v' := v') ra f5 o5 r5 (by simp; omega) fun w6 o6 h6 e6 => ?_
    rw [updI_setS (f := fun s => { s with attrs := s.attrs.take (posA s.attrs nm) ++ s.attrs.drop (posA s.attrs nm + 1) }) i1 i3] at h6
    exact hK w6 o6 _ h6 (hp.updI (f := fun s => { s with attrs := s.attrs.take (posA s.attrs nm) ++ s.attrs.drop (posA s.attrs nm + 1) }) hs rfl rfl) rfl (EvP.trans (EvC.below B3) (e6.mono fun c => nodeC_pc))
  · rw [if_neg (by rw [ht]; decide)] at hK
    exact hK w3 o S h3 hp rfl (EvC.below B3)
end
end Go.Proofs.YthbeeonmfbigcaaGreatDoor
/- Documents of the reference: how they lie in memory while they are changed. -/
namespace Go.Proofs.YthbeeonmfbigcaaGreatDoor
open Go.RowKit Go.Vc
set_option linter.unusedVariables false
set_option linter.unusedSimpArgs false
set_option maxRecDepth 100000
def vx (ok : Nat → Bool) (g : Nat) (vs : Sv) (w : World) : World := wOnly (fun b => ok b && (!(Nat.beq b g) && decide (rowOf (slV vs) ≠ some b))) w
structure RSb (w : World) (s : Sl) (e : S8) : Prop where
  gen : e.gen = s.gen
  live : e.live = s.live
  kind : e.kind = s.kind
  nm : e.nm = s.nm
  text : e.text = s.text
  parent : e.parent = s.parent
  ats : RR LAt w s.attrs e.ats
theorem RSb.sub {w w1 : World} {s : Sl} {e : S8} (hs : Sub w w1) (h : RSb w s e) : RSb w1 s e := ⟨h.gen, h.live, h.kind, h.nm, h.text, h.parent, h.ats.sub hs⟩
structure RO (ok : Nat → Bool) (opn : List Nat) (w : World) (g : Nat) (D : Im) (vs vr : Sv) (es : List S8) : Prop where
  blk : Blk w g #[slV vs, slV vr] 39
  own : Own LS8 w 0 85 (slV vs) es
  row : ∀ b, rowOf (slV vs) = some b → b ≠ g
  len : es.length = D.sl.length
  few : D.sl.length ≤ 4096
  el : ∀ (i : Nat) (s : Sl) (e : S8), D.sl[i]? = some s → es[i]? = some e → RSb (vx ok g vs w) s e ∧ (i ∉ opn → RR LHn (vx ok g vs w) s.kids e.kids)
  roots : RR LHn (vx ok g vs w) D.roots vr
  ok : ∀ s ∈ D.sl, SlOk s
  rok : ∀ h ∈ D.roots, h < 18446744073709551616
structure RM (ok : Nat → Bool) (w : World) (g : Nat) (D : Im) (vs vr : Sv) : Prop where
  blk : Blk w g #[slV vs, slV vr] 39
  im : RIm (wOnly (fun b => ok b && !(Nat.beq b g)) w) D vs vr
  few : D.sl.length ≤ 4096
section
variable {ok ok1 : Nat → Bool} {opn : List Nat} {w w1 : World} {g : Nat} {D : Im} {vs vr : Sv} {es : List S8} {M : Nat → Prop} {R : Ending → World → Prop}
theorem vx_iff {b : Nat} : (ok b && (!(Nat.beq b g) && decide (rowOf (slV vs) ≠ some b))) = true ↔ ok b = true ∧ b ≠ g ∧ rowOf (slV vs) ≠ some b := by
  rw [Bool.and_eq_true, Bool.and_eq_true, decide_eq_true_eq]
  constructor
  · rintro ⟨h1, h2, h3⟩
    refine ⟨h1, fun e => ?_, h3⟩
    subst e
    rw [show Nat.beq b b = true from Nat.beq_refl b] at h2; cases h2
  · rintro ⟨h1, h2, h3⟩
    refine ⟨h1, ?_, h3⟩
    cases h : Nat.beq b g with
    | false => rfl
    | true => exact absurd (Nat.eq_of_beq_eq_true h) h2
theorem vx_sub {vs1 : Sv} (hf : Fm M w w1) (hm : ∀ b, b < w.heap.size → M b → ok b = false ∨ b = g ∨ rowOf (slV vs) = some b) (hk : ∀ b, b < w.heap.size → ok b = true → ok1 b = true)
    (hr : ∀ b, rowOf (slV vs1) = some b → rowOf (slV vs) = some b ∨ w.heap.size ≤ b) : Sub (vx ok g vs w) (vx ok1 g vs1 w1) :=
  sub_only (fun b hb h => by
    obtain ⟨h1, h2, h3⟩ := vx_iff.1 h
    refine vx_iff.2 ⟨hk b hb h1, h2, fun e => ?_⟩
    rcases hr b e with e | e
    · exact h3 e
    · omega) fun b hb h => hf.block b hb fun hm2 => by
    obtain ⟨h1, h2, h3⟩ := vx_iff.1 h
    rcases hm b hb hm2 with e | e | e
    · rw [e] at h1; cases h1
    · exact h2 e
    · exact h3 e
theorem RO.c0 (h : RO ok opn w g D vs vr es) : w.cell? ⟨g, 0, none⟩ = some (.slice vs.1 vs.2.1 vs.2.2) := by rw [h.blk.cell]; rfl
theorem RO.c1 (h : RO ok opn w g D vs vr es) : w.cell? ⟨g, 1, none⟩ = some (.slice vr.1 vr.2.1 vr.2.2) := by rw [h.blk.cell]; rfl
theorem slv_form {v : Sv} {A : Option Addr} {n c : Nat} (h : slV v = .slice A n c) : v = (A, n, c) := by
  obtain ⟨a1, a2, a3⟩ := v
  unfold slV at h
  simp only [Value.slice.injEq] at h
  obtain ⟨rfl, rfl, rfl⟩ := h
  rfl
theorem RO.rd (h : RO ok opn w g D vs vr es) : vs.2.1 = es.length ∧ Rd LS8 w vs.1 vs.2.2 es := by
  obtain ⟨A, c, hv, hr⟩ := h.own.form
  rw [slv_form hv]; exact ⟨rfl, hr⟩
theorem RO.slot (h : RO ok opn w g D vs vr es) {i : Int} {k : Nat} (hi : i = k) {s : Sl} {e : S8} (hs : D.sl[k]? = some s) (he : es[k]? = some e) {K : Addr → Prop}
    (hK : ∀ b o, w.cell? ⟨b, o, none⟩ = some (.int .u32 (s.gen : Nat)) → w.cell? ⟨b, o + 1, none⟩ = some (.bool s.live) → w.cell? ⟨b, o + 2, none⟩ = some (.int .i64 s.kind) → w.cell? ⟨b, o + 3, none⟩ = some (.string s.nm) →
      w.cell? ⟨b, o + 4, none⟩ = some (.slice e.ats.1 e.ats.2.1 e.ats.2.2) → w.cell? ⟨b, o + 5, none⟩ = some (.string s.text) → w.cell? ⟨b, o + 6, none⟩ = some (.int .u64 (s.parent : Nat)) → w.cell? ⟨b, o + 7, none⟩ = some (.slice e.kids.1 e.kids.2.1 e.kids.2.2) → K ⟨b, o, none⟩) : IdxA vs.1 vs.2.1 i 8 K := by
  obtain ⟨hn, hr⟩ := h.rd
  obtain ⟨hk, he⟩ := List.getElem?_eq_some_iff.1 he
  obtain ⟨b1, _⟩ := h.el k s e hs (by rw [← he]; exact List.getElem?_eq_getElem hk)
  refine hr.s8 hn hi hk fun b o c0 c1 c2 c3 c4 c5 c6 c7 => ?_
  rw [he] at c0 c1 c2 c3 c4 c5 c6 c7
  exact hK b o (by rw [c0, b1.gen]) (by rw [c1, b1.live]) (by rw [c2, b1.kind]) (by rw [c3, b1.nm]) c4 (by rw [c5, b1.text]) (by rw [c6, b1.parent]) c7
theorem RO.e8 (h : RO ok opn w g D vs vr es) {k : Nat} {s : Sl} (hs : D.sl[k]? = some s) : ∃ e, es[k]? = some e := by
  have := (List.getElem?_eq_some_iff.1 hs).1
  exact ⟨_, List.getElem?_eq_getElem (by rw [h.len]; exact this)⟩
theorem RM.rdr (h : RM ok w g D vs vr) : RDr w g D vs vr := ⟨by rw [h.blk.cell]; rfl, by rw [h.blk.cell]; rfl, h.im.sub sub_of_only⟩
theorem vx_wk : Sub (vx ok g vs w) (wOnly (fun b => ok b && !(Nat.beq b g)) w) :=
  sub_only (fun b _ h => by
    rw [Bool.and_eq_true, Bool.and_eq_true] at h
    rw [Bool.and_eq_true]; exact ⟨h.1, h.2.1⟩) fun _ _ _ => rfl
theorem Z2.ofGet {α β : Type} {P : α → β → Prop} : ∀ {l : List α} {m : List β}, m.length = l.length → (∀ (i : Nat) (a : α) (b : β), l[i]? = some a → m[i]? = some b → P a b) → Z2 P l m
  | [], m, h, _ => List.eq_nil_of_length_eq_zero h
  | a :: l, [], h, _ => by simp at h
  | a :: l, b :: m, h, k => ⟨b, m, rfl, k 0 a b rfl rfl, Z2.ofGet (by simpa using h) fun i x y hx hy => k (i + 1) x y (by simpa using hx) (by simpa using hy)⟩
theorem RO.close (h : RO ok [] w g D vs vr es) (hrow : ∀ b, rowOf (slV vs) = some b → ok b = true) : RM ok w g D vs vr := by
  have hfew := h.few
  refine ⟨h.blk, ⟨by omega, ⟨es, h.rd.1, ?_, Z2.ofGet h.len fun i s e hs he => ?_⟩, h.roots.sub vx_wk, h.ok, h.rok⟩, hfew⟩
  · have ho : Own LS8 (wOnly (fun b => ok b && !(Nat.beq b g)) w) 0 85 (slV vs) es := by
      rcases h.own with h1 | h1 | ⟨g', c, cur, hv, hb, hh, hn, hm, hs, ht⟩
      · exact .inl h1
      · exact .inr (.inl h1)
      · refine .inr (.inr ⟨g', c, cur, hv, hb, cells_only ?_ hh, hn, hm, hs, ht⟩)
        have hr : rowOf (slV vs) = some g' := by rw [hv]; rfl
        rw [hrow g' hr]
        have := h.row g' hr
        cases h : Nat.beq g' g with
        | false => rfl
        | true => exact absurd (Nat.eq_of_beq_eq_true h) this
    obtain ⟨A, c, hv, hr⟩ := ho.form
    rw [slv_form hv]; exact hr
  · obtain ⟨b1, b2⟩ := h.el i s e hs he
    have b2 := (b2 (by simp)).sub vx_wk
    have b1 := b1.sub vx_wk
    exact ⟨b1.gen, b1.live, b1.kind, b1.nm, b1.text, b1.parent, b1.ats, b2⟩
theorem RM.copy (h : RM ok w g D vs vr) {a1 : Addr} {w2 : World} {K : World → Prop} (hb2 : Below w.heap.size w w2)
    (hK : ∀ w' vs' es, RO ok [] w' g D vs' vr es → Fm (· = g) w w' → Fm (· = g) w2 w' → (∀ b, rowOf (slV vs') = some b → w.heap.size ≤ b) → K w') :
    Raw Tryz.prog (Builtin.append_ #[36, 36] 36 #[.slice (some a1) 0 0, .slice vs.1 vs.2.1 vs.2.2]) w2 fun v w3 => ∃ (A : Option Addr) (n c : Nat), v = .slice A n c ∧ St w3 ⟨g, 0, none⟩ (.slice A n c) K := by
  obtain ⟨es, e1, e2, e3⟩ := h.im.row
  have hel := e3.len
  have hfew := h.few
  have hr2 : Rd LS8 w2 vs.1 vs.2.2 es := (sub_of_only.rd e2 : Rd LS8 w _ _ _).keep hb2
  refine ap (L := LS8) (e := 85) (xs := []) (ys := es) (base := w.heap.size) (.agg #[.int .u32 0, .bool false, .int .i64 0, .string (ByteArray.mk #[]), .slice none 0 0, .string (ByteArray.mk #[]), .int .u64 0, .slice none 0 0]) 104 e1 (by kernel_rfl) (by kernel_rfl) (by kernel_rfl) (Own.bare _ _ _ _ _) hr2 hb2.size (by simp only [List.length_nil, Nat.zero_add]; omega) (by simp [maxLen]; omega) fun A c w3 o3 g3 => ⟨A, _, c, rfl, ?_⟩
  rw [List.nil_append] at o3
  have hB3 : Below w.heap.size w w3 := hb2.trans g3.below
  have hg := h.blk.lt
  have hblk3 := h.blk.keep hB3
  refine st_blk hblk3 (by simp) fun w4 b4 f4 => ?_
  have b4 : Blk w4 g #[slV (A, [].length + es.length, c), slV vr] 39 := b4
  have hrow : ∀ b, rowOf (slV (A, ([] : List S8).length + es.length, c)) = some b → w.heap.size ≤ b := fun b hb => (o3.lt b hb).1
  have F4 : Fm (· = g) w w4 := (Fm.below hB3).trans f4
  have hsub : Sub (wOnly (fun b => ok b && !(Nat.beq b g)) w) (vx ok g (A, ([] : List S8).length + es.length, c) w4) :=
    sub_only (fun b hb hh => by
      rw [Bool.and_eq_true] at hh
      refine vx_iff.2 ⟨hh.1, fun e => ?_, fun e => ?_⟩
      · subst e; rw [show Nat.beq b b = true from Nat.beq_refl b] at hh; cases hh.2
      · have := hrow b e; omega) fun b hb hh => F4.block b hb fun e => by
      have e : b = g := e
      subst e; rw [Bool.and_eq_true, show Nat.beq b b = true from Nat.beq_refl b] at hh; cases hh.2
  refine hK w4 (A, ([] : List S8).length + es.length, c) es ⟨b4, ?_, fun b hb => by have := hrow b hb; omega, hel, hfew, fun i s e hs he => ?_, h.im.roots.sub hsub, h.im.ok, h.im.rok⟩ F4 ((Fm.grown g3.grown fun b hb => by cases hb).trans f4) hrow
  · exact (own_fm o3 f4 fun b hb e => by have e : b = g := e; have := hrow b hb; omega).rebase fun k _ => Nat.zero_le _
  · obtain ⟨hi, hs⟩ := List.getElem?_eq_some_iff.1 hs
    obtain ⟨hi', he⟩ := List.getElem?_eq_some_iff.1 he
    have := (e3.get i hi hi').sub hsub
    rw [hs, he] at this
    exact ⟨⟨this.gen, this.live, this.kind, this.nm, this.text, this.parent, this.ats⟩, fun _ => this.kids⟩
end
end Go.Proofs.YthbeeonmfbigcaaGreatDoor
/- Documents of the reference while they are changed: handles, slots, lists, levels, places. -/
namespace Go.Proofs.YthbeeonmfbigcaaGreatDoor
open Go.RowKit Go.Vc
set_option linter.unusedVariables false
set_option linter.unusedSimpArgs false
set_option maxRecDepth 100000
structure RW (opn : List Nat) (w : World) (g : Nat) (D : Im) (vs vr : Sv) (es : List S8) : Prop where
  c0 : w.cell? ⟨g, 0, none⟩ = some (.slice vs.1 vs.2.1 vs.2.2)
  c1 : w.cell? ⟨g, 1, none⟩ = some (.slice vr.1 vr.2.1 vr.2.2)
  en : vs.2.1 = es.length
  rd : Rd LS8 w vs.1 vs.2.2 es
  len : es.length = D.sl.length
  few : D.sl.length ≤ 4096
  el : ∀ (i : Nat) (s : Sl) (e : S8), D.sl[i]? = some s → es[i]? = some e → RSb w s e ∧ (i ∉ opn → RR LHn w s.kids e.kids)
  roots : RR LHn w D.roots vr
  ok : ∀ s ∈ D.sl, SlOk s
  rok : ∀ h ∈ D.roots, h < 18446744073709551616
section
variable {ok ok1 : Nat → Bool} {opn : List Nat} {w w1 : World} {g : Nat} {D : Im} {vs vr : Sv} {es : List S8} {M : Nat → Prop} {R : Ending → World → Prop}
theorem RW.sub (hs : Sub w w1) (h : RW opn w g D vs vr es) : RW opn w1 g D vs vr es :=
  ⟨hs.cell h.c0, hs.cell h.c1, h.en, hs.rd h.rd, h.len, h.few, fun i s e h1 h2 => by obtain ⟨a, b⟩ := h.el i s e h1 h2; exact ⟨a.sub hs, fun hi => (b hi).sub hs⟩, h.roots.sub hs, h.ok, h.rok⟩
theorem RW.keep (h : RW opn w g D vs vr es) (hb : Below w.heap.size w w1) : RW opn w1 g D vs vr es := h.sub (sub_below hb)
theorem vx_of : Sub (vx ok g vs w) w := sub_of_only
theorem RO.re (h : RO ok opn w g D vs vr es) : RW opn w g D vs vr es :=
  ⟨h.c0, h.c1, h.rd.1, h.rd.2, h.len, h.few, fun i s e h1 h2 => by obtain ⟨a, b⟩ := h.el i s e h1 h2; exact ⟨a.sub vx_of, fun hi => (b hi).sub vx_of⟩, h.roots.sub vx_of, h.ok, h.rok⟩
theorem RM.re (h : RM ok w g D vs vr) : ∃ es, RW [] w g D vs vr es := by
  have h2 := h.rdr
  obtain ⟨es, e1, e2, e3⟩ := h2.im.row
  have hl := e3.len
  refine ⟨es, h2.c0, h2.c1, e1, e2, hl, h.few, fun i s e hs he => ?_, h2.im.roots, h2.im.ok, h2.im.rok⟩
  obtain ⟨hi, hs⟩ := List.getElem?_eq_some_iff.1 hs
  obtain ⟨hi', he⟩ := List.getElem?_eq_some_iff.1 he
  have := e3.get i hi hi'
  rw [hs, he] at this
  exact ⟨⟨this.gen, this.live, this.kind, this.nm, this.text, this.parent, this.ats⟩, fun _ => this.kids⟩
theorem RW.rdr (h : RW [] w g D vs vr es) : RDr w g D vs vr := by
  have hfew := h.few
  refine ⟨h.c0, h.c1, ⟨by omega, ⟨es, h.en, h.rd, Z2.ofGet h.len fun i s e hs he => ?_⟩, h.roots, h.ok, h.rok⟩⟩
  obtain ⟨a, b⟩ := h.el i s e hs he
  exact ⟨a.gen, a.live, a.kind, a.nm, a.text, a.parent, a.ats, b (by simp)⟩
theorem RW.n (h : RW opn w g D vs vr es) : vs.2.1 = D.sl.length := by rw [h.en, h.len]
theorem RW.e8 (h : RW opn w g D vs vr es) {k : Nat} (hk : k < D.sl.length) : ∃ e, es[k]? = some e := ⟨_, List.getElem?_eq_getElem (by rw [h.len]; exact hk)⟩
theorem RW.slot (h : RW opn w g D vs vr es) {i : Int} {k : Nat} (hi : i = k) (hk : k < D.sl.length) {K : Addr → Prop}
    (hK : ∀ b o e, es[k]? = some e → RSb w D.sl[k] e → (k ∉ opn → RR LHn w D.sl[k].kids e.kids) → w.cell? ⟨b, o, none⟩ = some (.int .u32 (D.sl[k].gen : Nat)) → w.cell? ⟨b, o + 1, none⟩ = some (.bool D.sl[k].live) → w.cell? ⟨b, o + 2, none⟩ = some (.int .i64 D.sl[k].kind) →
      w.cell? ⟨b, o + 4, none⟩ = some (.slice e.ats.1 e.ats.2.1 e.ats.2.2) → w.cell? ⟨b, o + 6, none⟩ = some (.int .u64 (D.sl[k].parent : Nat)) → w.cell? ⟨b, o + 7, none⟩ = some (.slice e.kids.1 e.kids.2.1 e.kids.2.2) → K ⟨b, o, none⟩) : IdxA vs.1 vs.2.1 i 8 K := by
  obtain ⟨e, he⟩ := h.e8 hk
  obtain ⟨b1, b2⟩ := h.el k _ e (List.getElem?_eq_getElem hk) he
  obtain ⟨hk', he'⟩ := List.getElem?_eq_some_iff.1 he
  refine h.rd.s8 h.en hi hk' fun b o c0 c1 c2 c3 c4 c5 c6 c7 => ?_
  rw [he'] at c0 c1 c2 c3 c4 c5 c6 c7
  exact hK b o e he b1 b2 (by rw [c0, b1.gen]) (by rw [c1, b1.live]) (by rw [c2, b1.kind]) c4 (by rw [c6, b1.parent]) c7
theorem RW.slotH {S : World → Prop} (h : RW opn w g D vs vr es) (hS : ∀ w1, S w1 → Below w.heap.size w w1) {i : Int} {k : Nat} (hi : i = k) (hk : k < D.sl.length) {K : Addr → Prop}
    (hK : ∀ b o e, es[k]? = some e → RSb w D.sl[k] e → (k ∉ opn → RR LHn w D.sl[k].kids e.kids) → Held S ⟨b, o, none⟩ (.int .u32 (D.sl[k].gen : Nat)) → Held S ⟨b, o + 2, none⟩ (.int .i64 D.sl[k].kind) →
      Held S ⟨b, o + 6, none⟩ (.int .u64 (D.sl[k].parent : Nat)) → Held S ⟨b, o + 7, none⟩ (.slice e.kids.1 e.kids.2.1 e.kids.2.2) → K ⟨b, o, none⟩) : IdxA vs.1 vs.2.1 i 8 K := by
  subst hi
  obtain ⟨e, he⟩ := h.e8 hk
  obtain ⟨b1, b2⟩ := h.el k _ e (List.getElem?_eq_getElem hk) he
  obtain ⟨hk', he'⟩ := List.getElem?_eq_some_iff.1 he
  have hen := h.en
  refine h.rd.held hS h.en (by omega) (by omega) rfl fun b o hc => ?_
  simp only [Int.toNat_natCast] at hc
  rw [he'] at hc
  have c0 := hc 0 _ rfl
  have c2 := hc 2 _ rfl
  have c6 := hc 6 _ rfl
  have c7 := hc 7 _ rfl
  exact hK b o e he b1 b2 (by rw [← b1.gen]; exact c0) (by rw [← b1.kind]; exact c2) (by rw [← b1.parent]; exact c6) c7
theorem handleW (h : RW opn w g D vs vr es) {i : Nat} (hi : i < D.sl.length) (hK : R (.returned (.int .u64 (hnd D.sl[i].gen i : Nat))) w) : Calls Tryz.prog 55 #[.pointer (some ⟨g, 0, none⟩), .int .i64 (i : Nat)] w R := by
  have hlen := h.few
  have hg := (h.ok _ (List.getElem_mem hi)).gen
  refine ok55 (some ⟨g, 0, none⟩) i ?_
  unfold F55
  simp only [NonNil_some, h.c0, Addr.add_mk, List.getElem?_toArray, List.getElem?_cons_zero, List.getElem?_cons_succ, LdI_some, LdB_some, LdStr_some, LdP_some, LdSl_some, LdM_some, Nat.zero_add, Br_t, Br_f]
  refine h.slot rfl hi fun b o e _ _ _ c0 _ _ _ _ _ => ?_
  simp only [c0, Addr.add_mk, List.getElem?_toArray, List.getElem?_cons_zero, List.getElem?_cons_succ, LdI_some, LdB_some, LdStr_some, LdP_some, LdSl_some, LdM_some, Nat.zero_add, Br_t, Br_f]
  have e1 : ((D.sl[i].gen : Nat) : Int) * (2 ^ (min ((32 : Int)).toNat 64)) = ((D.sl[i].gen * 4294967296 : Nat) : Int) := by simp
  have e2 : ((i : Nat) : Int) + 1 = ((i + 1 : Nat) : Int) := by omega
  rw [e1, e2, bOr_hnd hg (by omega)]
  exact ⟨inR_u64 (by omega) (by omega), inR_u64 (by omega) (by omega), inR_i64 (by omega) (by omega), inR_u64 (by omega) (by omega), hK⟩
theorem atW (h : RW opn w g D vs vr es) {x : Nat} (hx : x < 18446744073709551616) (hK : R (.returned (.int .i64 (atI (atF D.sl x)))) w) : Calls Tryz.prog 33 #[.pointer (some ⟨g, 0, none⟩), .int .u64 (x : Nat)] w R := by
  have hlen := h.few
  have hn := h.n
  refine ok33 (some ⟨g, 0, none⟩) x ?_
  unfold F33
  have hm : ((x : Nat) : Int).tmod 4294967296 = ((x % 4294967296 : Nat) : Int) := by rw [Int.tmod_eq_emod_of_nonneg (by omega)]; rfl
  rw [hm]
  have hlt : x % 4294967296 < 4294967296 := Nat.mod_lt _ (by decide)
  unfold atF at hK
  refine ⟨inR_i64 (by omega) (by omega), inR_i64 (by omega) (by omega), fun w' => w = w' ∧ atF D.sl x = some (x % 4294967296 - 1) ∧ 0 < x % 4294967296, ?_, ?_⟩
  · rintro _ ⟨rfl, ha, h0⟩
    unfold F33_j4
    unfold atF at ha
    rw [ha] at hK
    rw [hm, show ((x % 4294967296 : Nat) : Int) - 1 = ((x % 4294967296 - 1 : Nat) : Int) by omega]
    exact hK
  · refine brd (fun h0 => ?_) (fun h0 => ?_)
    · rw [if_pos (by omega)] at hK; exact hK
    rw [if_neg (by omega)] at hK
    simp only [NonNil_some, h.c0, Addr.add_mk, List.getElem?_toArray, List.getElem?_cons_zero, List.getElem?_cons_succ, LdI_some, LdB_some, LdStr_some, LdP_some, LdSl_some, LdM_some, Nat.zero_add, Br_t, Br_f]
    have e1 : ((x % 4294967296 : Nat) : Int) - 1 = ((x % 4294967296 - 1 : Nat) : Int) := by omega
    have hpos : 0 < x % 4294967296 := by omega
    refine brd (fun h1 => ?_) (fun h1 => ?_)
    · rw [List.getElem?_eq_none (by omega)] at hK; exact hK
    have hk : x % 4294967296 - 1 < D.sl.length := by omega
    rw [List.getElem?_eq_getElem hk] at hK
    simp only at hK
    refine h.slot e1 hk fun b o e _ _ _ c0 c1 c2 c4 c6 c7 => ?_
    simp only [Addr.add_mk, c1, Addr.add_mk, List.getElem?_toArray, List.getElem?_cons_zero, List.getElem?_cons_succ, LdI_some, LdB_some, LdStr_some, LdP_some, LdSl_some, LdM_some, Nat.zero_add, Br_t, Br_f]
    rw [brnot]
    refine br (fun hl => ?_) (fun hl => ?_)
    · rw [e1]
      refine handleW h hk ⟨_, rfl, ?_⟩
      refine brn (fun hne => ?_) (fun he => ?_)
      · rw [if_neg (by rintro ⟨-, h3⟩; exact hne (by rw [h3]))] at hK
        exact hK
      · have h3 : hnd D.sl[x % 4294967296 - 1].gen (x % 4294967296 - 1) = x := by omega
        refine ⟨rfl, ?_, hpos⟩
        unfold atF
        rw [if_neg (by omega), List.getElem?_eq_getElem hk]
        simp only
        rw [if_pos ⟨hl, h3⟩]
    · rw [if_neg (by rintro ⟨h3, -⟩; rw [hl] at h3; cases h3)] at hK
      exact hK
theorem atF_isSome {sl : List Sl} {x : Nat} : (atF sl x).isSome = (slA sl x).isSome := by
  cases h : slA sl x with
  | none => rw [atF_none.2 h]; rfl
  | some s =>
    obtain ⟨k, h1, _⟩ := atF_slA h
    rw [h1]; rfl
theorem liveW (h : RW opn w g D vs vr es) {x : Nat} (hx : x < 18446744073709551616) (hK : R (.returned (.bool (slA D.sl x).isSome)) w) : Calls Tryz.prog 29 #[.pointer (some ⟨g, 0, none⟩), .int .u64 (x : Nat)] w R := by
  rw [← atF_isSome] at hK
  refine ok29 (some ⟨g, 0, none⟩) x ?_
  unfold F29
  refine atW h hx ⟨_, rfl, ?_⟩
  cases ha : atF D.sl x with
  | none => rw [ha] at hK; exact hK
  | some k => rw [ha] at hK; rw [show decide (atI (some k) ≥ 0) = true from decide_eq_true (by simp [atI])]; exact hK
theorem slA_get {sl : List Sl} {x : Nat} {s : Sl} (hs : slA sl x = some s) : ∃ k, atF sl x = some k ∧ ∃ hk : k < sl.length, sl[k] = s ∧ x % 4294967296 = k + 1 ∧ x ≠ 0 := by
  obtain ⟨k, h1, h2⟩ := atF_slA hs
  obtain ⟨hk, h2⟩ := List.getElem?_eq_some_iff.1 h2
  obtain ⟨_, _, _, h3⟩ := atF_some h1
  refine ⟨k, h1, hk, h2, by omega, fun e => ?_⟩
  subst e; rw [slA_zero] at hs; cases hs
theorem listW {w0 : World} (h : RW opn w0 g D vs vr es) (hb0 : Below w0.heap.size w0 w) {x : Nat} (hx : x < 18446744073709551616) (hl : x = 0 ∨ ∃ s, slA D.sl x = some s ∧ x % 4294967296 - 1 ∉ opn)
    (hK : ∀ v w', Below w.heap.size w w' → RR LHn w0 (lstI D x) v → (x = 0 → v = vr) → (∀ (e : S8), x ≠ 0 → es[x % 4294967296 - 1]? = some e → v = e.kids) → R (.returned (.slice v.1 v.2.1 v.2.2)) w') : Calls Tryz.prog 51 #[.pointer (some ⟨g, 0, none⟩), .int .u64 (x : Nat)] w R := by
  refine ok51 (some ⟨g, 0, none⟩) x ?_
  unfold F51
  have hn := h.keep hb0
  refine bre (fun h1 => ?_) (fun h1 => ?_)
  · have h0 : x = 0 := by omega
    subst h0
    simp only [NonNil_some, Addr.add_mk, Nat.zero_add, hn.c1, Addr.add_mk, List.getElem?_toArray, List.getElem?_cons_zero, List.getElem?_cons_succ, LdI_some, LdB_some, LdStr_some, LdP_some, LdSl_some, LdM_some, Nat.zero_add, Br_t, Br_f]
    exact hK vr w (.refl _ _) (by unfold lstI; rw [lstA_zero]; exact h.roots) (fun _ => rfl) fun e h0 => absurd rfl h0
  · rcases hl with rfl | ⟨s, hs, ho⟩
    · exact absurd rfl h1
    obtain ⟨k, ha, hk, hsk, hm, hx0⟩ := slA_get hs
    have hd : Below w.heap.size w w.drew := (Below.refl _ _).drew
    refine ⟨fun w' => Below w.heap.size w w', hd, ?_⟩
    rw [NonNil_some]
    refine ⟨_, _, _, fun w' hb => (hn.keep hb).c0, ?_⟩
    refine atW (hn.keep hd) hx ⟨_, rfl, hd, ?_⟩
    rw [ha]
    refine hn.slotH (fun w1 h1 => h1) (show atI (some k) = k from rfl) hk fun b o e he _ _ _ _ _ c7 => ⟨_, _, _, c7, ?_⟩
    have hkk : x % 4294967296 - 1 = k := by omega
    rw [hkk] at ho
    obtain ⟨b1, b2⟩ := h.el k _ e (List.getElem?_eq_getElem hk) he
    have b2 := b2 ho
    rw [hsk] at b2
    exact hK e.kids _ hd (by unfold lstI; rw [lstA_some hx0 hs]; exact b2) (fun e => absurd e hx0) fun e' _ he' => by rw [hkk, he] at he'; cases he'; rfl
theorem findW {l : List Nat} {v : Sv} {x : Nat} (hv : RR LHn w l v) (hm : x ∈ l) (hK : R (.returned (.int .i64 (l.idxOf x : Nat))) w) : Calls Tryz.prog 69 #[.slice v.1 v.2.1 v.2.2, .int .u64 (x : Nat)] w R := by
  obtain ⟨z0, z1, z2⟩ := hv
  refine ok69 v.1 v.2.1 v.2.2 x ?_
  unfold F69
  have hlt := List.idxOf_lt_length_iff.2 hm
  refine ⟨fun i w' => w = w' ∧ ∃ m : Nat, i = m ∧ m ≤ l.idxOf x, fun i _ => l.length - i.toNat, ⟨rfl, 0, rfl, Nat.zero_le _⟩, ?_⟩
  rintro i _ ⟨rfl, m, rfl, hm2⟩
  unfold F69_l2
  refine brd (fun h1 => ?_) (fun h1 => absurd (by omega) h1)
  have hml : m < l.length := by omega
  refine z2.hn z1 rfl hml fun b o c => ?_
  simp only [c, Addr.add_mk, List.getElem?_toArray, List.getElem?_cons_zero, List.getElem?_cons_succ, LdI_some, LdB_some, LdStr_some, LdP_some, LdSl_some, LdM_some, Nat.zero_add, Br_t, Br_f]
  refine bre (fun h2 => ?_) (fun h2 => ?_)
  · have h2 : l[m] = x := by omega
    have h3 : l.idxOf x = m := by
      have h4 : ¬ m < l.idxOf x := fun h5 => by
        have := List.not_of_lt_findIdx (p := fun y => y == x) (xs := l) h5
        rw [h2] at this; simp at this
      omega
    rw [← h3]; exact hK
  · have h3 : m ≠ l.idxOf x := fun e => h2 (by
      have := List.getElem_idxOf hlt
      subst e; rw [this])
    exact ⟨inR_i64 (by omega) (by omega), ⟨trivial, m + 1, by omega, by omega⟩, (by first | omega | (dsimp only; omega))⟩
theorem levelW (h : RW opn w g D vs vr es) {p c : Nat} (hc : Ch (slA D.sl) p c) (hc2 : c ≤ 64) (hp : p < 18446744073709551616) (hK : ∀ w', Below w.heap.size w w' → R (.returned (.int .i64 ((c : Nat) - 1))) w') : Calls Tryz.prog 41 #[.pointer (some ⟨g, 0, none⟩), .int .u64 (p : Nat)] w R := by
  refine ok41 (some ⟨g, 0, none⟩) p ?_
  unfold F41
  refine ⟨fun x i w' => ∃ (q d : Nat), x = (q : Nat) ∧ q < 18446744073709551616 ∧ Ch (slA D.sl) q d ∧ d ≤ c ∧ i = (c : Nat) - 1 - (d : Nat) ∧ Below w.heap.size w w', fun x i w' => ((c : Nat) - i).toNat, ⟨p, c, rfl, hp, hc, Nat.le_refl _, by omega, .refl _ _⟩, ?_⟩
  rintro x i w2 ⟨q, d, rfl, hq, hd, hdc, rfl, hb⟩
  unfold F41_l2
  have hn := h.keep hb
  cases hd with
  | zero =>
    refine brn (fun h0 => absurd rfl h0) (fun _ => ?_)
    simpa using hK w2 hb
  | @succ q d s hq0 ha h3 =>
    refine brn (fun _ => ?_) (fun h0 => absurd (by omega) hq0)
    obtain ⟨k, k1, hk, k2, _⟩ := slA_get ha
    have hdr : Below w2.heap.size w2 w2.drew := (Below.refl _ _).drew
    have hpar := (h.ok _ (List.getElem_mem hk)).parent
    refine ⟨inR_i64 (by omega) (by omega), fun w' => Below w2.heap.size w2 w', hdr, ?_⟩
    rw [NonNil_some]
    refine ⟨_, _, _, fun w' hb => (hn.keep hb).c0, ?_⟩
    refine atW (hn.keep hdr) hq ⟨_, rfl, hdr, ?_⟩
    rw [k1]
    refine hn.slotH (fun w1 h1 => h1) (show atI (some k) = k from rfl) hk fun b o e he _ _ _ _ c6 _ => ⟨_, c6, ?_⟩
    rw [k2] at hpar ⊢
    exact ⟨⟨s.parent, d, rfl, hpar, h3, by omega, by omega, btr hb hb.size hdr⟩, (by first | omega | (dsimp only; omega))⟩
theorem withinW (h : RW opn w g D vs vr es) {n x c : Nat} {s : Sl} (hn : slA D.sl n = some s) (hc : Ch (slA D.sl) x c) (hc2 : c ≤ 64) (hx : x ≠ 0) (hxl : x < 18446744073709551616)
    (hK : ∀ w', Below w.heap.size w w' → R (.returned (.bool (wiI D n x))) w') : Calls Tryz.prog 45 #[.pointer (some ⟨g, 0, none⟩), .int .u64 (x : Nat), .int .u64 (n : Nat)] w R := by
  refine ok45 (some ⟨g, 0, none⟩) x n ?_
  unfold F45
  have hn0 : n ≠ 0 := fun e => by subst e; rw [slA_zero] at hn; cases hn
  refine ⟨fun n2 w' => Below w.heap.size w w' ∧ ∃ q : Nat, n2 = (q : Nat) ∧ (wiI D n x = true ↔ q = n), ?_, ?_⟩
  · rintro n2 w2 ⟨hb, q, rfl, he⟩
    unfold F45_j3
    have e : ((q : Int) == (n : Int)) = wiI D n x := by
      rw [Bool.eq_iff_iff, he, beq_iff_eq]; omega
    rw [e]; exact hK w2 hb
  · refine ⟨fun n2 w' => Below w.heap.size w w' ∧ ∃ q d r : Nat, n2 = (q : Nat) ∧ q < 18446744073709551616 ∧ Ch (slA D.sl) q d ∧ d < r ∧ r ≤ 65 ∧ wiB (slA D.sl) r n q = wiI D n x, fun n2 w' => cntF (slA D.sl) 65 n2.toNat, ⟨.refl _ _, x, c, 65, rfl, hxl, hc, by omega, by omega, rfl⟩, ?_⟩
    rintro n2 w2 ⟨hb, q, d, r, rfl, hql, hq, hr, hr2, he⟩
    have hcq := cnt_ch hq 65 (by omega) (by omega)
    unfold F45_l1
    refine ⟨fun w' => w2 = w' ∧ q ≠ 0 ∧ q ≠ n, ?_, ?_⟩
    · rintro _ ⟨rfl, hq0, hqn⟩
      unfold F45_j2
      cases hq with
      | zero => exact absurd rfl hq0
      | @succ _ d' t h0 ha h3 =>
        obtain ⟨k, k1, hk, k2, _⟩ := slA_get ha
        have hdr : Below w2.heap.size w2 w2.drew := (Below.refl _ _).drew
        have hpar := (h.ok _ (List.getElem_mem hk)).parent
        have hn2 := h.keep hb
        refine ⟨fun w' => Below w2.heap.size w2 w', hdr, ?_⟩
        rw [NonNil_some]
        refine ⟨_, _, _, fun w' hb => (hn2.keep hb).c0, ?_⟩
        refine atW (hn2.keep hdr) hql ⟨_, rfl, hdr, ?_⟩
        rw [k1]
        refine hn2.slotH (fun w1 h1 => h1) (show atI (some k) = k from rfl) hk fun b o e he _ _ _ _ c6 _ => ⟨_, c6, ?_⟩
        rw [k2] at hpar ⊢
        obtain ⟨r', rfl⟩ : ∃ r', r = r' + 1 := ⟨r - 1, by omega⟩
        refine ⟨⟨btr hb hb.size hdr, t.parent, d', r', rfl, hpar, h3, by omega, by omega, ?_⟩, ?_⟩
        · rw [← he, wiB, if_neg hq0, if_neg hqn, ha]
        · show cntF (slA D.sl) 65 (Int.toNat (t.parent : Nat)) < cntF (slA D.sl) 65 (Int.toNat (q : Nat))
          rw [Int.toNat_natCast, Int.toNat_natCast, hcq, cnt_ch h3 65 (by omega) (by omega)]; omega
    · refine brn (fun h0 => ?_) (fun h0 => ?_)
      · refine brn (fun h1 => ⟨rfl, by omega, fun e => h1 (by rw [e])⟩) (fun h1 => ?_)
        have h1 : q = n := by omega
        refine ⟨hb, q, rfl, ?_⟩
        obtain ⟨r', rfl⟩ : ∃ r', r = r' + 1 := ⟨r - 1, by omega⟩
        rw [← he, wiB, if_neg (by omega), if_pos h1]
        exact ⟨fun _ => h1, fun _ => rfl⟩
      · have h0 : q = 0 := by omega
        refine ⟨hb, q, rfl, ?_⟩
        obtain ⟨r', rfl⟩ : ∃ r', r = r' + 1 := ⟨r - 1, by omega⟩
        rw [← he, wiB, if_pos h0]
        exact ⟨fun e => (by cases e), fun e => (by omega)⟩
theorem placeW (h : RW opn w g D vs vr es) {wh : Int} {a : Nat} (ha : a < 18446744073709551616)
    (hK : ∀ w', Below w.heap.size w w' → R (.returned (.tuple #[.int .u64 ((placeF D wh a).1 : Nat), .int .i64 (placeF D wh a).2])) w') : Calls Tryz.prog 38 #[.pointer (some ⟨g, 0, none⟩), .int .i64 wh, .int .u64 (a : Nat)] w R := by
  refine ok38 (some ⟨g, 0, none⟩) wh a ?_
  unfold F38
  unfold placeF at hK
  have hdr : Below w.heap.size w w.drew := (Below.refl _ _).drew
  refine ⟨fun w' => w = w' ∧ ¬ (wh < 1 ∨ 4 < wh ∨ (a = 0 ∧ 2 < wh)), ?_, ?_⟩
  · rintro _ ⟨rfl, hsh⟩
    rw [if_neg hsh] at hK
    unfold F38_j3
    refine ⟨fun w' => w = w' ∧ (a = 0 ∨ ∃ s, slA D.sl a = some s), ?_, ?_⟩
    · rintro _ ⟨rfl, hl⟩
      unfold F38_j5
      refine brd (fun h2 => ?_) (fun h2 => ?_)
      · refine ⟨fun w' => Below w.heap.size w w' ∧ (a = 0 ∨ ∃ s, slA D.sl a = some s ∧ s.kind ≠ 2), ?_, ?_⟩
        · rintro w2 ⟨hb, hl2⟩
          unfold F38_j8
          rcases hl2 with rfl | ⟨s, hs, hk⟩
          · simpa using hK w2 hb
          · have h0 : a ≠ 0 := fun e => by subst e; rw [slA_zero] at hs; cases hs
            rw [if_neg h0, hs] at hK
            simp only [if_pos h2, if_neg hk] at hK
            exact hK w2 hb
        · refine ⟨fun w' => Below w.heap.size w w', hdr, ?_⟩
          refine brn (fun h0 => ?_) (fun h0 => ⟨hdr, .inl (by omega)⟩)
          rcases hl with rfl | ⟨s, hs⟩
          · exact absurd rfl h0
          obtain ⟨k, k1, hk, k2, _, hx0⟩ := slA_get hs
          rw [NonNil_some]
          refine ⟨_, _, _, fun w' hb => (h.keep hb).c0, ?_⟩
          refine atW (h.keep hdr) ha ⟨_, rfl, hdr, ?_⟩
          rw [k1]
          refine h.slotH (fun w1 h1 => h1) (show atI (some k) = k from rfl) hk fun b o e he _ _ _ c2 _ _ => ⟨_, c2, ?_⟩
          rw [k2]
          refine bre (fun h3 => ?_) (fun h3 => ⟨hdr, .inr ⟨s, hs, h3⟩⟩)
          rw [if_neg hx0, hs] at hK
          simp only [if_pos h2, if_pos h3] at hK
          exact hK _ hdr
      · rcases hl with rfl | ⟨s, hs⟩
        · exact absurd (.inr (.inr ⟨rfl, by omega⟩)) hsh
        obtain ⟨k, k1, hk, k2, _, hx0⟩ := slA_get hs
        refine ⟨fun w' => Below w.heap.size w w', hdr, ?_⟩
        rw [NonNil_some]
        refine ⟨_, _, _, fun w' hb => (h.keep hb).c0, ?_⟩
        refine atW (h.keep hdr) ha ⟨_, rfl, hdr, ?_⟩
        rw [k1]
        refine h.slotH (fun w1 h1 => h1) (show atI (some k) = k from rfl) hk fun b o e he _ _ _ _ c6 _ => ⟨_, c6, ?_⟩
        rw [k2]
        rw [if_neg hx0, hs] at hK
        simp only [if_neg h2] at hK
        exact hK _ hdr
    · refine brn (fun h0 => ?_) (fun h0 => ⟨rfl, .inl (by omega)⟩)
      have h0' : a ≠ 0 := by omega
      refine liveW h ha ⟨_, rfl, ?_⟩
      rw [brnot]
      refine br (fun h1 => ?_) (fun h1 => ?_)
      · exact ⟨rfl, .inr (Option.isSome_iff_exists.1 h1)⟩
      · have e9 : slA D.sl a = none := by
          cases h9 : slA D.sl a with
          | none => rfl
          | some s => rw [h9] at h1; cases h1
        rw [if_neg h0', e9] at hK
        exact hK w (.refl _ _)
  · refine brd (fun h1 => ?_) (fun h1 => ?_)
    · rw [if_pos (.inl h1)] at hK; exact hK w (.refl _ _)
    refine brd (fun h2 => ?_) (fun h2 => ?_)
    · rw [if_pos (.inr (.inl h2))] at hK; exact hK w (.refl _ _)
    refine bre (fun h3 => ?_) (fun h3 => ⟨rfl, by omega⟩)
    refine brd (fun h4 => ?_) (fun h4 => ⟨rfl, by omega⟩)
    rw [if_pos (.inr (.inr ⟨by omega, h4⟩))] at hK; exact hK w (.refl _ _)
theorem tk_take (l : List Sl) {k : Nat} (h : k < l.length) : tk (l.take (k + 1)) = tk (l.take k) + if l[k].live || decide (4294967295 ≤ l[k].gen) then 1 else 0 := by
  unfold tk
  rw [List.take_succ_eq_append_getElem h, List.filter_append, List.length_append]
  congr 1
  cases hl : (l[k].live || decide (4294967295 ≤ l[k].gen)) <;> simp [hl]
theorem takenW (h : RW opn w g D vs vr es) (hK : R (.returned (.int .i64 (tk D.sl : Nat))) w) : Calls Tryz.prog 42 #[.pointer (some ⟨g, 0, none⟩)] w R := by
  have hlen := h.few
  have hn := h.n
  refine ok42 (some ⟨g, 0, none⟩) ?_
  unfold F42
  refine ⟨fun n i w' => ∃ k : Nat, i = k ∧ k ≤ D.sl.length ∧ w' = w ∧ n = (tk (D.sl.take k) : Nat), fun _ i _ => D.sl.length - i.toNat, ⟨0, rfl, by omega, rfl, by simp [tk]⟩, ?_⟩
  rintro n i w' ⟨k, rfl, hk, rfl, rfl⟩
  unfold F42_l3
  simp only [NonNil_some, h.c0, Addr.add_mk, List.getElem?_toArray, List.getElem?_cons_zero, List.getElem?_cons_succ, LdI_some, LdB_some, LdStr_some, LdP_some, LdSl_some, LdM_some, Nat.zero_add, Br_t, Br_f]
  have hle2 : tk (D.sl.take k) ≤ D.sl.length := Nat.le_trans tk_le (by rw [List.length_take]; omega)
  refine brd (fun hlt => ?_) (fun hge => ?_)
  · have hk2 : k < D.sl.length := by omega
    have hs := tk_take D.sl hk2
    refine ⟨fun n2 w2 => w2 = w' ∧ n2 = (tk (D.sl.take (k + 1)) : Nat), ?_, ?_⟩
    · rintro n2 w2 ⟨rfl, rfl⟩
      unfold F42_j4
      exact ⟨inR_i64 (by omega) (by omega), ⟨k + 1, by simp, by omega, rfl, rfl⟩, (by first | omega | (dsimp only; omega))⟩
    · have hg := (h.ok _ (List.getElem_mem hk2)).gen
      refine h.slot rfl hk2 fun b o e _ _ _ c0 c1 _ _ _ _ => ?_
      simp only [Addr.add_mk, c1, Addr.add_mk, List.getElem?_toArray, List.getElem?_cons_zero, List.getElem?_cons_succ, LdI_some, LdB_some, LdStr_some, LdP_some, LdSl_some, LdM_some, Nat.zero_add, Br_t, Br_f]
      refine br (fun hl => ?_) (fun hl => ?_)
      · rw [if_pos (by rw [hl]; rfl)] at hs
        exact ⟨inR_i64 (by omega) (by omega), trivial, by omega⟩
      · refine h.slot rfl hk2 fun b o e _ _ _ c0 c1 _ _ _ _ => ?_
        simp only [c0, Addr.add_mk, List.getElem?_toArray, List.getElem?_cons_zero, List.getElem?_cons_succ, LdI_some, LdB_some, LdStr_some, LdP_some, LdSl_some, LdM_some, Nat.zero_add, Br_t, Br_f]
        refine bre (fun hw => ?_) (fun hw => ?_)
        · rw [if_pos (by rw [hl, Bool.false_or, decide_eq_true_eq]; omega)] at hs
          exact ⟨inR_i64 (by omega) (by omega), trivial, by omega⟩
        · rw [if_neg (by rw [hl, Bool.false_or, decide_eq_true_eq]; omega)] at hs
          exact ⟨trivial, by omega⟩
  · have hk2 : k = D.sl.length := by omega
    subst hk2
    rw [List.take_length] at *; exact hK
end
end Go.Proofs.YthbeeonmfbigcaaGreatDoor
/- Documents of the reference while they are changed: stores into the slots' row; lists set; out, put. -/
namespace Go.Proofs.YthbeeonmfbigcaaGreatDoor
open Go.RowKit Go.Vc
set_option linter.unusedVariables false
set_option linter.unusedSimpArgs false
set_option maxRecDepth 100000
section
variable {α : Type} {L : Lay α} {w w1 : World} {e : TypeId} {q : Nat}
theorem Own.elA {v : Sv} {xs : List α} (hO : Own L w q e (slV v) xs) {i : Int} {k : Nat} (hi : i = k) (hk : k < xs.length) {sz : Nat} (hsz : sz = L.n) {K : Addr → Prop} (hK : ∀ b, rowOf (slV v) = some b → K ⟨b, k * L.n, none⟩) : IdxA v.1 v.2.1 i sz K := by
  subst hi hsz
  obtain ⟨g, c, rest, rfl, hrow, _⟩ := hO.row1 (by omega)
  dsimp only
  rw [IdxA_some (by omega) (by omega)]
  simp only [Addr.add_mk, Nat.zero_add, Int.toNat_natCast]
  exact hK g hrow
theorem Own.stc {v : Sv} {xs : List α} {k j : Nat} {x' : α} {u : Value} (hO : Own L w q e (slV v) xs) (hk : k < xs.length) (hj : j < L.n) (hx : L.cells x' = (L.cells xs[k]).set j u) {b : Nat} (hb : rowOf (slV v) = some b) {K : World → Prop}
    (hK : ∀ w1, Own L w1 q e (slV v) (xs.set k x') → Fm (fun b => rowOf (slV v) = some b) w w1 → K w1) : St w ⟨b, k * L.n + j, none⟩ u K := by
  obtain ⟨g, c, rest, rfl, hrow, hq, hB, hc1, hc2, hc3⟩ := hO.row1 (by omega)
  obtain rfl : g = b := by rw [hrow] at hb; exact Option.some.inj hb
  have hall := L.all_length xs
  have hkn : k * L.n + L.n ≤ xs.length * L.n := by rw [← Nat.succ_mul]; exact Nat.mul_le_mul_right _ hk
  have hcn : xs.length * L.n ≤ c * L.n := Nat.mul_le_mul_right _ hc1
  refine st_blk hB (by rw [List.size_toArray, hc3]; omega) fun w1 hB1 f1 => hK w1 ?_ (f1.mono fun b _ e => by have e : b = g := e; rw [hrow, e])
  have hset : (L.all xs ++ rest).set (k * L.n + j) u = L.all (xs.set k x') ++ rest := by
    rw [L.all_set xs k _ hk]
    have h1 : L.all xs = (L.all xs).take (k * L.n) ++ (L.cells xs[k] ++ (L.all xs).drop ((k + 1) * L.n)) := by
      have h2 := L.all_set xs k xs[k] hk
      rw [List.set_getElem_self] at h2
      exact h2
    have hl : ((L.all xs).take (k * L.n)).length = k * L.n := by rw [List.length_take, hall]; omega
    have hlc : (L.cells xs[k]).length = L.n := L.len _
    show _ = (L.all xs).take (k * L.n) ++ (L.cells x' ++ (L.all xs).drop ((k + 1) * L.n)) ++ rest
    generalize (L.all xs).drop ((k + 1) * L.n) = dd at h1 ⊢
    generalize hpp : (L.all xs).take (k * L.n) = pp at h1 hl ⊢
    rw [h1, hx]
    simp only [List.append_assoc]
    rw [List.set_append_right _ _ (by omega), hl, show k * L.n + j - k * L.n = j by omega, List.set_append_left _ _ (by omega)]
  rw [List.setIfInBounds_toArray, hset] at hB1
  have hln : (xs.set k x').length = xs.length := List.length_set
  have hO1 := Own.ofBlk (k := q) (c := c) hB1 hq (by rw [hln]; exact hc1) (by omega) hc2 (by rw [← hset, List.length_set, hc3])
  rw [hln] at hO1
  exact hO1
end
section
variable {ok ok1 : Nat → Bool} {opn opn1 : List Nat} {w w1 : World} {g : Nat} {D : Im} {vs vr : Sv} {es : List S8} {M : Nat → Prop} {R : Ending → World → Prop}
def Ed (g : Nat) (vs : Sv) (b : Nat) : Prop := b = g ∨ rowOf (slV vs) = some b
def NewRow (w : World) (vs vs1 : Sv) : Prop := ∀ b, rowOf (slV vs1) = some b → rowOf (slV vs) = some b ∨ w.heap.size ≤ b
theorem NewRow.refl (w : World) (vs : Sv) : NewRow w vs vs := fun _ h => .inl h
theorem NewRow.trans {w w1 : World} {vs vs1 vs2 : Sv} (h : NewRow w vs vs1) (k : NewRow w1 vs1 vs2) (hs : w.heap.size ≤ w1.heap.size) : NewRow w vs vs2 := fun b hb => by
  rcases k b hb with h1 | h1
  · exact h b h1
  · exact .inr (by omega)
theorem Ed.trans {w w1 w2 : World} {vs vs1 : Sv} (h : Fm (Ed g vs) w w1) (hr : NewRow w vs vs1) (k : Fm (Ed g vs1) w1 w2) : Fm (Ed g vs) w w2 :=
  ⟨k.os.trans h.os, k.tape.trans h.tape, k.output.trans h.output, Nat.le_trans h.size k.size, fun b hb hn => by
    rw [k.block b (by have := h.size; omega) (fun e => ?_), h.block b hb hn]
    rcases e with e | e
    · exact hn (.inl e)
    · rcases hr b e with e | e
      · exact hn (.inr e)
      · omega⟩
theorem RO.put1 (h : RO ok opn w g D vs vr es) {k : Nat} {s' : Sl} {e' : S8} (hk : k < D.sl.length) (hO : Own LS8 w1 0 85 (slV vs) (es.set k e')) (hf : Fm (fun b => rowOf (slV vs) = some b) w w1)
    (hq : RSb (vx ok g vs w) s' e') (hq2 : k ∉ opn1 → RR LHn (vx ok g vs w) s'.kids e'.kids) (hopn : ∀ i, i ≠ k → i ∉ opn1 → i ∉ opn) (hok : SlOk s') : RO ok opn1 w1 g { D with sl := D.sl.set k s' } vs vr (es.set k e') := by
  have hsub : Sub (vx ok g vs w) (vx ok g vs w1) := vx_sub hf (fun b _ hb => .inr (.inr hb)) (fun _ _ h => h) (fun b hb => .inl hb)
  have hl := h.len
  refine ⟨hf.blk h.blk fun e => h.row g e rfl, hO, h.row, by simp [h.len], by simpa using h.few, fun i s e h1 h2 => ?_, h.roots.sub hsub, fun s hs => ?_, h.rok⟩
  · have h1 : (D.sl.set k s')[i]? = some s := h1
    rw [List.getElem?_set] at h1 h2
    by_cases e : k = i
    · subst e
      rw [if_pos rfl, if_pos (by omega)] at h1 h2
      cases h1; cases h2
      exact ⟨hq.sub hsub, fun hi => (hq2 hi).sub hsub⟩
    · rw [if_neg e] at h1 h2
      obtain ⟨a, b⟩ := h.el i _ _ h1 h2
      exact ⟨a.sub hsub, fun hi => (b (hopn i (Ne.symm e) hi)).sub hsub⟩
  · rcases List.mem_or_eq_of_mem_set hs with hs | rfl
    · exact h.ok s hs
    · exact hok
theorem RO.putR (h : RO ok opn w g D vs vr es) {l : List Nat} {v : Sv} (hB : Blk w1 g #[slV vs, slV v] 39) (hf : Fm (· = g) w w1) (hv : RR LHn (vx ok g vs w) l v) (hl : ∀ x ∈ l, x < 18446744073709551616) : RO ok opn w1 g { D with roots := l } vs v es := by
  have hsub : Sub (vx ok g vs w) (vx ok g vs w1) := vx_sub hf (fun b _ hb => .inr (.inl hb)) (fun _ _ h => h) (fun b hb => .inl hb)
  exact ⟨hB, own_fm h.own hf fun b hb e => h.row b hb e, h.row, h.len, h.few, fun i s e h1 h2 => by obtain ⟨a, b⟩ := h.el i s e h1 h2; exact ⟨a.sub hsub, fun hi => (b hi).sub hsub⟩, hv.sub hsub, h.ok, hl⟩
theorem RO.keep (h : RO ok opn w g D vs vr es) (hb : Below w.heap.size w w1) : RO ok opn w1 g D vs vr es := by
  have hsub : Sub (vx ok g vs w) (vx ok g vs w1) := vx_sub (M := fun _ => False) (.below hb) (fun b _ hb => hb.elim) (fun _ _ h => h) (fun b hb => .inl hb)
  exact ⟨h.blk.keep hb, h.own.keep hb, h.row, h.len, h.few, fun i s e h1 h2 => by obtain ⟨a, b⟩ := h.el i s e h1 h2; exact ⟨a.sub hsub, fun hi => (b hi).sub hsub⟩, h.roots.sub hsub, h.ok, h.rok⟩
theorem RO.kids_cells {e : S8} {v : Sv} : LS8.cells { e with kids := v } = (LS8.cells e).set 7 (.slice v.1 v.2.1 v.2.2) := rfl
theorem RO.par_cells {e : S8} {p : Nat} : LS8.cells { e with parent := p } = (LS8.cells e).set 6 (.int .u64 (p : Nat)) := rfl
theorem setW (h : RO ok opn w g D vs vr es) {p : Nat} {l : List Nat} {v : Sv} (hpl : p < 18446744073709551616) (hp : p = 0 ∨ ∃ s, slA D.sl p = some s) (hv : RR LHn (vx ok g vs w) l v) (hl : ∀ x ∈ l, x < 18446744073709551616)
    (hK : ∀ w' vr' es', RO ok opn w' g (setI D p l) vs vr' es' → Fm (Ed g vs) w w' → R (.returned (.tuple #[])) w') : Calls Tryz.prog 70 #[.pointer (some ⟨g, 0, none⟩), .int .u64 (p : Nat), .slice v.1 v.2.1 v.2.2] w R := by
  refine ok70 (some ⟨g, 0, none⟩) p v.1 v.2.1 v.2.2 ?_
  unfold F70
  refine bre (fun h0 => ?_) (fun h0 => ?_)
  · have h0 : p = 0 := by omega
    subst h0
    rw [NonNil_some]
    simp only [Addr.add_mk, Nat.zero_add]
    refine st_blk h.blk (by simp) fun w1 b1 f1 => ?_
    have b1 : Blk w1 g #[slV vs, slV v] 39 := b1
    refine hK w1 v es ?_ (f1.mono fun b _ hb => .inl hb)
    unfold setI; rw [if_pos rfl]
    exact h.putR b1 f1 hv hl
  · rcases hp with rfl | ⟨s, hs⟩
    · exact absurd rfl h0
    obtain ⟨k, k1, hk, k2, k3, hx0⟩ := slA_get hs
    have hdr : Below w.heap.size w w.drew := (Below.refl _ _).drew
    have hn := h.re
    refine ⟨fun w' => Below w.heap.size w w', hdr, ?_⟩
    rw [NonNil_some]
    refine ⟨_, _, _, fun w' hb => (hn.keep hb).c0, ?_⟩
    refine atW (hn.keep hdr) hpl ⟨_, rfl, hdr, ?_⟩
    rw [k1]
    have h1 := h.keep hdr
    obtain ⟨e, he⟩ := hn.e8 hk
    obtain ⟨hk', he'⟩ := List.getElem?_eq_some_iff.1 he
    obtain ⟨q1, q2⟩ := h1.el k s e (by rw [← k2]; exact List.getElem?_eq_getElem hk) he
    have hsk := h.ok _ (List.getElem_mem hk)
    refine h1.own.elA (show atI (some k) = k from rfl) hk' (show 8 = LS8.n from rfl) fun b hb => ?_
    simp only [Addr.add_mk]
    refine h1.own.stc hk' (x' := { es[k] with kids := v }) (by decide) RO.kids_cells hb fun w2 o2 f2 => ?_
    have hv1 : RR LHn (vx ok g vs w.drew) l v := hv.sub (vx_sub (M := fun _ => False) (.below hdr) (fun b _ hb => hb.elim) (fun _ _ h => h) (fun b hb => .inl hb))
    rw [he'] at o2
    have h2 := h1.put1 (opn1 := opn) (s' := { s with kids := l }) hk o2 f2 ⟨q1.gen, q1.live, q1.kind, q1.nm, q1.text, q1.parent, q1.ats⟩ (fun _ => hv1) (fun _ _ h => h) ⟨by rw [← k2]; exact hsk.gen, by rw [← k2]; exact hsk.parent, hl⟩
    refine hK w2 vr (es.set k { e with kids := v }) ?_ ((Fm.below hdr).trans (f2.mono fun b _ hb => .inr hb))
    have e9 : setI D p l = { D with sl := D.sl.set k { s with kids := l } } := by
      unfold setI
      rw [if_neg hx0, show p % 4294967296 - 1 = k by omega, modify_set _ _ _ s (by rw [← k2]; exact List.getElem?_eq_getElem hk)]
    rw [e9]; exact h2
end
end Go.Proofs.YthbeeonmfbigcaaGreatDoor
/- Documents of the reference while they are changed: out, put. -/
namespace Go.Proofs.YthbeeonmfbigcaaGreatDoor
open Go.RowKit Go.Vc
set_option linter.unusedVariables false
set_option linter.unusedSimpArgs false
set_option maxRecDepth 100000
section
variable {ok ok1 : Nat → Bool} {opn opn1 : List Nat} {w w1 : World} {g : Nat} {D : Im} {vs vr : Sv} {es : List S8} {M : Nat → Prop} {R : Ending → World → Prop}
theorem hnd_lt {sl : List Sl} (hok : ∀ s ∈ sl, SlOk s) (hf : sl.length ≤ 4096) {x : Nat} {s : Sl} (hs : slA sl x = some s) : x < 18446744073709551616 := by
  obtain ⟨k, k1, hk, k2, k3, _⟩ := slA_get hs
  obtain ⟨_, _, h3, _⟩ := atF_some k1
  have hg := (hok _ (List.getElem_mem hk)).gen
  unfold hnd at h3
  omega
theorem lst_lt (h : RO ok opn w g D vs vr es) (p : Nat) : ∀ x ∈ lstI D p, x < 18446744073709551616 := fun x hx => by
  unfold lstI lstA at hx
  by_cases h0 : p = 0
  · rw [if_pos h0] at hx; exact h.rok x hx
  · rw [if_neg h0] at hx
    cases hs : slA D.sl p with
    | none => rw [hs] at hx; simp at hx
    | some s =>
      rw [hs] at hx
      obtain ⟨k, _, hk, k2, _⟩ := slA_get hs
      exact (h.ok s (by rw [← k2]; exact List.getElem_mem hk)).kids x hx
theorem own_vx {α : Type} {L : Lay α} {B : Nat} (h : RO ok opn w g D vs vr es) (hok : ∀ b, w.heap.size ≤ b → ok b = true) (hB : w.heap.size ≤ B) {e : TypeId} {A : Option Addr} {n c : Nat} {xs : List α} (o : Own L w1 B e (.slice A n c) xs) (hl : xs.length ≤ 1048576) : RR L (vx ok g vs w1) xs (A, n, c) := by
  have ho : Own L (vx ok g vs w1) B e (.slice A n c) xs := by
    rcases o with h1 | h1 | ⟨g', c', cur, hv, hb, hh, hn, hm, hs, ht⟩
    · exact .inl h1
    · exact .inr (.inl h1)
    · refine .inr (.inr ⟨g', c', cur, hv, hb, cells_only (vx_iff.2 ⟨hok g' (by omega), fun e => ?_, fun e => ?_⟩) hh, hn, hm, hs, ht⟩)
      · have := h.blk.lt; omega
      · have := (h.own.lt g' e).2; omega
  obtain ⟨h1, h2⟩ := ho.rd
  exact ⟨hl, h1, h2⟩
theorem outW (h : RO ok [] w g D vs vr es) (hok : ∀ b, w.heap.size ≤ b → ok b = true) {n : Nat} {s : Sl} (hn : slA D.sl n = some s) (hp : s.parent = 0 ∨ ∃ t, slA D.sl s.parent = some t) (hm : n ∈ lstI D s.parent) (hf : (lstI D s.parent).length ≤ 4096)
    (hK : ∀ w' vr' es', RO ok [] w' g (outI D n) vs vr' es' → Fm (Ed g vs) w w' → R (.returned (.tuple #[])) w') : Calls Tryz.prog 47 #[.pointer (some ⟨g, 0, none⟩), .int .u64 (n : Nat)] w R := by
  have hnl := hnd_lt h.ok h.few hn
  refine ok47 (some ⟨g, 0, none⟩) n ?_
  unfold F47
  have hdr : Below w.heap.size w w.drew := (Below.refl _ _).drew
  obtain ⟨k, k1, hk, k2, k3, hx0⟩ := slA_get hn
  have hr := h.re
  have hsk := h.ok _ (List.getElem_mem hk)
  rw [k2] at hsk
  refine ⟨fun w' => Below w.heap.size w w', hdr, ?_⟩
  rw [NonNil_some]
  refine ⟨_, _, _, fun w' hb => (hr.keep hb).c0, ?_⟩
  refine atW (hr.keep hdr) hnl ⟨_, rfl, hdr, ?_⟩
  rw [k1]
  refine hr.slotH (fun w1 h1 => h1) (show atI (some k) = k from rfl) hk fun b o e he _ _ _ _ c6 _ => ⟨_, c6, ?_⟩
  rw [k2]
  refine listW hr hdr hsk.parent (hp.imp id fun ⟨t, ht⟩ => ⟨t, ht, by simp⟩) fun v w2 hb2 hv _ _ => ⟨_, _, _, rfl, ?_⟩
  have B2 := btr hdr hdr.size hb2
  have hv2 := hv.keep B2
  refine findW hv2 hm ⟨_, rfl, fun _ => True, trivial, ?_⟩
  obtain ⟨z0, z1, z2⟩ := hv2
  have hidx := List.idxOf_lt_length_iff.2 hm
  have hcap := z2.1
  have hd3 : Below w.heap.size w w2.drew := B2.drew
  refine ⟨by omega, by omega, by omega, inR_i64 (by omega) (by omega), by omega, by omega, by omega, ?_⟩
  refine al fun ga w3 hb3 _ _ => ?_
  have B3 := btr hd3 hd3.size hb3
  rw [Int.toNat_natCast]
  have rd3 : Rd LHn w3 v.1 v.2.2 (lstI D s.parent) := hv.2.2.keep B3
  refine ap (L := LHn) (e := 41) (xs := []) (ys := (lstI D s.parent).take ((lstI D s.parent).idxOf n)) (base := w.heap.size) (.int .u64 0) 8 (by rw [List.length_take]; omega) (by kernel_rfl) (by kernel_rfl) (by kernel_rfl) (Own.bare _ _ _ _ _) (rd3.take _) B3.size (by simp; omega) (by simp [maxLen]; omega) fun A4 c4 w4 o4 g4 => ⟨A4, _, c4, rfl, ?_⟩
  have B4 : Below w.heap.size w w4 := B3.trans g4.below
  rw [List.nil_append] at o4
  have rd4 : Rd LHn w4 v.1 v.2.2 (lstI D s.parent) := hv.2.2.keep B4
  have eN : (((lstI D s.parent).idxOf n : Nat) : Int) + 1 = (((lstI D s.parent).idxOf n + 1 : Nat) : Int) := by omega
  rw [eN, Int.toNat_natCast, Int.toNat_natCast]
  refine ap (L := LHn) (e := 41) (xs := (lstI D s.parent).take ((lstI D s.parent).idxOf n)) (ys := (lstI D s.parent).drop ((lstI D s.parent).idxOf n + 1)) (base := w.heap.size) (.int .u64 0) 8 (by rw [List.length_drop]; omega) (by kernel_rfl) (by kernel_rfl) (by kernel_rfl) o4 (rd4.slice (by omega)) B4.size (by simp; omega) (by simp [maxLen]; omega) fun A5 c5 w5 o5 g5 => ⟨A5, _, c5, rfl, ?_⟩
  have B5 : Below w.heap.size w w5 := B4.trans g5.below
  rw [take_drop_erase hm] at o5
  have hlen5 : ((lstI D s.parent).erase n).length ≤ 4096 := Nat.le_trans List.length_erase_le hf
  have h5 := h.keep B5
  refine setW h5 (v := (A5, _, c5)) hsk.parent hp (own_vx (h.keep (Below.refl _ _)) hok (Nat.le_refl _) o5 (by omega)) (fun x hx => lst_lt h _ x (List.mem_of_mem_erase hx)) fun w6 vr6 es6 h6 f6 => ⟨rfl, ?_⟩
  refine hK w6 vr6 es6 ?_ ((Fm.below B5).trans f6)
  unfold outI; rw [hn]; exact h6
theorem putW (h : RO ok [] w g D vs vr es) (hok : ∀ b, w.heap.size ≤ b → ok b = true) {n p a : Nat} {wh : Int} {s : Sl} (h0 : slA D.sl 0 = none) (hn : slA D.sl n = some s) (hpl : p < 18446744073709551616) (hp : p = 0 ∨ ∃ t, slA D.sl p = some t) (hf : (lstI D p).length ≤ 4096) (ha : 2 < wh → a ∈ lstI D p)
    (hK : ∀ w' vr' es', RO ok [] w' g (updI (putI D n p wh a) n fun s => { s with parent := p }) vs vr' es' → Fm (Ed g vs) w w' → R (.returned (.tuple #[])) w') : Calls Tryz.prog 44 #[.pointer (some ⟨g, 0, none⟩), .int .u64 (n : Nat), .int .u64 (p : Nat), .int .i64 wh, .int .u64 (a : Nat)] w R := by
  have hnl := hnd_lt h.ok h.few hn
  have hr := h.re
  refine ok44 (some ⟨g, 0, none⟩) n p wh a ?_
  unfold F44
  refine listW hr (Below.refl _ _) hpl (hp.imp id fun ⟨t, ht⟩ => ⟨t, ht, by simp⟩) fun v w2 B2 hv _ _ => ⟨_, _, _, rfl, ?_⟩
  have hv2 := hv.keep B2
  obtain ⟨z0, z1, z2⟩ := hv2
  have hcap := z2.1
  have hposle : posF wh a (lstI D p) ≤ (lstI D p).length := by
    unfold posF
    split
    · omega
    · split
      · exact List.idxOf_le_length
      · split
        · have := List.idxOf_lt_length_iff.2 (ha (by omega)); omega
        · omega
  refine ⟨fun k w' => w2 = w' ∧ k = (posF wh a (lstI D p) : Nat), ?_, ?_⟩
  · rintro k _ ⟨rfl, rfl⟩
    unfold F44_j9
    generalize hpos : posF wh a (lstI D p) = q at hposle ⊢
    refine al fun ga w3 hb3 _ _ => ?_
    have B3 := btr B2 B2.size hb3
    refine ⟨by omega, by omega, by omega, ?_⟩
    rw [Int.toNat_natCast]
    have rd3 : Rd LHn w3 v.1 v.2.2 (lstI D p) := hv.2.2.keep B3
    refine ap (L := LHn) (e := 41) (xs := []) (ys := (lstI D p).take q) (base := w.heap.size) (.int .u64 0) 8 (by rw [List.length_take]; omega) (by kernel_rfl) (by kernel_rfl) (by kernel_rfl) (Own.bare _ _ _ _ _) (rd3.take _) B3.size (by simp; omega) (by simp [maxLen]; omega) fun A4 c4 w4 o4 g4 => ⟨A4, _, c4, rfl, ?_⟩
    have B4 : Below w.heap.size w w4 := B3.trans g4.below
    rw [List.nil_append] at o4
    refine al fun gn w5 hb5 bn5 _ => ?_
    have B5 := btr B4 B4.size hb5
    have o5 := o4.keep hb5
    have rn5 : Rd LHn w5 (some ⟨gn, 0, none⟩) 1 [n] := by
      refine ⟨by simp, by simp [maxLen], fun h0 => (by cases h0), fun _ => ⟨gn, 0, rfl, fun j u hj => ?_⟩⟩
      rw [LHn.all_one] at hj
      rw [bn5.cell]; simpa [LHn] using hj
    refine ap (L := LHn) (e := 41) (xs := (lstI D p).take q) (ys := [n]) (base := w.heap.size) (.int .u64 0) 8 rfl (by kernel_rfl) (by kernel_rfl) (by kernel_rfl) o5 rn5 B5.size (by simp; omega) (by simp [maxLen]; omega) fun A6 c6 w6 o6 g6 => ⟨A6, _, c6, rfl, ?_⟩
    have B6 : Below w.heap.size w w6 := B5.trans g6.below
    have rd6 : Rd LHn w6 v.1 v.2.2 (lstI D p) := hv.2.2.keep B6
    refine ⟨by omega, by omega, by omega, ?_⟩
    rw [Int.toNat_natCast]
    refine ap (L := LHn) (e := 41) (xs := (lstI D p).take q ++ [n]) (ys := (lstI D p).drop q) (base := w.heap.size) (.int .u64 0) 8 (by rw [List.length_drop]; omega) (by kernel_rfl) (by kernel_rfl) (by kernel_rfl) o6 (rd6.slice (by omega)) B6.size (by simp; omega) (by simp [maxLen]; omega) fun A7 c7 w7 o7 g7 => ⟨A7, _, c7, rfl, ?_⟩
    have B7 : Below w.heap.size w w7 := B6.trans g7.below
    have eI : (lstI D p).take q ++ [n] ++ (lstI D p).drop q = insAt (lstI D p) q n := by unfold insAt; simp
    rw [eI] at o7
    have hlen7 : (insAt (lstI D p) q n).length ≤ 1048576 := by unfold insAt; simp; omega
    refine setW (h.keep B7) (v := (A7, _, c7)) hpl hp (own_vx h hok (Nat.le_refl _) o7 hlen7) (fun x hx => ?_) fun w8 vr8 es8 h8 f8 => ⟨rfl, ?_⟩
    · rcases mem_insAt.1 hx with rfl | hx
      · exact hnl
      · exact lst_lt h _ x hx
    have eP : setI D p (insAt (lstI D p) q n) = putI D n p wh a := by unfold putI; rw [hpos]
    rw [eP] at h8
    obtain ⟨s8, hs8⟩ : ∃ s8, slA (putI D n p wh a).sl n = some s8 := by
      rw [← eP, (setI_A hp).1]
      obtain ⟨t, ht, _⟩ := setA_of' (p := p) (l := insAt (lstI D p) q n) hn
      exact ⟨t, ht⟩
    obtain ⟨k, k1, hk, k2, k3, hx0⟩ := slA_get hs8
    have hr8 := h8.re
    have hd8 : Below w8.heap.size w8 w8.drew := (Below.refl _ _).drew
    refine ⟨fun w' => Below w8.heap.size w8 w', hd8, ?_⟩
    rw [NonNil_some]
    refine ⟨_, _, _, fun w' hb => (hr8.keep hb).c0, ?_⟩
    refine atW (hr8.keep hd8) hnl ⟨_, rfl, hd8, ?_⟩
    rw [k1]
    have h9 := h8.keep hd8
    obtain ⟨e, he⟩ := hr8.e8 hk
    obtain ⟨hk', he'⟩ := List.getElem?_eq_some_iff.1 he
    obtain ⟨q1, q2⟩ := h9.el k s8 e (by rw [← k2]; exact List.getElem?_eq_getElem hk) he
    have hsk := h8.ok _ (List.getElem_mem hk)
    rw [k2] at hsk
    refine h9.own.elA (show atI (some k) = k from rfl) hk' (show 8 = LS8.n from rfl) fun b hb => ?_
    simp only [Addr.add_mk]
    refine h9.own.stc hk' (x' := { es8[k] with parent := p }) (by decide) RO.par_cells hb fun w10 o10 f10 => ?_
    rw [he'] at o10
    have h10 := h9.put1 (opn1 := []) (s' := { s8 with parent := p }) (e' := { e with parent := p }) hk o10 f10 ⟨q1.gen, q1.live, q1.kind, q1.nm, q1.text, rfl, q1.ats⟩ (fun _ => q2 (by simp)) (fun _ _ h => h) ⟨hsk.gen, hpl, hsk.kids⟩
    refine hK w10 vr8 (es8.set k { e with parent := p }) ?_ (((Fm.below B7).trans f8).trans ((Fm.below hd8).trans (f10.mono fun b _ hb => .inr hb)))
    have e9 : updI (putI D n p wh a) n (fun s => { s with parent := p }) = { putI D n p wh a with sl := (putI D n p wh a).sl.set k { s8 with parent := p } } := by
      unfold updI
      rw [show n % 4294967296 - 1 = k by omega, modify_set _ _ _ s8 (by rw [← k2]; exact List.getElem?_eq_getElem hk)]
    rw [e9]; exact h10
  · unfold posF
    refine bre (fun h2 => ⟨rfl, by rw [if_pos h2]; omega⟩) (fun h2 => ?_)
    refine bre (fun h3 => ?_) (fun h3 => ?_)
    · refine findW (hv.keep B2) (ha (by omega)) ⟨_, rfl, rfl, ?_⟩
      rw [if_neg h2, if_pos h3]
    refine bre (fun h4 => ?_) (fun h4 => ⟨rfl, by rw [if_neg h2, if_neg h3, if_neg h4]; rfl⟩)
    have := List.idxOf_lt_length_iff.2 (ha (by omega))
    refine findW (hv.keep B2) (ha (by omega)) ⟨_, rfl, inR_i64 (by omega) (by omega), rfl, ?_⟩
    rw [if_neg h2, if_neg h3, if_pos h4]; omega
end
end Go.Proofs.YthbeeonmfbigcaaGreatDoor
/- The reference: what is wrong with a tree; how many nodes it has, how deep it is. -/
namespace Go.Proofs.YthbeeonmfbigcaaGreatDoor
open Go.RowKit Go.Vc
set_option linter.unusedVariables false
set_option linter.unusedSimpArgs false
set_option maxRecDepth 100000
theorem kidsR_calls (e : E5) {w : World} {R : Ending → World → Prop} (hK : ∀ w', Below w.heap.size w w' → R (.returned (slV (if e.kind = 1 then e.kids else (none, 0, 0)))) w') :
    Calls Tryz.prog 67 #[.agg #[.int .i64 e.kind, .string e.nm, slV e.ats, .string e.text, slV e.kids]] w R := by
  refine ok67 e.kind e.nm e.ats.1 e.ats.2.1 e.ats.2.2 e.text e.kids.1 e.kids.2.1 e.kids.2.2 ?_
  unfold F67
  refine al fun g4 w1 hb1 b4 hge4 => ?_
  simp only [Addr.add_mk, Nat.zero_add, b4.cell, List.getElem?_toArray, List.getElem?_cons_zero, List.getElem?_cons_succ, Addr.add_mk, List.getElem?_toArray, List.getElem?_cons_zero, List.getElem?_cons_succ, LdI_some, LdB_some, LdStr_some, LdP_some, LdSl_some, LdM_some, Nat.zero_add, Br_t, Br_f]
  refine bre (fun hk => ?_) (fun hk => ?_)
  · rw [if_pos hk] at hK; exact hK w1 hb1
  · rw [if_neg hk] at hK; exact hK w1 hb1
theorem own_kind {kind : Int} {nm : ByteArray} {l : List At} {t : ByteArray} (h : ownF kind nm l t = 0) : kind = 1 ∨ kind = 2 := by
  unfold ownF at h
  by_cases h1 : kind = 1
  · exact .inl h1
  · by_cases h2 : kind = 2
    · exact .inr h2
    · simp [h1, h2] at h
theorem check_calls : ∀ (x : Tr) {w : World} {deep n : Nat} {e : E5} {R : Ending → World → Prop}, RTr w x e → n ≤ 4096 → deep ≤ 65 → 1 ≤ deep →
    (∀ w', Below w.heap.size w w' → R (.returned (.tuple #[.int .i64 ((lookF x deep n).1 : Nat), .int .i64 (lookF x deep n).2])) w') →
    Calls Tryz.prog 66 #[.agg #[.int .i64 e.kind, .string e.nm, slV e.ats, .string e.text, slV e.kids], .int .i64 (deep : Nat), .int .i64 (n : Nat)] w R := by
  refine Tr.ind fun kind nm attrs text kids ih => ?_
  intro w deep n e R hT hn hd hd1 hK
  have hT0 := hT
  simp only [RTr] at hT
  obtain ⟨t1, t2, t3, t4, t5, es, t6, t7, t8⟩ := hT
  have hel := t8.len
  refine ok66 e.kind e.nm e.ats.1 e.ats.2.1 e.ats.2.2 e.text e.kids.1 e.kids.2.1 e.kids.2.2 (deep : Nat) (n : Nat) ?_
  unfold F66
  refine al fun g4 w1 hb1 b4 hge4 => ?_
  have hlook : lookF (.mk kind nm attrs text kids) deep n = if 64 < deep ∨ 4096 ≤ n then (n, 2) else if ownF kind nm attrs text ≠ 0 then (n, ownF kind nm attrs text) else if kind = 2 then (n + 1, 0) else looksF kids (deep + 1) (n + 1) := by rw [lookF]
  refine ⟨fun w' => w1 = w' ∧ ¬ (64 < deep ∨ 4096 ≤ n), ?_, ?_⟩
  · rintro _ ⟨rfl, hlim⟩
    rw [if_neg hlim] at hlook
    unfold F66_j3
    simp only [Addr.add_mk, Nat.zero_add, b4.cell, List.getElem?_toArray, List.getElem?_cons_zero, List.getElem?_cons_succ, Addr.add_mk, List.getElem?_toArray, List.getElem?_cons_zero, List.getElem?_cons_succ, LdI_some, LdB_some, LdStr_some, LdP_some, LdSl_some, LdM_some, Nat.zero_add, Br_t, Br_f]
    refine own2_calls e.kind e.nm attrs e.ats e.text e.kids (t4.keep hb1) fun w2 hb2 => ⟨_, rfl, ?_⟩
    rw [t1, t2, t3]
    have b42 := b4.keep hb2
    have B2 := btr hb1 hb1.size hb2
    refine brn (fun hne => ?_) (fun heq => ?_)
    · rw [if_pos hne] at hlook
      have := hK w2 B2
      rw [hlook] at this; exact this
    have heq : ownF kind nm attrs text = 0 := heq
    rw [if_neg (by rw [heq]; simp)] at hlook
    simp only [Addr.add_mk, Nat.zero_add, b42.cell, List.getElem?_toArray, List.getElem?_cons_zero, List.getElem?_cons_succ, Addr.add_mk, List.getElem?_toArray, List.getElem?_cons_zero, List.getElem?_cons_succ, LdI_some, LdB_some, LdStr_some, LdP_some, LdSl_some, LdM_some, Nat.zero_add, Br_t, Br_f]
    have e5 : ((n : Nat) : Int) + 1 = ((n + 1 : Nat) : Int) := by omega
    rw [e5]
    refine ⟨inR_i64 (by omega) (by omega), ?_⟩
    have hkk := own_kind heq
    refine kidsR_calls e fun w3 hb3 => ?_
    have B3 := btr B2 B2.size hb3
    rcases hkk with hk1 | hk2
    · rw [if_pos (by omega)]
      rw [if_neg (by omega)] at hlook
      refine ⟨_, _, _, rfl, ?_⟩
      refine ⟨fun n2 j w' => ∃ k n' : Nat, n2 = n' ∧ j = k ∧ k ≤ kids.length ∧ Below w.heap.size w w' ∧ (looksF (kids.take k) (deep + 1) (n + 1)).2 = 0 ∧ n' = (looksF (kids.take k) (deep + 1) (n + 1)).1 ∧ n' ≤ 4096, fun _ j _ => kids.length - j.toNat,
        ⟨0, n + 1, rfl, rfl, by omega, B3, by simp [looksF], by simp [looksF], by omega⟩, ?_⟩
      rintro n2 j w5 ⟨k, n5, rfl, rfl, hk5, B5, q1, q2, q4⟩
      unfold F66_l9
      have hr5 : Rd LE5 w5 e.kids.1 e.kids.2.2 es := t7.keep B5
      refine brd (fun hlt => ?_) (fun hge => ?_)
      · have hk6 : k < kids.length := by omega
        have hk7 : k < es.length := by omega
        refine hr5.e5 t6 rfl (k := k) hk7 fun bb oo c0 c1 c2 c3 c4 => ?_
        simp only [Addr.add_mk, Nat.zero_add, c0, c1, c2, c3, c4, Addr.add_mk, List.getElem?_toArray, List.getElem?_cons_zero, List.getElem?_cons_succ, LdI_some, LdB_some, LdStr_some, LdP_some, LdSl_some, LdM_some, Nat.zero_add, Br_t, Br_f]
        have e8 : ((deep : Nat) : Int) + 1 = ((deep + 1 : Nat) : Int) := by omega
        rw [e8]
        refine ⟨inR_i64 (by omega) (by omega), ?_⟩
        have hdp : deep + 1 ≤ 65 := by omega
        refine ih kids[k] (List.getElem_mem hk6) (n := n5) (e := es[k]) ((t8.get k hk6 hk7).keep B5) q4 (by omega) (by omega) fun w8 hb8 => ⟨_, _, rfl, ?_⟩
        have B8 := btr B5 B5.size hb8
        have hst := looks_app (kids.take k) [kids[k]] (deep + 1) (n + 1)
        rw [if_neg (by rw [q1]; simp), ← q2] at hst
        have hst2 : looksF [kids[k]] (deep + 1) n5 = lookF kids[k] (deep + 1) n5 := by
          rw [looksF]
          by_cases h : (lookF kids[k] (deep + 1) n5).2 ≠ 0
          · rw [if_pos h]
          · rw [if_neg h, looksF]
            have h : (lookF kids[k] (deep + 1) n5).2 = 0 := by simpa using h
            rw [← h]
        rw [hst2, ← List.take_succ_eq_append_getElem hk6] at hst
        refine brn (fun hne => ?_) (fun heq => ?_)
        · have hall := looks_app (kids.take (k + 1)) (kids.drop (k + 1)) (deep + 1) (n + 1)
          rw [List.take_append_drop, hst, if_pos hne] at hall
          rw [hall] at hlook
          have := hK w8 B8
          rw [hlook] at this; exact this
        · obtain ⟨a1, a2, a3, a4⟩ := look_ok kids[k] (deep + 1) n5 heq
          refine ⟨inR_i64 (by omega) (by omega), ⟨k + 1, (lookF kids[k] (deep + 1) n5).1, rfl, by simp, by omega, B8, by rw [hst]; exact heq, by rw [hst], by omega⟩, (by first | omega | (dsimp only; omega))⟩
      · have hk6 : k = kids.length := by omega
        subst hk6
        rw [List.take_length] at q1 q2
        have := hK w5 B5
        rw [hlook, q1, ← q2] at this; exact this
    · rw [if_neg (by omega)]
      rw [if_pos hk2] at hlook
      refine ⟨none, 0, 0, rfl, ?_⟩
      refine ⟨fun n2 j w' => n2 = ((n + 1 : Nat) : Int) ∧ j = 0 ∧ Below w.heap.size w w', fun _ _ _ => 0, ⟨rfl, rfl, B3⟩, ?_⟩
      rintro n2 j w5 ⟨rfl, rfl, B5⟩
      unfold F66_l9
      refine brd (fun hlt => absurd hlt (by simp)) (fun _ => ?_)
      have := hK w5 B5
      rw [hlook] at this; exact this
  · have hbad : (64 < deep ∨ 4096 ≤ n) → R (.returned (.tuple #[.int .i64 (n : Nat), .int .i64 2])) w1 := fun h => by
      rw [if_pos h] at hlook
      have := hK w1 hb1
      rw [hlook] at this; exact this
    refine brd (fun h => hbad (.inl (by omega))) (fun h => ?_)
    exact brd (fun h2 => hbad (.inr (by omega))) (fun h2 => ⟨rfl, by omega⟩)
theorem Check_calls (x : Tr) {w : World} {e : E5} {R : Ending → World → Prop} (hT : RTr w x e) (hK : ∀ w', Below w.heap.size w w' → R (.returned (.int .i64 (lookF x 1 0).2)) w') :
    Calls Tryz.prog 39 #[.agg #[.int .i64 e.kind, .string e.nm, slV e.ats, .string e.text, slV e.kids]] w R := by
  refine ok39 e.kind e.nm e.ats.1 e.ats.2.1 e.ats.2.2 e.text e.kids.1 e.kids.2.1 e.kids.2.2 ?_
  unfold F39
  refine al fun g4 w1 hb1 b4 hge4 => ?_
  simp only [Addr.add_mk, Nat.zero_add, b4.cell, List.getElem?_toArray, List.getElem?_cons_zero, List.getElem?_cons_succ, Addr.add_mk, List.getElem?_toArray, List.getElem?_cons_zero, List.getElem?_cons_succ, LdI_some, LdB_some, LdStr_some, LdP_some, LdSl_some, LdM_some, Nat.zero_add, Br_t, Br_f]
  exact check_calls x (deep := 1) (n := 0) (hT.keep hb1) (by omega) (by omega) (by omega) fun w2 hb2 => ⟨_, _, rfl, hK w2 (btr hb1 hb1.size hb2)⟩
theorem okL_mem : ∀ {l : List Tr}, okL l → ∀ x ∈ l, okT x
  | [], _, x, hx => by simp at hx
  | y :: l, h, x, hx => by
    simp only [okL] at h
    rcases List.mem_cons.1 hx with rfl | hx
    · exact h.1
    · exact okL_mem h.2 x hx
theorem sizeR_calls : ∀ (x : Tr) {w : World} {e : E5} {R : Ending → World → Prop}, RTr w x e → okT x → szT x ≤ 4194304 → dpT x ≤ 4194304 →
    (∀ w', Below w.heap.size w w' → R (.returned (.tuple #[.int .i64 (szT x : Nat), .int .i64 (dpT x : Nat)])) w') →
    Calls Tryz.prog 40 #[.agg #[.int .i64 e.kind, .string e.nm, slV e.ats, .string e.text, slV e.kids]] w R := by
  refine Tr.ind fun kind nm attrs text kids ih => ?_
  intro w e R hT hok hsz hdp hK
  simp only [RTr] at hT
  obtain ⟨t1, t2, t3, t4, t5, es, t6, t7, t8⟩ := hT
  have hel := t8.len
  simp only [okT] at hok
  obtain ⟨o1, o2, o3⟩ := hok
  have es1 : szT (.mk kind nm attrs text kids) = if kind = 2 then 1 else 1 + szL kids := by rw [szT]
  have es2 : dpT (.mk kind nm attrs text kids) = if kind = 2 then 1 else 1 + dpL kids := by rw [dpT]
  rw [es1] at hsz hK
  rw [es2] at hdp hK
  refine ok40 e.kind e.nm e.ats.1 e.ats.2.1 e.ats.2.2 e.text e.kids.1 e.kids.2.1 e.kids.2.2 ?_
  unfold F40
  refine al fun g4 w1 hb1 b4 hge4 => ?_
  simp only [Addr.add_mk, Nat.zero_add, b4.cell, List.getElem?_toArray, List.getElem?_cons_zero, List.getElem?_cons_succ, Addr.add_mk, List.getElem?_toArray, List.getElem?_cons_zero, List.getElem?_cons_succ, LdI_some, LdB_some, LdStr_some, LdP_some, LdSl_some, LdM_some, Nat.zero_add, Br_t, Br_f]
  refine kidsR_calls e fun w3 hb3 => ?_
  have B3 := btr hb1 hb1.size hb3
  rcases o2 with hk1 | hk2
  · rw [if_pos (by omega)]
    rw [if_neg (by omega)] at hsz hdp
    rw [if_neg (by omega), if_neg (by omega)] at hK
    refine ⟨_, _, _, rfl, ?_⟩
    refine ⟨fun n2 d2 j w' => ∃ k : Nat, n2 = ((1 + szL (kids.take k) : Nat) : Int) ∧ d2 = ((dpL (kids.take k) : Nat) : Int) ∧ j = k ∧ k ≤ kids.length ∧ Below w.heap.size w w', fun _ _ j _ => kids.length - j.toNat,
      ⟨0, by simp [szL], by simp [dpL], rfl, by omega, B3⟩, ?_⟩
    rintro n2 d2 j w5 ⟨k, rfl, rfl, rfl, hk5, B5⟩
    unfold F40_l4
    have hr5 : Rd LE5 w5 e.kids.1 e.kids.2.2 es := t7.keep B5
    have z1 := szL_take (l := kids) k
    have z2 := dpL_take (l := kids) k
    refine brd (fun hlt => ?_) (fun hge => ?_)
    · have hk6 : k < kids.length := by omega
      have hk7 : k < es.length := by omega
      have z3 := szL_take (l := kids) (k + 1)
      have z4 := dpL_take (l := kids) (k + 1)
      rw [List.take_succ_eq_append_getElem hk6, szL_snoc] at z3
      rw [List.take_succ_eq_append_getElem hk6, dpL_snoc] at z4
      refine ⟨fun n3 d3 w' => n3 = ((1 + szL (kids.take (k + 1)) : Nat) : Int) ∧ d3 = ((dpL (kids.take (k + 1)) : Nat) : Int) ∧ Below w.heap.size w w', ?_, ?_⟩
      · rintro n3 d3 w6 ⟨rfl, rfl, B6⟩
        unfold F40_j5
        exact ⟨inR_i64 (by omega) (by omega), ⟨k + 1, rfl, rfl, by simp, by omega, B6⟩, (by first | omega | (dsimp only; omega))⟩
      · refine hr5.e5 t6 rfl (k := k) hk7 fun bb oo c0 c1 c2 c3 c4 => ?_
        simp only [Addr.add_mk, Nat.zero_add, c0, c1, c2, c3, c4, Addr.add_mk, List.getElem?_toArray, List.getElem?_cons_zero, List.getElem?_cons_succ, LdI_some, LdB_some, LdStr_some, LdP_some, LdSl_some, LdM_some, Nat.zero_add, Br_t, Br_f]
        refine ih kids[k] (List.getElem_mem hk6) (e := es[k]) ((t8.get k hk6 hk7).keep B5) (okL_mem (o3 hk1) _ (List.getElem_mem hk6)) (by omega) (by omega) fun w8 hb8 => ⟨_, _, rfl, ?_⟩
        have B8 := btr B5 B5.size hb8
        have e1 : ((1 + szL (kids.take k) : Nat) : Int) + (szT kids[k] : Nat) = ((1 + szL (kids.take (k + 1)) : Nat) : Int) := by
          rw [List.take_succ_eq_append_getElem hk6, szL_snoc]; omega
        rw [e1, List.take_succ_eq_append_getElem hk6, szL_snoc, dpL_snoc]
        refine ⟨inR_i64 (by omega) (by omega), ?_⟩
        exact brd (fun h => ⟨rfl, by omega, B8⟩) (fun h => ⟨rfl, by omega, B8⟩)
    · have hk6 : k = kids.length := by omega
      subst hk6
      rw [List.take_length]
      refine ⟨inR_i64 (by omega) (by omega), ?_⟩
      have e2 : ((dpL kids : Nat) : Int) + 1 = ((1 + dpL kids : Nat) : Int) := by omega
      rw [e2]; exact hK w5 B5
  · rw [if_neg (by omega)]
    rw [if_pos hk2, if_pos hk2] at hK
    refine ⟨none, 0, 0, rfl, ?_⟩
    refine ⟨fun n2 d2 j w' => n2 = 1 ∧ d2 = 0 ∧ j = 0 ∧ Below w.heap.size w w', fun _ _ _ _ => 0, ⟨rfl, rfl, rfl, B3⟩, ?_⟩
    rintro n2 d2 j w5 ⟨rfl, rfl, rfl, B5⟩
    unfold F40_l4
    refine brd (fun hlt => absurd hlt (by simp)) (fun _ => ?_)
    exact ⟨inR_i64 (by omega) (by omega), hK w5 B5⟩
end Go.Proofs.YthbeeonmfbigcaaGreatDoor
/- Documents of the reference while they are changed: a free slot; a slot written whole. -/
namespace Go.Proofs.YthbeeonmfbigcaaGreatDoor
open Go.RowKit Go.Vc
set_option linter.unusedVariables false
set_option linter.unusedSimpArgs false
set_option maxRecDepth 100000
section
variable {α : Type} {L : Lay α} {w w1 : World} {e : TypeId} {q : Nat}
theorem Fm.heldc {M : Nat → Prop} {b o : Nat} {v : Value} (hc : w.cell? ⟨b, o, none⟩ = some v) (hm : ¬ M b) : Held (fun w' => Fm M w w') ⟨b, o, none⟩ v := fun w' hf => by
  by_cases h : b < w.heap.size
  · unfold World.cell? at hc ⊢
    rw [hf.block b h hm]; exact hc
  · unfold World.cell? at hc
    rw [Array.getElem?_eq_none (show w.heap.size ≤ b by omega)] at hc
    simp at hc
theorem Own.elc {v : Sv} {xs : List α} (hO : Own L w q e (slV v) xs) {i : Int} {k : Nat} (hi : i = k) (hk : k < xs.length) {sz : Nat} (hsz : sz = L.n) {K : Addr → Prop}
    (hK : ∀ b, rowOf (slV v) = some b → (∀ j u, (L.cells xs[k])[j]? = some u → w.cell? ⟨b, k * L.n + j, none⟩ = some u) → K ⟨b, k * L.n, none⟩) : IdxA v.1 v.2.1 i sz K := by
  subst hi hsz
  obtain ⟨A, c, hv, hr⟩ := hO.form
  obtain ⟨g, c2, rest, hv2, hrow, _⟩ := hO.row1 (by omega)
  have e1 : v.1 = some ⟨g, 0, none⟩ := by rw [hv2]
  have e2 : v.2.1 = xs.length := by rw [hv2]
  have e3 : v.1 = A := by rw [slv_form hv]
  rw [e1, e2, IdxA_some (by omega) (by omega)]
  simp only [Addr.add_mk, Nat.zero_add, Int.toNat_natCast]
  obtain ⟨b, o, hA, hc⟩ := hr.at k hk
  rw [← e3, e1] at hA
  cases hA
  rw [Nat.zero_add] at hc
  exact hK g hrow hc
theorem Own.stc2 {v : Sv} {xs : List α} {k j : Nat} {a a' : α} {u : Value} (hO : Own L w q e (slV v) (xs.set k a)) (hk : k < xs.length) (hj : j < L.n) (hx : L.cells a' = (L.cells a).set j u) {b : Nat} (hb : rowOf (slV v) = some b) {K : World → Prop}
    (hK : ∀ w1, Own L w1 q e (slV v) (xs.set k a') → Fm (fun b => rowOf (slV v) = some b) w w1 → K w1) : St w ⟨b, k * L.n + j, none⟩ u K := by
  refine hO.stc (by simpa using hk) hj (x' := a') ?_ hb fun w1 o f => hK w1 ?_ f
  · rw [List.getElem_set_self]; exact hx
  · rw [List.set_set] at o; exact o
end
theorem Own.st8 {w : World} {q : Nat} {v : Sv} {xs : List S8} {k : Nat} (e' : S8) (hO : Own LS8 w q 85 (slV v) xs) (hk : k < xs.length) {b : Nat} (hb : rowOf (slV v) = some b) {K : World → Prop}
    (hK : ∀ w1, Own LS8 w1 q 85 (slV v) (xs.set k e') → Fm (fun b => rowOf (slV v) = some b) w w1 → K w1) :
    St w ⟨b, k * LS8.n, none⟩ (.int .u32 (e'.gen : Nat)) fun w1 => St w1 ⟨b, k * LS8.n + 1, none⟩ (.bool e'.live) fun w2 => St w2 ⟨b, k * LS8.n + 2, none⟩ (.int .i64 e'.kind) fun w3 => St w3 ⟨b, k * LS8.n + 3, none⟩ (.string e'.nm) fun w4 =>
    St w4 ⟨b, k * LS8.n + 4, none⟩ (.slice e'.ats.1 e'.ats.2.1 e'.ats.2.2) fun w5 => St w5 ⟨b, k * LS8.n + 5, none⟩ (.string e'.text) fun w6 => St w6 ⟨b, k * LS8.n + 6, none⟩ (.int .u64 (e'.parent : Nat)) fun w7 => St w7 ⟨b, k * LS8.n + 7, none⟩ (.slice e'.kids.1 e'.kids.2.1 e'.kids.2.2) K := by
  have h8 : LS8.n = 8 := rfl
  have hO0 : Own LS8 w q 85 (slV v) (xs.set k xs[k]) := by rw [List.set_getElem_self]; exact hO
  generalize xs[k] = a0 at hO0
  refine hO0.stc2 (j := 0) (a' := { a0 with gen := e'.gen }) hk (by decide) rfl hb fun w1 o1 f1 => ?_
  refine o1.stc2 (a' := { a0 with gen := e'.gen, live := e'.live }) hk (by decide) rfl hb fun w2 o2 f2 => ?_
  refine o2.stc2 (a' := { a0 with gen := e'.gen, live := e'.live, kind := e'.kind }) hk (by decide) rfl hb fun w3 o3 f3 => ?_
  refine o3.stc2 (a' := { a0 with gen := e'.gen, live := e'.live, kind := e'.kind, nm := e'.nm }) hk (by decide) rfl hb fun w4 o4 f4 => ?_
  refine o4.stc2 (a' := { a0 with gen := e'.gen, live := e'.live, kind := e'.kind, nm := e'.nm, ats := e'.ats }) hk (by decide) rfl hb fun w5 o5 f5 => ?_
  refine o5.stc2 (a' := { a0 with gen := e'.gen, live := e'.live, kind := e'.kind, nm := e'.nm, ats := e'.ats, text := e'.text }) hk (by decide) rfl hb fun w6 o6 f6 => ?_
  refine o6.stc2 (a' := { a0 with gen := e'.gen, live := e'.live, kind := e'.kind, nm := e'.nm, ats := e'.ats, text := e'.text, parent := e'.parent }) hk (by decide) rfl hb fun w7 o7 f7 => ?_
  refine o7.stc2 (a' := e') hk (by decide) rfl hb fun w8 o8 f8 => hK w8 o8 ?_
  exact ((((((f1.trans f2).trans f3).trans f4).trans f5).trans f6).trans f7).trans f8
section
variable {ok ok1 ok2 : Nat → Bool} {opn opn1 : List Nat} {w w1 w2 : World} {g : Nat} {D : Im} {vs vr : Sv} {es : List S8} {M : Nat → Prop} {R : Ending → World → Prop}
theorem RO.fm (h : RO ok1 opn w g D vs vr es) (hf : Fm M w w1) (hm : ∀ b, b < w.heap.size → M b → ok1 b = false ∧ b ≠ g ∧ rowOf (slV vs) ≠ some b) (hk : ∀ b, b < w.heap.size → ok1 b = true → ok2 b = true) : RO ok2 opn w1 g D vs vr es := by
  have hsub : Sub (vx ok1 g vs w) (vx ok2 g vs w1) := vx_sub hf (fun b hb h1 => .inl (hm b hb h1).1) hk (fun b hb => .inl hb)
  exact ⟨hf.blk h.blk fun e => (hm g h.blk.lt e).2.1 rfl, own_fm h.own hf fun b hb e => (hm b (h.own.lt b hb).2 e).2.2 hb, h.row, h.len, h.few, fun i s e h1 h2 => by obtain ⟨a, b⟩ := h.el i s e h1 h2; exact ⟨a.sub hsub, fun hi => (b hi).sub hsub⟩, h.roots.sub hsub, h.ok, h.rok⟩
theorem RO.open (h : RO ok opn w g D vs vr es) (i : Nat) : RO ok (i :: opn) w g D vs vr es :=
  ⟨h.blk, h.own, h.row, h.len, h.few, fun j s e h1 h2 => by obtain ⟨a, b⟩ := h.el j s e h1 h2; exact ⟨a, fun hi => b fun h9 => hi (List.mem_cons_of_mem _ h9)⟩, h.roots, h.ok, h.rok⟩
theorem RO.shut {i : Nat} (h : RO ok1 (i :: opn) w g D vs vr es) (hk : ∀ b, b < w.heap.size → ok1 b = true → ok2 b = true) (hi : ∀ s e, D.sl[i]? = some s → es[i]? = some e → RR LHn (vx ok2 g vs w) s.kids e.kids) : RO ok2 opn w g D vs vr es := by
  have hsub : Sub (vx ok1 g vs w) (vx ok2 g vs w) := vx_sub (M := fun _ => False) (.below (.refl _ _)) (fun _ _ h => h.elim) hk (fun b hb => .inl hb)
  refine ⟨h.blk, h.own, h.row, h.len, h.few, fun j s e h1 h2 => ?_, h.roots.sub hsub, h.ok, h.rok⟩
  obtain ⟨a, b⟩ := h.el j s e h1 h2
  refine ⟨a.sub hsub, fun hj => ?_⟩
  by_cases e9 : j = i
  · subst e9; exact hi s e h1 h2
  · exact (b fun h9 => hj ((List.mem_cons.1 h9).resolve_left e9)).sub hsub
theorem RO.newS (h : RO ok opn w g D vs vr es) {vs' : Sv} {es' : List S8} {sl' : List Sl} (hB : Blk w2 g #[slV vs', slV vr] 39) (hO : Own LS8 w2 w.heap.size 85 (slV vs') es') (hf : Fm (· = g) w w2) (hl : es'.length = sl'.length) (hfew : sl'.length ≤ 4096)
    (hel : ∀ (i : Nat) (s : Sl) (e : S8), sl'[i]? = some s → es'[i]? = some e → (D.sl[i]? = some s ∧ es[i]? = some e) ∨ ∀ W, RSb W s e ∧ RR LHn W s.kids e.kids) (hok : ∀ s ∈ sl', SlOk s) : RO ok opn w2 g { D with sl := sl' } vs' vr es' := by
  have hrow : ∀ b, rowOf (slV vs') = some b → w.heap.size ≤ b := fun b hb => (hO.lt b hb).1
  have hsub : Sub (vx ok g vs w) (vx ok g vs' w2) := vx_sub hf (fun b _ hb => .inr (.inl hb)) (fun _ _ h => h) (fun b hb => .inr (hrow b hb))
  have hg := h.blk.lt
  refine ⟨hB, hO.rebase fun k _ => Nat.zero_le _, fun b hb => by have := hrow b hb; omega, hl, hfew, fun i s e h1 h2 => ?_, h.roots.sub hsub, hok, h.rok⟩
  rcases hel i s e h1 h2 with ⟨a, b⟩ | a
  · obtain ⟨a, b⟩ := h.el i s e a b
    exact ⟨a.sub hsub, fun hi => (b hi).sub hsub⟩
  · exact ⟨(a _).1, fun _ => (a _).2⟩
def zS8 : S8 := ⟨0, false, 0, noB, (none, 0, 0), noB, 0, (none, 0, 0)⟩
theorem rr_none {α : Type} (L : Lay α) (W : World) : RR L W [] (none, 0, 0) := ⟨by simp, rfl, Rd.nil L W⟩
theorem zS8_ok (W : World) : RSb W (deadS 0) zS8 ∧ RR LHn W (deadS 0).kids zS8.kids := ⟨⟨rfl, rfl, rfl, rfl, rfl, rfl, rr_none _ _⟩, rr_none _ _⟩
theorem freeW (h : RO ok opn w g D vs vr es) (hw : WfS D.sl) (ht : tk D.sl < 4096)
    (hK : ∀ (w' : World) (vs' : Sv) (es' : List S8), RO ok opn w' g { D with sl := roomF D.sl } vs' vr es' → Fm (Ed g vs) w w' → NewRow w vs vs' → (∀ (k : Nat) (e : S8), es[k]? = some e → es'[k]? = some e) → R (.returned (.int .i64 (freeI D.sl : Nat))) w') : Calls Tryz.prog 68 #[.pointer (some ⟨g, 0, none⟩)] w R := by
  refine ok68 (some ⟨g, 0, none⟩) ?_
  unfold F68
  have hr := h.re
  have hn := hr.n
  have hfew := h.few
  have hle := freeI_le (sl := D.sl)
  have hpred : ∀ k, k < freeI D.sl → ∀ hk : k < D.sl.length, (!D.sl[k].live && decide (D.sl[k].gen < 4294967295)) = false := fun k hk hk2 => by
    have := List.not_of_lt_findIdx (p := fun s : Sl => !s.live && decide (s.gen < 4294967295)) (xs := D.sl) hk
    simpa using this
  refine ⟨fun i w' => w = w' ∧ ∃ k : Nat, i = k ∧ k ≤ freeI D.sl, fun i _ => D.sl.length - i.toNat, ⟨rfl, 0, rfl, Nat.zero_le _⟩, ?_⟩
  rintro i _ ⟨rfl, k, rfl, hk⟩
  unfold F68_l2
  simp only [NonNil_some, h.c0, Addr.add_mk, List.getElem?_toArray, List.getElem?_cons_zero, List.getElem?_cons_succ, LdI_some, LdB_some, LdStr_some, LdP_some, LdSl_some, LdM_some, Nat.zero_add, Br_t, Br_f]
  refine brd (fun hlt => ?_) (fun hge => ?_)
  · have hk2 : k < D.sl.length := by omega
    have hg := (h.ok _ (List.getElem_mem hk2)).gen
    refine ⟨fun w' => w = w' ∧ k < freeI D.sl, ?_, ?_⟩
    · rintro _ ⟨rfl, h9⟩
      unfold F68_j3
      exact ⟨inR_i64 (by omega) (by omega), ⟨by trivial, k + 1, by omega, by omega⟩, (by first | omega | (dsimp only; omega))⟩
    · have hno : (!D.sl[k].live && decide (D.sl[k].gen < 4294967295)) = false → k < freeI D.sl := fun h9 => by
        refine Nat.lt_of_le_of_ne hk fun e => ?_
        have := freeI_lt (sl := D.sl) (by omega)
        obtain ⟨s, s1, s2, s3⟩ := this
        rw [← e, List.getElem?_eq_getElem hk2] at s1
        cases s1
        rw [s2, decide_eq_true s3] at h9; cases h9
      refine hr.slot rfl hk2 fun b o e _ _ _ c0 c1 _ _ _ _ => ?_
      simp only [Addr.add_mk, c1, Addr.add_mk, List.getElem?_toArray, List.getElem?_cons_zero, List.getElem?_cons_succ, LdI_some, LdB_some, LdStr_some, LdP_some, LdSl_some, LdM_some, Nat.zero_add, Br_t, Br_f]
      rw [brnot]
      refine br (fun hl => ⟨by trivial, hno (by rw [hl]; rfl)⟩) (fun hl => ?_)
      refine hr.slot rfl hk2 fun b o e _ _ _ c0 c1 _ _ _ _ => ?_
      simp only [c0, Addr.add_mk, List.getElem?_toArray, List.getElem?_cons_zero, List.getElem?_cons_succ, LdI_some, LdB_some, LdStr_some, LdP_some, LdSl_some, LdM_some, Nat.zero_add, Br_t, Br_f]
      have hdec : decide (((D.sl[k].gen : Nat) : Int) < 4294967295) = decide (D.sl[k].gen < 4294967295) := by rw [decide_eq_decide]; omega
      rw [hdec]
      refine br (fun h1 => ?_) (fun h1 => ⟨by trivial, hno (by rw [hl, h1]; rfl)⟩)
      have e9 : freeI D.sl = k := by
        have h4 : ¬ k < freeI D.sl := fun h5 => by
          have := hpred k h5 hk2
          rw [hl, h1] at this; cases this
        omega
      rw [e9] at hK
      have hroom : roomF D.sl = D.sl := by unfold roomF; rw [if_pos (by omega)]
      rw [hroom] at hK
      exact hK w vs es h (.refl _ _) (.refl _ _) fun _ _ h => h
  · have hk2 : k = D.sl.length := by omega
    have e9 : freeI D.sl = D.sl.length := by omega
    have hroom : roomF D.sl = D.sl ++ [deadS 0] := by unfold roomF; rw [if_neg (by omega)]
    have hwf := room_wf hw ht
    rw [e9, hroom] at hK
    rw [hroom] at hwf
    obtain ⟨hen, hrd⟩ := h.rd
    have hel := h.len
    refine al fun g1 w1 hb1 _ _ => ?_
    have h1 := h.keep hb1
    simp only [NonNil_some, h1.c0, Addr.add_mk, List.getElem?_toArray, List.getElem?_cons_zero, List.getElem?_cons_succ, LdI_some, LdB_some, LdStr_some, LdP_some, LdSl_some, LdM_some, Nat.zero_add, Br_t, Br_f]
    refine ap (L := LS8) (e := 85) (xs := []) (ys := es) (base := w.heap.size) (.agg #[.int .u32 0, .bool false, .int .i64 0, .string (ByteArray.mk #[]), .slice none 0 0, .string (ByteArray.mk #[]), .int .u64 0, .slice none 0 0]) 104 hen (by kernel_rfl) (by kernel_rfl) (by kernel_rfl) (Own.bare _ _ _ _ _) (hrd.keep hb1) hb1.size (by simp only [List.length_nil, Nat.zero_add]; omega) (by simp [maxLen]; omega) fun A2 c2 w2 o2 g2 => ⟨A2, _, c2, rfl, ?_⟩
    rw [List.nil_append] at o2
    have B2 : Below w.heap.size w w2 := hb1.trans g2.below
    refine al fun g3 w3 hb3 b3 _ => ?_
    have B3 := btr B2 B2.size hb3
    have rn3 : Rd LS8 w3 (some ⟨g3, 0, none⟩) 1 [zS8] := by
      refine ⟨by simp, by simp [maxLen], fun h0 => (by cases h0), fun _ => ⟨g3, 0, rfl, fun j u hj => ?_⟩⟩
      rw [LS8.all_one] at hj
      rw [b3.cell]
      simpa [LS8, S8.cells, zS8, noB] using hj
    refine ap (L := LS8) (e := 85) (xs := es) (ys := [zS8]) (base := w.heap.size) (.agg #[.int .u32 0, .bool false, .int .i64 0, .string (ByteArray.mk #[]), .slice none 0 0, .string (ByteArray.mk #[]), .int .u64 0, .slice none 0 0]) 104 rfl (by kernel_rfl) (by kernel_rfl) (by kernel_rfl) ((o2.keep hb3)) rn3 B3.size (by simp only [List.length_cons, List.length_nil]; omega) (by simp [maxLen]; omega) fun A4 c4 w4 o4 g4 => ⟨A4, _, c4, rfl, ?_⟩
    have B4 : Below w.heap.size w w4 := B3.trans g4.below
    have h4 := h.blk.keep B4
    refine st_blk h4 (by simp) fun w5 b5 f5 => ?_
    have b5 : Blk w5 g #[slV (A4, es.length + [zS8].length, c4), slV vr] 39 := b5
    have hrow : ∀ b, rowOf (slV (A4, es.length + [zS8].length, c4)) = some b → w.heap.size ≤ b := fun b hb => (o4.lt b hb).1
    have hg := h.blk.lt
    have F5 : Fm (· = g) w w5 := (Fm.below B4).trans f5
    have o5 : Own LS8 w5 w.heap.size 85 (slV (A4, es.length + [zS8].length, c4)) (es ++ [zS8]) := own_fm o4 f5 fun b hb e => by have e : b = g := e; have := hrow b hb; omega
    have h5 := h.newS (sl' := D.sl ++ [deadS 0]) b5 o5 F5 (by simp [hel]) hwf.few (fun i s e h1 h2 => ?_) fun s hs => ?_
    · have c5 : w5.cell? ⟨g, 0, none⟩ = some (.slice A4 (es.length + [zS8].length) c4) := by rw [b5.cell]; rfl
      simp only [NonNil_some, c5, Addr.add_mk, List.getElem?_toArray, List.getElem?_cons_zero, List.getElem?_cons_succ, LdI_some, LdB_some, LdStr_some, LdP_some, LdSl_some, LdM_some, Nat.zero_add, Br_t, Br_f]
      refine ⟨inR_i64 (by simp <;> omega) (by simp <;> omega), ?_⟩
      have := hK w5 (A4, es.length + [zS8].length, c4) (es ++ [zS8]) h5 (F5.mono fun b _ e => .inl e) (fun b hb => .inr (hrow b hb)) fun k e hk => by rw [List.getElem?_append_left (List.getElem?_eq_some_iff.1 hk).1]; exact hk
      rw [show (((es.length + [zS8].length : Nat) : Int)) - 1 = ((D.sl.length : Nat) : Int) by simp [hel]]
      exact this
    · rcases Nat.lt_or_ge i D.sl.length with hi | hi
      · rw [List.getElem?_append_left hi] at h1
        rw [List.getElem?_append_left (by omega)] at h2
        exact .inl ⟨h1, h2⟩
      · rw [List.getElem?_append_right hi] at h1
        rw [List.getElem?_append_right (by omega), hel] at h2
        have hi0 : i - D.sl.length = 0 := by
          have := (List.getElem?_eq_some_iff.1 h1).1; simp at this; omega
        rw [hi0] at h1 h2
        cases h1; cases h2
        exact .inr fun W => zS8_ok W
    · rcases List.mem_append.1 hs with hs | hs
      · exact h.ok s hs
      · rw [List.mem_singleton] at hs; subst hs
        exact ⟨by decide, by decide, by simp [deadS]⟩
end
end Go.Proofs.YthbeeonmfbigcaaGreatDoor
/- Documents of the reference: new nodes of a tree. -/
namespace Go.Proofs.YthbeeonmfbigcaaGreatDoor
open Go.RowKit Go.Vc
set_option linter.unusedVariables false
set_option linter.unusedSimpArgs false
set_option maxRecDepth 100000
def okk (ok : Nat → Bool) (kv : Sv) (b : Nat) : Bool := ok b && decide (rowOf (slV kv) ≠ some b)
theorem okk_iff {ok : Nat → Bool} {kv : Sv} {b : Nat} : okk ok kv b = true ↔ ok b = true ∧ rowOf (slV kv) ≠ some b := by
  unfold okk; rw [Bool.and_eq_true, decide_eq_true_eq]
section
variable {ok ok1 ok2 : Nat → Bool} {opn opn1 : List Nat} {w w1 w2 : World} {g : Nat} {D : Im} {vs vr : Sv} {es : List S8} {M : Nat → Prop} {R : Ending → World → Prop}
theorem own_vx2 {α : Type} {L : Lay α} {B : Nat} {e : TypeId} {v : Sv} {xs : List α} (o : Own L w B e (slV v) xs) (h1 : ∀ b, rowOf (slV v) = some b → ok b = true ∧ b ≠ g ∧ rowOf (slV vs) ≠ some b) (hl : xs.length ≤ 1048576) : RR L (vx ok g vs w) xs v := by
  have ho : Own L (vx ok g vs w) B e (slV v) xs := by
    rcases o with h2 | h2 | ⟨g', c', cur, hv, hb, hh, hn, hm, hs, ht⟩
    · exact .inl h2
    · exact .inr (.inl h2)
    · exact .inr (.inr ⟨g', c', cur, hv, hb, cells_only (vx_iff.2 (h1 g' (by rw [hv]; rfl))) hh, hn, hm, hs, ht⟩)
  obtain ⟨A, c, hv, hr⟩ := ho.form
  rw [slv_form hv]
  exact ⟨hl, rfl, hr⟩
theorem live_get {sl : List Sl} (hf : sl.length ≤ 4096) {k : Nat} {s : Sl} (hs : sl[k]? = some s) (hl : s.live = true) : slA sl (hnd s.gen k) = some s := by
  have := (List.getElem?_eq_some_iff.1 hs).1
  exact slA_hnd (by omega) hs hl
theorem get_live {sl : List Sl} {k : Nat} (hk : k + 1 < 4294967296) {gn : Nat} {s : Sl} (hs : slA sl (hnd gn k) = some s) : sl[k]? = some s ∧ s.live = true := by
  obtain ⟨j, j1, j2, j3, _⟩ := slA_iff.1 hs
  rw [hnd_mod hk] at j1
  obtain rfl : k = j := by omega
  exact ⟨j2, j3⟩
end
section
variable {g : Nat}
theorem makeR_calls : ∀ (x : Tr) {ok : Nat → Bool} {opn : List Nat} {w : World} {D : Im} {vs vr : Sv} {es : List S8} {p c : Nat} {loose : List Nat} {e : E5} {R : Ending → World → Prop}, RO ok opn w g D vs vr es → (∀ b, w.heap.size ≤ b → ok b = true) → okT x → WfS D.sl → WfA (slA D.sl) D.roots loose → (p = 0 ∨ ∃ t, slA D.sl p = some t ∧ t.kind = 1) →
    Ch (slA D.sl) p c → c + dpT x ≤ 64 → tk D.sl + szT x ≤ 4096 → p < 18446744073709551616 → RTr (vx ok g vs w) x e → (∀ k ∈ opn, ∃ s, D.sl[k]? = some s ∧ s.live = true) →
    (∀ (w' : World) (vs' : Sv) (es' : List S8), RO ok opn w' g { D with sl := makeF x p D.sl } vs' vr es' → Fm (Ed g vs) w w' → NewRow w vs vs' → (∀ k ∈ opn, ∀ e : S8, es[k]? = some e → es'[k]? = some e) → R (.returned (.int .u64 (freshH D.sl : Nat))) w') →
    Calls Tryz.prog 43 #[.pointer (some ⟨g, 0, none⟩), .agg #[.int .i64 e.kind, .string e.nm, slV e.ats, .string e.text, slV e.kids], .int .u64 (p : Nat)] w R := by
  refine Tr.ind fun kind nm attrs text kids ih => ?_
  intro ok opn w D vs vr es p c loose e R h hok hokT hw hA hpp hc hd ht hpl hT hopn hK
  have hT0 := hT
  simp only [RTr] at hT
  obtain ⟨t1, t2, t3, t4, t5, et, t6, t7, t8⟩ := hT
  have hel := t8.len
  unfold okT at hokT
  obtain ⟨ok1, ok2, ok3⟩ := hokT
  unfold dpT at hd
  unfold szT at ht
  have htk : tk D.sl < 4096 := by split at ht <;> omega
  have hd1 : c + 1 ≤ 64 := by split at hd <;> omega
  have ht1 : tk D.sl + 1 ≤ 4096 := by split at ht <;> omega
  have hg := h.blk.lt
  refine ok43 (some ⟨g, 0, none⟩) e.kind e.nm e.ats.1 e.ats.2.1 e.ats.2.2 e.text e.kids.1 e.kids.2.1 e.kids.2.2 (p : Nat) ?_
  unfold F43
  refine al fun g4 w1 hb1 b4 hge4 => ?_
  refine freeW (h.keep hb1) hw htk fun w2 vs2 es2 h2 f2 nr2 k2 => ⟨_, rfl, ?_⟩
  have hrow4 : ∀ b, rowOf (slV vs) = some b → b < w.heap.size := fun b hb => (h.own.lt b hb).2
  have b42 := f2.blk b4 (fun e => by
    rcases e with e | e
    · omega
    · have := hrow4 _ e; omega)
  have hgrow : ∀ b, rowOf (slV vs2) = some b → b ≠ g4 := fun b hb => by
    have h4 := b4.lt
    rcases nr2 b hb with e | e
    · have := hrow4 _ e; omega
    · omega
  have F2 : Fm (Ed g vs) w w2 := (Fm.below hb1).trans f2
  have NR2 : NewRow w vs vs2 := fun b hb => (nr2 b hb).imp id fun h => Nat.le_trans hb1.size h
  have hs12 := F2.size
  obtain ⟨sd, d1, d2, d3, d4⟩ := room_get hw
  have hfew2 := (room_wf hw htk).few
  have hgen := genI_eq d1
  have hone := fun s (hs : okSl s) (hk : s.kids = []) (hsp : s.parent = p) (hsl : s.live = true) (hsg : s.gen = genI D.sl) => one_wf hs hk hsp hsl hsg hw hA hpp hc hd1 ht1
  have hdead : ∀ t, D.sl[freeI D.sl]? = some t → t.live = false := fun t ht => by
    have := room_old ht
    rw [d1] at this; cases this; exact d4
  have hfresh : freshH D.sl = hnd (genI D.sl) (freeI D.sl) := rfl
  have hmk : makeF (.mk kind nm attrs text kids) p D.sl = if kind = 2 then (roomF D.sl).set (freeI D.sl) ⟨genI D.sl, true, kind, noB, [], text, p, []⟩ else makesF kids (freshH D.sl) (freeI D.sl) ((roomF D.sl).set (freeI D.sl) ⟨genI D.sl, true, kind, nm, attrs, noB, p, []⟩) := by rw [makeF]
  generalize hi : freeI D.sl = i at *
  generalize hgn : genI D.sl = gn at *
  obtain ⟨hgl, d1'⟩ := List.getElem?_eq_some_iff.1 d1
  have hr2 := h2.re
  have hdr2 : Below w2.heap.size w2 w2.drew := (Below.refl _ _).drew
  refine ⟨fun w' => Below w2.heap.size w2 w', hdr2, ?_⟩
  rw [NonNil_some]
  refine ⟨_, _, _, fun w' hb => (hr2.keep hb).c0, ?_⟩
  refine hr2.slotH (fun w1 h1 => h1) rfl hgl fun bb oo e0 he0 _ _ c0 _ _ _ => ⟨_, c0, ?_⟩
  have d1'' : (roomF D.sl)[i] = sd := d1'
  have egn : (((roomF D.sl)[i].gen : Nat) : Int) + 1 = ((gn : Nat) : Int) := by rw [d1'', hgen]; omega
  have egn' : ∀ hh, ((({ D with sl := roomF D.sl } : Im).sl[i]'hh).gen : Int) + 1 = ((gn : Nat) : Int) := fun _ => egn
  rw [egn']
  refine ⟨⟨by simp [IntKind.min, IntKind.signed, IntKind.bits], by simp [IntKind.max, IntKind.signed, IntKind.bits]; omega⟩, ?_⟩
  refine ⟨_, fun w' hb => by rw [(b42.keep hb).cell]; rfl, ?_⟩
  refine al fun gs w4 hb4 bs4 hges => ?_
  have B4 : Below w2.heap.size w2 w4 := btr hdr2 hdr2.size hb4
  refine ⟨B4, ?_⟩
  have hs4 : w2.heap.size ≤ gs := Nat.le_trans hdr2.size hges
  have hne4 : g4 ≠ gs := by have := b42.lt; omega
  simp only [Addr.add_mk, Nat.zero_add]
  refine st_blk bs4 (by simp) fun u1 s1 f1 => st_blk s1 (by simp) fun u2 s2 f2 => st_blk s2 (by simp) fun u3 s3 f3 => st_blk s3 (by simp) fun u4 s4 f4 => st_blk s4 (by simp) fun u5 s5 f5 => st_blk s5 (by simp) fun u6 s6 f6 => st_blk s6 (by simp) fun u7 s7 f7 => st_blk s7 (by simp) fun w12 s8 f8 => ?_
  simp only [List.setIfInBounds_toArray, List.set_cons_zero, List.set_cons_succ] at s8
  have FS : Fm (· = gs) w4 w12 := ((((((f1.trans f2).trans f3).trans f4).trans f5).trans f6).trans f7).trans f8
  clear s1 s2 s3 s4 s5 s6 s7 f1 f2 f3 f4 f5 f6 f7 f8
  have B12 : Below w2.heap.size w2 w12 := B4.trans (FS.toBelow B4.size fun b hb e => by have e : b = gs := e; omega)
  obtain ⟨s7, hs7⟩ : ∃ s7 : Sl, s7 = if kind = 2 then ⟨gn, true, kind, noB, [], text, p, []⟩ else ⟨gn, true, kind, nm, attrs, noB, p, []⟩ := ⟨_, rfl⟩
  have q7 : s7.gen = gn ∧ s7.live = true ∧ s7.kind = kind ∧ s7.parent = p ∧ s7.kids = [] := by rw [hs7]; split <;> exact ⟨rfl, rfl, rfl, rfl, rfl⟩
  have b12 := FS.blk (b42.keep B4) (fun e => hne4 e)
  refine ⟨fun w' => ∃ a : Sv, Below w2.heap.size w2 w' ∧ Blk w' gs #[.int .u32 (s7.gen : Nat), .bool true, .int .i64 s7.kind, .string s7.nm, slV a, .string s7.text, .int .u64 (p : Nat), .slice none 0 0] 85 ∧ RR LAt (vx ok g vs2 w') s7.attrs a, ?_, ?_⟩
  rotate_left
  · simp only [Addr.add_mk, Nat.zero_add, b12.cell, List.getElem?_toArray, List.getElem?_cons_zero, List.getElem?_cons_succ, Addr.add_mk, List.getElem?_toArray, List.getElem?_cons_zero, List.getElem?_cons_succ, LdI_some, LdB_some, LdStr_some, LdP_some, LdSl_some, LdM_some, Nat.zero_add, Br_t, Br_f]
    refine bre (fun hk => ?_) (fun hk => ?_)
    · refine st_blk s8 (by simp) fun w13 s9 f9 => ?_
      simp only [List.setIfInBounds_toArray, List.set_cons_zero, List.set_cons_succ] at s9
      have e7 : s7 = ⟨gn, true, kind, noB, [], text, p, []⟩ := by rw [hs7, if_pos (by omega)]
      refine ⟨(none, 0, 0), B12.trans (f9.toBelow B12.size fun b hb e => by have e : b = gs := e; omega), ?_, by rw [e7]; exact rr_none _ _⟩
      rw [e7, ← t1, ← t3]; exact s9
    · have e7 : s7 = ⟨gn, true, kind, nm, attrs, noB, p, []⟩ := by rw [hs7, if_neg (by omega)]
      have hdr : Below w12.heap.size w12 w12.drew := (Below.refl _ _).drew
      refine ⟨fun w' => Below w12.heap.size w12 w', hdr, ?_⟩
      refine ⟨_, fun w' hb => by rw [(b12.keep hb).cell]; rfl, ?_⟩
      refine ⟨_, _, _, fun w' hb => by rw [(b12.keep hb).cell]; rfl, ?_⟩
      refine al fun g6 w13 hb13 _ _ => ?_
      have B13 : Below w12.heap.size w12 w13 := btr hdr hdr.size hb13
      refine ⟨B13, ?_⟩
      have hsub : Sub (vx ok g vs w) (vx ok g vs2 w13) := vx_sub ((F2.trans (.below B12)).trans (.below B13)) (fun b _ hb => .inr hb) (fun _ _ h => h) NR2
      have ht4 : RR LAt w13 attrs e.ats := (t4.sub hsub).sub vx_of
      obtain ⟨z0, z1, z2⟩ := ht4
      have hm : attrs.length * 32 ≤ 1048576 * 32 := Nat.mul_le_mul z0 (Nat.le_refl _)
      refine ap (L := LAt) (e := 96) (xs := []) (ys := attrs) (base := w12.heap.size) (.agg #[.string ⟨#[]⟩, .string ⟨#[]⟩]) 32 z1 (by kernel_rfl) (by kernel_rfl) (by kernel_rfl) (Own.bare _ _ _ _ _) z2 B13.size (by simp only [List.length_nil, Nat.zero_add]; omega) (by simp [maxLen]; omega) fun A' c' w14 o14 g14 => ⟨A', _, c', rfl, ?_⟩
      rw [List.nil_append] at o14
      have B14 : Below w12.heap.size w12 w14 := B13.trans g14.below
      refine ⟨B14, ?_⟩
      refine st_blk (s8.keep B14) (by simp) fun w15 s9 f9 => st_blk s9 (by simp) fun w16 s10 f10 => ?_
      simp only [List.setIfInBounds_toArray, List.set_cons_zero, List.set_cons_succ] at s10
      have F16 : Fm (· = gs) w14 w16 := f9.trans f10
      have hgs12 := s8.lt
      have o16 := own_fm o14 F16 fun b hb e => by have e : b = gs := e; have := (o14.lt b hb).1; omega
      have B12' := B12.size
      refine ⟨(A', ([] : List At).length + attrs.length, c'), (B12.trans (B14.mono B12.size)).trans (F16.toBelow (Nat.le_trans B12.size B14.size) fun b hb e => by have e : b = gs := e; omega), ?_, ?_⟩
      · rw [e7, ← t1, ← t2]; exact s10
      · rw [e7]
        exact own_vx h2 (fun b hb => hok b (by omega)) B12.size o16 z0
  rintro w15 ⟨a, B15, bs15, ha⟩
  unfold F43_j6
  have hdr : Below w15.heap.size w15 w15.drew := (Below.refl _ _).drew
  have B15d : Below w2.heap.size w2 w15.drew := btr B15 B15.size hdr
  have h15 := h2.keep B15d
  have hr15 := h2.keep B15
  refine ⟨fun w' => Below w15.heap.size w15 w', hdr, ?_⟩
  simp only [NonNil_some, Addr.add_mk, Nat.zero_add]
  refine ⟨_, _, _, fun w' hb => (hr15.re.keep hb).c0, ?_⟩
  refine ⟨_, fun w' hb => by rw [(bs15.keep hb).cell]; rfl, ?_⟩
  refine ⟨_, fun w' hb => by rw [(bs15.keep hb).cell]; rfl, ?_⟩
  refine ⟨_, fun w' hb => by rw [(bs15.keep hb).cell]; rfl, ?_⟩
  refine ⟨_, fun w' hb => by rw [(bs15.keep hb).cell]; rfl, ?_⟩
  refine ⟨_, _, _, fun w' hb => by rw [(bs15.keep hb).cell]; rfl, ?_⟩
  refine ⟨_, fun w' hb => by rw [(bs15.keep hb).cell]; rfl, ?_⟩
  refine ⟨_, fun w' hb => by rw [(bs15.keep hb).cell]; rfl, ?_⟩
  refine ⟨_, _, _, fun w' hb => by rw [(bs15.keep hb).cell]; rfl, ?_⟩
  have hl2 := h2.len
  have hie : i < es2.length := by rw [hl2]; exact hgl
  refine h15.own.elA rfl hie (show 8 = LS8.n from rfl) fun bw hbw => ?_
  simp only [Addr.add_mk]
  refine Own.st8 ⟨s7.gen, true, s7.kind, s7.nm, a, s7.text, p, (none, 0, 0)⟩ h15.own hie hbw fun w16 o16 f16 => ?_
  have hsub15 : Sub (vx ok g vs2 w15) (vx ok g vs2 w15.drew) := vx_sub (M := fun _ => False) (.below hdr) (fun b _ hb => hb.elim) (fun _ _ h => h) (fun b hb => .inl hb)
  have hgn32 : gn < 4294967296 := by rw [hgen]; omega
  have h16 := h15.put1 (opn1 := opn) (s' := s7) (e' := ⟨s7.gen, true, s7.kind, s7.nm, a, s7.text, p, (none, 0, 0)⟩) hgl o16 f16 ⟨rfl, q7.2.1.symm, rfl, rfl, rfl, q7.2.2.2.1.symm, ha.sub hsub15⟩ (fun _ => by rw [q7.2.2.2.2]; exact rr_none _ _) (fun _ _ h => h) ⟨by rw [q7.1]; exact hgn32, by rw [q7.2.2.2.1]; exact hpl, by rw [q7.2.2.2.2]; simp⟩
  have h16 : RO ok opn w16 g { D with sl := (roomF D.sl).set i s7 } vs2 vr (es2.set i ⟨s7.gen, true, s7.kind, s7.nm, a, s7.text, p, (none, 0, 0)⟩) := h16
  have hilt : i < ((roomF D.sl).set i s7).length := by simpa using hgl
  have hget7 : ((roomF D.sl).set i s7)[i] = s7 := List.getElem_set_self ..
  refine handleW h16.re (i := i) hilt ⟨_, rfl, ?_⟩
  have eh : ∀ hh, hnd (({ D with sl := (roomF D.sl).set i s7 } : Im).sl[i]'hh).gen i = freshH D.sl := fun _ => by
    show hnd (((roomF D.sl).set i s7)[i]).gen i = _
    rw [hget7, q7.1, hfresh]
  rw [eh]
  have F16 : Fm (Ed g vs) w w16 := Ed.trans F2 NR2 ((Fm.below B15d).trans (f16.mono fun b _ hb => .inr hb))
  have b416 : Blk w16 g4 _ 45 := f16.blk ((b42.keep B15).keep hdr) (fun e => hgrow _ e rfl)
  simp only [Addr.add_mk, Nat.zero_add, b416.cell, List.getElem?_toArray, List.getElem?_cons_zero, List.getElem?_cons_succ, Addr.add_mk, List.getElem?_toArray, List.getElem?_cons_zero, List.getElem?_cons_succ, LdI_some, LdB_some, LdStr_some, LdP_some, LdSl_some, LdM_some, Nat.zero_add, Br_t, Br_f]
  refine kidsR_calls e fun w17 hb17 => ?_
  have h17 := h16.keep hb17
  have F17 : Fm (Ed g vs) w w17 := F16.tr hb17
  have keep7 : ∀ k ∈ opn, ∀ e9 : S8, es[k]? = some e9 → (es2.set i ⟨s7.gen, true, s7.kind, s7.nm, a, s7.text, p, (none, 0, 0)⟩)[k]? = some e9 := fun k hk e9 he => by
    obtain ⟨s, u1, u2⟩ := hopn k hk
    have : i ≠ k := fun e => by subst e; have := hdead s u1; rw [u2] at this; cases this
    rw [List.getElem?_set_ne this]
    exact k2 k e9 he
  rw [hmk] at hK
  rcases ok2 with hk1 | hk2
  rotate_left
  · -- a text
    rw [if_neg (by omega)]
    rw [if_pos hk2] at hK
    have e7 : s7 = ⟨gn, true, kind, noB, [], text, p, []⟩ := by rw [hs7, if_pos hk2]
    rw [← e7] at hK
    refine ⟨none, 0, 0, rfl, ?_⟩
    refine ⟨fun j w' => j = 0 ∧ w' = w17, fun _ _ => 0, ⟨rfl, rfl⟩, ?_⟩
    rintro j _ ⟨rfl, rfl⟩
    unfold F43_l10
    refine brd (fun hlt => absurd hlt (by simp)) (fun _ => ?_)
    exact hK _ vs2 _ h17 F17 NR2 keep7
  have hk2 : kind ≠ 2 := by omega
  rw [if_pos (by omega)]
  rw [if_neg hk2] at hK hd ht
  have e7 : s7 = ⟨gn, true, kind, nm, attrs, noB, p, []⟩ := by rw [hs7, if_neg hk2]
  rw [← e7] at hK
  have hok7 : okSl s7 := by rw [e7, hk1]; exact ⟨by rw [hk1] at ok1; unfold ownF at ok1 ⊢; exact ok1, .inl ⟨rfl, rfl⟩⟩
  obtain ⟨M7, hs70⟩ := hone s7 hok7 q7.2.2.2.2 q7.2.2.2.1 q7.2.1 q7.1
  have k7 : s7.kind = 1 := by rw [q7.2.2.1, hk1]
  have hkd7 := q7.2.2.2.2
  have hl7 := q7.2.1
  have hg7 := q7.1
  have hp7 := q7.2.2.2.1
  clear hs7 e7 hone s8 bs15 b12 ha hsub15 o16 f16 h15 hr15 h16 hmk egn egn'
  generalize hsl7 : (roomF D.sl).set i s7 = sl7 at *
  generalize hee7 : es2.set i ⟨s7.gen, true, s7.kind, s7.nm, a, s7.text, p, (none, 0, 0)⟩ = es7 at *
  have hei7 : es7[i]? = some ⟨s7.gen, true, s7.kind, s7.nm, a, s7.text, p, (none, 0, 0)⟩ := by rw [← hee7]; simp [hie]
  have hh : freshH D.sl % 4294967296 = i + 1 := by rw [hfresh]; exact hnd_mod (by omega)
  have hne : freshH D.sl ≠ 0 := by rw [hfresh]; unfold hnd; omega
  have hh64 : freshH D.sl < 18446744073709551616 := by rw [hfresh]; unfold hnd; omega
  generalize hH : freshH D.sl = hh0 at *
  have hc7 : Ch (slA sl7) hh0 (c + 1) := .succ hne hs70 (by rw [hp7]; exact hc.mono fun y t hy => ⟨t, M7.ext y t hy, rfl⟩)
  have mt7 := M7.tk
  have WK : ∀ k, k ≤ kids.length → WfS (makesF (kids.take k) hh0 i sl7) ∧ WfA (slA (makesF (kids.take k) hh0 i sl7)) D.roots (hh0 :: loose) ∧ (∃ ks, slA (makesF (kids.take k) hh0 i sl7) hh0 = some { s7 with kids := s7.kids ++ ks }) ∧ tk (makesF (kids.take k) hh0 i sl7) = tk sl7 + szL (kids.take k) ∧ (∀ y t, slA D.sl y = some t → slA (makesF (kids.take k) hh0 i sl7) y = some t) := fun k hk => by
    have ht2 := szL_take kids k
    have hd2 := dpL_take kids k
    obtain ⟨r1, r2, r3, r4, r5, r6⟩ := makes_wf (kids.take k) (fun x hx {sl loose p c} => make_wf x (roots := D.roots)) (sl := sl7) (loose := hh0 :: loose) (h := hh0) (c := c + 1) (i := i) (okL_take _ _ (ok3 hk1)) M7.wfs M7.wf hh hs70 k7 hc7 (by omega) (by omega)
    refine ⟨r1, r2, r4, r5, fun y t hy => r3 y t ?_ (M7.ext y t hy)⟩
    rintro rfl
    have := M7.new
    rw [this] at hy; cases hy
  refine ⟨_, _, _, rfl, ?_⟩
  refine ⟨fun j w' => ∃ (k : Nat) (vs5 kv : Sv) (es5 : List S8) (e9 : S8) (ks : List Nat), j = k ∧ k ≤ kids.length ∧ RO (okk ok kv) (i :: opn) w' g { D with sl := makesF (kids.take k) hh0 i sl7 } vs5 vr es5 ∧ es5[i]? = some e9 ∧ e9.kids = kv ∧ slA (makesF (kids.take k) hh0 i sl7) hh0 = some { s7 with kids := ks } ∧
      Own LHn w' w.heap.size 41 (slV kv) ks ∧ Fm (Ed g vs) w w' ∧ NewRow w vs vs5 ∧ (∀ k ∈ opn, ∀ e : S8, es[k]? = some e → es5[k]? = some e) ∧ (∀ b, rowOf (slV kv) = some b → rowOf (slV vs5) ≠ some b), fun j _ => kids.length - j.toNat,
    ⟨0, vs2, (none, 0, 0), es7, _, [], rfl, by omega, ?_, hei7, rfl, ?_, .inl ⟨rfl, rfl⟩, F17, NR2, keep7, fun b hb => by cases hb⟩, ?_⟩
  · refine RO.fm (M := fun _ => False) (RO.open ?_ i) (.below (.refl _ _)) (fun _ _ h => h.elim) (fun b _ hb => okk_iff.2 ⟨hb, fun e => by cases e⟩)
    simpa [makesF] using h17
  · simp only [List.take_zero, makesF]
    rw [hs70]
    congr 1
    cases s7
    simp only at hkd7
    rw [hkd7]
  rintro j w5 ⟨k, vs5, kv, es5, e9, ks, rfl, hk5, h5, hei5, hek5, hs5, ov5, F5, NR5, keep5, hrk5⟩
  unfold F43_l10
  obtain ⟨r1, r2, -, r5, r6⟩ := WK k hk5
  have hkvB : ∀ b, rowOf (slV kv) = some b → w.heap.size ≤ b ∧ b < w5.heap.size := fun b hb => ov5.lt b hb
  have hks4 : ks.length ≤ 4096 := Nat.le_trans (live_few (fun x hx => by
    obtain ⟨_, t, ht, _⟩ := (r2.kid hh0 _ hs5).2 x hx
    exact ⟨t, ht⟩) (r2.kid hh0 _ hs5).1) r1.few
  have hsub5 : Sub (vx ok g vs w) (vx (okk ok kv) g vs5 w5) := vx_sub F5 (fun b _ hb => .inr hb) (fun b hb h1 => okk_iff.2 ⟨h1, fun e => by have := (hkvB b e).1; omega⟩) NR5
  have hs5size := F5.size
  refine brd (fun hlt8 => ?_) (fun hge8 => ?_)
  rotate_left
  · have hk9 : k = kids.length := by omega
    subst hk9
    rw [List.take_length] at h5 hs5
    obtain ⟨k', _, hk', hk'', hkm, _⟩ := slA_get hs5
    obtain rfl : i = k' := by omega
    refine hK w5 vs5 es5 (h5.shut (fun b _ hb => (okk_iff.1 hb).1) fun s e' hs he => ?_) F5 NR5 keep5
    have hs : (makesF kids hh0 i sl7)[i]? = some s := hs
    rw [List.getElem?_eq_getElem hk', hk''] at hs
    cases hs
    rw [hei5] at he; cases he
    rw [hek5]
    exact own_vx2 ov5 (fun b hb => ⟨hok b (hkvB b hb).1, by have := (hkvB b hb).1; omega, hrk5 b hb⟩) (show ks.length ≤ 1048576 by omega)
  · have hk9 : k < kids.length := by omega
    have hk10 : k < et.length := by omega
    have hr5 : Rd LE5 w5 e.kids.1 e.kids.2.2 et := vx_of.rd (hsub5.rd t7)
    refine hr5.e5 t6 rfl (k := k) hk10 fun bb oo c0 c1 c2 c3 c4 => ?_
    simp only [Addr.add_mk, Nat.zero_add, c0, c1, c2, c3, c4, Addr.add_mk, List.getElem?_toArray, List.getElem?_cons_zero, List.getElem?_cons_succ, LdI_some, LdB_some, LdStr_some, LdP_some, LdSl_some, LdM_some, Nat.zero_add, Br_t, Br_f]
    have hdk := dpL_get kids k hk9
    have hzk := szL_get kids k hk9
    have hsnoc := makesF_snoc (x := kids[k]) (h := hh0) (i := i) (kids.take k) sl7
    generalize hslk : makesF (kids.take k) hh0 i sl7 = slk at *
    have hck : Ch (slA slk) hh0 (c + 1) := .succ hne hs5 (by show Ch (slA slk) s7.parent c; rw [hp7]; exact hc.mono fun y t hy => ⟨t, r6 y t hy, rfl⟩)
    have om1 : c + 1 + dpT kids[k] ≤ 64 := by omega
    have om2 : tk slk + szT kids[k] ≤ 4096 := by omega
    have hslki : slk[i]? = some { s7 with kids := ks } := by
      obtain ⟨k', _, hk', hk'', hkm, _⟩ := slA_get hs5
      obtain rfl : i = k' := by omega
      rw [List.getElem?_eq_getElem hk', hk'']
    have hDl : D.sl.length ≤ 4096 := hw.few
    refine ih kids[k] (List.getElem_mem hk9) (D := { D with sl := slk }) (p := hh0) (c := c + 1) (loose := hh0 :: loose) (e := et[k]) h5 (fun b hb => okk_iff.2 ⟨hok b (by omega), fun e => by have := (hkvB b e).2; omega⟩) (okL_get kids k hk9 (ok3 hk1)) r1 r2 (.inr ⟨_, hs5, k7⟩) hck om1 om2 hh64 (RTr.sub hsub5 _ _ (t8.get k hk9 hk10)) (fun q hq => ?_) fun w6 vs6 es6 h6 f6 nr6 keep6 => ⟨_, rfl, ?_⟩
    · rcases List.mem_cons.1 hq with rfl | hq
      · exact ⟨_, hslki, hl7⟩
      · obtain ⟨s, u1, u2⟩ := hopn q hq
        have u3 := r6 _ _ (live_get hDl u1 u2)
        have := (List.getElem?_eq_some_iff.1 u1).1
        exact ⟨s, (get_live (by omega) u3).1, u2⟩
    have Mk := make_wf kids[k] (okL_get kids k hk9 (ok3 hk1)) r1 r2 (.inr ⟨_, hs5, k7⟩) hck om1 om2
    have hs6 : slA (makeF kids[k] hh0 slk) hh0 = some { s7 with kids := ks } := Mk.ext _ _ hs5
    obtain ⟨k', k1', hk', hk'', hkm, _⟩ := slA_get hs6
    obtain rfl : i = k' := by omega
    have ov6 : Own LHn w6 w.heap.size 41 (slV kv) ks := own_fm ov5 f6 fun b hb e => by
      rcases e with e | e
      · have := (hkvB b hb).1; omega
      · exact hrk5 b hb e
    have hrk6 : ∀ b, rowOf (slV kv) = some b → rowOf (slV vs6) ≠ some b := fun b hb e => by
      rcases nr6 b e with e | e
      · exact hrk5 b hb e
      · have := (hkvB b hb).2; omega
    have hei6 : es6[i]? = some e9 := keep6 i (List.mem_cons_self ..) e9 hei5
    obtain ⟨hi6, hei6'⟩ := List.getElem?_eq_some_iff.1 hei6
    have hdr6 : Below w6.heap.size w6 w6.drew := (Below.refl _ _).drew
    have hgk : rowOf (slV kv) ≠ some g := fun e => by have := (hkvB g e).1; omega
    refine ⟨fun w' => Fm (fun b => rowOf (slV kv) = some b) w6 w', .below hdr6, ?_⟩
    rw [NonNil_some]
    refine ⟨_, _, _, Fm.heldc h6.c0 hgk, ⟨_, _, _, Fm.heldc h6.c0 hgk, ?_⟩⟩
    refine h6.own.elc rfl hi6 (show 8 = LS8.n from rfl) fun bw hbw hcw => ?_
    have hc7w := hcw 7 (.slice e9.kids.1 e9.kids.2.1 e9.kids.2.2) (by rw [hei6']; rfl)
    simp only [Addr.add_mk]
    refine ⟨_, _, _, Fm.heldc hc7w (fun e => hrk6 bw e hbw), ?_⟩
    refine al fun g81 w7 hb7 b7 _ => ?_
    have D7 : Below w6.heap.size w6 w7 := btr hdr6 hdr6.size hb7
    refine ⟨.below D7, ?_⟩
    rw [hek5]
    have hD6few := h6.few
    refine ap (L := LHn) (e := 41) (xs := ks) (ys := [freshH slk]) (base := w.heap.size) (v := slV kv) (.int .u64 0) 8 rfl (by kernel_rfl) (by kernel_rfl) (by kernel_rfl) (ov6.keep D7) ?_ (by have := f6.size; have := D7.size; omega) (by simp; omega) (by simp [maxLen]; omega) fun A' c' w8 o8 g8 => ⟨A', _, c', rfl, ?_⟩
    · refine ⟨by simp, by simp [maxLen], fun h0 => (by cases h0), fun _ => ⟨g81, 0, rfl, fun j u hj => ?_⟩⟩
      rw [LHn.all_one] at hj
      rw [b7.cell]; simpa [LHn] using hj
    have F68 : Fm (fun b => rowOf (slV kv) = some b) w6 w8 := (Fm.below D7).trans (Fm.grown g8.grown fun x hx => hx)
    refine ⟨F68, ?_⟩
    have hrow8 : ∀ b, rowOf (slV (A', ks.length + [freshH slk].length, c')) = some b → rowOf (slV kv) = some b ∨ w6.heap.size ≤ b := fun b hb => by
      rcases g8.row with e | e | ⟨g, e, hge⟩
      · left; rw [← e]; exact hb
      · rw [show rowOf (slV (A', ks.length + [freshH slk].length, c')) = none from e] at hb; cases hb
      · right
        rw [show rowOf (slV (A', ks.length + [freshH slk].length, c')) = some g from e] at hb; cases hb
        have := D7.size; omega
    have own8 : Own LS8 w8 0 85 (slV vs6) es6 := own_fm h6.own F68 fun b hb e => hrk6 b e hb
    have h8 : RO (okk ok (A', ks.length + [freshH slk].length, c')) (i :: opn) w8 g { D with sl := makeF kids[k] hh0 slk } vs6 vr es6 := h6.fm F68 (fun b _ hb => ⟨by
      cases h9 : okk ok kv b with
      | false => rfl
      | true => exact absurd hb (okk_iff.1 h9).2, fun e => by subst e; exact hgk hb, fun e => hrk6 b hb e⟩) (fun b hb h9 => okk_iff.2 ⟨(okk_iff.1 h9).1, fun e => by
      rcases hrow8 b e with e | e
      · exact (okk_iff.1 h9).2 e
      · omega⟩)
    refine own8.elA rfl hi6 (show 8 = LS8.n from rfl) fun bw2 hbw2 => ?_
    simp only [Addr.add_mk]
    refine own8.stc hi6 (x' := { es6[i] with kids := (A', ks.length + [freshH slk].length, c') }) (by decide) RO.kids_cells hbw2 fun w9 o9 f9 => ?_
    rw [hei6'] at o9
    have hDi : ({ D with sl := makeF kids[k] hh0 slk } : Im).sl[i]? = some { s7 with kids := ks } := by
      show (makeF kids[k] hh0 slk)[i]? = _
      rw [List.getElem?_eq_getElem hk', hk'']
    obtain ⟨q1, -⟩ := h8.el i _ e9 hDi hei6
    have hso := h6.ok _ (List.mem_of_getElem? hDi)
    obtain ⟨st, hst, hstp⟩ := Mk.top
    have hfl := hnd_lt (sl := makeF kids[k] hh0 slk) h6.ok h6.few hst
    have h9 := h8.put1 (opn1 := i :: opn) (s' := { s7 with kids := ks ++ [freshH slk] }) (e' := { e9 with kids := (A', ks.length + [freshH slk].length, c') }) hk' o9 f9 ⟨q1.gen, q1.live, q1.kind, q1.nm, q1.text, q1.parent, q1.ats⟩ (fun h9 => absurd (List.mem_cons_self ..) h9) (fun _ _ h => h) ⟨hso.gen, hso.parent, fun x hx => by
      rcases List.mem_append.1 hx with hx | hx
      · exact hso.kids x hx
      · rw [List.mem_singleton] at hx; subst hx; exact hfl⟩
    have eD : makesF (kids.take (k + 1)) hh0 i sl7 = (makeF kids[k] hh0 slk).set i { s7 with kids := ks ++ [freshH slk] } := by
      rw [List.take_succ_eq_append_getElem hk9, hsnoc]
      exact modify_set _ _ _ _ hDi
    have h9 : RO (okk ok (A', ks.length + [freshH slk].length, c')) (i :: opn) w9 g { D with sl := (makeF kids[k] hh0 slk).set i { s7 with kids := ks ++ [freshH slk] } } vs6 vr (es6.set i { e9 with kids := (A', ks.length + [freshH slk].length, c') }) := h9
    rw [← eD] at h9
    have hF6 := f6.size
    have hw6 : w.heap.size ≤ w6.heap.size := by omega
    refine ⟨inR_i64 (by omega) (by omega), ⟨k + 1, vs6, (A', ks.length + [freshH slk].length, c'), _, _, ks ++ [freshH slk], by simp, by omega, h9, by rw [List.getElem?_set_self hi6], rfl, ?_, ?_, ?_, ?_, ?_, ?_⟩, (by first | omega | (dsimp only; omega))⟩
    · rw [eD]
      exact slA_iff.2 ⟨i, hh, by rw [List.getElem?_set_self hk'], hl7, by show hnd s7.gen i = hh0; rw [hg7]; exact hfresh.symm⟩
    · exact own_fm o8 f9 fun b hb e => by
        rcases hrow8 b hb with e2 | e2
        · exact hrk6 b e2 e
        · have := (h6.own.lt b e).2; omega
    · have F56 : Fm (Ed g vs) w w6 := Ed.trans F5 NR5 f6
      have F58 : Fm (Ed g vs) w w8 := Fm.trans' F56 F68 fun b hb e => by have := (hkvB b e).1; omega
      exact Ed.trans F58 (NR5.trans nr6 hs5size) (f9.mono fun b _ hb => .inr hb)
    · exact NR5.trans nr6 hs5size
    · intro q hq e' he'
      obtain ⟨s, u1, u2⟩ := hopn q hq
      have : i ≠ q := fun e => by subst e; have := hdead s u1; rw [u2] at this; cases this
      rw [List.getElem?_set_ne this]
      exact keep6 q (List.mem_cons_of_mem _ hq) e' (keep5 q hq e' he')
    · intro b hb e
      rcases hrow8 b hb with e2 | e2
      · exact hrk6 b e2 e
      · have := (h6.own.lt b e).2; omega
end
end Go.Proofs.YthbeeonmfbigcaaGreatDoor
