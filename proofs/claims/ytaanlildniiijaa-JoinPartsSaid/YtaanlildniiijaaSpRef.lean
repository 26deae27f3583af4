/- Joins: the document's answers. -/
import Derived.Test.YtaanlildniiijaaSpKept
namespace Go.Proofs.Ytaanlildniiijaa
open Go.RowKit Go.Vc
set_option maxRecDepth 100000
set_option linter.unusedSimpArgs false
set_option linter.unusedVariables false
theorem joinsR_calls (a b : Sp) (direct : Bool) (h0 : -9223372036854775808 ≤ a.l) (h1 : b.l ≤ 9223372036854775807) : B1 67 #[spv a, spv b, .bool direct] (joinB a b direct) := fun {w R} h => by
  refine ok67 a.b a.e a.l b.b b.e b.l direct ?_
  unfold F67
  refine al fun g w1 hb hg _ => al fun g' w2 hb' hg' _ => ?_
  have hg1 := hg.keep hb'
  have B2 := btr hb hb.size hb'
  simp only [hg1.cell, hg'.cell, Addr.add_mk, List.getElem?_toArray, List.getElem?_cons_zero, List.getElem?_cons_succ, LdI_some, LdB_some, LdStr_some, LdP_some, LdSl_some, LdM_some, Nat.zero_add, Br_t, Br_f]
  refine ancR_calls a b fun w3 hb3 => ⟨_, rfl, ?_⟩
  have hg2 := hg1.keep hb3
  have hg3 := hg'.keep hb3
  have B3 := btr B2 B2.size hb3
  unfold joinB at h
  refine br (fun ha => ?_) (fun ha => by rw [ha] at h; exact h w3 B3)
  rw [ha] at h
  rw [brnot]
  refine br (fun hd => ?_) (fun hd => by rw [hd] at h; exact h w3 B3)
  rw [hd] at h
  simp only [hg2.cell, hg3.cell, Addr.add_mk, List.getElem?_toArray, List.getElem?_cons_zero, List.getElem?_cons_succ, LdI_some, LdB_some, LdStr_some, LdP_some, LdSl_some, LdM_some, Nat.zero_add, Br_t, Br_f]
  refine parR_calls a b h0 h1 fun w4 hb4 => ⟨_, rfl, ?_⟩
  exact h w4 (btr B3 B3.size hb4)
theorem join2 {a d : List Pl} (L : Lam a d) {A D : Option Addr} {aC dC : Nat} {w : World} (hA : Rd LPl w A aC a) (hD : Rd LPl w D dC d) {k i : Nat} (hk : k < a.length) (hi : i < d.length) (direct : Bool) {R : Ending → World → Prop} {K : Bool → World → Prop} (hK : ∀ w', Below w.heap.size w w' → K (joinB (el a k).s (el d i).s direct) w') :
    ∃ S : World → Prop, S w.drew ∧ IdxA A a.length (k : Int) 4 fun q48 =>
     ∃ (x50_0 : Int), Held S (q48.add 1) (.int .u64 x50_0) ∧ ∃ (x50_1 : Int), Held S ((q48.add 1).add 1) (.int .u64 x50_1) ∧ ∃ (x50_2 : Int), Held S ((q48.add 1).add 2) (.int .i64 x50_2) ∧ IdxA D d.length (i : Int) 4 fun q53 =>
     ∃ (x55_0 : Int), Held S (q53.add 1) (.int .u64 x55_0) ∧ ∃ (x55_1 : Int), Held S ((q53.add 1).add 1) (.int .u64 x55_1) ∧ ∃ (x55_2 : Int), Held S ((q53.add 1).add 2) (.int .i64 x55_2) ∧ Calls Try.prog 67 (#[(.agg #[(.int .u64 x50_0), (.int .u64 x50_1), (.int .i64 x50_2)]), (.agg #[(.int .u64 x55_0), (.int .u64 x55_1), (.int .i64 x55_2)]), .bool direct]) w.drew (post R fun v2 w1_4 =>
     ∃ (x57 : Bool), v2 = (.bool x57) ∧ K x57 w1_4) := by
  have hd : Below w.heap.size w w.drew := (Below.refl _ _).drew
  refine ⟨fun w' => Below w.heap.size w w', hd, ?_⟩
  refine hA.held (S := fun w' => Below w.heap.size w w') (fun _ h => h) rfl (by omega) (by omega) rfl fun b o hc => ?_
  simp only [Int.toNat_natCast] at hc
  rw [← (at_mem hk).2] at hc
  simp only [Addr.add_mk]
  refine ⟨_, hc 1 _ rfl, _, hc 2 _ rfl, _, hc 3 _ rfl, ?_⟩
  refine hD.held (S := fun w' => Below w.heap.size w w') (fun _ h => h) rfl (by omega) (by omega) rfl fun b o hc => ?_
  simp only [Int.toNat_natCast] at hc
  rw [← (at_mem hi).2] at hc
  simp only [Addr.add_mk]
  refine ⟨_, hc 1 _ rfl, _, hc 2 _ rfl, _, hc 3 _ rfl, ?_⟩
  have ha1 := canB_l (L.ca _ (at_mem hk).1)
  have hx1 := canB_l (L.cd _ (at_mem hi).1)
  exact joinsR_calls (el a k).s (el d i).s direct (by omega) (by omega) fun w4 hb4 => ⟨_, rfl, hK w4 (btr hd hd.size hb4)⟩
theorem around2 {a d : List Pl} (L : Lam a d) {A D : Option Addr} {aC dC : Nat} {w : World} (hA : Rd LPl w A aC a) (hD : Rd LPl w D dC d) {k i : Nat} (hk : k < a.length) (hi : i < d.length) {R : Ending → World → Prop} {K : Bool → World → Prop} (hK : ∀ w', Below w.heap.size w w' → K (ancB (el a k).s (el d i).s) w') :
    ∃ S : World → Prop, S w.drew ∧ IdxA A a.length (k : Int) 4 fun q48 =>
     ∃ (x50_0 : Int), Held S (q48.add 1) (.int .u64 x50_0) ∧ ∃ (x50_1 : Int), Held S ((q48.add 1).add 1) (.int .u64 x50_1) ∧ ∃ (x50_2 : Int), Held S ((q48.add 1).add 2) (.int .i64 x50_2) ∧ IdxA D d.length (i : Int) 4 fun q53 =>
     ∃ (x55_0 : Int), Held S (q53.add 1) (.int .u64 x55_0) ∧ ∃ (x55_1 : Int), Held S ((q53.add 1).add 1) (.int .u64 x55_1) ∧ ∃ (x55_2 : Int), Held S ((q53.add 1).add 2) (.int .i64 x55_2) ∧ Calls Try.prog 21 (#[(.agg #[(.int .u64 x50_0), (.int .u64 x50_1), (.int .i64 x50_2)]), (.agg #[(.int .u64 x55_0), (.int .u64 x55_1), (.int .i64 x55_2)])]) w.drew (post R fun v2 w1_4 =>
     ∃ (x57 : Bool), v2 = (.bool x57) ∧ K x57 w1_4) := by
  have hd : Below w.heap.size w w.drew := (Below.refl _ _).drew
  refine ⟨fun w' => Below w.heap.size w w', hd, ?_⟩
  refine hA.held (S := fun w' => Below w.heap.size w w') (fun _ h => h) rfl (by omega) (by omega) rfl fun b o hc => ?_
  simp only [Int.toNat_natCast] at hc
  rw [← (at_mem hk).2] at hc
  simp only [Addr.add_mk]
  refine ⟨_, hc 1 _ rfl, _, hc 2 _ rfl, _, hc 3 _ rfl, ?_⟩
  refine hD.held (S := fun w' => Below w.heap.size w w') (fun _ h => h) rfl (by omega) (by omega) rfl fun b o hc => ?_
  simp only [Int.toNat_natCast] at hc
  rw [← (at_mem hi).2] at hc
  simp only [Addr.add_mk]
  refine ⟨_, hc 1 _ rfl, _, hc 2 _ rfl, _, hc 3 _ rfl, ?_⟩
  exact ancR_calls (el a k).s (el d i).s fun w4 hb4 => ⟨_, rfl, hK w4 (btr hd hd.size hb4)⟩
/-- One pair more. -/
theorem pair2 {a d : List Pl} {A D : Option Addr} {aC dC : Nat} {w0 w : World} (hA : Rd LPl w A aC a) (hD : Rd LPl w D dC d) {k i : Nat} (hk : k < a.length) (hi : i < d.length) {X : Option Addr} {n xc : Nat} {out : List (Int × Int)}
    (ho : Own LPr w w0.heap.size 53 (.slice X n xc) out) (hb : Below w0.heap.size w0 w) (hl : out.length ≤ 67108864) {K : Option Addr → Nat → Nat → World → Prop}
    (hK : ∀ X' n' xc' w', Below w0.heap.size w0 w' → Own LPr w' w0.heap.size 53 (.slice X' n' xc') (out ++ [((el a k).node, (el d i).node)]) → K X' n' xc' w') :
    ∃ S : World → Prop, S w.drew ∧ IdxA A a.length (k : Int) 4 fun q64 =>
     ∃ (x66 : Int), Held S q64 (.int .u64 x66) ∧ IdxA D d.length (i : Int) 4 fun q69 =>
     ∃ (x71 : Int), Held S q69 (.int .u64 x71) ∧ Al w.drew #[(.int .u64 x66), (.int .u64 x71)] 53 fun g73 w1_6 =>
     Raw Try.prog (Builtin.append_ #[38, 38] 38 #[(.slice X n xc), (.slice (some g73) 1 1)]) w1_6 fun v3 w1_7 =>
     ∃ (x74 : Option Addr) (x74N : Nat) (x74C : Nat), v3 = (.slice x74 x74N x74C) ∧ K x74 x74N x74C w1_7 := by
  have hd : Below w.heap.size w w.drew := (Below.refl _ _).drew
  have hbd := btr hb hb.size hd
  refine ⟨fun w' => Below w.heap.size w w', hd, ?_⟩
  refine hA.held (S := fun w' => Below w.heap.size w w') (fun _ h => h) rfl (by omega) (by omega) rfl fun b o hc => ?_
  simp only [Int.toNat_natCast] at hc
  rw [← (at_mem hk).2] at hc
  refine ⟨_, hc 0 _ rfl, ?_⟩
  refine hD.held (S := fun w' => Below w.heap.size w w') (fun _ h => h) rfl (by omega) (by omega) rfl fun b o hc => ?_
  simp only [Int.toNat_natCast] at hc
  rw [← (at_mem hi).2] at hc
  refine ⟨_, hc 0 _ rfl, ?_⟩
  refine ap1 (L := LPr) (x := ((el a k).node, (el d i).node)) (.agg #[.int .u64 0, .int .u64 0]) 16 rfl rfl rfl rfl ho.drew hbd.size (by omega) (by simp [maxLen]; omega) fun A' c' w2 ho2 hg => ?_
  exact ⟨A', _, c', rfl, hK _ _ _ w2 (hbd.trans hg.below) ho2⟩
/-- Of the first k those that join with one. -/
def jnTo (a : List Pl) (x : Sp) (direct : Bool) (k : Nat) : List Nat := (List.range k).filter fun j => joinB (el a j).s x direct
theorem jnTo_succ (a : List Pl) (x : Sp) (direct : Bool) (k : Nat) : jnTo a x direct (k + 1) = if joinB (el a k).s x direct = true then jnTo a x direct k ++ [k] else jnTo a x direct k := by
  unfold jnTo
  rw [List.range_succ, List.filter_append, List.filter_cons]
  split <;> simp
theorem jnTo_fin {a d : List Pl} (L : Lam a d) (x : Sp) (direct : Bool) {k : Nat} (hk : k ≤ a.length) (h : k < a.length → ¬ (el a k).s.b < x.b) : jnTo a x direct k = jn a x direct := by
  unfold jnTo jn
  rw [range_filter_le (n := a.length) (k := k) _ hk]
  intro j hj hj2
  have : ¬ (el a j).s.b < x.b := by
    rcases Nat.eq_or_lt_of_le hj with rfl | hlt
    · exact h hj2
    · have := L.lt hlt hj2
      have := h (by omega)
      omega
  simp [joinB, ancB]
  intro h1
  omega
/-- Of the first m of the second list with how many number i joins. -/
def cnR (a d : List Pl) (direct : Bool) (i m : Nat) : Nat := (List.range m).countP fun j => joinB (el a i).s (el d j).s direct
theorem cnR_succ (a d : List Pl) (direct : Bool) (i m : Nat) : cnR a d direct i (m + 1) = if joinB (el a i).s (el d m).s direct = true then cnR a d direct i m + 1 else cnR a d direct i m := by
  unfold cnR
  rw [List.range_succ, List.countP_append, List.countP_singleton]
  split <;> rfl
theorem cnR_le (a d : List Pl) (direct : Bool) (i m : Nat) : cnR a d direct i m ≤ m := by
  have := List.countP_le_length (p := fun j => joinB (el a i).s (el d j).s direct) (l := List.range m)
  rwa [List.length_range] at this
section
variable (a d : List Pl) (direct : Bool) (A : Option Addr) (aC : Nat) (D : Option Addr) (dC : Nat) {w : World} (hA : Rd LPl w A aC a) (hD : Rd LPl w D dC d) {R : Ending → World → Prop}
include hA hD
theorem pairsR_calls (h : ∀ X n xc w', Below w.heap.size w w' → Own LPr w' w.heap.size 53 (.slice X n xc) (pairsF a d direct).1 → R (.returned (.tuple #[.slice X n xc, .int .i64 (pairsF a d direct).2])) w') :
    Calls Try.prog 38 #[.slice A a.length aC, .slice D d.length dC, .bool direct] w R := by
  refine ok38 A a.length aC D d.length dC direct ?_
  unfold F38
  refine fitsR_calls a d A aC D dC hA hD fun w1 hb1 => ⟨_, rfl, ?_⟩
  unfold pairsF at h
  refine brn (fun hf => ?_) (fun hf => ?_)
  · rw [if_pos hf] at h
    exact h none 0 0 w1 hb1 (Own.nil _ _ _ _)
  rw [if_neg (by simpa using hf)] at h
  have L := fitsF_lam hf
  have hla := L.la
  have hld := L.ld
  refine al fun g w2 hb2 _ _ => ?_
  have B2 := btr hb1 hb1.size hb2
  refine ⟨fun X n xc i w3 => ∃ j : Nat, i = j ∧ j ≤ d.length ∧ Below w.heap.size w w3 ∧ Own LPr w3 w.heap.size 53 (.slice X n xc) (pairsTo a d direct j) ∧ (pairsTo a d direct j).length ≤ 16384, fun X n xc i w3 => d.length - i.toNat, ⟨0, rfl, by omega, B2, Own.bare _ _ _ _ _, by simp [pairsTo]⟩, ?_⟩
  rintro X n xc i w3 ⟨i, rfl, hi, B3, own, hlen⟩
  unfold F38_l6
  refine brd (fun hlt => ?_) (fun hge => ?_)
  rotate_left
  · obtain rfl : i = d.length := by omega
    rw [if_neg (by omega)] at h
    exact h X n xc w3 B3 own
  have hi2 : i < d.length := by omega
  refine ⟨fun X n xc w4 => Below w.heap.size w w4 ∧ Own LPr w4 w.heap.size 53 (.slice X n xc) (pairsTo a d direct (i + 1)) ∧ (pairsTo a d direct (i + 1)).length ≤ 16384, ?_, ?_⟩
  · rintro X n xc w4 ⟨B4, own4, hl4⟩
    unfold F38_j7
    exact ⟨inR_i64 (by omega) (by omega), ⟨i + 1, by simp, by omega, B4, own4, hl4⟩, by dsimp only; omega⟩
  refine ⟨fun X n xc k w4 => ∃ k' : Nat, k = k' ∧ k' ≤ a.length ∧ Below w.heap.size w w4 ∧ Own LPr w4 w.heap.size 53 (.slice X n xc) (pairsTo a d direct i ++ (jnTo a (el d i).s direct k').map fun k => ((el a k).node, (el d i).node)) ∧ (pairsTo a d direct i ++ (jnTo a (el d i).s direct k').map fun k => ((el a k).node, (el d i).node)).length ≤ 16384 ∧ ∀ j, j < k' → (el a j).s.b < (el d i).s.b, fun X n xc k w4 => a.length - k.toNat, ⟨0, rfl, by omega, B3, by simpa [jnTo] using own, by simpa [jnTo] using hlen, by omega⟩, ?_⟩
  rintro X n xc k w4 ⟨k, rfl, hk, B4, own4, hl4, hbef⟩
  unfold F38_l9
  have hdone : ∀ w5, Below w.heap.size w w5 → Own LPr w5 w.heap.size 53 (.slice X n xc) (pairsTo a d direct i ++ (jnTo a (el d i).s direct k).map fun k => ((el a k).node, (el d i).node)) → (k < a.length → ¬ (el a k).s.b < (el d i).s.b) →
      Below w.heap.size w w5 ∧ Own LPr w5 w.heap.size 53 (.slice X n xc) (pairsTo a d direct (i + 1)) ∧ (pairsTo a d direct (i + 1)).length ≤ 16384 := by
    intro w5 B5 own5 hstop
    rw [jnTo_fin L _ _ hk hstop] at own5 hl4
    rw [pairsTo_succ]
    exact ⟨B5, own5, hl4⟩
  refine ⟨fun w5 => Below w.heap.size w w5 ∧ Own LPr w5 w.heap.size 53 (.slice X n xc) (pairsTo a d direct i ++ (jnTo a (el d i).s direct k).map fun k => ((el a k).node, (el d i).node)) ∧ k < a.length ∧ (el a k).s.b < (el d i).s.b, ?_, ?_⟩
  rotate_left
  · refine dr fun w5 hb5 _ => ?_
    have B5 := btr B4 B4.size hb5
    have own5 := own4.keep hb5
    refine brd (fun hlt2 => ?_) (fun hge2 => hdone w5 B5 own5 (fun h1 => by omega))
    refine (hA.keep B5).plEl rfl rfl (by omega) fun b o c0 c1 c2 c3 => ?_
    simp only [c1, Addr.add_mk, List.getElem?_toArray, List.getElem?_cons_zero, List.getElem?_cons_succ, LdI_some, LdB_some, LdStr_some, LdP_some, LdSl_some, LdM_some, Nat.zero_add, Br_t, Br_f]
    refine (hD.keep B5).plEl rfl rfl hi2 fun b o c0 c1 c2 c3 => ?_
    simp only [c1, Addr.add_mk, List.getElem?_toArray, List.getElem?_cons_zero, List.getElem?_cons_succ, LdI_some, LdB_some, LdStr_some, LdP_some, LdSl_some, LdM_some, Nat.zero_add, Br_t, Br_f]
    exact brd (fun h1 => ⟨B5, own5, by omega, h1⟩) (fun h1 => hdone w5 B5 own5 (fun _ => h1))
  rintro w5 ⟨B5, own5, hk2, hkb⟩
  unfold F38_j11
  refine ⟨fun X n xc w6 => Below w.heap.size w w6 ∧ Own LPr w6 w.heap.size 53 (.slice X n xc) (pairsTo a d direct i ++ (jnTo a (el d i).s direct (k + 1)).map fun k => ((el a k).node, (el d i).node)) ∧ (pairsTo a d direct i ++ (jnTo a (el d i).s direct (k + 1)).map fun k => ((el a k).node, (el d i).node)).length ≤ 16384, ?_, ?_⟩
  · rintro X n xc w6 ⟨B6, own6, hl6⟩
    unfold F38_j10
    refine ⟨inR_i64 (by omega) (by omega), ⟨k + 1, by simp, by omega, B6, own6, hl6, fun j hj => ?_⟩, by dsimp only; omega⟩
    rcases Nat.lt_succ_iff_lt_or_eq.1 hj with h1 | rfl
    · exact hbef j h1
    · exact hkb
  refine join2 L (hA.keep B5) (hD.keep B5) hk2 hi2 direct fun w6 hb6 => ?_
  have B6 := btr B5 B5.size hb6
  have own6 := own5.keep hb6
  have hn := own6.rd.1
  rw [jnTo_succ]
  refine br (fun hj => ?_) (fun hj => ?_)
  · rw [if_pos hj, List.map_append, ← List.append_assoc]
    refine brd (fun hbig => ?_) (fun hsm => ?_)
    · have h5 := pairsTo_le a d direct (n := i + 1) (m := d.length) (by omega)
      rw [pairsTo_succ, List.length_append] at h5
      have h6 : (jnTo a (el d i).s direct (k + 1)).length ≤ (jn a (el d i).s direct).length := by
        exact ((List.range_sublist.2 (show k + 1 ≤ a.length by omega)).filter _).length_le
      have h7 : (pairsOf a d direct i).length = (jn a (el d i).s direct).length := by simp [pairsOf]
      rw [jnTo_succ, if_pos hj, List.length_append] at h6
      rw [List.length_append, List.length_map] at hl4 hn
      rw [if_pos (by simp at h6; omega)] at h
      exact h none 0 0 w6 B6 (Own.nil _ _ _ _)
    · refine pair2 (hA.keep B6) (hD.keep B6) hk2 hi2 own6 B6 (by omega) fun X' n' xc' w7 B7 own7 => ?_
      refine ⟨B7, own7, ?_⟩
      rw [List.length_append]
      simp only [List.map_cons, List.map_nil, List.length_singleton]
      omega
  · rw [if_neg (by rw [hj]; decide)]
    exact ⟨B6, own6, hl4⟩
theorem countR_calls (h : ∀ X n xc w', Below w.heap.size w w' → Own LN w' w.heap.size 3 (.slice X n xc) (countF a d direct).1 → R (.returned (.tuple #[.slice X n xc, .int .i64 (countF a d direct).2])) w') :
    Calls Try.prog 45 #[.slice A a.length aC, .slice D d.length dC, .bool direct] w R := by
  refine ok45 A a.length aC D d.length dC direct ?_
  unfold F45
  refine fitsR_calls a d A aC D dC hA hD fun w1 hb1 => ⟨_, rfl, ?_⟩
  unfold countF at h
  refine brn (fun hf => ?_) (fun hf => ?_)
  · rw [if_pos hf] at h
    exact h none 0 0 w1 hb1 (Own.nil _ _ _ _)
  rw [if_neg (by simpa using hf)] at h
  have L := fitsF_lam hf
  have hla := L.la
  have hld := L.ld
  refine al fun g w2 hb2 _ _ => ?_
  have B2 := btr hb1 hb1.size hb2
  refine ⟨fun X n xc i w3 => ∃ j : Nat, i = j ∧ j ≤ a.length ∧ Below w.heap.size w w3 ∧ Own LN w3 w.heap.size 3 (.slice X n xc) ((List.range j).map fun i => cnR a d direct i d.length), fun X n xc i w3 => a.length - i.toNat, ⟨0, rfl, by omega, B2, Own.bare _ _ _ _ _⟩, ?_⟩
  rintro X n xc i w3 ⟨i, rfl, hi, B3, own⟩
  unfold F45_l6
  refine brd (fun hlt => ?_) (fun hge => ?_)
  rotate_left
  · obtain rfl : i = a.length := by omega
    exact h X n xc w3 B3 own
  have hi2 : i < a.length := by omega
  refine ⟨fun n' k w4 => ∃ k' : Nat, k = k' ∧ k' ≤ d.length ∧ n' = (cnR a d direct i k' : Int) ∧ Below w.heap.size w w4 ∧ Own LN w4 w.heap.size 3 (.slice X n xc) ((List.range i).map fun i => cnR a d direct i d.length), fun n' k w4 => d.length - k.toNat, ⟨0, rfl, by omega, by simp [cnR], B3, own⟩, ?_⟩
  rintro n' k w4 ⟨k, rfl, hk, rfl, B4, own4⟩
  have hcl := cnR_le a d direct i k
  unfold F45_l10
  refine brd (fun hlt2 => ?_) (fun hge2 => ?_)
  · have hk2 : k < d.length := by omega
    refine ⟨fun n2 w5 => n2 = (cnR a d direct i (k + 1) : Int) ∧ Below w.heap.size w w5 ∧ Own LN w5 w.heap.size 3 (.slice X n xc) ((List.range i).map fun i => cnR a d direct i d.length), ?_, ?_⟩
    · rintro n2 w5 ⟨rfl, B5, own5⟩
      unfold F45_j11
      exact ⟨inR_i64 (by omega) (by omega), ⟨k + 1, by simp, by omega, rfl, B5, own5⟩, by dsimp only; omega⟩
    refine join2 L (hA.keep B4) (hD.keep B4) hi2 hk2 direct fun w5 hb5 => ?_
    have B5 := btr B4 B4.size hb5
    have own5 := own4.keep hb5
    rw [cnR_succ]
    refine br (fun hj => ?_) (fun hj => ?_)
    · rw [if_pos hj]
      exact ⟨inR_i64 (by omega) (by omega), by simp, B5, own5⟩
    · rw [if_neg (by rw [hj]; decide)]
      exact ⟨rfl, B5, own5⟩
  · obtain rfl : k = d.length := by omega
    refine ap1 (L := LN) (x := cnR a d direct i d.length) (.int .i64 0) 8 rfl rfl rfl rfl own4 B4.size (by simp; omega) (by simp [maxLen]; omega) fun A' c' w5 ho hg => ?_
    refine ⟨A', _, c', rfl, inR_i64 (by omega) (by omega), ⟨i + 1, by simp, by omega, B4.trans hg.below, ?_⟩, by dsimp only; omega⟩
    rw [List.range_succ, List.map_append]
    exact ho
theorem outerR_calls (h : ∀ X n xc w', Below w.heap.size w w' → Own LPl w' w.heap.size 51 (.slice X n xc) (outerF a d direct).1 → R (.returned (.tuple #[.slice X n xc, .int .i64 (outerF a d direct).2])) w') :
    Calls Try.prog 41 #[.slice A a.length aC, .slice D d.length dC, .bool direct] w R := by
  refine ok41 A a.length aC D d.length dC direct ?_
  unfold F41
  unfold outerF at h
  refine countR_calls a d direct A aC D dC hA hD fun N nn nC w1 hb1 hown => ⟨_, _, _, _, rfl, ?_⟩
  unfold countF at hown ⊢
  by_cases hf : fitsF a d ≠ 0
  · rw [if_pos hf] at h ⊢
    refine brn (fun _ => ?_) (fun e => absurd e hf)
    exact h none 0 0 w1 hb1 (Own.nil _ _ _ _)
  rw [if_neg hf] at h hown ⊢
  refine brn (fun e => absurd rfl e) (fun _ => ?_)
  have L := fitsF_lam (Decidable.not_not.1 hf)
  have hla := L.la
  obtain ⟨hnn, hN⟩ := hown.rd
  dsimp only at hnn hN
  have hcl := cntF_len a d direct
  refine al fun g w2 hb2 _ _ => ?_
  have B2 := btr hb1 hb1.size hb2
  refine ⟨fun X n xc i w3 => ∃ k : Nat, i = k ∧ k ≤ a.length ∧ Below w.heap.size w w3 ∧ Below w1.heap.size w1 w3 ∧ Own LPl w3 w2.heap.size 51 (.slice X n xc) (keptT a (cntF a d direct) true k) ∧ w2.heap.size ≤ w3.heap.size, fun X n xc i w3 => a.length - i.toNat, ⟨0, rfl, by omega, B2, hb2, Own.bare _ _ _ _ _, Nat.le_refl _⟩, ?_⟩
  rintro X n xc i w3 ⟨k, rfl, hk, B3, hb13, own, hs3⟩
  unfold F41_l6
  refine brd (fun hlt => ?_) (fun hge => ?_)
  · have hk2 : k < a.length := by omega
    refine ⟨fun X n xc w4 => Below w.heap.size w w4 ∧ Below w1.heap.size w1 w4 ∧ Own LPl w4 w2.heap.size 51 (.slice X n xc) (keptT a (cntF a d direct) true (k + 1)) ∧ w2.heap.size ≤ w4.heap.size, ?_, ?_⟩
    · rintro X n xc w4 ⟨B4, hb14, own4, hs4⟩
      unfold F41_j7
      exact ⟨inR_i64 (by omega) (by omega), ⟨k + 1, by simp, by omega, B4, hb14, own4, hs4⟩, by dsimp only; omega⟩
    refine (hN.keep hb13).nat hnn rfl (by omega) fun b o c0 => ?_
    simp only [c0, Addr.add_mk, List.getElem?_toArray, List.getElem?_cons_zero, List.getElem?_cons_succ, LdI_some, LdB_some, LdStr_some, LdP_some, LdSl_some, LdM_some, Nat.zero_add, Br_t, Br_f]
    have hkl := keptT_len a (cntF a d direct) true k
    have hns : (cntF a d direct)[k]! = (cntF a d direct)[k]'(by omega) := by simp [show k < (cntF a d direct).length by omega]
    rw [keptT_succ, hns]
    refine brd (fun hp => ?_) (fun hp => ?_)
    · rw [if_pos (by simp; omega)]
      refine (hA.keep B3).plEl rfl rfl hk2 fun b o c0 c1 c2 c3 => ?_
      simp only [c0, c1, c2, c3, Addr.add_mk, List.getElem?_toArray, List.getElem?_cons_zero, List.getElem?_cons_succ, LdI_some, LdB_some, LdStr_some, LdP_some, LdSl_some, LdM_some, Nat.zero_add, Br_t, Br_f]
      refine ap1 (L := LPl) (x := el a k) (.agg #[.int .u64 0, .int .u64 0, .int .u64 0, .int .i64 0]) 32 rfl rfl rfl rfl own hs3 (by omega) (by simp [maxLen]; omega) fun A' c' w5 ho hgr => ?_
      refine ⟨A', _, c', rfl, B3.trans (hgr.below.mono (Nat.le_trans B2.size (Nat.le_refl _))), hb13.trans (hgr.below.mono hb2.size), ?_, Nat.le_trans hs3 hgr.lt⟩
      exact ho
    · rw [if_neg (by simp; omega)]
      exact ⟨B3, hb13, own, hs3⟩
  · obtain rfl : k = a.length := by omega
    exact h X n xc w3 B3 (own.rebase fun b hb => Nat.le_trans B2.size (own.lt b hb).1)
/-- Whether one of the first k joins with number i. -/
theorem withinR_calls (is : Bool) (h : ∀ X n xc w', Below w.heap.size w w' → Own LPl w' w.heap.size 51 (.slice X n xc) (innerF a d direct is).1 → R (.returned (.tuple #[.slice X n xc, .int .i64 (innerF a d direct is).2])) w') :
    Calls Try.prog 68 #[.slice A a.length aC, .slice D d.length dC, .bool direct, .bool is] w R := by
  refine ok68 A a.length aC D d.length dC direct is ?_
  unfold F68
  refine fitsR_calls a d A aC D dC hA hD fun w1 hb1 => ⟨_, rfl, ?_⟩
  unfold innerF at h
  refine brn (fun hf => ?_) (fun hf => ?_)
  · rw [if_pos hf] at h
    exact h none 0 0 w1 hb1 (Own.nil _ _ _ _)
  rw [if_neg (by simpa using hf)] at h
  have L := fitsF_lam hf
  have hla := L.la
  have hld := L.ld
  refine al fun g w2 hb2 _ _ => ?_
  have B2 := btr hb1 hb1.size hb2
  refine ⟨fun X n xc i w3 => ∃ k : Nat, i = k ∧ k ≤ d.length ∧ Below w.heap.size w w3 ∧ Own LPl w3 w.heap.size 51 (.slice X n xc) (keptT d (lenF a d direct) is k), fun X n xc i w3 => d.length - i.toNat, ⟨0, rfl, by omega, B2, Own.bare _ _ _ _ _⟩, ?_⟩
  rintro X n xc i w3 ⟨i, rfl, hi, B3, own⟩
  unfold F68_l6
  refine brd (fun hlt => ?_) (fun hge => ?_)
  rotate_left
  · obtain rfl : i = d.length := by omega
    exact h X n xc w3 B3 own
  have hi2 : i < d.length := by omega
  refine ⟨fun X n xc w4 => Below w.heap.size w w4 ∧ Own LPl w4 w.heap.size 51 (.slice X n xc) (keptT d (lenF a d direct) is (i + 1)), ?_, ?_⟩
  · rintro X n xc w4 ⟨B4, own4⟩
    unfold F68_j7
    exact ⟨inR_i64 (by omega) (by omega), ⟨i + 1, by simp, by omega, B4, own4⟩, by dsimp only; omega⟩
  refine ⟨fun b w4 => b = decide (0 < (jn a (el d i).s direct).length) ∧ Below w.heap.size w w4 ∧ Own LPl w4 w.heap.size 51 (.slice X n xc) (keptT d (lenF a d direct) is i), ?_, ?_⟩
  · rintro b w4 ⟨rfl, B4, own4⟩
    unfold F68_j13
    have hkl := keptT_len d (lenF a d direct) is i
    have hns : (lenF a d direct)[i]! = (jn a (el d i).s direct).length := by simp [lenF, hi2]
    rw [keptT_succ, hns]
    refine br (fun hp => ?_) (fun hp => ?_)
    · rw [if_pos hp]
      refine (hD.keep B4).plEl rfl rfl hi2 fun b o c0 c1 c2 c3 => ?_
      simp only [c0, c1, c2, c3, Addr.add_mk, List.getElem?_toArray, List.getElem?_cons_zero, List.getElem?_cons_succ, LdI_some, LdB_some, LdStr_some, LdP_some, LdSl_some, LdM_some, Nat.zero_add, Br_t, Br_f]
      refine ap1 (L := LPl) (x := el d i) (.agg #[.int .u64 0, .int .u64 0, .int .u64 0, .int .i64 0]) 32 rfl rfl rfl rfl own4 B4.size (by omega) (by simp [maxLen]; omega) fun A' c' w5 ho hgr => ?_
      refine ⟨A', _, c', rfl, B4.trans hgr.below, ?_⟩
      exact ho
    · rw [if_neg (by rw [hp]; decide)]
      exact ⟨B4, own4⟩
  refine ⟨fun b k w4 => ∃ k' : Nat, k = k' ∧ k' ≤ a.length ∧ b = decide (0 < (jnTo a (el d i).s direct k').length) ∧ Below w.heap.size w w4 ∧ Own LPl w4 w.heap.size 51 (.slice X n xc) (keptT d (lenF a d direct) is i), fun b k w4 => a.length - k.toNat, ⟨0, rfl, by omega, by simp [jnTo], B3, own⟩, ?_⟩
  rintro b k w4 ⟨k, rfl, hk, rfl, B4, own4⟩
  unfold F68_l10
  refine ⟨fun w5 => k < a.length ∧ (jnTo a (el d i).s direct k).length = 0 ∧ Below w.heap.size w w5 ∧ Own LPl w5 w.heap.size 51 (.slice X n xc) (keptT d (lenF a d direct) is i), ?_, ?_⟩
  · rintro w5 ⟨hk2, h0, B5, own5⟩
    unfold F68_j12
    refine join2 L (hA.keep B5) (hD.keep B5) hk2 hi2 direct fun w6 hb6 => ?_
    refine ⟨inR_i64 (by omega) (by omega), ⟨k + 1, by simp, by omega, ?_, btr B5 B5.size hb6, own5.keep hb6⟩, by dsimp only; omega⟩
    rw [jnTo_succ]
    cases hj : joinB (el a k).s (el d i).s direct
    · simp [h0]
    · simp
  · refine brd (fun hlt2 => ?_) (fun hge2 => ?_)
    · rw [brnot]
      refine brd (fun hp => ?_) (fun hp => ⟨by omega, by omega, B4, own4⟩)
      refine ⟨?_, B4, own4⟩
      have h6 : (jnTo a (el d i).s direct k).length ≤ (jn a (el d i).s direct).length := ((List.range_sublist.2 hk).filter _).length_le
      rw [decide_eq_decide]; omega
    · refine ⟨?_, B4, own4⟩
      obtain rfl : k = a.length := by omega
      rfl
theorem innerR_calls (h : ∀ X n xc w', Below w.heap.size w w' → Own LPl w' w.heap.size 51 (.slice X n xc) (innerF a d direct true).1 → R (.returned (.tuple #[.slice X n xc, .int .i64 (innerF a d direct true).2])) w') :
    Calls Try.prog 42 #[.slice A a.length aC, .slice D d.length dC, .bool direct] w R := by
  refine ok42 A a.length aC D d.length dC direct ?_
  unfold F42
  exact withinR_calls a d direct A aC D dC hA hD true fun X n xc w' hb ho => ⟨_, _, _, _, rfl, h X n xc w' hb ho⟩
theorem withoutR_calls (h : ∀ X n xc w', Below w.heap.size w w' → Own LPl w' w.heap.size 51 (.slice X n xc) (innerF a d direct false).1 → R (.returned (.tuple #[.slice X n xc, .int .i64 (innerF a d direct false).2])) w') :
    Calls Try.prog 43 #[.slice A a.length aC, .slice D d.length dC, .bool direct] w R := by
  refine ok43 A a.length aC D d.length dC direct ?_
  unfold F43
  exact withinR_calls a d direct A aC D dC hA hD false fun X n xc w' hb ho => ⟨_, _, _, _, rfl, h X n xc w' hb ho⟩
omit hA hD in
theorem ancs_last_none {x : Sp} : (ancs a x).getLast? = none ↔ ancs a x = [] := by simp
theorem nearR_calls (h : ∀ X n xc w', Below w.heap.size w w' → Own LPr w' w.heap.size 53 (.slice X n xc) (nearF a d).1 → R (.returned (.tuple #[.slice X n xc, .int .i64 (nearF a d).2])) w') :
    Calls Try.prog 47 #[.slice A a.length aC, .slice D d.length dC] w R := by
  refine ok47 A a.length aC D d.length dC ?_
  unfold F47
  refine fitsR_calls a d A aC D dC hA hD fun w1 hb1 => ⟨_, rfl, ?_⟩
  unfold nearF at h
  refine brn (fun hf => ?_) (fun hf => ?_)
  · rw [if_pos hf] at h
    exact h none 0 0 w1 hb1 (Own.nil _ _ _ _)
  rw [if_neg (by simpa using hf)] at h
  have L := fitsF_lam hf
  have hla := L.la
  have hld := L.ld
  refine al fun g w2 hb2 _ _ => ?_
  have B2 := btr hb1 hb1.size hb2
  refine ⟨fun X n xc i w3 => ∃ j : Nat, i = j ∧ j ≤ d.length ∧ Below w.heap.size w w3 ∧ Own LPr w3 w.heap.size 53 (.slice X n xc) (nearTo a d j), fun X n xc i w3 => d.length - i.toNat, ⟨0, rfl, by omega, B2, Own.bare _ _ _ _ _⟩, ?_⟩
  rintro X n xc i w3 ⟨i, rfl, hi, B3, own⟩
  unfold F47_l6
  refine brd (fun hlt => ?_) (fun hge => ?_)
  rotate_left
  · obtain rfl : i = d.length := by omega
    exact h X n xc w3 B3 own
  have hi2 : i < d.length := by omega
  have hnl := nearTo_len a d i
  refine ⟨fun X n xc w4 => Below w.heap.size w w4 ∧ Own LPr w4 w.heap.size 53 (.slice X n xc) (nearTo a d (i + 1)), ?_, ?_⟩
  · rintro X n xc w4 ⟨B4, own4⟩
    unfold F47_j7
    exact ⟨inR_i64 (by omega) (by omega), ⟨i + 1, by simp, by omega, B4, own4⟩, by dsimp only; omega⟩
  refine ⟨fun b k w4 => ∃ k' : Nat, k = k' ∧ k' ≤ a.length ∧ (match (jnTo a (el d i).s false k').getLast? with | none => b = -1 | some j => b = (j : Int) ∧ j < a.length) ∧ Below w.heap.size w w4 ∧ Own LPr w4 w.heap.size 53 (.slice X n xc) (nearTo a d i), fun b k w4 => a.length - k.toNat, ⟨0, rfl, by omega, by simp [jnTo], B3, own⟩, ?_⟩
  rintro b k w4 ⟨k, rfl, hk, hbest, B4, own4⟩
  unfold F47_l10
  refine brd (fun hlt2 => ?_) (fun hge2 => ?_)
  · have hk2 : k < a.length := by omega
    refine ⟨fun b w5 => (match (jnTo a (el d i).s false (k + 1)).getLast? with | none => b = -1 | some j => b = (j : Int) ∧ j < a.length) ∧ Below w.heap.size w w5 ∧ Own LPr w5 w.heap.size 53 (.slice X n xc) (nearTo a d i), ?_, ?_⟩
    · rintro b w5 ⟨hb5, B5, own5⟩
      unfold F47_j11
      exact ⟨inR_i64 (by omega) (by omega), ⟨k + 1, by simp, by omega, hb5, B5, own5⟩, by dsimp only; omega⟩
    refine around2 L (hA.keep B4) (hD.keep B4) hk2 hi2 fun w5 hb5 => ?_
    have B5 := btr B4 B4.size hb5
    have own5 := own4.keep hb5
    have e : joinB (el a k).s (el d i).s false = ancB (el a k).s (el d i).s := by simp [joinB]
    rw [jnTo_succ, e]
    refine br (fun hj => ?_) (fun hj => ?_)
    · rw [if_pos hj]
      refine ⟨?_, B5, own5⟩
      simp [hk2]
    · rw [if_neg (by rw [hj]; decide)]
      exact ⟨hbest, B5, own5⟩
  · obtain rfl : k = a.length := by omega
    have e : jnTo a (el d i).s false a.length = ancs a (el d i).s := jn_false a _
    rw [e] at hbest
    rw [nearTo_succ]
    unfold nearOf
    cases hl : (ancs a (el d i).s).getLast? with
    | none =>
      rw [hl] at hbest
      obtain rfl : b = -1 := hbest
      refine brd (fun hc => by omega) (fun _ => ?_)
      simp only [List.append_nil]
      exact ⟨B4, own4⟩
    | some j =>
      rw [hl] at hbest
      obtain ⟨rfl, hj⟩ := hbest
      refine brd (fun _ => ?_) (fun hc => by omega)
      exact pair2 (hA.keep B4) (hD.keep B4) hj hi2 own4 B4 (by omega) fun X' n' xc' w7 B7 own7 => ⟨B7, own7⟩
end
end Go.Proofs.Ytaanlildniiijaa
