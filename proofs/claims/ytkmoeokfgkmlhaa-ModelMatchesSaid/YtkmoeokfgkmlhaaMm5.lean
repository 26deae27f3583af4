import Derived.Lib.SlicesCompact
import Derived.Sort.EncStr
import Derived.Sort.Grow
import Derived.Test.YtkmoeokfgkmlhaaProg
import Derived.Shelf.Sort.Plain
import Derived.Shelf.Slices.In.SortNone
import Derived.Shelf.Slices.In.CompactS
import Derived.Sort.EveryDepth
import Derived.Sort.Walk0
import Derived.Defers
import Derived.Recover
import Derived.Lib.SmallJoins
import Derived.Test.YtkmoeokfgkmlhaaRows
import Derived.WalkKit
import Derived.ProofKit
import Derived.OpenShut
import Derived.ShutString
import Derived.ChangeOld
import Derived.Below
import Derived.SizedLaws
import Derived.Carry
import Derived.Test.YtkmoeokfgkmlhaaMm4
/- The document's models: names are read along the places. -/
namespace Go.Mdl
theorem joined_snoc (a b : List Nat) (x : Nat) : joined a (b ++ [x]) = join1 (joined a b) x := by unfold joined; rw [List.foldl_append]; rfl
theorem joined_once (a : List Nat) : ∀ (n : Nat) (l : List Nat), l.length = n → joined a (joined [] l) = joined a l
  | 0, l, h => by rw [List.eq_nil_of_length_eq_zero h]; rfl
  | n + 1, l, h => by
    obtain ⟨l', x, rfl⟩ : ∃ l' x, l = l' ++ [x] := by
      have hne : l ≠ [] := by rintro rfl; cases h
      exact ⟨l.dropLast, l.getLast hne, (List.dropLast_concat_getLast hne).symm⟩
    have ih := joined_once a n l' (by simpa using h)
    rw [joined_snoc, joined_snoc]
    unfold join1
    by_cases hx : x ∈ joined [] l'
    · rw [if_pos (List.contains_iff_mem.2 hx), ih]
      have : x ∈ joined a l' := (mem_joined l' a).2 (.inr (by rcases (mem_joined l' []).1 hx with h | h; cases h; exact h))
      rw [if_pos (List.contains_iff_mem.2 this)]
    · rw [if_neg fun h => hx (List.contains_iff_mem.1 h), joined_snoc, ih]; rfl
theorem Once.mem {f f' : List (List Nat)} (h : Once f f') (i x : Nat) : x ∈ f'.getD i [] ↔ x ∈ f.getD i [] := by
  rw [← h.2 i, mem_joined]; simp
theorem Once.next {m : Pl} {fo : List (List Nat)} (h : Once m.fol fo) (hit : List Nat) : hit.foldl (fun nx k => joined nx (fo.getD k [])) [] = m.next hit := by
  unfold Pl.next
  have : (fun (nx : List Nat) (k : Nat) => joined nx (fo.getD k [])) = fun nx k => joined nx (m.fol.getD k []) := by
    funext nx k
    rw [← h.2 k, joined_once nx _ _ rfl]
  rw [this]
theorem Beside.lt {m : Pl} {fo : List (List Nat)} (h : Beside m fo) {i x : Nat} (hx : x ∈ fo.getD i []) : x < m.atoms.length := (fol_few h.ok i).2 x ((h.once.mem i x).1 hx)
theorem dl_dt : Dl ≠ Dt := by decide
theorem kind_facts {a : ByteArray} (h : a ≠ Br ∧ a ≠ Mi) : (kindOf a = 46 ↔ a = Dt) ∧ (kindOf a = 36 ↔ a = Dl) ∧ (kindOf a = 97 ↔ (a ≠ Dt ∧ a ≠ Dl)) := by
  unfold kindOf
  rw [if_neg h.1]
  by_cases h1 : a = Dl
  · subst h1; simp [dl_dt]
  · rw [if_neg h1]
    by_cases h2 : a = Dt
    · subst h2; simp [Ne.symm dl_dt]
    · rw [if_neg h2, if_neg h.2]; simp [h1, h2]
/-- What the document finds that matches one. -/
theorem hit_nodup {m : Pl} {may : List Nat} (h : may.Nodup) (x : ByteArray) : (m.hit may x).Nodup := h.filter _
end Go.Mdl
namespace Go.Proofs.Ytkmoeokfgkmlhaa
open Go.RowKit Go.Vc Go.Mdl
set_option linter.unusedVariables false
set_option linter.unusedSimpArgs false
set_option maxRecDepth 100000
section
variable {w w1 : World} {R : Ending → World → Prop} {g B : Nat}
theorem ofits_calls {a x : ByteArray} {sg : Int} {sl : Sv} {k : Nat} {nm : ByteArray} (hk : k = kindOf a) (hnm : nm = nmOf a) (hn : a ≠ Mdl.Br ∧ a ≠ Mi) (hR : ∀ w', Below w.heap.size w w' → R (.returned (.bool (fits a x))) w') :
    Calls Try.prog 59 #[.agg #[.int .u8 (k : Int), .int .u8 sg, .string nm, .slice sl.1 sl.2.1 sl.2.2], .string x] w R := by
  subst hk hnm
  refine ok59 _ _ _ _ _ _ _ ?_
  unfold F59
  obtain ⟨k1, k2, k3⟩ := kind_facts hn
  refine al fun ga w1 hb1 hga hgea => ?_
  have hR := hR w1 hb1
  unfold fits at hR
  refine lI (hga.cell 0) ?_
  refine bre (fun h46 => ?_) (fun h46 => ?_)
  · have : a = Dt := k1.1 (by omega)
    rw [decide_eq_true this] at hR; simpa using hR
  have ha : a ≠ Dt := fun e => h46 (by rw [k1.2 e]; rfl)
  rw [decide_eq_false ha, Bool.false_or] at hR
  have tail : a ≠ Dl → LdI .u8 (w1.cell? ⟨ga, 0, none⟩) fun x19 => Br (x19 == (97 : Int)) (LdStr (w1.cell? (Addr.add ⟨ga, 0, none⟩ 2)) fun x24 => R (.returned (.bool (x.toList == x24.toList))) w1) (R (.returned (.bool false)) w1) := by
    intro hdl
    have h97 : kindOf a = 97 := k3.2 ⟨ha, hdl⟩
    refine lI (hga.cell 0) ?_
    refine bre (fun _ => ?_) (fun h => absurd (by rw [h97]; rfl) h)
    refine lS (by rw [Addr.add_mk]; exact hga.cell 2) ?_
    have hnm : nmOf a = a := by unfold nmOf; rw [if_pos h97]
    rw [hnm, bytes_eq]
    rw [decide_eq_false hdl, Bool.false_and, Bool.false_or, Bool.not_false, Bool.and_true] at hR
    have : decide (x = a) = decide (a = x) := decide_eq_decide.2 ⟨Eq.symm, Eq.symm⟩
    rw [this]; exact hR
  refine lI (hga.cell 0) ?_
  refine bre (fun h36 => ?_) (fun h36 => ?_)
  · have hdl : a = Dl := k2.1 (by omega)
    rw [decide_eq_true hdl] at hR
    simp only [Bool.true_and, Bool.not_true, Bool.and_false, Bool.or_false] at hR
    rw [bytes_eq]
    refine brd (fun he => ?_) (fun he => ?_)
    · have : x = ByteArray.empty := he
      rw [decide_eq_true this] at hR; exact hR
    · have : ¬ x = ByteArray.empty := he
      rw [decide_eq_false this] at hR
      have h97 : kindOf a ≠ 97 := fun e => (k3.1 e).2 hdl
      refine lI (hga.cell 0) ?_
      exact bre (fun h => absurd (by omega : kindOf a = 97) h97) (fun _ => hR)
  · exact tail fun e => h36 (by rw [k2.2 e]; rfl)
theorem has_calls {A : Option Addr} {c : Nat} {xs : List Nat} {v : Nat} (h : Rd LK w A c xs) (hR : R (.returned (.bool (xs.contains v))) w) :
    Calls Try.prog 47 #[.slice A xs.length c, .int .i64 (v : Int)] w R := by
  refine ok47 _ _ _ _ ?_
  unfold F47
  have hm := h.1
  have hm2 := h.2.1
  unfold maxLen at hm2
  refine ⟨fun i w1 => ∃ k : Nat, i = k ∧ k ≤ xs.length ∧ w1 = w ∧ v ∉ xs.take k, fun i _ => xs.length - i.toNat, ⟨0, rfl, by omega, rfl, by simp⟩, ?_⟩
  rintro i w1 ⟨k, rfl, hk, rfl, hnot⟩
  unfold F47_l2
  refine brd (fun hlt => ?_) (fun hge => ?_)
  · have hk2 : k < xs.length := by omega
    refine h.k rfl rfl hk2 fun b o c0 => ?_
    refine lI c0 ?_
    refine bre (fun he => ?_) (fun hne => ?_)
    · have : v = xs[k] := by omega
      rw [List.contains_iff_mem.2 (by rw [this]; exact List.getElem_mem _)] at hR; exact hR
    · refine ⟨inR_i64 (by omega) (by omega), ⟨k + 1, by simp, by omega, rfl, ?_⟩, by dsimp only; omega⟩
      rw [List.take_add_one, List.getElem?_eq_getElem hk2]
      simp only [Option.toList_some, List.mem_append, List.mem_singleton, not_or]
      exact ⟨hnot, fun e => hne (by omega)⟩
  · obtain rfl : k = xs.length := by omega
    rw [List.take_length] at hnot
    have : xs.contains v = false := by
      cases hc : xs.contains v with
      | false => rfl
      | true => exact absurd (List.contains_iff_mem.1 hc) hnot
    rw [this] at hR; exact hR
theorem after_calls {m : Pl} {fo : List (List Nat)} {A fi F la v : Sv} {es : List E4} {vs : List Sv} {may : List Nat} {x : ByteArray} (h : RdO w g m fo A fi F la es vs) (hbe : Beside m fo) (hm : RdI B w v may) (hfew : Few m.atoms.length may)
    (hR : ∀ (y : Sv) w', RdI 0 w' y (m.hit may x) → Below w.heap.size w w' → R (.returned (.slice y.1 y.2.1 y.2.2)) w') :
    Calls Try.prog 45 #[.pointer (some ⟨g, 0, none⟩), .slice v.1 v.2.1 v.2.2, .string x] w R := by
  refine ok45 _ _ _ _ _ ?_
  unfold F45
  have hmn := hm.1
  have hm128 := Nat.le_trans hfew.len hbe.ok.le
  refine al fun g9 w1 hb1 hg9 hge9 => ?_
  refine ⟨fun r rN rC i w' => ∃ k : Nat, i = k ∧ k ≤ may.length ∧ Own LK w' w.heap.size 3 (.slice r rN rC) (m.hit (may.take k) x) ∧ Below w.heap.size w w', fun r rN rC i w' => may.length - i.toNat, ⟨0, rfl, by omega, Own.bare _ _ _ _ _, hb1⟩, ?_⟩
  rintro r rN rC i w2 ⟨k, rfl, hk, ho, hb2⟩
  unfold F45_l3
  refine brd (fun hlt => ?_) (fun hge => ?_)
  rotate_left
  · obtain rfl : k = may.length := by omega
    rw [List.take_length] at ho
    exact hR (r, rN, rC) w2 ((RdI.own (k := w.heap.size) ho (Nat.le_refl _)).weak (Nat.zero_le _)) hb2
  have hk2 : k < may.length := by omega
  have hkl := hfew.2 _ (List.getElem_mem hk2)
  have hht := hit_take m may x k hk2
  have h2 := h.below hb2
  have hm2 := hm.below hb2
  have hd : Below w2.heap.size w2 w2.drew := (Below.refl _ _).drew
  refine ⟨fun r2 rN2 rC2 w' => Own LK w' w.heap.size 3 (.slice r2 rN2 rC2) (m.hit (may.take (k + 1)) x) ∧ Below w.heap.size w w', ?_, ?_⟩
  · rintro r2 rN2 rC2 w3 ⟨o3, b3⟩
    unfold F45_j4
    exact ⟨inR_i64 (by omega) (by omega), ⟨k + 1, by simp, by omega, o3, b3⟩, by dsimp only; omega⟩
  refine ⟨fun w' => Below w2.heap.size w2 w', hd, ?_⟩
  rw [NonNil_some]
  refine ⟨A.1, A.2.1, A.2.2, fun w' hb => kcell hb (h2.blk.cell 0), ?_⟩
  refine hm2.2.1.held (fun _ h => h) hmn (i := (k : Int)) (by omega) (by omega) rfl fun b o hc => ?_
  simp only [Int.toNat_natCast] at hc
  refine ⟨_, hc 0 _ rfl, ?_⟩
  have hje : may[k] < es.length := by rw [h2.at_.1]; exact hkl
  refine h2.ar.held (fun _ h => h) h2.an (i := (may[k] : Int)) (by omega) (by rw [h2.an]; omega) rfl fun b' o' hc' => ?_
  simp only [Int.toNat_natCast] at hc'
  refine ⟨_, hc' 0 _ rfl, _, by rw [Addr.add_mk]; exact hc' 1 _ rfl, _, by rw [Addr.add_mk]; exact hc' 2 _ rfl, _, _, _, by rw [Addr.add_mk]; exact hc' 3 _ rfl, ?_⟩
  have hek := h2.at_.2 may[k] _ _ (List.getElem?_eq_getElem hje) (List.getElem?_eq_getElem hkl)
  have hat : m.atoms.getD may[k] ByteArray.empty = m.atoms[may[k]] := by rw [List.getD_eq_getElem?_getD, List.getElem?_eq_getElem hkl]; rfl
  rw [hat] at hht
  refine ofits_calls (sl := es[may[k]].sl) hek.1 hek.2 (hbe.nob _ (List.getElem_mem hkl)) fun w3 hb3 => ⟨_, rfl, ?_⟩
  have hb23 : Below w2.heap.size w2 w3 := btr hd hd.size hb3
  have hbw3 := btr hb2 hb2.size hb23
  refine ⟨hb23, ?_⟩
  refine br (fun hf => ?_) (fun hf => ?_)
  rotate_left
  · rw [hf, if_neg (by decide), List.append_nil] at hht
    rw [hht]
    exact ⟨ho.keep hb23, hbw3⟩
  rw [hf, if_pos rfl] at hht
  refine hm2.2.1.held (fun _ h => h) hmn (i := (k : Int)) (by omega) (by omega) rfl fun b o hc => ?_
  simp only [Int.toNat_natCast] at hc
  refine ⟨_, hc 0 _ rfl, ?_⟩
  have ho3 := ho.keep hb23
  obtain ⟨e1, hr3⟩ := ho3.rd
  have hnew : may[k] ∉ m.hit (may.take k) x := by
    intro hin
    have h1 := (List.mem_filter.1 hin).1
    have hnd := hfew.1
    rw [← List.take_append_drop k may, List.nodup_append] at hnd
    have hin2 : may[k] ∈ may.drop k := by
      rw [List.drop_eq_getElem_cons hk2]; exact List.mem_cons_self
    exact hnd.2.2 _ h1 _ hin2 rfl
  have hcf : (m.hit (may.take k) x).contains may[k] = false := by
    cases hcc : (m.hit (may.take k) x).contains may[k] with
    | false => rfl
    | true => exact absurd (List.contains_iff_mem.1 hcc) hnew
  rw [e1]
  refine has_calls hr3 ⟨_, rfl, ?_⟩
  rw [hcf, Bool.not_false, Br_t]
  refine (hm2.below hb23).2.1.k hmn rfl hk2 fun b o c0 => lI c0 ?_
  rw [e1] at ho3
  have hlen : (m.hit (may.take k) x).length ≤ 128 := by
    have : (m.hit (may.take k) x).length ≤ (may.take k).length := List.length_filter_le _ _
    rw [List.length_take] at this; omega
  refine ap1 (L := LK) (x := may[k]) (.int .i64 0) 8 rfl rfl rfl rfl ho3 hbw3.size (by omega) (by simp [maxLen]; omega) fun A' c' w4 o4 hg4 => ⟨A', _, c', rfl, ?_⟩
  rw [hht]
  exact ⟨o4, hbw3.trans hg4.below⟩
theorem onext_calls {m : Pl} {fo : List (List Nat)} {A fi F la v : Sv} {es : List E4} {vs : List Sv} {hit : List Nat} (h : RdO w g m fo A fi F la es vs) (hbe : Beside m fo) (hm : RdI B w v hit) (hh : ∀ k ∈ hit, k < m.atoms.length) (hl128 : hit.length ≤ 128)
    (hR : ∀ (y : Sv) w', RdI 0 w' y (m.next hit) → Below w.heap.size w w' → R (.returned (.slice y.1 y.2.1 y.2.2)) w') :
    Calls Try.prog 46 #[.pointer (some ⟨g, 0, none⟩), .slice v.1 v.2.1 v.2.2] w R := by
  refine ok46 _ _ _ _ ?_
  unfold F46
  have hmn := hm.1
  have hfl : fo.length = m.atoms.length := by rw [hbe.ok.len]; exact hbe.once.1.symm
  refine al fun g9 w1 hb1 hg9 hge9 => ?_
  refine ⟨fun r rN rC i w' => ∃ j : Nat, i = j ∧ j ≤ hit.length ∧ Own LK w' w.heap.size 3 (.slice r rN rC) ((hit.take j).foldl (fun nx k => joined nx (fo.getD k [])) []) ∧ Few m.atoms.length ((hit.take j).foldl (fun nx k => joined nx (fo.getD k [])) []) ∧ Below w.heap.size w w',
    fun r rN rC i w' => hit.length - i.toNat, ⟨0, rfl, by omega, Own.bare _ _ _ _ _, Few.nil _, hb1⟩, ?_⟩
  rintro r rN rC i w2 ⟨j, rfl, hj, ho, hfw, hb2⟩
  unfold F46_l3
  refine brd (fun hlt => ?_) (fun hge => ?_)
  rotate_left
  · obtain rfl : j = hit.length := by omega
    rw [List.take_length, hbe.once.next] at ho
    exact hR (r, rN, rC) w2 ((RdI.own (k := w.heap.size) ho (Nat.le_refl _)).weak (Nat.zero_le _)) hb2
  have hj2 : j < hit.length := by omega
  have hkl := hh _ (List.getElem_mem hj2)
  have hkf : hit[j] < fo.length := by omega
  have htk : (hit.take (j + 1)).foldl (fun nx k => joined nx (fo.getD k [])) [] = joined ((hit.take j).foldl (fun nx k => joined nx (fo.getD k [])) []) fo[hit[j]] := by
    rw [List.take_add_one, List.getElem?_eq_getElem hj2, Option.toList_some, List.foldl_append]
    simp only [List.foldl_cons, List.foldl_nil]
    rw [List.getD_eq_getElem?_getD, List.getElem?_eq_getElem hkf]; rfl
  have hlt8 : ∀ x ∈ fo[hit[j]], x < m.atoms.length := fun x hx => hbe.lt (i := hit[j]) (by rw [List.getD_eq_getElem?_getD, List.getElem?_eq_getElem hkf]; exact hx)
  have hbd := hbe.bd _ _ (List.getElem?_eq_getElem hkf)
  generalize (hit.take j).foldl (fun nx k => joined nx (fo.getD k [])) [] = acc at ho hfw htk
  refine ⟨fun r rN rC k w' => ∃ q : Nat, k = q ∧ q ≤ fo[hit[j]].length ∧ Own LK w' w.heap.size 3 (.slice r rN rC) (joined acc (fo[hit[j]].take q)) ∧ Below w.heap.size w w', fun r rN rC k w' => fo[hit[j]].length - k.toNat, ⟨0, rfl, by omega, ho, hb2⟩, ?_⟩
  clear ho
  rintro r2 rN2 rC2 k w3 ⟨q, rfl, hq, ho, hb3⟩
  unfold F46_l6
  refine dr fun w4 hb4 _ => ?_
  have hb04 := btr hb3 hb3.size hb4
  have h4 := h.below hb04
  have hm4 := hm.below hb04
  have ho4 := ho.keep hb4
  have hvl : hit[j] < vs.length := by rw [h4.fol.1]; exact hkf
  rw [NonNil_some]
  refine lSl (by rw [Addr.add_mk]; exact h4.blk.cell 2) ?_
  refine hm4.2.1.k hmn rfl hj2 fun b o c0 => lI c0 ?_
  refine h4.fr.idx h4.fn (i := (hit[j] : Int)) (by omega) (by rw [h4.fn]; omega) rfl fun b o hc => ?_
  simp only [Int.toNat_natCast] at hc
  refine lSl (hc 0 _ rfl) ?_
  have hrv := h4.fol.2 hit[j] _ _ (List.getElem?_eq_getElem hvl) (List.getElem?_eq_getElem hkf)
  have hfq : Few m.atoms.length (joined acc (fo[hit[j]].take q)) := hfw.joined fun x hx => hlt8 x (List.mem_of_mem_take hx)
  have hl8 := Nat.le_trans hfq.len hbe.ok.le
  refine brd (fun hlt2 => ?_) (fun hge2 => ?_)
  rotate_left
  · obtain rfl : q = fo[hit[j]].length := by have := hrv.1; omega
    rw [List.take_length] at ho4 hfq
    exact ⟨inR_i64 (by omega) (by omega), ⟨j + 1, by simp, by omega, by rw [htk]; exact ho4, by rw [htk]; exact hfq, hb04⟩, by dsimp only; omega⟩
  have hq2 : q < fo[hit[j]].length := by have := hrv.1; omega
  have hjt := joined_take acc fo[hit[j]] q hq2
  refine ⟨fun r3 rN3 rC3 w' => Own LK w' w.heap.size 3 (.slice r3 rN3 rC3) (joined acc (fo[hit[j]].take (q + 1))) ∧ Below w.heap.size w w', ?_, ?_⟩
  · rintro r3 rN3 rC3 w5 ⟨o5, b5⟩
    unfold F46_j7
    exact ⟨inR_i64 (by omega) (by omega), ⟨q + 1, by simp, by omega, o5, b5⟩, by dsimp only; omega⟩
  -- the place that may come
  have hd : Below w4.heap.size w4 w4.drew := (Below.refl _ _).drew
  refine ⟨fun w' => Below w4.heap.size w4 w', hd, ?_⟩
  rw [NonNil_some]
  refine ⟨F.1, F.2.1, F.2.2, fun w' hb => kcell hb (by rw [Addr.add_mk]; exact h4.blk.cell 2), ?_⟩
  refine hm4.2.1.held (fun _ h => h) hmn (i := (j : Int)) (by omega) (by omega) rfl fun b o hc => ?_
  simp only [Int.toNat_natCast] at hc
  refine ⟨_, hc 0 _ rfl, ?_⟩
  refine h4.fr.held (fun _ h => h) h4.fn (i := (hit[j] : Int)) (by omega) (by rw [h4.fn]; omega) rfl fun b o hc => ?_
  simp only [Int.toNat_natCast] at hc
  refine ⟨_, _, _, hc 0 _ rfl, ?_⟩
  refine hrv.2.1.held (fun _ h => h) hrv.1 (i := (q : Int)) (by omega) (by have := hrv.1; omega) rfl fun b o hc => ?_
  simp only [Int.toNat_natCast] at hc
  refine ⟨_, hc 0 _ rfl, ?_⟩
  have hod := ho4.keep hd
  obtain ⟨e1, hrd⟩ := hod.rd
  rw [e1]
  refine has_calls hrd ⟨_, rfl, ?_⟩
  rw [e1] at hod
  have hb0d := btr hb04 hb04.size hd
  rw [hjt]
  unfold join1
  cases hcc : (joined acc (fo[hit[j]].take q)).contains fo[hit[j]][q] with
  | true =>
    rw [Bool.not_true, Br_f, if_pos rfl]
    exact ⟨hod, hb0d⟩
  | false =>
    rw [Bool.not_false, Br_t, if_neg (by decide)]
    have hd2 : Below w4.drew.heap.size w4.drew w4.drew.drew := (Below.refl _ _).drew
    have h5 := h4.below hd
    have hm5 := hm4.below hd
    have hrv5 := hrv.below hd
    refine ⟨fun w' => Below w4.drew.heap.size w4.drew w', hd2, ?_⟩
    rw [NonNil_some]
    refine ⟨F.1, F.2.1, F.2.2, fun w' hb => kcell hb (by rw [Addr.add_mk]; exact h5.blk.cell 2), ?_⟩
    refine hm5.2.1.held (fun _ h => h) hmn (i := (j : Int)) (by omega) (by omega) rfl fun b o hc => ?_
    simp only [Int.toNat_natCast] at hc
    refine ⟨_, hc 0 _ rfl, ?_⟩
    refine h5.fr.held (fun _ h => h) h5.fn (i := (hit[j] : Int)) (by omega) (by rw [h5.fn]; omega) rfl fun b o hc => ?_
    simp only [Int.toNat_natCast] at hc
    refine ⟨_, _, _, hc 0 _ rfl, ?_⟩
    refine hrv5.2.1.held (fun _ h => h) hrv5.1 (i := (q : Int)) (by omega) (by have := hrv5.1; omega) rfl fun b o hc => ?_
    simp only [Int.toNat_natCast] at hc
    refine ⟨_, hc 0 _ rfl, ?_⟩
    have hb0e := btr hb0d hb0d.size hd2
    refine ap1 (L := LK) (x := fo[hit[j]][q]) (.int .i64 0) 8 rfl rfl rfl rfl (hod.keep hd2) hb0e.size (by omega) (by simp [maxLen]; omega) fun A' c' w6 o6 hg6 => ⟨A', _, c', rfl, ?_⟩
    exact ⟨o6, hb0e.trans hg6.below⟩
theorem orun_calls {m : Pl} {fo : List (List Nat)} {A fi F la : Sv} {es : List E4} {vs : List Sv} {names : Wd} {N : Option Addr} {c : Nat} (h : RdO w g m fo A fi F la es vs) (hbe : Beside m fo) (hn : Rd LSt w N c names)
    (hR : ∀ (v : Sv) w', RdI 0 w' v (m.run names).2.1 → Below w.heap.size w w' → R (.returned (.tuple #[.int .i64 ((m.run names).1 : Int), .slice v.1 v.2.1 v.2.2, .bool (m.run names).2.2])) w') :
    Calls Try.prog 29 #[.pointer (some ⟨g, 0, none⟩), .slice N names.length c] w R := by
  refine ok29 _ _ _ _ ?_
  unfold F29
  have ok := hbe.ok
  refine dr fun w1 hb1 _ => ?_
  have h1 := h.below hb1
  have hnl := hn.1
  have hnm := hn.2.1
  unfold maxLen at hnm
  rw [NonNil_some]
  refine lSl (by rw [Addr.add_mk]; exact h1.blk.cell 1) ?_
  rw [NonNil_some]
  refine lB (by rw [Addr.add_mk]; exact h1.blk.cell 4) ?_
  have hfst : RdI 0 w1 (fi.1, fi.2.1, fi.2.2) m.first := h1.fst
  have hgo0 : m.goes (names.drop 0) 0 m.first m.empty = m.run names := by rw [List.drop_zero]; rfl
  have hfe := ok.first
  clear h1
  refine ⟨fun mA mN mC is i w' => ∃ (k : Nat) (may : List Nat), i = k ∧ k ≤ names.length ∧ RdI 0 w' (mA, mN, mC) may ∧ Few m.atoms.length may ∧ Below w.heap.size w w' ∧ m.goes (names.drop k) k may is = m.run names, fun mA mN mC is i w' => names.length - i.toNat,
    ⟨0, m.first, rfl, by omega, hfst, hfe, hb1, hgo0⟩, ?_⟩
  clear hb1 hfst hgo0
  rintro mA mN mC is i w2 ⟨k, may, rfl, hk, hmay, hfew, hb2, hgo⟩
  unfold F29_l3
  refine brd (fun hlt => ?_) (fun hge => ?_)
  rotate_left
  · obtain rfl : k = names.length := by omega
    rw [List.drop_length] at hgo
    simp only [Pl.goes] at hgo
    rw [← hgo] at hR
    exact hR (mA, mN, mC) w2 hmay hb2
  have hk2 : k < names.length := by omega
  have hd : names.drop k = names[k] :: names.drop (k + 1) := List.drop_eq_getElem_cons hk2
  rw [hd] at hgo
  simp only [Pl.goes] at hgo
  refine (hn.keep hb2).idx rfl (by omega) (by omega) rfl fun b o hc => ?_
  simp only [Int.toNat_natCast] at hc
  refine lS (hc 0 _ rfl) ?_
  generalize names[k] = x at hgo
  have hm128 := Nat.le_trans hfew.len ok.le
  refine after_calls (v := (mA, mN, mC)) (h.below hb2) hbe hmay hfew ?_
  intro y w3 hy hb3
  refine ⟨y.1, y.2.1, y.2.2, rfl, ?_⟩
  have hyn := hy.1
  have hb03 := btr hb2 hb2.size hb3
  have hhl : (m.hit may x).length ≤ may.length := List.length_filter_le _ _
  have hhk := hit_lt (x := x) hfew
  generalize hhit : m.hit may x = hit at hgo hy hyn hhl hhk
  cases he : hit.isEmpty with
  | true =>
    have : hit = [] := List.isEmpty_iff.1 he
    rw [he] at hgo
    simp only [if_true] at hgo
    rw [← hgo] at hR
    have e0 : (((y.2.1 : Nat) : Int) == (0 : Int)) = true := by rw [hyn, this]; rfl
    rw [e0, Br_t]
    exact hR (mA, mN, mC) w3 (hmay.below hb3) hb03
  | false =>
    have hne : hit ≠ [] := fun e => by rw [e] at he; cases he
    have hpos := List.length_pos_iff.2 hne
    rw [he] at hgo
    simp only [Bool.false_eq_true, if_false] at hgo
    have e0 : (((y.2.1 : Nat) : Int) == (0 : Int)) = false := beq_eq_false_iff_ne.2 (by omega)
    rw [e0, Br_f]
    refine onext_calls (v := (y.1, y.2.1, y.2.2)) (h.below hb03) hbe hy hhk (by omega) ?_
    intro z w4 hz hb4
    refine ⟨z.1, z.2.1, z.2.2, rfl, ?_⟩
    have hb04 := btr hb03 hb03.size hb4
    have hy4 := hy.below hb4
    refine ⟨fun mt kk w' => ∃ j : Nat, kk = j ∧ j ≤ hit.length ∧ mt = ((hit.take j).any fun k => m.last.contains k) ∧ Below w4.heap.size w4 w', fun mt kk w' => hit.length - kk.toNat, ⟨0, rfl, by omega, rfl, Below.refl _ _⟩, ?_⟩
    rintro mt kk w5 ⟨j, rfl, hj, rfl, hb5⟩
    unfold F29_l10
    have hb05 := btr hb04 hb04.size hb5
    refine brd (fun hlt2 => ?_) (fun hge2 => ?_)
    rotate_left
    · obtain rfl : j = hit.length := by omega
      rw [List.take_length]
      exact ⟨inR_i64 (by omega) (by omega), ⟨k + 1, m.next hit, by simp, by omega, hz.below hb5, next_few ok _ _ (Few.nil _), hb05, hgo⟩, by dsimp only; omega⟩
    have hj2 : j < hit.length := by omega
    have htk : (hit.take (j + 1)).any (fun k => m.last.contains k) = (((hit.take j).any fun k => m.last.contains k) || m.last.contains hit[j]) := by
      rw [List.take_add_one, List.getElem?_eq_getElem hj2, Option.toList_some, List.any_append]; simp
    have hdd : Below w5.heap.size w5 w5.drew := (Below.refl _ _).drew
    refine ⟨fun mt w' => mt = ((hit.take (j + 1)).any fun k => m.last.contains k) ∧ Below w4.heap.size w4 w', ?_, ?_⟩
    · rintro mt w6 ⟨rfl, hb6⟩
      unfold F29_j11
      exact ⟨inR_i64 (by omega) (by omega), ⟨j + 1, by simp, by omega, rfl, hb6⟩, by dsimp only; omega⟩
    refine ⟨fun w' => Below w5.heap.size w5 w', hdd, ?_⟩
    have h5 := h.below hb05
    rw [htk]
    refine br (fun hq => ?_) (fun hq => ?_)
    · rw [hq]; exact ⟨rfl, btr hb5 hb5.size hdd⟩
    · rw [hq, NonNil_some]
      refine ⟨la.1, la.2.1, la.2.2, fun w' hb => kcell hb (by rw [Addr.add_mk]; exact h5.blk.cell 3), ?_⟩
      refine (hy4.below hb5).2.1.held (fun _ h => h) hyn (i := (j : Int)) (by omega) (by omega) rfl fun b o hc => ?_
      simp only [Int.toNat_natCast] at hc
      refine ⟨_, hc 0 _ rfl, ?_⟩
      have hls := h5.lst.below hdd
      have e2 := hls.1
      rw [e2]
      refine has_calls hls.2.1 ⟨_, rfl, ?_⟩
      rw [Bool.false_or]
      exact ⟨rfl, btr hb5 hb5.size hdd⟩
theorem omatch_calls {m : Pl} {fo : List (List Nat)} {A fi F la : Sv} {es : List E4} {vs : List Sv} {names : Wd} {N : Option Addr} {c : Nat} (h : RdO w g m fo A fi F la es vs) (hbe : Beside m fo) (hn : Rd LSt w N c names)
    (hR : ∀ w', Below w.heap.size w w' → R (.returned (.tuple #[.bool (m.mat names).1, .int .i64 ((m.mat names).2 : Int)])) w') :
    Calls Try.prog 12 #[.pointer (some ⟨g, 0, none⟩), .slice N names.length c] w R := by
  refine ok12 _ _ _ _ ?_
  unfold F12
  refine orun_calls h hbe hn fun v w1 hv hb1 => ⟨_, _, _, _, _, rfl, ?_⟩
  have hR := hR w1 hb1
  unfold Pl.mat at hR
  refine br (fun he => ?_) (fun he => ?_)
  · rw [he, Bool.true_and] at hR
    have e : (((m.run names).1 : Int) == ((names.length : Nat) : Int)) = ((m.run names).1 == names.length) := by
      rw [Bool.eq_iff_iff]; simp; omega
    rw [e]; exact hR
  · rw [he, Bool.false_and] at hR; exact hR
end
end Go.Proofs.Ytkmoeokfgkmlhaa
/- Models: no place is a dead end; what may come next. -/
namespace Go.Mdl
set_option linter.unusedVariables false
set_option linter.unusedSimpArgs false
def LivI (g : GS) (p : Pc) (a : Nat) : Prop := ∀ i, a ≤ i → i < g.1.length → i ∈ p.last ∨ ∃ j, Fol g.2 i j
def LivF (p : Pc) : Prop := p.empty = true ∨ p.first ≠ []
theorem joined_ne {a b : List Nat} (h : a ≠ [] ∨ b ≠ []) : joined a b ≠ [] := by
  intro e
  rcases h with h | h
  · obtain ⟨x, hx⟩ := List.exists_mem_of_ne_nil _ h
    have := (mem_joined (x := x) b a).2 (.inl hx)
    rw [e] at this; cases this
  · obtain ⟨x, hx⟩ := List.exists_mem_of_ne_nil _ h
    have := (mem_joined (x := x) b a).2 (.inr hx)
    rw [e] at this; cases this
theorem fol_at {f f' : List (List Nat)} {i : Nat} (h : f'[i]? = f[i]?) (k : ∃ j, Fol f i j) : ∃ j, Fol f' i j := by
  obtain ⟨j, hj⟩ := k
  exact ⟨j, (fol_eq h j).1 hj⟩
mutual
theorem livP : ∀ (p : Part) (g : GS), g.1.length = g.2.length → vP p → LivF (uP p g).1 ∧ LivI (uP p g).2 (uP p g).1 g.1.length
  | .mk a rows s, g, hl, hv => by
    have hv2 := hv.2
    have key : ∃ r : Pc × GS, r = (if a = Br then uC rows g ⟨[], [], false⟩ else if a = Mi then (⟨[], [], true⟩, g) else (⟨[g.1.length], [g.1.length], false⟩, (g.1 ++ [a], g.2 ++ [[]]))) ∧
        (∀ k ∈ r.1.last, k < r.2.2.length) ∧ LivF r.1 ∧ LivI r.2 r.1 g.1.length := by
      refine ⟨_, rfl, ?_⟩
      by_cases h1 : a = Br
      · rw [if_pos h1]
        have hr : rows ≠ [] ∧ vC rows := by
          rcases hv2 with h | h
          · exact h.2
          · exact absurd h1 (br_ne h.1)
        have := livC rows g ⟨[], [], false⟩ g.1.length hl (Nat.le_refl _) (isNone _ _ _) hr.2 (.inr hr.1) (fun i h h' => by omega)
        have is1 := isC rows g ⟨[], [], false⟩ g.1.length none hl (Nat.le_refl _) (isNone _ _ _)
        exact ⟨fun k hk => by rw [← is1.1.len]; exact (is1.2.l1 k hk).2, this⟩
      · rw [if_neg h1]
        by_cases h2 : a = Mi
        · rw [if_pos h2]
          exact ⟨fun k hk => (by cases hk), .inl rfl, fun i h h' => by dsimp only at h'; omega⟩
        · rw [if_neg h2]
          refine ⟨fun k hk => by simp at hk; subst hk; simp [hl], .inr (by simp), fun i h h' => .inl ?_⟩
          simp at h' ⊢; omega
    obtain ⟨r, hr, hlast, hF, hI⟩ := key
    simp only [uP]
    rw [← hr]
    clear hr
    refine ⟨?_, ?_⟩
    · rcases hF with h | h
      · left; simp [h]
      · right; exact h
    · intro i h h'
      rcases hI i h h' with k | ⟨j, k⟩
      · exact .inl k
      · right
        refine ⟨j, ?_⟩
        dsimp only
        split
        · exact (fol_behind _ _ _ hlast).2 (.inl k)
        · exact k
theorem livR : ∀ (xs : List Part) (g : GS) (all : Pc) (a : Nat) {X : Lang}, g.1.length = g.2.length → a ≤ g.1.length → IsG g all a X → vR xs → LivF all → LivI g all a →
    LivF (uR xs g all).1 ∧ LivI (uR xs g all).2 (uR xs g all).1 a
  | [], g, all, a, X, hl, ha, h, hv, hF, hI => ⟨hF, hI⟩
  | x :: xs, g, all, a, X, hl, ha, h, hv, hF, hI => by
    simp only [uR]
    obtain ⟨on1, is1⟩ := isP x g hl
    obtain ⟨lf, li⟩ := livP x g hl hv.1
    generalize uP x g = r at on1 is1 lf li ⊢
    have h' := h.same (G := Fol r.2.2) (A' := At r.2.1) (fun i j h1 h2 => fol_eq (on1.fol i h2) j) (fun i n h1 h2 => at_eq (on1.at_ i h2) n)
    have hlast : ∀ k ∈ all.last, k < r.2.2.length := fun k hk => by have := (h.l1 k hk).2; have := on1.le; rw [← on1.len]; omega
    have s1 := h'.seq is1 ha on1.le (G := Fol (behind r.2.2 all.last r.1.first)) fun i j => fol_behind _ _ _ hlast
    have is2 : IsG (r.2.1, behind r.2.2 all.last r.1.first) ⟨if all.empty then joined all.first r.1.first else all.first, if r.1.empty then joined all.last r.1.last else r.1.last, all.empty && r.1.empty⟩ a (seq X (mP x)) := by
      refine s1.sub (fun i => ?_) (fun i => ?_) (by simp)
      · cases all.empty
        · simp
        · simp [mem_joined]
      · cases r.1.empty
        · simp
        · simp [mem_joined, or_comm]
    refine livR xs (r.2.1, behind r.2.2 all.last r.1.first) _ a (by simp [behind_len, on1.len]) (Nat.le_trans ha on1.le) is2 hv.2 ?_ ?_
    · cases he : all.empty with
      | false =>
        right
        simp only [he, Bool.false_eq_true, if_false]
        rcases hF with h | h
        · rw [he] at h; cases h
        · exact h
      | true =>
        rcases lf with h | h
        · left; simp [h, he]
        · right
          simp only [he, if_true]
          exact joined_ne (.inr h)
    · intro i hi hi'
      have gr : ∀ {i}, (∃ j, Fol r.2.2 i j) → ∃ j, Fol (behind r.2.2 all.last r.1.first) i j := fun ⟨j, k⟩ => ⟨j, (fol_behind _ _ _ hlast).2 (.inl k)⟩
      by_cases hlt : i < g.1.length
      · rcases hI i hi hlt with k | k
        · cases he : r.1.empty with
          | true => left; simp only [he, if_true]; exact (mem_joined _ _).2 (.inl k)
          | false =>
            right
            rcases lf with h | h
            · rw [he] at h; cases h
            · obtain ⟨x, hx⟩ := List.exists_mem_of_ne_nil _ h
              exact ⟨x, (fol_behind _ _ _ hlast).2 (.inr ⟨k, hx⟩)⟩
        · exact .inr (gr (fol_at (on1.fol i hlt) k))
      · rcases li i (by omega) hi' with k | k
        · left
          dsimp only
          split
          · exact (mem_joined _ _).2 (.inr k)
          · exact k
        · exact .inr (gr k)
theorem livC : ∀ (xs : List (List Part)) (g : GS) (all : Pc) (a : Nat) {X : Lang}, g.1.length = g.2.length → a ≤ g.1.length → IsG g all a X → vC xs → (LivF all ∨ xs ≠ []) → LivI g all a →
    LivF (uC xs g all).1 ∧ LivI (uC xs g all).2 (uC xs g all).1 a
  | [], g, all, a, X, hl, ha, h, hv, hF, hI => ⟨by rcases hF with h | h; exact h; exact absurd rfl h, hI⟩
  | x :: xs, g, all, a, X, hl, ha, h, hv, hF, hI => by
    simp only [uC]
    obtain ⟨on1, is1⟩ := isR x g ⟨[], [], true⟩ g.1.length eps hl (Nat.le_refl _) (isEps _ _ _)
    obtain ⟨lf, li⟩ := livR x g ⟨[], [], true⟩ g.1.length hl (Nat.le_refl _) (isEps _ _ _) hv.2.1 (.inl rfl) (fun i h h' => by omega)
    generalize uR x g ⟨[], [], true⟩ = r at on1 is1 lf li ⊢
    have h' := h.same (G := Fol r.2.2) (A' := At r.2.1) (fun i j h1 h2 => fol_eq (on1.fol i h2) j) (fun i n h1 h2 => at_eq (on1.at_ i h2) n)
    have s1 := h'.alt is1 ha on1.le
    have is2 : IsG r.2 ⟨joined all.first r.1.first, joined all.last r.1.last, all.empty || r.1.empty⟩ a (alt X (seq eps (mR x))) := by
      refine s1.sub (fun i => ?_) (fun i => ?_) (by simp)
      · rw [mem_joined]
      · rw [mem_joined]
    refine livC xs r.2 _ a on1.len (Nat.le_trans ha on1.le) is2 hv.2.2 (.inl ?_) ?_
    · rcases lf with h | h
      · left; simp [h]
      · right; exact joined_ne (.inr h)
    · intro i hi hi'
      by_cases hlt : i < g.1.length
      · rcases hI i hi hlt with k | k
        · exact .inl ((mem_joined _ _).2 (.inl k))
        · exact .inr (fol_at (on1.fol i hlt) k)
      · rcases li i (by omega) hi' with k | k
        · exact .inl ((mem_joined _ _).2 (.inr k))
        · exact .inr k
end
/-- No dead end. -/
structure Live (m : Pl) : Prop where
  first : m.empty = true ∨ m.first ≠ []
  fol : ∀ i, i < m.atoms.length → i ∈ m.last ∨ ∃ j, Fol m.fol i j
theorem placed_live {rows : List (List Part)} (h : okC rows) : Live (placed rows) := by
  have := livC rows ([], []) ⟨[], [], false⟩ 0 rfl (Nat.le_refl _) (isNone _ _ _) h.2.1 (.inr h.1) (fun i h h' => by simp at h')
  exact ⟨this.1, fun i hi => this.2 i (Nat.zero_le _) hi⟩
theorem goes_live {m : Pl} (h : Live m) : ∀ (xs : Wd) (i : Nat) (may : List Nat) (is : Bool), (is = true ∨ may ≠ []) → (∀ k ∈ may, k < m.atoms.length) → (∀ i j, Fol m.fol i j → j < m.atoms.length) →
    ((m.goes xs i may is).2.2 = true ∨ (m.goes xs i may is).2.1 ≠ []) ∧ (∀ k ∈ (m.goes xs i may is).2.1, k < m.atoms.length)
  | [], i, may, is, h1, h2, h3 => ⟨h1, h2⟩
  | x :: xs, i, may, is, h1, h2, h3 => by
    unfold Pl.goes
    split
    · exact ⟨h1, h2⟩
    · rename_i he
      refine goes_live h xs _ _ _ ?_ ?_ h3
      · cases hh : m.hit may x with
        | nil => rw [hh] at he; exact absurd rfl he
        | cons k l =>
          have hk : k ∈ m.hit may x := by rw [hh]; simp
          have hk2 := h2 k (List.mem_filter.1 hk).1
          rcases h.fol k hk2 with hl | ⟨j, hj⟩
          · left; simp [hl]
          · right
            have := (mem_next m j (m.hit may x) []).2 (.inr ⟨k, hk, hj⟩)
            intro e
            rw [← hh] at e
            unfold Pl.next at e
            rw [e] at this; cases this
      · intro k hk
        unfold Pl.next at hk
        rcases (mem_next m k (m.hit may x) []).1 hk with h | ⟨i, _, h⟩
        · cases h
        · exact h3 _ _ h
/-- How far a longer text goes. -/
theorem goes_snoc {m : Pl} (x : ByteArray) : ∀ (xs : Wd) (i : Nat) (may : List Nat) (is : Bool), (m.goes xs i may is).1 = i + xs.length →
    m.goes (xs ++ [x]) i may is = if (m.hit (m.goes xs i may is).2.1 x).isEmpty then m.goes xs i may is else
      (i + xs.length + 1, m.next (m.hit (m.goes xs i may is).2.1 x), (m.hit (m.goes xs i may is).2.1 x).any fun k => m.last.contains k)
  | [], i, may, is, h => by simp [Pl.goes]
  | y :: xs, i, may, is, h => by
    rw [List.cons_append]
    unfold Pl.goes at h ⊢
    by_cases he : (m.hit may y).isEmpty = true
    · rw [if_pos he] at h; simp at h
    · rw [if_neg he] at h
      rw [if_neg he, if_neg he]
      have := goes_snoc x xs (i + 1) (m.next (m.hit may y)) ((m.hit may y).any fun k => m.last.contains k) (by rw [h]; simp; omega)
      rw [this]
      simp only [List.length_cons]
      rw [show i + 1 + xs.length + 1 = i + (xs.length + 1) + 1 by omega]
/-- What Next tells of a place. -/
def nameOf (m : Pl) (k : Nat) : ByteArray := if m.atoms.getD k ByteArray.empty = Dl then ByteArray.empty else m.atoms.getD k ByteArray.empty
theorem hit_iff (m : Pl) (may : List Nat) (x : ByteArray) : (m.hit may x).isEmpty = false ↔ ∃ k ∈ may, fits (m.atoms.getD k ByteArray.empty) x = true := by
  rw [List.isEmpty_eq_false_iff]
  unfold Pl.hit
  constructor
  · intro h
    obtain ⟨k, hk⟩ := List.exists_mem_of_ne_nil _ h
    exact ⟨k, List.mem_filter.1 hk⟩
  · rintro ⟨k, h1, h2⟩ e
    have : k ∈ may.filter fun k => fits (m.atoms.getD k ByteArray.empty) x := List.mem_filter.2 ⟨h1, h2⟩
    rw [e] at this; cases this
theorem dt_dl : Dt ≠ Dl := by decide
theorem dt_e : Dt ≠ ByteArray.empty := by decide
theorem fits_name (a x : ByteArray) : fits a x = true ↔ (if a = Dl then ByteArray.empty else a) = Dt ∨ ((if a = Dl then ByteArray.empty else a) = x ∧ x ≠ Dt) := by
  unfold fits
  by_cases h1 : a = Dl
  · subst h1
    simp only [if_true, Bool.or_eq_true, Bool.and_eq_true, decide_eq_true_eq, Bool.not_eq_true', decide_eq_false_iff_not]
    constructor
    · rintro ((h | h) | h)
      · exact absurd h.symm dt_dl
      · right; exact ⟨h.2.symm, by rw [h.2]; exact dt_e.symm⟩
      · exact absurd trivial h.2
    · rintro (h | h)
      · exact absurd h.symm dt_e
      · left; right; exact ⟨trivial, h.1.symm⟩
  · simp only [h1, if_false, Bool.or_eq_true, Bool.and_eq_true, decide_eq_true_eq, Bool.not_eq_true', decide_eq_false_iff_not]
    constructor
    · rintro ((h | h) | h)
      · exact .inl h
      · exact h.1.elim
      · by_cases hd : a = Dt
        · exact .inl hd
        · exact .inr ⟨h.1, by rw [← h.1]; exact hd⟩
    · rintro (h | h)
      · exact .inl (.inl h)
      · exact .inr ⟨h.1, fun h => h⟩
/-- One more name is read iff it is told, or any may come. -/
theorem more_iff (m : Pl) (may : List Nat) (x : ByteArray) : (m.hit may x).isEmpty = false ↔ Dt ∈ may.map (nameOf m) ∨ (x ∈ may.map (nameOf m) ∧ x ≠ Dt) := by
  rw [hit_iff]
  simp only [fits_name, List.mem_map]
  constructor
  · rintro ⟨k, h, h1 | h1⟩
    · exact .inl ⟨k, h, h1⟩
    · exact .inr ⟨⟨k, h, h1.1⟩, h1.2⟩
  · rintro (⟨k, h, h1⟩ | ⟨⟨k, h, h1⟩, h2⟩)
    · exact ⟨k, h, .inl h1⟩
    · exact ⟨k, h, .inr ⟨h1, h2⟩⟩
end Go.Mdl
/- Models: what Next tells (sorted, each once). -/
namespace Go.Mdl
set_option linter.unusedVariables false
set_option linter.unusedSimpArgs false
section
variable {α : Type} [Inhabited α] [DecidableEq α]
theorem upTo_all (d : Array α) : ∀ m, ∀ j, j < m → d[j]! ∈ Lib.compactUpTo d m
  | 0, j, h => absurd h (by omega)
  | m + 1, j, h => by
    rw [Lib.compactUpTo_succ, List.mem_append]
    by_cases hj : j < m
    · exact .inl (upTo_all d m j hj)
    · obtain rfl : j = m := by omega
      by_cases hk : Lib.keeps d j = true
      · right; rw [if_pos hk]; simp
      · left
        unfold Lib.keeps at hk
        simp only [ne_eq, decide_eq_true_eq, not_or, Decidable.not_not] at hk
        rw [hk.2]
        exact upTo_all d j (j - 1) (by omega)
theorem mem_compact (zs : List α) (x : α) : x ∈ Lib.compact zs ↔ x ∈ zs := by
  constructor
  · intro h
    unfold Lib.compact Lib.compactUpTo at h
    obtain ⟨j, hj, rfl⟩ := List.mem_map.1 h
    have := List.mem_range.1 (List.mem_filter.1 hj).1
    rw [getElem!_pos zs.toArray j (by simpa using this)]
    simp
  · intro h
    obtain ⟨j, hj, rfl⟩ := List.getElem_of_mem h
    have := upTo_all zs.toArray zs.length j hj
    rw [getElem!_pos zs.toArray j (by simpa using hj)] at this
    simpa [Lib.compact] using this
theorem compact_len (zs : List α) : (Lib.compact zs).length ≤ zs.length := by
  unfold Lib.compact Lib.compactUpTo
  rw [List.length_map]
  refine Nat.le_trans (List.length_filter_le _ _) (by simp)
end
def bs (x : ByteArray) : List UInt8 := x.data.toList
def sb (l : List UInt8) : ByteArray := ⟨l.toArray⟩
theorem sb_bs (x : ByteArray) : sb (bs x) = x := by cases x; simp [sb, bs]
/-- What Next tells where these places may come. -/
def Pl.names (m : Pl) (may : List Nat) : Wd := may.map (nameOf m)
def nxtB (l : Wd) : List (List UInt8) := Lib.compact ((l.map bs).mergeSort fun x y => decide (x ≤ y))
def nxt (l : Wd) : Wd := (nxtB l).map sb
theorem mem_nxt (l : Wd) (x : ByteArray) : x ∈ nxt l ↔ x ∈ l := by
  unfold nxt nxtB
  constructor
  · intro h
    obtain ⟨y, hy, rfl⟩ := List.mem_map.1 h
    rw [mem_compact, List.mem_mergeSort] at hy
    obtain ⟨z, hz, rfl⟩ := List.mem_map.1 hy
    rw [sb_bs]; exact hz
  · intro h
    refine List.mem_map.2 ⟨bs x, ?_, sb_bs x⟩
    rw [mem_compact, List.mem_mergeSort]
    exact List.mem_map.2 ⟨x, h, rfl⟩
theorem nxt_len (l : Wd) : (nxt l).length ≤ l.length := by
  unfold nxt nxtB
  rw [List.length_map]
  exact Nat.le_trans (compact_len _) (by simp)
theorem nxt_ne {l : Wd} (h : l ≠ []) : nxt l ≠ [] := by
  obtain ⟨x, hx⟩ := List.exists_mem_of_ne_nil _ h
  intro e
  have := (mem_nxt l x).2 hx
  rw [e] at this; cases this
/-- A beginning. -/
def Pl.beg (m : Pl) (names : Wd) : Prop := (m.run names).1 = names.length
theorem beg_nil (m : Pl) : m.beg [] := rfl
/-- What is told of a beginning. -/
theorem beg_facts {m : Pl} (h : Live m) (hf : ∀ k ∈ m.first, k < m.atoms.length) (hF : ∀ i j, Fol m.fol i j → j < m.atoms.length) {names : Wd} (hb : m.beg names) :
    ((m.run names).2.2 = true ∨ (m.run names).2.1 ≠ []) ∧
    (∀ x, (m.run (names ++ [x])).1 = names.length + 1 ↔ Dt ∈ nxt (m.names (m.run names).2.1) ∨ (x ∈ nxt (m.names (m.run names).2.1) ∧ x ≠ Dt)) ∧
    (∀ x, (m.run (names ++ [x])).1 = names.length + 1 → m.beg (names ++ [x])) := by
  refine ⟨(goes_live h names 0 m.first m.empty h.first hf hF).1, fun x => ?_, fun x hx => ?_⟩
  · have hb2 : (m.goes names 0 m.first m.empty).1 = names.length := hb
    have := goes_snoc (m := m) x names 0 m.first m.empty (by omega)
    have e := more_iff m (m.run names).2.1 x
    rw [mem_nxt, mem_nxt]
    unfold Pl.names
    rw [← e]
    unfold Pl.run
    rw [this]
    by_cases he : (m.hit (m.goes names 0 m.first m.empty).2.1 x).isEmpty = true
    · rw [if_pos he, he]
      rw [hb2]
      constructor
      · intro h; omega
      · intro h; cases h
    · rw [if_neg he]
      simp only [Bool.not_eq_true] at he
      rw [he]
      simp
  · unfold Pl.beg
    rw [hx]; simp
end Go.Mdl
/- Sorted texts: with, and what Next tells. -/
namespace Go.Mdl
set_option linter.unusedVariables false
set_option linter.unusedSimpArgs false
abbrev Bs := List UInt8
def Srt (l : List Bs) : Prop := l.Pairwise (· < ·)
theorem srt_unique : ∀ (l l' : List Bs), Srt l → Srt l' → (∀ x, x ∈ l ↔ x ∈ l') → l = l'
  | [], [], _, _, _ => rfl
  | [], y :: l', _, _, h => absurd ((h y).2 (by simp)) (by simp)
  | x :: l, [], _, _, h => absurd ((h x).1 (by simp)) (by simp)
  | x :: l, y :: l', h1, h2, h => by
    obtain ⟨a1, a2⟩ := List.pairwise_cons.1 h1
    obtain ⟨b1, b2⟩ := List.pairwise_cons.1 h2
    have hxy : x = y := by
      rcases List.mem_cons.1 ((h x).1 (by simp)) with e | hx
      · exact e
      · rcases List.mem_cons.1 ((h y).2 (by simp)) with e | hy
        · exact e.symm
        · exact absurd (List.lt_trans (b1 x hx) (a1 y hy)) (List.lt_irrefl _)
    subst hxy
    congr 1
    refine srt_unique l l' a2 b2 fun z => ⟨fun hz => ?_, fun hz => ?_⟩
    · rcases List.mem_cons.1 ((h z).1 (by simp [hz])) with e | h'
      · subst e; exact absurd (a1 _ hz) (List.lt_irrefl _)
      · exact h'
    · rcases List.mem_cons.1 ((h z).2 (by simp [hz])) with e | h'
      · subst e; exact absurd (b1 _ hz) (List.lt_irrefl _)
      · exact h'
theorem upTo_srt (d : Array Bs) (h : d.toList.Pairwise (· ≤ ·)) : ∀ m, m ≤ d.size → Srt (Lib.compactUpTo d m) ∧ (∀ x ∈ Lib.compactUpTo d m, ∀ j, j + 1 = m → x ≤ d[j]!)
  | 0, _ => ⟨by simp [Lib.compactUpTo, Srt], fun x hx j hj => by omega⟩
  | m + 1, hm => by
    obtain ⟨h1, h2⟩ := upTo_srt d h m (by omega)
    rw [Lib.compactUpTo_succ]
    have hle : ∀ j, j + 1 = m → d[j]! ≤ d[m]! := fun j hj => by
      rw [getElem!_pos d j (by omega), getElem!_pos d m (by omega)]
      have := List.pairwise_iff_getElem.1 h j m (by simp; omega) (by simp; omega) (by omega)
      simpa using this
    have hall : ∀ x ∈ Lib.compactUpTo d m, x ≤ d[m]! := fun x hx => by
      cases m with
      | zero => simp [Lib.compactUpTo] at hx
      | succ j => exact List.le_trans (h2 x hx j rfl) (hle j rfl)
    refine ⟨?_, ?_⟩
    · split
      · rename_i hk
        refine List.pairwise_append.2 ⟨h1, by simp, fun x hx y hy => ?_⟩
        simp at hy; subst hy
        cases m with
        | zero => simp [Lib.compactUpTo] at hx
        | succ j =>
          unfold Lib.keeps at hk
          simp only [decide_eq_true_eq] at hk
          have hne : d[j + 1]! ≠ d[j]! := by
            rcases hk with hk | hk
            · omega
            · simpa using hk
          have hlt : d[j]! < d[j + 1]! := by
            rcases Decidable.em (d[j]! < d[j + 1]!) with h | h
            · exact h
            · exact absurd (List.le_antisymm (List.not_lt.1 h) (hle j rfl)) hne
          exact List.lt_of_le_of_lt (h2 x hx j rfl) hlt
      · simpa using h1
    · intro x hx j hj
      obtain rfl : j = m := by omega
      rcases List.mem_append.1 hx with hx | hx
      · exact hall x hx
      · split at hx
        · simp at hx; subst hx; exact List.le_refl _
        · cases hx
theorem nxtB_srt (l : Wd) : Srt (nxtB l) := by
  unfold nxtB Lib.compact
  have := List.pairwise_mergeSort (le := fun (x y : Bs) => decide (x ≤ y)) (fun a b c h1 h2 => by simp only [decide_eq_true_eq] at *; exact List.le_trans h1 h2) (fun a b => by simp only [Bool.or_eq_true, decide_eq_true_eq]; exact List.le_total a b) (l.map bs)
  refine (upTo_srt _ ?_ _ (by simp)).1
  simpa using this
theorem nxt_map (l : Wd) : (nxt l).map bs = nxtB l := by
  unfold nxt
  rw [List.map_map]
  have e : (bs ∘ sb) = id := by funext x; simp [sb, bs]
  rw [e, List.map_id]
/-- A sorted list of the same words is what Next tells. -/
theorem nxt_unique {l : Wd} {l' : Wd} (hs : Srt (l'.map bs)) (hm : ∀ x, x ∈ l' ↔ x ∈ l) : l' = nxt l := by
  have h1 : l'.map bs = (nxt l).map bs := by
    rw [nxt_map]
    refine srt_unique _ _ hs (nxtB_srt l) fun x => ?_
    rw [← nxt_map]
    constructor
    · intro h
      obtain ⟨y, hy, rfl⟩ := List.mem_map.1 h
      exact List.mem_map.2 ⟨y, (mem_nxt l y).2 ((hm y).1 hy), rfl⟩
    · intro h
      obtain ⟨y, hy, rfl⟩ := List.mem_map.1 h
      exact List.mem_map.2 ⟨y, (hm y).2 ((mem_nxt l y).1 hy), rfl⟩
  have h2 := congrArg (List.map sb) h1
  rw [List.map_map, List.map_map] at h2
  have e : (sb ∘ bs) = id := by funext x; exact sb_bs x
  rw [e, List.map_id, List.map_id] at h2
  exact h2
end Go.Mdl
/- A row of texts of the call's own, as the sort's contracts speak of it. -/
namespace Go.Mdl
open Go.Sort (Holds putRow grow)
open Go.Proofs (encStr)
open Go.RowKit
set_option linter.unusedVariables false
set_option linter.unusedSimpArgs false
theorem drawn_blocks (w : World) (n : Nat) : (Go.Sort.ahead w n).heap = w.heap := rfl
theorem put_below {w : World} {g off q : Nat} {d d' : Array (List UInt8)} {os : Array Obj} {B : Nat} (hB : B ≤ g) (hg : g < w.heap.size) (hH : Holds encStr w g off d) (hs : d'.size = d.size) :
    Below B w (grow (putRow encStr (Go.Sort.ahead w q) g off d') os) ∧ Holds encStr (grow (putRow encStr (Go.Sort.ahead w q) g off d') os) g off d' := by
  refine ⟨⟨rfl, rfl, rfl, ?_, fun b hb => ?_⟩, ?_⟩
  · simp [grow, Go.Sort.putRow, Go.Sort.mapBlock, Go.Sort.ahead]
  · rw [Go.Sort.heap_grow_old _ _ (by rw [Go.Sort.size_putRow, drawn_blocks]; omega)]
    simp only [putRow, Go.Sort.mapBlock, drawn_blocks, Array.getElem?_modify]
    rw [if_neg (by omega)]
  · exact Go.Sort.holds_grow _ _ _ _ _ _ (by rw [Go.Sort.size_putRow, drawn_blocks]; exact hg) (Go.Sort.holds_putRow _ _ _ _ d _ (Go.Sort.holds_ahead _ _ _ _ _ _ hH) hs)
end Go.Mdl
namespace Go.Proofs.Ytkmoeokfgkmlhaa
open Go.RowKit Go.Vc Go.Mdl
open Go.Sort (Holds putRow grow)
open Go.Proofs (encStr)
open Go.RowKit
set_option linter.unusedVariables false
set_option linter.unusedSimpArgs false
theorem enc_bs (x : ByteArray) : encStr (bs x) = .string x := by cases x; simp [bs]
theorem all_st (xs : List ByteArray) : LSt.all xs = xs.map Value.string := by
  induction xs with
  | nil => rfl
  | cons x xs ih => simp [Lay.all, LSt] at ih ⊢; exact ih
theorem holds_own {w : World} {B : Nat} {e : TypeId} {A : Option Addr} {n c : Nat} {xs : List ByteArray} (h : Own LSt w B e (.slice A n c) xs) (hx : xs ≠ []) :
    ∃ g, A = some ⟨g, 0, none⟩ ∧ n = xs.length ∧ B ≤ g ∧ g < w.heap.size ∧ n ≤ c ∧ c ≤ maxLen ∧ Holds encStr w g 0 (xs.map bs).toArray := by
  have hr := h.rd
  rcases h with ⟨_, rfl⟩ | ⟨_, rfl⟩ | ⟨g, c', cur, hs, hb, hh, hn, hm, hsz, ht⟩
  · exact absurd rfl hx
  · exact absurd rfl hx
  · simp only [Value.slice.injEq] at hs
    obtain ⟨rfl, rfl, rfl⟩ := hs
    refine ⟨g, rfl, rfl, hb, (Array.getElem?_eq_some_iff.1 hh).1, hn, hm, fun j hj => ⟨?_, Blk.frozen hh _⟩⟩
    have hj' : j < xs.length := by simpa using hj
    have hpos : 0 < xs.length := by omega
    obtain ⟨b, o, he, hc⟩ := hr.2.2.2.2 hpos
    cases he
    have := hc j (.string xs[j]) (by rw [all_st]; simp [hj'])
    rw [this, getElem!_pos _ j hj]
    simp only [List.getElem_toArray, List.getElem_map, enc_bs]
theorem rd_holds {w : World} {g c : Nat} {d : Array (List UInt8)} {l : List (List UInt8)} (h : Holds encStr w g 0 d) (hl : l <+: d.toList) (hc : l.length ≤ c) (hm : c ≤ maxLen) : Rd LSt w (some ⟨g, 0, none⟩) c (l.map sb) := by
  refine ⟨by simpa using hc, hm, (fun h => by cases h), fun _ => ⟨g, 0, rfl, fun j u hj => ?_⟩⟩
  rw [all_st] at hj
  have hlt := (List.getElem?_eq_some_iff.1 hj).1
  simp only [List.length_map] at hlt
  obtain ⟨t, ht⟩ := hl
  have hd : j < d.size := by rw [← Array.length_toList, ← ht]; simp; omega
  have := (h j hd).1
  rw [this]
  simp only [List.getElem?_map, List.getElem?_eq_getElem hlt, Option.map_some] at hj
  rw [← hj, getElem!_pos d j hd]
  have : d[j] = l[j] := by
    rw [← Array.getElem_toList]
    simp only [← ht]
    rw [List.getElem_append_left hlt]
  rw [this]; rfl
end Go.Proofs.Ytkmoeokfgkmlhaa
set_option linter.unusedVariables false
namespace Go.Proofs
open Go.Shelf
def Try.lays190_ren : Go.Shelf.Ren := ⟨fun | 190 => 30 | 125 => 49 | 258 => 48 | 128 => 69 | 129 => 70 | 302 => 60 | 303 => 61 | 304 => 62 | 305 => 63 | 306 => 64 | 307 => 65 | 308 => 66 | 309 => 67 | 310 => 68 | 333 => 78 | 329 => 79 | 330 => 80 | 334 => 81 | 335 => 82 | 336 => 83 | 344 => 91 | n => n, fun | 31 => 33 | 9 => 9 | 3 => 3 | 46 => 94 | 0 => 0 | 51 => 118 | 53 => 120 | 4 => 4 | 183 => 111 | 182 => 110 | 131 => 115 | 5 => 5 | 218 => 124 | 222 => 128 | 228 => 134 | 229 => 135 | n => n, fun | n => n⟩
theorem Try.lays190 : Go.Proofs.Lays.n190 Try.prog Try.lays190_ren := {
  mixed := by kernel_rfl
  f125 := Try.func49.trans (congrArg some (by kernel_rfl))
  f128 := Try.func69.trans (congrArg some (by kernel_rfl))
  f129 := Try.func70.trans (congrArg some (by kernel_rfl))
  f190 := Try.func30.trans (congrArg some (by kernel_rfl))
  f258 := Try.func48.trans (congrArg some (by kernel_rfl))
  f302 := Try.func60.trans (congrArg some (by kernel_rfl))
  f303 := Try.func61.trans (congrArg some (by kernel_rfl))
  f304 := Try.func62.trans (congrArg some (by kernel_rfl))
  f305 := Try.func63.trans (congrArg some (by kernel_rfl))
  f306 := Try.func64.trans (congrArg some (by kernel_rfl))
  f307 := Try.func65.trans (congrArg some (by kernel_rfl))
  f308 := Try.func66.trans (congrArg some (by kernel_rfl))
  f309 := Try.func67.trans (congrArg some (by kernel_rfl))
  f310 := Try.func68.trans (congrArg some (by kernel_rfl))
  f329 := Try.func79.trans (congrArg some (by kernel_rfl))
  f330 := Try.func80.trans (congrArg some (by kernel_rfl))
  f333 := Try.func78.trans (congrArg some (by kernel_rfl))
  f334 := Try.func81.trans (congrArg some (by kernel_rfl))
  f335 := Try.func82.trans (congrArg some (by kernel_rfl))
  f336 := Try.func83.trans (congrArg some (by kernel_rfl))
  f344 := Try.func91.trans (congrArg some (by kernel_rfl))
  t0 := Try.underlying0
  a0 := Try.isAgg0
  z0 := Try.sizeOf0
  v0 := Try.zeroValue0
  t3 := Try.underlying3
  a3 := Try.isAgg3
  z3 := Try.sizeOf3
  v3 := Try.zeroValue3
  t4 := Try.underlying4
  a4 := Try.isAgg4
  z4 := Try.sizeOf4
  v4 := Try.zeroValue4
  t5 := Try.underlying5
  a5 := Try.isAgg5
  z5 := Try.sizeOf5
  v5 := Try.zeroValue5
  t9 := Try.underlying9
  a9 := Try.isAgg9
  z9 := Try.sizeOf9
  v9 := Try.zeroValue9
  t31 := Try.underlying33
  a31 := Try.isAgg33
  z31 := Try.sizeOf33
  v31 := Try.zeroValue33
  t46 := Try.underlying94
  a46 := Try.isAgg94
  z46 := Try.sizeOf94
  v46 := Try.zeroValue94
  t51 := Try.underlying118
  a51 := Try.isAgg118
  z51 := Try.sizeOf118
  v51 := Try.zeroValue118
  t53 := Try.underlying120
  a53 := Try.isAgg120
  z53 := Try.sizeOf120
  v53 := Try.zeroValue120
  t131 := Try.underlying115
  a131 := Try.isAgg115
  z131 := Try.sizeOf115
  v131 := Try.zeroValue115
  t182 := Try.underlying110
  a182 := Try.isAgg110
  z182 := Try.sizeOf110
  v182 := Try.zeroValue110
  t183 := Try.underlying111
  a183 := Try.isAgg111
  z183 := Try.sizeOf111
  v183 := Try.zeroValue111
  t218 := Try.underlying124
  a218 := Try.isAgg124
  z218 := Try.sizeOf124
  v218 := Try.zeroValue124
  t222 := Try.underlying128
  a222 := Try.isAgg128
  z222 := Try.sizeOf128
  v222 := Try.zeroValue128
  t228 := Try.underlying134
  a228 := Try.isAgg134
  z228 := Try.sizeOf134
  v228 := Try.zeroValue134
  t229 := Try.underlying135
  a229 := Try.isAgg135
  z229 := Try.sizeOf135
  v229 := Try.zeroValue135 }

def Try.lays194_ren : Go.Shelf.Ren := ⟨fun | 194 => 31 | n => n, fun | 31 => 33 | 9 => 9 | 3 => 3 | 4 => 4 | 0 => 0 | n => n, fun | n => n⟩
theorem Try.lays194 : Go.Proofs.Lays.n194 Try.prog Try.lays194_ren := {
  mixed := by kernel_rfl
  f194 := Try.func31.trans (congrArg some (by kernel_rfl))
  t0 := Try.underlying0
  a0 := Try.isAgg0
  z0 := Try.sizeOf0
  v0 := Try.zeroValue0
  t3 := Try.underlying3
  a3 := Try.isAgg3
  z3 := Try.sizeOf3
  v3 := Try.zeroValue3
  t4 := Try.underlying4
  a4 := Try.isAgg4
  z4 := Try.sizeOf4
  v4 := Try.zeroValue4
  t9 := Try.underlying9
  a9 := Try.isAgg9
  z9 := Try.sizeOf9
  v9 := Try.zeroValue9
  t31 := Try.underlying33
  a31 := Try.isAgg33
  z31 := Try.sizeOf33
  v31 := Try.zeroValue33 }

end Go.Proofs
set_option linter.unusedVariables false
set_option maxRecDepth 100000
namespace Go.Proofs.Ytkmoeokfgkmlhaa
open Go.Vc
-- (*model.Model).Next
def F13_j13 (L8 : Option Addr → Nat → Nat → Int → World → Prop) (x27 : Int) (out2 : Option Addr) (outN2 : Nat) (outC2 : Nat) (w_3 : World) (R : Ending → World → Prop) : Prop :=
 InR .i64 (x27 + (1 : Int)) ∧ L8 out2 outN2 outC2 (x27 + (1 : Int)) w_3

def F13_l8 (m_ : Option Addr) (x17_1 : Option Addr) (x17_1N : Nat) (x17_2 : Bool) (L8 : Option Addr → Nat → Nat → Int → World → Prop) (out : Option Addr) (outN : Nat) (outC : Nat) (x27 : Int) (w_2 : World) (R : Ending → World → Prop) : Prop :=
 Br (decide (x27 < ((x17_1N : Nat) : Int)))
 (∃ J13 : Option Addr → Nat → Nat → World → Prop, (∀ (out2 : Option Addr) (outN2 : Nat) (outC2 : Nat) (w1_2 : World), J13 out2 outN2 outC2 w1_2 → F13_j13 L8 x27 out2 outN2 outC2 w1_2 R) ∧
 (IdxA x17_1 x17_1N x27 1 fun q29 =>
 LdI .i64 (w_2.cell? q29) fun x30 =>
 NonNil m_ fun p32 =>
 LdSl (w_2.cell? (p32.add 1)) fun x34 x34N x34C =>
 IdxA x34 x34N x30 1 fun q36 =>
 LdStr (w_2.cell? q36) fun x37 =>
 Br (x37.toList == (ByteArray.mk #[36]).toList)
 (Al w_2 #[(.string (ByteArray.mk #[]))] 9 fun g40 w1_2 =>
 Raw Try.prog (Builtin.append_ #[33, 33] 33 #[(.slice out outN outC), (.slice (some g40) 1 1)]) w1_2 fun v2 w1_3 =>
 ∃ (x41 : Option Addr) (x41N : Nat) (x41C : Nat), v2 = (.slice x41 x41N x41C) ∧
 J13 x41 x41N x41C w1_3)
 (NonNil m_ fun p44 =>
 LdSl (w_2.cell? (p44.add 1)) fun x46 x46N x46C =>
 IdxA x46 x46N x30 1 fun q48 =>
 LdStr (w_2.cell? q48) fun x49 =>
 Al w_2 #[(.string x49)] 9 fun g50 w1_2 =>
 Raw Try.prog (Builtin.append_ #[33, 33] 33 #[(.slice out outN outC), (.slice (some g50) 1 1)]) w1_2 fun v2 w1_3 =>
 ∃ (x51 : Option Addr) (x51N : Nat) (x51C : Nat), v2 = (.slice x51 x51N x51C) ∧
 J13 x51 x51N x51C w1_3)))
 (Calls Try.prog 30 #[(.slice out outN outC)] w_2 (post R fun v2 w1_2 =>
 v2 = (.tuple #[]) ∧
 Calls Try.prog 31 #[(.slice out outN outC)] w1_2 (post R fun v3 w1_3 =>
 ∃ (x56 : Option Addr) (x56N : Nat) (x56C : Nat), v3 = (.slice x56 x56N x56C) ∧
 R (.returned (.tuple #[(.slice x56 x56N x56C), (.bool x17_2)])) w1_3)))

def F13 (m_ : Option Addr) (names : Option Addr) (namesN : Nat) (namesC : Nat) (w_ : World) (R : Ending → World → Prop) : Prop :=
 Br (m_).isNone
 (R (.returned (.tuple #[(.slice none 0 0), (.bool false)])) w_)
 (Calls Try.prog 28 #[(.pointer m_), (.slice names namesN namesC)] w_ (post R fun v w1 =>
 ∃ (x17_0 : Int) (x17_1 : Option Addr) (x17_1N : Nat) (x17_1C : Nat) (x17_2 : Bool), v = (.tuple #[(.int .i64 x17_0), (.slice x17_1 x17_1N x17_1C), (.bool x17_2)]) ∧
 Br (decide (x17_0 < ((namesN : Nat) : Int)))
 (R (.returned (.tuple #[(.slice none 0 0), (.bool false)])) w1)
 (∃ (I : Option Addr → Nat → Nat → Int → World → Prop) (m : Option Addr → Nat → Nat → Int → World → Nat), I none 0 0 (0 : Int) w1 ∧
 ∀ (out : Option Addr) (outN : Nat) (outC : Nat) (x27 : Int) (w1_2 : World), I out outN outC x27 w1_2 → F13_l8 m_ x17_1 x17_1N x17_2 (fun out' outN' outC' x27' w2 => I out' outN' outC' x27' w2 ∧ m out' outN' outC' x27' w2 < m out outN outC x27 w1_2) out outN outC x27 w1_2 R)))

def pl13 : Plan := ⟨58, ⟨[]⟩, [(13, ⟨[(9, (.s .slice))], [(9, 12), (29, 52)]⟩)], [(8, ⟨[(9, (.s .slice)), (27, (.s (.int .i64)))], [(9, 12), (27, 53)]⟩)]⟩

theorem eq13 (m_ : Option Addr) (names : Option Addr) (namesN : Nat) (namesC : Nat) (w : World) (R : Ending → World → Prop) : F13 m_ names namesN namesC w R = vc Try.prog Try.f13 pl13 R 100000 [.code (bodyOf Try.f13)] (argEnv 0 #[(.pointer m_), (.slice names namesN namesC)].toList) w := by kernel_rfl

theorem ok13 (m_ : Option Addr) (names : Option Addr) (namesN : Nat) (namesC : Nat) {w : World} {R : Ending → World → Prop} (h : F13 m_ names namesN namesC w R) : Calls Try.prog 13 #[(.pointer m_), (.slice names namesN namesC)] w R :=
  vc_calls (pl := pl13) Try.func13 (by kernel_rfl) (by kernel_rfl) (by kernel_rfl) (Eq.mp (eq13 m_ names namesN namesC w R) h)

-- slices.Compact[[]string,string]
def F31_j10 (L9 : Int → Int → World → Prop) (k2_2 : Int) (k3 : Int) (w_4 : World) (R : Ending → World → Prop) : Prop :=
 InR .i64 (k2_2 + (1 : Int)) ∧ L9 k3 (k2_2 + (1 : Int)) w_4

def F31_l9 (s : Option Addr) (sN : Nat) (sC : Nat) (k : Int) (L9 : Int → Int → World → Prop) (k2 : Int) (k2_2 : Int) (w_3 : World) (R : Ending → World → Prop) : Prop :=
 Br (decide (k2_2 < ((((((sN : Nat) : Int)).toNat - (k).toNat) : Nat) : Int)))
 (∃ J10 : Int → World → Prop, (∀ (k3 : Int) (w1_2 : World), J10 k3 w1_2 → F31_j10 L9 k2_2 k3 w1_2 R) ∧
 (Dr w_3 fun w1_2 =>
 IdxA (SlA s sC (k).toNat 1) ((((sN : Nat) : Int)).toNat - (k).toNat) k2_2 1 fun q37 =>
 LdStr (w1_2.cell? q37) fun x38 =>
 InR .i64 (k2_2 - (1 : Int)) ∧ IdxA (SlA s sC (k).toNat 1) ((((sN : Nat) : Int)).toNat - (k).toNat) (k2_2 - (1 : Int)) 1 fun q42 =>
 LdStr (w1_2.cell? q42) fun x43 =>
 Br (!(x38.toList == x43.toList))
 (IdxA (SlA s sC (k).toNat 1) ((((sN : Nat) : Int)).toNat - (k).toNat) k2_2 1 fun q49 =>
 LdStr (w1_2.cell? q49) fun x50 =>
 IdxA s sN k2 1 fun q51 =>
 St w1_2 q51 (.string x50) fun w1_3 =>
 InR .i64 (k2 + (1 : Int)) ∧ J10 (k2 + (1 : Int)) w1_3)
 (J10 k2 w1_2)))
 (SlB k2 ((sN : Nat) : Int) ((sC : Nat) : Int)
 (Raw Try.prog (Builtin.clear_ #[33] 0 #[(.slice (SlA s sC (k2).toNat 1) ((((sN : Nat) : Int)).toNat - (k2).toNat) (sC - (k2).toNat))]) w_3 fun v w1_2 =>
 SlB 0 k2 ((sC : Nat) : Int)
 (R (.returned (.slice s (k2).toNat sC)) w1_2)))

def F31_l4 (s : Option Addr) (sN : Nat) (sC : Nat) (L4 : Int → World → Prop) (k : Int) (w_2 : World) (R : Ending → World → Prop) : Prop :=
 Br (decide (k < ((sN : Nat) : Int)))
 (Dr w_2 fun w1 =>
 IdxA s sN k 1 fun q18 =>
 LdStr (w1.cell? q18) fun x19 =>
 InR .i64 (k - (1 : Int)) ∧ IdxA s sN (k - (1 : Int)) 1 fun q23 =>
 LdStr (w1.cell? q23) fun x24 =>
 Br (x19.toList == x24.toList)
 (SlB k ((sN : Nat) : Int) ((sC : Nat) : Int)
 (∃ (I : Int → Int → World → Prop) (m : Int → Int → World → Nat), I k (1 : Int) w1 ∧
 ∀ (k2 : Int) (k2_2 : Int) (w1_2 : World), I k2 k2_2 w1_2 → F31_l9 s sN sC k (fun k2' k2_2' w2 => I k2' k2_2' w2 ∧ m k2' k2_2' w2 < m k2 k2_2 w1_2) k2 k2_2 w1_2 R))
 (InR .i64 (k + (1 : Int)) ∧ L4 (k + (1 : Int)) w1))
 (R (.returned (.slice s sN sC)) w_2)

def F31 (s : Option Addr) (sN : Nat) (sC : Nat) (w_ : World) (R : Ending → World → Prop) : Prop :=
 Br (decide (((sN : Nat) : Int) < (2 : Int)))
 (R (.returned (.slice s sN sC)) w_)
 (∃ (I : Int → World → Prop) (m : Int → World → Nat), I (1 : Int) w_ ∧
 ∀ (k : Int) (w1 : World), I k w1 → F31_l4 s sN sC (fun k' w2 => I k' w2 ∧ m k' w2 < m k w1) k w1 R)

def pl31 : Plan := ⟨61, ⟨[]⟩, [(10, ⟨[(3, (.s (.int .i64)))], [(3, 4), (35, 54)]⟩)], [(9, ⟨[(3, (.s (.int .i64))), (5, (.s (.int .i64)))], [(3, 4), (5, 54)]⟩), (4, ⟨[(3, (.s (.int .i64)))], [(2, 60)]⟩)]⟩

theorem eq31 (s : Option Addr) (sN : Nat) (sC : Nat) (w : World) (R : Ending → World → Prop) : F31 s sN sC w R = vc Try.prog Try.f31 pl31 R 100000 [.code (bodyOf Try.f31)] (argEnv 0 #[(.slice s sN sC)].toList) w := by kernel_rfl

theorem ok31 (s : Option Addr) (sN : Nat) (sC : Nat) {w : World} {R : Ending → World → Prop} (h : F31 s sN sC w R) : Calls Try.prog 31 #[(.slice s sN sC)] w R :=
  vc_calls (pl := pl31) Try.func31 (by kernel_rfl) (by kernel_rfl) (by kernel_rfl) (Eq.mp (eq31 s sN sC w R) h)

-- espalierlaw23.ModelBegins
def F4_j26 (x24_0 : Option Addr) (names : Option Addr) (namesN : Nat) (namesC : Nat) (w_2 : World) (R : Ending → World → Prop) : Prop :=
 Calls Try.prog 11 #[(.pointer x24_0), (.slice names namesN namesC)] w_2 (post R fun v2 w1_3 =>
 ∃ (x148_0 : Bool) (x148_1 : Int), v2 = (.tuple #[(.bool x148_0), (.int .i64 x148_1)]) ∧
 Br (x148_1 == ((namesN : Nat) : Int))
 (Calls Try.prog 7 #[] w1_3 (post R fun v3 w1_4 =>
 ∃ (x156 : Bool), v3 = (.bool x156) ∧
 R (.returned (.bool x156)) w1_4))
 (R (.returned (.bool false)) w1_3))

def F4_j15 (L14 : Bool → Bool → Int → World → Prop) (k : Int) (any2 : Bool) (is2 : Bool) (w_5 : World) (R : Ending → World → Prop) : Prop :=
 InR .i64 (k + (1 : Int)) ∧ L14 any2 is2 (k + (1 : Int)) w_5

def F4_j17 (other : ByteArray) (x47_0 : Option Addr) (x47_0N : Nat) (is : Bool) (k : Int) (J15 : Bool → Bool → World → Prop) (any2 : Bool) (w_5 : World) (R : Ending → World → Prop) : Prop :=
 Br is
 (J15 any2 true w_5)
 (IdxA x47_0 x47_0N k 1 fun q94 =>
 LdStr (w_5.cell? q94) fun x95 =>
 J15 any2 (x95.toList == other.toList) w_5)

def F4_j25 (L6 : Option Addr → Nat → Nat → Int → World → Prop) (names : Option Addr) (namesN : Nat) (namesC : Nat) (i : Int) (x : ByteArray) (w_6 : World) (R : Ending → World → Prop) : Prop :=
 Al w_6 #[(.string x)] 9 fun g143 w1_14 =>
 Raw Try.prog (Builtin.append_ #[33, 33] 33 #[(.slice names namesN namesC), (.slice (some g143) 1 1)]) w1_14 fun v9 w1_15 =>
 ∃ (x144 : Option Addr) (x144N : Nat) (x144C : Nat), v9 = (.slice x144 x144N x144C) ∧
 InR .i64 (i + (1 : Int)) ∧ L6 x144 x144N x144C (i + (1 : Int)) w1_15

def F4_j21 (turns : Option Addr) (turnsN : Nat) (other : ByteArray) (J26 : Option Addr → Nat → Nat → World → Prop) (L6 : Option Addr → Nat → Nat → Int → World → Prop) (names : Option Addr) (namesN : Nat) (namesC : Nat) (i : Int) (x47_0 : Option Addr) (x47_0N : Nat) (w_5 : World) (R : Ending → World → Prop) : Prop :=
 Br (((x47_0N : Nat) : Int) == (0 : Int))
 (J26 names namesN namesC w_5)
 (IdxA turns turnsN i 1 fun q130 =>
 LdI .u8 (w_5.cell? q130) fun x131 =>
 InR .i64 (x131) ∧ ((x47_0N : Nat) : Int) ≠ 0 ∧ IdxA x47_0 x47_0N ((x131).tmod ((x47_0N : Nat) : Int)) 1 fun q136 =>
 LdStr (w_5.cell? q136) fun x137 =>
 ∃ J25 : ByteArray → World → Prop, (∀ (x : ByteArray) (w1_14 : World), J25 x w1_14 → F4_j25 L6 names namesN namesC i x w1_14 R) ∧
 (Br (x137.toList == (ByteArray.mk #[46]).toList)
 (J25 other w_5)
 (J25 x137 w_5)))

def F4_l14 (turns : Option Addr) (turnsN : Nat) (other : ByteArray) (x24_0 : Option Addr) (J26 : Option Addr → Nat → Nat → World → Prop) (L6 : Option Addr → Nat → Nat → Int → World → Prop) (names : Option Addr) (namesN : Nat) (namesC : Nat) (i : Int) (x47_0 : Option Addr) (x47_0N : Nat) (L14 : Bool → Bool → Int → World → Prop) (any : Bool) (is : Bool) (k : Int) (w_4 : World) (R : Ending → World → Prop) : Prop :=
 Br (decide (k < ((x47_0N : Nat) : Int)))
 (∃ J15 : Bool → Bool → World → Prop, (∀ (any2 : Bool) (is2 : Bool) (w1_9 : World), J15 any2 is2 w1_9 → F4_j15 L14 k any2 is2 w1_9 R) ∧
 (∃ J17 : Bool → World → Prop, (∀ (any2 : Bool) (w1_9 : World), J17 any2 w1_9 → F4_j17 other x47_0 x47_0N is k J15 any2 w1_9 R) ∧
 (Br any
 (J17 true w_4)
 (IdxA x47_0 x47_0N k 1 fun q86 =>
 LdStr (w_4.cell? q86) fun x87 =>
 J17 (x87.toList == (ByteArray.mk #[46]).toList) w_4))))
 (Al w_4 #[] 9 fun g101 w1_9 =>
 Raw Try.prog (Builtin.append_ #[33, 33] 33 #[(.slice (some g101) 0 0), (.slice names namesN namesC)]) w1_9 fun v6 w1_10 =>
 ∃ (x103 : Option Addr) (x103N : Nat) (x103C : Nat), v6 = (.slice x103 x103N x103C) ∧
 Al w1_10 #[(.string other)] 9 fun g105 w1_11 =>
 Raw Try.prog (Builtin.append_ #[33, 33] 33 #[(.slice x103 x103N x103C), (.slice (some g105) 1 1)]) w1_11 fun v7 w1_12 =>
 ∃ (x106 : Option Addr) (x106N : Nat) (x106C : Nat), v7 = (.slice x106 x106N x106C) ∧
 Calls Try.prog 11 #[(.pointer x24_0), (.slice x106 x106N x106C)] w1_12 (post R fun v8 w1_13 =>
 ∃ (x107_0 : Bool) (x107_1 : Int), v8 = (.tuple #[(.bool x107_0), (.int .i64 x107_1)]) ∧
 ∃ J21 : World → Prop, (∀  (w1_14 : World), J21 w1_14 → F4_j21 turns turnsN other J26 L6 names namesN namesC i x47_0 x47_0N w1_14 R) ∧
 (InR .i64 (((namesN : Nat) : Int) + (1 : Int)) ∧ Br any
 (Br (!((x107_1 == (((namesN : Nat) : Int) + (1 : Int))) == true))
 (R (.returned (.bool false)) w1_13)
 (J21 w1_13))
 (Br is
 (Br (!((x107_1 == (((namesN : Nat) : Int) + (1 : Int))) == (!(other.toList == (ByteArray.mk #[46]).toList))))
 (R (.returned (.bool false)) w1_13)
 (J21 w1_13))
 (Br (!((x107_1 == (((namesN : Nat) : Int) + (1 : Int))) == false))
 (R (.returned (.bool false)) w1_13)
 (J21 w1_13))))))

def F4_j12 (turns : Option Addr) (turnsN : Nat) (other : ByteArray) (x24_0 : Option Addr) (J26 : Option Addr → Nat → Nat → World → Prop) (L6 : Option Addr → Nat → Nat → Int → World → Prop) (names : Option Addr) (namesN : Nat) (namesC : Nat) (i : Int) (x47_0 : Option Addr) (x47_0N : Nat) (w_3 : World) (R : Ending → World → Prop) : Prop :=
 ∃ (I : Bool → Bool → Int → World → Prop) (m : Bool → Bool → Int → World → Nat), I false false (0 : Int) w_3 ∧
 ∀ (any : Bool) (is : Bool) (k : Int) (w1_9 : World), I any is k w1_9 → F4_l14 turns turnsN other x24_0 J26 L6 names namesN namesC i x47_0 x47_0N (fun any' is' k' w2 => I any' is' k' w2 ∧ m any' is' k' w2 < m any is k w1_9) any is k w1_9 R

def F4_l6 (turns : Option Addr) (turnsN : Nat) (other : ByteArray) (x24_0 : Option Addr) (J26 : Option Addr → Nat → Nat → World → Prop) (L6 : Option Addr → Nat → Nat → Int → World → Prop) (names : Option Addr) (namesN : Nat) (namesC : Nat) (i : Int) (w_2 : World) (R : Ending → World → Prop) : Prop :=
 Br (decide (i < ((turnsN : Nat) : Int)))
 (Al w_2 #[] 9 fun g44 w1_3 =>
 Raw Try.prog (Builtin.append_ #[33, 33] 33 #[(.slice (some g44) 0 0), (.slice names namesN namesC)]) w1_3 fun v2 w1_4 =>
 ∃ (x46 : Option Addr) (x46N : Nat) (x46C : Nat), v2 = (.slice x46 x46N x46C) ∧
 Calls Try.prog 13 #[(.pointer x24_0), (.slice x46 x46N x46C)] w1_4 (post R fun v3 w1_5 =>
 ∃ (x47_0 : Option Addr) (x47_0N : Nat) (x47_0C : Nat) (x47_1 : Bool), v3 = (.tuple #[(.slice x47_0 x47_0N x47_0C), (.bool x47_1)]) ∧
 Al w1_5 #[] 9 fun g52 w1_6 =>
 Raw Try.prog (Builtin.append_ #[33, 33] 33 #[(.slice (some g52) 0 0), (.slice names namesN namesC)]) w1_6 fun v4 w1_7 =>
 ∃ (x54 : Option Addr) (x54N : Nat) (x54C : Nat), v4 = (.slice x54 x54N x54C) ∧
 Calls Try.prog 11 #[(.pointer x24_0), (.slice x54 x54N x54C)] w1_7 (post R fun v5 w1_8 =>
 ∃ (x55_0 : Bool) (x55_1 : Int), v5 = (.tuple #[(.bool x55_0), (.int .i64 x55_1)]) ∧
 ∃ J12 : World → Prop, (∀  (w1_9 : World), J12 w1_9 → F4_j12 turns turnsN other x24_0 J26 L6 names namesN namesC i x47_0 x47_0N w1_9 R) ∧
 (Br (!(x55_0 == x47_1))
 (R (.returned (.bool false)) w1_8)
 (Br (x55_1 != ((namesN : Nat) : Int))
 (R (.returned (.bool false)) w1_8)
 (Br (!x55_0)
 (Br (((x47_0N : Nat) : Int) == (0 : Int))
 (R (.returned (.bool false)) w1_8)
 (J12 w1_8))
 (J12 w1_8)))))))
 (J26 names namesN namesC w_2)

def F4 (s : ByteArray) (turns : Option Addr) (turnsN : Nat) (turnsC : Nat) (other : ByteArray) (w_ : World) (R : Ending → World → Prop) : Prop :=
 Calls Try.prog 5 #[(.string s)] w_ (post R fun v w1 =>
 ∃ (x24_0 : Option Addr) (x24_1 : Int) (x24_2 : Int), v = (.tuple #[(.pointer x24_0), (.int .i64 x24_1), (.int .i64 x24_2)]) ∧
 Br (x24_0).isNone
 (Br (x24_2 != (0 : Int))
 (Calls Try.prog 7 #[] w1 (post R fun v2 w1_2 =>
 ∃ (x33 : Bool), v2 = (.bool x33) ∧
 R (.returned (.bool x33)) w1_2))
 (R (.returned (.bool false)) w1))
 (Al w1 #[] 9 fun g35 w1_2 =>
 ∃ J26 : Option Addr → Nat → Nat → World → Prop, (∀ (names : Option Addr) (namesN : Nat) (namesC : Nat) (w1_3 : World), J26 names namesN namesC w1_3 → F4_j26 x24_0 names namesN namesC w1_3 R) ∧
 (∃ (I : Option Addr → Nat → Nat → Int → World → Prop) (m : Option Addr → Nat → Nat → Int → World → Nat), I (some g35) 0 0 (0 : Int) w1_2 ∧
 ∀ (names : Option Addr) (namesN : Nat) (namesC : Nat) (i : Int) (w1_3 : World), I names namesN namesC i w1_3 → F4_l6 turns turnsN other x24_0 J26 (fun names' namesN' namesC' i' w2 => I names' namesN' namesC' i' w2 ∧ m names' namesN' namesC' i' w2 < m names namesN namesC i w1_3) names namesN namesC i w1_3 R)))

def pl4 : Plan := ⟨158, ⟨[]⟩, [(17, ⟨[(16, (.s .bool))], [(16, 17), (82, 90)]⟩), (15, ⟨[(16, (.s .bool)), (17, (.s .bool))], [(16, 18), (82, 99)]⟩), (25, ⟨[(19, (.s .str))], [(19, 141)]⟩), (21, ⟨[], [(6, 7), (110, 124)]⟩), (12, ⟨[], [(6, 7), (58, 76)]⟩), (26, ⟨[(10, (.s .slice))], [(6, 7), (10, 145)]⟩)], [(14, ⟨[(16, (.s .bool)), (17, (.s .bool)), (18, (.s (.int .i64)))], [(16, 99)]⟩), (6, ⟨[(10, (.s .slice)), (11, (.s (.int .i64)))], [(6, 7), (10, 145)]⟩)]⟩

theorem eq4 (s : ByteArray) (turns : Option Addr) (turnsN : Nat) (turnsC : Nat) (other : ByteArray) (w : World) (R : Ending → World → Prop) : F4 s turns turnsN turnsC other w R = vc Try.prog Try.f4 pl4 R 100000 [.code (bodyOf Try.f4)] (argEnv 0 #[(.string s), (.slice turns turnsN turnsC), (.string other)].toList) w := by kernel_rfl

theorem ok4 (s : ByteArray) (turns : Option Addr) (turnsN : Nat) (turnsC : Nat) (other : ByteArray) {w : World} {R : Ending → World → Prop} (h : F4 s turns turnsN turnsC other w R) : Calls Try.prog 4 #[(.string s), (.slice turns turnsN turnsC), (.string other)] w R :=
  vc_calls (pl := pl4) Try.func4 (by kernel_rfl) (by kernel_rfl) (by kernel_rfl) (Eq.mp (eq4 s turns turnsN turnsC other w R) h)

end Go.Proofs.Ytkmoeokfgkmlhaa
/- Models: Next. -/
namespace Go.Proofs.Ytkmoeokfgkmlhaa
open Go.RowKit Go.Vc Go.Mdl
open Go.Sort (Holds putRow grow)
open Go.Proofs (encStr)
set_option linter.unusedVariables false
set_option linter.unusedSimpArgs false
set_option maxRecDepth 100000
theorem goes_few {m : Pl} (h : PlOk m) : ∀ (xs : Wd) (i : Nat) (may : List Nat) (is : Bool), Few m.atoms.length may → Few m.atoms.length (m.goes xs i may is).2.1
  | [], i, may, is, hm => hm
  | x :: xs, i, may, is, hm => by
    unfold Pl.goes
    split
    · exact hm
    · exact goes_few h xs _ _ _ (next_few h _ _ (Few.nil _))
theorem run_few {m : Pl} (h : PlOk m) (names : Wd) : Few m.atoms.length (m.run names).2.1 := goes_few h names 0 m.first m.empty h.first
theorem sortc_calls {w : World} {R : Ending → World → Prop} {B : Nat} {e : TypeId} {A : Option Addr} {n c : Nat} {xs : List ByteArray} {K : Option Addr → Nat → Nat → World → Prop} (h : Own LSt w B e (.slice A n c) xs) (hl : xs.length ≤ 1099511627776)
    (hK : ∀ A' c' w', Below B w w' → Rd LSt w' A' c' (nxt xs) → K A' (nxt xs).length c' w') :
    Calls Try.prog 30 #[.slice A n c] w (post R fun v w1 => v = .tuple #[] ∧
      Calls Try.prog 31 #[.slice A n c] w1 (post R fun v3 w2 => ∃ (x : Option Addr) (xN xC : Nat), v3 = .slice x xN xC ∧ K x xN xC w2)) := by
  by_cases hx : xs = []
  · subst hx
    obtain ⟨hn, hr⟩ := h.rd
    subst hn
    refine (Any.slices_Sort_string_none Try.lays190 A c w).mono fun e w1 ⟨he, hw⟩ => ?_
    subst he hw
    refine ⟨rfl, (calls_of_every_depth fun D => AnyS.slices_Compact_string_empty_in Try.lays194 D A c w1).mono fun e w2 ⟨he, hw⟩ => ?_⟩
    subst he hw
    have hn0 : nxt ([] : Wd) = [] := List.eq_nil_of_length_eq_zero (by have := nxt_len ([] : Wd); simpa using this)
    rw [hn0] at hK
    exact ⟨_, _, _, rfl, hK _ _ _ (Below.refl _ _) hr⟩
  · obtain ⟨g, rfl, rfl, hB, hg, hc, hm, hH⟩ := holds_own h hx
    have hH' : Holds encStr w g 0 (xs.map bs).toArray := hH
    have e1 : xs.length = (xs.map bs).length := by simp
    rw [e1]
    refine (Any.slices_Sort_string Try.lays190 g 0 c (xs.map bs) w hH' hg (by simp; omega)).mono fun e w1 ⟨he, q, os, hw⟩ => ?_
    subst he
    have hsz : ((xs.map bs).mergeSort fun x y => decide (x ≤ y)).toArray.size = (xs.map bs).toArray.size := by simp
    obtain ⟨hb1, hH1⟩ := put_below (q := q) (os := os) hB hg hH' hsz
    rw [← hw] at hb1 hH1
    refine ⟨rfl, ?_⟩
    have e2 : (xs.map bs).length = ((xs.map bs).mergeSort fun x y => decide (x ≤ y)).length := by simp
    rw [e2]
    refine (calls_of_every_depth fun D => AnyS.slices_Compact_string_in Try.lays194 D g 0 c _ w1 hH1 (by simp; omega) (by simpa using hc)).mono fun e w2 ⟨he, q2, hw2⟩ => ?_
    subst he
    have hcl := compact_len ((xs.map bs).mergeSort fun x y => decide (x ≤ y))
    obtain ⟨hb2, hH2⟩ := put_below (q := q2) (os := #[]) hB (Nat.lt_of_lt_of_le hg hb1.size) hH1 (d' := (Lib.compact ((xs.map bs).mergeSort fun x y => decide (x ≤ y)) ++ List.replicate (((xs.map bs).mergeSort fun x y => decide (x ≤ y)).length - (Lib.compact ((xs.map bs).mergeSort fun x y => decide (x ≤ y))).length) []).toArray) (by
      simp only [List.size_toArray, List.length_append, List.length_replicate]; omega)
    rw [Go.Sort.grow_empty, ← hw2] at hb2 hH2
    have e3 : (nxt xs).length = (Lib.compact ((xs.map bs).mergeSort fun x y => decide (x ≤ y))).length := by unfold nxt nxtB; simp
    refine ⟨_, _, _, rfl, ?_⟩
    rw [← e3]
    refine hK _ _ _ (hb1.trans hb2) ?_
    refine rd_holds hH2 (List.prefix_append _ _) ?_ hm
    have : (xs.map bs).length = xs.length := by simp
    have : ((xs.map bs).mergeSort fun x y => decide (x ≤ y)).length = xs.length := by simp
    unfold nxtB; omega
section
variable {w : World} {R : Ending → World → Prop} {g : Nat}
theorem nameOf_at {m : Pl} {k : Nat} (hk : k < m.atoms.length) : nameOf m k = if m.atoms[k] = Dl then ByteArray.empty else m.atoms[k] := by
  unfold nameOf
  rw [List.getD_eq_getElem?_getD, List.getElem?_eq_getElem hk]; rfl
theorem dl_test (x : ByteArray) : (x.toList == (ByteArray.mk #[36]).toList) = decide (x = Dl) := bytes_eq x Dl
theorem next_calls {rows : List (List Part)} {m : Pl} {names : Wd} {A : Option Addr} {c : Nat} (h : RdM w g rows m) (ok : PlOk m) (hn : Rd LSt w A c names)
    (hno : (m.run names).1 < names.length → ∀ w', Below w.heap.size w w' → R (.returned (.tuple #[.slice none 0 0, .bool false])) w')
    (hR : ¬ (m.run names).1 < names.length → ∀ A' c' w', Below w.heap.size w w' → Rd LSt w' A' c' (nxt (m.names (m.run names).2.1)) → R (.returned (.tuple #[.slice A' (nxt (m.names (m.run names).2.1)).length c', .bool (m.run names).2.2])) w') :
    Calls Try.prog 13 #[.pointer (some ⟨g, 0, none⟩), .slice A names.length c] w R := by
  refine ok13 _ _ _ _ ?_
  unfold F13
  rw [show (some (⟨g, 0, none⟩ : Addr)).isNone = false from rfl, Br_f]
  refine run_calls h ok hn fun v w1 hv hb1 => ?_
  obtain ⟨vA, vN, vC⟩ := v
  refine ⟨_, _, _, _, _, rfl, ?_⟩
  refine brd (fun hlt => hno (by omega) _ hb1) (fun hge => ?_)
  have hR := hR (by omega)
  have hfew := run_few (m := m) ok names
  generalize (m.run names).2.1 = may at hR hv hfew
  generalize (m.run names).2.2 = is at hR
  have hmn : vN = may.length := hv.1
  have hm128 := Nat.le_trans hfew.len ok.le
  refine ⟨fun out outN outC i w' => ∃ j : Nat, i = j ∧ j ≤ may.length ∧ Own LSt w' w1.heap.size 9 (.slice out outN outC) (m.names (may.take j)) ∧ Below w1.heap.size w1 w', fun out outN outC i w' => may.length - i.toNat,
    ⟨0, rfl, by omega, Own.nil _ _ _ _, Below.refl _ _⟩, ?_⟩
  rintro out outN outC i w2 ⟨j, rfl, hj, ho, hb2⟩
  unfold F13_l8
  refine brd (fun hlt => ?_) (fun hge => ?_)
  rotate_left
  · dsimp only at hge
    obtain rfl : j = may.length := by omega
    rw [List.take_length] at ho
    refine sortc_calls ho (by unfold Pl.names; simp; omega) fun A' c' w' hb hr => ?_
    exact hR A' c' w' (hb1.trans ((hb2.trans hb).mono hb1.size)) hr
  dsimp only at hlt
  have hj2 : j < may.length := by omega
  have hjl := hfew.2 _ (List.getElem_mem hj2)
  have h2 := h.below (hb1.trans (hb2.mono hb1.size))
  obtain ⟨sl, ⟨a, f, fs, ls, vs, q1, q3, q4, q5, q6⟩, q2⟩ := h2
  have hmay := hv.below hb2
  have htk : m.names (may.take (j + 1)) = m.names (may.take j) ++ [nameOf m may[j]] := by
    unfold Pl.names
    rw [List.take_add_one, List.getElem?_eq_getElem hj2, Option.toList_some, List.map_append]; rfl
  have hlen : (m.names (may.take j)).length = j := by unfold Pl.names; simp; omega
  refine ⟨fun out2 outN2 outC2 w' => Own LSt w' w1.heap.size 9 (.slice out2 outN2 outC2) (m.names (may.take (j + 1))) ∧ Below w1.heap.size w1 w', ?_, ?_⟩
  · rintro out2 outN2 outC2 w4 ⟨r1, r2⟩
    unfold F13_j13
    exact ⟨inR_i64 (by omega) (by omega), ⟨j + 1, by simp, by omega, r1, r2⟩, by dsimp only; omega⟩
  refine hmay.2.1.k hmn rfl hj2 fun b o c0 => lI c0 ?_
  rw [NonNil_some]
  refine lSl (by rw [Addr.add_mk]; exact q1.cell 1) ?_
  refine q3.2.idx q3.1 (by omega) (by rw [q3.1]; omega) rfl fun b o hc => ?_
  simp only [Int.toNat_natCast] at hc
  refine lS (hc 0 _ rfl) ?_
  have app : ∀ x, nameOf m may[j] = x → Al w2 #[.string x] 9 fun g50 w1_2 =>
      Raw Try.prog (Builtin.append_ #[33, 33] 33 #[.slice out outN outC, .slice (some g50) 1 1]) w1_2 fun v2 w1_3 =>
      ∃ (x51 : Option Addr) (x51N x51C : Nat), v2 = .slice x51 x51N x51C ∧ (Own LSt w1_3 w1.heap.size 9 (.slice x51 x51N x51C) (m.names (may.take (j + 1))) ∧ Below w1.heap.size w1 w1_3) := by
    rintro x rfl
    refine al fun g3 w3 hb3 hg3 hge3 => ?_
    have ho3 := ho.keep hb3
    have hn1 : Rd LSt w3 (some ⟨g3, 0, none⟩) 1 [nameOf m may[j]] := (Own.lit' (L := LSt) (xs := [nameOf m may[j]]) (base := 0) hg3 (Nat.zero_le _) rfl (by simp [maxLen])).rd.2
    refine ap (L := LSt) (xs := m.names (may.take j)) (ys := [nameOf m may[j]]) (base := w1.heap.size) (.string ByteArray.empty) 16 rfl rfl rfl rfl ho3 hn1 (Nat.le_trans hb2.size hb3.size) (by rw [hlen]; simp; omega) (by rw [hlen]; simp [maxLen]; omega) fun A1 c1 w4 ho4 hgr => ⟨_, _, _, rfl, ?_⟩
    rw [htk]
    exact ⟨ho4, (hb2.trans (hb3.mono hb2.size)).trans (hgr.below)⟩
  have hat := nameOf_at hjl
  rw [dl_test]
  by_cases hd : m.atoms[may[j]] = Dl
  · rw [decide_eq_true hd, Br_t]
    rw [if_pos hd] at hat
    exact app _ hat
  · rw [decide_eq_false hd, Br_f]
    rw [if_neg hd] at hat
    rw [NonNil_some]
    refine lSl (by rw [Addr.add_mk]; exact q1.cell 1) ?_
    refine q3.2.idx q3.1 (by omega) (by rw [q3.1]; omega) rfl fun b o hc => ?_
    simp only [Int.toNat_natCast] at hc
    refine lS (hc 0 _ rfl) ?_
    exact app _ hat
end
end Go.Proofs.Ytkmoeokfgkmlhaa
/- The document's models: Next. -/
namespace Go.Mdl
theorem name_kind {a : ByteArray} (h : a ≠ Br ∧ a ≠ Mi) : (if kindOf a = 46 then Dt else nmOf a) = if a = Dl then ByteArray.empty else a := by
  obtain ⟨k1, k2, k3⟩ := kind_facts h
  unfold nmOf
  by_cases h1 : a = Dt
  · rw [if_pos (k1.2 h1), if_neg (by rw [h1]; exact dt_dl), h1]
  · rw [if_neg fun e => h1 (k1.1 e)]
    by_cases h2 : a = Dl
    · rw [if_pos h2, if_neg fun e => (k3.1 e).2 h2]
    · rw [if_neg h2, if_pos (k3.2 ⟨h1, h2⟩)]
end Go.Mdl
namespace Go.Proofs.Ytkmoeokfgkmlhaa
open Go.RowKit Go.Vc Go.Mdl
set_option linter.unusedVariables false
set_option linter.unusedSimpArgs false
set_option maxRecDepth 100000
section
variable {w w1 : World} {R : Ending → World → Prop} {g B : Nat}
theorem bs_lt (x s : ByteArray) : (!((Op.bytesLess x.toList s.toList) || (x.toList == s.toList))) = decide (bs s < bs x) := by
  rw [bytes_eq, ByteArray.toList_eq, ByteArray.toList_eq, bytesLess_eq]
  show (!(decide (bs x < bs s) || decide (x = s))) = _
  have hinj : x = s ↔ bs x = bs s := ⟨fun h => by rw [h], fun h => by rw [← sb_bs x, h, sb_bs]⟩
  rw [← Bool.decide_or, ← decide_not, decide_eq_decide]
  constructor
  · intro h
    simp only [not_or] at h
    rcases Decidable.em (bs s < bs x) with h1 | h1
    · exact h1
    · exact absurd (hinj.2 (List.le_antisymm (List.not_lt.1 h1) (List.not_lt.1 h.1))) h.2
  · intro h
    rintro (h1 | h1)
    · exact List.lt_irrefl _ (List.lt_trans h h1)
    · rw [hinj.1 h1] at h; exact List.lt_irrefl _ h
theorem with_calls {A : Option Addr} {c : Nat} {l : Wd} {s : ByteArray} (h : Rd LSt w A c l) (hs : Srt (l.map bs)) (hl : l.length ≤ 1000) (hR : ∀ A' c' (l' : Wd) w', Rd LSt w' A' c' l' → Srt (l'.map bs) → (∀ x, x ∈ l' ↔ x ∈ l ∨ x = s) → l'.length ≤ l.length + 1 → Below w.heap.size w w' → R (.returned (.slice A' l'.length c')) w') :
    Calls Try.prog 32 #[.slice A l.length c, .string s] w R := by
  refine ok32 _ _ _ _ ?_
  unfold F32
  have hinj : ∀ {x y : ByteArray}, bs x = bs y → x = y := fun {x y} h => by rw [← sb_bs x, h, sb_bs]
  refine al fun g8 w1 hb1 hg8 hge8 => ?_
  refine ⟨fun r rN rC done i w' => ∃ (k : Nat) (rl : Wd), i = k ∧ k ≤ l.length ∧ Own LSt w' w.heap.size 9 (.slice r rN rC) rl ∧ Below w.heap.size w w' ∧
      (if done = true then ∃ q, q < k ∧ rl = l.take q ++ (s :: (l.take k).drop q) ∧ (∀ x ∈ l.take q, bs x < bs s) ∧ (∀ x ∈ l.drop q, bs s < bs x) else rl = l.take k ∧ ∀ x ∈ l.take k, bs x < bs s),
    fun r rN rC done i w' => l.length - i.toNat, ⟨0, [], rfl, by omega, Own.bare _ _ _ _ _, hb1, by rw [if_neg (by decide)]; exact ⟨by simp, by simp⟩⟩, ?_⟩
  rintro r rN rC done i w2 ⟨k, rl, rfl, hk, ho, hb2, hcase⟩
  unfold F32_l3
  have h2 := h.keep hb2
  refine brd (fun hlt => ?_) (fun hge => ?_)
  · have hk2 : k < l.length := by omega
    refine h2.idx rfl (by omega) (by omega) rfl fun b o hc => ?_
    simp only [Int.toNat_natCast] at hc
    refine lS (hc 0 _ rfl) ?_
    rw [bytes_eq]
    refine brd (fun he => ?_) (fun hne => ?_)
    · exact hR A c l w2 h2 hs (fun x => ⟨fun hx => .inl hx, fun hx => hx.elim id fun e => by rw [e, ← he]; exact List.getElem_mem hk2⟩) (by omega) hb2
    have hdrop : l.drop k = l[k] :: l.drop (k + 1) := List.drop_eq_getElem_cons hk2
    have htake : l.take (k + 1) = l.take k ++ [l[k]] := by rw [List.take_add_one, List.getElem?_eq_getElem hk2, Option.toList_some]
    -- the rest is greater
    have hgt : bs s < bs l[k] → ∀ x ∈ l.drop k, bs s < bs x := by
      intro hlt x hx
      rw [hdrop] at hx
      rcases List.mem_cons.1 hx with e | hx
      · rw [e]; exact hlt
      · have hp := hs
        unfold Srt at hp
        rw [← List.take_append_drop k l, List.map_append, hdrop, List.map_cons] at hp
        have := (List.pairwise_cons.1 (List.pairwise_append.1 hp).2.1).1 (bs x) (List.mem_map.2 ⟨x, hx, rfl⟩)
        exact List.lt_trans hlt this
    refine ⟨fun r2 rN2 rC2 done2 w' => ∃ rl2 : Wd, Own LSt w' w.heap.size 9 (.slice r2 rN2 rC2) rl2 ∧ Below w.heap.size w w' ∧ rl2.length ≤ l.length + 1 ∧
      (if done2 = true then ∃ q, q < k + 1 ∧ rl2 = l.take q ++ (s :: (l.take k).drop q) ∧ (∀ x ∈ l.take q, bs x < bs s) ∧ (∀ x ∈ l.drop q, bs s < bs x) else rl2 = l.take k ∧ ∀ x ∈ l.take (k + 1), bs x < bs s), ?_, ?_⟩
    · rintro r2 rN2 rC2 done2 w3 ⟨rl2, o3, b3, l3, hcase2⟩
      unfold F32_j10
      refine (h.keep b3).idx rfl (by omega) (by omega) rfl fun b o hc => ?_
      simp only [Int.toNat_natCast] at hc
      refine lS (hc 0 _ rfl) ?_
      have e1 := o3.rd.1
      rw [e1] at o3 ⊢
      refine ap1 (L := LSt) (x := l[k]) (.string ByteArray.empty) 16 rfl rfl rfl rfl o3 b3.size (by omega) (by simp [maxLen]; omega) fun A' c' w4 o4 hg4 => ⟨A', _, c', rfl, inR_i64 (by omega) (by omega), ⟨k + 1, rl2 ++ [l[k]], by simp, by omega, o4, b3.trans hg4.below, ?_⟩, by dsimp only; omega⟩
      cases done2 with
      | true =>
        rw [if_pos rfl] at hcase2 ⊢
        obtain ⟨q, q1, q2, q3, q4⟩ := hcase2
        refine ⟨q, q1, ?_, q3, q4⟩
        rw [q2, htake, List.drop_append_of_le_length (by rw [List.length_take]; omega)]
        simp
      | false =>
        rw [if_neg (by decide)] at hcase2 ⊢
        exact ⟨by rw [hcase2.1, htake], hcase2.2⟩
    · have e1 := ho.rd.1
      cases done with
      | true =>
        rw [Bool.not_true, Br_f]
        rw [if_pos rfl] at hcase
        obtain ⟨q, q1, q2, q3, q4⟩ := hcase
        refine ⟨rl, ho, hb2, ?_, ?_⟩
        · rw [q2]; simp; omega
        · rw [if_pos rfl]; exact ⟨q, by omega, q2, q3, q4⟩
      | false =>
        rw [Bool.not_false, Br_t]
        rw [if_neg (by decide)] at hcase
        refine h2.idx rfl (by omega) (by omega) rfl fun b o hc => ?_
        simp only [Int.toNat_natCast] at hc
        refine lS (hc 0 _ rfl) ?_
        rw [bs_lt]
        refine brd (fun hlt2 => ?_) (fun hge2 => ?_)
        · refine al fun g34 w3 hb3 hg34 hge34 => ?_
          have hr34 : Rd LSt w3 (some ⟨g34, 0, none⟩) 1 [s] := (Own.lit' (L := LSt) (xs := [s]) (base := 0) hg34 (Nat.zero_le _) rfl (by simp [maxLen])).rd.2
          rw [e1] at ho ⊢
          have hrl : rl.length = k := by rw [hcase.1, List.length_take]; omega
          refine ap (L := LSt) (xs := rl) (ys := [s]) (base := w.heap.size) (.string ByteArray.empty) 16 rfl rfl rfl rfl (ho.keep hb3) hr34 (Nat.le_trans hb2.size hb3.size) (by simp; omega) (by simp [maxLen]; omega) fun A' c' w4 o4 hg4 => ⟨_, _, _, rfl, ?_⟩
          have hb3' := btr hb2 hb2.size hb3
          refine ⟨rl ++ [s], by simpa using o4, hb3'.trans hg4.below, by simp; omega, ?_⟩
          rw [if_pos rfl]
          refine ⟨k, by omega, ?_, hcase.2, hgt hlt2⟩
          rw [hcase.1, List.drop_of_length_le (by rw [List.length_take]; omega)]
        · refine ⟨rl, ho, hb2, by rw [hcase.1, List.length_take]; omega, ?_⟩
          rw [if_neg (by decide)]
          refine ⟨hcase.1, fun x hx => ?_⟩
          rw [htake] at hx
          rcases List.mem_append.1 hx with hx | hx
          · exact hcase.2 x hx
          · simp at hx; subst hx
            rcases Decidable.em (bs l[k] < bs s) with h1 | h1
            · exact h1
            · exact absurd (hinj (List.le_antisymm (List.not_lt.1 hge2) (List.not_lt.1 h1))) hne
  · obtain rfl : k = l.length := by omega
    have e1 := ho.rd.1
    refine ⟨fun r2 rN2 rC2 w' => ∃ rl2 : Wd, Own LSt w' w.heap.size 9 (.slice r2 rN2 rC2) rl2 ∧ Below w.heap.size w w' ∧ ∃ q, q ≤ l.length ∧ rl2 = l.take q ++ (s :: l.drop q) ∧ (∀ x ∈ l.take q, bs x < bs s) ∧ (∀ x ∈ l.drop q, bs s < bs x), ?_, ?_⟩
    · rintro r2 rN2 rC2 w3 ⟨rl2, o3, b3, q, q1, rfl, q3, q4⟩
      unfold F32_j13
      obtain ⟨e2, r3⟩ := o3.rd
      rw [e2]
      refine hR r2 rC2 _ w3 r3 ?_ (fun x => ?_) (by simp; omega) b3
      · unfold Srt at hs ⊢
        rw [← List.take_append_drop q l, List.map_append] at hs
        obtain ⟨p1, p2, p3⟩ := List.pairwise_append.1 hs
        rw [List.map_append, List.map_cons]
        refine List.pairwise_append.2 ⟨p1, List.pairwise_cons.2 ⟨fun y hy => ?_, p2⟩, fun x hx y hy => ?_⟩
        · obtain ⟨z, hz, rfl⟩ := List.mem_map.1 hy; exact q4 z hz
        · obtain ⟨z, hz, rfl⟩ := List.mem_map.1 hx
          rcases List.mem_cons.1 hy with rfl | hy
          · exact q3 z hz
          · exact p3 _ hx y hy
      · have : x ∈ l ↔ x ∈ l.take q ∨ x ∈ l.drop q := by rw [← List.mem_append, List.take_append_drop]
        rw [this, List.mem_append, List.mem_cons]
        constructor
        · rintro (h | h | h)
          · exact .inl (.inl h)
          · exact .inr h
          · exact .inl (.inr h)
        · rintro ((h | h) | h)
          · exact .inl h
          · exact .inr (.inr h)
          · exact .inr (.inl h)
    · cases done with
      | true =>
        rw [Bool.not_true, Br_f]
        rw [if_pos rfl] at hcase
        obtain ⟨q, q1, q2, q3, q4⟩ := hcase
        rw [List.take_length] at q2
        exact ⟨rl, ho, hb2, q, by omega, q2, q3, q4⟩
      | false =>
        rw [Bool.not_false, Br_t]
        rw [if_neg (by decide), List.take_length] at hcase
        refine al fun g47 w3 hb3 hg47 hge47 => ?_
        have hr47 : Rd LSt w3 (some ⟨g47, 0, none⟩) 1 [s] := (Own.lit' (L := LSt) (xs := [s]) (base := 0) hg47 (Nat.zero_le _) rfl (by simp [maxLen])).rd.2
        rw [e1] at ho ⊢
        have hrl : rl.length = l.length := by rw [hcase.1]
        refine ap (L := LSt) (xs := rl) (ys := [s]) (base := w.heap.size) (.string ByteArray.empty) 16 rfl rfl rfl rfl (ho.keep hb3) hr47 (Nat.le_trans hb2.size hb3.size) (by simp; omega) (by simp [maxLen]; omega) fun A' c' w4 o4 hg4 => ⟨_, _, _, rfl, ?_⟩
        have hb3' := btr hb2 hb2.size hb3
        refine ⟨rl ++ [s], by simpa using o4, hb3'.trans hg4.below, l.length, by omega, ?_, by rw [List.take_length]; exact hcase.2, by simp⟩
        rw [hcase.1]; simp
theorem nextO_calls {m : Pl} {fo : List (List Nat)} {A fi F la : Sv} {es : List E4} {vs : List Sv} {names : Wd} {N : Option Addr} {c : Nat} (h : RdO w g m fo A fi F la es vs) (hbe : Beside m fo) (hn : Rd LSt w N c names)
    (hno : (m.run names).1 < names.length → ∀ w', Below w.heap.size w w' → R (.returned (.tuple #[.slice none 0 0, .bool false])) w')
    (hR : ¬ (m.run names).1 < names.length → ∀ A' c' w', Below w.heap.size w w' → Rd LSt w' A' c' (nxt (m.names (m.run names).2.1)) → R (.returned (.tuple #[.slice A' (nxt (m.names (m.run names).2.1)).length c', .bool (m.run names).2.2])) w') :
    Calls Try.prog 14 #[.pointer (some ⟨g, 0, none⟩), .slice N names.length c] w R := by
  refine ok14 _ _ _ _ ?_
  unfold F14
  have ok := hbe.ok
  refine orun_calls h hbe hn ?_
  intro v w1 hv hb1
  refine ⟨_, v.1, v.2.1, v.2.2, _, rfl, ?_⟩
  refine brd (fun hlt => hno (by omega) _ hb1) (fun hge => ?_)
  have hR := hR (by omega)
  have hfew := run_few (m := m) ok names
  generalize (m.run names).2.1 = may at hR hv hfew
  generalize (m.run names).2.2 = is at hR
  have hmn : v.2.1 = may.length := hv.1
  have hm128 := Nat.le_trans hfew.len ok.le
  refine al fun g24 w2 hb2 hg24 hge24 => ?_
  have hb02 := btr hb1 hb1.size hb2
  refine ⟨fun out outN outC i w' => ∃ (j : Nat) (l : Wd), i = j ∧ j ≤ may.length ∧ outN = l.length ∧ Rd LSt w' out outC l ∧ Srt (l.map bs) ∧ (∀ x, x ∈ l ↔ x ∈ m.names (may.take j)) ∧ l.length ≤ j ∧ Below w2.heap.size w2 w', fun out outN outC i w' => may.length - i.toNat,
    ⟨0, [], rfl, by omega, rfl, ⟨Nat.le_refl _, by simp [maxLen], (fun e => by cases e), fun h0 => absurd h0 (by simp)⟩, by simp [Srt], by simp [Pl.names], by simp, Below.refl _ _⟩, ?_⟩
  rintro out outN outC i w3 ⟨j, l, rfl, hj, rfl, hrd, hsrt, hmem, hlj, hb3⟩
  unfold F14_l6
  have hb03 := btr hb02 hb02.size hb3
  refine brd (fun hlt => ?_) (fun hge => ?_)
  rotate_left
  · obtain rfl : j = may.length := by omega
    rw [List.take_length] at hmem
    have := nxt_unique hsrt hmem
    subst this
    exact hR out outC w3 hb03 hrd
  have hj2 : j < may.length := by omega
  have hjl := hfew.2 _ (List.getElem_mem hj2)
  have htk : m.names (may.take (j + 1)) = m.names (may.take j) ++ [nameOf m may[j]] := by
    unfold Pl.names
    rw [List.take_add_one, List.getElem?_eq_getElem hj2, Option.toList_some, List.map_append]; rfl
  have h3 := h.below hb03
  have hm3 := (hv.below hb2).below hb3
  have hd : Below w3.heap.size w3 w3.drew := (Below.refl _ _).drew
  refine ⟨fun w' => Below w3.heap.size w3 w', hd, ?_⟩
  rw [NonNil_some]
  refine ⟨A.1, A.2.1, A.2.2, fun w' hb => kcell hb (h3.blk.cell 0), ?_⟩
  refine hm3.2.1.held (fun _ h => h) hmn (i := (j : Int)) (by omega) (by omega) rfl fun b o hc => ?_
  simp only [Int.toNat_natCast] at hc
  refine ⟨_, hc 0 _ rfl, ?_⟩
  have hje : may[j] < es.length := by rw [h3.at_.1]; exact hjl
  refine h3.ar.held (fun _ h => h) h3.an (i := (may[j] : Int)) (by omega) (by rw [h3.an]; omega) rfl fun b' o' hc' => ?_
  simp only [Int.toNat_natCast] at hc'
  refine ⟨_, hc' 0 _ rfl, _, by rw [Addr.add_mk]; exact hc' 1 _ rfl, _, by rw [Addr.add_mk]; exact hc' 2 _ rfl, _, _, _, by rw [Addr.add_mk]; exact hc' 3 _ rfl, ?_⟩
  obtain ⟨hek, hea⟩ := h3.at_.2 may[j] _ _ (List.getElem?_eq_getElem hje) (List.getElem?_eq_getElem hjl)
  refine al fun ga w4 hb4 hga hgea => ?_
  have hb34 := btr hd hd.size hb4
  refine ⟨hb34, ?_⟩
  simp only [Addr.add_mk, Nat.zero_add]
  refine st_new hga (by simp) fun w5 hg5 e5 => st_new hg5 (by simp) fun w6 hg6 e6 => st_new hg6 (by simp) fun w7 hg7 e7 => st_new hg7 (by simp) fun w8 hg8 e8 => ?_
  have hlt3 : w3.heap.size ≤ ga := hgea
  have hb38 : Below w3.heap.size w3 w8 := by
    subst e5 e6 e7 e8
    exact (((hb34.setCell hlt3 _).setCell hlt3 _).setCell hlt3 _).setCell hlt3 _
  clear e5 e6 e7 e8 hg5 hg6 hg7
  refine lS (hg8.cell 2) ?_
  have hb28 := btr hb3 hb3.size hb38
  refine ⟨fun s w' => s = nameOf m may[j] ∧ w' = w8, ?_, ?_⟩
  · rintro s w9 ⟨rfl, rfl⟩
    unfold F14_j12
    refine with_calls (hrd.keep hb38) hsrt (by omega) ?_
    intro A' c' l' w10 r10 s10 m10 n10 b10
    refine ⟨_, _, _, rfl, inR_i64 (by omega) (by omega), ⟨j + 1, l', by simp, by omega, rfl, r10, s10, fun x => ?_, by omega, btr hb28 hb28.size b10⟩, by omega⟩
    rw [m10, htk, List.mem_append, List.mem_singleton, hmem]
  · refine lI (hg8.cell 0) ?_
    have hnk := name_kind (hbe.nob _ (List.getElem_mem hjl))
    rw [← nameOf_at hjl, ← hek, ← hea] at hnk
    refine bre (fun h46 => ?_) (fun h46 => ?_)
    · rw [if_pos (by have : ((es[may[j]].k : Nat) : Int) = 46 := h46; omega)] at hnk
      exact ⟨hnk, rfl⟩
    · rw [if_neg (by intro e; apply h46; show ((es[may[j]].k : Nat) : Int) = 46; omega)] at hnk
      exact ⟨hnk, rfl⟩
end
end Go.Proofs.Ytkmoeokfgkmlhaa
/- Models: can each name stand in one place only? By the program, and by the document. -/
namespace Go.Mdl
set_option linter.unusedVariables false
set_option linter.unusedSimpArgs false
def clash (a b : ByteArray) : Prop := a = b ∨ a = Dt ∨ b = Dt
theorem clash_symm {a b : ByteArray} (h : clash a b) : clash b a := by
  rcases h with h | h | h
  · exact .inl h.symm
  · exact .inr (.inr h)
  · exact .inr (.inl h)
def Apt (m : Pl) (l : List Nat) : Prop := ∀ x ∈ l, ∀ y ∈ l, x ≠ y → ¬ clash (m.atoms.getD x ByteArray.empty) (m.atoms.getD y ByteArray.empty)
def ClearP (m : Pl) : Prop := Apt m m.first ∧ ∀ l ∈ m.fol, Apt m l
/-- The first a places of a list, pair by pair. -/
def AptTo (m : Pl) (l : List Nat) (a : Nat) : Prop := ∀ (i j x y : Nat), i < a → j < i → l[i]? = some x → l[j]? = some y → x ≠ y → ¬ clash (m.atoms.getD x ByteArray.empty) (m.atoms.getD y ByteArray.empty)
theorem apt_all {m : Pl} {l : List Nat} (h : AptTo m l l.length) : Apt m l := by
  intro x hx y hy hne hc
  obtain ⟨i, hi, rfl⟩ := List.getElem_of_mem hx
  obtain ⟨j, hj, rfl⟩ := List.getElem_of_mem hy
  rcases (by omega : i < j ∨ i = j ∨ j < i) with hij | rfl | hij
  · exact h j i _ _ hj hij (List.getElem?_eq_getElem hj) (List.getElem?_eq_getElem hi) (Ne.symm hne) (clash_symm hc)
  · exact hne rfl
  · exact h i j _ _ hi hij (List.getElem?_eq_getElem hi) (List.getElem?_eq_getElem hj) hne hc
theorem nodup_ne {l : List Nat} (h : l.Nodup) {i j : Nat} (hi : i < l.length) (hj : j < i) : l[i] ≠ l[j] := by
  intro e
  have hp := List.pairwise_iff_getElem.1 h j i (by omega) hi hj
  exact hp e.symm
theorem kn_eq {a b : ByteArray} (ha : a ≠ Br ∧ a ≠ Mi) (hb : b ≠ Br ∧ b ≠ Mi) : (kindOf a = kindOf b ∧ nmOf a = nmOf b) ↔ a = b := by
  obtain ⟨k1, k2, k3⟩ := kind_facts ha
  obtain ⟨j1, j2, j3⟩ := kind_facts hb
  constructor
  · rintro ⟨h1, h2⟩
    by_cases c1 : a = Dt
    · rw [c1]; exact (j1.1 (by rw [← h1]; exact k1.2 c1)).symm
    · by_cases c2 : a = Dl
      · rw [c2]; exact (j2.1 (by rw [← h1]; exact k2.2 c2)).symm
      · have h97 := k3.2 ⟨c1, c2⟩
        have g97 : kindOf b = 97 := by rw [← h1]; exact h97
        unfold nmOf at h2
        rw [if_pos h97, if_pos g97] at h2
        exact h2
  · rintro rfl; exact ⟨rfl, rfl⟩
end Go.Mdl
namespace Go.Proofs.Ytkmoeokfgkmlhaa
open Go.RowKit Go.Vc Go.Mdl
set_option linter.unusedVariables false
set_option linter.unusedSimpArgs false
set_option maxRecDepth 100000
section
variable {w w1 : World} {R : Ending → World → Prop} {g B : Nat}
theorem clash_calls {a b : ByteArray} (h1 : clash a b → R (.returned (.bool true)) w) (h2 : ¬ clash a b → R (.returned (.bool false)) w) : Calls Try.prog 26 #[.string a, .string b] w R := by
  refine ok26 _ _ ?_
  unfold F26
  have e46 : ByteArray.mk #[46] = Dt := rfl
  rw [bytes_eq, bytes_eq, bytes_eq, e46]
  refine brd (fun h => h1 (.inl h)) (fun hne => ?_)
  refine brd (fun h => h1 (.inr (.inl h))) (fun hna => ?_)
  by_cases hb : b = Dt
  · rw [decide_eq_true hb]; exact h1 (.inr (.inr hb))
  · rw [decide_eq_false hb]
    refine h2 ?_
    rintro (h | h | h)
    · exact hne h
    · exact hna h
    · exact hb h
theorem clear_calls {rows : List (List Part)} {m : Pl} (h : RdM w g rows m) (ok : PlOk m) (hR : ∀ (b : Bool) w', (b = true ↔ ClearP m) → Below w.heap.size w w' → R (.returned (.bool b)) w') :
    Calls Try.prog 9 #[.pointer (some ⟨g, 0, none⟩)] w R := by
  refine ok9 _ ?_
  unfold F9
  rw [show (some (⟨g, 0, none⟩ : Addr)).isNone = false from rfl, Br_f]
  have hd : Below w.heap.size w w.drew := (Below.refl _ _).drew
  have h0 := h
  obtain ⟨sl, ⟨a, f, fs, ls, vs, q1, q3, q4, q5, q6⟩, q2⟩ := h
  have HS : ∀ (i : Nat) (u : Value), w.cell? ⟨g, i, none⟩ = some u → Held (fun w' => Below w.heap.size w w') ⟨g, i, none⟩ u := fun i u hc w' hb => kcell hb hc
  simp only [NonNil_some, Addr.add_mk, Nat.zero_add]
  refine ⟨_, hd, fs.1, fs.2.1, fs.2.2, HS 2 _ (q1.cell 2), f.1, f.2.1, f.2.2, HS 3 _ (q1.cell 3), al fun g2 w1 hb1 hg2 hge => ⟨btr hd hd.size hb1, ?_⟩⟩
  have hB1 := btr hd hd.size hb1
  have own1 : Own LSv w1 w.heap.size 56 (.slice (some ⟨g2, 0, none⟩) 1 1) [(fs.1, fs.2.1, fs.2.2)] := Own.lit' (L := LSv) (xs := [((fs.1, fs.2.1, fs.2.2) : Sv)]) hg2 hge rfl (by simp [maxLen])
  have hvl : vs.length ≤ 128 := by rw [q4.2.2.1, ← ok.len]; exact ok.le
  rw [q4.1]
  refine ap (L := LSv) (xs := [((fs.1, fs.2.1, fs.2.2) : Sv)]) (ys := vs) (base := w.heap.size) (.slice none 0 0) 24 rfl rfl rfl rfl own1 (q4.2.1.keep hB1) hB1.size (by simp; omega) (by simp [maxLen]; omega) fun A' c' w2 ho hgr => ⟨_, _, _, rfl, ?_⟩
  have hB2 : Below w.heap.size w w2 := hB1.trans hgr.below
  have hrd := ho.rd
  clear ho hgr own1 hg2 hge hb1
  have hll : ∀ (i : Nat) v l, ([((fs.1, fs.2.1, fs.2.2) : Sv)] ++ vs)[i]? = some v → (m.first :: m.fol)[i]? = some l → RdI 0 w2 v l := by
    intro i v l k1 k2
    cases i with
    | zero =>
      simp only [List.singleton_append, List.getElem?_cons_zero, Option.some.injEq] at k1 k2
      subst k1 k2
      exact q5.below hB2
    | succ i =>
      simp only [List.singleton_append, List.getElem?_cons_succ] at k1 k2
      exact (q4.2.2.2 i v l k1 k2).below hB2
  have hlen : ([((fs.1, fs.2.1, fs.2.2) : Sv)] ++ vs).length = (m.first :: m.fol).length := by simp [q4.2.2.1]
  have hfew : ∀ l ∈ (m.first :: m.fol), Few m.atoms.length l := fun l hl => by
    rcases List.mem_cons.1 hl with rfl | hl
    · exact ok.first
    · exact ok.fol l hl
  have hcp : ClearP m ↔ ∀ l ∈ (m.first :: m.fol), Apt m l := by
    unfold ClearP; simp
  have hfl : (m.first :: m.fol).length ≤ 129 := by simp; rw [← ok.len]; have := ok.le; omega
  generalize (m.first :: m.fol) = ll at hll hlen hfew hcp hfl
  generalize [((fs.1, fs.2.1, fs.2.2) : Sv)] ++ vs = sv at hrd hll hlen
  rw [hrd.1]
  replace hrd := hrd.2
  refine ⟨fun i w' => ∃ k : Nat, i = k ∧ k ≤ ll.length ∧ (∀ l ∈ ll.take k, Apt m l) ∧ Below w2.heap.size w2 w', fun i _ => ll.length - i.toNat, ⟨0, rfl, by omega, by simp, Below.refl _ _⟩, ?_⟩
  rintro i w3 ⟨k, rfl, hk, hall, hb3⟩
  unfold F9_l4
  have hb03 := btr hB2 hB2.size hb3
  refine brd (fun hlt => ?_) (fun hge => ?_)
  rotate_left
  · obtain rfl : k = ll.length := by omega
    rw [List.take_length] at hall
    exact hR true w3 ⟨fun _ => hcp.2 hall, fun _ => rfl⟩ hb03
  have hk2 : k < ll.length := by omega
  refine (hrd.keep hb3).idx rfl (by omega) (by omega) rfl fun b o hc => ?_
  simp only [Int.toNat_natCast] at hc
  refine lSl (hc 0 _ rfl) ?_
  have hr := hll k _ _ (List.getElem?_eq_getElem (by omega)) (List.getElem?_eq_getElem hk2)
  have hfk := hfew _ (List.getElem_mem hk2)
  have hmk : ll[k] ∈ ll := List.getElem_mem hk2
  have htk : ll.take (k + 1) = ll.take k ++ [ll[k]] := by rw [List.take_add_one, List.getElem?_eq_getElem hk2, Option.toList_some]
  have hgen : ∀ (v : Sv) (l : List Nat), RdI 0 w2 v l → Few m.atoms.length l → l ∈ ll → (Apt m l → ∀ l' ∈ ll.take k ++ [l], Apt m l') → ll.take (k + 1) = ll.take k ++ [l] →
      ∃ (I : Int → World → Prop) (ms : Int → World → Nat), I (0 : Int) w3 ∧ ∀ (x28 : Int) (w1_4 : World), I x28 w1_4 → F9_l7 (some ⟨g, 0, none⟩) (fun x22' w2' => (∃ k : Nat, x22' = k ∧ k ≤ ll.length ∧ (∀ l ∈ ll.take k, Apt m l) ∧ Below w2.heap.size w2 w2') ∧ ll.length - x22'.toNat < ll.length - ((k : Int)).toNat) (k : Int) v.1 v.2.1 v.2.2 (fun x28' w2 => I x28' w2 ∧ ms x28' w2 < ms x28 w1_4) x28 w1_4 R := by
    intro v l hr hfk hmk hap htk
    have hln := hr.1
    have hl128 := Nat.le_trans hfk.len ok.le
    refine ⟨fun x w' => ∃ i : Nat, x = i ∧ i ≤ l.length ∧ AptTo m l i ∧ Below w2.heap.size w2 w', fun x _ => l.length - x.toNat, ⟨0, rfl, by omega, fun i j x y hi => by omega, hb3⟩, ?_⟩
    rintro x w4 ⟨i, rfl, hi, hpre, hb4⟩
    unfold F9_l7
    refine brd (fun hlt => ?_) (fun hge => ?_)
    rotate_left
    · obtain rfl : i = l.length := by omega
      exact ⟨inR_i64 (by omega) (by omega), ⟨k + 1, by simp, by omega, by rw [htk]; exact hap (apt_all hpre), hb4⟩, by omega⟩
    have hi2 : i < l.length := by omega
    have hr4 := hr.below hb4
    refine hr4.2.1.k hln rfl hi2 fun b o c0 => lI c0 ?_
    have hcap := hr4.2.1.1
    refine ⟨by omega, by omega, by omega, ?_⟩
    refine ⟨fun x w' => ∃ j : Nat, x = j ∧ j ≤ i ∧ (∀ (j' : Nat), j' < j → ∀ y, l[j']? = some y → l[i] ≠ y → ¬ clash (m.atoms.getD l[i] ByteArray.empty) (m.atoms.getD y ByteArray.empty)) ∧ Below w2.heap.size w2 w', fun x _ => i - x.toNat, ⟨0, rfl, by omega, fun j' h => by omega, hb4⟩, ?_⟩
    rintro x w5 ⟨j, rfl, hj, hpj, hb5⟩
    unfold F9_l10
    have hti : ((i : Int)).toNat = i := Int.toNat_natCast i
    refine brd (fun hlt2 => ?_) (fun hge2 => ?_)
    rotate_left
    · obtain rfl : j = i := by omega
      refine ⟨inR_i64 (by omega) (by omega), ⟨j + 1, by simp, by omega, fun i' j' x y h1 h2 e1 e2 hne => ?_, hb5⟩, by dsimp only; omega⟩
      by_cases hij : i' = j
      · subst hij
        rw [List.getElem?_eq_getElem hi2] at e1
        cases e1
        exact hpj j' h2 y e2 hne
      · exact hpre i' j' x y (by omega) h2 e1 e2 hne
    have hj2 : j < i := by omega
    have hr5 := hr.below hb5
    have hrt := hr5.2.1.take i
    refine hrt.k (by rw [List.length_take]; omega) rfl (by rw [List.length_take]; omega) fun b o c0 => lI c0 ?_
    rw [List.getElem_take]
    have hb05 := btr hB2 hB2.size hb5
    have h5 := h0.below hb05
    obtain ⟨sl5, ⟨a5, f5, fs5, ls5, vs5, p1, p3, p4, p5, p6⟩, p2⟩ := h5
    have hdd : Below w5.heap.size w5 w5.drew := (Below.refl _ _).drew
    have hli := hfk.2 _ (List.getElem_mem hi2)
    have hjl : j < l.length := by omega
    have hlj := hfk.2 _ (List.getElem_mem hjl)
    refine ⟨fun w' => Below w5.heap.size w5 w', hdd, ?_⟩
    rw [NonNil_some]
    refine ⟨a5.1, a5.2.1, a5.2.2, fun w' hb => kcell hb (by rw [Addr.add_mk]; exact p1.cell 1), ?_⟩
    refine p3.2.held (fun _ h => h) p3.1 (i := (l[i] : Int)) (by omega) (by rw [p3.1]; omega) rfl fun b o hc => ?_
    simp only [Int.toNat_natCast] at hc
    refine ⟨_, hc 0 _ rfl, ?_⟩
    rw [NonNil_some]
    refine ⟨a5.1, a5.2.1, a5.2.2, fun w' hb => kcell hb (by rw [Addr.add_mk]; exact p1.cell 1), ?_⟩
    refine p3.2.held (fun _ h => h) p3.1 (i := (l[j] : Int)) (by omega) (by rw [p3.1]; omega) rfl fun b o hc => ?_
    simp only [Int.toNat_natCast] at hc
    refine ⟨_, hc 0 _ rfl, ?_⟩
    have gi : m.atoms.getD l[i] ByteArray.empty = m.atoms[l[i]] := by rw [List.getD_eq_getElem?_getD, List.getElem?_eq_getElem hli]; rfl
    have gj : m.atoms.getD l[j] ByteArray.empty = m.atoms[l[j]] := by rw [List.getD_eq_getElem?_getD, List.getElem?_eq_getElem hlj]; rfl
    have hb06 := btr hb05 hb05.size hdd
    have hb26 := btr hb5 hb5.size hdd
    refine clash_calls (fun hcl => ⟨true, rfl, ?_⟩) (fun hcl => ⟨false, rfl, ?_⟩)
    · rw [Br_t]
      refine hR false _ ⟨(fun h => by cases h), fun hcl2 => ?_⟩ hb06
      have hA := hcp.1 hcl2 l hmk
      exact absurd (by rw [gi, gj]; exact hcl) (hA _ (List.getElem_mem hi2) _ (List.getElem_mem hjl) (nodup_ne hfk.1 hi2 hj2))
    · rw [Br_f]
      refine ⟨inR_i64 (by omega) (by omega), ⟨j + 1, by simp, by omega, fun j' h1 y e hne => ?_, hb26⟩, by dsimp only; omega⟩
      by_cases hjj : j' = j
      · subst hjj
        rw [List.getElem?_eq_getElem hjl] at e
        cases e
        rw [gi, gj]; exact hcl
      · exact hpj j' (by omega) y e hne
  exact hgen _ _ hr hfk hmk (fun ha l' hl' => by
    rcases List.mem_append.1 hl' with h1 | h1
    · exact hall l' h1
    · rw [List.mem_singleton.1 h1]; exact ha) htk
theorem st4b {g2 : Nat} {c0 : Array Value} {t : TypeId} (hg : Blk w g2 c0 t) (h0 : c0.size = 4) {v0 v1 v2 v3 : Value} {K : World → Prop} (h : ∀ w', Fm (· = g2) w w' → Blk w' g2 #[v0, v1, v2, v3] t → K w') :
    St w ⟨g2, 0, none⟩ v0 fun w1 => St w1 (Addr.add ⟨g2, 0, none⟩ 1) v1 fun w2 => St w2 (Addr.add ⟨g2, 0, none⟩ 2) v2 fun w3 => St w3 (Addr.add ⟨g2, 0, none⟩ 3) v3 fun w4 => K w4 := by
  obtain ⟨l⟩ := c0
  obtain ⟨x, y, z, u, rfl⟩ : ∃ x y z u, l = [x, y, z, u] := by
    match l, h0 with
    | [x, y, z, u], _ => exact ⟨x, y, z, u, rfl⟩
  simp only [Addr.add_mk, Nat.zero_add]
  refine st_blk hg (by simp) fun w1 hb1 f1 => st_blk hb1 (by simp) fun w2 hb2 f2 => st_blk hb2 (by simp) fun w3 hb3 f3 => st_blk hb3 (by simp) fun w4 hb4 f4 => ?_
  exact h w4 (((f1.trans f2).trans f3).trans f4) hb4
theorem apart_calls {m : Pl} {fo : List (List Nat)} {A fi F la v : Sv} {es : List E4} {vs : List Sv} {l : List Nat} (h : RdO w g m fo A fi F la es vs) (hbe : Beside m fo) (hl : RdI B w v l) (hh : ∀ x ∈ l, x < m.atoms.length)
    (hR : ∀ (b : Bool) w', (b = true ↔ Apt m l) → Below w.heap.size w w' → R (.returned (.bool b)) w') :
    Calls Try.prog 27 #[.pointer (some ⟨g, 0, none⟩), .slice v.1 v.2.1 v.2.2] w R := by
  refine ok27 _ _ _ _ ?_
  unfold F27
  have hln := hl.1
  have hmx := Nat.le_trans hl.2.1.1 hl.2.1.2.1
  unfold maxLen at hmx
  refine ⟨fun x w' => ∃ i : Nat, x = i ∧ i ≤ l.length ∧ AptTo m l i ∧ Below w.heap.size w w', fun x _ => l.length - x.toNat, ⟨0, rfl, by omega, fun i j x y hi => by omega, Below.refl _ _⟩, ?_⟩
  rintro x w2 ⟨i, rfl, hi, hpre, hb2⟩
  unfold F27_l2
  refine brd (fun hlt => ?_) (fun hge => ?_)
  rotate_left
  · obtain rfl : i = l.length := by omega
    exact hR true w2 ⟨fun _ => apt_all hpre, fun _ => rfl⟩ hb2
  have hi2 : i < l.length := by omega
  refine ⟨fun x w' => ∃ j : Nat, x = j ∧ j ≤ i ∧ (∀ (j' : Nat), j' < j → ∀ y, l[j']? = some y → l[i] ≠ y → ¬ clash (m.atoms.getD l[i] ByteArray.empty) (m.atoms.getD y ByteArray.empty)) ∧ Below w.heap.size w w', fun x _ => i - x.toNat, ⟨0, rfl, by omega, fun j' h => by omega, hb2⟩, ?_⟩
  rintro x w3 ⟨j, rfl, hj, hpj, hb3⟩
  unfold F27_l5
  refine brd (fun hlt2 => ?_) (fun hge2 => ?_)
  rotate_left
  · obtain rfl : j = i := by omega
    refine ⟨inR_i64 (by omega) (by omega), ⟨j + 1, by simp, by omega, fun i' j' x y h1 h2 e1 e2 hne => ?_, hb3⟩, by dsimp only; omega⟩
    by_cases hij : i' = j
    · subst hij
      rw [List.getElem?_eq_getElem hi2] at e1
      cases e1
      exact hpj j' h2 y e2 hne
    · exact hpre i' j' x y (by omega) h2 e1 e2 hne
  have hj2 : j < i := by omega
  have hjl : j < l.length := by omega
  have hli := hh _ (List.getElem_mem hi2)
  have hlj := hh _ (List.getElem_mem hjl)
  have gi : m.atoms.getD l[i] ByteArray.empty = m.atoms[l[i]] := by rw [List.getD_eq_getElem?_getD, List.getElem?_eq_getElem hli]; rfl
  have gj : m.atoms.getD l[j] ByteArray.empty = m.atoms[l[j]] := by rw [List.getD_eq_getElem?_getD, List.getElem?_eq_getElem hlj]; rfl
  have ni := hbe.nob _ (List.getElem_mem hli)
  have nj := hbe.nob _ (List.getElem_mem hlj)
  refine ⟨fun w' => Below w.heap.size w w' ∧ (l[i] ≠ l[j] → ¬ clash m.atoms[l[i]] m.atoms[l[j]]), ?_, ?_⟩
  · rintro w4 ⟨hb4, hcl⟩
    unfold F27_j6
    refine ⟨inR_i64 (by omega) (by omega), ⟨j + 1, by simp, by omega, fun j' h1 y e hne => ?_, hb4⟩, by dsimp only; omega⟩
    by_cases hjj : j' = j
    · subst hjj
      rw [List.getElem?_eq_getElem hjl] at e
      cases e
      rw [gi, gj]; exact hcl hne
    · exact hpj j' (by omega) y e hne
  have h3 := h.below hb3
  have hl3 := hl.below hb3
  have hie : l[i] < es.length := by rw [h3.at_.1]; exact hli
  have hje : l[j] < es.length := by rw [h3.at_.1]; exact hlj
  obtain ⟨ki, ai⟩ := h3.at_.2 l[i] _ _ (List.getElem?_eq_getElem hie) (List.getElem?_eq_getElem hli)
  obtain ⟨kj, aj⟩ := h3.at_.2 l[j] _ _ (List.getElem?_eq_getElem hje) (List.getElem?_eq_getElem hlj)
  refine ⟨fun a b w' => ∃ ga gb, a = ⟨ga, 0, none⟩ ∧ b = ⟨gb, 0, none⟩ ∧ Below w3.heap.size w3 w' ∧ Blk w' ga #[.int .u8 (es[l[i]].k : Int), .int .u8 (es[l[i]].s : Int), .string es[l[i]].a, .slice es[l[i]].sl.1 es[l[i]].sl.2.1 es[l[i]].sl.2.2] 75 ∧
      Blk w' gb #[.int .u8 (es[l[j]].k : Int), .int .u8 (es[l[j]].s : Int), .string es[l[j]].a, .slice es[l[j]].sl.1 es[l[j]].sl.2.1 es[l[j]].sl.2.2] 75, ?_, ?_⟩
  · rintro a b w4 ⟨ga, gb, rfl, rfl, hb4, ha, hbb⟩
    unfold F27_j8
    refine dr fun w5 hb5 _ => ?_
    have hb35 := btr hb4 hb4.size hb5
    have hb05 := btr hb3 hb3.size hb35
    have ha5 := ha.keep hb5
    have hbb5 := hbb.keep hb5
    have hl5 := hl3.below hb35
    refine hl5.2.1.k hln rfl hi2 fun b o c0 => lI c0 ?_
    refine hl5.2.1.k hln rfl hjl fun b o c0 => lI c0 ?_
    have no : clash m.atoms[l[i]] m.atoms[l[j]] → l[i] ≠ l[j] → R (.returned (.bool false)) w5 := fun hc hne =>
      hR false w5 ⟨(fun h => by cases h), fun hA => absurd (by rw [gi, gj]; exact hc) (hA _ (List.getElem_mem hi2) _ (List.getElem_mem hjl) hne)⟩ hb05
    refine brn (fun hne => ?_) (fun heq => ⟨hb05, fun hne => absurd (by omega : l[i] = l[j]) hne⟩)
    have hne' : l[i] ≠ l[j] := fun e => hne (by rw [e])
    obtain ⟨u1, u2, u3⟩ := kind_facts ni
    obtain ⟨x1, x2, x3⟩ := kind_facts nj
    refine lI (ha5.cell 0) ?_
    refine bre (fun h46 => no (.inr (.inl (u1.1 (by rw [← ki]; omega)))) hne') (fun n46 => ?_)
    refine lI (hbb5.cell 0) ?_
    refine bre (fun h46 => no (.inr (.inr (x1.1 (by rw [← kj]; omega)))) hne') (fun m46 => ?_)
    have nclash : m.atoms[l[i]] ≠ m.atoms[l[j]] → ¬ clash m.atoms[l[i]] m.atoms[l[j]] := by
      rintro hd (h | h | h)
      · exact hd h
      · exact n46 (by have := u1.2 h; omega)
      · exact m46 (by have := x1.2 h; omega)
    refine lI (ha5.cell 0) (lI (hbb5.cell 0) ?_)
    refine bre (fun hk => ?_) (fun hk => ⟨hb05, fun _ => nclash fun e => hk (by rw [ki, kj, e])⟩)
    refine lS (by rw [Addr.add_mk]; exact ha5.cell 2) (lS (by rw [Addr.add_mk]; exact hbb5.cell 2) ?_)
    rw [bytes_eq]
    refine brd (fun hn => no (.inl ((kn_eq ni nj).1 ⟨by omega, by rw [← ai, ← aj]; exact hn⟩)) hne') (fun hn => ⟨hb05, fun _ => nclash fun e => hn (by rw [ai, aj, e])⟩)
  · have hd : Below w3.heap.size w3 w3.drew := (Below.refl _ _).drew
    refine ⟨fun w' => Below w3.heap.size w3 w', hd, ?_⟩
    rw [NonNil_some]
    refine ⟨A.1, A.2.1, A.2.2, fun w' hb => kcell hb (h3.blk.cell 0), ?_⟩
    refine hl3.2.1.held (fun _ h => h) hln (i := (i : Int)) (by omega) (by omega) rfl fun b o hc => ?_
    simp only [Int.toNat_natCast] at hc
    refine ⟨_, hc 0 _ rfl, ?_⟩
    refine h3.ar.held (fun _ h => h) h3.an (i := (l[i] : Int)) (by omega) (by rw [h3.an]; omega) rfl fun b' o' hc' => ?_
    simp only [Int.toNat_natCast] at hc'
    refine ⟨_, hc' 0 _ rfl, _, by rw [Addr.add_mk]; exact hc' 1 _ rfl, _, by rw [Addr.add_mk]; exact hc' 2 _ rfl, _, _, _, by rw [Addr.add_mk]; exact hc' 3 _ rfl, ?_⟩
    rw [NonNil_some]
    refine ⟨A.1, A.2.1, A.2.2, fun w' hb => kcell hb (h3.blk.cell 0), ?_⟩
    refine hl3.2.1.held (fun _ h => h) hln (i := (j : Int)) (by omega) (by omega) rfl fun b o hc => ?_
    simp only [Int.toNat_natCast] at hc
    refine ⟨_, hc 0 _ rfl, ?_⟩
    refine h3.ar.held (fun _ h => h) h3.an (i := (l[j] : Int)) (by omega) (by rw [h3.an]; omega) rfl fun b' o' hc' => ?_
    simp only [Int.toNat_natCast] at hc'
    refine ⟨_, hc' 0 _ rfl, _, by rw [Addr.add_mk]; exact hc' 1 _ rfl, _, by rw [Addr.add_mk]; exact hc' 2 _ rfl, _, _, _, by rw [Addr.add_mk]; exact hc' 3 _ rfl, ?_⟩
    refine ⟨?_, ?_⟩
    · refine al fun ga w4 hb4 hga hgea => ?_
      have b4 := btr hd hd.size hb4
      refine ⟨b4, al fun gb w5 hb5 hgb hgeb => ?_⟩
      have b5 := btr b4 b4.size hb5
      refine ⟨b5, ?_⟩
      have hgab : ¬ gb = ga := by have := hga.lt; omega
      have z1 : w3.heap.size ≤ ga := hgea
      have z2 : w3.heap.size ≤ gb := Nat.le_trans b4.size hgeb
      refine st4b (hga.keep hb5) rfl fun w6 f6 ha6 => ?_
      have b6 : Below w3.heap.size w3 w6 := b5.trans (f6.toBelow b5.size fun b hb e => by omega)
      refine ⟨b6, ?_⟩
      refine st4b (f6.blk hgb hgab) rfl fun w7 f7 hb7 => ?_
      exact ⟨ga, gb, rfl, rfl, b6.trans (f7.toBelow b6.size fun b hb e => by omega), f7.blk ha6 (Ne.symm hgab), hb7⟩
    · refine al fun gb w4 hb4 hgb hgeb => ?_
      have b4 := btr hd hd.size hb4
      refine ⟨b4, al fun ga w5 hb5 hga hgea => ?_⟩
      have b5 := btr b4 b4.size hb5
      refine ⟨b5, ?_⟩
      have hgab : ¬ gb = ga := by have := hgb.lt; omega
      have z1 : w3.heap.size ≤ gb := hgeb
      have z2 : w3.heap.size ≤ ga := Nat.le_trans b4.size hgea
      refine st4b hga rfl fun w6 f6 ha6 => ?_
      have b6 : Below w3.heap.size w3 w6 := b5.trans (f6.toBelow b5.size fun b hb e => by omega)
      refine ⟨b6, ?_⟩
      refine st4b (f6.blk (hgb.keep hb5) hgab) rfl fun w7 f7 hb7 => ?_
      exact ⟨ga, gb, rfl, rfl, b6.trans (f7.toBelow b6.size fun b hb e => by omega), f7.blk ha6 (Ne.symm hgab), hb7⟩
theorem clearO_calls {m : Pl} {fo : List (List Nat)} {A fi F la : Sv} {es : List E4} {vs : List Sv} (h : RdO w g m fo A fi F la es vs) (hbe : Beside m fo) (hR : ∀ (b : Bool) w', (b = true ↔ ClearP m) → Below w.heap.size w w' → R (.returned (.bool b)) w') :
    Calls Try.prog 10 #[.pointer (some ⟨g, 0, none⟩)] w R := by
  refine ok10 _ ?_
  unfold F10
  have hfl : fo.length = m.fol.length := hbe.once.1.symm
  have hal := hbe.ok.len
  have hle := hbe.ok.le
  have hmem : ∀ (k : Nat) (hk : k < fo.length) (hk' : k < m.fol.length) x, x ∈ fo[k] ↔ x ∈ m.fol[k] := fun k hk hk' x => by
    have := hbe.once.mem k x
    rw [List.getD_eq_getElem?_getD, List.getD_eq_getElem?_getD, List.getElem?_eq_getElem hk, List.getElem?_eq_getElem hk'] at this
    exact this
  rw [NonNil_some]
  refine lSl (by rw [Addr.add_mk]; exact h.blk.cell 1) ?_
  refine apart_calls (v := (fi.1, fi.2.1, fi.2.2)) h hbe h.fst hbe.ok.first.2 ?_
  intro b0 w1 hb0 hbl1
  refine ⟨b0, rfl, ?_⟩
  refine ⟨fun ok w' => (ok = true ↔ ClearP m) ∧ Below w.heap.size w w', ?_, ?_⟩
  · rintro ok w2 ⟨h1, h2⟩
    unfold F10_j6
    exact hR ok w2 h1 h2
  refine ⟨fun ok i w' => ∃ k : Nat, i = k ∧ k ≤ m.fol.length ∧ (ok = true ↔ Apt m m.first ∧ ∀ l ∈ m.fol.take k, Apt m l) ∧ Below w.heap.size w w', fun ok i _ => m.fol.length - i.toNat, ⟨0, rfl, by omega, by simpa using hb0, hbl1⟩, ?_⟩
  rintro ok i w2 ⟨k, rfl, hk, hok, hb2⟩
  unfold F10_l3
  have h2 := h.below hb2
  refine ⟨fun w' => w' = w2 ∧ k < m.fol.length ∧ ok = true, ?_, ?_⟩
  · rintro w3 ⟨rfl, hk2, rfl⟩
    unfold F10_j5
    rw [NonNil_some]
    refine lSl (by rw [Addr.add_mk]; exact h2.blk.cell 2) ?_
    have hkf : k < fo.length := by omega
    have hkv : k < vs.length := by rw [h2.fol.1]; exact hkf
    refine h2.fr.idx h2.fn (i := (k : Int)) (by omega) (by rw [h2.fn]; omega) rfl fun b o hc => ?_
    simp only [Int.toNat_natCast] at hc
    refine lSl (hc 0 _ rfl) ?_
    have hrv := h2.fol.2 k _ _ (List.getElem?_eq_getElem hkv) (List.getElem?_eq_getElem hkf)
    refine apart_calls (v := (vs[k].1, vs[k].2.1, vs[k].2.2)) h2 hbe hrv (fun x hx => (hbe.ok.fol _ (List.getElem_mem hk2)).2 x ((hmem k hkf hk2 x).1 hx)) ?_
    intro b1 w4 hb1 hbl4
    refine ⟨b1, rfl, inR_i64 (by omega) (by omega), ⟨k + 1, by simp, by omega, ?_, btr hb2 hb2.size hbl4⟩, by dsimp only; omega⟩
    have htk : m.fol.take (k + 1) = m.fol.take k ++ [m.fol[k]] := by rw [List.take_add_one, List.getElem?_eq_getElem hk2, Option.toList_some]
    have hapt : Apt m fo[k] ↔ Apt m m.fol[k] := by
      unfold Apt
      exact ⟨fun h x hx y hy => h x ((hmem k hkf hk2 x).2 hx) y ((hmem k hkf hk2 y).2 hy), fun h x hx y hy => h x ((hmem k hkf hk2 x).1 hx) y ((hmem k hkf hk2 y).1 hy)⟩
    have hok' := hok.1 rfl
    rw [hb1, hapt, htk]
    constructor
    · intro h
      refine ⟨hok'.1, fun l hl => ?_⟩
      rcases List.mem_append.1 hl with hl | hl
      · exact hok'.2 l hl
      · rw [List.mem_singleton.1 hl]; exact h
    · intro h
      exact h.2 _ (List.mem_append_right _ (List.mem_singleton.2 rfl))
  · rw [NonNil_some]
    refine lSl (h2.blk.cell 0) ?_
    have hn : A.2.1 = m.fol.length := by rw [h2.an, h2.at_.1, hal]
    have fin : (ok = true ↔ ClearP m) → (ok = true ↔ ClearP m) ∧ Below w.heap.size w w2 := fun h => ⟨h, hb2⟩
    refine brd (fun hlt => ?_) (fun hge => ?_)
    · cases ok with
      | true => exact ⟨rfl, by omega, rfl⟩
      | false =>
        refine fin ⟨(fun h => by cases h), fun hc => ?_⟩
        exact hok.2 ⟨hc.1, fun l hl => hc.2 l (List.mem_of_mem_take hl)⟩
    · obtain rfl : k = m.fol.length := by omega
      rw [List.take_length] at hok
      exact fin hok
end
end Go.Proofs.Ytkmoeokfgkmlhaa
/- Models: Parse, which recovers what the reader panics with. -/
namespace Go.Proofs.Ytkmoeokfgkmlhaa
open Go.RowKit Go.Vc Go.Mdl
set_option linter.unusedVariables false
set_option linter.unusedSimpArgs false
set_option maxRecDepth 100000
section
variable {w w1 : World} {R : Ending → World → Prop} {g : Nat}
theorem parse_results {tmps : Array Value} {a b c : Addr} {p : Option Addr} {n m : Int} (hsz : tmps.size = 27) (h2 : tmps.getD 2 undef = .pointer (some a)) (h3 : tmps.getD 3 undef = .pointer (some b)) (h4 : tmps.getD 4 undef = .pointer (some c))
    (c2 : w.cell? a = some (.pointer p)) (c3 : w.cell? b = some (.int .i64 n)) (c4 : w.cell? c = some (.int .i64 m)) :
    (results Try.f5 tmps).run Try.prog w = .ok (.tuple #[.pointer p, .int .i64 n, .int .i64 m]) w := by
  let R : Ending → World → Prop := fun e w' => e = .returned (.tuple #[.pointer p, .int .i64 n, .int .i64 m])
  have e : vcRet Try.prog Try.f5 R [.w 2 (.pointer (some a)), .w 3 (.pointer (some b)), .w 4 (.pointer (some c))] w =
      (LdP (w.cell? a) fun p' => LdI .i64 (w.cell? b) fun n' => LdI .i64 (w.cell? c) fun m' => R (.returned (.tuple #[.pointer p', .int .i64 n', .int .i64 m'])) w) := by kernel_rfl
  have h : vcRet Try.prog Try.f5 R [.w 2 (.pointer (some a)), .w 3 (.pointer (some b)), .w 4 (.pointer (some c))] w := by
    rw [e, c2, c3, c4, LdP_some, LdI_some, LdI_some]
  obtain ⟨v, h1, h5⟩ := vcRet_spec (n := 27) (a := ⟨tmps, []⟩) (by
    refine ⟨rfl, by simpa using hsz, fun t v ht => ?_⟩
    simp only [Env.get] at ht
    split at ht
    · rename_i hb; obtain rfl := Nat.eq_of_beq_eq_true hb; cases ht; exact h2
    split at ht
    · rename_i hb; obtain rfl := Nat.eq_of_beq_eq_true hb; cases ht; exact h3
    split at ht
    · rename_i hb; obtain rfl := Nat.eq_of_beq_eq_true hb; cases ht; exact h4
    · cases ht) h
  have h5 : Ending.returned v = .returned (.tuple #[.pointer p, .int .i64 n, .int .i64 m]) := h5
  cases h5
  exact h1
theorem RA0 (w : World) (s : ByteArray) (o1 o2 o3 : Obj) : RAt ((((w.alloc o1).alloc o2).alloc o3).alloc (.cells #[.string s, .int .i64 0, .int .i64 0] 46)) (w.heap.size + 1 + 1 + 1) s s.data.toList 0 := by
  refine ⟨by simp, by simp, by simp, ?_⟩
  have := Blk.alloc_new (((w.alloc o1).alloc o2).alloc o3) #[.string s, .int .i64 0, .int .i64 0] 46
  simpa using this
set_option maxHeartbeats 1000000
/-- The deferred function where nothing is wrong. -/
theorem parse1_plain (args : Array Value) (ha : args.size = 3) (w : World) : CallsD Try.prog 16 args .returning w fun e u' w' => e = .returned (.tuple #[]) ∧ u' = .returning ∧ w' = w := by
  obtain ⟨l⟩ := args
  obtain ⟨x, y, z, rfl⟩ : ∃ x y z, l = [x, y, z] := by
    match l, ha with
    | [x, y, z], _ => exact ⟨x, y, z, rfl⟩
  refine callsD_of_wpS Try.func16 rfl fun c₀ cs hu => ?_
  simp only [Try.ntmps16, List.size_toArray, List.length_cons, List.length_nil, Nat.reduceAdd, Nat.reduceSub, Array.replicate_succ,
     Array.replicate_zero, List.push_toArray, List.append_toArray, List.nil_append, List.cons_append]
  refine wpS_seq (wpS_region ?_)
  have hrec : recoverD (c₀ :: cs) = Option.none := by simp only [recoverD, hu]
  simp only [List.size_toArray, List.length_cons, List.length_nil, Nat.reduceAdd, List.range_succ, List.range_zero, List.nil_append, wpOpsS]
  simp [Region.wanted, execOp, resolve, invoke, builtin, hrec, Act.put]
  unfold Exit.thenS
  refine wpS_of_wp ?_
  go_wp2
  exact ⟨rfl, .returning, by rw [← hu], .tuple #[], results_none rfl _ _ _, rfl, rfl, rfl⟩
theorem parse1_panic (a b c : Nat) (at_ e : Int) (w : World) (va : Option Addr) (vb vc : Int) (ca : w.heap[a]? = some (.cells #[.pointer va] 23 (0, 0))) (cb : w.heap[b]? = some (.cells #[.int .i64 vb] 3 (0, 0))) (cc : w.heap[c]? = some (.cells #[.int .i64 vc] 24 (0, 0))) (hab : a ≠ b) (hac : a ≠ c) (hbc : b ≠ c) :
    CallsD Try.prog 16 #[.pointer (some ⟨a, 0, none⟩), .pointer (some ⟨b, 0, none⟩), .pointer (some ⟨c, 0, none⟩)] (.panicking [{ v := .iface 43 (.agg #[.int .i64 at_, .int .i64 e]), recovered := false }]) w
      fun en u' w' => en = .returned (.tuple #[]) ∧ u' = .panicking [{ v := .iface 43 (.agg #[.int .i64 at_, .int .i64 e]), recovered := true }] ∧
        Fm (fun k => k = a ∨ k = b ∨ k = c) w w' ∧ w'.cell? ⟨a, 0, none⟩ = some (.pointer none) ∧ w'.cell? ⟨b, 0, none⟩ = some (.int .i64 at_) ∧ w'.cell? ⟨c, 0, none⟩ = some (.int .i64 e) := by
  refine callsD_of_wpS Try.func16 rfl fun c₀ cs hu => ?_
  simp only [Try.ntmps16, List.size_toArray, List.length_cons, List.length_nil, Nat.reduceAdd, Nat.reduceSub, Array.replicate_succ,
     Array.replicate_zero, List.push_toArray, List.append_toArray, List.nil_append, List.cons_append]
  refine wpS_seq (wpS_region ?_)
  have hrec : recoverD (c₀ :: cs) = some (.iface 43 (.agg #[.int .i64 at_, .int .i64 e]), { c₀ with mode := .panicking [{ v := .iface 43 (.agg #[.int .i64 at_, .int .i64 e]), recovered := true }] } :: cs) := by simp only [recoverD, hu]
  simp only [List.size_toArray, List.length_cons, List.length_nil, Nat.reduceAdd, List.range_succ, List.range_zero, List.nil_append, wpOpsS]
  simp [Region.wanted, execOp, resolve, invoke, builtin, hrec, Act.put]
  unfold Exit.thenS
  refine wpS_of_wp ?_
  go_wp2
  have hta : (Instr.typeAssert (.iface 43 (.agg #[.int .i64 at_, .int .i64 e])) 20 43 true).run Try.prog w = .ok (.tuple #[.agg #[.int .i64 at_, .int .i64 e], .bool true]) w := by kernel_rfl
  rw [hta]
  simp only [Result.andThen]
  rw [Oper.upon_value]
  go_wp2
  refine vcRegion_sound (n := 16) (fl := ⟨[]⟩) (r := 7) (R := fun _ _ => False) (e := [.w 0 (.pointer (some ⟨a, 0, Option.none⟩)), .w 1 (.pointer (some ⟨b, 0, Option.none⟩)), .w 2 (.pointer (some ⟨c, 0, Option.none⟩)), .w 4 (.pointer (some ⟨w.heap.size, 0, Option.none⟩))])
    (K := fun _ w' => Fm (fun k => k = a ∨ k = b ∨ k = c) w w' ∧ w'.cell? ⟨a, 0, Option.none⟩ = some (.pointer Option.none) ∧ w'.cell? ⟨b, 0, Option.none⟩ = some (.int .i64 at_) ∧ w'.cell? ⟨c, 0, Option.none⟩ = some (.int .i64 e))
    (by kernel_rfl) (fun _ _ _ _ h => h.elim) (fun _ h => h.elim) ?_ ?_ ?_ ?_
  · intro ch a' w' d v h
    cases d <;> exact h
  · refine ⟨rfl, rfl, fun t v ht => ?_⟩
    simp only [Env.get] at ht
    split at ht
    · rename_i hb; obtain rfl := Nat.eq_of_beq_eq_true hb; cases ht; rfl
    split at ht
    · rename_i hb; obtain rfl := Nat.eq_of_beq_eq_true hb; cases ht; rfl
    split at ht
    · rename_i hb; obtain rfl := Nat.eq_of_beq_eq_true hb; cases ht; rfl
    split at ht
    · rename_i hb; obtain rfl := Nat.eq_of_beq_eq_true hb; cases ht; rfl
    · cases ht
  · intro e' a' w' hx hs hk
    have key : bodyPostS Try.prog Try.f16 c₀ cs (fun en u' w' => en = .returned (.tuple #[]) ∧ u' = .panicking [{ v := .iface 43 (.agg #[.int .i64 at_, .int .i64 e]), recovered := true }] ∧
        Fm (fun k => k = a ∨ k = b ∨ k = c) w w' ∧ w'.cell? ⟨a, 0, Option.none⟩ = some (.pointer Option.none) ∧ w'.cell? ⟨b, 0, Option.none⟩ = some (.int .i64 at_) ∧ w'.cell? ⟨c, 0, Option.none⟩ = some (.int .i64 e)) .normal a'
        ({ c₀ with mode := .panicking [{ v := .iface 43 (.agg #[.int .i64 at_, .int .i64 e]), recovered := true }] } :: cs) w' :=
      ⟨hs.1, _, rfl, .tuple #[], results_none rfl _ _ _, rfl, rfl, hk⟩
    exact key
  · suffices h : ∃ S : World → Prop, S (w.alloc (Obj.cells #[Value.int IntKind.i64 at_, Value.int IntKind.i64 e] 43)).drew ∧ ∃ x : Int, Held S ⟨w.heap.size, 0, Option.none⟩ (.int .i64 x) ∧ ∃ y : Int, Held S (Addr.add ⟨w.heap.size, 0, Option.none⟩ 1) (.int .i64 y) ∧ St (w.alloc (Obj.cells #[Value.int IntKind.i64 at_, Value.int IntKind.i64 e] 43)).drew ⟨a, 0, Option.none⟩ (.pointer Option.none) fun w1 => S w1 ∧ St w1 ⟨b, 0, Option.none⟩ (.int .i64 x) fun w2 => S w2 ∧ St w2 ⟨c, 0, Option.none⟩ (.int .i64 y) fun w' =>
        Fm (fun k => k = a ∨ k = b ∨ k = c) w w' ∧ w'.cell? ⟨a, 0, Option.none⟩ = some (.pointer Option.none) ∧ w'.cell? ⟨b, 0, Option.none⟩ = some (.int .i64 at_) ∧ w'.cell? ⟨c, 0, Option.none⟩ = some (.int .i64 e) by
      refine Eq.mp ?_ h
      kernel_rfl
    have hB : Below w.heap.size w (w.alloc (Obj.cells #[Value.int IntKind.i64 at_, Value.int IntKind.i64 e] 43)).drew := ((Below.refl _ _).alloc (Nat.le_refl _) _).drew
    have hbx : Blk (w.alloc (Obj.cells #[Value.int IntKind.i64 at_, Value.int IntKind.i64 e] 43)).drew w.heap.size #[.int .i64 at_, .int .i64 e] 43 := Blk.alloc_new w _ _
    have qa := Blk.keep (show Blk w a _ _ from ca) hB
    have qb := Blk.keep (show Blk w b _ _ from cb) hB
    have qc := Blk.keep (show Blk w c _ _ from cc) hB
    have la := (Array.getElem?_eq_some_iff.1 ca).1
    have lb := (Array.getElem?_eq_some_iff.1 cb).1
    have lc := (Array.getElem?_eq_some_iff.1 cc).1
    generalize (w.alloc (Obj.cells #[Value.int IntKind.i64 at_, Value.int IntKind.i64 e] 43)).drew = w1 at hB hbx qa qb qc ⊢
    refine ⟨fun w' => Blk w' w.heap.size #[.int .i64 at_, .int .i64 e] 43, hbx, at_, fun w' h => h.cell 0, e, fun w' h => h.cell 1, ?_⟩
    refine st_blk (g := a) (i := 0) qa (by simp) fun w2 qa2 f2 => ⟨f2.blk hbx (by omega), st_blk (g := b) (i := 0) (f2.blk qb (Ne.symm hab)) (by simp) fun w3 qb3 f3 => ⟨f3.blk (f2.blk hbx (by omega)) (by omega), st_blk (g := c) (i := 0) (f3.blk (f2.blk qc (Ne.symm hac)) (Ne.symm hbc)) (by simp) fun w4 qc4 f4 => ?_⟩⟩
    refine ⟨(((Fm.below hB).trans (f2.mono fun b _ e => .inl e)).trans (f3.mono fun b _ e => .inr (.inl e))).trans (f4.mono fun b _ e => .inr (.inr e)), (f4.blk (f3.blk qa2 hab) hac).cell 0, (f4.blk qb3 hbc).cell 0, qc4.cell 0⟩
/-- What is behind a panic of the reader's, and behind none. -/
theorem leaf_panic {tmps : Array Value} {R : Ending → World → Prop} {a b c : Nat} {at_ e : Int} {w : World} {va : Option Addr} {vb vc : Int} (hsz : tmps.size = 27) (h2 : tmps.getD 2 undef = .pointer (some ⟨a, 0, Option.none⟩)) (h3 : tmps.getD 3 undef = .pointer (some ⟨b, 0, Option.none⟩)) (h4 : tmps.getD 4 undef = .pointer (some ⟨c, 0, Option.none⟩))
    (ca : Blk w a #[.pointer va] 23) (cb : Blk w b #[.int .i64 vb] 3) (cc : Blk w c #[.int .i64 vc] 24) (hab : a ≠ b) (hac : a ≠ c) (hbc : b ≠ c)
    (hR : ∀ w', Fm (fun k => k = a ∨ k = b ∨ k = c) w w' → R (.returned (.tuple #[.pointer Option.none, .int .i64 at_, .int .i64 e])) w') :
    Leaves Try.prog Try.f5 tmps R [{ target := .fn (.func 16) #[.pointer (some ⟨a, 0, Option.none⟩), .pointer (some ⟨b, 0, Option.none⟩), .pointer (some ⟨c, 0, Option.none⟩)], args := #[] }] (.panicking (oops at_ e)) w := by
  refine leaves_cons (f := 16) (args := #[.pointer (some ⟨a, 0, Option.none⟩), .pointer (some ⟨b, 0, Option.none⟩), .pointer (some ⟨c, 0, Option.none⟩)]) (by simp) (by kernel_rfl) ?_
  refine (parse1_panic a b c at_ e w va vb vc ca cb cc hab hac hbc).mono ?_
  rintro en u' w' ⟨rfl, rfl, hf, q2, q3, q4⟩
  exact ⟨_, parse_results hsz h2 h3 h4 q2 q3 q4, hR w' hf⟩
theorem leaf_ret {tmps : Array Value} {R : Ending → World → Prop} {a b c : Nat} {w : World} {va : Option Addr} {vb vc : Int} (hsz : tmps.size = 27) (h2 : tmps.getD 2 undef = .pointer (some ⟨a, 0, Option.none⟩)) (h3 : tmps.getD 3 undef = .pointer (some ⟨b, 0, Option.none⟩)) (h4 : tmps.getD 4 undef = .pointer (some ⟨c, 0, Option.none⟩))
    (ca : w.cell? ⟨a, 0, Option.none⟩ = some (.pointer va)) (cb : w.cell? ⟨b, 0, Option.none⟩ = some (.int .i64 vb)) (cc : w.cell? ⟨c, 0, Option.none⟩ = some (.int .i64 vc))
    (hR : R (.returned (.tuple #[.pointer va, .int .i64 vb, .int .i64 vc])) w) :
    Leaves Try.prog Try.f5 tmps R [{ target := .fn (.func 16) #[.pointer (some ⟨a, 0, Option.none⟩), .pointer (some ⟨b, 0, Option.none⟩), .pointer (some ⟨c, 0, Option.none⟩)], args := #[] }] .returning w := by
  refine leaves_cons (f := 16) (args := #[.pointer (some ⟨a, 0, Option.none⟩), .pointer (some ⟨b, 0, Option.none⟩), .pointer (some ⟨c, 0, Option.none⟩)]) (by simp) (by kernel_rfl) ?_
  refine (parse1_plain _ rfl w).mono ?_
  rintro en u' w' ⟨rfl, rfl, rfl⟩
  exact ⟨_, parse_results hsz h2 h3 h4 ca cb cc, hR⟩
theorem parse_calls {s : ByteArray} (w : World) {R : Ending → World → Prop}
    (h1 : ∀ g w' rows, Mdl.parse s.data.toList = .ok rows → RdM w' g rows (placed rows) → Below w.heap.size w w' → R (.returned (.tuple #[.pointer (some ⟨g, 0, Option.none⟩), .int .i64 0, .int .i64 0])) w')
    (h2 : ∀ pos e at_ w', Mdl.parse s.data.toList = .error (pos, e) → Below w.heap.size w w' → R (.returned (.tuple #[.pointer Option.none, .int .i64 at_, .int .i64 (e : Int)])) w') :
    Calls Try.prog 5 #[.string s] w R := by
  have hsz : s.data.toList.length = s.size := by simp
  have A0 : Below w.heap.size w ((w.alloc (Obj.cells #[Value.pointer Option.none] 23)).alloc (Obj.cells #[Value.int IntKind.i64 0] 3)) := ((Below.refl _ _).alloc (Nat.le_refl _) _).alloc (by simp) _
  have c2 : ∀ o1 o2, (((w.alloc (Obj.cells #[Value.pointer Option.none] 23)).alloc o1).alloc o2).heap[w.heap.size]? = some (Obj.cells #[Value.pointer Option.none] 23) := fun o1 o2 => by
    rw [Below.heap_alloc _ _ _ (by simp; omega), Below.heap_alloc _ _ _ (by simp)]; exact Blk.alloc_new w _ _
  have c3 : ∀ o1 o2, (((w.alloc o1).alloc (Obj.cells #[Value.int IntKind.i64 0] 3)).alloc o2).heap[w.heap.size + 1]? = some (Obj.cells #[Value.int IntKind.i64 0] 3) := fun o1 o2 => by
    rw [Below.heap_alloc _ _ _ (by simp)]
    have := Blk.alloc_new (w.alloc o1) #[Value.int IntKind.i64 0] 3
    unfold Blk at this
    simpa using this
  have c4 : ∀ o1 o2 (v : Int), (((w.alloc o1).alloc o2).alloc (Obj.cells #[Value.int IntKind.i64 v] 24)).heap[w.heap.size + 1 + 1]? = some (Obj.cells #[Value.int IntKind.i64 v] 24) := fun o1 o2 v => by
    have := Blk.alloc_new ((w.alloc o1).alloc o2) #[Value.int IntKind.i64 v] 24
    unfold Blk at this
    simpa using this
  go_enter_defers Try.func5, Try.ntmps5
  go_wp2_with (first
    | (go_at_call 17; refine choices_calls (s.data.toList.length + 1) _ _ s s.data.toList 0 _ (RA0 _ _ _ _ _) (by omega) (by omega) ?_))
  · refine ⟨_, parse_results rfl rfl rfl rfl (blk_cell (c2 _ _) 0) (blk_cell (c3 _ _) 0) (blk_cell (c4 _ _ _) 0), ?_⟩
    refine h2 s.data.toList.length eLong 0 _ ?_ (A0.alloc (Nat.le_trans (by simp) A0.size) _)
    unfold Mdl.parse
    rw [if_pos (by omega)]
  rename_i hle
  unfold Mdl.parse at h1 h2
  rw [if_neg (by omega)] at h1 h2
  have d2 := fun o1 o2 => Blk.keep (show Blk _ _ _ _ from c2 o1 o2) ((Below.refl _ _).alloc (Nat.le_refl _) (Obj.cells #[Value.string s, Value.int IntKind.i64 0, Value.int IntKind.i64 0] 46))
  have d3 := fun o1 o2 => Blk.keep (show Blk _ _ _ _ from c3 o1 o2) ((Below.refl _ _).alloc (Nat.le_refl _) (Obj.cells #[Value.string s, Value.int IntKind.i64 0, Value.int IntKind.i64 0] 46))
  have d4 := fun o1 o2 => Blk.keep (show Blk _ _ _ _ from c4 o1 o2 0) ((Below.refl _ _).alloc (Nat.le_refl _) (Obj.cells #[Value.string s, Value.int IntKind.i64 0, Value.int IntKind.i64 0] 46))
  have A1 := (A0.alloc (Nat.le_trans (by simp) A0.size) (Obj.cells #[Value.int IntKind.i64 0] 24)).alloc (by simp; omega) (Obj.cells #[Value.string s, Value.int IntKind.i64 0, Value.int IntKind.i64 0] 46)
  replace d2 := d2 (Obj.cells #[Value.int IntKind.i64 0] 3) (Obj.cells #[Value.int IntKind.i64 0] 24)
  replace d3 := d3 (Obj.cells #[Value.pointer Option.none] 23) (Obj.cells #[Value.int IntKind.i64 0] 24)
  replace d4 := d4 (Obj.cells #[Value.pointer Option.none] 23) (Obj.cells #[Value.int IntKind.i64 0] 3)
  have hWs : w.heap.size + 1 + 1 + 1 < ((((w.alloc (Obj.cells #[Value.pointer Option.none] 23)).alloc (Obj.cells #[Value.int IntKind.i64 0] 3)).alloc (Obj.cells #[Value.int IntKind.i64 0] 24)).alloc (Obj.cells #[Value.string s, Value.int IntKind.i64 0, Value.int IntKind.i64 0] 46)).heap.size := by simp
  clear c2 c3 c4 A0
  generalize ((((w.alloc (Obj.cells #[Value.pointer Option.none] 23)).alloc (Obj.cells #[Value.int IntKind.i64 0] 3)).alloc (Obj.cells #[Value.int IntKind.i64 0] 24)).alloc (Obj.cells #[Value.string s, Value.int IntKind.i64 0, Value.int IntKind.i64 0] 46)) = W at d2 d3 d4 A1 hWs ⊢
  cases hc : choices (s.data.toList.length + 1) s.data.toList 0 with
  | error x =>
    obtain ⟨pos, e⟩ := x
    rw [hc] at h2
    intro at_ w' f'
    refine leaf_panic rfl rfl rfl rfl (f'.blk d2 (by omega)) (f'.blk d3 (by omega)) (f'.blk d4 (by omega)) (by omega) (by omega) (by omega) fun w2 f2 => ?_
    exact h2 pos e at_ w2 rfl (A1.trans ((f'.toBelow A1.size fun b hb e => by omega).trans (f2.toBelow (Nat.le_trans A1.size f'.size) fun b hb e => by omega)))
  | ok x =>
    obtain ⟨rows, l, n⟩ := x
    rw [hc] at h1 h2
    dsimp only at h1 h2
    rintro w1 _ hra f1 ⟨sl, rfl, hrd⟩
    dsimp only
    go_wp2_with (first
      | (go_at_call 18; refine ends_calls hra (by omega) ?_))
    intro w2 hra2 f2
    have F2 := f1.trans f2
    have e2 := F2.blk d2 (by omega)
    have e3 := F2.blk d3 (by omega)
    have e4 := F2.blk d4 (by omega)
    cases hsk : skip l with
    | cons c r =>
      rw [hsk] at h2
      have hc0 : w2.cell? ⟨w.heap.size + 1 + 1 + 1, 1, Option.none⟩ = some (.int .i64 ((s.size - (skip l).length : Nat) : Int)) := hra2.blk.cell 1
      simp only [List.isEmpty_cons]
      go_wp2_with (first
        | (go_at_call 19; refine ok19 _ _ _ ?_; unfold F19))
      refine leaf_panic rfl rfl rfl rfl e2 e3 e4 (by omega) (by omega) (by omega) fun w' f' => ?_
      exact h2 _ eMore _ w' rfl (A1.trans ((F2.toBelow A1.size fun b hb e => by omega).trans (f'.toBelow (Nat.le_trans A1.size F2.size) fun b hb e => by omega)))
    | nil =>
      rw [hsk] at h1
      obtain ⟨ok1, le1, co1, mx1⟩ := sound _ _ _ _ _ _ hc (by simp [maxParts])
      have hrd2 : RdC w2 rows sl := hrd.sub ((above_fm f2 (Nat.le_refl _) (fun b hb e => by omega)).trans sub_of_only)
      simp only [List.isEmpty_nil]
      go_wp2_with (first
        | (go_at_call 20; refine placed_calls hrd2 (by unfold maxParts at mx1; omega) ?_))
      intro g w3 hm hb3
      have B3 : Below w.heap.size w w3 := A1.trans ((F2.toBelow A1.size fun b hb e => by omega).trans (hb3.mono (Nat.le_trans A1.size F2.size)))
      have q2 := e2.keep hb3
      have q3 := e3.keep hb3
      have q4 := e4.keep hb3
      have c2 : w3.cell? ⟨w.heap.size, 0, Option.none⟩ = some (.pointer Option.none) := q2.cell 0
      have c3 : w3.cell? ⟨w.heap.size + 1, 0, Option.none⟩ = some (.int .i64 0) := q3.cell 0
      have c4 : w3.cell? ⟨w.heap.size + 1 + 1, 0, Option.none⟩ = some (.int .i64 0) := q4.cell 0
      have z2 := q2.frozen 0
      have z3 := q3.frozen 0
      have z4 := q4.frozen 0
      go_wp2
      have F : Fm (fun k => k = w.heap.size ∨ k = w.heap.size + 1 ∨ k = w.heap.size + 1 + 1) w3 (((w3.setCell ⟨w.heap.size, 0, Option.none⟩ (.pointer (some ⟨g, 0, Option.none⟩))).setCell ⟨w.heap.size + 1, 0, Option.none⟩ (.int .i64 0)).setCell ⟨w.heap.size + 1 + 1, 0, Option.none⟩ (.int .i64 0)) :=
        (((Fm.refl _ _).set (fun _ => .inl rfl) _).set (fun _ => .inr (.inl rfl)) _).set (fun _ => .inr (.inr rfl)) _
      have r2 := ((q2.set 0 (.pointer (some ⟨g, 0, Option.none⟩))).other (a := ⟨w.heap.size + 1, 0, Option.none⟩) (by simp) (.int .i64 0)).other (a := ⟨w.heap.size + 1 + 1, 0, Option.none⟩) (by simp; omega) (.int .i64 0)
      have r3 := ((q3.other (a := ⟨w.heap.size, 0, Option.none⟩) (by simp) (.pointer (some ⟨g, 0, Option.none⟩))).set 0 (.int .i64 0)).other (a := ⟨w.heap.size + 1 + 1, 0, Option.none⟩) (by simp) (.int .i64 0)
      have r4 := ((q4.other (a := ⟨w.heap.size, 0, Option.none⟩) (by simp; omega) (.pointer (some ⟨g, 0, Option.none⟩))).other (a := ⟨w.heap.size + 1, 0, Option.none⟩) (by simp) (.int .i64 0)).set 0 (.int .i64 0)
      generalize (((w3.setCell ⟨w.heap.size, 0, Option.none⟩ (.pointer (some ⟨g, 0, Option.none⟩))).setCell ⟨w.heap.size + 1, 0, Option.none⟩ (.int .i64 0)).setCell ⟨w.heap.size + 1 + 1, 0, Option.none⟩ (.int .i64 0)) = w4 at F r2 r3 r4 ⊢
      refine leaf_ret rfl rfl rfl rfl (r2.cell 0) (r3.cell 0) (r4.cell 0) ?_
      have hs1 := f1.size
      have hs2 := f2.size
      refine h1 g w4 rows rfl ⟨sl, hm.sub ((above_fm F (Nat.le_refl _) (fun b hb e => by omega)).trans sub_of_only), hrd.sub (((above_fm f2 (Nat.le_refl _) (fun b hb e => by omega)).trans ((above_fm (M := fun _ => False) (Fm.below hb3) (Nat.le_refl _) (fun b hb e => e)).trans (above_fm F (Nat.le_refl _) (fun b hb e => by omega)))).trans sub_of_only)⟩ (B3.trans (F.toBelow B3.size fun b hb e => by omega))
end
end Go.Proofs.Ytkmoeokfgkmlhaa
/- Models in plain: an error has a number; the laws' texts. -/
namespace Go.Mdl
set_option linter.unusedVariables false
set_option linter.unusedSimpArgs false
def NE {α : Type} (r : Res α) : Prop := ∀ p e, r = .error (p, e) → e ≠ 0
theorem ne_atom {ch : List UInt8 → Nat → Res (List (List Part))} {l : List UInt8} {n : Nat} (hn : n ≤ maxParts) (hc : ∀ l' n', l'.length < l.length → n' ≤ maxParts → NE (ch l' n')) : NE (atom ch l n) := by
  intro p e h
  have hs := skip_len l
  unfold atom at h
  split at h
  · cases h; decide
  rename_i c r hl
  rw [hl] at hs
  split at h
  · split at h
    · cases h; decide
    split at h
    · cases h; decide
    · cases h
  split at h
  · split at h
    · cases h; decide
    · cases h
  split at h
  · cases h; decide
  split at h
  · cases h; decide
  rename_i hm
  split at h
  · rename_i x hx
    cases h
    exact hc r (n + 1) (by simp at hs; omega) (by omega) _ _ hx
  · split at h
    · cases h; decide
    split at h
    · cases h
    · cases h; decide
theorem ne_part {ch : List UInt8 → Nat → Res (List (List Part))} {l : List UInt8} {n : Nat} (hn : n ≤ maxParts) (hc : ∀ l' n', l'.length < l.length → n' ≤ maxParts → NE (ch l' n')) : NE (part ch l n) := by
  intro p e h
  unfold part at h
  split at h
  · rename_i x hx
    cases h
    exact ne_atom hn hc _ _ hx
  split at h
  · cases h
  split at h
  · split at h
    · cases h; decide
    · cases h
  · cases h
theorem ne_row {g : Nat} : ∀ (f : Nat) (l : List UInt8) (n : Nat), l.length < f → n ≤ maxParts → (∀ l' n', l'.length < l.length → n' ≤ maxParts → NE (choices g l' n')) → NE (row (choices g) f l n)
  | 0, l, n, h, _, _ => by omega
  | f + 1, l, n, hf, hn, hc => by
    intro p e h
    rw [row_succ] at h
    split at h
    · rename_i x hx
      cases h
      exact ne_part hn hc _ _ hx
    rename_i q l1 n1 hq
    obtain ⟨ok1, le1, co1, mx1⟩ := sound_part (sound g) l n _ _ _ hq hn
    have hs := skip_len l1
    unfold rowT at h
    split at h
    · cases h
    rename_i c r hl
    rw [hl] at hs
    split at h
    · split at h
      · cases h; decide
      · rename_i hm
        cases hr : row (choices g) f r (n1 + 1) with
        | ok y => rw [hr] at h; obtain ⟨a, b, c⟩ := y; cases h
        | error y =>
          obtain ⟨p', e'⟩ := y
          rw [hr] at h
          cases h
          simp only [List.length_cons] at hs
          exact ne_row f r (n1 + 1) (by omega) (by omega) (fun l' n' h1 h2 => hc l' n' (by omega) h2) _ _ hr
    · cases h
theorem ne_rows {g : Nat} : ∀ (f : Nat) (l : List UInt8) (n : Nat), l.length < f → l.length ≤ g → n ≤ maxParts → (∀ l' n', l'.length < l.length → n' ≤ maxParts → NE (choices g l' n')) → NE (rowsL (row (choices g) (g + 1)) f l n)
  | 0, l, n, h, _, _, _ => by omega
  | f + 1, l, n, hf, hg, hn, hc => by
    intro p e h
    rw [rows_succ] at h
    split at h
    · rename_i x hx
      cases h
      exact ne_row (g + 1) l n (by omega) hn hc _ _ hx
    rename_i q l1 n1 hq
    obtain ⟨ok1, le1, co1, mx1⟩ := sound_row (sound g) (g + 1) l n _ _ _ hq hn
    have hs := skip_len l1
    unfold rowsT at h
    split at h
    · cases h
    rename_i c r hl
    rw [hl] at hs
    split at h
    · split at h
      · cases h; decide
      · rename_i hm
        cases hr : rowsL (row (choices g) (g + 1)) f r (n1 + 1) with
        | ok y => rw [hr] at h; obtain ⟨a, b, c⟩ := y; cases h
        | error y =>
          obtain ⟨p', e'⟩ := y
          rw [hr] at h
          cases h
          simp only [List.length_cons] at hs
          exact ne_rows f r (n1 + 1) (by omega) (by omega) (by omega) (fun l' n' h1 h2 => hc l' n' (by omega) h2) _ _ hr
    · cases h
theorem ne_choices : ∀ (f : Nat) (l : List UInt8) (n : Nat), l.length < f → n ≤ maxParts → NE (choices f l n)
  | 0, l, n, h, _ => by omega
  | f + 1, l, n, h, hn => by
    unfold choices
    exact ne_rows (f + 1) l n h (by omega) hn fun l' n' h1 h2 => ne_choices f l' n' (by omega) h2
theorem parse_ne {s : List UInt8} {p e : Nat} (h : parse s = .error (p, e)) : e ≠ 0 := by
  unfold parse at h
  split at h
  · cases h; decide
  split at h
  · rename_i x hx
    cases h
    exact ne_choices _ _ _ (by omega) (by simp) _ _ hx
  · split at h
    · cases h
    · cases h; decide
def ba (l : List UInt8) : ByteArray := ⟨l.toArray⟩
theorem ba_append (a b : List UInt8) : ba a ++ ba b = ba (a ++ b) := by
  apply ByteArray.ext
  simp [ba]
theorem ba_size (a : List UInt8) : (ba a).size = a.length := by simp [ba, ByteArray.size]
theorem ba_list (a : List UInt8) : (ba a).data.toList = a := by simp [ba]
/-- The laws' texts, as the program writes them. -/
theorem laws_text (A B : List (List Part)) : (laws A B).map (fun l => (tC l.1, tC l.2)) =
    [(([40] ++ tC A) ++ [41], tC A),
     ((([40] ++ tC A) ++ [41]) ++ [63], ([40] ++ (([40] ++ tC A) ++ [41])) ++ [124, 45, 41]),
     ((([40] ++ tC A) ++ [41]) ++ [43], ((([40] ++ (([40] ++ tC A) ++ [41])) ++ [44]) ++ (([40] ++ tC A) ++ [41])) ++ [42, 41]),
     (([40] ++ (([40] ++ tC A) ++ [41])) ++ [42, 41, 42], (([40] ++ tC A) ++ [41]) ++ [42]),
     ((((((([40, 40] ++ (([40] ++ tC A) ++ [41])) ++ [44]) ++ (([40] ++ tC B) ++ [41])) ++ [41, 44]) ++ (([40] ++ tC A) ++ [41]))) ++ [41],
      ((((((([40] ++ tC A) ++ [41]) ++ [44, 40]) ++ (([40] ++ tC B) ++ [41])) ++ [44]) ++ (([40] ++ tC A) ++ [41]))) ++ [41]),
     ((((([40] ++ (([40] ++ tC A) ++ [41])) ++ [124]) ++ (([40] ++ tC B) ++ [41]))) ++ [41], (((([40] ++ (([40] ++ tC B) ++ [41])) ++ [124]) ++ (([40] ++ tC A) ++ [41]))) ++ [41])] := by
  have hM : ¬ Mi = Br := by decide
  simp [laws, Po, tC, tCt, tR, tRt, tP, hM]
  simp [Mi]
end Go.Mdl
/- The small living call of the model's laws. -/
namespace Go.Proofs.Ytkmoeokfgkmlhaa
open Go.RowKit Go.Vc Go.Mdl
set_option linter.unusedVariables false
set_option linter.unusedSimpArgs false
set_option maxRecDepth 100000
section
variable {w w1 : World} {R : Ending → World → Prop}
def liveRows : List (List Part) := [[.mk ⟨#[40]⟩ [[.mk ⟨#[97]⟩ [] 0, .mk ⟨#[98]⟩ [] 63]] 42, .mk ⟨#[99]⟩ [] 0]]
theorem live_parse : Mdl.parse [40, 97, 44, 32, 98, 63, 41, 42, 44, 32, 99] = .ok liveRows := by kernel_rfl
theorem live_mat : (placed liveRows).mat [⟨#[97]⟩, ⟨#[97]⟩, ⟨#[98]⟩, ⟨#[99]⟩] = (true, 4) := by kernel_rfl
theorem lives_calls (hR : ∀ w', Below w.heap.size w w' → R (.returned (.bool true)) w') : Calls Try.prog 7 #[] w R := by
  refine ok7 ?_
  unfold F7
  refine parse_calls w (fun g w1 rows hp hm hb1 => ?_) (fun pos e at_ w1 hp => ?_)
  rotate_left
  · have hl : (ByteArray.mk #[40, 97, 44, 32, 98, 63, 41, 42, 44, 32, 99]).data.toList = [40, 97, 44, 32, 98, 63, 41, 42, 44, 32, 99] := rfl
    rw [hl, live_parse] at hp
    exact absurd hp (by simp)
  have hrows : rows = liveRows := by
    have hl : (ByteArray.mk #[40, 97, 44, 32, 98, 63, 41, 42, 44, 32, 99]).data.toList = [40, 97, 44, 32, 98, 63, 41, 42, 44, 32, 99] := rfl
    rw [hl, live_parse] at hp
    exact (Except.ok.inj hp).symm
  subst hrows
  have hok : PlOk (placed liveRows) := placed_ok (Nat.le_of_ble_eq_true (by kernel_rfl))
  have hmat := live_mat
  generalize placed liveRows = pl at hm hok hmat
  refine ⟨_, _, _, rfl, ?_⟩
  refine ⟨fun w' => w' = w1, ?_, rfl⟩
  rintro w1 rfl
  unfold F7_j4
  refine al fun g22 w2 hb2 hg2 hge2 => ?_
  have hn : Rd LSt w2 (some ⟨g22, 0, none⟩) 4 [⟨#[97]⟩, ⟨#[97]⟩, ⟨#[98]⟩, ⟨#[99]⟩] := (Own.lit' (L := LSt) (xs := [⟨#[97]⟩, ⟨#[97]⟩, ⟨#[98]⟩, ⟨#[99]⟩]) (base := 0) hg2 (Nat.zero_le _) rfl (by simp [maxLen])).rd.2
  refine match_calls (names := [⟨#[97]⟩, ⟨#[97]⟩, ⟨#[98]⟩, ⟨#[99]⟩]) (hm.below hb2) hok hn fun w3 hb3 => ?_
  refine ⟨true, 4, by rw [hmat]; rfl, ?_⟩
  refine al fun g27 w4 hb4 hg4 hge4 => ?_
  have hz : RdM w4 g27 [] zeroPl := ⟨(none, 0, 0), ⟨(none, 0, 0), (none, 0, 0), (none, 0, 0), (none, 0, 0), [], hg4, ⟨rfl, Rd.nil _ _⟩, ⟨rfl, Rd.nil _ _, rfl, by simp⟩, RdI.nil _ _, rfl, Rd.nil _ _⟩, [], rfl, Rd.nil _ _, by simp only [RdL]⟩
  have ez : zeroPl.mat [] = (false, 0) := by kernel_rfl
  refine match_calls (names := []) hz zero_ok (Rd.nil LSt w4) fun w5 hb5 => ?_
  refine ⟨false, 0, by rw [ez]; rfl, ?_⟩
  have e4 : ((4 : Int) == (4 : Int)) = true := rfl
  have e0 : ((0 : Int) == (0 : Int)) = true := rfl
  simp only [e4, e0, Br_t, Bool.not_false]
  refine text_calls (hz.below hb5) (by simp only [vC]) (by simp [tC]) fun w6 hb6 => ⟨_, rfl, ?_⟩
  rw [bytes_eq, decide_eq_true (by simp [tC]), Br_t]
  refine clear0_calls ((hg4.keep hb5).keep hb6) fun w7 hb7 => ⟨_, rfl, ?_⟩
  exact hR w7 (btr (btr (btr (btr (btr (btr hb1 hb1.size hb2) (Nat.le_trans hb1.size hb2.size) hb3) (Nat.le_trans (Nat.le_trans hb1.size hb2.size) hb3.size) hb4) (Nat.le_trans (Nat.le_trans (Nat.le_trans hb1.size hb2.size) hb3.size) hb4.size) hb5) (Nat.le_trans (Nat.le_trans (Nat.le_trans (Nat.le_trans hb1.size hb2.size) hb3.size) hb4.size) hb5.size) hb6) (Nat.le_trans (Nat.le_trans (Nat.le_trans (Nat.le_trans (Nat.le_trans hb1.size hb2.size) hb3.size) hb4.size) hb5.size) hb6.size) hb7)
end
end Go.Proofs.Ytkmoeokfgkmlhaa
/- ModelMatches comes to true. -/
namespace Go.Mdl
/-- What Next tells. -/
def nxtS (m : Pl) (names : Wd) : Wd × Bool := if (m.run names).1 < names.length then ([], false) else (nxt (m.names (m.run names).2.1), (m.run names).2.2)
end Go.Mdl
namespace Go.Proofs.Ytkmoeokfgkmlhaa
open Go.RowKit Go.Vc Go.Mdl
set_option linter.unusedVariables false
set_option linter.unusedSimpArgs false
set_option maxRecDepth 100000
section
variable {w w1 : World} {R : Ending → World → Prop} {g B : Nat}
theorem next2_calls {rows : List (List Part)} {m : Pl} {names : Wd} {A : Option Addr} {c : Nat} (h : RdM w g rows m) (ok : PlOk m) (hn : Rd LSt w A c names)
    (hR : ∀ A' c' w', Below w.heap.size w w' → Rd LSt w' A' c' (nxtS m names).1 → R (.returned (.tuple #[.slice A' (nxtS m names).1.length c', .bool (nxtS m names).2])) w') :
    Calls Try.prog 13 #[.pointer (some ⟨g, 0, none⟩), .slice A names.length c] w R := by
  unfold nxtS at hR
  refine next_calls h ok hn (fun hlt w' hb => ?_) (fun hge A' c' w' hb hr => ?_)
  · rw [if_pos hlt] at hR; exact hR none 0 w' hb (Rd.nil _ _)
  · rw [if_neg hge] at hR; exact hR A' c' w' hb hr
theorem nextO2_calls {m : Pl} {fo : List (List Nat)} {A fi F la : Sv} {es : List E4} {vs : List Sv} {names : Wd} {N : Option Addr} {c : Nat} (h : RdO w g m fo A fi F la es vs) (hbe : Beside m fo) (hn : Rd LSt w N c names)
    (hR : ∀ A' c' w', Below w.heap.size w w' → Rd LSt w' A' c' (nxtS m names).1 → R (.returned (.tuple #[.slice A' (nxtS m names).1.length c', .bool (nxtS m names).2])) w') :
    Calls Try.prog 14 #[.pointer (some ⟨g, 0, none⟩), .slice N names.length c] w R := by
  unfold nxtS at hR
  refine nextO_calls h hbe hn (fun hlt w' hb => ?_) (fun hge A' c' w' hb hr => ?_)
  · rw [if_pos hlt] at hR; exact hR none 0 w' hb (Rd.nil _ _)
  · rw [if_neg hge] at hR; exact hR A' c' w' hb hr
theorem texts_calls {l : Wd} {A D : Option Addr} {c d : Nat} (h1 : Rd LSt w A c l) (h2 : Rd LSt w D d l) (hR : ∀ w', Below w.heap.size w w' → R (.returned (.bool true)) w') :
    Calls Try.prog 15 #[.slice A l.length c, .slice D l.length d] w R := by
  refine ok15 _ _ _ _ _ _ ?_
  unfold F15
  have hmx := Nat.le_trans h1.1 h1.2.1
  unfold maxLen at hmx
  have e0 : (((l.length : Nat) : Int) != ((l.length : Nat) : Int)) = false := by simp
  rw [e0, Br_f]
  refine ⟨fun i w' => ∃ k : Nat, i = k ∧ k ≤ l.length ∧ Below w.heap.size w w', fun i _ => l.length - i.toNat, ⟨0, rfl, by omega, Below.refl _ _⟩, ?_⟩
  rintro i w2 ⟨k, rfl, hk, hb2⟩
  unfold F15_l4
  refine brd (fun hlt => ?_) (fun hge => hR w2 hb2)
  have hk2 : k < l.length := by omega
  refine dr fun w3 hb3 _ => ?_
  have hb03 := btr hb2 hb2.size hb3
  refine (h1.keep hb03).idx rfl (by omega) (by omega) rfl fun b o hc => ?_
  simp only [Int.toNat_natCast] at hc
  refine lS (hc 0 _ rfl) ?_
  refine (h2.keep hb03).idx rfl (by omega) (by omega) rfl fun b o hc => ?_
  simp only [Int.toNat_natCast] at hc
  refine lS (hc 0 _ rfl) ?_
  rw [beq_self_eq_true, Bool.not_true, Br_f]
  exact ⟨inR_i64 (by omega) (by omega), ⟨k + 1, by simp, by omega, hb03⟩, by dsimp only; omega⟩
theorem modelMatches_calls {s : ByteArray} {vs : List Sv} {A : Option Addr} {c : Nat} (hv : Rd LSv w A c vs) (hnm : ∀ y ∈ vs, ∃ nm : Wd, y.2.1 = nm.length ∧ Rd LSt w y.1 y.2.2 nm ∧ nm.length * 16 ≤ 140737488355328) (hR : ∀ w', Below w.heap.size w w' → R (.returned (.bool true)) w') :
    Calls Try.prog 3 #[.string s, .slice A vs.length c] w R := by
  refine ok3 _ _ _ _ ?_
  unfold F3
  have hmx := Nat.le_trans hv.1 hv.2.1
  unfold maxLen at hmx
  have lives : ∀ {w2 : World}, Below w.heap.size w w2 → Calls Try.prog 7 #[] w2 (post R fun v3 w3 => ∃ x : Bool, v3 = .bool x ∧ R (.returned (.bool x)) w3) := fun hb =>
    lives_calls fun w' hb' => ⟨true, rfl, hR w' (btr hb hb.size hb')⟩
  refine parse_calls w (fun g1 w1 P1 hp1 hm1 hb1 => ?_) (fun pos e at_ w1 hp1 hb1 => ?_)
  rotate_left
  · have he := parse_ne hp1
    refine ⟨_, _, _, rfl, ?_⟩
    refine refParse_calls w1 (fun rows v w2 hp2 => ?_) (fun e2 at2 why w2 hp2 hw hb2 => ?_)
    · rw [hp1] at hp2; cases hp2
    · refine ⟨_, _, _, _, _, rfl, fun _ => False, fun _ h => h.elim, ?_⟩
      have hx : ((why : Int) != (0 : Int)) = true := by simp; omega
      rw [show (none : Option Addr).isNone = true from rfl, Br_t, Br_t, hx, Br_t]
      exact lives (btr hb1 hb1.size hb2)
  refine ⟨_, _, _, rfl, ?_⟩
  refine refParse_calls w1 (fun rows v w2 hp2 hq hb2 => ?_) (fun e2 at2 why w2 hp2 => ?_)
  rotate_left
  · rw [hp1] at hp2; cases hp2
  rw [hp1] at hp2
  cases hp2
  obtain ⟨okc, ln1, cc1⟩ := parse_ok hp1
  have ok := placed_ok cc1
  refine ⟨v.1, v.2.1, v.2.2, _, _, rfl, fun w' => w' = w2, ?_, ?_⟩
  rotate_left
  · rw [show (some (⟨g1, 0, none⟩ : Addr)).isNone = false from rfl, Br_f, show ((0 : Int) != (0 : Int)) = false from rfl, Br_f]
  rintro w2 rfl
  unfold F3_j5
  have B2 := btr hb1 hb1.size hb2
  have hm2 := hm1.below hb2
  have hbe := (beside cc1).1
  refine refOf_calls (v := (v.1, v.2.1, v.2.2)) (QdC.sub sub_of_only hq) cc1 ?_
  intro g2 w3 A2 fi F la es vs2 ho hb3
  generalize placed P1 = m at hm1 ok hm2 hbe ho
  generalize folO P1 = fo at hbe ho
  refine ⟨_, rfl, ?_⟩
  have B3 := btr B2 B2.size hb3
  have hm3 := hm2.below hb3
  refine clear_calls hm3 ok fun b1 w4 hc1 hb4 => ⟨_, rfl, ?_⟩
  have B4 := btr B3 B3.size hb4
  refine clearO_calls (ho.below hb4) hbe fun b2 w5 hc2 hb5 => ⟨_, rfl, ?_⟩
  have B5 := btr B4 B4.size hb5
  have hb35 := btr hb4 hb4.size hb5
  have hbb : b1 = b2 := by rw [Bool.eq_iff_iff, hc1, hc2]
  rw [hbb, show (b2 == b2) = true from by cases b2 <;> rfl, Bool.not_true, Br_f]
  have hm5 := hm3.below hb35
  have ho5 := ho.below hb35
  clear hc1 hc2 hbb hm1 hm2 hm3 ho hq hb1 hb2 hb3 hb4 hb5 hb35 B2 B3 B4 hp1 okc ln1 cc1
  refine ⟨fun i w' => ∃ k : Nat, i = k ∧ k ≤ vs.length ∧ Below w5.heap.size w5 w', fun i _ => vs.length - i.toNat, ⟨0, rfl, by omega, Below.refl _ _⟩, ?_⟩
  rintro i w6 ⟨k, rfl, hk, hb6⟩
  unfold F3_l9
  have B6 := btr B5 B5.size hb6
  refine brd (fun hlt => ?_) (fun hge => lives B6)
  have hk2 : k < vs.length := by omega
  refine ⟨fun w' => Below w5.heap.size w5 w', ?_, ?_⟩
  · rintro w7 hb7
    unfold F3_j10
    exact ⟨inR_i64 (by omega) (by omega), ⟨k + 1, by simp, by omega, hb7⟩, by dsimp only; omega⟩
  obtain ⟨nm, n1, n2, n3⟩ := hnm _ (List.getElem_mem hk2)
  have hv5 := hv.keep B5
  have n5 := n2.keep B5
  clear hv hnm n2
  -- the names, wherever they are read
  have at_ : ∀ {w' : World} {K : Option Addr → Nat → Nat → Prop}, Below w5.heap.size w5 w' → K vs[k].1 nm.length vs[k].2.2 → IdxA A vs.length (k : Int) 1 fun q => LdSl (w'.cell? q) fun x xN xC => K x xN xC := by
    intro w' K hb hK
    refine (hv5.keep hb).idx rfl (by omega) (by omega) rfl fun b o hc => ?_
    simp only [Int.toNat_natCast] at hc
    refine lSl (hc 0 _ rfl) ?_
    rw [n1]; exact hK
  refine al fun g62 w7 hb7 hg62 hge62 => ?_
  have b7 := btr hb6 hb6.size hb7
  refine at_ b7 ?_
  refine ap (L := LSt) (xs := []) (ys := nm) (base := w7.heap.size) (.string ByteArray.empty) 16 rfl rfl rfl rfl (Own.bare _ _ _ _ _) (n5.keep b7) (Nat.le_refl _) (by simpa using n3) (by simp [maxLen]; omega) fun A8 c8 w8 ho8 hgr8 => ⟨_, _, _, rfl, ?_⟩
  have hr8 := ho8.rd
  simp only [List.nil_append, List.length_nil, Nat.zero_add] at hr8 ⊢
  replace hr8 := hr8.2
  have b8 : Below w5.heap.size w5 w8 := b7.trans (hgr8.below.mono b7.size)
  clear ho8 hgr8 hg62 hge62
  refine match_calls (hm5.below b8) ok hr8 fun w9 hb9 => ⟨_, _, rfl, ?_⟩
  have b9 := btr b8 b8.size hb9
  refine at_ b9 ?_
  refine omatch_calls (ho5.below b9) hbe (n5.keep b9) fun w10 hb10 => ⟨_, _, rfl, ?_⟩
  have b10 := btr b9 b9.size hb10
  have hr10 := hr8.keep (btr hb9 hb9.size hb10)
  refine next2_calls (hm5.below b10) ok hr10 ?_
  intro A11 c11 w11 hb11 hl11
  refine ⟨_, _, _, _, rfl, ?_⟩
  have b11 := btr b10 b10.size hb11
  refine at_ b11 ?_
  refine nextO2_calls (ho5.below b11) hbe (n5.keep b11) ?_
  intro A12 c12 w12 hb12 hl12
  refine ⟨_, _, _, _, rfl, ?_⟩
  have b12 := btr b11 b11.size hb12
  rw [show ((m.mat nm).1 == (m.mat nm).1) = true from by simp, Bool.not_true, Br_f, show (((m.mat nm).2 : Int) != ((m.mat nm).2 : Int)) = false from by simp, Br_f, show ((nxtS m nm).2 == (nxtS m nm).2) = true from by simp, Bool.not_true, Br_f]
  refine texts_calls (hl11.keep hb12) hl12 fun w13 hb13 => ⟨_, rfl, ?_⟩
  have b13 := btr b12 b12.size hb13
  rw [Bool.not_true, Br_f]
  refine at_ b13 ?_
  have hr13 := hr10.keep (btr (btr hb11 hb11.size hb12) (Nat.le_trans hb11.size hb12.size) hb13)
  refine texts_calls hr13 (n5.keep b13) fun w14 hb14 => ⟨_, rfl, ?_⟩
  rw [Bool.not_true, Br_f]
  exact btr b13 b13.size hb14
end
end Go.Proofs.Ytkmoeokfgkmlhaa
/- A list of lists of texts as an argument. -/
namespace Go.Proofs.Ytkmoeokfgkmlhaa
open Go.RowKit Go.Deep Go.WideShapes Go.ChangeShapes Go.Vc Go.Mdl
section
variable {H : Type} {enc : TypeId × Value → H} {P : Program} {W : World} {α : Type}
/-- All that is met in a reading is small. -/
def Wt (P : Program) (t : TypeId) (d : DataW H) : Prop := ∀ n ∈ DataW.weights P t d, n ≤ reachBytes
theorem wt_of {ts : List TypeId} {ds : List (DataW H)} (h : (DataW.weightsEach P ts ds).all (· ≤ reachBytes) = true) {j : Nat} {t : TypeId} {d : DataW H} (ht : ts[j]? = some t) (hd : ds[j]? = some d) : Wt P t d := fun n hn => by
  have := List.all_eq_true.1 h _ (DataW.weights_mem_each ht hd n hn)
  simpa using this
theorem wt_all {e : TypeId} {d : DataW H} : ∀ {l : List (DataW H)}, d ∈ l → ∀ n ∈ DataW.weights P e d, n ∈ DataW.weightsAll P e l
  | d0 :: l, h, n, hn => by
    simp only [DataW.weightsAll, List.mem_append]
    rcases List.mem_cons.1 h with rfl | h
    · exact .inl hn
    · exact .inr (wt_all h n hn)
/-- A slice in a reading: the list that it reads, its elements, its size. -/
theorem open_dat [Inhabited α] (L : Lay α) (Q : α → Prop) {t e : TypeId} {fuel : Nat} {cs : List Value} {x : DataW H × List MemPlace} (h : DataW.trod enc P W 0 (fun _ => true) true fuel t cs = some x) (ht : P.underlying t = some (.slice e)) (hC : P.cellsOf e = L.n) (hw : Wt P t x.1)
    (hel : ∀ (n : Nat) (cs : List Value) (x : DataW H × List MemPlace), DataW.trod enc P W 0 (fun _ => true) true n e cs = some x → Wt P e x.1 → ∃ y : α, cs = L.cells y ∧ Q y) :
    ∃ A c xs, cs = [.slice A xs.length c] ∧ Rd L W A c xs ∧ (∀ y ∈ xs, Q y) ∧ xs.length * P.bytesOf e ≤ reachBytes := by
  rcases open_slice ht h with ⟨hcs, _⟩ | ⟨a, len, cap, m, n, D, Pl, hcs, _, hl, hm, hmm, hx, hi⟩
  · exact ⟨none, 0, [], hcs, Rd.nil _ _, by simp, by simp⟩
  · have hlm : len ≤ m := by rw [hmm]; simp; exact hl
    have hx1 := (Prod.mk.inj hx).1
    rw [hx1] at hw
    have hwe : ∀ i, i < len → Wt P e (D i) := fun i hi k hk => hw k (by
      simp only [DataW.weights, ht, List.mem_cons, List.mem_append]
      exact .inr (.inl (wt_all (List.mem_map.2 ⟨i, List.mem_range.2 hi, rfl⟩) k hk)))
    obtain ⟨f, hfx⟩ := choose_lt (α := α) (n := len) (p := fun i y => (∀ j u, (L.cells y)[j]? = some u → W.cell? ((a.add (i * L.n)).add j) = some u) ∧ Q y) (fun i hil => by
      obtain ⟨cs', h1, h2⟩ := hi i (by omega)
      obtain ⟨y, rfl, hq⟩ := hel _ _ _ h2 (hwe i hil)
      obtain ⟨_, hlen, hat⟩ := World.cells?_some h1
      refine ⟨y, fun j u hj => ?_, hq⟩
      rw [hC] at hat hlen
      rw [hat j (by rw [← L.len y]; exact (List.getElem?_eq_some_iff.1 hj).1)]
      exact hj)
    have z : (len + (m - len)) * P.bytesOf e ≤ reachBytes := hw _ (by
      simp only [DataW.weights, ht, List.mem_cons, List.length_map, List.length_range]
      exact .inl trivial)
    refine ⟨some a, cap, (List.range len).map f, by simpa using hcs, ⟨by simpa using hl, hm, (fun h => by cases h), fun h0 => ?_⟩, fun y hy => ?_, ?_⟩
    · simp at h0
      have hspot : a.spot = Option.none := by
        have hy := (hfx 0 h0).1
        have hn : 0 < (L.cells (f 0)).length := by rw [L.len]; exact L.pos
        have := hy 0 _ (List.getElem?_eq_getElem hn)
        simp only [Nat.zero_mul, Addr.add, if_true] at this
        unfold World.cell? at this
        cases hs : a.spot with
        | none => rfl
        | some q =>
          split at this
          · rw [hs] at this; simp at this
          · cases this
      obtain ⟨b, o, s⟩ := a
      simp only at hspot
      subst hspot
      refine ⟨b, o, rfl, cells_of_rows _ (fun i hi j u hj => ?_)⟩
      simp at hi hj
      have := (hfx i hi).1 j u hj
      rw [Addr.add_lit, Addr.add_lit] at this
      exact this
    · obtain ⟨i, hi, rfl⟩ := List.mem_map.1 hy
      exact (hfx i (List.mem_range.1 hi)).2
    · rw [List.length_map, List.length_range]
      refine Nat.le_trans (Nat.mul_le_mul_right _ ?_) z
      omega
end
theorem names_cells {H : Type} {enc : TypeId × Value → H} {W : World} (n : Nat) (cs : List Value) (x : DataW H × List MemPlace)
    (h : DataW.trod enc Try.prog W 0 (fun _ => true) true n 33 cs = some x) (hw : Wt Try.prog 33 x.1) : ∃ y : Sv, cs = LSv.cells y ∧ ∃ nm : Wd, y.2.1 = nm.length ∧ Rd LSt W y.1 y.2.2 nm ∧ nm.length * 16 ≤ 140737488355328 := by
  obtain ⟨A, c, xs, rfl, hr, -, hb⟩ := open_dat LSt (fun _ => True) h Try.underlying33 (by kernel_rfl) hw (fun n cs x hx _ => by
    obtain ⟨s, rfl, -, -⟩ := DataW.trod_string Try.underlying9 hx
    exact ⟨s, rfl, trivial⟩)
  have hbt : (Try.prog).bytesOf 9 = 16 := by kernel_rfl
  rw [hbt] at hb
  exact ⟨(A, xs.length, c), rfl, xs, rfl, hr, Nat.le_trans hb (by decide)⟩
end Go.Proofs.Ytkmoeokfgkmlhaa
/- For any text and any lists of names matching is the document's; no condition. -/
namespace Go.Proofs.Ytkmoeokfgkmlhaa.modelMatches
open Go.ChangeShapes Go.WideShapes Go.ChangeAt Go.RowKit Go.Joins
open Go.ChangeMaps (open_string shut_string)
theorem own : ownKnob Try.prog.godebug = none := by kernel_rfl
theorem laidOut : laidOutB Try.prog = true := by kernel_rfl
set_option maxRecDepth 100000 in
theorem lifted (os : Os) (started : os.Started) (H : Type) (enc : TypeId × Value → H) :
    ReturnsInHanded {} Try.checked os 3 .any (Rows.modelMatchesSpec.pre6 enc Try.prog Try.f3 Rows.modelMatchesRow.domain false) (Rows.modelMatchesSpec.post enc Try.prog Try.f3 false true false false) := by
  refine returnsInHanded_of_change_sized (C := Try.checked) own started (by kernel_rfl) Try.func3
    (ChangeSpec.witness6 (enc := enc) (C := Try.checked) false ⟨#[], #[.string ByteArray.empty, .slice none 0 0], []⟩ 8 (by kernel_rfl) (by kernel_rfl) (by kernel_rfl) (by kernel_rfl)) ?_
  intro W base args ds gs before hval0 hW hcnd hsz0 _
  have hsz : (DataW.weightsEach Try.prog (Try.f3.params.toList ++ Rows.modelMatchesSpec.plain.varTypes Try.prog) (ds ++ gs)).all (· ≤ reachBytes) = true := hsz0
  have hval : ∀ (j : Nat) t v, Try.f3.params[j]? = some t → args[j]? = some v → Value.okWide Try.prog W .any base t v := hval0
  have hW' := hW
  obtain ⟨p, q, hA0, hV, rfl, hfz, hnd⟩ := hW
  have hA : DataW.TrodAll enc Try.prog W 0 (fun _ => true) true Try.f3.params.toList args.toList ds p := hA0
  rw [Try.params3] at hA hval hsz
  obtain ⟨v0, vs0, d0, ds0, p0, q0, hargs, rfl, rfl, h0, r0⟩ := trodAll_cons hA
  obtain ⟨v1, vs1, d1, ds1, p1, q1, rfl, rfl, rfl, h1, r1⟩ := trodAll_cons r0
  obtain ⟨rfl, rfl, rfl⟩ := trodAll_nil r1
  obtain rfl : args = #[v0, v1] := by cases args; simp_all
  obtain ⟨rfl, rfl⟩ := trodVars_none hV
  have k0 := h0
  have lt0 : ∀ x ∈ p0, x.block < W.heap.size := by obtain ⟨m, hm⟩ := k0; exact DataW.trod_lt m _ _ _ hm
  have k1 := h1
  have lt1 : ∀ x ∈ p1, x.block < W.heap.size := by obtain ⟨m, hm⟩ := k1; exact DataW.trod_lt m _ _ _ hm
  clear hA0 hval0 hsz0
  obtain ⟨s, rfl, rfl, rfl, -⟩ := open_string Try.underlying9 (hval 0 9 _ rfl rfl) h0
  have hw1 := wt_of hsz (j := 1) rfl rfl
  obtain ⟨a0, len0, cap0, rfl⟩ := okWide_slice Try.underlying22 (hval 1 22 _ rfl rfl)
  obtain ⟨fuel, hf⟩ := h1
  obtain ⟨A, c, vs, hcs, hR, hQ, -⟩ := open_dat LSv _ hf Try.underlying22 (by kernel_rfl) hw1 names_cells
  simp [Value.cells] at hcs
  obtain ⟨rfl, rfl, rfl⟩ := hcs
  refine (modelMatches_calls (s := s) hR hQ (R := fun e W' => e = .returned (.bool true) ∧ Below W.heap.size W W') fun w' hb => ⟨rfl, hb⟩).mono fun e W' ⟨he, bel⟩ => ?_
  subst he
  exact ⟨_, rfl, _, _, _, [], _, [], hW', trodAll_mk1 (shut_bool Try.underlying4 _), (trodAll_cons_mk (Below.trod laidOut (by kernel_rfl) (of_decide_eq_true (by kernel_rfl)) k0 bel lt0) (trodAll_cons_mk (Below.trod laidOut (by kernel_rfl) (of_decide_eq_true (by kernel_rfl)) k1 bel lt1) trodAll_mk0)), rfl, bel.frame _, fun h => by cases h⟩
theorem over : Rows.modelMatchesRow.holds Try.pinned (OpenSpec.ofChange Rows.modelMatchesSpec) :=
  OpenClaim.holds_of_wide 3 Try.f3 rfl rfl rfl rfl rfl rfl rfl ⟨rfl, rfl, rfl, rfl, rfl⟩ rfl rfl rfl rfl rfl (by kernel_rfl) Try.func3 (by kernel_rfl)
    (of_decide_eq_true (by kernel_rfl)) (by unfold Func.isWrapper; first | (rw [if_pos (by decide +kernel)]; kernel_rfl) | (rw [if_neg (by decide +kernel)]; exact ⟨rfl, rfl⟩))
    (fun os started H enc _ => lifted os started H enc)
end Go.Proofs.Ytkmoeokfgkmlhaa.modelMatches
namespace Go.Proofs.Ytkmoeokfgkmlhaa
theorem modelMatches_holds : Rows.ModelMatchesSaid := modelMatches.over
#print axioms modelMatches_holds
end Go.Proofs.Ytkmoeokfgkmlhaa
