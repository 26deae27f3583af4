/- Models: Next. -/
import Derived.Test.YtkmoeokfgkmlhaaMdSort
import Derived.Test.YtkmoeokfgkmlhaaMdRunW
import Derived.Test.YtkmoeokfgkmlhaaLaySort
import Derived.Test.YtkmoeokfgkmlhaaGMBeg
namespace Go.Proofs.Ytkmoeokfgkmlhaa
open Go.RowKit Go.Vc Go.Mdl
open Go.Sort (Holds putRow grow)
open Go.Proofs (encStr)
set_option linter.unusedVariables false
set_option linter.unusedSimpArgs false
set_option maxRecDepth 100000
theorem goes_few {m : Pl} (h : PlOk m) : ∀ (xs : Wd) (i : Nat) (may : List Nat) (is : Bool), Few m.atoms.length may → Few m.atoms.length (m.goes xs i may is).2.1
  | [], i, may, is, hm => hm
  | x :: xs, i, may, is, hm => by
    unfold Pl.goes
    split
    · exact hm
    · exact goes_few h xs _ _ _ (next_few h _ _ (Few.nil _))
theorem run_few {m : Pl} (h : PlOk m) (names : Wd) : Few m.atoms.length (m.run names).2.1 := goes_few h names 0 m.first m.empty h.first
theorem sortc_calls {w : World} {R : Ending → World → Prop} {B : Nat} {e : TypeId} {A : Option Addr} {n c : Nat} {xs : List ByteArray} {K : Option Addr → Nat → Nat → World → Prop} (h : Own LSt w B e (.slice A n c) xs) (hl : xs.length ≤ 1099511627776)
    (hK : ∀ A' c' w', Below B w w' → Rd LSt w' A' c' (nxt xs) → K A' (nxt xs).length c' w') :
    Calls Try.prog 30 #[.slice A n c] w (post R fun v w1 => v = .tuple #[] ∧
      Calls Try.prog 31 #[.slice A n c] w1 (post R fun v3 w2 => ∃ (x : Option Addr) (xN xC : Nat), v3 = .slice x xN xC ∧ K x xN xC w2)) := by
  by_cases hx : xs = []
  · subst hx
    obtain ⟨hn, hr⟩ := h.rd
    subst hn
    refine (Any.slices_Sort_string_none Try.lays190 A c w).mono fun e w1 ⟨he, hw⟩ => ?_
    subst he hw
    refine ⟨rfl, (calls_of_every_depth fun D => AnyS.slices_Compact_string_empty_in Try.lays194 D A c w1).mono fun e w2 ⟨he, hw⟩ => ?_⟩
    subst he hw
    have hn0 : nxt ([] : Wd) = [] := List.eq_nil_of_length_eq_zero (by have := nxt_len ([] : Wd); simpa using this)
    rw [hn0] at hK
    exact ⟨_, _, _, rfl, hK _ _ _ (Below.refl _ _) hr⟩
  · obtain ⟨g, rfl, rfl, hB, hg, hc, hm, hH⟩ := holds_own h hx
    have hH' : Holds encStr w g 0 (xs.map bs).toArray := hH
    have e1 : xs.length = (xs.map bs).length := by simp
    rw [e1]
    refine (Any.slices_Sort_string Try.lays190 g 0 c (xs.map bs) w hH' hg (by simp; omega)).mono fun e w1 ⟨he, q, os, hw⟩ => ?_
    subst he
    have hsz : ((xs.map bs).mergeSort fun x y => decide (x ≤ y)).toArray.size = (xs.map bs).toArray.size := by simp
    obtain ⟨hb1, hH1⟩ := put_below (q := q) (os := os) hB hg hH' hsz
    rw [← hw] at hb1 hH1
    refine ⟨rfl, ?_⟩
    have e2 : (xs.map bs).length = ((xs.map bs).mergeSort fun x y => decide (x ≤ y)).length := by simp
    rw [e2]
    refine (calls_of_every_depth fun D => AnyS.slices_Compact_string_in Try.lays194 D g 0 c _ w1 hH1 (by simp; omega) (by simpa using hc)).mono fun e w2 ⟨he, q2, hw2⟩ => ?_
    subst he
    have hcl := compact_len ((xs.map bs).mergeSort fun x y => decide (x ≤ y))
    obtain ⟨hb2, hH2⟩ := put_below (q := q2) (os := #[]) hB (Nat.lt_of_lt_of_le hg hb1.size) hH1 (d' := (Lib.compact ((xs.map bs).mergeSort fun x y => decide (x ≤ y)) ++ List.replicate (((xs.map bs).mergeSort fun x y => decide (x ≤ y)).length - (Lib.compact ((xs.map bs).mergeSort fun x y => decide (x ≤ y))).length) []).toArray) (by
      simp only [List.size_toArray, List.length_append, List.length_replicate]; omega)
    rw [Go.Sort.grow_empty, ← hw2] at hb2 hH2
    have e3 : (nxt xs).length = (Lib.compact ((xs.map bs).mergeSort fun x y => decide (x ≤ y))).length := by unfold nxt nxtB; simp
    refine ⟨_, _, _, rfl, ?_⟩
    rw [← e3]
    refine hK _ _ _ (hb1.trans hb2) ?_
    refine rd_holds hH2 (List.prefix_append _ _) ?_ hm
    have : (xs.map bs).length = xs.length := by simp
    have : ((xs.map bs).mergeSort fun x y => decide (x ≤ y)).length = xs.length := by simp
    unfold nxtB; omega
section
variable {w : World} {R : Ending → World → Prop} {g : Nat}
theorem nameOf_at {m : Pl} {k : Nat} (hk : k < m.atoms.length) : nameOf m k = if m.atoms[k] = Dl then ByteArray.empty else m.atoms[k] := by
  unfold nameOf
  rw [List.getD_eq_getElem?_getD, List.getElem?_eq_getElem hk]; rfl
theorem dl_test (x : ByteArray) : (x.toList == (ByteArray.mk #[36]).toList) = decide (x = Dl) := bytes_eq x Dl
theorem next_calls {rows : List (List Part)} {m : Pl} {names : Wd} {A : Option Addr} {c : Nat} (h : RdM w g rows m) (ok : PlOk m) (hn : Rd LSt w A c names)
    (hno : (m.run names).1 < names.length → ∀ w', Below w.heap.size w w' → R (.returned (.tuple #[.slice none 0 0, .bool false])) w')
    (hR : ¬ (m.run names).1 < names.length → ∀ A' c' w', Below w.heap.size w w' → Rd LSt w' A' c' (nxt (m.names (m.run names).2.1)) → R (.returned (.tuple #[.slice A' (nxt (m.names (m.run names).2.1)).length c', .bool (m.run names).2.2])) w') :
    Calls Try.prog 13 #[.pointer (some ⟨g, 0, none⟩), .slice A names.length c] w R := by
  refine ok13 _ _ _ _ ?_
  unfold F13
  rw [show (some (⟨g, 0, none⟩ : Addr)).isNone = false from rfl, Br_f]
  refine run_calls h ok hn fun v w1 hv hb1 => ?_
  obtain ⟨vA, vN, vC⟩ := v
  refine ⟨_, _, _, _, _, rfl, ?_⟩
  refine brd (fun hlt => hno (by omega) _ hb1) (fun hge => ?_)
  have hR := hR (by omega)
  have hfew := run_few (m := m) ok names
  generalize (m.run names).2.1 = may at hR hv hfew
  generalize (m.run names).2.2 = is at hR
  have hmn : vN = may.length := hv.1
  have hm128 := Nat.le_trans hfew.len ok.le
  refine ⟨fun out outN outC i w' => ∃ j : Nat, i = j ∧ j ≤ may.length ∧ Own LSt w' w1.heap.size 9 (.slice out outN outC) (m.names (may.take j)) ∧ Below w1.heap.size w1 w', fun out outN outC i w' => may.length - i.toNat,
    ⟨0, rfl, by omega, Own.nil _ _ _ _, Below.refl _ _⟩, ?_⟩
  rintro out outN outC i w2 ⟨j, rfl, hj, ho, hb2⟩
  unfold F13_l8
  refine brd (fun hlt => ?_) (fun hge => ?_)
  rotate_left
  · dsimp only at hge
    obtain rfl : j = may.length := by omega
    rw [List.take_length] at ho
    refine sortc_calls ho (by unfold Pl.names; simp; omega) fun A' c' w' hb hr => ?_
    exact hR A' c' w' (hb1.trans ((hb2.trans hb).mono hb1.size)) hr
  dsimp only at hlt
  have hj2 : j < may.length := by omega
  have hjl := hfew.2 _ (List.getElem_mem hj2)
  have h2 := h.below (hb1.trans (hb2.mono hb1.size))
  obtain ⟨sl, ⟨a, f, fs, ls, vs, q1, q3, q4, q5, q6⟩, q2⟩ := h2
  have hmay := hv.below hb2
  have htk : m.names (may.take (j + 1)) = m.names (may.take j) ++ [nameOf m may[j]] := by
    unfold Pl.names
    rw [List.take_add_one, List.getElem?_eq_getElem hj2, Option.toList_some, List.map_append]; rfl
  have hlen : (m.names (may.take j)).length = j := by unfold Pl.names; simp; omega
  refine ⟨fun out2 outN2 outC2 w' => Own LSt w' w1.heap.size 9 (.slice out2 outN2 outC2) (m.names (may.take (j + 1))) ∧ Below w1.heap.size w1 w', ?_, ?_⟩
  · rintro out2 outN2 outC2 w4 ⟨r1, r2⟩
    unfold F13_j13
    exact ⟨inR_i64 (by omega) (by omega), ⟨j + 1, by simp, by omega, r1, r2⟩, by dsimp only; omega⟩
  refine hmay.2.1.k hmn rfl hj2 fun b o c0 => lI c0 ?_
  rw [NonNil_some]
  refine lSl (by rw [Addr.add_mk]; exact q1.cell 1) ?_
  refine q3.2.idx q3.1 (by omega) (by rw [q3.1]; omega) rfl fun b o hc => ?_
  simp only [Int.toNat_natCast] at hc
  refine lS (hc 0 _ rfl) ?_
  have app : ∀ x, nameOf m may[j] = x → Al w2 #[.string x] 9 fun g50 w1_2 =>
      Raw Try.prog (Builtin.append_ #[33, 33] 33 #[.slice out outN outC, .slice (some g50) 1 1]) w1_2 fun v2 w1_3 =>
      ∃ (x51 : Option Addr) (x51N x51C : Nat), v2 = .slice x51 x51N x51C ∧ (Own LSt w1_3 w1.heap.size 9 (.slice x51 x51N x51C) (m.names (may.take (j + 1))) ∧ Below w1.heap.size w1 w1_3) := by
    rintro x rfl
    refine al fun g3 w3 hb3 hg3 hge3 => ?_
    have ho3 := ho.keep hb3
    have hn1 : Rd LSt w3 (some ⟨g3, 0, none⟩) 1 [nameOf m may[j]] := (Own.lit' (L := LSt) (xs := [nameOf m may[j]]) (base := 0) hg3 (Nat.zero_le _) rfl (by simp [maxLen])).rd.2
    refine ap (L := LSt) (xs := m.names (may.take j)) (ys := [nameOf m may[j]]) (base := w1.heap.size) (.string ByteArray.empty) 16 rfl rfl rfl rfl ho3 hn1 (Nat.le_trans hb2.size hb3.size) (by rw [hlen]; simp; omega) (by rw [hlen]; simp [maxLen]; omega) fun A1 c1 w4 ho4 hgr => ⟨_, _, _, rfl, ?_⟩
    rw [htk]
    exact ⟨ho4, (hb2.trans (hb3.mono hb2.size)).trans (hgr.below)⟩
  have hat := nameOf_at hjl
  rw [dl_test]
  by_cases hd : m.atoms[may[j]] = Dl
  · rw [decide_eq_true hd, Br_t]
    rw [if_pos hd] at hat
    exact app _ hat
  · rw [decide_eq_false hd, Br_f]
    rw [if_neg hd] at hat
    rw [NonNil_some]
    refine lSl (by rw [Addr.add_mk]; exact q1.cell 1) ?_
    refine q3.2.idx q3.1 (by omega) (by rw [q3.1]; omega) rfl fun b o hc => ?_
    simp only [Int.toNat_natCast] at hc
    refine lS (hc 0 _ rfl) ?_
    exact app _ hat
end
end Go.Proofs.Ytkmoeokfgkmlhaa
