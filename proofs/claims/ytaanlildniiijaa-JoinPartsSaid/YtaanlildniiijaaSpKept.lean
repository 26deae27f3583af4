/- Joins: those that join. -/
import Derived.Test.YtaanlildniiijaaSpCounts2
namespace Go.Proofs.Ytaanlildniiijaa
open Go.RowKit Go.Vc
set_option maxRecDepth 100000
set_option linter.unusedSimpArgs false
def keptT (l : List Pl) (ns : List Nat) (is : Bool) (k : Nat) : List Pl := ((List.range k).filter fun i => decide (0 < ns[i]!) == is).map (el l)
def keptF (l : List Pl) (ns : List Nat) (is : Bool) : List Pl := keptT l ns is l.length
theorem keptT_succ (l : List Pl) (ns : List Nat) (is : Bool) (k : Nat) : keptT l ns is (k + 1) = if (decide (0 < ns[k]!) == is) = true then keptT l ns is k ++ [el l k] else keptT l ns is k := by
  unfold keptT
  rw [List.range_succ, List.filter_append, List.map_append, List.filter_cons]
  split <;> simp
theorem keptT_len (l : List Pl) (ns : List Nat) (is : Bool) (k : Nat) : (keptT l ns is k).length ≤ k := by
  unfold keptT
  rw [List.length_map]
  have := List.length_filter_le (fun i => decide (0 < ns[i]!) == is) (List.range k)
  rwa [List.length_range] at this
theorem kept_calls (l : List Pl) (ns : List Nat) (is : Bool) (A : Option Addr) (aC : Nat) (N : Option Addr) (nC : Nat) {w : World} (hA : Rd LPl w A aC l) (hN : Rd LN w N nC ns) (hlen : ns.length = l.length) (hz : l.length ≤ 8192) {R : Ending → World → Prop}
    (h : ∀ X n xc w', Below w.heap.size w w' → Own LPl w' w.heap.size 51 (.slice X n xc) (keptF l ns is) → R (.returned (.slice X n xc)) w') :
    Calls Try.prog 64 #[.slice A l.length aC, .slice N l.length nC, .bool is] w R := by
  refine ok64 A l.length aC N l.length nC is ?_
  unfold F64
  refine ⟨fun X n xc i w1 => ∃ k : Nat, i = k ∧ k ≤ l.length ∧ Below w.heap.size w w1 ∧ Own LPl w1 w.heap.size 51 (.slice X n xc) (keptT l ns is k), fun X n xc i w1 => l.length - i.toNat, ⟨0, rfl, by omega, Below.refl _ _, Own.nil _ _ _ _⟩, ?_⟩
  rintro X n xc i w1 ⟨k, rfl, hk, hb, own⟩
  unfold F64_l3
  refine brd (fun hlt => ?_) (fun hge => ?_)
  · have hk2 : k < l.length := by omega
    refine ⟨fun X n xc w2 => Below w.heap.size w w2 ∧ Own LPl w2 w.heap.size 51 (.slice X n xc) (keptT l ns is (k + 1)), ?_, ?_⟩
    · rintro X n xc w2 ⟨hb2, own2⟩
      unfold F64_j7
      exact ⟨inR_i64 (by omega) (by omega), ⟨k + 1, by simp, by omega, hb2, own2⟩, by dsimp only; omega⟩
    refine (hA.keep hb).plEl rfl rfl hk2 fun b o c0 c1 c2 c3 => ?_
    simp only [c0, c1, c2, c3, Addr.add_mk, List.getElem?_toArray, List.getElem?_cons_zero, List.getElem?_cons_succ, LdI_some, LdB_some, LdStr_some, LdP_some, LdSl_some, LdM_some, Nat.zero_add, Br_t, Br_f]
    refine al4 fun g w2 hb2 hg _ => ?_
    have B2 := btr hb hb.size hb2
    refine (hN.keep B2).nat hlen.symm rfl (by omega) fun b o c0 => ?_
    simp only [c0, hg.cell, Addr.add_mk, List.getElem?_toArray, List.getElem?_cons_zero, List.getElem?_cons_succ, LdI_some, LdB_some, LdStr_some, LdP_some, LdSl_some, LdM_some, Nat.zero_add, Br_t, Br_f]
    have own2 := own.keep hb2
    have hkl := keptT_len l ns is k
    have hns : ns[k]! = ns[k]'(by omega) := by simp [show k < ns.length by omega]
    rw [keptT_succ, hns]
    have e0 : decide (((ns[k]'(by omega) : Nat) : Int) > 0) = decide (0 < ns[k]'(by omega)) := by rw [decide_eq_decide]; omega
    rw [e0]
    refine br (fun hp => ?_) (fun hp => ?_)
    · rw [if_pos hp]
      refine ap1 (L := LPl) (x := el l k) (.agg #[.int .u64 0, .int .u64 0, .int .u64 0, .int .i64 0]) 32 rfl rfl rfl rfl own2 B2.size (by omega) (by simp [maxLen]; omega) fun A' c' w5 ho hgr => ?_
      refine ⟨A', _, c', rfl, B2.trans hgr.below, ?_⟩
      exact ho
    · rw [if_neg (by rw [hp]; decide)]
      exact ⟨B2, own2⟩
  · obtain rfl : k = l.length := by omega
    exact h X n xc w1 hb own
def outerF (a d : List Pl) (direct : Bool) : List Pl × Int := if fitsF a d ≠ 0 then ([], fitsF a d) else (keptF a (cntF a d direct) true, 0)
def innerF (a d : List Pl) (direct is : Bool) : List Pl × Int := if fitsF a d ≠ 0 then ([], fitsF a d) else (keptF d (lenF a d direct) is, 0)
def countF (a d : List Pl) (direct : Bool) : List Nat × Int := if fitsF a d ≠ 0 then ([], fitsF a d) else (cntF a d direct, 0)
section
variable (a d : List Pl) (direct : Bool) (A : Option Addr) (aC : Nat) (D : Option Addr) (dC : Nat) {w : World} (hA : Rd LPl w A aC a) (hD : Rd LPl w D dC d) {R : Ending → World → Prop}
include hA hD
theorem outer_calls (h : ∀ X n xc w', Below w.heap.size w w' → Own LPl w' w.heap.size 51 (.slice X n xc) (outerF a d direct).1 → R (.returned (.tuple #[.slice X n xc, .int .i64 (outerF a d direct).2])) w') :
    Calls Try.prog 40 #[.slice A a.length aC, .slice D d.length dC, .bool direct] w R := by
  refine ok40 A a.length aC D d.length dC direct ?_
  unfold F40
  unfold outerF at h
  refine counts_calls a d direct A aC D dC hA hD (fun hf w1 hb1 => ⟨_, _, _, _, _, _, _, rfl, ?_⟩) (fun hf X Y w1 hb1 rx ry => ⟨_, _, _, _, _, _, _, rfl, ?_⟩)
  · refine brn (fun _ => ?_) (fun e => absurd e hf)
    rw [if_pos hf] at h
    exact h none 0 0 w1 hb1 (Own.nil _ _ _ _)
  · refine brn (fun e => absurd rfl e) (fun _ => ?_)
    rw [if_neg (by simpa using hf)] at h
    have L := fitsF_lam hf
    refine kept_calls a (cntF a d direct) true A aC X _ (hA.keep hb1) rx (cntF_len _ _ _) L.la fun Z n zc w2 hb2 ho => ⟨_, _, _, rfl, ?_⟩
    exact h Z n zc w2 (btr hb1 hb1.size hb2) (ho.rebase fun k hk => Nat.le_trans hb1.size (ho.lt k hk).1)
theorem inner_calls (h : ∀ X n xc w', Below w.heap.size w w' → Own LPl w' w.heap.size 51 (.slice X n xc) (innerF a d direct true).1 → R (.returned (.tuple #[.slice X n xc, .int .i64 (innerF a d direct true).2])) w') :
    Calls Try.prog 33 #[.slice A a.length aC, .slice D d.length dC, .bool direct] w R := by
  refine ok33 A a.length aC D d.length dC direct ?_
  unfold F33
  unfold innerF at h
  refine counts_calls a d direct A aC D dC hA hD (fun hf w1 hb1 => ⟨_, _, _, _, _, _, _, rfl, ?_⟩) (fun hf X Y w1 hb1 rx ry => ⟨_, _, _, _, _, _, _, rfl, ?_⟩)
  · refine brn (fun _ => ?_) (fun e => absurd e hf)
    rw [if_pos hf] at h
    exact h none 0 0 w1 hb1 (Own.nil _ _ _ _)
  · refine brn (fun e => absurd rfl e) (fun _ => ?_)
    rw [if_neg (by simpa using hf)] at h
    have L := fitsF_lam hf
    refine kept_calls d (lenF a d direct) true D dC Y _ (hD.keep hb1) ry (lenF_len _ _ _) L.ld fun Z n zc w2 hb2 ho => ⟨_, _, _, rfl, ?_⟩
    exact h Z n zc w2 (btr hb1 hb1.size hb2) (ho.rebase fun k hk => Nat.le_trans hb1.size (ho.lt k hk).1)
theorem without_calls (h : ∀ X n xc w', Below w.heap.size w w' → Own LPl w' w.heap.size 51 (.slice X n xc) (innerF a d direct false).1 → R (.returned (.tuple #[.slice X n xc, .int .i64 (innerF a d direct false).2])) w') :
    Calls Try.prog 34 #[.slice A a.length aC, .slice D d.length dC, .bool direct] w R := by
  refine ok34 A a.length aC D d.length dC direct ?_
  unfold F34
  unfold innerF at h
  refine counts_calls a d direct A aC D dC hA hD (fun hf w1 hb1 => ⟨_, _, _, _, _, _, _, rfl, ?_⟩) (fun hf X Y w1 hb1 rx ry => ⟨_, _, _, _, _, _, _, rfl, ?_⟩)
  · refine brn (fun _ => ?_) (fun e => absurd e hf)
    rw [if_pos hf] at h
    exact h none 0 0 w1 hb1 (Own.nil _ _ _ _)
  · refine brn (fun e => absurd rfl e) (fun _ => ?_)
    rw [if_neg (by simpa using hf)] at h
    have L := fitsF_lam hf
    refine kept_calls d (lenF a d direct) false D dC Y _ (hD.keep hb1) ry (lenF_len _ _ _) L.ld fun Z n zc w2 hb2 ho => ⟨_, _, _, rfl, ?_⟩
    exact h Z n zc w2 (btr hb1 hb1.size hb2) (ho.rebase fun k hk => Nat.le_trans hb1.size (ho.lt k hk).1)
theorem count_calls (h : ∀ X n xc w', Below w.heap.size w w' → n = (countF a d direct).1.length → Rd LN w' X xc (countF a d direct).1 → R (.returned (.tuple #[.slice X n xc, .int .i64 (countF a d direct).2])) w') :
    Calls Try.prog 35 #[.slice A a.length aC, .slice D d.length dC, .bool direct] w R := by
  refine ok35 A a.length aC D d.length dC direct ?_
  unfold F35
  unfold countF at h
  refine counts_calls a d direct A aC D dC hA hD (fun hf w1 hb1 => ⟨_, _, _, _, _, _, _, rfl, ?_⟩) (fun hf X Y w1 hb1 rx ry => ⟨_, _, _, _, _, _, _, rfl, ?_⟩)
  · rw [if_pos hf] at h
    exact h none 0 0 w1 hb1 rfl (Rd.nil _ _)
  · rw [if_neg (by simpa using hf)] at h
    exact h X _ _ w1 hb1 (cntF_len _ _ _).symm rx
end
end Go.Proofs.Ytaanlildniiijaa
