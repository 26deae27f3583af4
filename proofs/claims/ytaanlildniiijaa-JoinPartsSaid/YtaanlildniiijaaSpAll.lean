/- Joins: the law that compares all. -/
import Derived.Test.YtaanlildniiijaaGLaw11
import Derived.Test.YtaanlildniiijaaSpRef
namespace Go.Proofs.Ytaanlildniiijaa
open Go.RowKit Go.Vc
set_option maxRecDepth 100000
set_option linter.unusedSimpArgs false
set_option linter.unusedVariables false
theorem copied_calls (l : List Pl) (A : Option Addr) (c : Nat) {w : World} (hl : Rd LPl w A c l) (hz : l.length * 32 ≤ 140737488351232) {R : Ending → World → Prop}
    (h : ∀ X xc w', Below w.heap.size w w' → Rd LPl w' X xc l → R (.returned (.slice X l.length xc)) w') : Calls Try.prog 32 #[.slice A l.length c] w R := by
  refine ok32 A l.length c ?_
  unfold F32
  refine al fun g w1 hb hg hge => ?_
  have hc := hl.1
  have hm := hl.2.1
  refine ap (L := LPl) (xs := []) (ys := l) (base := w.heap.size) (.agg #[.int .u64 0, .int .u64 0, .int .u64 0, .int .i64 0]) 32 rfl rfl rfl rfl (Own.bare _ _ _ _ _) (hl.keep hb) hb.size (by simp; omega) (by simp; omega) fun A' c' w2 ho hgr => ?_
  refine ⟨A', _, c', rfl, ?_⟩
  have hr := ho.rd
  simp only [List.nil_append] at hr
  rw [hr.1]
  exact h A' c' w2 (hb.trans hgr.below) hr.2
theorem Rd.pr {w : World} {A : Option Addr} {c : Nat} {xs : List (Int × Int)} (h : Rd LPr w A c xs) {n : Nat} (hn : n = xs.length) {i : Int} {k : Nat} (hi : i = k) (hk : k < xs.length) {K : Addr → Prop}
    (hK : ∀ b o, w.cell? ⟨b, o, none⟩ = some (.int .u64 xs[k].1) → w.cell? ⟨b, o + 1, none⟩ = some (.int .u64 xs[k].2) → K ⟨b, o, none⟩) : IdxA A n i 2 K := by
  subst hi
  refine h.idx hn (by omega) (by omega) rfl fun b o hc => ?_
  simp only [Int.toNat_natCast] at hc
  exact hK b o (hc 0 _ rfl) (hc 1 _ rfl)
theorem placedEq_calls (l : List Pl) (A : Option Addr) (c : Nat) (B : Option Addr) (c' : Nat) {w : World} (hA : Rd LPl w A c l) (hB : Rd LPl w B c' l) (hz : l.length ≤ 1125899906842624) {R : Ending → World → Prop}
    (h : ∀ w', Below w.heap.size w w' → R (.returned (.bool true)) w') : Calls Try.prog 44 #[.slice A l.length c, .slice B l.length c'] w R := by
  refine ok44 A l.length c B l.length c' ?_
  unfold F44
  refine brn (fun e => absurd rfl e) (fun _ => ?_)
  refine ⟨fun i w1 => ∃ k : Nat, i = k ∧ k ≤ l.length ∧ Below w.heap.size w w1, fun i w1 => l.length - i.toNat, ⟨0, rfl, by omega, Below.refl _ _⟩, ?_⟩
  rintro i w1 ⟨k, rfl, hk, hb⟩
  unfold F44_l4
  refine brd (fun hlt => ?_) (fun hge => h w1 hb)
  refine dr fun w2 hb2 _ => ?_
  have B2 := btr hb hb.size hb2
  have hk2 : k < l.length := by omega
  refine (hA.keep B2).pl rfl rfl hk2 fun b o c0 c1 c2 c3 => ?_
  simp only [c0, c1, c2, c3, Addr.add_mk, List.getElem?_toArray, List.getElem?_cons_zero, List.getElem?_cons_succ, LdI_some, LdB_some, LdStr_some, LdP_some, LdSl_some, LdM_some, Nat.zero_add, Br_t, Br_f]
  refine (hB.keep B2).pl rfl rfl hk2 fun b o c0 c1 c2 c3 => ?_
  simp only [c0, c1, c2, c3, Addr.add_mk, List.getElem?_toArray, List.getElem?_cons_zero, List.getElem?_cons_succ, LdI_some, LdB_some, LdStr_some, LdP_some, LdSl_some, LdM_some, Nat.zero_add, Br_t, Br_f, beq_self_eq_true, Bool.and_self, Bool.not_true, Br_f]
  exact ⟨inR_i64 (by omega) (by omega), ⟨k + 1, by simp, by omega, B2⟩, by omega⟩
theorem pairsEq_calls (l : List (Int × Int)) (A : Option Addr) (c : Nat) (B : Option Addr) (c' : Nat) {w : World} (hA : Rd LPr w A c l) (hB : Rd LPr w B c' l) (hz : l.length ≤ 1125899906842624) {R : Ending → World → Prop}
    (h : ∀ w', Below w.heap.size w w' → R (.returned (.bool true)) w') : Calls Try.prog 39 #[.slice A l.length c, .slice B l.length c'] w R := by
  refine ok39 A l.length c B l.length c' ?_
  unfold F39
  refine brn (fun e => absurd rfl e) (fun _ => ?_)
  refine ⟨fun i w1 => ∃ k : Nat, i = k ∧ k ≤ l.length ∧ Below w.heap.size w w1, fun i w1 => l.length - i.toNat, ⟨0, rfl, by omega, Below.refl _ _⟩, ?_⟩
  rintro i w1 ⟨k, rfl, hk, hb⟩
  unfold F39_l4
  refine brd (fun hlt => ?_) (fun hge => h w1 hb)
  refine dr fun w2 hb2 _ => ?_
  have B2 := btr hb hb.size hb2
  have hk2 : k < l.length := by omega
  refine (hA.keep B2).pr rfl rfl hk2 fun b o c0 c1 => ?_
  simp only [c0, c1, Addr.add_mk, List.getElem?_toArray, List.getElem?_cons_zero, List.getElem?_cons_succ, LdI_some, LdB_some, LdStr_some, LdP_some, LdSl_some, LdM_some, Nat.zero_add, Br_t, Br_f]
  refine (hB.keep B2).pr rfl rfl hk2 fun b o c0 c1 => ?_
  simp only [c0, c1, Addr.add_mk, List.getElem?_toArray, List.getElem?_cons_zero, List.getElem?_cons_succ, LdI_some, LdB_some, LdStr_some, LdP_some, LdSl_some, LdM_some, Nat.zero_add, Br_t, Br_f, beq_self_eq_true, Bool.and_self, Bool.not_true, Br_f]
  exact ⟨inR_i64 (by omega) (by omega), ⟨k + 1, by simp, by omega, B2⟩, by omega⟩
def lvA : List Pl := [⟨1, ⟨1, 4, 0⟩⟩]
def lvD : List Pl := [⟨2, ⟨2, 3, 1⟩⟩]
theorem lives_pure : pairsF lvA lvD true = ([(1, 2)], 0) := by
  have hm : mergeF lvA lvD = [⟨1, 4, 0⟩, ⟨2, 3, 1⟩] := by simp [lvA, lvD, mergeF]
  have hf : fitsF lvA lvD = 0 := by
    unfold fitsF
    rw [hm]
    decide
  unfold pairsF
  rw [hf]
  decide
theorem lives_calls {w : World} {R : Ending → World → Prop} (h : ∀ w', Below w.heap.size w w' → R (.returned (.bool true)) w') : Calls Try.prog 37 #[] w R := by
  refine ok37 ?_
  unfold F37
  refine al fun g w1 hb hg hge => al fun g2 w2 hb2 hg2 hge2 => ?_
  have B2 := btr hb hb.size hb2
  have rA : Rd LPl w2 (some ⟨g, 0, none⟩) 1 lvA := (Own.lit' (xs := lvA) (hg.keep hb2) (Nat.zero_le _) rfl (by decide)).rd.2
  have rD : Rd LPl w2 (some ⟨g2, 0, none⟩) 1 lvD := (Own.lit' (xs := lvD) hg2 (Nat.zero_le _) rfl (by decide)).rd.2
  refine pairs_calls lvA lvD true _ 1 _ 1 rA rD fun X n xc w3 hb3 ho => ⟨_, _, _, _, rfl, ?_⟩
  rw [lives_pure] at ho ⊢
  have B3 := btr B2 B2.size hb3
  obtain ⟨hn, hr⟩ := ho.rd
  simp at hn
  subst hn
  refine bre (fun _ => ?_) (fun e => absurd rfl e)
  refine bre (fun _ => ?_) (fun e => absurd rfl e)
  refine hr.pr rfl (k := 0) rfl (by simp) fun b o c0 c1 => ?_
  simp only [c0, c1, Addr.add_mk, List.getElem?_toArray, List.getElem?_cons_zero, List.getElem?_cons_succ, LdI_some, LdB_some, LdStr_some, LdP_some, LdSl_some, LdM_some, Nat.zero_add, Br_t, Br_f]
  exact h w3 B3
end Go.Proofs.Ytaanlildniiijaa
