/- Models: lists of places in memory; joined. -/
import Derived.Test.YtkmoeokfgkmlhaaMdRead
import Derived.Test.YtkmoeokfgkmlhaaMdGi
import Derived.Test.YtkmoeokfgkmlhaaGMMod
namespace Go.Proofs.Ytkmoeokfgkmlhaa
open Go.RowKit Go.Vc Go.Mdl
set_option linter.unusedVariables false
set_option linter.unusedSimpArgs false
set_option maxRecDepth 100000
/-- Places in a row. -/
def LK : Lay Nat := ⟨1, fun n => [.int .i64 (n : Int)], fun _ => rfl, fun _ => by simp [Value.oneCell'], by decide⟩
section
variable {w w1 : World} {R : Ending → World → Prop} {A D : Option Addr} {c d : Nat} {a b xs : List Nat}
theorem Rd.k {xs : List Nat} (h : Rd LK w A c xs) {n : Nat} (hn : n = xs.length) {i : Int} {k : Nat} (hi : i = k) (hk : k < xs.length) {K : Addr → Prop}
    (hK : ∀ b o, w.cell? ⟨b, o, none⟩ = some (.int .i64 (xs[k] : Int)) → K ⟨b, o, none⟩) : IdxA A n i 1 K := by
  subst hi
  refine h.idx hn (by omega) (by omega) rfl fun b o hc => ?_
  simp only [Int.toNat_natCast] at hc
  exact hK b o (hc 0 _ rfl)
theorem index_calls {v : Nat} (h : Rd LK w A c xs) (hR : ∀ x : Int, (0 ≤ x ↔ v ∈ xs) → R (.returned (.int .i64 x)) w) :
    Calls Try.prog 77 #[.slice A xs.length c, .int .i64 (v : Int)] w R := by
  refine ok77 _ _ _ _ ?_
  unfold F77
  have hm := h.1
  have hm2 := h.2.1
  unfold maxLen at hm2
  refine ⟨fun i w1 => ∃ k : Nat, i = k ∧ k ≤ xs.length ∧ w1 = w ∧ v ∉ xs.take k, fun i _ => xs.length - i.toNat, ⟨0, rfl, by omega, rfl, by simp⟩, ?_⟩
  rintro i w1 ⟨k, rfl, hk, rfl, hnot⟩
  unfold F77_l2
  refine brd (fun hlt => ?_) (fun hge => ?_)
  · have hk2 : k < xs.length := by omega
    refine h.k rfl rfl hk2 fun b o c0 => ?_
    refine lI c0 ?_
    refine bre (fun he => ?_) (fun hne => ?_)
    · refine hR _ ⟨fun _ => ?_, fun _ => by omega⟩
      have : v = xs[k] := by omega
      rw [this]; exact List.getElem_mem _
    · refine ⟨inR_i64 (by omega) (by omega), ⟨k + 1, by simp, by omega, rfl, ?_⟩, by dsimp only; omega⟩
      rw [List.take_add_one, List.getElem?_eq_getElem hk2]
      simp only [Option.toList_some, List.mem_append, List.mem_singleton, not_or]
      exact ⟨hnot, fun e => hne (by omega)⟩
  · obtain rfl : k = xs.length := by omega
    rw [List.take_length] at hnot
    exact hR _ ⟨fun h => by omega, fun h => absurd h hnot⟩
theorem contains_calls {v : Nat} (h : Rd LK w A c xs) (hR : R (.returned (.bool (xs.contains v))) w) :
    Calls Try.prog 58 #[.slice A xs.length c, .int .i64 (v : Int)] w R := by
  refine ok58 _ _ _ _ ?_
  unfold F58
  refine index_calls h fun x hx => ⟨_, rfl, ?_⟩
  have : (decide (x ≥ (0 : Int))) = xs.contains v := by
    rw [Bool.eq_iff_iff, List.contains_iff_mem, ← hx]; simp
  rw [this]; exact hR
theorem clone_calls (h : Rd LK w A c xs) (hl : xs.length ≤ 1048576) (hR : ∀ X xc w', Own LK w' w.heap.size 3 (.slice X xs.length xc) xs → Below w.heap.size w w' → R (.returned (.slice X xs.length xc)) w') :
    Calls Try.prog 57 #[.slice A xs.length c] w R := by
  refine ok57 _ _ _ ?_
  unfold F57
  cases A with
  | none =>
    have h0 := h.2.2.1 rfl
    have : xs = [] := List.eq_nil_of_length_eq_zero (by have := h.1; omega)
    subst this
    exact hR none 0 w (Own.nil _ _ _ _) (Below.refl _ _)
  | some a =>
    rw [show (some a).isNone = false from rfl, Br_f]
    refine al fun g w1 hb hg hge => ?_
    refine ap (L := LK) (xs := []) (ys := xs) (base := w.heap.size) (.int .i64 0) 8 rfl rfl rfl rfl (Own.bare _ _ _ _ _) (h.keep hb) hb.size (by simp; omega) (by simp [maxLen]; omega) fun A' c' w2 ho hgr => ?_
    simp only [List.nil_append, List.length_nil, Nat.zero_add] at ho ⊢
    exact ⟨_, _, _, rfl, hR A' c' w2 ho (hb.trans hgr.below)⟩
theorem joined_len_le : ∀ (b a : List Nat), (joined a b).length ≤ a.length + b.length
  | [], a => by simp [joined]
  | x :: b, a => by
    have : joined a (x :: b) = joined (join1 a x) b := rfl
    rw [this]
    refine Nat.le_trans (joined_len_le b _) ?_
    unfold join1
    split <;> simp <;> omega
theorem joined_take (a b : List Nat) (k : Nat) (hk : k < b.length) : joined a (b.take (k + 1)) = join1 (joined a (b.take k)) b[k] := by
  unfold joined
  rw [List.take_add_one, List.getElem?_eq_getElem hk, Option.toList_some, List.foldl_append]
  rfl
theorem joined_calls (ha : Rd LK w A c a) (hb : Rd LK w D d b) (hl : a.length + b.length ≤ 1048576) (hR : ∀ X xc w', Own LK w' w.heap.size 3 (.slice X (joined a b).length xc) (joined a b) → Below w.heap.size w w' → R (.returned (.slice X (joined a b).length xc)) w') :
    Calls Try.prog 44 #[.slice A a.length c, .slice D b.length d] w R := by
  refine ok44 _ _ _ _ _ _ ?_
  unfold F44
  refine clone_calls ha (by omega) fun X xc w1 ho hb1 => ⟨_, _, _, rfl, ?_⟩
  refine ⟨fun Y m yc i w' => ∃ k : Nat, i = k ∧ k ≤ b.length ∧ Own LK w' w.heap.size 3 (.slice Y m yc) (joined a (b.take k)) ∧ Below w.heap.size w w', fun Y m yc i w' => b.length - i.toNat, ⟨0, rfl, by omega, ho, hb1⟩, ?_⟩
  clear ho hb1 w1
  rintro Y m yc i w1 ⟨k, rfl, hk, ho, hb1⟩
  unfold F44_l3
  have hm := ho.rd.1
  subst hm
  refine brd (fun hlt => ?_) (fun hge => ?_)
  · have hk2 : k < b.length := by omega
    have hj := joined_take a b k hk2
    refine ⟨fun Y2 m2 yc2 w2 => Own LK w2 w.heap.size 3 (.slice Y2 m2 yc2) (joined a (b.take (k + 1))) ∧ Below w.heap.size w w2, ?_, ?_⟩
    · rintro Y2 m2 yc2 w2 ⟨ho2, hb2⟩
      unfold F44_j7
      exact ⟨inR_i64 (by omega) (by omega), ⟨k + 1, by simp, by omega, ho2, hb2⟩, by dsimp only; omega⟩
    · refine (hb.keep hb1).k rfl rfl hk2 fun b' o' c0 => ?_
      refine lI c0 ?_
      refine contains_calls ho.rd.2 ⟨_, rfl, ?_⟩
      rw [hj]
      unfold join1
      cases hc : (joined a (b.take k)).contains b[k] with
      | true =>
        simp only [Bool.not_true, Br_f, if_true]
        exact ⟨ho, hb1⟩
      | false =>
        simp only [Bool.not_false, Br_t, Bool.false_eq_true, if_false]
        have hle := joined_len_le (b.take k) a
        rw [List.length_take] at hle
        refine ap1 (L := LK) (x := b[k]) (.int .i64 0) 8 rfl rfl rfl rfl ho hb1.size (by omega) (by simp [maxLen]; omega) fun A' c' w2 ho2 hg2 => ⟨A', _, c', rfl, ?_, hb1.trans hg2.below⟩
        exact ho2
  · obtain rfl : k = b.length := by omega
    rw [List.take_length] at ho ⊢
    exact hR Y yc w1 ho hb1
end
theorem fits_calls {w : World} {R : Ending → World → Prop} {a x : ByteArray} (h : R (.returned (.bool (fits a x))) w) : Calls Try.prog 43 #[.string a, .string x] w R := by
  refine ok43 _ _ ?_
  unfold F43
  simp only [bytes_eq]
  unfold fits at h
  have e1 : ByteArray.mk #[46] = Dt := rfl
  have e2 : ByteArray.mk #[36] = Dl := rfl
  have e3 : ByteArray.mk #[] = ByteArray.empty := rfl
  rw [e1, e2, e3]
  by_cases h1 : a = Dt
  · rw [decide_eq_true h1] at h ⊢; simpa [Br_t] using h
  rw [decide_eq_false h1] at h ⊢
  by_cases h2 : a = Dl
  · rw [decide_eq_true h2] at h ⊢
    by_cases h3 : x = ByteArray.empty
    · rw [decide_eq_true h3] at h ⊢; simpa [Br_t, Br_f] using h
    · rw [decide_eq_false h3] at h ⊢
      by_cases h4 : a = x
      · rw [decide_eq_true h4] at h ⊢; simpa [Br_t, Br_f] using h
      · rw [decide_eq_false h4] at h ⊢; simpa [Br_t, Br_f] using h
  · rw [decide_eq_false h2] at h ⊢
    by_cases h4 : a = x
    · rw [decide_eq_true h4] at h ⊢; simpa [Br_t, Br_f] using h
    · rw [decide_eq_false h4] at h ⊢; simpa [Br_t, Br_f] using h
end Go.Proofs.Ytkmoeokfgkmlhaa
