/- Joins: with how many each joins. -/
import Derived.Test.YtaanlildniiijaaSpPairs2
import Derived.Test.YtaanlildniiijaaVcHeap
namespace Go.Proofs.Ytaanlildniiijaa
open Go.RowKit Go.Vc
set_option maxRecDepth 100000
set_option linter.unusedSimpArgs false
def rowN (xs : List Nat) : Array Value := (xs.map fun n : Nat => Value.int .i64 n).toArray
theorem rowN_get {xs : List Nat} {k : Nat} (h : k < xs.length) : (rowN xs)[k]? = some (.int .i64 xs[k]) := by simp [rowN, h]
theorem rowN_size (xs : List Nat) : (rowN xs).size = xs.length := by simp [rowN]
theorem rowN_set (xs : List Nat) (k v : Nat) : (rowN xs).setIfInBounds k (.int .i64 v) = rowN (xs.set k v) := by simp [rowN, List.map_set]
theorem zrowN (n : Nat) : zrow #[.int .i64 0] (n * 1) = rowN (List.replicate n 0) := by
  unfold zrow rowN
  apply Array.ext
  · simp
  · intro i h1 h2
    simp [Nat.mod_one]
/-- A row of numbers, read. -/
theorem _root_.Go.Vc.Blk.rdN {w : World} {X : Nat} {xs : List Nat} {t : TypeId} (h : Blk w X (rowN xs) t) (hm : xs.length ≤ maxLen) : Rd LN w (some ⟨X, 0, none⟩) xs.length xs := by
  refine ⟨Nat.le_refl _, hm, (fun e => by cases e), fun h0 => ⟨X, 0, rfl, fun j u hj => ?_⟩⟩
  rw [Nat.zero_add, h.cell]
  have : LN.all xs = xs.map fun n : Nat => Value.int .i64 n := by
    clear hj h0 hm h
    induction xs with
    | nil => rfl
    | cons x xs ih => rw [List.map_cons, ← ih]; rfl
  rw [this] at hj
  simpa [rowN] using hj
/-- Boxes, and two rows of numbers; the blocks of N are apart from them. -/
structure CI (bs : List (Nat × Array Value × TypeId)) (X Y : Nat) (w0 : World) (xs ys : List Nat) (N : Nat → Prop) (w : World) : Prop where
  below : Below w0.heap.size w0 w
  bx : ∀ p ∈ bs, Blk w p.1 p.2.1 p.2.2
  sep : w0.heap.size ≤ X ∧ w0.heap.size ≤ Y ∧ X ≠ Y ∧ ∀ p ∈ bs, p.1 ≠ X ∧ p.1 ≠ Y
  rx : Blk w X (rowN xs) 3
  ry : Blk w Y (rowN ys) 3
  nn : ∀ b, N b → (w0.heap.size ≤ b ∧ b < w.heap.size) ∧ b ≠ X ∧ b ≠ Y ∧ ∀ p ∈ bs, b ≠ p.1
section
variable {bs : List (Nat × Array Value × TypeId)} {X Y : Nat} {w0 w w1 : World} {xs ys : List Nat} {N N' : Nat → Prop} {r : Option Nat}
theorem CI.grow (H : CI bs X Y w0 xs ys N w) (hg : w.grownBy w1 r) (hr : ∀ b, r = some b → N b) (hN : ∀ b, N' b → N b ∨ w.heap.size ≤ b ∧ b < w1.heap.size) : CI bs X Y w0 xs ys N' w1 := by
  refine ⟨⟨hg.os.trans H.below.os, hg.tape.trans H.below.tape, hg.output.trans H.below.output, Nat.le_trans H.below.size hg.size, fun i hi => ?_⟩, fun p hp => ?_, H.sep, ?_, ?_, fun b hb => ?_⟩
  · rw [hg.block i (Nat.lt_of_lt_of_le hi H.below.size) (fun e => by have := (H.nn i (hr i e.symm)).1.1; omega)]
    exact H.below.block i hi
  · exact (H.bx p hp).grown hg fun e => (H.nn _ (hr _ e)).2.2.2 p hp rfl
  · exact H.rx.grown hg fun e => (H.nn _ (hr _ e)).2.1 rfl
  · exact H.ry.grown hg fun e => (H.nn _ (hr _ e)).2.2.1 rfl
  · rcases hN b hb with h | h
    · have := H.nn b h; exact ⟨⟨this.1.1, Nat.lt_of_lt_of_le this.1.2 hg.size⟩, this.2⟩
    · exact ⟨⟨Nat.le_trans H.below.size h.1, h.2⟩, fun e => by have := H.rx.lt; omega, fun e => by have := H.ry.lt; omega, fun p hp e => by have := (H.bx p hp).lt; omega⟩
theorem CI.keep (H : CI bs X Y w0 xs ys N w) (hb : Below w.heap.size w w1) (hN : ∀ b, N' b → N b ∨ w.heap.size ≤ b ∧ b < w1.heap.size) : CI bs X Y w0 xs ys N' w1 :=
  H.grow (r := none) (grown_of_below hb none) (fun _ e => by cases e) hN
theorem CI.sub (H : CI bs X Y w0 xs ys N w) (hN : ∀ b, N' b → N b) : CI bs X Y w0 xs ys N' w := H.keep (Below.refl _ _) fun b hb => .inl (hN b hb)
theorem CI.setX (H : CI bs X Y w0 xs ys N w) (k v : Nat) : CI bs X Y w0 (xs.set k v) ys N (w.setCell ⟨X, k, none⟩ (.int .i64 v)) := by
  refine ⟨H.below.setCell H.sep.1 _, fun p hp => (H.bx p hp).other (Ne.symm (H.sep.2.2.2 p hp).1) _, H.sep, ?_, H.ry.other H.sep.2.2.1 _, fun b hb => ?_⟩
  · rw [← rowN_set]; exact H.rx.set k _
  · have := H.nn b hb; exact ⟨⟨this.1.1, by simpa using this.1.2⟩, this.2⟩
theorem CI.setY (H : CI bs X Y w0 xs ys N w) (k v : Nat) : CI bs X Y w0 xs (ys.set k v) N (w.setCell ⟨Y, k, none⟩ (.int .i64 v)) := by
  refine ⟨H.below.setCell H.sep.2.1 _, fun p hp => (H.bx p hp).other (Ne.symm (H.sep.2.2.2 p hp).2) _, H.sep, H.rx.other (Ne.symm H.sep.2.2.1) _, ?_, fun b hb => ?_⟩
  · rw [← rowN_set]; exact H.ry.set k _
  · have := H.nn b hb; exact ⟨⟨this.1.1, by simpa using this.1.2⟩, this.2⟩
end
/-- With how many of the first i each of the first list joins, and those of the first m that join with number i. -/
def cntS (a d : List Pl) (direct : Bool) (i m : Nat) : List Nat := (List.range a.length).map fun k => (List.range i).countP (fun j => joinB (el a k).s (el d j).s direct) + ((jn a (el d i).s direct).take m).count k
def lenS (a d : List Pl) (direct : Bool) (i : Nat) : List Nat := (List.range d.length).map fun j => if j < i then (jn a (el d j).s direct).length else 0
theorem cntS_len (a d : List Pl) (direct : Bool) (i m : Nat) : (cntS a d direct i m).length = a.length := by simp [cntS]
theorem lenS_len (a d : List Pl) (direct : Bool) (i : Nat) : (lenS a d direct i).length = d.length := by simp [lenS]
theorem cntS_get (a d : List Pl) (direct : Bool) (i m : Nat) {k : Nat} (hk : k < a.length) : (cntS a d direct i m)[k]'(by rw [cntS_len]; exact hk) = (List.range i).countP (fun j => joinB (el a k).s (el d j).s direct) + ((jn a (el d i).s direct).take m).count k := by simp [cntS]
theorem cntS_zero (a d : List Pl) (direct : Bool) : cntS a d direct 0 0 = List.replicate a.length 0 := by
  refine List.ext_getElem (by simp [cntS]) fun k h1 h2 => ?_
  simp [cntS]
theorem lenS_zero (a d : List Pl) (direct : Bool) : lenS a d direct 0 = List.replicate d.length 0 := by
  refine List.ext_getElem (by simp [lenS]) fun k h1 h2 => ?_
  simp [lenS]
theorem cntS_step (a d : List Pl) (direct : Bool) (i m : Nat) (hm : m < (jn a (el d i).s direct).length) (hj : (jn a (el d i).s direct)[m] < a.length) :
    (cntS a d direct i m).set (jn a (el d i).s direct)[m] ((cntS a d direct i m)[(jn a (el d i).s direct)[m]]'(by rw [cntS_len]; exact hj) + 1) = cntS a d direct i (m + 1) := by
  refine List.ext_getElem (by simp [cntS]) fun k h1 h2 => ?_
  have hk : k < a.length := by simpa [cntS] using h2
  rw [List.getElem_set, cntS_get a d direct i (m + 1) hk, List.take_succ_eq_append_getElem hm, List.count_append]
  split
  · rename_i e
    subst e
    rw [cntS_get a d direct i m hj]
    simp
    omega
  · rename_i e
    rw [cntS_get a d direct i m hk, List.count_singleton, if_neg (by simpa using e)]; rfl
theorem range_count (k : Nat) : ∀ n, (List.range n).count k = if k < n then 1 else 0
  | 0 => by simp
  | n + 1 => by
    rw [List.range_succ, List.count_append, range_count k n, List.count_singleton]
    by_cases h : k < n
    · rw [if_pos h, if_neg (by simp; omega), if_pos (by omega)]
    · rw [if_neg h]
      by_cases h2 : k = n
      · rw [if_pos (by simpa using h2.symm), if_pos (by omega)]
      · rw [if_neg (by simp; omega), if_neg (by omega)]
theorem jn_count (a : List Pl) (x : Sp) (direct : Bool) {k : Nat} (hk : k < a.length) : (jn a x direct).count k = if joinB (el a k).s x direct then 1 else 0 := by
  split
  · rename_i h; unfold jn; rw [List.count_filter (by exact h), range_count, if_pos hk]
  · rename_i h; exact List.count_eq_zero_of_not_mem fun hm => h (List.mem_filter.1 hm).2
theorem cntS_end (a d : List Pl) (direct : Bool) (i : Nat) : cntS a d direct i (jn a (el d i).s direct).length = cntS a d direct (i + 1) 0 := by
  refine List.ext_getElem (by simp [cntS]) fun k h1 h2 => ?_
  have hk : k < a.length := by simpa [cntS] using h2
  rw [cntS_get _ _ _ _ _ hk, cntS_get _ _ _ _ _ hk, List.take_length, jn_count _ _ _ hk, List.range_succ, List.countP_append]
  simp [List.countP_cons]
theorem cntS_le (a d : List Pl) (direct : Bool) (i m : Nat) {k : Nat} (hk : k < a.length) : (cntS a d direct i m)[k]'(by rw [cntS_len]; exact hk) ≤ i + m := by
  rw [cntS_get _ _ _ _ _ hk]
  have h1 := List.countP_le_length (p := fun j => joinB (el a k).s (el d j).s direct) (l := List.range i)
  have h2 := List.count_le_length (a := k) (l := (jn a (el d i).s direct).take m)
  rw [List.length_range] at h1
  rw [List.length_take] at h2
  omega
theorem lenS_step (a d : List Pl) (direct : Bool) (i : Nat) : (lenS a d direct i).set i (jn a (el d i).s direct).length = lenS a d direct (i + 1) := by
  refine List.ext_getElem (by simp [lenS]) fun k h1 h2 => ?_
  rw [List.getElem_set]
  simp only [lenS, List.getElem_map, List.getElem_range]
  split
  · rename_i e; subst e; simp
  · rename_i e
    by_cases hlt : k < i
    · rw [if_pos hlt, if_pos (by omega)]
    · rw [if_neg hlt, if_neg (by omega)]
end Go.Proofs.Ytaanlildniiijaa
