/- Joins: the pairs. -/
import Derived.Test.YtaanlildniiijaaSpJoins
namespace Go.Proofs.Ytaanlildniiijaa
open Go.RowKit Go.Vc
set_option maxRecDepth 100000
set_option linter.unusedSimpArgs false
def LPr : Lay (Int × Int) := ⟨2, fun p => [.int .u64 p.1, .int .u64 p.2], fun _ => rfl, fun _ => by simp [Value.oneCell'], by decide⟩
/-- Boxes, one of which holds a slice of pairs that grows; the blocks of N are apart from them. -/
structure PI (bs : List (Nat × Array Value × TypeId)) (go : Nat) (w0 : World) (out : List (Int × Int)) (N : Nat → Prop) (w : World) : Prop where
  below : Below w0.heap.size w0 w
  bx : ∀ p ∈ bs, Blk w p.1 p.2.1 p.2.2
  sep : w0.heap.size ≤ go ∧ ∀ p ∈ bs, p.1 ≠ go
  out : ∃ X n xc, Blk w go #[.slice X n xc] 38 ∧ Own LPr w w0.heap.size 53 (.slice X n xc) out ∧ ∀ b, rowOf (.slice X n xc) = some b → b ≠ go ∧ (∀ p ∈ bs, b ≠ p.1) ∧ ¬ N b
  nn : ∀ b, N b → (w0.heap.size ≤ b ∧ b < w.heap.size) ∧ b ≠ go ∧ ∀ p ∈ bs, b ≠ p.1
section
variable {bs : List (Nat × Array Value × TypeId)} {go : Nat} {w0 w w1 : World} {out : List (Int × Int)} {N N' : Nat → Prop} {r : Option Nat}
theorem _root_.Go.Vc.Blk.grown {b : Nat} {c : Array Value} {t : TypeId} (h : Blk w b c t) (hg : w.grownBy w1 r) (hn : r ≠ some b) : Blk w1 b c t := by
  unfold Blk; rw [hg.block b h.lt (Ne.symm hn)]; exact h
theorem PI.grow (H : PI bs go w0 out N w) (hg : w.grownBy w1 r) (hr : ∀ b, r = some b → N b) (hN : ∀ b, N' b → N b ∨ w.heap.size ≤ b ∧ b < w1.heap.size) : PI bs go w0 out N' w1 := by
  obtain ⟨X, n, xc, h1, h2, h3⟩ := H.out
  have hrow : ∀ b, rowOf (.slice X n xc) = some b → ¬ N' b := fun b hb hn => by
    rcases hN b hn with h | h
    · exact (h3 b hb).2.2 h
    · have := (h2.lt b hb).2; omega
  refine ⟨⟨hg.os.trans H.below.os, hg.tape.trans H.below.tape, hg.output.trans H.below.output, Nat.le_trans H.below.size hg.size, fun i hi => ?_⟩, fun p hp => ?_, H.sep, ⟨X, n, xc, ?_, ?_, fun b hb => ⟨(h3 b hb).1, (h3 b hb).2.1, hrow b hb⟩⟩, fun b hb => ?_⟩
  · rw [hg.block i (Nat.lt_of_lt_of_le hi H.below.size) (fun e => by have := (H.nn i (hr i e.symm)).1.1; omega)]
    exact H.below.block i hi
  · exact (H.bx p hp).grown hg fun e => (H.nn _ (hr _ e)).2.2 p hp rfl
  · exact h1.grown hg fun e => (H.nn _ (hr _ e)).2.1 rfl
  · refine h2.other hg ?_
    cases hv : rowOf (.slice X n xc) with
    | none => exact .inl rfl
    | some b =>
      refine .inr fun e => (h3 b hv).2.2 (hr b e.symm)
  · rcases hN b hb with h | h
    · have := H.nn b h; exact ⟨⟨this.1.1, Nat.lt_of_lt_of_le this.1.2 hg.size⟩, this.2⟩
    · exact ⟨⟨Nat.le_trans H.below.size h.1, h.2⟩, fun e => by have := h1.lt; omega, fun p hp e => by have := (H.bx p hp).lt; omega⟩
theorem PI.keep (H : PI bs go w0 out N w) (hb : Below w.heap.size w w1) (hN : ∀ b, N' b → N b ∨ w.heap.size ≤ b ∧ b < w1.heap.size) : PI bs go w0 out N' w1 :=
  H.grow (r := none) (grown_of_below hb none) (fun _ e => by cases e) hN
theorem PI.sub (H : PI bs go w0 out N w) (hN : ∀ b, N' b → N b) : PI bs go w0 out N' w := H.keep (Below.refl _ _) fun b hb => .inl (hN b hb)
/-- One pair more. -/
theorem PI.app (H : PI bs go w0 out N w) {X : Option Addr} {n xc : Nat} (hX : Blk w go #[.slice X n xc] 38) {x y : Int} (hl : out.length ≤ 67108864) {S : World → Prop} (hS : ∀ w1, Below w.heap.size w w1 → S w1) {K : Option Addr → Nat → Nat → World → Prop}
    (hK : ∀ X' xc' w1, PI bs go w0 (out ++ [(x, y)]) N w1 → Blk w1 go #[.slice X' (out.length + 1) xc'] 38 → w.heap.size ≤ w1.heap.size → (∀ b, N b → w1.heap[b]? = w.heap[b]?) → K X' (out.length + 1) xc' w1) :
    Al w.drew #[(.int .u64 x), (.int .u64 y)] 53 fun g w1 => S w1 ∧ Raw Try.prog (Builtin.append_ #[38, 38] 38 #[.slice X n xc, .slice (some g) 1 1]) w1 fun v w2 =>
      ∃ (A : Option Addr) (m c : Nat), v = .slice A m c ∧ St w2 ⟨go, 0, none⟩ (.slice A m c) fun w3 => K A m c w3 := by
  obtain ⟨X1, n1, xc1, h1, h2, h3⟩ := H.out
  have e : (#[Value.slice X1 n1 xc1] : Array Value) = #[.slice X n xc] := by
    have := h1; unfold Blk at this hX; rw [hX] at this; injection this with this; injection this with h _ _; exact h.symm
  obtain ⟨rfl, rfl, rfl⟩ : X1 = X ∧ n1 = n ∧ xc1 = xc := by simpa using e
  have hd : Below w.heap.size w w.drew := (Below.refl _ _).drew
  refine ap1S (L := LPr) (x := (x, y)) (.agg #[.int .u64 0, .int .u64 0]) 16 rfl rfl rfl rfl h2.drew H.below.size (by omega) (by simp [maxLen]; omega) (fun w1 hb => hS w1 (btr hd hd.size hb)) fun A' c' w2 ho hg => ?_
  have hgr : w.grownBy w2 (rowOf (.slice X1 n1 xc1)) := ⟨hg.grown.os, hg.grown.tape, hg.grown.output, hg.grown.size, hg.grown.block⟩
  have hgo : Blk w2 go #[.slice X1 n1 xc1] 38 := h1.grown hgr fun e => (h3 _ e).1 rfl
  refine ⟨A', _, c', rfl, ⟨_, by rw [hgo.cell]; rfl⟩, hgo.frozen 0, ?_⟩
  have hrow : ∀ b, rowOf (.slice A' (out.length + 1) c') = some b → b ≠ go ∧ (∀ p ∈ bs, b ≠ p.1) ∧ ¬ N b := by
    intro b hb
    rcases hg.row with h | h | ⟨g, h, hge⟩
    · exact h3 b (h ▸ hb)
    · rw [h] at hb; cases hb
    · obtain rfl : g = b := by rw [h] at hb; exact Option.some.inj hb
      have hge' : w.heap.size ≤ g := hge
      exact ⟨fun e => by have := h1.lt; omega, fun p hp e => by have := (H.bx p hp).lt; omega, fun hn => by have := (H.nn _ hn).1.2; omega⟩
  have hB : Below w0.heap.size w0 w2 := (btr H.below H.below.size hd).trans hg.below
  have hsz : w.heap.size ≤ w2.heap.size := hg.lt
  refine hK A' c' _ ⟨hB.setCell H.sep.1 _, fun p hp => ((H.bx p hp).grown hgr fun e => (h3 _ e).2.1 p hp rfl).other (Ne.symm (H.sep.2 p hp)) _, H.sep, ⟨A', _, c', hgo.set 0 _, ho.same fun b hb => ?_, hrow⟩, fun b hb => ?_⟩ (hgo.set 0 _) (by simpa using hsz) fun b hb => ?_
  · rw [Below.heap_setCell _ _ _ _ (hrow b hb).1]
  · have := H.nn b hb
    exact ⟨⟨this.1.1, by simp; omega⟩, this.2⟩
  · have := H.nn b hb
    rw [Below.heap_setCell _ _ _ _ this.2.1, hgr.block b this.1.2 fun e => (h3 b e.symm).2.2 hb]
end
end Go.Proofs.Ytaanlildniiijaa
