/- Joins: those of the open ones that join; frames. -/
import Derived.Test.YtaanlildniiijaaSpWalk
namespace Go.Proofs.Ytaanlildniiijaa
open Go.RowKit Go.Vc
set_option maxRecDepth 100000
set_option linter.unusedSimpArgs false
/-- Of what was there only blocks of M turned. -/
structure Fr (M : Nat → Prop) (w w1 : World) : Prop where
  os : w1.os = w.os
  tape : w1.tape = w.tape
  output : w1.output = w.output
  size : w.heap.size ≤ w1.heap.size
  block : ∀ i, i < w.heap.size → ¬ M i → w1.heap[i]? = w.heap[i]?
theorem Fr.refl (M : Nat → Prop) (w : World) : Fr M w w := ⟨rfl, rfl, rfl, Nat.le_refl _, fun _ _ _ => rfl⟩
theorem Fr.of_below {M : Nat → Prop} {w w1 : World} (h : Below w.heap.size w w1) : Fr M w w1 := ⟨h.os, h.tape, h.output, h.size, fun i hi _ => h.block i hi⟩
theorem Fr.trans {M : Nat → Prop} {w w1 w2 : World} (h : Fr M w w1) {M2 : Nat → Prop} (h2 : Fr M2 w1 w2) (hM : ∀ i, i < w.heap.size → M2 i → M i) : Fr M w w2 :=
  ⟨h2.os.trans h.os, h2.tape.trans h.tape, h2.output.trans h.output, Nat.le_trans h.size h2.size, fun i hi hn => (h2.block i (Nat.lt_of_lt_of_le hi h.size) (fun h3 => hn (hM i hi h3))).trans (h.block i hi hn)⟩
theorem Fr.below {M : Nat → Prop} {w w1 w2 : World} (h : Fr M w w1) (h2 : Below w1.heap.size w1 w2) : Fr M w w2 := h.trans (Fr.of_below (M := fun _ => False) h2) (fun _ _ h => h.elim)
theorem Fr.grown {M : Nat → Prop} {w w1 w2 : World} {r : Option Nat} (h : Fr M w w1) (h2 : w1.grownBy w2 r) (hr : ∀ b, r = some b → b < w.heap.size → M b) : Fr M w w2 :=
  h.trans (M2 := fun b => r = some b) ⟨h2.os, h2.tape, h2.output, h2.size, fun i hi hn => h2.block i hi (fun e => hn e.symm)⟩ (fun i hi e => hr i e hi)
theorem Fr.set {M : Nat → Prop} {w w1 : World} {a : Addr} {v : Value} (h : Fr M w w1) (ha : a.block < w.heap.size → M a.block) : Fr M w (w1.setCell a v) :=
  ⟨by rw [← h.os]; rfl, by rw [← h.tape]; rfl, by rw [← h.output]; rfl, by simpa using h.size, fun i hi hn => by
    rw [Below.heap_setCell _ _ _ _ (by rintro rfl; exact hn (ha hi))]; exact h.block i hi hn⟩
theorem Fr.to_below {M : Nat → Prop} {w w1 : World} {B : Nat} (h : Fr M w w1) (hB : B ≤ w.heap.size) (hM : ∀ i, M i → B ≤ i) : Below B w w1 := ⟨h.os, h.tape, h.output, h.size, fun i hi => h.block i (by omega) (fun hm => by have := hM i hm; omega)⟩
theorem _root_.Go.Vc.Blk.fr {M : Nat → Prop} {w w1 : World} {b : Nat} {c : Array Value} {t : TypeId} (h : Blk w b c t) (hf : Fr M w w1) (hn : ¬ M b) : Blk w1 b c t := by
  have hl := h.lt
  unfold Blk at *
  rw [hf.block b hl hn]; exact h
theorem Own.fr {α : Type} {L : Lay α} {M : Nat → Prop} {w w1 : World} {base : Nat} {e : TypeId} {v : Value} {xs : List α} (h : Own L w base e v xs) (hf : Fr M w w1) (hn : ∀ b, rowOf v = some b → ¬ M b) : Own L w1 base e v xs :=
  h.same fun b hb => hf.block b (h.lt b hb).2 (hn b hb)
/-- A slice that is read only of blocks that stay. -/
theorem Rd.fr {α : Type} {L : Lay α} {M : Nat → Prop} {w w1 : World} {A : Option Addr} {c n : Nat} {xs : List α} (h : Rd L w A c xs) (hf : Fr M w w1) (hn : ∀ b, rowOf (.slice A n c) = some b → ¬ M b) : Rd L w1 A c xs := by
  refine ⟨h.1, h.2.1, h.2.2.1, fun h0 => ?_⟩
  obtain ⟨b, o, rfl, hc⟩ := h.2.2.2 h0
  refine ⟨b, o, rfl, fun j u hj => ?_⟩
  have h1 := hc j u hj
  have hbn : ¬ M b := by
    have := h.1
    cases c with
    | zero => omega
    | succ c => exact hn b rfl
  have hlt : b < w.heap.size := by
    rcases Nat.lt_or_ge b w.heap.size with h2 | h2
    · exact h2
    · unfold World.cell? at h1; rw [Array.getElem?_eq_none h2] at h1; cases h1
  unfold World.cell? at *
  rw [hf.block b hlt hbn]; exact h1
theorem Rd.same {α : Type} {L : Lay α} {w w1 : World} {A : Option Addr} {c n : Nat} {xs : List α} (h : Rd L w A c xs) (hn : ∀ b, rowOf (.slice A n c) = some b → w1.heap[b]? = w.heap[b]?) : Rd L w1 A c xs := by
  refine ⟨h.1, h.2.1, h.2.2.1, fun h0 => ?_⟩
  obtain ⟨b, o, rfl, hc⟩ := h.2.2.2 h0
  refine ⟨b, o, rfl, fun j u hj => ?_⟩
  have h1 := hc j u hj
  have hbn : w1.heap[b]? = w.heap[b]? := by
    have := h.1
    cases c with
    | zero => omega
    | succ c => exact hn b rfl
  unfold World.cell? at *
  rw [hbn]; exact h1
def joinB (s x : Sp) (direct : Bool) : Bool := ancB s x && (!direct || parB s x)
/-- Those of a list that join with one, by their numbers. -/
def jn (a : List Pl) (x : Sp) (direct : Bool) : List Nat := (List.range a.length).filter fun j => joinB (el a j).s x direct
theorem jn_false (a : List Pl) (x : Sp) : jn a x false = ancs a x := by unfold jn ancs joinB; simp
theorem jn_true (a : List Pl) (x : Sp) : jn a x true = (ancs a x).filter fun j => parB (el a j).s x := by
  unfold jn ancs joinB; rw [List.filter_filter]; congr 1; funext j; simp [Bool.and_comm]
theorem jn_lt {a : List Pl} {x : Sp} {direct : Bool} {j : Nat} (h : j ∈ jn a x direct) : j < a.length := List.mem_range.1 (List.mem_filter.1 h).1
theorem ancs_lt {a : List Pl} {x : Sp} {j : Nat} (h : j ∈ ancs a x) : j < a.length := List.mem_range.1 (List.mem_filter.1 h).1
theorem jn_len (a : List Pl) (x : Sp) (direct : Bool) : (jn a x direct).length ≤ a.length := by
  have := List.length_filter_le (fun j => joinB (el a j).s x direct) (List.range a.length)
  rwa [List.length_range] at this
theorem joins_calls (a : List Pl) (x : Pl) (direct : Bool) {A : Option Addr} {aC : Nat} {O : Option Addr} {oc : Nat} (hlen : a.length ≤ 8192) (ha : ∀ p ∈ a, canB p.s = true) (hx : canB x.s = true) {w : World} (hA : Rd LPl w A aC a) (hO : Rd LN w O oc (ancs a x.s)) {R : Ending → World → Prop}
    (h : ∀ O' oc' w', Below w.heap.size w w' → Rd LN w' O' oc' (jn a x.s direct) → (∀ b, rowOf (.slice O' (jn a x.s direct).length oc') = some b → rowOf (.slice O (ancs a x.s).length oc) = some b ∨ w.heap.size ≤ b ∧ b < w'.heap.size) → R (.returned (.slice O' (jn a x.s direct).length oc')) w') :
    Calls Try.prog 62 #[.slice A a.length aC, .slice O (ancs a x.s).length oc, .agg #[.int .u64 x.node, .int .u64 x.s.b, .int .u64 x.s.e, .int .i64 x.s.l], .bool direct] w R := by
  refine ok62 A a.length aC O _ oc x.node x.s.b x.s.e x.s.l direct ?_
  unfold F62
  refine al fun g w1 hb hg hge => ?_
  cases direct with
  | false =>
    rw [jn_false] at h
    simp only [Bool.not_false, Br_t]
    exact h O oc w1 hb (hO.keep hb) fun b hb => .inl hb
  | true =>
    simp only [Bool.not_true, Br_f]
    have hol : (ancs a x.s).length ≤ a.length := by rw [← jn_false]; exact jn_len _ _ _
    refine ⟨fun T n tc i w2 => ∃ k : Nat, i = k ∧ k ≤ (ancs a x.s).length ∧ Below w.heap.size w w2 ∧ Below w1.heap.size w1 w2 ∧ Own LN w2 w1.heap.size 3 (.slice T n tc) (((ancs a x.s).take k).filter fun j => parB (el a j).s x.s), fun T n tc i w2 => (ancs a x.s).length - i.toNat, ⟨0, rfl, by omega, hb, Below.refl _ _, Own.nil _ _ _ _⟩, ?_⟩
    rintro T n tc i w2 ⟨k, rfl, hk, hb2, hb12, own⟩
    unfold F62_l5
    refine brd (fun hlt => ?_) (fun hge => ?_)
    · have hk2 : k < (ancs a x.s).length := by omega
      have htk : (ancs a x.s).take (k + 1) = (ancs a x.s).take k ++ [(ancs a x.s)[k]] := by simp [hk2]
      have hj : (ancs a x.s)[k] ∈ ancs a x.s := List.getElem_mem hk2
      refine ⟨fun T n tc w3 => Below w.heap.size w w3 ∧ Below w1.heap.size w1 w3 ∧ Own LN w3 w1.heap.size 3 (.slice T n tc) (((ancs a x.s).take (k + 1)).filter fun j => parB (el a j).s x.s), ?_, ?_⟩
      · rintro T n tc w3 ⟨hb3, hb13, own3⟩
        unfold F62_j9
        exact ⟨inR_i64 (by omega) (by omega), ⟨k + 1, by simp, by omega, hb3, hb13, own3⟩, by dsimp only; omega⟩
      · refine (hO.keep hb2).nat rfl rfl hk2 fun b o c0 => ?_
        simp only [c0, Addr.add_mk, List.getElem?_toArray, List.getElem?_cons_zero, List.getElem?_cons_succ, LdI_some, LdB_some, LdStr_some, LdP_some, LdSl_some, LdM_some, Nat.zero_add, Br_t, Br_f]
        generalize (ancs a x.s)[k] = j at *
        have hj2 : j < a.length := by rw [← jn_false] at hj; exact jn_lt hj
        have hbd : Below w1.heap.size w1 w2.drew := btr hb12 hb12.size (Below.refl _ _).drew
        have hbd' : Below w.heap.size w w2.drew := btr hb2 hb2.size (Below.refl _ _).drew
        refine ⟨fun w' => Below w1.heap.size w1 w' ∧ Below w.heap.size w w', ⟨hbd, hbd'⟩, ?_⟩
        refine hA.held (S := fun w' => Below w1.heap.size w1 w' ∧ Below w.heap.size w w') (fun _ h => h.2) (by simp) (by omega) (by omega) rfl fun b o hc => ?_
        simp only [Int.toNat_natCast] at hc
        rw [← (at_mem hj2).2] at hc
        have hg2 : ∀ i v, (#[Value.int .u64 x.node, .int .u64 x.s.b, .int .u64 x.s.e, .int .i64 x.s.l])[i]? = some v → Held (fun w' => Below w1.heap.size w1 w' ∧ Below w.heap.size w w') ⟨g, i, none⟩ v := by
          intro i v hv w' hw'
          rw [(hg.keep hw'.1).cell]; exact hv
        simp only [Addr.add_mk]
        refine ⟨_, hc 1 _ rfl, _, hc 2 _ rfl, _, hc 3 _ rfl, _, hg2 1 _ rfl, _, hg2 2 _ rfl, _, hg2 3 _ rfl, ?_⟩
        have ha1 := canB_l (ha _ (at_mem hj2).1)
        have hx1 := canB_l hx
        refine par_calls (el a j).s x.s (by omega) (by omega) fun w4 hb4 => ⟨_, rfl, ?_⟩
        have own4 := own.drew.keep hb4
        have B4 := btr hbd hbd.size hb4
        have B4' := btr hbd' hbd'.size hb4
        have hfl := List.length_filter_le (fun j => parB (el a j).s x.s) ((ancs a x.s).take k)
        rw [List.length_take] at hfl
        refine br (fun hp => ?_) (fun hp => ?_)
        · refine ap1 (L := LN) (x := j) (.int .i64 0) 8 rfl rfl rfl rfl own4 B4.size (by omega) (by simp [maxLen]; omega) fun A' c' w5 ho hgr => ?_
          refine ⟨A', _, c', rfl, B4'.trans (hgr.below.mono hb.size), B4.trans hgr.below, ?_⟩
          have e1 : [j].filter (fun j => parB (el a j).s x.s) = [j] := by simp [hp]
          rw [htk, List.filter_append, e1]
          exact ho
        · refine ⟨B4', B4, ?_⟩
          have e1 : [j].filter (fun j => parB (el a j).s x.s) = [] := by simp [hp]
          rw [htk, List.filter_append, e1, List.append_nil]
          exact own4
    · obtain rfl : k = (ancs a x.s).length := by omega
      rw [List.take_length, ← jn_true] at own
      have hlt := own.lt
      obtain ⟨rfl, hr⟩ := own.rd
      exact h T tc w2 hb2 hr fun b hb3 => .inr ⟨Nat.le_trans hb.size (hlt b hb3).1, (hlt b hb3).2⟩
end Go.Proofs.Ytaanlildniiijaa
