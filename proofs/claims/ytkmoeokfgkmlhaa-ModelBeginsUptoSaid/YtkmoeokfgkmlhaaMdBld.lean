/- Models: a list under construction, whose elements read further blocks. -/
import Derived.Test.YtkmoeokfgkmlhaaMdRd
namespace Go.Proofs.Ytkmoeokfgkmlhaa
open Go.RowKit Go.Vc Go.Mdl
set_option linter.unusedVariables false
set_option linter.unusedSimpArgs false
/-- Elements of a kind: how they lie, what they read. -/
structure Knd (α β : Type) where
  L : Lay β
  RX : World → List α → List β → Prop
  RY : World → α → β → Prop
  sub : ∀ {w w1 : World}, Sub w w1 → ∀ (p : List α) (e : List β), RX w p e → RX w1 p e
  subY : ∀ {w w1 : World}, Sub w w1 → ∀ (p : α) (e : β), RY w p e → RY w1 p e
  nil : ∀ w, RX w [] []
  snoc : ∀ {w : World} {p : List α} {e : List β} {q : α} {f : β}, RX w p e → RY w q f → RX w (p ++ [q]) (e ++ [f])
  len : ∀ {w : World} {p : List α} {e : List β}, RX w p e → e.length = p.length
def hidB (k : Nat) (r : Option Nat) (b : Nat) : Bool := Nat.ble k b && decide (r ≠ some b)
theorem hidB_iff {k : Nat} {r : Option Nat} {b : Nat} : hidB k r b = true ↔ k ≤ b ∧ r ≠ some b := by
  unfold hidB
  rw [Bool.and_eq_true, decide_eq_true_eq]
  exact ⟨fun h => ⟨Nat.le_of_ble_eq_true h.1, h.2⟩, fun h => ⟨Nat.ble_eq_true_of_le h.1, h.2⟩⟩
/-- What lies from k on, but for a row. -/
def hid (k : Nat) (r : Option Nat) (w : World) : World := wOnly (hidB k r) w
section
variable {α β : Type} {N : Knd α β} {w w1 w2 : World} {k : Nat} {e : TypeId} {v : Value} {ps : List α} {M : Nat → Prop}
def Bld (N : Knd α β) (k : Nat) (e : TypeId) (w : World) (v : Value) (ps : List α) : Prop := ∃ es, Own N.L w k e v es ∧ N.RX (hid k (rowOf v) w) ps es
theorem own_above {γ : Type} {L : Lay γ} {xs : List γ} {j : Nat} (h : Own L w k e v xs) (hj : j ≤ k) : Own L (above j w) k e v xs := by
  rcases h with h | h | ⟨g, c, cur, rfl, hb, hh, hn, hm, hs, ht⟩
  · exact .inl h
  · exact .inr (.inl h)
  · exact .inr (.inr ⟨g, c, cur, rfl, hb, cells_only (Nat.ble_eq_true_of_le (Nat.le_trans hj hb)) hh, hn, hm, hs, ht⟩)
theorem own_fm {γ : Type} {L : Lay γ} {xs : List γ} (h : Own L w k e v xs) (hf : Fm M w w1) (hm : ∀ b, rowOf v = some b → ¬ M b) : Own L w1 k e v xs := by
  rcases h with h | h | ⟨g, c, cur, rfl, hb, hh, hn, hmx, hs, ht⟩
  · exact .inl h
  · exact .inr (.inl h)
  · refine .inr (.inr ⟨g, c, cur, rfl, hb, ?_, hn, hmx, hs, ht⟩)
    rw [hf.block g (Array.getElem?_eq_some_iff.1 hh).1 (hm g rfl)]; exact hh
theorem Bld.keep (h : Bld N k e w v ps) (hf : Fm M w w1) (hm : ∀ b, k ≤ b → ¬ M b) : Bld N k e w1 v ps := by
  obtain ⟨es, h1, h2⟩ := h
  refine ⟨es, own_fm h1 hf fun b hb => hm b (h1.lt b hb).1, N.sub (sub_only (fun b _ h => h) fun b hb h => hf.block b hb (hm b (hidB_iff.1 h).1)) _ _ h2⟩
theorem Bld.len (h : Bld N k e w v ps) : ∃ A c, v = .slice A ps.length c := by
  obtain ⟨es, h1, h2⟩ := h
  obtain ⟨A, c, rfl, _⟩ := h1.form
  exact ⟨A, c, by rw [N.len h2]⟩
theorem Bld.lt (h : Bld N k e w v ps) : ∀ b, rowOf v = some b → k ≤ b ∧ b < w.heap.size := by
  obtain ⟨es, h1, h2⟩ := h
  exact h1.lt
theorem Bld.nil (N : Knd α β) (k : Nat) (e : TypeId) (w : World) : Bld N k e w (.slice none 0 0) [] := ⟨[], Own.nil _ _ _ _, N.nil _⟩
/-- What it reads, all in all. -/
theorem Bld.read (h : Bld N k e w v ps) {j : Nat} (hj : j ≤ k) : ∃ A c es, v = .slice A es.length c ∧ Rd N.L (above j w) A c es ∧ N.RX (above j w) ps es := by
  obtain ⟨es, h1, h2⟩ := h
  obtain ⟨A, c, rfl, h3⟩ := (own_above h1 hj).form
  exact ⟨A, c, es, rfl, h3, N.sub (sub_only (fun b _ h => Nat.ble_eq_true_of_le (Nat.le_trans hj (hidB_iff.1 h).1)) fun _ _ _ => rfl) _ _ h2⟩
/-- A literal of one. -/
theorem Bld.one {g : Nat} {cur : Array Value} {x : α} {y : β} (hg : Blk w2 g cur e) (hc : cur.toList = N.L.cells y) (hb : Below w1.heap.size w1 w2) (hge : w1.heap.size ≤ g) (hk : k ≤ w1.heap.size) (hy : N.RY (above k w1) x y) :
    Bld N k e w2 (.slice (some ⟨g, 0, none⟩) 1 1) [x] := by
  refine ⟨[y], Own.lit' (L := N.L) (xs := [y]) hg (Nat.le_trans hk hge) (by rw [hc, N.L.all_one]) (by simp [maxLen]), ?_⟩
  refine N.snoc (p := []) (e := []) (N.nil _) (N.subY (sub_only (fun b hb2 h => ?_) fun b hb2 h => hb.block b hb2) _ _ hy)
  rw [hidB_iff]
  have h3 := Nat.le_of_ble_eq_true h
  exact ⟨h3, by show (some g : Option Nat) ≠ some b; intro e; cases e; omega⟩
/-- One more, that was made since. -/
theorem Bld.app {P : Program} {y : β} {x : α} {cs : Array Value} {t ty : TypeId} (z : Value) (bytes : Nat) (h : Bld N k e w v ps) (hf : Fm M w w1) (hm : ∀ b, k ≤ b → ¬ M b) (hk : k ≤ w.heap.size) (hy : N.RY (above w.heap.size w1) x y) (hcs : cs.toList = N.L.cells y)
    (ht : P.underlying t = some (.slice e)) (hinfo : (P.info? e).map (fun i => (i.zero, i.size, i.bytes)) = some (some z, N.L.n, bytes)) (hz : z.cells.size = N.L.n)
    (hl : (ps.length + 1) * bytes ≤ 140737488355328) (hml : ps.length + 1 ≤ maxLen) {K : Value → World → Prop}
    (hK : ∀ A' c' w2, Bld N k e w2 (.slice A' (ps.length + 1) c') (ps ++ [x]) → Fm (fun b => k ≤ b) w1 w2 → K (.slice A' (ps.length + 1) c') w2) :
    Al w1 cs e fun g w2 => Raw P (Builtin.append_ #[t, t] ty #[v, .slice (some g) 1 1]) w2 K := by
  have hlt := h.lt
  obtain ⟨es, h1, h2⟩ := h.keep hf hm
  have hlen := N.len h2
  rw [← hlen] at hl hml hK
  refine ap1 (L := N.L) (x := y) z bytes hcs ht hinfo hz h1 (Nat.le_trans hk hf.size) hl hml fun A' c' w2 ho hg => hK A' c' w2 ⟨es ++ [y], by simpa using ho, ?_⟩ ⟨hg.below.os, hg.below.tape, hg.below.output, hg.lt, fun b hb hm => hg.below.block b (by omega)⟩
  have hrow : ∀ b, b < w1.heap.size → rowOf v ≠ some b → rowOf (.slice A' (es.length + 1) c') ≠ some b := by
    intro b hb hne
    rcases hg.row with h3 | h3 | ⟨g, h3, h4⟩
    · rw [h3]; exact hne
    · rw [h3]; simp
    · rw [h3]; intro e; cases e; omega
  refine N.snoc (N.sub (sub_only (fun b hb h3 => ?_) fun b hb h3 => ?_) _ _ h2) (N.subY (sub_only (fun b hb h3 => ?_) fun b hb h3 => ?_) _ _ hy)
  · rw [hidB_iff] at h3 ⊢
    exact ⟨h3.1, hrow b hb h3.2⟩
  · rw [hidB_iff] at h3
    exact hg.grown.block b hb (Ne.symm h3.2)
  · have h4 := Nat.le_of_ble_eq_true h3
    rw [hidB_iff]
    exact ⟨Nat.le_trans hk h4, hrow b hb fun e => by have := (hlt b e).2; omega⟩
  · have h4 := Nat.le_of_ble_eq_true h3
    exact hg.grown.block b hb fun e => by have := (hlt b e.symm).2; omega
end
def KP : Knd Part E := ⟨LE, RdR, RdP, fun h p e => RdR.sub h p e, fun h p e => RdP.sub h p e, fun _ => by simp only [RdR], fun h k => RdR.snoc k h, RdR.len⟩
def KW : Knd (List Part) Sv := ⟨LSv, RdL, RdW, fun h p e => RdL.sub h p e, fun h p e => RdW.sub h, fun _ => by simp only [RdL], fun h k => RdL.snoc k h, RdL.len⟩
end Go.Proofs.Ytkmoeokfgkmlhaa
