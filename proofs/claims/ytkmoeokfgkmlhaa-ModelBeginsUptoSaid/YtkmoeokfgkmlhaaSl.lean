/- Words for slices: what a slice reads, a row of the call's own, its appends, cuts and stores, whatever its elements are. -/
import Derived.Test.YtkmoeokfgkmlhaaWords
import Derived.Maps.AppendAt
import Derived.Laws.OwnMore
import Derived.WalkSmall
namespace Go.Proofs.Ytkmoeokfgkmlhaa
open Go.RowKit
/-- How an element lies in memory. -/
structure Lay (α : Type) where
  n : Nat
  cells : α → List Value
  len : ∀ x, (cells x).length = n
  one : ∀ x, ∀ u ∈ cells x, u.oneCell' = true
  pos : 0 < n
namespace Lay
variable {α : Type} (L : Lay α)
def all (xs : List α) : List Value := xs.flatMap L.cells
theorem all_nil : L.all [] = [] := rfl
theorem all_one (x : α) : L.all [x] = L.cells x := by simp [all]
theorem all_append (xs ys : List α) : L.all (xs ++ ys) = L.all xs ++ L.all ys := by simp [all]
theorem all_length : ∀ xs : List α, (L.all xs).length = xs.length * L.n
  | [] => by simp [all]
  | x :: xs => by
    have := all_length xs
    simp only [all, List.flatMap_cons, List.length_append, L.len, List.length_cons] at *
    rw [this, Nat.add_mul]; omega
theorem all_ones (xs : List α) : ∀ u ∈ L.all xs, u.oneCell' = true := by
  intro u hu
  obtain ⟨x, _, h⟩ := List.mem_flatMap.1 hu
  exact L.one x u h
theorem all_at : ∀ (xs : List α) (i : Nat) (h : i < xs.length) (j : Nat), j < L.n → (L.all xs)[i * L.n + j]? = (L.cells xs[i])[j]?
  | x :: xs, 0, _, j, hj => by
    simp only [all, List.flatMap_cons, List.getElem_cons_zero, Nat.zero_mul, Nat.zero_add]
    rw [List.getElem?_append_left (by rw [L.len]; exact hj)]
  | x :: xs, i + 1, h, j, hj => by
    have ih := all_at xs i (by simpa using h) j hj
    simp only [all, List.flatMap_cons, List.getElem_cons_succ] at *
    rw [List.getElem?_append_right (by rw [L.len, Nat.add_mul]; omega), L.len]
    rw [← ih]; congr 1; rw [Nat.add_mul]; omega
theorem all_take (xs : List α) (k : Nat) : L.all (xs.take k) = (L.all xs).take (k * L.n) := by
  rcases Nat.le_total k xs.length with hk | hk
  · have h : L.all xs = L.all (xs.take k) ++ L.all (xs.drop k) := by rw [← all_append, List.take_append_drop]
    rw [h, List.take_left']
    rw [all_length, List.length_take, Nat.min_eq_left hk]
  · rw [List.take_of_length_le hk, List.take_of_length_le]
    rw [all_length]; exact Nat.mul_le_mul_right _ hk
theorem all_drop (xs : List α) (k : Nat) (hk : k ≤ xs.length) : L.all (xs.drop k) = (L.all xs).drop (k * L.n) := by
  have h : L.all xs = L.all (xs.take k) ++ L.all (xs.drop k) := by rw [← all_append, List.take_append_drop]
  rw [h, List.drop_left']
  rw [all_length, List.length_take, Nat.min_eq_left hk]
theorem all_set (xs : List α) (i : Nat) (x : α) (h : i < xs.length) : L.all (xs.set i x) = (L.all xs).take (i * L.n) ++ (L.cells x ++ (L.all xs).drop ((i + 1) * L.n)) := by
  rw [List.set_eq_take_append_cons_drop, if_pos h, all_append, ← all_take, ← all_drop _ _ _ (by omega)]
  simp [all]
end Lay
/-- v is a slice that reads xs: who owns its cells is left open. -/
def Rd {α : Type} (L : Lay α) (w : World) (A : Option Addr) (c : Nat) (xs : List α) : Prop :=
  xs.length ≤ c ∧ c ≤ maxLen ∧ (A = none → c = 0) ∧ (0 < xs.length → ∃ b o, A = some ⟨b, o, none⟩ ∧ ∀ j u, (L.all xs)[j]? = some u → w.cell? ⟨b, o + j, none⟩ = some u)
theorem Rd.keep {α : Type} {L : Lay α} {w w1 : World} {A : Option Addr} {c : Nat} {xs : List α} (h : Rd L w A c xs) (hb : Below w.heap.size w w1) : Rd L w1 A c xs := by
  refine ⟨h.1, h.2.1, h.2.2.1, fun h0 => ?_⟩
  obtain ⟨b, o, hA, hc⟩ := h.2.2.2 h0
  exact ⟨b, o, hA, fun j u hj => kcell hb (hc j u hj)⟩
theorem Rd.nil {α : Type} (L : Lay α) (w : World) : Rd L w none 0 [] := ⟨Nat.le_refl _, by simp [maxLen], fun _ => rfl, fun h => absurd h (by simp)⟩
/-- An element's cells. -/
theorem Rd.at {α : Type} {L : Lay α} {w : World} {A : Option Addr} {c : Nat} {xs : List α} (h : Rd L w A c xs) (i : Nat) (hi : i < xs.length) :
    ∃ b o, A = some ⟨b, o, none⟩ ∧ ∀ j u, (L.cells xs[i])[j]? = some u → w.cell? ⟨b, o + i * L.n + j, none⟩ = some u := by
  obtain ⟨b, o, hA, hc⟩ := h.2.2.2 (by omega)
  refine ⟨b, o, hA, fun j u hj => ?_⟩
  have hjn : j < L.n := by rw [← L.len xs[i]]; exact (List.getElem?_eq_some_iff.1 hj).1
  have := hc (i * L.n + j) u (by rw [L.all_at xs i hi j hjn]; exact hj)
  rwa [← Nat.add_assoc] at this
theorem Rd.drop {α : Type} {L : Lay α} {w : World} {b o c : Nat} {xs : List α} (h : Rd L w (some ⟨b, o, none⟩) c xs) (k : Nat) (hk : k ≤ xs.length) :
    Rd L w (some ⟨b, o + k * L.n, none⟩) (c - k) (xs.drop k) := by
  refine ⟨by rw [List.length_drop]; have := h.1; omega, by have := h.2.1; omega, (fun h0 => by cases h0), fun h0 => ⟨b, _, rfl, fun j u hj => ?_⟩⟩
  rw [List.length_drop] at h0
  obtain ⟨b', o', hA, hc⟩ := h.2.2.2 (by omega)
  simp only [Option.some.injEq, Addr.mk.injEq, and_true] at hA
  obtain ⟨rfl, rfl⟩ := hA
  rw [L.all_drop _ _ hk, List.getElem?_drop] at hj
  have := hc _ _ hj
  rwa [← Nat.add_assoc] at this
theorem Rd.take {α : Type} {L : Lay α} {w : World} {A : Option Addr} {c : Nat} {xs : List α} (h : Rd L w A c xs) (k : Nat) : Rd L w A c (xs.take k) := by
  refine ⟨by rw [List.length_take]; have := h.1; omega, h.2.1, h.2.2.1, fun h0 => ?_⟩
  · rw [List.length_take] at h0
    obtain ⟨b, o, hA, hc⟩ := h.2.2.2 (by omega)
    refine ⟨b, o, hA, fun j u hj => hc j u ?_⟩
    rw [L.all_take] at hj
    have hlt := (List.getElem?_eq_some_iff.1 hj).1
    rw [List.length_take] at hlt
    rwa [List.getElem?_take_of_lt (by omega)] at hj
/-- The block that a slice may write into: none where it has no capacity. -/
def rowOf : Value → Option Nat
  | .slice (some a) _ (_ + 1) => some a.block
  | _ => none
/-- v is a slice of the call's own that holds xs. -/
def Own {α : Type} (L : Lay α) (w : World) (base : Nat) (e : TypeId) (v : Value) (xs : List α) : Prop :=
  (v = .slice none 0 0 ∧ xs = []) ∨ ((∃ a, v = .slice (some a) 0 0) ∧ xs = []) ∨
  ∃ g c cur, v = .slice (some ⟨g, 0, none⟩) xs.length (c + 1) ∧ base ≤ g ∧ w.heap[g]? = some (.cells cur e (0, 0)) ∧ xs.length ≤ c + 1 ∧ c + 1 ≤ maxLen ∧ cur.size = (c + 1) * L.n ∧ cur.toList.take (xs.length * L.n) = L.all xs
section
variable {α : Type} {L : Lay α} {w w1 W : World} {base : Nat} {e : TypeId} {v : Value} {xs : List α}
theorem Own.of_row (h : w.ownsRow base e L.n v xs.length (L.all xs)) : Own L w base e v xs := by
  rcases h.2 with ⟨rfl, h0⟩ | ⟨g, cap, cur, rfl, hb, hh, hn, hm, hs, ht⟩
  · exact .inl ⟨rfl, List.eq_nil_of_length_eq_zero h0⟩
  · cases cap with
    | zero => 
      obtain rfl : xs = [] := List.eq_nil_of_length_eq_zero (by omega)
      exact .inr (.inl ⟨⟨_, rfl⟩, rfl⟩)
    | succ c => exact .inr (.inr ⟨g, c, cur, rfl, hb, hh, hn, hm, hs, ht⟩)
theorem Own.row (h : Own L w base e v xs) : (w.ownsRow base e L.n v xs.length (L.all xs) ∧ rowOf v = v.ownBlock) ∨ ((∃ a, v = .slice (some a) 0 0) ∧ xs = []) := by
  rcases h with ⟨rfl, rfl⟩ | h | ⟨g, c, cur, rfl, hb, hh, hn, hm, hs, ht⟩
  · exact .inl ⟨World.ownsRow_nil _ _ _ _, rfl⟩
  · exact .inr h
  · exact .inl ⟨⟨L.all_length xs, .inr ⟨g, c + 1, cur, rfl, hb, hh, hn, hm, hs, ht⟩⟩, rfl⟩
theorem Own.nil (L : Lay α) (w : World) (base : Nat) (e : TypeId) : Own L w base e (.slice none 0 0) [] := .inl ⟨rfl, rfl⟩
theorem Own.bare (L : Lay α) (w : World) (base : Nat) (e : TypeId) (a : Addr) : Own L w base e (.slice (some a) 0 0) [] := .inr (.inl ⟨⟨a, rfl⟩, rfl⟩)
/-- Its shape. -/
theorem Own.form (h : Own L w base e v xs) : ∃ A c, v = .slice A xs.length c ∧ Rd L w A c xs := by
  rcases h with ⟨rfl, rfl⟩ | ⟨⟨a, rfl⟩, rfl⟩ | ⟨g, c, cur, rfl, hb, hh, hn, hm, hs, ht⟩
  · exact ⟨none, 0, rfl, Rd.nil _ _⟩
  · exact ⟨some a, 0, rfl, by simp, by simp [maxLen], fun _ => rfl, fun h => absurd h (by simp)⟩
  · refine ⟨_, c + 1, rfl, ⟨hn, hm, (fun h0 => by cases h0), fun h0 => ⟨g, 0, rfl, fun j u hj => ?_⟩⟩⟩
    have h : w.ownsRow base e L.n (.slice (some ⟨g, 0, none⟩) xs.length (c + 1)) xs.length (L.all xs) := ⟨L.all_length xs, .inr ⟨g, c + 1, cur, rfl, hb, hh, hn, hm, hs, ht⟩⟩
    have := World.ownsRow.cells h (g := g) rfl j u hj
    rw [Addr.add_lit] at this
    exact this
theorem Own.rd {A : Option Addr} {n c : Nat} (h : Own L w base e (.slice A n c) xs) : n = xs.length ∧ Rd L w A c xs := by
  obtain ⟨A', c', he, hr⟩ := h.form
  cases he
  exact ⟨rfl, hr⟩
theorem Own.lt (h : Own L w base e v xs) : ∀ k, rowOf v = some k → base ≤ k ∧ k < w.heap.size := by
  intro k hk
  rcases h with ⟨rfl, rfl⟩ | ⟨⟨a, rfl⟩, rfl⟩ | ⟨g, c, cur, rfl, hb, hh, hn, hm, hs, ht⟩
  · cases hk
  · cases hk
  · cases hk
    exact ⟨hb, (Array.getElem?_eq_some_iff.1 hh).1⟩
theorem Own.other (h : Own L w base e v xs) {row : Option Nat} (hg : w.grownBy w1 row) (hne : rowOf v = none ∨ rowOf v ≠ row) : Own L w1 base e v xs := by
  rcases h with h | h | ⟨g, c, cur, rfl, hb, hh, hn, hm, hs, ht⟩
  · exact .inl h
  · exact .inr (.inl h)
  · refine .inr (.inr ⟨g, c, cur, rfl, hb, ?_, hn, hm, hs, ht⟩)
    rw [hg.block g (Array.getElem?_eq_some_iff.1 hh).1 (by rcases hne with h | h; cases h; exact h)]
    exact hh
theorem Own.keep (h : Own L w base e v xs) (hb : Below w.heap.size w w1) : Own L w1 base e v xs :=
  h.other (row := none) ⟨hb.os, hb.tape, hb.output, hb.size, fun i hi _ => hb.block i hi⟩ (by cases rowOf v <;> simp)
theorem Own.drew (h : Own L w base e v xs) : Own L w.drew base e v xs := h
theorem Own.rebase (h : Own L w base e v xs) {b : Nat} (hb : ∀ k, rowOf v = some k → b ≤ k) : Own L w b e v xs := by
  rcases h with h | h | ⟨g, c, cur, rfl, _, hh, hn, hm, hs, ht⟩
  · exact .inl h
  · exact .inr (.inl h)
  · exact .inr (.inr ⟨g, c, cur, rfl, hb g rfl, hh, hn, hm, hs, ht⟩)
/-- Its last one is cut off. -/
theorem Own.pop {A : Option Addr} {c : Nat} {x : α} (h : Own L w base e (.slice A (xs.length + 1) c) (xs ++ [x])) : Own L w base e (.slice A xs.length c) xs := by
  rcases h with ⟨h, _⟩ | ⟨⟨a, h⟩, _⟩ | ⟨g, c', cur, hv, hb, hh, hn, hm, hs, ht⟩
  · cases h
  · cases h
  · simp only [Value.slice.injEq] at hv
    obtain ⟨rfl, -, rfl⟩ := hv
    refine .inr (.inr ⟨g, c', cur, rfl, hb, hh, by simp at hn; omega, hm, hs, ?_⟩)
    have h3 : (cur.toList.take ((xs ++ [x]).length * L.n)).take (xs.length * L.n) = (L.all (xs ++ [x])).take (xs.length * L.n) := by rw [ht]
    rw [List.take_take, Nat.min_eq_left (Nat.mul_le_mul_right _ (by simp)), L.all_append] at h3
    rw [h3, ← L.all_length]
    exact List.take_left
/-- A literal. -/
theorem Own.lit (W : World) (base : Nat) (e : TypeId) (xs : List α) (hb : base ≤ W.heap.size) (hm : xs.length ≤ maxLen) (cs : Array Value) (hcs : cs.toList = L.all xs) :
    Own L (W.alloc (.cells cs e)) base e (.slice (some ⟨W.heap.size, 0, none⟩) xs.length xs.length) xs := by
  have h := World.ownsRow_lit (base := base) (e := e) (size := L.n) W cs xs.length hb hm (by rw [← Array.length_toList, hcs, L.all_length])
  rw [hcs] at h
  exact .of_row h
/-- One element, laid down for an append. -/
theorem Rd.lit1 (W : World) (e : TypeId) (x : α) (cs : Array Value) (hcs : cs.toList = L.cells x) : Rd L (W.alloc (.cells cs e)) (some ⟨W.heap.size, 0, none⟩) 1 [x] :=
  (Own.lit (L := L) W W.heap.size e [x] (Nat.le_refl _) (by simp [maxLen]) cs (by rw [hcs, L.all_one])).rd.2
theorem below_row {w0 : World} (hB : Below base w0 W) (hbase : base ≤ W.heap.size) (h : Own L W base e v xs) (hg : W.grownBy w1 (rowOf v)) : Below base w0 w1 := hB.grown hg hbase (fun k hk => (h.lt k hk).1)
end
section
variable {P : Program} {α : Type} {L : Lay α}
/-- append(v, ys...): v a row of the call's own, ys whatever is read. -/
theorem run_append {W : World} {base : Nat} {e : TypeId} (xs ys : List α) (v : Value) (A : Option Addr) (c : Nat) (t ty : TypeId) (z : Value) (bytes : Nat)
    (ht : P.underlying t = some (.slice e)) (hinfo : (P.info? e).map (fun i => (i.zero, i.size, i.bytes)) = some (some z, L.n, bytes)) (hz : z.cells.size = L.n)
    (HO : Own L W base e v xs) (HR : Rd L W A c ys) (hbase : base ≤ W.heap.size) (hl : (xs.length + ys.length) * bytes ≤ 140737488355328) (hm : xs.length + ys.length ≤ maxLen) :
    ∃ v1 w1, (Builtin.append_ #[t, t] ty #[v, .slice A ys.length c]).run P W = .ok v1 w1 ∧ Own L w1 base e v1 (xs ++ ys) ∧ W.grownBy w1 (rowOf v) ∧ (rowOf v1 = rowOf v ∨ rowOf v1 = none ∨ rowOf v1 = some W.heap.size) := by
  obtain ⟨i0, hi, hzz⟩ := Option.map_eq_some_iff.1 hinfo
  simp only [Prod.mk.injEq] at hzz
  obtain ⟨hz0, hz1, hz2⟩ := hzz
  rcases HO.row with ⟨hown, hrow⟩ | ⟨⟨a, rfl⟩, rfl⟩
  · have fin : ∀ (ad : Addr), A = some ad → (∀ j u, (L.all ys)[j]? = some u → W.cell? (ad.add j) = some u) → ∃ v1 w1, (Builtin.append_ #[t, t] ty #[v, .slice A ys.length c]).run P W = .ok v1 w1 ∧ Own L w1 base e v1 (xs ++ ys) ∧ W.grownBy w1 (rowOf v) ∧ (rowOf v1 = rowOf v ∨ rowOf v1 = none ∨ rowOf v1 = some W.heap.size) := by
      rintro ad rfl hc
      obtain ⟨v1, w1, h1, h2, h3, _, h4⟩ := run_append_own_at (P := P) W base t ty e i0 z L.n bytes ht hi hz0 hz1 hz2 hz L.pos v xs.length (L.all xs) hown ad ys.length c (L.all ys) (L.all_length ys) hc (L.all_ones ys) hm hl hbase
      have h2' : Own L w1 base e v1 (xs ++ ys) := .of_row (by rw [List.length_append, L.all_append]; exact h2)
      refine ⟨v1, w1, h1, h2', by rw [hrow]; exact h3, ?_⟩
      have hr : rowOf v1 = v1.ownBlock ∨ rowOf v1 = none := by
        rcases h2'.row with ⟨_, h⟩ | ⟨⟨a, rfl⟩, _⟩
        · exact .inl h
        · exact .inr rfl
      rcases hr with hr | hr
      · rw [hr, hrow]
        rcases h4 with h4 | h4
        · exact .inl h4
        · exact .inr (.inr h4)
      · exact .inr (.inl hr)
    rcases Nat.eq_zero_or_pos ys.length with h0 | h0
    · obtain rfl : ys = [] := List.eq_nil_of_length_eq_zero h0
      rcases A with _ | ad
      · obtain rfl := HR.2.2.1 rfl
        exact ⟨v, W, run_append_owned_none (P := P) (w := W) base t ty e i0 L.n ht hi v xs.length (L.all xs) hown, by simpa using HO, World.grownBy.refl _ _, .inl rfl⟩
      · exact fin ad rfl (fun j u hj => by simp [Lay.all] at hj)
    · obtain ⟨b, o', rfl, hc⟩ := HR.2.2.2 h0
      exact fin _ rfl (fun j u hj => by rw [Addr.add_lit]; exact hc j u hj)
  · rcases Nat.eq_zero_or_pos ys.length with h0 | h0
    · obtain rfl : ys = [] := List.eq_nil_of_length_eq_zero h0
      refine ⟨.slice (some a) 0 0, W, ?_, Own.bare _ _ _ _ _, World.grownBy.refl _ _, .inl rfl⟩
      rcases A with _ | ad
      · simp [Builtin.append_, run_underlying ht, sizeOf, typeInfo, hi, Builtin.lenOf, Builtin.firstCells, storeCells]
      · simp [Builtin.append_, run_underlying ht, sizeOf, typeInfo, hi, Builtin.lenOf, Builtin.firstCells, storeCells, loadCells, loadCellsFrom]
    · obtain ⟨b, o', rfl, hc⟩ := HR.2.2.2 h0
      simp only [List.length_nil, Nat.zero_add] at hl hm
      have hr := run_append_grow (P := P) W t ty e i0 z ht hi hz0 a 0 0 [] (by simp) (by simp) ⟨b, o', none⟩ ys.length c (L.all ys) (by rw [hz1]; exact L.all_length ys) (fun j u hj => by rw [Addr.add_lit]; exact hc j u hj) (by omega) (by simp only [maxLen] at hm; omega) (by rw [hz2, Nat.zero_add]; exact growslice_fits h0 hl)
      have hge := grownCap_ge W (0 + ys.length) 0 e
      have hcm : grownCap W (0 + ys.length) 0 e ≤ maxLen := grownCap_le_maxLen W _ 0 e (by simpa using hm)
      refine ⟨_, _, hr, .of_row ⟨by rw [List.nil_append, L.all_length], .inr ⟨W.heap.size, _, _, by simp, hbase, heap_alloc_new W.drew _, by simpa using hge, hcm, ?_, ?_⟩⟩, ⟨rfl, rfl, rfl, by simp, fun k hk _ => heap_alloc_old W.drew _ hk⟩, ?_⟩
      · simp only [Array.size_append, List.size_toArray, size_zeroCells, hz, List.length_nil, Nat.zero_add, L.all_length, ← Nat.add_mul]
        congr 1; simp only [Nat.zero_add] at hge; omega
      · simp only [Array.toList_append, List.nil_append]
        rw [← L.all_length]
        exact List.take_left
      · generalize grownCap W (0 + ys.length) 0 e = q
        cases q with
        | zero => exact .inr (.inl rfl)
        | succ q => exact .inr (.inr rfl)
end
section
variable {P : Program} {ops : Array Oper} {rest : List Oper} {o : Oper} {a : Act} {Q : Exit → Act → World → Prop} {W : World} {α : Type} {L : Lay α}
theorem execOp_append {s x : Operand} {t : TypeId} {v y : Value} (ho : o.op = .call { callee := .builtin .append, args := #[s, x], argTypes := #[t, t] }) (hs : a.eval s = v) (hx : a.eval x = y) {v1 : Value} {w1 : World}
    (hrun : (Builtin.append_ #[t, t] o.type #[v, y]).run P W = .ok v1 w1) : (execOp a.eval o).run P W = .ok (.value v1) w1 := by
  unfold execOp
  simp [ho, resolve, invoke, builtin, hs, hx, hrun, Result.andThen]
/-- The same, at the operation. -/
theorem ev_append {base : Nat} {e : TypeId} (xs ys : List α) (v : Value) (A : Option Addr) (c : Nat) (s x : Operand) (t : TypeId) (z : Value) (bytes : Nat)
    (hgd : o.guard = none) (ho : o.op = .call { callee := .builtin .append, args := #[s, x], argTypes := #[t, t] })
    (ht : P.underlying t = some (.slice e)) (hinfo : (P.info? e).map (fun i => (i.zero, i.size, i.bytes)) = some (some z, L.n, bytes)) (hz : z.cells.size = L.n)
    (hs : a.eval s = v) (hx : a.eval x = .slice A ys.length c) (HO : Own L W base e v xs) (HR : Rd L W A c ys) (hbase : base ≤ W.heap.size)
    (hl : (xs.length + ys.length) * bytes ≤ 140737488355328) (hm : xs.length + ys.length ≤ maxLen)
    (h : ∀ v1 w1, Own L w1 base e v1 (xs ++ ys) → W.grownBy w1 (rowOf v) → (rowOf v1 = rowOf v ∨ rowOf v1 = none ∨ rowOf v1 = some W.heap.size) → wpList P ops Q rest (a.put o.dst v1) w1) :
    wpList P ops Q (o :: rest) a W := by
  obtain ⟨v1, w1, h1, h2, h3, h4⟩ := run_append xs ys v A c t o.type z bytes ht hinfo hz HO HR hbase hl hm
  exact ev_run hgd (execOp_append ho hs hx h1) (h v1 w1 h2 h3 h4)
/-- The same, as a step of a region that draws. -/
theorem st_append {Kc : Act → World → Prop} {base : Nat} {e : TypeId} (xs ys : List α) (v : Value) (A : Option Addr) (c : Nat) (s x : Operand) (t : TypeId) (z : Value) (bytes : Nat) (N : Tmp) (_hN : o.dst = some N)
    (hw : Region.wanted o (yielded ops a.tmps) = true) (ho : o.op = .call { callee := .builtin .append, args := #[s, x], argTypes := #[t, t] })
    (ht : P.underlying t = some (.slice e)) (hinfo : (P.info? e).map (fun i => (i.zero, i.size, i.bytes)) = some (some z, L.n, bytes)) (hz : z.cells.size = L.n)
    (hs : a.eval s = v) (hx : a.eval x = .slice A ys.length c) (HO : Own L W base e v xs) (HR : Rd L W A c ys) (hbase : base ≤ W.heap.size)
    (hl : (xs.length + ys.length) * bytes ≤ 140737488355328) (hm : xs.length + ys.length ≤ maxLen)
    (h : ∀ v1 w1, Own L w1 base e v1 (xs ++ ys) → W.grownBy w1 (rowOf v) → (rowOf v1 = rowOf v ∨ rowOf v1 = none ∨ rowOf v1 = some W.heap.size) → Kc (a.put o.dst v1) w1) :
    if Region.wanted o (yielded ops a.tmps) = true then Oper.wp P o a W Kc Q else Kc (a.put o.dst undef) W := by
  obtain ⟨v1, w1, h1, h2, h3, h4⟩ := run_append xs ys v A c t o.type z bytes ht hinfo hz HO HR hbase hl hm
  rw [if_pos hw]
  unfold Oper.wp
  rw [execOp_append ho hs hx h1]
  exact h v1 w1 h2 h3 h4
end
end Go.Proofs.Ytkmoeokfgkmlhaa
