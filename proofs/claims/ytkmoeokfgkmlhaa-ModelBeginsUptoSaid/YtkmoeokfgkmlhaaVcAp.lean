/- Appends in the formulas that 'vc' reckons. -/
import Derived.Test.YtkmoeokfgkmlhaaVcUse
import Derived.Test.YtkmoeokfgkmlhaaSl
namespace Go.Proofs.Ytkmoeokfgkmlhaa
open Go.RowKit Go.Vc
/-- Two slices that don't write into one row. -/
def Apart (v u : Value) : Prop := rowOf v = none ∨ rowOf v ≠ rowOf u
theorem Apart.none_l {v u : Value} (h : rowOf v = none) : Apart v u := .inl h
section
variable {P : Program} {α : Type} {L : Lay α} {W : World} {base : Nat} {e : TypeId}
theorem Own.apart_new {v : Value} {xs : List α} (h : Own L W base e v xs) {u : Value} (hu : rowOf u = none ∨ ∃ g, rowOf u = some g ∧ W.heap.size ≤ g) : Apart v u := by
  cases hv : rowOf v with
  | none => exact .inl hv
  | some k =>
    have := (h.lt k hv).2
    refine .inr ?_
    rw [hv]
    rcases hu with hu | ⟨g, hu, hg⟩
    · rw [hu]; simp
    · rw [hu]; intro hc; cases hc; omega
/-- What an append leaves of a world: below base nothing turns; slices apart from it stay, and apart. -/
structure Grew (base : Nat) (W w1 : World) (v v1 : Value) : Prop where
  below : Below base W w1
  lt : W.heap.size ≤ w1.heap.size
  grown : W.grownBy w1 (rowOf v)
  row : rowOf v1 = rowOf v ∨ rowOf v1 = none ∨ ∃ g, rowOf v1 = some g ∧ W.heap.size ≤ g
theorem Grew.own {w1 : World} {v v1 : Value} (h : Grew base W w1 v v1) {β : Type} {L2 : Lay β} {b2 : Nat} {e2 : TypeId} {u : Value} {ys : List β} (ho : Own L2 W b2 e2 u ys) (ha : Apart u v) : Own L2 w1 b2 e2 u ys ∧ Apart u v1 := by
  refine ⟨ho.other h.grown ha, ?_⟩
  rcases h.row with h1 | h1 | ⟨g, h1, h2⟩
  · rcases ha with h3 | h3
    · exact .inl h3
    · exact .inr (by rw [h1]; exact h3)
  · cases hu : rowOf u with
    | none => exact .inl hu
    | some k => exact .inr (by rw [hu, h1]; simp)
  · exact ho.apart_new (.inr ⟨g, h1, h2⟩)
theorem ap {xs ys : List α} {v : Value} {A : Option Addr} {m c : Nat} {t ty : TypeId} (z : Value) (bytes : Nat) (hm : m = ys.length)
    (ht : P.underlying t = some (.slice e)) (hinfo : (P.info? e).map (fun i => (i.zero, i.size, i.bytes)) = some (some z, L.n, bytes)) (hz : z.cells.size = L.n)
    (HO : Own L W base e v xs) (HR : Rd L W A c ys) (hbase : base ≤ W.heap.size) (hl : (xs.length + ys.length) * bytes ≤ 140737488355328) (hml : xs.length + ys.length ≤ maxLen) {K : Value → World → Prop}
    (h : ∀ A' c' w1, Own L w1 base e (.slice A' (xs.length + ys.length) c') (xs ++ ys) → Grew base W w1 v (.slice A' (xs.length + ys.length) c') → K (.slice A' (xs.length + ys.length) c') w1) :
    Raw P (Builtin.append_ #[t, t] ty #[v, .slice A m c]) W K := by
  subst hm
  obtain ⟨v1, w1, h1, h2, h3, h4⟩ := run_append (P := P) xs ys v A c t ty z bytes ht hinfo hz HO HR hbase hl hml
  obtain ⟨A', c', rfl, hr⟩ := h2.form
  rw [List.length_append] at *
  refine ⟨_, w1, h1, h A' c' w1 h2 ⟨below_row (Below.refl _ _) hbase HO h3, h3.size, h3, ?_⟩⟩
  rcases h4 with h4 | h4 | h4
  · exact .inl h4
  · exact .inr (.inl h4)
  · exact .inr (.inr ⟨_, h4, Nat.le_refl _⟩)
/-- One element more. -/
theorem ap1 {xs : List α} {x : α} {v : Value} {cs : Array Value} {t ty : TypeId} (z : Value) (bytes : Nat) (hcs : cs.toList = L.cells x)
    (ht : P.underlying t = some (.slice e)) (hinfo : (P.info? e).map (fun i => (i.zero, i.size, i.bytes)) = some (some z, L.n, bytes)) (hz : z.cells.size = L.n)
    (HO : Own L W base e v xs) (hbase : base ≤ W.heap.size) (hl : (xs.length + 1) * bytes ≤ 140737488355328) (hml : xs.length + 1 ≤ maxLen) {K : Value → World → Prop}
    (h : ∀ A' c' w1, Own L w1 base e (.slice A' (xs.length + 1) c') (xs ++ [x]) → Grew base W w1 v (.slice A' (xs.length + 1) c') → K (.slice A' (xs.length + 1) c') w1) :
    Al W cs e fun g w1 => Raw P (Builtin.append_ #[t, t] ty #[v, .slice (some g) 1 1]) w1 K := by
  have hb : Below W.heap.size W (W.alloc (.cells cs e)) := (Below.refl _ _).alloc (Nat.le_refl _) _
  refine ap (L := L) (xs := xs) (ys := [x]) (base := base) z bytes rfl ht hinfo hz (HO.keep hb) (Rd.lit1 (L := L) W e x cs hcs) (by simp; omega) hl hml fun A' c' w1 ho hg => h A' c' w1 ho ⟨hb.mono hbase |>.trans hg.below, ?_, ?_, ?_⟩
  · have := hg.lt; simp at this; omega
  · refine ⟨hg.grown.os.trans hb.os, hg.grown.tape.trans hb.tape, hg.grown.output.trans hb.output, by have := hg.lt; simp at this; omega, fun i hi hr => ?_⟩
    rw [hg.grown.block i (by simp; omega) hr, hb.block i hi]
  · rcases hg.row with h1 | h1 | ⟨g, h1, h2⟩
    · exact .inl h1
    · exact .inr (.inl h1)
    · exact .inr (.inr ⟨g, h1, by simp at h2; omega⟩)
end
/-- One element more, in a region that draws. -/
theorem ap1S {P : Program} {α : Type} {L : Lay α} {W : World} {base : Nat} {e : TypeId} {S : World → Prop} {xs : List α} {x : α} {v : Value} {cs : Array Value} {t ty : TypeId} (z : Value) (bytes : Nat) (hcs : cs.toList = L.cells x)
    (ht : P.underlying t = some (.slice e)) (hinfo : (P.info? e).map (fun i => (i.zero, i.size, i.bytes)) = some (some z, L.n, bytes)) (hz : z.cells.size = L.n)
    (HO : Own L W base e v xs) (hbase : base ≤ W.heap.size) (hl : (xs.length + 1) * bytes ≤ 140737488355328) (hml : xs.length + 1 ≤ maxLen) {K : Value → World → Prop} (hS : ∀ w1, Below W.heap.size W w1 → S w1)
    (h : ∀ A' c' w1, Own L w1 base e (.slice A' (xs.length + 1) c') (xs ++ [x]) → Grew base W w1 v (.slice A' (xs.length + 1) c') → K (.slice A' (xs.length + 1) c') w1) :
    Al W cs e fun g w1 => S w1 ∧ Raw P (Builtin.append_ #[t, t] ty #[v, .slice (some g) 1 1]) w1 K :=
  ⟨hS _ ((Below.refl _ _).alloc (Nat.le_refl _) _), ap1 z bytes hcs ht hinfo hz HO hbase hl hml h⟩
/-- A row that was made. -/
theorem Own.made {α : Type} {L : Lay α} {w : World} {base g n : Nat} {e : TypeId} {cur : Array Value} (h : Blk w g cur e) (hb : base ≤ g) (hn : cur.size = n * L.n) (hm : n ≤ maxLen) : Own L w base e (.slice (some ⟨g, 0, none⟩) 0 n) [] := by
  cases n with
  | zero => exact .inr (.inl ⟨⟨_, rfl⟩, rfl⟩)
  | succ n => exact .inr (.inr ⟨g, n, cur, rfl, hb, h, by simp, hm, hn, by simp [Lay.all]⟩)
theorem Own.lit' {α : Type} {L : Lay α} {w : World} {base g : Nat} {e : TypeId} {cur : Array Value} {xs : List α} (h : Blk w g cur e) (hb : base ≤ g) (hc : cur.toList = L.all xs) (hm : xs.length ≤ maxLen) : Own L w base e (.slice (some ⟨g, 0, none⟩) xs.length xs.length) xs := by
  have hsz : cur.size = xs.length * L.n := by rw [← Array.length_toList, hc, L.all_length]
  cases xs with
  | nil => exact .inr (.inl ⟨⟨_, rfl⟩, rfl⟩)
  | cons x xs => exact .inr (.inr ⟨g, xs.length, cur, rfl, hb, h, by simp, hm, hsz, by rw [hc, ← L.all_length, List.take_length]⟩)
/-- A slice of a slice. -/
theorem Rd.slice {α : Type} {L : Lay α} {w : World} {A : Option Addr} {c : Nat} {xs : List α} (h : Rd L w A c xs) {k : Nat} (hk : k ≤ xs.length) : Rd L w (SlA A c k L.n) (c - k) (xs.drop k) := by
  unfold SlA
  by_cases hck : c = k
  · rw [if_pos hck]
    have : xs.length = k := by have := h.1; omega
    rw [List.drop_of_length_le (by omega)]
    exact ⟨by simp, by have := h.2.1; omega, fun _ => by omega, fun h0 => by simp at h0⟩
  · rw [if_neg hck]
    cases A with
    | none => have := h.2.2.1 rfl; have := h.1; omega
    | some a =>
      by_cases h0 : 0 < xs.length
      · obtain ⟨b, o, hA, _⟩ := h.2.2.2 h0
        obtain rfl : a = ⟨b, o, none⟩ := by simpa using hA
        simp only [Option.map_some, Addr.add_mk]
        exact h.drop k hk
      · have h1 : xs = [] := List.eq_nil_of_length_eq_zero (by omega)
        subst h1
        simp only [List.drop_nil]
        exact ⟨by simp, by have := h.2.1; omega, (fun e => by cases e), fun h0 => by simp at h0⟩
/-- Numbers, bytes, strings in a row. -/
def LI : Lay Int := ⟨1, fun n => [.int .i64 n], fun _ => rfl, fun _ => by simp [Value.oneCell'], by decide⟩
def LU : Lay Int := ⟨1, fun n => [.int .u8 n], fun _ => rfl, fun _ => by simp [Value.oneCell'], by decide⟩
def LS : Lay ByteArray := ⟨1, fun s => [.string s], fun _ => rfl, fun _ => by simp [Value.oneCell'], by decide⟩
section
variable {α : Type} {L : Lay α} {w : World} {A : Option Addr} {c : Nat} {xs : List α}
/-- An element's address, and what lies there. -/
theorem Rd.idx (h : Rd L w A c xs) {n : Nat} (hn : n = xs.length) {i : Int} (h0 : 0 ≤ i) (h1 : i < n) {sz : Nat} (hsz : sz = L.n) {K : Addr → Prop}
    (hK : ∀ b o, (∀ j u, (L.cells (xs[i.toNat]'(by omega)))[j]? = some u → w.cell? ⟨b, o + j, none⟩ = some u) → K ⟨b, o, none⟩) : IdxA A n i sz K := by
  subst hsz
  have hlt : i.toNat < xs.length := by omega
  obtain ⟨b, o, rfl, hc⟩ := h.at i.toNat hlt
  rw [IdxA_some h0 h1, Addr.add_mk]
  exact hK _ _ hc
/-- The same where the world may turn meanwhile. -/
theorem Rd.held {S : World → Prop} (h : Rd L w A c xs) (hS : ∀ w1, S w1 → Below w.heap.size w w1) {n : Nat} (hn : n = xs.length) {i : Int} (h0 : 0 ≤ i) (h1 : i < n) {sz : Nat} (hsz : sz = L.n) {K : Addr → Prop}
    (hK : ∀ b o, (∀ j u, (L.cells (xs[i.toNat]'(by omega)))[j]? = some u → Held S ⟨b, o + j, none⟩ u) → K ⟨b, o, none⟩) : IdxA A n i sz K :=
  h.idx hn h0 h1 hsz fun b o hc => hK b o fun j u hj w1 h1 => kcell (hS w1 h1) (hc j u hj)
end
end Go.Proofs.Ytkmoeokfgkmlhaa
