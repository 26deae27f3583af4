/- Models: parts in memory; worlds of which only some blocks are seen. -/
import Derived.Test.YtkmoeokfgkmlhaaVcAp
import Derived.Test.YtkmoeokfgkmlhaaMdPure
namespace Go.Proofs.Ytkmoeokfgkmlhaa
open Go.RowKit Go.Vc Go.Mdl
set_option linter.unusedVariables false
/-- What stays where only blocks of M turn. -/
structure Fm (M : Nat → Prop) (w w' : World) : Prop where
  os : w'.os = w.os
  tape : w'.tape = w.tape
  output : w'.output = w.output
  size : w.heap.size ≤ w'.heap.size
  block : ∀ b, b < w.heap.size → ¬ M b → w'.heap[b]? = w.heap[b]?
section
variable {M M' : Nat → Prop} {w w1 w2 : World}
theorem Fm.refl (M : Nat → Prop) (w : World) : Fm M w w := ⟨rfl, rfl, rfl, Nat.le_refl _, fun _ _ _ => rfl⟩
theorem Fm.trans (h : Fm M w w1) (k : Fm M w1 w2) : Fm M w w2 :=
  ⟨k.os.trans h.os, k.tape.trans h.tape, k.output.trans h.output, Nat.le_trans h.size k.size, fun b hb hm => (k.block b (Nat.lt_of_lt_of_le hb h.size) hm).trans (h.block b hb hm)⟩
theorem Fm.mono (h : Fm M w w1) (hm : ∀ b, b < w.heap.size → M b → M' b) : Fm M' w w1 := ⟨h.os, h.tape, h.output, h.size, fun b hb hn => h.block b hb fun k => hn (hm b hb k)⟩
theorem Fm.below (h : Below w.heap.size w w1) : Fm M w w1 := ⟨h.os, h.tape, h.output, h.size, fun b hb _ => h.block b hb⟩
theorem Fm.toBelow (h : Fm M w w1) {B : Nat} (hB : B ≤ w.heap.size) (hm : ∀ b, b < B → ¬ M b) : Below B w w1 := ⟨h.os, h.tape, h.output, h.size, fun b hb => h.block b (Nat.lt_of_lt_of_le hb hB) (hm b hb)⟩
theorem Fm.tr (h : Fm M w w1) (k : Below w1.heap.size w1 w2) : Fm M w w2 := h.trans (.below k)
theorem Fm.set (h : Fm M w w1) {b i : Nat} (hb : b < w.heap.size → M b) (v : Value) : Fm M w (w1.setCell ⟨b, i, none⟩ v) :=
  ⟨h.os, h.tape, h.output, by simp; exact h.size, fun k hk hm => by
    have : k ≠ b := fun e => hm (e ▸ hb (e ▸ hk))
    rw [Below.heap_setCell _ _ _ _ this]; exact h.block k hk hm⟩
theorem Fm.grown {r : Option Nat} (h : w.grownBy w1 r) (hr : ∀ b, r = some b → M b) : Fm M w w1 := ⟨h.os, h.tape, h.output, h.size, fun b hb hm => h.block b hb fun e => hm (hr b e.symm)⟩
theorem Fm.blk (h : Fm M w w1) {b : Nat} {c : Array Value} {t : TypeId} (hb : Blk w b c t) (hm : ¬ M b) : Blk w1 b c t := by
  have hl := hb.lt
  unfold Blk at *; rw [h.block b hl hm]; exact hb
/-- Then only new blocks turn. -/
theorem Fm.trans' {M M' : Nat → Prop} {w w1 w2 : World} (h : Fm M w w1) (k : Fm M' w1 w2) (hm : ∀ b, b < w.heap.size → ¬ M' b) : Fm M w w2 :=
  ⟨k.os.trans h.os, k.tape.trans h.tape, k.output.trans h.output, Nat.le_trans h.size k.size, fun b hb h1 => (k.block b (Nat.lt_of_lt_of_le hb h.size) (hm b hb)).trans (h.block b hb h1)⟩
/-- A store into a block that is known. -/
theorem st_blk {g i : Nat} {c : Array Value} {t : TypeId} {v : Value} {K : World → Prop} (hg : Blk w g c t) (hi : i < c.size) (h : ∀ w1, Blk w1 g (c.setIfInBounds i v) t → Fm (· = g) w w1 → K w1) : St w ⟨g, i, none⟩ v K := by
  refine ⟨⟨c[i], by rw [hg.cell]; simp [hi]⟩, hg.frozen i, h _ (hg.set i v) ((Fm.refl (fun x => x = g) _).set (fun _ => rfl) v)⟩
/-! ### Worlds of which only some blocks are seen -/
def Sub (w w1 : World) : Prop := ∀ (b : Nat) c t fr, w.heap[b]? = some (.cells c t fr) → w1.heap[b]? = some (.cells c t fr)
theorem Sub.refl (w : World) : Sub w w := fun _ _ _ _ h => h
theorem Sub.trans (h : Sub w w1) (k : Sub w1 w2) : Sub w w2 := fun b c t fr e => k b c t fr (h b c t fr e)
theorem Sub.cell (h : Sub w w1) {a : Addr} {v : Value} (hc : w.cell? a = some v) : w1.cell? a = some v := by
  unfold World.cell? at hc ⊢
  split at hc
  · rename_i c t fr he
    rw [h _ _ _ _ he]; exact hc
  · cases hc
theorem Sub.rd {α : Type} {L : Lay α} {A : Option Addr} {c : Nat} {xs : List α} (hs : Sub w w1) (h : Rd L w A c xs) : Rd L w1 A c xs := by
  refine ⟨h.1, h.2.1, h.2.2.1, fun h0 => ?_⟩
  obtain ⟨b, o, hA, hc⟩ := h.2.2.2 h0
  exact ⟨b, o, hA, fun j u hj => hs.cell (hc j u hj)⟩
def wOnly (ok : Nat → Bool) (w : World) : World := { w with heap := w.heap.mapIdx fun i o => if ok i then o else .map #[] 0 }
theorem wOnly_at (ok : Nat → Bool) (w : World) (b : Nat) : (wOnly ok w).heap[b]? = (w.heap[b]?).map fun o => if ok b then o else .map #[] 0 := by
  simp [wOnly, Array.getElem?_mapIdx]
theorem only_cells {ok : Nat → Bool} {b : Nat} {c : Array Value} {t : TypeId} {fr : Nat × Nat} (h : (wOnly ok w).heap[b]? = some (.cells c t fr)) : ok b = true ∧ w.heap[b]? = some (.cells c t fr) := by
  rw [wOnly_at] at h
  cases hb : w.heap[b]? with
  | none => rw [hb] at h; cases h
  | some o =>
    rw [hb] at h
    simp only [Option.map_some] at h
    cases hk : ok b with
    | true => rw [hk] at h; exact ⟨rfl, h⟩
    | false => rw [hk] at h; cases h
theorem sub_only {ok ok' : Nat → Bool} (hk : ∀ b, b < w.heap.size → ok b = true → ok' b = true) (hb : ∀ b, b < w.heap.size → ok b = true → w1.heap[b]? = w.heap[b]?) : Sub (wOnly ok w) (wOnly ok' w1) := by
  intro b c t fr h
  obtain ⟨h1, h2⟩ := only_cells h
  have hlt := (Array.getElem?_eq_some_iff.1 h2).1
  rw [wOnly_at, hb b hlt h1, h2, Option.map_some, hk b hlt h1]; rfl
theorem sub_of_only {ok : Nat → Bool} : Sub (wOnly ok w) w := fun b c t fr h => (only_cells h).2
theorem cells_only {ok : Nat → Bool} {b : Nat} {c : Array Value} {t : TypeId} {fr : Nat × Nat} (h : ok b = true) (hb : w.heap[b]? = some (.cells c t fr)) : (wOnly ok w).heap[b]? = some (.cells c t fr) := by
  rw [wOnly_at, hb, Option.map_some, h]; rfl
/-- Only what was made from number k on. -/
def above (k : Nat) (w : World) : World := wOnly (fun b => Nat.ble k b) w
/-- All but block g. -/
def but (g : Nat) (w : World) : World := wOnly (fun b => !(Nat.beq b g)) w
theorem above_fm {k k' : Nat} (h : Fm M w w1) (hk : k' ≤ k) (hm : ∀ b, k ≤ b → ¬ M b) : Sub (above k w) (above k' w1) :=
  sub_only (fun b _ h1 => Nat.ble_eq_true_of_le (Nat.le_trans hk (Nat.le_of_ble_eq_true h1))) fun b hb h1 => h.block b hb (hm b (Nat.le_of_ble_eq_true h1))
theorem above_but {k g : Nat} (h : Fm M w w1) (hg : g < k) (hm : ∀ b, k ≤ b → ¬ M b) : Sub (above k w) (but g w1) :=
  sub_only (fun b _ h1 => by
    have h2 := Nat.le_of_ble_eq_true h1
    cases hh : Nat.beq b g with
    | false => rfl
    | true => have := Nat.eq_of_beq_eq_true hh; omega) fun b hb h1 => h.block b hb (hm b (Nat.le_of_ble_eq_true h1))
end
/-! ### Parts -/
abbrev Sv := Option Addr × Nat × Nat
def LSv : Lay Sv := ⟨1, fun v => [.slice v.1 v.2.1 v.2.2], fun _ => rfl, fun _ => by simp [Value.oneCell'], by decide⟩
/-- A part as it lies in memory. -/
structure E where
  a : ByteArray
  sl : Sv
  s : Nat
def E.cells (e : E) : List Value := [.string e.a, .slice e.sl.1 e.sl.2.1 e.sl.2.2, .int .u8 e.s]
def LE : Lay E := ⟨3, E.cells, fun _ => rfl, fun _ => by simp [E.cells, Value.oneCell'], by decide⟩
mutual
def RdP (w : World) : Part → E → Prop
  | .mk a rows s, e => e.a = a ∧ e.s = s ∧ ∃ vs, e.sl.2.1 = vs.length ∧ Rd LSv w e.sl.1 e.sl.2.2 vs ∧ RdL w rows vs
def RdR (w : World) : List Part → List E → Prop
  | [], es => es = []
  | p :: ps, es => ∃ e es', es = e :: es' ∧ RdP w p e ∧ RdR w ps es'
def RdL (w : World) : List (List Part) → List Sv → Prop
  | [], vs => vs = []
  | r :: rs, vs => ∃ v vs', vs = v :: vs' ∧ (∃ es, v.2.1 = es.length ∧ Rd LE w v.1 v.2.2 es ∧ RdR w r es) ∧ RdL w rs vs'
end
/-- Choices, in a slice. -/
def RdC (w : World) (rows : List (List Part)) (v : Sv) : Prop := ∃ vs, v.2.1 = vs.length ∧ Rd LSv w v.1 v.2.2 vs ∧ RdL w rows vs
/-- A row. -/
def RdW (w : World) (r : List Part) (v : Sv) : Prop := ∃ es, v.2.1 = es.length ∧ Rd LE w v.1 v.2.2 es ∧ RdR w r es
mutual
theorem RdP.sub {w w1 : World} (h : Sub w w1) : ∀ (p : Part) (e : E), RdP w p e → RdP w1 p e
  | .mk a rows s, e, hp => by
    simp only [RdP] at hp ⊢
    obtain ⟨h1, h2, vs, h3, h4, h5⟩ := hp
    exact ⟨h1, h2, vs, h3, h.rd h4, RdL.sub h rows vs h5⟩
theorem RdR.sub {w w1 : World} (h : Sub w w1) : ∀ (p : List Part) (e : List E), RdR w p e → RdR w1 p e
  | [], es, hp => by simp only [RdR] at hp ⊢; exact hp
  | p :: ps, es, hp => by
    simp only [RdR] at hp ⊢
    obtain ⟨e, es', h1, h2, h3⟩ := hp
    exact ⟨e, es', h1, RdP.sub h p e h2, RdR.sub h ps es' h3⟩
theorem RdL.sub {w w1 : World} (h : Sub w w1) : ∀ (p : List (List Part)) (e : List Sv), RdL w p e → RdL w1 p e
  | [], es, hp => by simp only [RdL] at hp ⊢; exact hp
  | p :: ps, es, hp => by
    simp only [RdL] at hp ⊢
    obtain ⟨e, es', h1, ⟨es, h2, h3, h4⟩, h5⟩ := hp
    exact ⟨e, es', h1, ⟨es, h2, h.rd h3, RdR.sub h p es h4⟩, RdL.sub h ps es' h5⟩
end
theorem RdC.sub {w w1 : World} (h : Sub w w1) {rows : List (List Part)} {v : Sv} (hp : RdC w rows v) : RdC w1 rows v := by
  obtain ⟨vs, h1, h2, h3⟩ := hp; exact ⟨vs, h1, h.rd h2, RdL.sub h rows vs h3⟩
theorem RdW.sub {w w1 : World} (h : Sub w w1) {rows : List Part} {v : Sv} (hp : RdW w rows v) : RdW w1 rows v := by
  obtain ⟨vs, h1, h2, h3⟩ := hp; exact ⟨vs, h1, h.rd h2, RdR.sub h rows vs h3⟩
theorem RdR.len {w : World} : ∀ {p : List Part} {e : List E}, RdR w p e → e.length = p.length
  | [], es, hp => by simp only [RdR] at hp; subst hp; rfl
  | p :: ps, es, hp => by
    simp only [RdR] at hp
    obtain ⟨e, es', rfl, _, h3⟩ := hp
    simp [h3.len]
theorem RdL.len {w : World} : ∀ {p : List (List Part)} {e : List Sv}, RdL w p e → e.length = p.length
  | [], es, hp => by simp only [RdL] at hp; subst hp; rfl
  | p :: ps, es, hp => by
    simp only [RdL] at hp
    obtain ⟨e, es', rfl, _, h3⟩ := hp
    simp [h3.len]
theorem RdR.snoc {w : World} {q : Part} {f : E} (hq : RdP w q f) : ∀ {p : List Part} {e : List E}, RdR w p e → RdR w (p ++ [q]) (e ++ [f])
  | [], es, hp => by simp only [RdR] at hp; subst hp; simp only [List.nil_append, RdR]; exact ⟨f, [], rfl, hq, rfl⟩
  | p :: ps, es, hp => by
    simp only [RdR] at hp
    obtain ⟨e, es', rfl, h2, h3⟩ := hp
    simp only [List.cons_append, RdR]
    exact ⟨e, _, rfl, h2, RdR.snoc hq h3⟩
theorem RdL.snoc {w : World} {q : List Part} {f : Sv} (hq : RdW w q f) : ∀ {p : List (List Part)} {e : List Sv}, RdL w p e → RdL w (p ++ [q]) (e ++ [f])
  | [], es, hp => by simp only [RdL] at hp; subst hp; simp only [List.nil_append, RdL]; exact ⟨f, [], rfl, hq, rfl⟩
  | p :: ps, es, hp => by
    simp only [RdL] at hp
    obtain ⟨e, es', rfl, h2, h3⟩ := hp
    simp only [List.cons_append, RdL]
    exact ⟨e, _, rfl, h2, RdL.snoc hq h3⟩
theorem RdR.get {w : World} : ∀ {p : List Part} {e : List E}, RdR w p e → ∀ (i : Nat) (h : i < p.length) (h' : i < e.length), RdP w p[i] e[i]
  | [], es, _, i, h, _ => by simp at h
  | p :: ps, es, hp, i, h, h' => by
    simp only [RdR] at hp
    obtain ⟨e, es', rfl, h2, h3⟩ := hp
    cases i with
    | zero => exact h2
    | succ i => exact RdR.get h3 i (by simpa using h) (by simpa using h')
theorem RdL.get {w : World} : ∀ {p : List (List Part)} {e : List Sv}, RdL w p e → ∀ (i : Nat) (h : i < p.length) (h' : i < e.length), RdW w p[i] e[i]
  | [], es, _, i, h, _ => by simp at h
  | p :: ps, es, hp, i, h, h' => by
    simp only [RdL] at hp
    obtain ⟨e, es', rfl, h2, h3⟩ := hp
    cases i with
    | zero => exact h2
    | succ i => exact RdL.get h3 i (by simpa using h) (by simpa using h')
end Go.Proofs.Ytkmoeokfgkmlhaa
