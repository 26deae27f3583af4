/- That 'vc' suffices: the operations that look at no world. -/
import Derived.Test.YtkmoeokfgkmlhaaVcSnd1
namespace Go.Vc
open Go
set_option linter.unusedSimpArgs false
set_option linter.unusedVariables false
section
variable {P : Program} {n : Nat} {e : Env} {a : Act} {o : Oper} {w : World}

theorem sure_move {K : Value → Prop} (x : Operand) (ho : o.op = .move x ∨ o.op = .assign x) {v : Value} (hx : a.eval x = v) (h : K v) : Sure P a o K := by
  refine ⟨v, fun w => ?_, h⟩
  rcases ho with ho | ho <;> simp [execOp, ho, hx]
theorem sure_pick {K : Value → Prop} {c x y : Operand} (ho : o.op = .pick c x y) {b : Bool} {u v : Value} (hc : a.eval c = .bool b) (hx : a.eval x = u) (hy : a.eval y = v) (h : Br b (K u) (K v)) : Sure P a o K := by
  cases b
  · exact ⟨v, fun w => by simp [execOp, ho, hc, hx, hy, asBool], h⟩
  · exact ⟨u, fun w => by simp [execOp, ho, hc, hx, hy, asBool], h⟩
theorem sure_nil {K : Value → Prop} {x : Operand} (ho : o.op = .nilCheck x) {p : Option Addr} (hx : a.eval x = .pointer p) (h : NonNil p fun a => K (.pointer (some a))) : Sure P a o K := by
  cases p with
  | none => exact h.elim
  | some q => exact ⟨_, fun w => by simp [execOp, ho, hx], h⟩
theorem run_und {t : TypeId} {d : TypeDesc} (h : P.underlying t = some d) (w : World) : (underlying t).run P w = .ok d w := by
  simp [underlying, program, h, Sem.run_bind, Sem.run]
theorem run_size {t : TypeId} {k : Nat} (h : sizeT P t = some k) (w : World) : (sizeOf t).run P w = .ok k w := by
  obtain ⟨i, hi, hk⟩ := sizeT_run h
  simp [sizeOf, typeInfo, program, hi, hk, Sem.run_bind, Sem.run]
theorem sure_idxA {K : Value → Prop} {t : TypeId} {x i : Operand} (ho : o.op = .indexAddr t x i) {p : Option Addr} {m c : Nat} {k : IntKind} {j : Int} {el : TypeId} {sz : Nat}
    (hx : a.eval x = .slice p m c) (hi : a.eval i = .int k j) (hu : P.underlying t = some (.slice el)) (hz : sizeT P el = some sz) (h : IdxA p m j sz fun a => K (.pointer (some a))) : Sure P a o K := by
  cases p with
  | none => exact h.elim
  | some q =>
    obtain ⟨h1, h2, h3⟩ := h
    refine ⟨_, fun w => ?_, h3⟩
    simp [execOp, ho, hx, hi, Instr.indexAt, asIntOf, run_und hu, run_size hz, h1, h2]
theorem sure_idxR {K : Value → Prop} {t : TypeId} {x i : Operand} (ho : o.op = .indexAddr t x i) {q : Addr} {m : Nat} {k : IntKind} {j : Int} {el : TypeId} {sz : Nat}
    (hx : a.eval x = .pointer (some q)) (hi : a.eval i = .int k j) (hu : P.underlying t = some (.array m el)) (hz : sizeT P el = some sz) (h : IdxR q m j sz fun a => K (.pointer (some a))) : Sure P a o K := by
  obtain ⟨h1, h2, h3⟩ := h
  refine ⟨_, fun w => ?_, h3⟩
  simp [execOp, ho, hx, hi, Instr.indexAt, Instr.sureAddr, asIntOf, run_und hu, run_size hz, h1, h2]
theorem sure_idxS {K : Value → Prop} {t : TypeId} {x i : Operand} (ho : o.op = .index t x i) {s : ByteArray} {k : IntKind} {j : Int}
    (hx : a.eval x = .string s) (hi : a.eval i = .int k j) (hu : P.underlying t = some .string) (h : IdxS s j fun n => K (.int .u8 n)) : Sure P a o K := by
  obtain ⟨h1, b, h2, h3⟩ := h
  refine ⟨_, fun w => ?_, h3⟩
  simp [execOp, ho, hx, hi, Instr.index, asIntOf, run_und hu, h1, h2]
theorem bound_spec {v : Option (Option Value)} {d : Int} {F : Int → Prop} (h : bound v d F) : (v = none ∧ F d) ∨ ∃ k n, v = some (some (.int k n)) ∧ F n := by
  unfold bound at h
  split at h
  · exact .inl ⟨rfl, h⟩
  · exact .inr ⟨_, _, rfl, h⟩
  · exact h.elim
theorem slBound {v : Option Operand} {d : Int} {F : Int → Prop} (hs : Sat n e a) (h : bound (v.map e.ev) d F) : (v = none ∧ F d) ∨ ∃ x k m, v = some x ∧ a.eval x = .int k m ∧ F m := by
  rcases bound_spec h with ⟨h1, h2⟩ | ⟨k, m, h1, h2⟩
  · exact .inl ⟨by simpa using h1, h2⟩
  · cases v with
    | none => cases h1
    | some x => exact .inr ⟨x, k, m, rfl, hs.ev (by simpa using h1), h2⟩
theorem run_sliceBound {k : IntKind} {i : Int} {y : Nat} {c : BoundsCode} (h0 : 0 ≤ i) (h1 : i ≤ y) (w : World) : (Instr.sliceBound (.int k i) y c).run P w = .ok i.toNat w := by
  simp [Instr.sliceBound, asIntOf, h0, h1]
theorem run_bounds {isS : Bool} {len cap : Nat} {lo hi : Option Operand} {l h : Int}
    (hl : (lo = none ∧ l = 0) ∨ ∃ x k, lo = some x ∧ a.eval x = .int k l) (hh : (hi = none ∧ h = len) ∨ ∃ x k, hi = some x ∧ a.eval x = .int k h) (h0 : 0 ≤ l) (h1 : l ≤ h) (h2 : h ≤ cap) (w : World) :
    (Instr.sliceBounds isS len cap (lo.map a.eval) (hi.map a.eval) none).run P w = .ok (l.toNat, h.toNat, cap) w := by
  have e1 : (Int.toNat h : Int) = h := Int.toNat_of_nonneg (by omega)
  rcases hl with ⟨rfl, rfl⟩ | ⟨x, k, rfl, hx⟩ <;> rcases hh with ⟨rfl, rfl⟩ | ⟨y, k', rfl, hy⟩
  · simp [Instr.sliceBounds]
  · simp [Instr.sliceBounds, hy, run_sliceBound (P := P) (k := k') h1 h2]
  · simp [Instr.sliceBounds, hx, run_sliceBound (P := P) (k := k) h0 h1]
  · simp [Instr.sliceBounds, hx, hy, run_sliceBound (P := P) (k := k') (show 0 ≤ h by omega) h2, run_sliceBound (P := P) (k := k) h0 (show l ≤ (h.toNat : Int) by omega)]
theorem sure_slS {K : Value → Prop} {t : TypeId} {x : Operand} {lo hi : Option Operand} (hs : Sat n e a) (ho : o.op = .slice t x lo hi none) {s : ByteArray} (hx : a.eval x = .string s) (hu : P.underlying t = some .string)
    (h : bound (lo.map e.ev) 0 fun l => bound (hi.map e.ev) s.size fun h => SlB l h s.size (K (.string (s.extract l.toNat h.toNat)))) : Sure P a o K := by
  have fin : ∀ l h : Int, ((lo = none ∧ l = 0) ∨ ∃ x k, lo = some x ∧ a.eval x = .int k l) → ((hi = none ∧ h = s.size) ∨ ∃ x k, hi = some x ∧ a.eval x = .int k h) →
      SlB l h s.size (K (.string (s.extract l.toNat h.toNat))) → Sure P a o K := fun l h hl hh ⟨h0, h1, h2, h3⟩ =>
    ⟨_, fun w => by simp [execOp, ho, hx, Instr.sliceAt, Instr.slice, run_und hu, run_bounds (P := P) hl hh h0 h1 h2], h3⟩
  rcases slBound hs h with ⟨e1, h⟩ | ⟨x1, k1, m1, e1, e2, h⟩ <;> rcases slBound hs h with ⟨e3, h⟩ | ⟨x3, k3, m3, e3, e4, h⟩
  · exact fin _ _ (.inl ⟨e1, rfl⟩) (.inl ⟨e3, rfl⟩) h
  · exact fin _ _ (.inl ⟨e1, rfl⟩) (.inr ⟨x3, k3, e3, e4⟩) h
  · exact fin _ _ (.inr ⟨x1, k1, e1, e2⟩) (.inl ⟨e3, rfl⟩) h
  · exact fin _ _ (.inr ⟨x1, k1, e1, e2⟩) (.inr ⟨x3, k3, e3, e4⟩) h
theorem sure_sl {K : Value → Prop} {t : TypeId} {x : Operand} {lo hi : Option Operand} (hs : Sat n e a) (ho : o.op = .slice t x lo hi none) {p : Option Addr} {m c : Nat} {el : TypeId} {sz : Nat}
    (hx : a.eval x = .slice p m c) (hu : P.underlying t = some (.slice el)) (hz : sizeT P el = some sz) {l : Int}
    (hl : (lo = none ∧ l = 0) ∨ ∃ x k, lo = some x ∧ a.eval x = .int k l)
    (h : bound (hi.map e.ev) m fun h => SlB l h c (K (.slice (if c = l.toNat then p else p.map fun a => a.add (l.toNat * sz)) (h.toNat - l.toNat) (c - l.toNat)))) : Sure P a o K := by
  have fin : ∀ h : Int, ((hi = none ∧ h = m) ∨ ∃ x k, hi = some x ∧ a.eval x = .int k h) →
      SlB l h c (K (.slice (if c = l.toNat then p else p.map fun a => a.add (l.toNat * sz)) (h.toNat - l.toNat) (c - l.toNat))) → Sure P a o K := fun h hh ⟨h0, h1, h2, h3⟩ =>
    ⟨_, fun w => by simp [execOp, ho, hx, Instr.sliceAt, Instr.slice, run_und hu, run_size hz, run_bounds (P := P) hl hh h0 h1 h2], h3⟩
  rcases slBound hs h with ⟨e1, h⟩ | ⟨x1, k1, m1, e1, e2, h⟩
  · exact fin _ (.inl ⟨e1, rfl⟩) h
  · exact fin _ (.inr ⟨x1, k1, e1, e2⟩) h
theorem add_zero (q : Addr) : q.add 0 = q := by simp [Addr.add]
theorem map_add_zero (p : Option Addr) (c : Nat) : (if c = 0 then p else p.map fun a => a.add 0) = p := by
  split
  · rfl
  · cases p <;> simp [add_zero]
end
end Go.Vc
