/- That 'vc' suffices: one operation that looks at no world. -/
import Derived.Test.YtkmoeokfgkmlhaaVcDef
import Derived.Laws.StructEq
namespace Go.Vc
open Go
set_option linter.unusedSimpArgs false
set_option linter.unusedVariables false

/-- The slots hold what the list says. -/
def Sat (n : Nat) (e : Env) (a : Act) : Prop := a.defers = [] ∧ a.tmps.size = n ∧ ∀ t v, e.get t = some v → a.tmps.getD t undef = v

section
variable {P : Program} {n : Nat} {e : Env} {a : Act} {o : Oper} {w : World}

theorem get_w {t s : Nat} {v : Value} : Env.get (.w t v :: e) s = if t = s then some v else e.get s := by
  simp only [Env.get]
  split
  · rename_i h; rw [if_pos (Nat.eq_of_beq_eq_true h)]
  · rename_i h; rw [if_neg (Nat.ne_of_beq_eq_false h)]
theorem get_h {lo hi s : Nat} : Env.get (.h lo hi :: e) s = if lo ≤ s ∧ s < hi then none else e.get s := by
  simp only [Env.get]
  split
  · rename_i h
    have h1 := Nat.le_of_ble_eq_true h
    split
    · rename_i h'; have h2 := Nat.le_of_ble_eq_true h'; rw [if_pos ⟨h1, by omega⟩]
    · rename_i h'; have h2 : ¬ (s + 1 ≤ hi) := Nat.not_le_of_not_ble_eq_true (by rw [h']; decide); rw [if_neg (by omega)]
  · rename_i h
    have h1 : ¬ (lo ≤ s) := Nat.not_le_of_not_ble_eq_true (by rw [h]; decide)
    rw [if_neg (by omega)]

theorem Sat.ev (h : Sat n e a) {x : Operand} {v : Value} (hx : e.ev x = some v) : a.eval x = v := by
  cases x with
  | tmp t => exact h.2.2 t v hx
  | const c => simpa [Env.ev, Act.eval] using hx
  | global g => simpa [Env.ev, Act.eval] using hx
  | func f => simpa [Env.ev, Act.eval] using hx
theorem Sat.evs (h : Sat n e a) : ∀ {xs : List Operand} {vs : List Value}, e.evs xs = some vs → xs.map a.eval = vs
  | [], vs, hx => by simpa [Env.evs] using hx
  | x :: xs, vs, hx => by
    simp only [Env.evs] at hx
    split at hx
    · rename_i v us hv hus
      obtain rfl : v :: us = vs := by simpa using hx
      rw [List.map_cons, h.ev hv, h.evs hus]
    · cases hx
theorem Sat.evsA (h : Sat n e a) {xs : Array Operand} {vs : List Value} (hx : e.evs xs.toList = some vs) : xs.map a.eval = vs.toArray := by
  have := h.evs hx
  apply Array.ext'
  simpa using this
theorem Sat.evD (h : Sat n e a) {xs : List Operand} (hk : e.known xs = true) : ∀ x ∈ xs, a.eval x = e.evD x := by
  intro x hx
  unfold Env.known at hk
  have := List.all_eq_true.1 hk x hx
  unfold Env.evD
  cases hv : e.ev x with
  | none => rw [hv] at this; cases this
  | some v => exact h.ev hv
theorem Sat.put (h : Sat n e a) (hd : okDst n o = true) (v : Value) : Sat n (e.put o.dst v) (a.put o.dst v) := by
  unfold okDst at hd
  cases ho : o.dst with
  | none => simpa [Env.put, Act.put] using h
  | some d =>
    rw [ho] at hd
    have hd' : d < n := Nat.le_of_ble_eq_true hd
    refine ⟨h.1, by simpa [Act.put] using h.2.1, fun t u ht => ?_⟩
    simp only [Env.put, get_w] at ht
    split at ht
    · rename_i hdt; subst hdt
      obtain rfl : v = u := by simpa using ht
      have : d < a.tmps.size := by rw [h.2.1]; exact hd'
      simp [Act.put, this]
    · rename_i hdt
      have := h.2.2 t u ht
      simpa [Act.put, Array.getElem?_setIfInBounds_ne hdt] using this
theorem Sat.guard (h : Sat n e a) {d : Nat} {b : Bool} (hg : e.get d = some (.bool b)) : Sat n (.w d (.bool b) :: e) a := by
  refine ⟨h.1, h.2.1, fun t u ht => ?_⟩
  rw [get_w] at ht
  split at ht
  · rename_i hdt; subst hdt
    obtain rfl : Value.bool b = u := by simpa using ht
    exact h.2.2 d _ hg
  · exact h.2.2 t u ht

theorem pure?_run {α : Type} {s : Sem α} {x : α} (h : pure? P s = some x) (w : World) : s.run P w = .ok x w := by
  induction s with
  | pure a => have h' : a = x := (by simpa [pure?] using h); rw [h']; rfl
  | program k ih => simp only [pure?] at h; simp only [Sem.run]; exact ih _ h
  | mark m k ih => simp only [pure?] at h; simp only [Sem.run]; exact ih h
  | _ => simp [pure?] at h

/-- What is shown of an operation that looks at no world. -/
def Sure (P : Program) (a : Act) (o : Oper) (K : Value → Prop) : Prop := ∃ v, (∀ w, (execOp a.eval o).run P w = .ok (.value v) w) ∧ K v

theorem general_sound {K : Value → Prop} (hs : Sat n e a) (h : general P o e K) : Sure P a o K := by
  unfold general at h
  split at h
  · rename_i hk
    rw [Bool.and_eq_true] at hk
    split at h
    · rename_i v hv
      refine ⟨v, fun w => ?_, h⟩
      rw [execOp_congr o (fun cs b hc => by rw [hc] at hk; simp [isSel] at hk) (fun x hx => hs.evD hk.1 x (by simpa using hx))]
      exact pure?_run hv w
    · exact h.elim
  · exact h.elim

theorem sizeT_run {t : TypeId} {k : Nat} (h : sizeT P t = some k) : ∃ i, P.info? t = some i ∧ i.size = k := by
  unfold sizeT at h
  split at h
  · rename_i i hi; exact ⟨i, hi, by simpa using h⟩
  · cases h

theorem IntKind.same_eq {k k' : IntKind} (h : IntKind.same k k' = true) : k = k' := by
  cases k <;> cases k' <;> first | rfl | simp [IntKind.same] at h


theorem wrap_of {k : IntKind} {z : Int} (h : InR k z) : k.wrap z = z := by
  obtain ⟨h1, h2⟩ := h
  cases k <;> simp [IntKind.min, IntKind.max, IntKind.signed, IntKind.bits, IntKind.wrap] at * <;> omega
theorem run_num {k : IntKind} {z : Int} {ex : Bool} {K : Value → Prop} (h : num ex k z K) : K (.int k (k.wrap z)) := by
  unfold num at h
  split at h
  · rw [wrap_of h.1]; exact h.2
  · exact h
theorem surely0_ne {y : Operand} {b : Int} {X : Prop} (h : surely0 y b X) : b ≠ 0 ∧ X := by
  unfold surely0 at h
  split at h
  · split at h
    · exact h.elim
    · rename_i hb
      refine ⟨?_, h⟩
      rintro rfl
      simp at hb
  · exact h
theorem surelyPos_le {y : Operand} {b : Int} {X : Prop} (h : surelyPos y b X) : 0 ≤ b ∧ X := by
  unfold surelyPos at h
  split at h
  · split at h
    · exact ⟨by simp, h⟩
    · exact h.elim
  · exact h
theorem eqB_spec {op : BinOp} {b : Bool} {K : Value → Prop} (h : eqB op b K) : (op = .eql ∧ K (.bool b)) ∨ (op = .neq ∧ K (.bool !b)) := by
  unfold eqB at h
  split at h
  · exact .inl ⟨rfl, h⟩
  · exact .inr ⟨rfl, h⟩
  · exact h.elim
end
end Go.Vc
