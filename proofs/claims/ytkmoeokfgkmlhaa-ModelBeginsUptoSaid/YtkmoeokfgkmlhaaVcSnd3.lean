/- That 'vc' suffices: operators. -/
import Derived.Test.YtkmoeokfgkmlhaaVcSnd2
namespace Go.Vc
open Go
set_option linter.unusedSimpArgs false
set_option linter.unusedVariables false
section
variable {P : Program} {n : Nat} {e : Env} {a : Act} {o : Oper} {w : World}

theorem sure_binI {K : Value → Prop} (hs : Sat n e a) {op : BinOp} {t yt : TypeId} {x y : Operand} (ho : o.op = .binOp op t x y yt) {k : IntKind} {p q : Int} {ex : Bool}
    (hx : a.eval x = .int k p) (hy : a.eval y = .int k q) (h1 : op ≠ .shl) (h2 : op ≠ .shr) (h : binI P ex o e op y k p q K) : Sure P a o K := by
  unfold binI at h
  cases op with
  | add => exact ⟨_, fun w => by simp [execOp, ho, hx, hy, eqGuard, binOp, Op.intArith], run_num h⟩
  | sub => exact ⟨_, fun w => by simp [execOp, ho, hx, hy, eqGuard, binOp, Op.intArith], run_num h⟩
  | mul => exact ⟨_, fun w => by simp [execOp, ho, hx, hy, eqGuard, binOp, Op.intArith], run_num h⟩
  | quo => 
    obtain ⟨h3, h4⟩ := surely0_ne h
    exact ⟨_, fun w => by simp [execOp, ho, hx, hy, eqGuard, binOp, Op.intDiv, h3], run_num h4⟩
  | rem => 
    obtain ⟨h3, h4⟩ := surely0_ne h
    exact ⟨_, fun w => by simp [execOp, ho, hx, hy, eqGuard, binOp, Op.intDiv, h3], h4⟩
  | shl => exact absurd rfl h1
  | shr => exact absurd rfl h2
  | _ => exact general_sound hs h
theorem sure_shI {K : Value → Prop} {op : BinOp} {t yt : TypeId} {x y : Operand} (ho : o.op = .binOp op t x y yt) {k k' : IntKind} {p q : Int} {ex : Bool}
    (hx : a.eval x = .int k p) (hy : a.eval y = .int k' q) (h : shI ex op y k p q K) : Sure P a o K := by
  unfold shI at h
  split at h
  · obtain ⟨h3, h4⟩ := surelyPos_le h
    have h5 : ¬ q < 0 := by omega
    exact ⟨_, fun w => by simp [execOp, ho, hx, hy, eqGuard, binOp, Op.shift, h5], run_num h4⟩
  · obtain ⟨h3, h4⟩ := surelyPos_le h
    have h5 : ¬ q < 0 := by omega
    exact ⟨_, fun w => by simp [execOp, ho, hx, hy, eqGuard, binOp, Op.shift, h5], h4⟩
  · exact h.elim
theorem sure_cat {K : Value → Prop} {t yt : TypeId} {x y : Operand} (ho : o.op = .binOp .add t x y yt) {p q : ByteArray} 
    (hx : a.eval x = .string p) (hy : a.eval y = .string q) (h : ((p.size + q.size : Nat) : Int) ≤ 9223372036854775807 ∧ K (.string (p ++ q))) : Sure P a o K := by
  have h1 : ¬ ((p.size + q.size : Nat) : Int) > IntKind.i64.max := by have := h.1; simp [IntKind.max, IntKind.signed, IntKind.bits]; omega
  exact ⟨_, fun w => by simp only [execOp, ho, hx, hy, eqGuard, binOp, Op.stringOp, h1, if_false]; simp, h.2⟩

/-- nil: which. -/
theorem isNil_spec {x : Operand} (h : isNil x = true) : x = .const (.pointer none) ∨ (∃ l c, x = .const (.slice none l c)) ∨ x = .const (.map none) ∨ x = .const .nilFunc ∨ x = .const .nilIface := by
  unfold isNil at h
  split at h <;> simp_all

/-- A number or a string. -/
def isBasic : Value → Bool
  | .int _ _ => true | .float _ _ => true | .complex _ _ _ => true | .string _ => true
  | _ => false
theorem run_binOp_eql {t : TypeId} {u v : Value} {r : Bool} (hb : isBasic u = false) (w : World) (he : (Op.equal t u v).run P w = .ok r w) :
    (binOp .eql t u v).run P w = .ok (.bool r) w ∧ (binOp .neq t u v).run P w = .ok (.bool !r) w := by
  constructor
  · unfold binOp
    split <;> first | (simp [isBasic] at hb; done) | simp_all
  · unfold binOp
    split <;> first | (simp [isBasic] at hb; done) | simp_all
theorem run_eqB {op : BinOp} {t yt : TypeId} {x y : Operand} (ho : o.op = .binOp op t x y yt) {r : Bool} {K : Value → Prop} (h : eqB op r K) {u v : Value} (hx : a.eval x = u) (hy : a.eval y = v)
    (hg : ∀ w, (eqGuard op t x y u v).run P w = .ok () w) (hb : isBasic u = false)
    (he : ∀ w, (Op.equal t u v).run P w = .ok r w) : Sure P a o K := by
  rcases eqB_spec h with ⟨rfl, h'⟩ | ⟨rfl, h'⟩
  · exact ⟨_, fun w => by simp [execOp, ho, hx, hy, hg, (run_binOp_eql hb w (he w)).1], h'⟩
  · exact ⟨_, fun w => by simp [execOp, ho, hx, hy, hg, (run_binOp_eql hb w (he w)).2], h'⟩
theorem run_equal_nil (t : TypeId) {d : TypeDesc} (hu : P.underlying t = some d) (w : World) :
    (∀ e, d = .pointer e → ∀ p, (Op.equal t (.pointer p) (.pointer none)).run P w = .ok p.isNone w ∧ (Op.equal t (.pointer none) (.pointer p)).run P w = .ok p.isNone w) ∧
    (∀ e, d = .slice e → ∀ p n c l m, (Op.equal t (.slice p n c) (.slice none l m)).run P w = .ok p.isNone w ∧ (Op.equal t (.slice none l m) (.slice p n c)).run P w = .ok p.isNone w) ∧
    (∀ e f, d = .map e f → ∀ p, (Op.equal t (.map p) (.map none)).run P w = .ok p.isNone w ∧ (Op.equal t (.map none) (.map p)).run P w = .ok p.isNone w) ∧
    (∀ x y z, d = .func x y z → (Op.equal t .nilFunc .nilFunc).run P w = .ok true w ∧ ∀ f i j, (Op.equal t .nilFunc (.func f i j)).run P w = .ok false w ∧ (Op.equal t (.func f i j) .nilFunc).run P w = .ok false w) ∧
    (∀ x, d = .interface x → (Op.equal t .nilIface .nilIface).run P w = .ok true w ∧ ∀ i j, (Op.equal t .nilIface (.iface i j)).run P w = .ok false w ∧ (Op.equal t (.iface i j) .nilIface).run P w = .ok false w) := by
  have key : ∀ u v, Op.equal t u v = Op.equalIn (9999 + 1) t u v := fun _ _ => rfl
  simp only [key]
  refine ⟨?_, ?_, ?_, ?_, ?_⟩
  · rintro e rfl p
    cases p <;> constructor <;> (rw [Op.equalIn]; simp [run_und hu])
  · rintro e rfl p n c l m
    cases p <;> constructor <;> (rw [Op.equalIn]; simp [run_und hu])
  · rintro e f rfl p
    cases p <;> constructor <;> (rw [Op.equalIn]; simp [run_und hu])
  · rintro x y z rfl
    refine ⟨?_, fun f i j => ⟨?_, ?_⟩⟩ <;> (rw [Op.equalIn]; simp [run_und hu])
  · rintro x rfl
    refine ⟨?_, fun i j => ⟨?_, ?_⟩⟩ <;> (rw [Op.equalIn]; simp [run_und hu])
theorem nilF_spec {v : Value} {K : Bool → Prop} (h : nilF v K) : (v = .nilFunc ∧ K true) ∨ ((∃ f x y, v = .func f x y) ∧ K false) := by
  unfold nilF at h
  split at h
  · exact .inl ⟨rfl, h⟩
  · exact .inr ⟨⟨_, _, _, rfl⟩, h⟩
  · exact h.elim
theorem nilI_spec {v : Value} {K : Bool → Prop} (h : nilI v K) : (v = .nilIface ∧ K true) ∨ ((∃ x y, v = .iface x y) ∧ K false) := by
  unfold nilI at h
  split at h
  · exact .inl ⟨rfl, h⟩
  · exact .inr ⟨⟨_, _, rfl⟩, h⟩
  · exact h.elim
theorem guardE (op : BinOp) (t : TypeId) (x y : Operand) (u v : Value) (w : World) (h : ∀ c d, ¬ (u = .agg c ∧ v = .agg d)) (hc : (u = .nilIface ∧ v = .nilIface) → (eqGuard op t x y .nilIface .nilIface).run P w = .ok () w) : (eqGuard op t x y u v).run P w = .ok () w := by
  by_cases h1 : u = .nilIface ∧ v = .nilIface
  · obtain ⟨rfl, rfl⟩ := h1; exact hc ⟨rfl, rfl⟩
  · cases op <;> first | rfl | (show Sem.run P (match u, v with | .nilIface, .nilIface => _ | .agg _, .agg _ => _ | _, _ => _) w = _; split <;> first | rfl | exact absurd ⟨rfl, rfl⟩ h1 | exact absurd ⟨rfl, rfl⟩ (h _ _))
theorem guardR (op : BinOp) (t : TypeId) (x : Operand) (c : Value) (u v : Value) (w : World) (h : ∀ c d, ¬ (u = .agg c ∧ v = .agg d)) : (eqGuard op t x (.const c) u v).run P w = .ok () w :=
  guardE op t x _ u v w h fun _ => by cases op <;> simp [eqGuard]
theorem guardL (op : BinOp) (t : TypeId) (x : Operand) (c : Value) (u v : Value) (w : World) (h : ∀ c d, ¬ (u = .agg c ∧ v = .agg d)) : (eqGuard op t (.const c) x u v).run P w = .ok () w :=
  guardE op t _ x u v w h fun _ => by cases op <;> simp [eqGuard]
theorem sure_nilR {K : Value → Prop} {op : BinOp} {t yt : TypeId} {x y : Operand} (ho : o.op = .binOp op t x y yt) {v : Value} {d : TypeDesc}
    (hu : P.underlying t = some d) (hy : isNil y = true) (hx : a.eval x = v) (h : eqNil d y op v K) : Sure P a o K := by
  obtain ⟨e1, e2, e3, e4, e5⟩ : _ ∧ _ ∧ _ ∧ _ ∧ _ := ⟨fun w => (run_equal_nil t hu w).1, fun w => (run_equal_nil t hu w).2.1, fun w => (run_equal_nil t hu w).2.2.1, fun w => (run_equal_nil t hu w).2.2.2.1, fun w => (run_equal_nil t hu w).2.2.2.2⟩
  unfold eqNil at h
  split at h
  · split at h
    · exact run_eqB ho h hx rfl (fun w => guardR _ _ _ _ _ _ w (by simp)) rfl fun w => (e1 w _ rfl _).1
    · exact h.elim
  · split at h
    · exact run_eqB ho h hx rfl (fun w => guardR _ _ _ _ _ _ w (by simp)) rfl fun w => (e2 w _ rfl _ _ _ _ _).1
    · exact h.elim
  · split at h
    · exact run_eqB ho h hx rfl (fun w => guardR _ _ _ _ _ _ w (by simp)) rfl fun w => (e3 w _ _ rfl _).1
    · exact h.elim
  · split at h
    · rcases nilF_spec h with ⟨rfl, h⟩ | ⟨⟨f, i, j, rfl⟩, h⟩
      · exact run_eqB ho h hx rfl (fun w => guardR _ _ _ _ _ _ w (by simp)) rfl fun w => (e4 w _ _ _ rfl).1
      · exact run_eqB ho h hx rfl (fun w => guardR _ _ _ _ _ _ w (by simp)) rfl fun w => ((e4 w _ _ _ rfl).2 _ _ _).2
    · exact h.elim
  · split at h
    · rcases nilI_spec h with ⟨rfl, h⟩ | ⟨⟨i, j, rfl⟩, h⟩
      · exact run_eqB ho h hx rfl (fun w => guardR _ _ _ _ _ _ w (by simp)) rfl fun w => (e5 w _ rfl).1
      · exact run_eqB ho h hx rfl (fun w => guardR _ _ _ _ _ _ w (by simp)) rfl fun w => ((e5 w _ rfl).2 _ _).2
    · exact h.elim
  · exact h.elim
theorem sure_nilL {K : Value → Prop} {op : BinOp} {t yt : TypeId} {x y : Operand} (ho : o.op = .binOp op t x y yt) {v : Value} {d : TypeDesc}
    (hu : P.underlying t = some d) (hy : a.eval y = v) (h : eqNil d x op v K) : Sure P a o K := by
  obtain ⟨e1, e2, e3, e4, e5⟩ : _ ∧ _ ∧ _ ∧ _ ∧ _ := ⟨fun w => (run_equal_nil t hu w).1, fun w => (run_equal_nil t hu w).2.1, fun w => (run_equal_nil t hu w).2.2.1, fun w => (run_equal_nil t hu w).2.2.2.1, fun w => (run_equal_nil t hu w).2.2.2.2⟩
  unfold eqNil at h
  split at h
  · split at h
    · exact run_eqB ho h rfl hy (fun w => guardL _ _ _ _ _ _ w (by simp [Act.eval])) rfl fun w => (e1 w _ rfl _).2
    · exact h.elim
  · split at h
    · exact run_eqB ho h rfl hy (fun w => guardL _ _ _ _ _ _ w (by simp [Act.eval])) rfl fun w => (e2 w _ rfl _ _ _ _ _).2
    · exact h.elim
  · split at h
    · exact run_eqB ho h rfl hy (fun w => guardL _ _ _ _ _ _ w (by simp [Act.eval])) rfl fun w => (e3 w _ _ rfl _).2
    · exact h.elim
  · split at h
    · rcases nilF_spec h with ⟨rfl, h⟩ | ⟨⟨f, i, j, rfl⟩, h⟩
      · exact run_eqB ho h rfl hy (fun w => guardL _ _ _ _ _ _ w (by simp [Act.eval])) rfl fun w => (e4 w _ _ _ rfl).1
      · exact run_eqB ho h rfl hy (fun w => guardL _ _ _ _ _ _ w (by simp [Act.eval])) rfl fun w => ((e4 w _ _ _ rfl).2 _ _ _).1
    · exact h.elim
  · split at h
    · rcases nilI_spec h with ⟨rfl, h⟩ | ⟨⟨i, j, rfl⟩, h⟩
      · exact run_eqB ho h rfl hy (fun w => guardL _ _ _ _ _ _ w (by simp [Act.eval])) rfl fun w => (e5 w _ rfl).1
      · exact run_eqB ho h rfl hy (fun w => guardL _ _ _ _ _ _ w (by simp [Act.eval])) rfl fun w => ((e5 w _ rfl).2 _ _).1
    · exact h.elim
  · exact h.elim
end
end Go.Vc
