/- That 'vc' suffices: whichever operation. -/
import Derived.Test.YtkmoeokfgkmlhaaVcSnd6
namespace Go.Vc
open Go
set_option linter.unusedSimpArgs false
set_option linter.unusedVariables false
section
variable {P : Program} {n : Nat} {e : Env} {a : Act} {o : Oper} {w : World} {R : Ending → World → Prop} {next : Act → World → Prop} {Q : Exit → Act → World → Prop}

theorem wp_value {v : Value} {w' : World} (h : (execOp a.eval o).run P w = .ok (.value v) w') (hn : next (a.put o.dst v) w') : o.wp P a w next Q := by
  unfold Oper.wp; rw [h]; exact hn
theorem wp_skip {w' : World} (h : (execOp a.eval o).run P w = .ok .skip w') (hn : next (a.put o.dst undef) w') : o.wp P a w next Q := by
  unfold Oper.wp; rw [h]; exact hn
theorem wp_sure {K : Value → Prop} (h : Sure P a o K) (hK : ∀ v, K v → next (a.put o.dst v) w) : o.wp P a w next Q := by
  obtain ⟨v, h1, h2⟩ := h
  exact wp_value (h1 w) (hK v h2)
theorem zeroT_run {t : TypeId} {z : Value} (h : zeroT P t = some z) (w : World) : (zeroValue t).run P w = .ok z w := by
  unfold zeroT at h
  split at h
  · rename_i i hi
    simp [zeroValue, typeInfo, program, hi, h, Sem.run]
  · cases h
theorem bytesT_run {t : TypeId} {k : Nat} (h : bytesT P t = some k) (w : World) : ∃ i, (typeInfo t).run P w = .ok i w ∧ i.bytes = k := by
  unfold bytesT at h
  split at h
  · rename_i i hi
    exact ⟨i, by simp [typeInfo, program, hi, Sem.run], by simpa using h⟩
  · cases h
theorem run_sameAddr {p q : Addr} (h : p.block ≠ q.block → (∃ c t, w.heap[p.block]? = some (.cells c t (0, 0))) ∧ (∃ c t, w.heap[q.block]? = some (.cells c t (0, 0)))) : (sameAddr p q).run P w = .ok (decide (p = q)) w := by
  unfold sameAddr
  by_cases hb : p.block = q.block
  · by_cases hpq : p = q <;> simp [hb, hpq]
  · obtain ⟨⟨c, t, h1⟩, ⟨c', t', h2⟩⟩ := h hb
    have hne : ¬ p = q := fun e => hb (by rw [e])
    have hb' : (p.block == q.block) = false := by simpa using hb
    have f : ∀ (x : Addr) (c : Array Value) (t : TypeId), w.heap[x.block]? = some (.cells c t (0, 0)) → w.frozen? x = false ∧ w.frozen? { block := x.block, off := c.size } = false ∧ w.shape? x.block = some (t, c.size) := fun x c t hx => by
      simp [World.frozen?, World.shape?, hx]
    obtain ⟨a1, a2, a3⟩ := f p c t h1
    obtain ⟨b1, b2, b3⟩ := f q c' t' h2
    simp [hb', a1, b1, noView, viewAt, a3, b3, mayBeOne, stringish, a2, b2, hne]
theorem okF_spec {f : FuncId} (h : okF P f = true) {args : Array Value} (w : World) : (callFunc f args).run P w = .ok (.enter f args) w := by
  unfold okF at h
  split at h
  · rename_i fn hf
    rw [Bool.and_eq_true] at h
    have h1 : ¬ (fn.name == "runtime.NumGoroutine") = true := by simpa using h.2
    have h2 : ¬ (fn.body.isNone = true) := by cases hb : fn.body with | none => rw [hb] at h; cases h.1 | some c => simp
    simp only [callFunc, Sem.run_bind, run_program, Result.andThen_ok, hf, Sem.run_ite, if_neg h1, if_neg h2, Sem.run_pure]
  · cases h
theorem post_upon {f : FuncId} {args : Array Value} {K : Value → World → Prop} (hr : (execOp a.eval o).run P w = .ok (.enter f args) w) (hK : ∀ v w', K v w' → next (a.put o.dst v) w')
    (hP : ∀ ch w', R (.panicked ch) w' → Q (.panic ch) a w') (hO : ∀ w', R .outgrown w' → LetsOut Q) (h : Calls P f args w (post R K)) : o.wp P a w next Q := by
  unfold Oper.wp
  rw [hr]
  refine Calls.mono h ?_
  intro e w' he
  cases e with
  | returned v => exact hK _ _ he
  | panicked ch => exact hP _ _ he
  | outgrown => exact hO _ he
theorem callV_spec {v : Value} {args : Array Value} {K : Value → World → Prop} {x : Operand} {c : Call} (ho : o.op = .call c) (hc : c.callee = .value x) (hx : a.eval x = v) (ha : c.args.map a.eval = args)
    (hK : ∀ v w', K v w' → next (a.put o.dst v) w') (hP : ∀ ch w', R (.panicked ch) w' → Q (.panic ch) a w') (hO : ∀ w', R .outgrown w' → LetsOut Q) (h : CallV P v args w R K) : o.wp P a w next Q := by
  unfold CallV at h
  split at h
  · rename_i f first cap
    obtain ⟨h1, h2⟩ := h
    refine post_upon (f := f) ?_ hK hP hO h2
    simp only [execOp, ho, resolve, hc, hx, ha, Deferred.ofValue, Sem.run_bind, Sem.run_pure, Result.andThen_ok, invoke, okF_spec h1]
  · exact h.elim
theorem callK_sound {c : Call} (ho : o.op = .call c) {K : Value → World → Prop} (hs : Sat n e a) (hK : ∀ v w', K v w' → next (a.put o.dst v) w') (hP : ∀ ch w', R (.panicked ch) w' → Q (.panic ch) a w')
    (hO : ∀ w', R .outgrown w' → LetsOut Q) (h : vcCall P R o c e w K) : o.wp P a w next Q := by
  have hmono : ∀ {K' : Value → World → Prop}, tupK P o.type K = some K' → ∀ v w', K' v w' → next (a.put o.dst v) w' := fun hK' v w' hv => hK _ _ (tupK_spec hK' hv)
  unfold vcCall at h
  split at h
  · rename_i f hc
    split at h
    · rename_i hf
      split at h
      · rename_i vs K' hv hK'
        refine post_upon (f := f) ?_ (hmono hK') hP hO h
        simp only [execOp, ho, resolve, hc, Act.eval, Deferred.ofValue, Sem.run_bind, Sem.run_pure, Result.andThen_ok, invoke]
        rw [hs.evsA hv]
        simp only [Array.empty_append, Array.append_empty]
        rw [okF_spec hf]
      · exact h.elim
    · exact h.elim
  · rename_i x _ hc
    split at h
    · rename_i v vs K' hx hv hK'
      exact callV_spec ho hc (hs.ev hx) (hs.evsA hv) (hmono hK') hP hO h
    · exact h.elim
  · rename_i hc
    split at h
    · rename_i vs hv
      obtain ⟨v, w', h1, h2⟩ := rawK_spec h
      refine wp_value ?_ (hK _ _ h2)
      simp [execOp, ho, resolve, hc, hs.evsA hv, invoke, builtin, h1]
    · exact h.elim
  · rename_i hc
    split at h
    · rename_i vs hv
      obtain ⟨v, w', h1, h2⟩ := rawK_spec h
      refine wp_value ?_ (hK _ _ h2)
      simp [execOp, ho, resolve, hc, hs.evsA hv, invoke, builtin, h1]
    · exact h.elim
  · rename_i hc
    split at h
    · rename_i vs hv
      obtain ⟨v, w', h1, h2⟩ := h
      refine wp_value ?_ (hK _ _ h2)
      simp [execOp, ho, resolve, hc, hs.evsA hv, invoke, builtin, h1]
    · exact h.elim
  · rename_i hc
    split at h
    · rename_i vs hv
      obtain ⟨v, w', h1, h2⟩ := h
      refine wp_value ?_ (hK _ _ h2)
      simp [execOp, ho, resolve, hc, hs.evsA hv, invoke, builtin, h1]
    · exact h.elim
  · rename_i hc
    split at h
    · rename_i r hv
      obtain ⟨v, w', h1, h2⟩ := rawK_spec h
      refine wp_value ?_ (hK _ _ h2)
      simp [execOp, ho, resolve, hc, hs.evsA hv, invoke, builtin, h1]
    · exact wp_sure (general_sound hs h) fun v hv => hK _ _ hv
  · rename_i hc
    split at h
    · rename_i t v hv
      have hr : (execOp a.eval o).run P w = .halt (.panic (.iface t v)) w := by
        simp [execOp, ho, resolve, hc, hs.evsA hv, invoke, builtin, Instr.panic]
      unfold Oper.wp
      rw [hr]
      exact hP _ _ h
    · exact h.elim
  · exact wp_sure (general_sound hs h) fun v hv => hK _ _ hv
  · exact wp_sure (general_sound hs h) fun v hv => hK _ _ hv
  · exact wp_sure (general_sound hs h) fun v hv => hK _ _ hv
  · exact h.elim

theorem ptrEq_sound {op : BinOp} {t yt : TypeId} {x y : Operand} (ho : o.op = .binOp op t x y yt) {K : Value → World → Prop} {p q : Option Addr} (hx : a.eval x = .pointer p) (hy : a.eval y = .pointer q)
    (hK : ∀ v w', K v w' → next (a.put o.dst v) w') (h : ptrEq P op t p q w K) : o.wp P a w next Q := by
  unfold ptrEq at h
  split at h
  · rename_i el hu
    split at h
    · rename_i k hz
      obtain ⟨h1, h2⟩ := h
      have he : (Op.equal t (.pointer p) (.pointer q)).run P w = .ok (decide (p = q)) w := by
        show (Op.equalIn (9999 + 1) t (.pointer p) (.pointer q)).run P w = _
        rw [Op.equalIn]
        cases p with
        | none => cases q <;> simp [run_und hu]
        | some p => 
          cases q with
          | none => simp [run_und hu]
          | some q =>
            have := run_sameAddr (P := P) (w := w) (p := p) (q := q) (fun hb => h1 p q rfl rfl hb)
            simp [run_und hu, run_size hz, this]
      have hb := run_binOp_eql (P := P) (t := t) (u := .pointer p) (v := .pointer q) rfl w he
      have hg : (eqGuard op t x y (.pointer p) (.pointer q)).run P w = .ok () w := guardE op t x y _ _ w (by simp) (by simp)
      rcases eqB_spec h2 with ⟨rfl, h'⟩ | ⟨rfl, h'⟩
      · exact wp_value (by simp [execOp, ho, hx, hy, hg, hb.1]) (hK _ _ h')
      · exact wp_value (by simp [execOp, ho, hx, hy, hg, hb.2]) (hK _ _ h')
    · exact h.elim
  · exact h.elim

theorem vcOp_sound {ex : Bool} {K : Value → World → Prop} (hs : Sat n e a) (hK : ∀ v w', K v w' → next (a.put o.dst v) w') (hP : ∀ ch w', R (.panicked ch) w' → Q (.panic ch) a w')
    (hO : ∀ w', R .outgrown w' → LetsOut Q) (h : vcOp P R ex o e w K) : o.wp P a w next Q := by
  have pure' : (vcPure P ex o e fun v => K v w) → o.wp P a w next Q := fun h => wp_sure (vcPure_sound hs h) fun v hv => hK _ _ hv
  unfold vcOp at h
  split at h
  · -- alloc
    rename_i t ho
    split at h
    · rename_i z hz
      exact wp_value (by simp [execOp, ho, Instr.alloc, zeroT_run hz, newVar, newRow]) (hK _ _ h)
    · exact h.elim
  · -- box
    rename_i t x ho
    split at h
    · rename_i v hx
      exact wp_value (by simp [execOp, ho, Instr.box, hs.ev hx, newVar, newRow]) (hK _ _ h)
    · exact h.elim
  · -- buildSlice
    rename_i t len parts ho
    split at h
    · rename_i el hk hu
      split at h
      · rename_i sz z hz hzz
        split at h
        · rename_i cells hle hf
          refine wp_value ?_ (hK _ _ h)
          have hp : (parts.map fun p => (p.1, a.eval p.2)).toList = parts.toList.map fun p => (p.1, e.evD p.2) := by
            rw [Array.toList_map]
            refine List.map_congr_left fun p hp => ?_
            rw [hs.evD hk p.2 (List.mem_map.2 ⟨p, hp, rfl⟩)]
          have hle' : ¬ (2 ^ 24 < len * sz) := by have := Nat.le_of_ble_eq_true hle; omega
          have hm : ∀ g : Nat → Value, len * sz = 0 → (Array.range (len * sz)).map g = #[] := fun g h0 => by rw [h0]; simp
          simp only [execOp, ho, Instr.buildSlice, Sem.run_bind, run_und hu, Result.andThen_ok, run_size hz, gt_iff_lt, if_neg hle', hp, Sem.run_ite]
          by_cases h0 : len * sz = 0
          · rw [hm _ h0] at hf
            simp only [if_pos h0, Sem.run_bind, Sem.run_pure, Result.andThen_ok, hm _ h0, hf]
            simp [newRow]
          · simp only [if_neg h0, Sem.run_bind, Sem.run_pure, Result.andThen_ok, zeroT_run hzz, hf]
            simp [newRow]
        · exact h.elim
      · exact h.elim
    · exact h.elim
  · -- load
    rename_i t x ho
    split at h
    · rename_i q ty hx ht
      obtain ⟨v, h1, h2⟩ := LdT_spec ht h
      exact wp_value (by simp [execOp, ho, hs.ev hx, Instr.loadAt, Instr.sureAddr, h1]) (hK _ _ h2)
    · exact h.elim
  · -- store
    rename_i t x y ho
    split at h
    · rename_i q v m hx hy hz
      split at h
      · rename_i hb
        obtain ⟨w', h1, h2⟩ := StCells_spec h
        have hb' : v.cells.size = m := Nat.eq_of_beq_eq_true hb
        exact wp_skip (by simp only [execOp, ho, hs.ev hx, hs.ev hy, Instr.storeAt, Instr.sureAddr, storeVar, Sem.run_bind, Sem.run_pure, Result.andThen_ok, run_size hz, hb', ne_eq, not_true, if_false]; rw [h1]; rfl) (hK _ _ h2)
      · exact h.elim
    · exact h.elim
  · -- makeMap
    rename_i t r ho
    split at h
    · exact wp_value (by simp [execOp, ho, Instr.makeMap]) (hK _ _ h)
    · rename_i x
      split at h
      · rename_i hx hu
        exact wp_value (by simp [execOp, ho, Instr.makeMap, hs.ev hx, run_und hu, asInt, asIntOf]) (hK _ _ h)
      · exact h.elim
  · -- makeSlice
    rename_i t l c ho
    split at h
    · rename_i k l' k' c' el hl hc hu
      split at h
      · rename_i sz by_ z hz hb hzz
        obtain ⟨h1, h2, h3, h4⟩ := h
        obtain ⟨i, hi, hib⟩ := bytesT_run hb w
        refine wp_value ?_ (hK _ _ h4)
        have hc48 : c' ≤ 281474976710656 := by
          have hb1 : (1 : Int) ≤ ((by_ + 1 : Nat) : Int) := by omega
          have : 1 * c' ≤ ((by_ + 1 : Nat) : Int) * c' := Int.mul_le_mul_of_nonneg_right hb1 (by omega)
          omega
        have w1 : IntKind.i64.wrap l' = l' := wrap_of ⟨by simp [IntKind.min, IntKind.signed, IntKind.bits]; omega, by simp [IntKind.max, IntKind.signed, IntKind.bits]; omega⟩
        have w2 : IntKind.i64.wrap c' = c' := wrap_of ⟨by simp [IntKind.min, IntKind.signed, IntKind.bits]; omega, by simp [IntKind.max, IntKind.signed, IntKind.bits]; omega⟩
        have g1 : (decide (c' < 0) || decide (((by_ + 1 : Nat) : Int) * c' > 2 ^ 48) || decide (l' < 0) || decide (l' > c')) = false := by
          simp only [Bool.or_eq_false_iff, decide_eq_false_iff_not]
          refine ⟨⟨⟨by omega, by omega⟩, by omega⟩, by omega⟩
        have hm : ∀ g : Nat → Value, c'.toNat * sz = 0 → (Array.range (c'.toNat * sz)).map g = #[] := fun g h0 => by rw [h0]; simp
        simp only [execOp, ho, Instr.makeSlice, hs.ev hl, hs.ev hc, asInt, asIntOf, Sem.run_bind, Sem.run_pure, run_und hu, hi, Result.andThen_ok, w1, w2, hib, g1, Bool.false_eq_true, if_false, run_askRoom, run_size hz, Sem.run_ite]
        by_cases h0 : c'.toNat * sz = 0
        · simp only [if_pos h0, Sem.run_bind, Sem.run_pure, Result.andThen_ok]
          simp only [zrow, hm _ h0]
          simp [newRow]
        · simp only [if_neg h0, Sem.run_bind, Sem.run_pure, Result.andThen_ok, zeroT_run hzz]
          simp [newRow, zrow]
      · exact h.elim
    · exact h.elim
  · -- binOp
    rename_i op t x y yt ho
    split at h
    · exact pure' h
    · split at h
      · rename_i p q hx hy; exact ptrEq_sound ho (hs.ev hx) (hs.ev hy) hK h
      · exact pure' h
  · -- convert
    rename_i s d x ho
    have raw : ∀ {v : Value}, a.eval x = v → rawK P o.type (convert s d v) w K → o.wp P a w next Q := fun {v} hv h => by
      obtain ⟨u, w', h1, h2⟩ := rawK_spec h
      exact wp_value (by simp [execOp, ho, hv, h1]) (hK _ _ h2)
    split at h
    · rename_i hx hd; exact raw (hs.ev hx) h
    · rename_i hx hd; exact raw (hs.ev hx) h
    · rename_i hx hd; exact raw (hs.ev hx) h
    · exact pure' h
  · -- lookup
    rename_i t m k ok ho
    split at h
    · rename_i m' k' hm hk
      obtain ⟨u, w', h1, h2⟩ := rawK_spec h
      exact wp_value (by simp [execOp, ho, hs.ev hm, hs.ev hk, h1]) (hK _ _ h2)
    · exact h.elim
  · rename_i t m k x ho
    split at h
    · rename_i m' k' v' hm hk hx
      obtain ⟨u, w', h1, h2⟩ := h
      exact wp_skip (by simp [execOp, ho, hs.ev hm, hs.ev hk, hs.ev hx, h1]) (hK _ _ h2)
    · exact h.elim
  · rename_i t m k x ho
    split at h
    · rename_i m' k' v' hm hk hx
      obtain ⟨u, w', h1, h2⟩ := h
      exact wp_skip (by simp [execOp, ho, hs.ev hm, hs.ev hk, hs.ev hx, h1]) (hK _ _ h2)
    · exact h.elim
  · rename_i t m k ho
    split at h
    · rename_i m' k' hm hk
      obtain ⟨u, w', h1, h2⟩ := rawK_spec h
      exact wp_value (by simp [execOp, ho, hs.ev hm, hs.ev hk, h1]) (hK _ _ h2)
    · exact h.elim
  · rename_i t m s x ho
    split at h
    · rename_i m' k' v' hm hk hx
      obtain ⟨u, w', h1, h2⟩ := h
      exact wp_skip (by simp [execOp, ho, hs.ev hm, hs.ev hk, hs.ev hx, h1]) (hK _ _ h2)
    · exact h.elim
  · rename_i t x ho
    split at h
    · rename_i v hv
      obtain ⟨u, w', h1, g, rfl, h2⟩ := h
      exact wp_value (by simp [execOp, ho, hs.ev hv, h1]) (hK _ _ h2)
    · exact h.elim
  · rename_i it s ho
    split at h
    · rename_i v hv
      obtain ⟨u, w', h1, h2⟩ := h
      refine wp_value (v := u) (w' := w') (by simp [execOp, ho, hs.ev hv, h1]) ?_
      rcases h2 with ⟨rfl, h2⟩ | h2
      · exact hK _ _ h2
      · split at h2
        · rename_i K' hK'; exact hK _ _ (tupK_spec hK' h2)
        · exact h2.elim
    · exact h.elim
  · rename_i it ho
    split at h
    · rename_i v hv
      obtain ⟨u, w', h1, h2⟩ := rawK_spec h
      exact wp_value (by simp [execOp, ho, hs.ev hv, h1]) (hK _ _ h2)
    · exact h.elim
  · rename_i x ho
    split at h
    · rename_i t v hv
      have hr : (execOp a.eval o).run P w = .halt (.panic (.iface t v)) w := by
        simp [execOp, ho, hs.ev hv, Instr.panic]
      unfold Oper.wp
      rw [hr]
      exact hP _ _ h
    · exact h.elim
  · rename_i c ho
    exact callK_sound ho hs hK hP hO h
  · exact pure' h
end
end Go.Vc
