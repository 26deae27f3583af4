/- That 'vc' suffices: the whole function. -/
import Derived.Test.YtkmoeokfgkmlhaaVcSnd8
namespace Go.Vc
open Go
set_option linter.unusedSimpArgs false
set_option linter.unusedVariables false
section
variable {P : Program} {n : Nat} {e : Env} {a : Act} {w : World} {R : Ending → World → Prop} {f : FuncId} {fn : Func}

theorem STy.all_app {α : Type} {t : STy} {F : Value → Prop} {g : t.Fun α} {v : Value} {x : α} (h : t.all F) (ha : t.app g v = some x) : F v := by
  cases t <;> simp only [STy.all] at h <;> cases v <;> simp only [STy.app] at ha <;> try (cases ha; done)
  · split at ha
    · rename_i hk; rw [← IntKind.same_eq hk]; exact h _
    · cases ha
  · exact h _
  · exact h _
  · exact h _
  · split at ha
    · exact h _
    · cases ha
  · exact h _ _ _
  · exact h _
  all_goals exact h _
theorem STys.all_app {α : Type} : ∀ {ts : List STy} {F : List Value → Prop} {g : STys.Fun ts α} {vs : List Value} {x : α}, STys.all ts F → STys.app ts g vs = some x → F vs
  | [], F, g, [], x, h, _ => h
  | [], F, g, v :: vs, x, h, ha => by simp [STys.app] at ha
  | t :: ts, F, g, [], x, h, ha => by simp [STys.app] at ha
  | t :: ts, F, g, v :: vs, x, h, ha => by
    simp only [STys.app] at ha
    split at ha
    · rename_i g' hg
      have h1 : STys.all ts fun vs => F (v :: vs) := STy.all_app (F := fun v => STys.all ts fun vs => F (v :: vs)) h hg
      exact STys.all_app (F := fun vs => F (v :: vs)) h1 ha
    · cases ha
theorem Ty.all_app {α : Type} {t : Ty} {F : Value → Prop} {g : t.Fun α} {v : Value} {x : α} (h : t.all F) (ha : t.app g v = some x) : F v := by
  cases t with
  | s t => exact STy.all_app h ha
  | agg ts =>
    cases v <;> simp only [Ty.app] at ha <;> try (cases ha; done)
    have := STys.all_app h ha
    simpa using this
theorem Tys.all_app {α : Type} : ∀ {ts : List Ty} {F : List Value → Prop} {g : Tys.Fun ts α} {vs : List Value} {x : α}, Tys.all ts F → Tys.app ts g vs = some x → F vs
  | [], F, g, [], x, h, _ => h
  | [], F, g, v :: vs, x, h, ha => by simp [Tys.app] at ha
  | t :: ts, F, g, [], x, h, ha => by simp [Tys.app] at ha
  | t :: ts, F, g, v :: vs, x, h, ha => by
    simp only [Tys.app] at ha
    split at ha
    · rename_i g' hg
      have h1 : Tys.all ts fun vs => F (v :: vs) := Ty.all_app (F := fun v => Tys.all ts fun vs => F (v :: vs)) h hg
      exact Tys.all_app (F := fun vs => F (v :: vs)) h1 ha
    · cases ha
theorem atK_all {tys : List Ty} {J : Tys.Fun tys (World → Prop)} {vs : List Value} {F : List Value → Prop} (h : Tys.all tys F) (hj : atK tys J vs w) : F vs := by
  unfold atK at hj
  split at hj
  · rename_i g hg; exact Tys.all_app h hg
  · exact hj.elim

/-! ### Cuts -/
theorem get_append {new base : Env} {t : Nat} (h : ∀ x ∈ new, match x with | .w s _ => s ≠ t | .h lo hi => ¬ (lo ≤ t ∧ t < hi)) : Env.get (new ++ base) t = base.get t := by
  induction new with
  | nil => rfl
  | cons x xs ih =>
    have hx := h x (by simp)
    have := ih fun y hy => h y (by simp [hy])
    cases x with
    | w s v => rw [List.cons_append, get_w, if_neg hx, this]
    | h lo hi => rw [List.cons_append, get_h, if_neg hx, this]
theorem evs_get {sl : List Nat} : ∀ {vs : List Value}, e.evs (sl.map fun t => .tmp t) = some vs → ∀ {t : Nat} {v : Value} {base : Env}, Env.get ((sl.zip vs).map (fun p => Ent.w p.1 p.2) ++ base) t = some v → (e.get t = some v) ∨ (t ∉ sl ∧ base.get t = some v) := by
  induction sl with
  | nil =>
    intro vs h t v base hg
    exact .inr ⟨by simp, by simpa using hg⟩
  | cons s sl ih =>
    intro vs h t v base hg
    simp only [List.map_cons, Env.evs] at h
    split at h
    · rename_i u us hu hus
      obtain rfl : u :: us = vs := by simpa using h
      simp only [List.zip_cons_cons, List.map_cons, List.cons_append, get_w] at hg
      split at hg
      · rename_i hst; subst hst
        obtain rfl : u = v := by simpa using hg
        exact .inl hu
      · rename_i hst
        rcases ih hus hg with h1 | ⟨h1, h2⟩
        · exact .inl h1
        · exact .inr ⟨by simp [h1]; exact fun e => hst e.symm, h2⟩
    · cases h
theorem hide_get {hs : List (Nat × Nat)} {base : Env} {t : Nat} {v : Value} (h : Env.get (hs.map (fun p => Ent.h p.1 p.2) ++ base) t = some v) : (∀ p ∈ hs, ¬ (p.1 ≤ t ∧ t < p.2)) ∧ base.get t = some v := by
  induction hs with
  | nil => exact ⟨by simp, h⟩
  | cons p hs ih =>
    simp only [List.map_cons, List.cons_append, get_h] at h
    split at h
    · cases h
    · rename_i hp
      obtain ⟨h1, h2⟩ := ih h
      exact ⟨fun q hq => by rcases List.mem_cons.1 hq with rfl | hq; exact hp; exact h1 q hq, h2⟩
theorem leaf_sound {c : Cut} {base : Env} {J : List Value → World → Prop} (hs : Sat n e a) (hx : Ext base e) (h : leaf c base J e w) : ∃ vs, J vs w ∧ Sat n (c.env vs base) a := by
  unfold leaf at h
  split at h
  · exact h.elim
  · rename_i vs hv
    split at h
    · rename_i hc
      refine ⟨vs, h, hs.1, hs.2.1, fun t v ht => hs.2.2 t v ?_⟩
      obtain ⟨new, rfl⟩ := hx
      have hnew : newOf (new ++ base) base = new := by simp [newOf]
      rw [hnew] at hc
      have hv' : Env.evs (new ++ base) ((c.sl.map (·.1)).map fun t => .tmp t) = some vs := by
        unfold Cut.vals at hv
        rw [List.map_map]
        exact hv
      rcases evs_get hv' ht with h1 | ⟨h1, h2⟩
      · exact h1
      · obtain ⟨h3, h4⟩ := hide_get h2
        rw [get_append, h4]
        intro x hx
        have hcx := List.all_eq_true.1 hc x hx
        cases x with
        | w s u =>
          simp only [Cut.covers, Bool.or_eq_true, List.any_eq_true, Bool.and_eq_true] at hcx
          rintro rfl
          rcases hcx with ⟨p, hp, hps⟩ | ⟨p, hp, hps1, hps2⟩
          · exact h1 (List.mem_map.2 ⟨p, hp, Nat.eq_of_beq_eq_true hps⟩)
          · exact h3 p hp ⟨Nat.le_of_ble_eq_true hps1, Nat.le_of_ble_eq_true hps2⟩
        | h lo hi =>
          simp only [Cut.covers, List.any_eq_true, Bool.and_eq_true] at hcx
          obtain ⟨p, hp, hps1, hps2⟩ := hcx
          rintro ⟨h5, h6⟩
          exact h3 p hp ⟨Nat.le_trans (Nat.le_of_ble_eq_true hps1) h5, Nat.lt_of_lt_of_le h6 (Nat.le_of_ble_eq_true hps2)⟩
    · exact h.elim
theorem Cut.ext (c : Cut) (vs : List Value) (e : Env) : Ext e (c.env vs e) := ⟨_, (List.append_assoc _ _ _).symm⟩

/-- The stack's promises. -/
def SOK (P : Program) (f : FuncId) (R : Ending → World → Prop) (n : Nat) : List SI → Env → Prop
  | [], _ => True
  | .join c base J :: k, e => Ext base e ∧ (∀ vs w' a', Sat n (c.env vs base) a' → J vs w' → Wk P f (SI.erase k) a' w' R) ∧ SOK P f R n k e
  | .lp c base J cd :: k, e => Ext base e ∧ (∀ vs w' a', Sat n (c.env vs base) a' → J vs w' → Wk P f (.inLoop cd :: SI.erase k) a' w' R) ∧ SOK P f R n k e
  | .code _ :: k, e => SOK P f R n k e
  | .inBlock _ :: k, e => SOK P f R n k e
theorem SOK.mono : ∀ {k : List SI} {e e' : Env}, Ext e e' → SOK P f R n k e → SOK P f R n k e'
  | [], _, _, _, _ => trivial
  | .join _ _ _ :: _, _, _, hx, h => ⟨h.1.trans hx, h.2.1, SOK.mono hx h.2.2⟩
  | .lp _ _ _ _ :: _, _, _, hx, h => ⟨h.1.trans hx, h.2.1, SOK.mono hx h.2.2⟩
  | .code _ :: k, _, _, hx, h => SOK.mono (k := k) hx h
  | .inBlock _ :: k, _, _, hx, h => SOK.mono (k := k) hx h
theorem exitS_spec {i : Nat} : ∀ {k k' : List SI}, exitS i k = some k' → exitTo i (SI.erase k) = some (SI.erase k') ∧ (SOK P f R n k e → SOK P f R n k' e)
  | [], _, h => by simp [exitS] at h
  | .inBlock j :: k, k', h => by
    unfold exitS at h
    split at h
    · rename_i hb
      obtain rfl := Option.some.inj h
      obtain rfl : i = j := Nat.eq_of_beq_eq_true hb
      exact ⟨by simp [SI.erase, exitTo], fun h => h⟩
    · rename_i hb
      have := exitS_spec h
      have hne : ¬ (j == i) = true := by
        intro he
        have : j = i := by simpa using he
        exact Nat.ne_of_beq_eq_false hb this.symm
      exact ⟨by simp only [SI.erase, exitTo, if_neg hne]; exact this.1, this.2⟩
  | .code c :: k, k', h => by
    have := exitS_spec (k := k) (k' := k') (by simpa [exitS] using h)
    exact ⟨by simpa [SI.erase, exitTo] using this.1, this.2⟩
  | .join c b J :: k, k', h => by
    have := exitS_spec (k := k) (k' := k') (by simpa [exitS] using h)
    exact ⟨by simpa [SI.erase, exitTo] using this.1, fun h => this.2 h.2.2⟩
  | .lp c b J cd :: k, k', h => by
    have := exitS_spec (k := k) (k' := k') (by simpa [exitS] using h)
    exact ⟨by simpa [SI.erase, exitTo] using this.1, fun h => this.2 h.2.2⟩

/-! ### Results -/
def retG (tmps : Array Value) : ResultVar → Sem Value
  | .tmp t => pure (tmps.getD t undef)
  | .cell c t => do loadVar t (← asAddr (tmps.getD c undef))
theorem results_eq (fn : Func) (tmps : Array Value) : results fn tmps = (do let vs ← fn.results.mapM (retG tmps); pure (if h : vs.size = 1 then vs[0] else .tuple vs)) := by
  unfold results
  congr 1
theorem retVals_spec (hs : Sat n e a) : ∀ {rs : List ResultVar} {acc : List Value} {K : List Value → Prop}, retVals P e w rs acc K →
    ∃ vs : List Value, (rs.mapM (retG a.tmps)).run P w = .ok vs w ∧ K (acc.reverse ++ vs)
  | [], acc, K, h => ⟨[], rfl, by simpa [retVals] using h⟩
  | .tmp t :: rs, acc, K, h => by
    unfold retVals at h
    split at h
    · rename_i v hv
      obtain ⟨vs, h1, h2⟩ := retVals_spec hs h
      refine ⟨v :: vs, ?_, by simpa using h2⟩
      have : (retG a.tmps (.tmp t)).run P w = .ok v w := by simp only [retG, hs.2.2 t v hv, Sem.run_pure]
      simp only [List.mapM_cons, Sem.run_bind, Sem.run_pure, Result.andThen_ok, this, h1]
    · exact h.elim
  | .cell c t :: rs, acc, K, h => by
    unfold retVals at h
    split at h
    · rename_i q ty hv ht
      obtain ⟨v, h3, h4⟩ := LdT_spec ht h
      obtain ⟨vs, h1, h2⟩ := retVals_spec hs h4
      refine ⟨v :: vs, ?_, by simpa using h2⟩
      have : (retG a.tmps (.cell c t)).run P w = .ok v w := by simp only [retG, hs.2.2 c _ hv, asAddr, Sem.run_bind, Sem.run_pure, Result.andThen_ok, h3]
      simp only [List.mapM_cons, Sem.run_bind, Sem.run_pure, Result.andThen_ok, this, h1]
    · exact h.elim
theorem vcRet_spec (hs : Sat n e a) (h : vcRet P fn R e w) : ∃ v, (results fn a.tmps).run P w = .ok v w ∧ R (.returned v) w := by
  obtain ⟨vs, h1, h2⟩ := retVals_spec hs h
  refine ⟨_, ?_, h2⟩
  rw [results_eq, Array.mapM_eq_mapM_toList]
  simp only [Sem.run_bind, Sem.run_map, h1, Result.andThen_ok, Sem.run_pure, List.reverse_nil, List.nil_append]
  congr 1
  match vs with
  | [] => simp
  | [v] => simp
  | v :: u :: r => simp

/-! ### The code -/
theorem vc_sound {pl : Plan} (hf : P.funcs[f]? = some fn) (hm : P.follows .mixedOrders = true) : ∀ (fuel : Nat) (k : List SI) (e : Env) (a : Act) (w : World),
    SOK P f R pl.n k e → Sat pl.n e a → vc P fn pl R fuel k e w → Wk P f (SI.erase k) a w R
  | 0, _, _, _, _, _, _, h => h.elim
  | fu + 1, [], e, a, w, hk, hs, h => by
    obtain ⟨v, h1, h2⟩ := vcRet_spec hs h
    exact wk_end hf hs.1 h1 h2
  | fu + 1, .inBlock i :: k, e, a, w, hk, hs, h => wk_inBlock (vc_sound hf hm fu k e a w hk hs h)
  | fu + 1, .join c base J :: k, e, a, w, hk, hs, h => by
    obtain ⟨vs, h1, h2⟩ := leaf_sound hs hk.1 h
    exact hk.2.1 vs w a h2 h1
  | fu + 1, .lp c base J cd :: k, e, a, w, hk, hs, h => by
    obtain ⟨vs, h1, h2⟩ := leaf_sound hs hk.1 h
    exact hk.2.1 vs w a h2 h1
  | fu + 1, .code c :: k, e, a, w, hk, hs, h => by
    have hk' : SOK P f R pl.n k e := hk
    unfold vc at h
    split at h
    · exact wk_skip (vc_sound hf hm fu k e a w hk' hs h)
    · exact wk_label (vc_sound hf hm fu k e a w hk' hs h)
    · -- seq
      rename_i x y
      split at h
      · exact wk_seq (vc_sound hf hm fu (.code x :: .code y :: k) e a w hk' hs h)
      · rename_i cut hcut
        obtain ⟨J, h1, h2⟩ := h
        refine wk_seq (vc_sound hf hm fu (.code x :: .join cut e (atK cut.tys J) :: .code y :: k) e a w ⟨Ext.refl e, fun vs w' a' hs' hj => ?_, hk'⟩ hs h2)
        exact vc_sound hf hm fu (.code y :: k) _ a' w' (SOK.mono (cut.ext vs e) hk') hs' (atK_all h1 hj w' hj)
    · -- cond
      rename_i c t el
      split at h
      · rename_i b hb
        refine wk_cond (hs.ev hb) ?_
        cases b
        · exact vc_sound hf hm fu (.code el :: k) e a w hk' hs h
        · exact vc_sound hf hm fu (.code t :: k) e a w hk' hs h
      · exact h.elim
    · rename_i i c
      exact wk_block (vc_sound hf hm fu (.code c :: .inBlock i :: k) e a w hk' hs h)
    · -- loop
      rename_i c
      split at h
      · exact h.elim
      · rename_i cut hcut
        split at h
        · exact h.elim
        · rename_i vs0 hv0
          obtain ⟨I, m, h1, h2⟩ := h
          have main : ∀ (M : Nat) (vs : List Value) (w' : World) (a' : Act), atM cut.tys m vs w' = M → Sat pl.n (cut.env vs e) a' → atK cut.tys I vs w' → Wk P f (.code c :: .inLoop c :: SI.erase k) a' w' R := by
            intro M
            induction M using Nat.strongRecOn with
            | _ M ih =>
              intro vs w' a' hM hs' hI
              refine vc_sound hf hm fu (.code c :: .lp cut e (fun vs' w'' => atK cut.tys I vs' w'' ∧ atM cut.tys m vs' w'' < atM cut.tys m vs w') c :: k) _ a' w' ⟨cut.ext vs e, fun vs' w'' a'' hs'' hj => ?_, SOK.mono (cut.ext vs e) hk'⟩ hs' (atK_all h2 hI w' hI)
              exact wk_inLoop (ih _ (by rw [← hM]; exact hj.2) vs' w'' a'' rfl hs'' hj.1)
          refine wk_loop (main _ vs0 w a rfl ?_ h1)
          -- the slots at the loop's head
          refine ⟨hs.1, hs.2.1, fun t v ht => hs.2.2 t v ?_⟩
          have hv' : Env.evs e ((cut.sl.map (·.1)).map fun t => .tmp t) = some vs0 := by
            unfold Cut.vals at hv0
            rw [List.map_map]
            exact hv0
          rcases evs_get hv' ht with h3 | ⟨_, h3⟩
          · exact h3
          · exact (hide_get h3).2
    · rename_i i
      split at h
      · rename_i k' hk2
        obtain ⟨h3, h4⟩ := exitS_spec (P := P) (f := f) (R := R) (n := pl.n) (e := e) hk2
        exact wk_exit h3 (vc_sound hf hm fu k' e a w (h4 hk') hs h)
      · exact h.elim
    · obtain ⟨v, h1, h2⟩ := vcRet_spec hs h
      exact wk_ret hf hs.1 h1 h2
    · rename_i id ops draw
      refine wk_of_wp hf (vcRegion_sound hm (fun ch a w hd hr => ⟨hd, hr⟩) (fun w hr => ⟨a, w, hr⟩) (fun c a w d v hq => ?_) hs (fun e' a' w' hx hs' hk2 => ?_) h)
      · refine ⟨?_, hq.2⟩
        have := hq.1
        cases d <;> exact this
      · exact vc_sound hf hm fu k e' a' w' (SOK.mono hx hk') hs' hk2
    · exact h.elim

theorem argEnv_get : ∀ (i : Nat) (vs : List Value) (t : Nat) (v : Value), Env.get (argEnv i vs) t = some v → ∃ j, t = i + j ∧ vs[j]? = some v
  | _, [], _, _, h => by cases h
  | i, u :: vs, t, v, h => by
    simp only [argEnv, get_w] at h
    split at h
    · rename_i hit; subst hit
      exact ⟨0, rfl, by simpa using h⟩
    · obtain ⟨j, h1, h2⟩ := argEnv_get (i + 1) vs t v h
      exact ⟨j + 1, by omega, by simpa using h2⟩
/-- What 'vc' asks is enough for the call. -/
theorem vc_calls {pl : Plan} {args : Array Value} (hf : P.funcs[f]? = some fn) (hm : P.follows .mixedOrders = true) (hb : fn.body.isSome = true) (hn : (Nat.beq pl.n fn.ntmps && Nat.ble args.size fn.ntmps) = true)
    (h : vc P fn pl R 100000 [.code (bodyOf fn)] (argEnv 0 args.toList) w) : Calls P f args w R := by
  rw [Bool.and_eq_true] at hn
  have hn1 : pl.n = fn.ntmps := Nat.eq_of_beq_eq_true hn.1
  have hn2 := Nat.le_of_ble_eq_true hn.2
  have hb' : fn.body = some (bodyOf fn) := by
    unfold bodyOf
    cases hc : fn.body with
    | none => rw [hc] at hb; cases hb
    | some c => rfl
  refine calls_of_wk hf hb' (vc_sound (pl := pl) hf hm 100000 [.code (bodyOf fn)] _ _ w trivial ?_ h)
  refine ⟨rfl, by simp [hn1]; omega, fun t v ht => ?_⟩
  obtain ⟨j, h1, h2⟩ := argEnv_get 0 _ t v ht
  obtain rfl : t = j := by omega
  have h3 : args[t]? = some v := by simpa using h2
  have hlt : t < args.size := (Array.getElem?_eq_some_iff.1 h3).1
  show (args ++ Array.replicate (fn.ntmps - args.size) undef).getD t undef = v
  rw [Array.getD_eq_getD_getElem?, Array.getElem?_append_left hlt, h3]
  rfl
end
end Go.Vc
