/- That 'vc' suffices: loads, stores, calls. -/
import Derived.Test.YtkmoeokfgkmlhaaVcSnd5
import Derived.Laws.Cells
namespace Go.Vc
open Go
set_option linter.unusedSimpArgs false
set_option linter.unusedVariables false
section
variable {P : Program} {n : Nat} {e : Env} {a : Act} {o : Oper} {w : World}

theorem LdS_spec {t : STy} {c : Option Value} {K : Value → Prop} (h : LdS t c K) : ∃ v, c = some v ∧ K v := by
  cases t <;> simp only [LdS, LdI, LdB, LdStr, LdP, LdSl, LdM, LdV] at h
  all_goals first
    | (obtain ⟨x, h1, h2⟩ := h; exact ⟨_, h1, h2⟩)
    | (obtain ⟨x, y, z, h1, h2⟩ := h; exact ⟨_, h1, h2⟩)
theorem sex_spec {t : STy} {K : Value → Prop} (h : t.ex K) : ∃ v, K v := by
  cases t <;> simp only [STy.ex] at h
  all_goals first
    | (obtain ⟨x, h1⟩ := h; exact ⟨_, h1⟩)
    | (obtain ⟨x, y, z, h1⟩ := h; exact ⟨_, h1⟩)
theorem sexs_spec : ∀ {ts : List STy} {K : List Value → Prop}, STys.ex ts K → ∃ v, K v
  | [], _, h => ⟨_, h⟩
  | t :: ts, K, h => by
    obtain ⟨v, hv⟩ := sex_spec h
    obtain ⟨vs, hvs⟩ := sexs_spec hv
    exact ⟨_, hvs⟩
theorem tex_spec {t : Ty} {K : Value → Prop} (h : t.ex K) : ∃ v, K v := by
  cases t with
  | s t => exact sex_spec h
  | agg ts => obtain ⟨vs, h⟩ := sexs_spec h; exact ⟨_, h⟩
theorem texs_spec : ∀ {ts : List Ty} {K : List Value → Prop}, Tys.ex ts K → ∃ v, K v
  | [], _, h => ⟨_, h⟩
  | t :: ts, K, h => by
    obtain ⟨v, hv⟩ := tex_spec h
    obtain ⟨vs, hvs⟩ := texs_spec hv
    exact ⟨_, hvs⟩
theorem HdS_spec {t : STy} {S : World → Prop} {q : Addr} {K : Value → Prop} (h : HdS t S q K) : ∃ v, Held S q v ∧ K v := sex_spec h
theorem LdCells_spec {q : Addr} : ∀ {ts : List STy} {i : Nat} {acc : List Value} {K : List Value → Prop}, LdCells w q ts i acc K →
    ∃ vs : List Value, vs.length = ts.length ∧ (∀ (j : Nat) v, vs[j]? = some v → w.cell? (q.add (i + j)) = some v) ∧ K (acc.reverse ++ vs)
  | [], i, acc, K, h => ⟨[], rfl, by simp, by simpa [LdCells] using h⟩
  | t :: ts, i, acc, K, h => by
    obtain ⟨v, h1, h2⟩ := LdS_spec h
    obtain ⟨vs, h3, h4, h5⟩ := LdCells_spec h2
    refine ⟨v :: vs, by simp [h3], fun j u hj => ?_, by simpa using h5⟩
    cases j with
    | zero => obtain rfl : v = u := by simpa using hj
              exact h1
    | succ j => 
      have := h4 j u (by simpa using hj)
      rwa [show i + (j + 1) = i + 1 + j by omega]
theorem HdCells_spec {S : World → Prop} {q : Addr} : ∀ {ts : List STy} {i : Nat} {acc : List Value} {K : List Value → Prop}, HdCells S q ts i acc K →
    ∃ vs : List Value, vs.length = ts.length ∧ (∀ (j : Nat) v, vs[j]? = some v → Held S (q.add (i + j)) v) ∧ K (acc.reverse ++ vs)
  | [], i, acc, K, h => ⟨[], rfl, by simp, by simpa [HdCells] using h⟩
  | t :: ts, i, acc, K, h => by
    obtain ⟨v, h1, h2⟩ := HdS_spec h
    obtain ⟨vs, h3, h4, h5⟩ := HdCells_spec h2
    refine ⟨v :: vs, by simp [h3], fun j u hj => ?_, by simpa using h5⟩
    cases j with
    | zero => obtain rfl : v = u := by simpa using hj
              exact h1
    | succ j => 
      have := h4 j u (by simpa using hj)
      rwa [show i + (j + 1) = i + 1 + j by omega]
theorem tyOf_spec {t : TypeId} {ty : Ty} (h : tyOf P t = some ty) : (∃ d, P.underlying t = some d) ∧
    ((∃ s, ty = .s s ∧ isAggT P t = false) ∨ ∃ ts, ty = .agg ts ∧ isAggT P t = true ∧ sizeT P t = some ts.length) := by
  unfold tyOf at h
  split at h
  · rename_i ha
    split at h
    · rename_i l m hl hm
      split at h
      · rename_i hb
        obtain rfl := Option.some.inj h
        refine ⟨?_, .inr ⟨l, rfl, ha, by rw [hm, Nat.eq_of_beq_eq_true hb]⟩⟩
        unfold isAggT at ha
        cases hu : P.underlying t with
        | none => rw [hu] at ha; cases ha
        | some d => exact ⟨d, rfl⟩
      · cases h
    · cases h
  · rename_i ha
    split at h
    · rename_i s hs
      obtain rfl := Option.some.inj h
      refine ⟨?_, .inl ⟨s, rfl, ha⟩⟩
      unfold styOf at hs
      cases hu : P.underlying t with
      | none => rw [hu] at hs; cases hs
      | some d => exact ⟨d, rfl⟩
    · cases h
theorem run_load1 {q : Addr} {v : Value} (h : w.cell? q = some v) : (load q).run P w = .ok v w := by simp [h]
theorem LdT_spec {t : TypeId} {ty : Ty} (ht : tyOf P t = some ty) {q : Addr} {K : Value → Prop} (h : LdT ty w q K) : ∃ v, (loadVar t q).run P w = .ok v w ∧ K v := by
  obtain ⟨⟨d, hu⟩, ⟨s, rfl, ha⟩ | ⟨ts, rfl, ha, hz⟩⟩ := tyOf_spec ht
  · obtain ⟨v, h1, h2⟩ := LdS_spec h
    exact ⟨v, by unfold loadVar; simp [Sem.run_bind, isAgg_run hu, ha, h1], h2⟩
  · obtain ⟨vs, h1, h2, h3⟩ := LdCells_spec h
    refine ⟨_, ?_, h3⟩
    have := run_loadCells_list (P := P) w q vs (fun j v hj => by have := h2 j v hj; rwa [Nat.zero_add] at this)
    unfold loadVar
    simp only [Sem.run_bind, isAgg_run hu, ha, Result.andThen_ok, if_true, run_size hz, ← h1, this]
    simp
theorem HdT_spec {t : TypeId} {ty : Ty} (ht : tyOf P t = some ty) {S : World → Prop} {q : Addr} {K : Value → Prop} (h : HdT ty S q K) : ∃ v, (∀ w, S w → (loadVar t q).run P w = .ok v w) ∧ K v := by
  obtain ⟨⟨d, hu⟩, ⟨s, rfl, ha⟩ | ⟨ts, rfl, ha, hz⟩⟩ := tyOf_spec ht
  · obtain ⟨v, h1, h2⟩ := HdS_spec h
    exact ⟨v, fun w hw => by unfold loadVar; simp [Sem.run_bind, isAgg_run hu, ha, h1 w hw], h2⟩
  · obtain ⟨vs, h1, h2, h3⟩ := HdCells_spec h
    refine ⟨_, fun w hw => ?_, h3⟩
    have := run_loadCells_list (P := P) w q vs (fun j v hj => by have := h2 j v hj; rw [Nat.zero_add] at this; exact this w hw)
    unfold loadVar
    simp only [Sem.run_bind, isAgg_run hu, ha, Result.andThen_ok, if_true, run_size hz, ← h1, this]
    simp
theorem oneC_spec {v : Value} {X : Prop} (h : oneC v X) : v.oneCell' = true ∧ X := by
  unfold oneC at h
  split at h
  · exact h.elim
  · exact h.elim
  · rename_i n1 n2
    refine ⟨?_, h⟩
    cases v <;> first | rfl | exact absurd rfl (n1 _) | exact absurd rfl (n2 _)
theorem StCells_spec {q : Addr} : ∀ {vs : List Value} {w : World} {i : Nat} {K : World → Prop}, StCells q w vs i K → ∃ w', (storeCells q vs i).run P w = .ok () w' ∧ K w'
  | [], w, i, K, h => ⟨w, rfl, h⟩
  | v :: vs, w, i, K, h => by
    obtain ⟨h1, ⟨old, h2⟩, h3, h4⟩ := oneC_spec h
    obtain ⟨w', h5, h6⟩ := StCells_spec h4
    refine ⟨w', ?_, h6⟩
    unfold storeCells
    simp only [Sem.run_bind, run_store P w _ _ _ h1, h2, h3, Result.andThen_ok]
    simpa using h5
theorem tupK_spec {t : TypeId} {K K' : Value → World → Prop} (h : tupK P t K = some K') {v : Value} (hv : K' v w) : K v w := by
  unfold tupK at h
  split at h
  · split at h
    · obtain rfl := Option.some.inj h
      obtain ⟨vs, rfl, h2⟩ := texs_spec hv
      exact h2
    · cases h
  · split at h
    · obtain rfl := Option.some.inj h
      obtain ⟨u, rfl, h2⟩ := tex_spec hv
      exact h2
    · cases h
theorem rawK_spec {t : TypeId} {s : Sem Value} {K : Value → World → Prop} (h : rawK P t s w K) : ∃ v w', s.run P w = .ok v w' ∧ K v w' := by
  unfold rawK at h
  split at h
  · rename_i K' hK
    obtain ⟨v, w', h1, h2⟩ := h
    exact ⟨v, w', h1, tupK_spec hK h2⟩
  · exact h.elim
end
end Go.Vc
