/- A region in whatever order, where loads are taken first: a class of worlds is asked for as long as a load may be to come. -/
import Derived.Test.YtkmoeokfgkmlhaaVcDef
namespace Go.Vc
open Go
set_option linter.unusedSimpArgs false
section
variable {P : Program} {ops : Array Oper} {Q : Exit → Act → World → Prop} {S : World → Prop}
/-- With each its fore-runners are listed. -/
def Shut (ops : Array Oper) (l : Array Bool) : Prop := ∀ (k : Nat) o, ops[k]? = some o → l.getD k false = true → ∀ e ∈ o.after, Region.binds .any e = true → l.getD e.on false = true
theorem Shut.start (n : Nat) : Shut ops (Array.replicate n false) := fun k o _ h => by
  rcases Nat.lt_or_ge k n with hk | hk <;> simp [hk] at h
theorem listed_set {l : Array Bool} {i k : Nat} (h : (l.setIfInBounds i true).getD k false = true) : k = i ∨ l.getD k false = true := by
  by_cases hk : i = k
  · exact .inl hk.symm
  · rw [getD_set_ne false hk] at h; exact .inr h
theorem Shut.set {l : Array Bool} (h : Shut ops l) {i : Nat} (hi : i ∈ Region.ready .any ops l) : Shut ops (l.setIfInBounds i true) := by
  obtain ⟨_, o, ho, hall⟩ := mem_ready.1 hi
  intro k o' hk hl e he hb
  refine getD_set_true ?_
  rcases listed_set hl with rfl | hl
  · obtain rfl : o = o' := Option.some.inj (ho.symm.trans hk)
    exact hall e he hb
  · exact h k o' hk hl e he hb
inductive Lead (ops : Array Oper) (m : Nat) : Nat → Prop
  | self : Lead ops m m
  | step {k : Nat} {o : Oper} {e : Edge} : Lead ops m k → ops[k]? = some o → e ∈ o.after → Region.binds .any e = true → Lead ops m e.on
theorem markB_lead {m k : Nat} {acc : Array Bool} (h : ∀ i, acc.getD i false = true → Lead ops m i) : ∀ i, (markB ops k acc).getD i false = true → Lead ops m i := by
  unfold markB
  split
  · rename_i hk
    split
    · rename_i o ho
      have : ∀ (es : List Edge), (∀ e ∈ es, e ∈ o.after) → ∀ acc : Array Bool, (∀ i, acc.getD i false = true → Lead ops m i) →
          ∀ i, (es.foldl (fun acc e => match Region.binds .any e with | true => acc.setIfInBounds e.on true | false => acc) acc).getD i false = true → Lead ops m i := by
        intro es
        induction es with
        | nil => intro _ acc ha; exact ha
        | cons e es ih =>
          intro hes acc ha
          refine ih (fun e' he' => hes e' (List.mem_cons_of_mem _ he')) _ ?_
          intro i hi
          dsimp only at hi
          split at hi
          · rename_i hb
            rcases listed_set hi with rfl | hi
            · exact .step (h k hk) ho (hes e (by simp)) hb
            · exact ha i hi
          · exact ha i hi
      exact this o.after.toList (fun e he => by simpa using he) acc h
    · exact h
  · exact h
theorem marks_lead {m i : Nat} (h : (marks ops m).getD i false = true) : Lead ops m i := by
  unfold marks at h
  have : ∀ (l : List Nat) (acc : Array Bool), (∀ i, acc.getD i false = true → Lead ops m i) → ∀ i, (l.foldr (markB ops) acc).getD i false = true → Lead ops m i := by
    intro l acc ha
    induction l with
    | nil => exact ha
    | cons k l ih => exact markB_lead ih
  refine this _ _ (fun j hj => ?_) i h
  rcases listed_set hj with rfl | hj
  · exact .self
  · rcases Nat.lt_or_ge j ops.size with hk | hk <;> simp [hk] at hj
theorem Shut.lead {l : Array Bool} (h : Shut ops l) {m i : Nat} (hm : l.getD m false = true) (hl : Lead ops m i) : l.getD i false = true := by
  induction hl with
  | self => exact hm
  | step _ ho he hb ih => exact h _ _ ho ih _ he hb
theorem late_spec {l : Array Bool} (h : late ops l = true) (hc : Shut ops l) {i : Nat} {oi : Oper} (hi : ops[i]? = some oi) (hL : isLoad oi = true) : l.getD i false = true := by
  obtain ⟨m, _, hm⟩ := List.any_eq_true.1 h
  rw [Bool.and_eq_true] at hm
  cases ho : ops[m]? with
  | none => rw [ho] at hm; cases hm.2
  | some o =>
    rw [ho] at hm
    simp only [Bool.and_eq_true, Bool.not_eq_true'] at hm
    have h2 := List.all_eq_true.1 hm.2.2 i (List.mem_range.2 (Array.getElem?_eq_some_iff.1 hi).1)
    rw [hi] at h2
    simp only [hL, Bool.not_true, Bool.false_or] at h2
    exact hc.lead hm.1 (marks_lead h2)
theorem late_free {l : Array Bool} {i : Nat} {oi : Oper} (hi : ops[i]? = some oi) (hf : isFree oi = true) : late ops (l.setIfInBounds i true) = late ops l := by
  unfold late
  congr 1
  funext m
  by_cases h : i = m
  · subst h; simp [hi, hf]
  · rw [getD_set_ne false h]
theorem late_mono {l : Array Bool} {i : Nat} (h : late ops l = true) : late ops (l.setIfInBounds i true) = true := by
  obtain ⟨m, hm0, hm⟩ := List.any_eq_true.1 h
  rw [Bool.and_eq_true] at hm
  exact List.any_eq_true.2 ⟨m, hm0, by rw [Bool.and_eq_true]; exact ⟨getD_set_true hm.1, hm.2⟩⟩
/-- Whichever order is picked from here on: S holds behind each operation, until no load can be to come. -/
def Turns (P : Program) (ops : Array Oper) (Q : Exit → Act → World → Prop) (S : World → Prop) : Nat → Array Bool → Act → World → Prop
  | 0, l, a, w => Region.ready .any ops l = [] ∧ Q .normal a w
  | n + 1, l, a, w => (Region.ready .any ops l = [] → Q .normal a w) ∧
    ∀ i ∈ Region.ready .any ops l, wpOp P ops Q i (fun a' w' => (late ops (l.setIfInBounds i true) = false → S w') ∧ Turns P ops Q S n (l.setIfInBounds i true) a' w') a w
theorem Turns.any : ∀ (n : Nat) (l : Array Bool) (a : Act) (w : World), Turns P ops Q S n l a w → wpAny P .any ops Q n l a w
  | 0, _, _, _, h => h
  | n + 1, _, _, _, h => ⟨h.1, fun i hi => wpOp_mono (fun a' w' h' => Turns.any n _ a' w' h'.2) (h.2 i hi)⟩
/-- A free operation may be taken first. -/
theorem Turns.first {S0 : World → Prop} {i : Nat} {oi : Oper} {v : Value} (hi : ops[i]? = some oi) (hsel : ∀ (j : Nat) (o : Oper) cs b, ops[j]? = some o → o.op ≠ .select cs b)
    (hQ : ∀ c a w, Q (.panic c) (a.put oi.dst v) w → Q (.panic c) a w) (hfr : isFree oi = true) (hS0 : (S0 = S ∧ isLoad oi = true) ∨ ∀ w, S0 w) :
    ∀ (n : Nat) (l : Array Bool) (a : Act) (w : World), Shut ops l →
      (∀ j oj, ops[j]? = some oj → j ≠ i → l.getD j true = false → (∀ e ∈ oj.after, Region.binds .any e = true → e.on ≠ i) → oi.apart ops oj = true) →
      i ∈ Region.ready .any ops l → YieldsIf P ops S0 oi v a → S0 w → (late ops l = false → S w) →
      Turns P ops Q S n (l.setIfInBounds i true) (a.put oi.dst v) w → Turns P ops Q S (n + 1) l a w := by
  have hpend : ∀ l : Array Bool, i ∈ Region.ready .any ops l → l.getD i false = false := fun l h => by
    have := (mem_ready.1 h).1
    rcases Nat.lt_or_ge i l.size with h' | h'
    · simp [h'] at this ⊢; exact this
    · simp [Array.getElem?_eq_none h']
  intro n
  induction n with
  | zero =>
    intro l a w hc _ hr hy h0 hS H
    refine ⟨fun h => (by rw [h] at hr; cases hr), fun j hj => ?_⟩
    rcases Decidable.em (j = i) with rfl | hji
    · exact hy.wpOp hi h0 ⟨fun hl => hS (by rwa [late_free hi hfr] at hl), H⟩
    · have := ready_mono hj hji
      rw [H.1] at this
      cases this
  | succ n ih =>
    intro l a w hc hap hr hy h0 hS H
    refine ⟨fun h => (by rw [h] at hr; cases hr), fun j hj => ?_⟩
    rcases Decidable.em (j = i) with rfl | hji
    · exact hy.wpOp hi h0 ⟨fun hl => hS (by rwa [late_free hi hfr] at hl), H⟩
    obtain ⟨hjun, oj, hoj, hall⟩ := mem_ready.1 hj
    have hno : ∀ e ∈ oj.after, Region.binds .any e = true → e.on ≠ i := fun e he hb heq => by
      have h1 := hall e he hb
      rw [heq, hpend l hr] at h1
      cases h1
    have h2 := wpOp_putIf hoj (hap j oj hoj hji hjun hno) (fun cs b => hsel i oi cs b hi) (fun cs b => hsel j oj cs b hoj) hQ hy (H.2 j (ready_mono hj hji))
    have hr' : i ∈ Region.ready .any ops (l.setIfInBounds j true) := ready_mono hr (Ne.symm hji)
    have hc' := hc.set hj
    have hlt : late ops ((l.setIfInBounds i true).setIfInBounds j true) = late ops (l.setIfInBounds j true) := by rw [Array.setIfInBounds_comm _ _ (Ne.symm hji), late_free hi hfr]
    refine wpOp_mono (fun a' w' h3 => ?_) h2
    obtain ⟨h4, h5, h6⟩ := h3
    rw [hlt] at h5
    refine ⟨h5, ih _ a' w' hc' (fun k ok hk hki hun hn => ?_) hr' h4 ?_ h5 ?_⟩
    · refine hap k ok hk hki ?_ hn
      rcases Decidable.em (j = k) with rfl | hjk
      · exact hjun
      · rwa [getD_set_ne true hjk] at hun
    · rcases hS0 with ⟨rfl, hL⟩ | h
      · refine h5 (Bool.eq_false_iff.2 fun hl => ?_)
        have := late_spec hl hc' hi hL
        rw [hpend _ hr'] at this
        cases this
      · exact h w'
    · rwa [Array.setIfInBounds_comm _ _ hji]
theorem Turns.take {S0 : World → Prop} {i : Nat} {oi : Oper} {v : Value} {n : Nat} {l : Array Bool} {a : Act} {w : World} (hi : ops[i]? = some oi)
    (hs : Region.noSelect ops = true) (hf : Region.free .any ops l i = true) (hr : (Region.ready .any ops l).contains i = true) (hc : Shut ops l) (hfr : isFree oi = true) (hS0 : (S0 = S ∧ isLoad oi = true) ∨ ∀ w, S0 w)
    (hQ : ∀ c a w, Q (.panic c) (a.put oi.dst v) w → Q (.panic c) a w) (hy : YieldsIf P ops S0 oi v a) (hS : late ops l = false → S w)
    (h : Turns P ops Q S n (l.setIfInBounds i true) (a.put oi.dst v) w) : Turns P ops Q S (n + 1) l a w := by
  have hr2 : i ∈ Region.ready .any ops l := by simpa using hr
  refine Turns.first hi (Region.noSelect_spec hs) hQ hfr hS0 n l a w hc (Region.free_spec hi hf) hr2 hy ?_ hS h
  rcases hS0 with ⟨rfl, hL⟩ | h
  · refine hS (Bool.eq_false_iff.2 fun hl => ?_)
    have h1 := late_spec hl hc hi hL
    have h2 := (mem_ready.1 hr2).1
    rcases Nat.lt_or_ge i l.size with h' | h'
    · simp [h'] at h1 h2; rw [h1] at h2; cases h2
    · simp [Array.getElem?_eq_none h'] at h1
  · exact h w
theorem Turns.all {rs : List Nat} {n : Nat} {l : Array Bool} {a : Act} {w : World} (hr : Region.ready .any ops l = rs) (hne : rs ≠ [])
    (h : ∀ i ∈ rs, wpOp P ops Q i (fun a' w' => (late ops (l.setIfInBounds i true) = false → S w') ∧ Turns P ops Q S n (l.setIfInBounds i true) a' w') a w) : Turns P ops Q S (n + 1) l a w :=
  ⟨fun h0 => absurd (hr ▸ h0) hne, hr ▸ h⟩
theorem Turns.done {l : Array Bool} {a : Act} {w : World} (hr : Region.ready .any ops l = []) (h : Q .normal a w) : ∀ n, Turns P ops Q S n l a w
  | 0 => ⟨hr, h⟩
  | _ + 1 => ⟨fun _ => h, by rw [hr]; simp⟩
end
end Go.Vc
