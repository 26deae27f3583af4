/- That 'vc' suffices: regions. -/
import Derived.Test.YtkmoeokfgkmlhaaVcSnd7
import Derived.Test.YtkmoeokfgkmlhaaVcHeld
namespace Go.Vc
open Go
set_option linter.unusedSimpArgs false
set_option linter.unusedVariables false
def Ext (e e' : Env) : Prop := ∃ new, e' = new ++ e
theorem Ext.refl (e : Env) : Ext e e := ⟨[], rfl⟩
theorem Ext.cons {e e' : Env} (x : Ent) (h : Ext (x :: e) e') : Ext e e' := by
  obtain ⟨new, rfl⟩ := h
  exact ⟨new ++ [x], by simp⟩
theorem Ext.trans {a b c : Env} (h : Ext a b) (k : Ext b c) : Ext a c := by
  obtain ⟨x, rfl⟩ := h
  obtain ⟨y, rfl⟩ := k
  exact ⟨y ++ x, by simp⟩
theorem Ext.put {e e' : Env} {d : Option Tmp} {v : Value} (h : Ext (e.put d v) e') : Ext e e' := by
  cases d with
  | none => exact h
  | some d => exact Ext.cons _ h
section
variable {P : Program} {n : Nat} {e : Env} {a : Act} {o : Oper} {w : World} {R : Ending → World → Prop} {Q : Exit → Act → World → Prop} {ops : Array Oper} {fl : Flags} {r : Nat}

theorem getD_some {a : Array Value} {d : Nat} {v : Value} (h : a.getD d undef = v) (hv : ∀ x, v ≠ .tuple x) : a[d]? = some v := by
  cases hx : a[d]? with
  | none => rw [Array.getD_eq_getD_getElem?, hx] at h; exact absurd h.symm (hv _)
  | some u => rw [Array.getD_eq_getD_getElem?, hx] at h; simpa using h

theorem guarded_spec {F : Bool → Env → Prop} (hs : Sat n e a) (h : guarded ops o e F) : ∃ b e', Ext e e' ∧ Sat n e' a ∧ Region.wanted o (yielded ops a.tmps) = b ∧ F b e' := by
  unfold guarded at h
  split at h
  · rename_i hg
    exact ⟨true, e, Ext.refl e, hs, by simp [Region.wanted, hg], h⟩
  · rename_i j want hg
    split at h
    · exact h.elim
    · rename_i d hd
      split at h
      · rename_i c hc
        have ht := getD_some (hs.2.2 d _ hc) (by simp)
        have hy : yielded ops a.tmps j = some c := by simp [yielded, hd, ht]
        have hw : Region.wanted o (yielded ops a.tmps) = (c == want) := by
          simp only [Region.wanted, hg, hy]
          cases c <;> cases want <;> rfl
        cases c
        · exact ⟨!want, _, ⟨[_], rfl⟩, hs.guard hc, by rw [hw]; cases want <;> rfl, h⟩
        · exact ⟨want, _, ⟨[_], rfl⟩, hs.guard hc, by rw [hw]; cases want <;> rfl, h⟩
      · rename_i x hc
        have ht := hs.2.2 d _ hc
        have hy : yielded ops a.tmps j = none := by
          simp only [yielded, hd, Option.bind_some]
          cases hx : a.tmps[d]? with
          | none => rfl
          | some u =>
            rw [Array.getD_eq_getD_getElem?, hx] at ht
            obtain rfl : u = .tuple x := by simpa using ht
            rfl
        exact ⟨false, e, Ext.refl e, hs, by simp only [Region.wanted, hg, hy]; cases want <;> rfl, h⟩
      · exact h.elim

theorem vcOps_sound {K : Env → World → Prop} (hP : ∀ ch a w, a.defers = [] → R (.panicked ch) w → Q (.panic ch) a w) (hO : ∀ w, R .outgrown w → LetsOut Q) :
    ∀ (l : List Oper) (i : Nat) (e : Env) (a : Act) (w : World), (∀ j, l[j]? = ops[i + j]?) → Sat n e a → (∀ e' a' w', Ext e e' → Sat n e' a' → K e' w' → Q .normal a' w') →
      vcOps P R fl n r ops l i e w K → wpOps P ops Q (List.range' i l.length) a w
  | [], i, e, a, w, _, hs, hN, h => hN e a w (Ext.refl e) hs h
  | o :: l, i, e, a, w, hl, hs, hN, h => by
    have h0 : ops[i]? = some o := by simpa using (hl 0).symm
    have hl' : ∀ j, l[j]? = ops[i + 1 + j]? := fun j => by
      have := hl (j + 1); simpa [Nat.add_assoc, Nat.add_comm 1 j] using this
    simp only [List.length_cons, List.range'_succ]
    rw [wpOps_cons]
    unfold wpOp
    simp only [h0]
    unfold vcOps at h
    split at h
    · exact h.elim
    · rename_i hd
      obtain ⟨b, e1, hx, hs1, hw, h1⟩ := guarded_spec hs h
      cases b
      · simp only [hw, Bool.false_eq_true, if_false]
        exact vcOps_sound hP hO l (i + 1) _ _ w hl' (hs1.put hd undef) (fun e' a' w' h2 => hN e' a' w' (hx.trans h2.put)) h1
      · simp only [hw, if_true]
        refine .inl (vcOp_sound hs1 (K := fun v w' => vcOps P R fl n r ops l (i + 1) (e1.put o.dst v) w' K) (fun v w' hk => ?_) (fun ch w' hr => hP ch a w' hs.1 hr) hO h1)
        exact vcOps_sound hP hO l (i + 1) _ _ w' hl' (hs1.put hd v) (fun e' a' w' h2 => hN e' a' w' (hx.trans h2.put)) hk

theorem vcFree_sound {K : Value → Prop} {ex : Bool} {M : Option (World → Prop)} {S : World → Prop} (hs : Sat n e a) (hM : M = none → ∀ w', S w' → w' = w) (hS : ∀ S', M = some S' → S = S') (h : vcFree P ex o e M w K) :
    ∃ v, (∀ w', S w' → (execOp a.eval o).run P w' = .ok (.value v) w') ∧ K v := by
  unfold vcFree at h
  split at h
  · rename_i t x ho
    split at h
    · rename_i q ty hx ht
      split at h
      · obtain ⟨v, h1, h2⟩ := LdT_spec ht h
        exact ⟨v, fun w' hw' => by rw [hM rfl w' hw']; simp [execOp, ho, hs.ev hx, Instr.loadAt, Instr.sureAddr, h1], h2⟩
      · rename_i S'
        obtain ⟨v, h1, h2⟩ := HdT_spec ht h
        exact ⟨v, fun w' hw' => by simp [execOp, ho, hs.ev hx, Instr.loadAt, Instr.sureAddr, h1 w' (hS S' rfl ▸ hw')], h2⟩
    · exact h.elim
  · obtain ⟨v, h1, h2⟩ := vcPure_sound hs h
    exact ⟨v, fun w' _ => h1 w', h2⟩
theorem allP_spec : ∀ {l : List Prop}, allP l → ∀ p ∈ l, p
  | [], _, p, hp => by cases hp
  | [q], h, p, hp => by
    obtain rfl : p = q := by simpa using hp
    exact h
  | q :: q' :: l, h, p, hp => by
    rcases List.mem_cons.1 hp with rfl | hp
    · exact h.1
    · exact allP_spec h.2 p hp

theorem vcFree_pure {K : Value → Prop} {ex : Bool} {M : Option (World → Prop)} (hs : Sat n e a) (hL : isLoad o = false) (h : vcFree P ex o e M w K) :
    ∃ v, (∀ w', (execOp a.eval o).run P w' = .ok (.value v) w') ∧ K v := by
  unfold vcFree at h
  unfold isLoad at hL
  split at h
  · rename_i t x ho
    rw [ho] at hL
    cases hL
  · obtain ⟨v, h1, h2⟩ := vcPure_sound hs h
    exact ⟨v, fun w' => h1 w', h2⟩
theorem vcDraw_sound {K : Env → World → Prop} {M : Option (World → Prop)} {S : World → Prop} (hsel : Region.noSelect ops = true)
    (hP : ∀ ch a w, a.defers = [] → R (.panicked ch) w → Q (.panic ch) a w) (hO : ∀ w, R .outgrown w → LetsOut Q) (hQ : ∀ c a w d v, Q (.panic c) (Act.put a d v) w → Q (.panic c) a w)
    (hS : ∀ S', M = some S' → S = S') :
    ∀ (f : Nat) (l : Array Bool) (e : Env) (a : Act) (w : World), Shut ops l → (M = none → ∀ w', S w' → w' = w) → (late ops l = false → S w) → Sat n e a → (∀ e' a' w', Ext e e' → Sat n e' a' → K e' w' → Q .normal a' w') →
      vcDraw P R fl n r ops M f l e w K → Turns P ops Q S f l a w
  | 0, l, e, a, w, hc, hM, hw, hs, hN, h => by
    unfold vcDraw at h
    split at h
    · rename_i hr; exact Turns.done hr (hN e a w (Ext.refl e) hs h) 0
    · exact h.elim
  | f + 1, l, e, a, w, hc, hM, hw, hs, hN, h => by
    unfold vcDraw at h
    simp only [] at h
    split at h
    · rename_i i hi
      split at h
      · rename_i o ho hfr
        split at h
        · exact h.elim
        · rename_i hd
          have hrd : (Region.ready .any ops l).contains i = true := by simpa using List.mem_of_find?_eq_some hi
          have hisf : isFree o = true := by have := List.find?_some hi; simpa [ho] using this
          have hc' : Shut ops (l.setIfInBounds i true) := hc.set (List.mem_of_find?_eq_some hi)
          have hw' : late ops (l.setIfInBounds i true) = false → S w := fun hl => hw (by rwa [late_free ho hisf] at hl)
          obtain ⟨b, e1, hx, hs1, hwn, h1⟩ := guarded_spec hs h
          cases b
          · exact Turns.take ho hsel hfr hrd hc hisf (S0 := fun _ => True) (.inr fun _ => trivial) (fun c a w => hQ c a w _ _) (v := undef) (.inr ⟨hwn, rfl⟩) hw
              (vcDraw_sound hsel hP hO hQ hS f _ _ _ w hc' hM hw' (hs1.put hd undef) (fun e' a' w' h2 => hN e' a' w' (hx.trans h2.put)) h1)
          · cases hL : isLoad o
            · obtain ⟨v, h2, h3⟩ := vcFree_pure hs1 hL h1
              exact Turns.take ho hsel hfr hrd hc hisf (S0 := fun _ => True) (.inr fun _ => trivial) (fun c a w => hQ c a w _ _) (v := v) (.inl ⟨hwn, fun w' _ => h2 w'⟩) hw
                (vcDraw_sound hsel hP hO hQ hS f _ _ _ w hc' hM hw' (hs1.put hd v) (fun e' a' w' h2 => hN e' a' w' (hx.trans h2.put)) h3)
            · obtain ⟨v, h2, h3⟩ := vcFree_sound hs1 hM hS h1
              exact Turns.take ho hsel hfr hrd hc hisf (S0 := S) (.inl ⟨rfl, hL⟩) (fun c a w => hQ c a w _ _) (v := v) (.inl ⟨hwn, h2⟩) hw
                (vcDraw_sound hsel hP hO hQ hS f _ _ _ w hc' hM hw' (hs1.put hd v) (fun e' a' w' h2 => hN e' a' w' (hx.trans h2.put)) h3)
      · exact h.elim
    · split at h
      · rename_i hr; exact Turns.done hr (hN e a w (Ext.refl e) hs h) _
      · rename_i hne
        split at h
        · exact h.elim
        · rename_i S'
          obtain rfl := hS S' rfl
          refine Turns.all rfl (fun hc => hne hc) fun i hi => ?_
          have hc' : Shut ops (l.setIfInBounds i true) := hc.set hi
          have hp := allP_spec h _ (List.mem_map.2 ⟨i, hi, rfl⟩)
          unfold wpOp
          split at hp
          · exact hp.elim
          · rename_i o ho
            simp only [ho]
            split at hp
            · exact hp.elim
            · rename_i hd
              obtain ⟨b, e1, hx, hs1, hwn, h1⟩ := guarded_spec hs hp
              cases b
              · simp only [hwn, Bool.false_eq_true, if_false]
                have hw' : late ops (l.setIfInBounds i true) = false → S w := fun hl => hw (by
                  refine Bool.eq_false_iff.2 fun h2 => ?_
                  rw [late_mono h2] at hl
                  cases hl)
                exact ⟨hw', vcDraw_sound hsel hP hO hQ hS f _ _ _ w hc' hM hw' (hs1.put hd undef) (fun e' a' w' h2 => hN e' a' w' (hx.trans h2.put)) h1⟩
              · simp only [hwn, if_true]
                refine .inl (vcOp_sound hs1 (K := fun v w' => Unl (late ops (l.setIfInBounds i true)) (S w') (vcDraw P R fl n r ops (some S) f (l.setIfInBounds i true) (e1.put o.dst v) w' K)) (fun v w' hk => ?_) (fun ch w' hr => hP ch a w' hs.1 hr) hO h1)
                have hk2 : (late ops (l.setIfInBounds i true) = false → S w') ∧ vcDraw P R fl n r ops (some S) f (l.setIfInBounds i true) (e1.put o.dst v) w' K := by
                  cases hl : late ops (l.setIfInBounds i true)
                  · rw [hl] at hk; exact ⟨fun _ => hk.1, hk.2⟩
                  · rw [hl] at hk; exact ⟨(fun h => by cases h), hk⟩
                exact ⟨hk2.1, vcDraw_sound hsel hP hO hQ hS f _ _ _ w' hc' (fun hc => by cases hc) hk2.1 (hs1.put hd v) (fun e' a' w' h2 => hN e' a' w' (hx.trans h2.put)) hk2.2⟩

theorem vcRegion_sound {K : Env → World → Prop} {draw : Bool} {id : Nat} (hm : P.follows .mixedOrders = true)
    (hP : ∀ ch a w, a.defers = [] → R (.panicked ch) w → Q (.panic ch) a w) (hO : ∀ w, R .outgrown w → LetsOut Q) (hQ : ∀ c a w d v, Q (.panic c) (Act.put a d v) w → Q (.panic c) a w)
    (hs : Sat n e a) (hN : ∀ e' a' w', Ext e e' → Sat n e' a' → K e' w' → Q .normal a' w') (h : vcRegion P R fl n r ops draw e w K) : (Code.region id ops draw).wp P Q a w := by
  unfold vcRegion at h
  split at h
  · refine wp_region ?_
    have := vcOps_sound (P := P) (fl := fl) (r := r) hP hO ops.toList 0 e a w (fun j => by simp) hs hN h
    simpa [List.range_eq_range'] using this
  · split at h
    · exact h.elim
    · rename_i hsel
      split at h
      · exact wp_region_any hm (Turns.any (S := fun w' => w' = w.drew) _ _ _ _ (vcDraw_sound hsel hP hO hQ (fun S' hS' => by cases hS') _ _ e a _ (Shut.start _) (fun _ _ h => h) (fun _ => rfl) hs hN h))
      · obtain ⟨S, h1, h2⟩ := h
        exact wp_region_any hm (Turns.any (S := S) _ _ _ _ (vcDraw_sound hsel hP hO hQ (fun S' hS' => by cases hS'; rfl) _ _ e a _ (Shut.start _) (fun hc => by cases hc) (fun _ => h1) hs hN h2))
end
end Go.Vc
