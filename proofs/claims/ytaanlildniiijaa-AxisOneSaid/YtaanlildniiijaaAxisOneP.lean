/- Of spans that Check lets by: any two lie in one of five ways; plain lists. -/
import Derived.Test.YtaanlildniiijaaAxisChk
namespace Go.Proofs.Ytaanlildniiijaa
/-- The first one stands ahead: around the second one, or wholly ahead of it. -/
def Rel (a b : Sp) : Prop := a.b < b.b ∧ (b.e < a.e ∨ a.e < b.b)
def VSp (a : Sp) : Prop := a.b < a.e
theorem VSp_of {x : Sp} (h : canB x = true) : VSp x := by simp [canB] at h; unfold VSp; omega
/-- What is known of those that were gone through, with the open ones on the stack. -/
structure InvC (done st : List Sp) (m : Int) : Prop where
  all : ∀ a ∈ done, a.b ≤ m ∧ VSp a ∧ (a ∈ st ∨ a.e < m)
  nest : st.Pairwise (fun t u => t.e < u.e)
theorem popS_spec (x : Sp) : ∀ st : List Sp, st.Pairwise (fun t u => t.e < u.e) → (popS x st).Pairwise (fun t u => t.e < u.e) ∧ (∀ a ∈ st, a ∈ popS x st ∨ a.e < x.b)
  | [], _ => by simp [popS]
  | t :: r, h => by
    rw [popS_cons]
    split
    · rename_i ht
      obtain ⟨h1, h2⟩ := popS_spec x r (List.pairwise_cons.1 h).2
      refine ⟨h1, fun a ha => ?_⟩
      rcases List.mem_cons.1 ha with rfl | ha
      · exact .inr ht
      · exact h2 a ha
    · exact ⟨h, fun a ha => .inl ha⟩
theorem popS_mem (x : Sp) : ∀ st : List Sp, ∀ a ∈ popS x st, a ∈ st
  | [], a, h => by simp [popS] at h
  | t :: r, a, h => by
    rw [popS_cons] at h
    split at h
    · exact List.mem_cons_of_mem _ (popS_mem x r a h)
    · exact h
theorem bad_nest {x : Sp} {st : List Sp} (hn : st.Pairwise (fun t u => t.e < u.e)) (hb : badS x st = false) : ∀ a ∈ st, x.e < a.e := by
  intro a ha
  cases st with
  | nil => cases ha
  | cons t r =>
    simp only [badS, Bool.or_eq_false_iff, decide_eq_false_iff_not, Int.not_le] at hb
    rcases List.mem_cons.1 ha with rfl | ha
    · exact hb.1
    · exact Int.lt_trans hb.1 ((List.pairwise_cons.1 hn).1 a ha)
/-- One step. -/
theorem InvC.step {done st : List Sp} {m : Int} {x : Sp} (h : InvC done st m) (hx : VSp x) (hm : m < x.b) (hb : badS x (popS x st) = false) :
    (∀ a ∈ done, Rel a x) ∧ InvC (done ++ [x]) (x :: popS x st) x.b := by
  obtain ⟨p1, p2⟩ := popS_spec x st h.nest
  have hbn := bad_nest p1 hb
  refine ⟨fun a ha => ?_, ⟨fun a ha => ?_, List.pairwise_cons.2 ⟨fun a ha => hbn a ha, p1⟩⟩⟩
  · obtain ⟨h1, h2, h3⟩ := h.all a ha
    refine ⟨by omega, ?_⟩
    rcases h3 with h3 | h3
    · rcases p2 a h3 with h4 | h4
      · exact .inl (hbn a h4)
      · exact .inr h4
    · exact .inr (by omega)
  · rcases List.mem_append.1 ha with ha | ha
    · obtain ⟨h1, h2, h3⟩ := h.all a ha
      refine ⟨by omega, h2, ?_⟩
      rcases h3 with h3 | h3
      · rcases p2 a h3 with h4 | h4
        · exact .inl (List.mem_cons_of_mem _ h4)
        · exact .inr h4
      · exact .inr (by omega)
    · rw [List.mem_singleton] at ha
      subst ha
      exact ⟨Int.le_refl _, hx, .inl (List.mem_cons_self ..)⟩
theorem chkF_ok (l : List Sp) : ∀ (r done st : List Sp) (m : Int), l = done ++ r → InvC done st m → (done = [] ∨ ∃ p ∈ done.getLast?, p.b = m) →
    (chkF l done.length st r).2 = 0 → done.Pairwise Rel → l.Pairwise Rel ∧ ∀ a ∈ l, VSp a
  | [], done, st, m, hl, hI, _, _, hp => by
    rw [List.append_nil] at hl
    subst hl
    exact ⟨hp, fun a ha => (hI.all a ha).2.1⟩
  | x :: r, done, st, m, hl, hI, hm, hc, hp => by
    unfold chkF at hc
    split at hc
    · simp at hc
    · rename_i hcan
      have hcan : canB x = true := by simpa using hcan
      split at hc
      · simp at hc
      · rename_i hprev
        split at hc
        · simp at hc
        · rename_i hbad
          have hbad : badS x (popS x st) = false := by simpa using hbad
          -- the one ahead begins ahead
          have hlt : done = [] ∨ m < x.b := by
            rcases hm with h0 | ⟨p, hp1, hp2⟩
            · exact .inl h0
            · refine .inr ?_
              have h0 : 0 < done.length := by
                cases done with
                | nil => simp at hp1
                | cons a b => simp
              have hg : l.getD (done.length - 1) ⟨0, 0, 0⟩ = p := by
                rw [hl, List.getD_eq_getElem?_getD, List.getElem?_append_left (by omega)]
                rw [List.getLast?_eq_getElem?] at hp1
                rw [Option.mem_def] at hp1
                rw [hp1]; rfl
              simp only [prevS, hg, Bool.and_eq_true, decide_eq_true_eq, not_and, Int.not_le] at hprev
              have := hprev h0
              omega
          rcases hlt with h0 | hlt
          · subst h0
            have hI' : InvC [] st (x.b - 1) := ⟨(fun a ha => by cases ha), hI.nest⟩
            obtain ⟨h1, h2⟩ := hI'.step (VSp_of hcan) (by omega) hbad
            have := chkF_ok l r ([] ++ [x]) (x :: popS x st) x.b (by simpa using hl) h2 (.inr ⟨x, by simp, rfl⟩) (by simpa using hc) (by simp)
            exact this
          · obtain ⟨h1, h2⟩ := hI.step (VSp_of hcan) hlt hbad
            exact chkF_ok l r (done ++ [x]) (x :: popS x st) x.b (by rw [hl]; simp) h2 (.inr ⟨x, by simp, rfl⟩) (by simpa using hc)
              (List.pairwise_append.2 ⟨hp, by simp, fun a ha b hb => by rw [List.mem_singleton] at hb; subst hb; exact h1 a ha⟩)
theorem chk_ok {l : List Sp} (h : (chk l).2 = 0) : l.Pairwise Rel ∧ ∀ a ∈ l, VSp a := by
  unfold chk at h
  split at h
  · simp at h
  · exact chkF_ok l l [] [] 0 rfl ⟨by simp, by simp⟩ (.inl rfl) (by simpa using h) (by simp)
/-- Any two of them. -/
def Two (a b : Sp) : Prop := a = b ∨ Rel a b ∨ Rel b a
theorem two_of {l : List Sp} (h : l.Pairwise Rel) (i k : Nat) (hi : i < l.length) (hk : k < l.length) : Two l[i] l[k] := by
  rcases Nat.lt_trichotomy i k with hik | rfl | hik
  · exact .inr (.inl (List.pairwise_iff_getElem.1 h i k hi hk hik))
  · exact .inl rfl
  · exact .inr (.inr (List.pairwise_iff_getElem.1 h k i hk hi hik))
theorem self_comm (a b : Sp) : selfB b a = selfB a b := by
  rw [Bool.eq_iff_iff]; simp [selfB]; constructor <;> (rintro ⟨h1, h2⟩; exact ⟨h1.symm, h2.symm⟩)
def tests (a b : Sp) : List Bool := [selfB a b, ancB a b, ancB b a, behB a b, behB b a]
def cnt (l : List Bool) : Nat := (l.filter id).length
theorem cnt_one {a b : Sp} (h : Two a b) (ha : VSp a) (hb : VSp b) : cnt (tests a b) = 1 := by
  unfold VSp at ha hb
  have key : (selfB a b = true ∧ ancB a b = false ∧ ancB b a = false ∧ behB a b = false ∧ behB b a = false) ∨ (selfB a b = false ∧ ancB a b = true ∧ ancB b a = false ∧ behB a b = false ∧ behB b a = false) ∨ (selfB a b = false ∧ ancB a b = false ∧ ancB b a = true ∧ behB a b = false ∧ behB b a = false) ∨ (selfB a b = false ∧ ancB a b = false ∧ ancB b a = false ∧ behB a b = true ∧ behB b a = false) ∨ (selfB a b = false ∧ ancB a b = false ∧ ancB b a = false ∧ behB a b = false ∧ behB b a = true) := by
    rcases h with rfl | ⟨h1, h2 | h2⟩ | ⟨h1, h2 | h2⟩
    · exact .inl (by simp [selfB, ancB, behB]; omega)
    · exact .inr (.inl (by simp [selfB, ancB, behB]; omega))
    · exact .inr (.inr (.inr (.inr (by simp [selfB, ancB, behB]; omega))))
    · exact .inr (.inr (.inl (by simp [selfB, ancB, behB]; omega)))
    · exact .inr (.inr (.inr (.inl (by simp [selfB, ancB, behB]; omega))))
  rcases key with ⟨h1, h2, h3, h4, h5⟩ | ⟨h1, h2, h3, h4, h5⟩ | ⟨h1, h2, h3, h4, h5⟩ | ⟨h1, h2, h3, h4, h5⟩ | ⟨h1, h2, h3, h4, h5⟩ <;> simp [cnt, tests, h1, h2, h3, h4, h5]
theorem anc_trans {a b c : Sp} (h1 : ancB a b = true) (h2 : ancB b c = true) : ancB a c = true := by
  simp [ancB] at *; omega
theorem beh_trans {a b c : Sp} (hb : VSp b) (h1 : behB a b = true) (h2 : behB b c = true) : behB a c = true := by
  unfold VSp at hb; simp [behB] at *; omega
theorem anc_beh {a b c : Sp} (h1 : ancB a b = true) (h2 : behB a c = true) : behB b c = true := by
  simp [ancB, behB] at *; omega
theorem anc_not_beh {a b : Sp} (hb : VSp b) (h1 : ancB a b = true) : behB a b = false := by
  unfold VSp at hb; simp [ancB, behB] at *; omega
theorem cases7 {p q c : Sp} (hq : VSp q) :
    (ancB p q = false ∧ behB p q = false) ∨ (ancB p q = true ∧ behB p q = false ∧ ancB q c = false ∧ behB p c = false) ∨ (ancB p q = true ∧ behB p q = false ∧ ancB q c = true ∧ ancB p c = true ∧ behB p c = false) ∨
    (ancB p q = true ∧ behB p q = false ∧ ancB q c = false ∧ behB p c = true ∧ behB q c = true) ∨ (ancB p q = true ∧ behB p q = false ∧ ancB q c = true ∧ ancB p c = true ∧ behB p c = true ∧ behB q c = true) ∨
    (ancB p q = false ∧ behB p q = true ∧ behB q c = false) ∨ (ancB p q = false ∧ behB p q = true ∧ behB q c = true ∧ behB p c = true) := by
  cases A : ancB p q
  · cases F : behB p q
    · exact .inl ⟨rfl, rfl⟩
    · cases E : behB q c
      · exact .inr (.inr (.inr (.inr (.inr (.inl ⟨rfl, rfl, rfl⟩)))))
      · exact .inr (.inr (.inr (.inr (.inr (.inr ⟨rfl, rfl, rfl, beh_trans hq F E⟩)))))
  · have F : behB p q = false := by unfold VSp at hq; simp [ancB, behB] at *; omega
    cases D : behB p c
    · cases B : ancB q c
      · exact .inr (.inl ⟨rfl, F, rfl, rfl⟩)
      · exact .inr (.inr (.inl ⟨rfl, F, rfl, anc_trans A B, rfl⟩))
    · cases B : ancB q c
      · exact .inr (.inr (.inr (.inl ⟨rfl, F, rfl, rfl, anc_beh A D⟩)))
      · exact .inr (.inr (.inr (.inr (.inl ⟨rfl, F, rfl, anc_trans A B, rfl, anc_beh A D⟩))))
theorem cnt_take (T : List Bool) (m : Nat) (hm : m < T.length) : cnt (T.take (m + 1)) = cnt (T.take m) + (if T.getD m false then 1 else 0) := by
  rw [List.take_succ_eq_append_getElem hm]
  unfold cnt
  rw [List.filter_append, List.length_append, List.getD_eq_getElem?_getD, List.getElem?_eq_getElem hm]
  cases T[m] <;> rfl
theorem tests_len (a b : Sp) : (tests a b).length = 5 := rfl
end Go.Proofs.Ytaanlildniiijaa
