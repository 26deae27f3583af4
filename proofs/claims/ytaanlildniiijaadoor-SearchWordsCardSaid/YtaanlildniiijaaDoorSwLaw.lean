/- SearchWords comes to true for any text. -/
import Derived.Test.YtaanlildniiijaaDoorSwWords
namespace Go.Proofs.YtaanlildniiijaaDoor
open Go.RowKit Go.Vc
set_option maxRecDepth 100000
theorem textS_ok {s : ByteArray} (h : (textS s).2 = 0) : s.size ≤ 16384 := by
  unfold textS at h
  split at h
  · cases h
  · omega
theorem textA_k (s : ByteArray) {w : World} (hT : Tabs w) {R : Ending → World → Prop} (h : ∀ w', Below w.heap.size w w' → R (.returned (.tuple #[.int .i64 (textS s).1, .int .i64 (textS s).2])) w') : Calls Tryd.prog 6 #[.string s] w R := by
  refine ok6 s ?_
  unfold F6
  exact (text_calls s w hT).mono fun e w' ⟨he, hw⟩ => by rw [he]; exact ⟨_, _, rfl, h w' hw⟩
theorem textR_k (s : ByteArray) {w : World} {R : Ending → World → Prop} (h : ∀ w', Below w.heap.size w w' → R (.returned (.tuple #[.int .i64 (textS s).1, .int .i64 (textS s).2])) w') : Calls Tryd.prog 8 #[.string s] w R :=
  (textR_calls s w).mono fun e w' ⟨he, hw⟩ => by rw [he]; exact h w' hw
/-- What Words answers. -/
def WAns (s : ByteArray) (w : World) (v : Value) (w' : World) : Prop :=
  (∃ A n c A2 n2 c2, v = .tuple #[.slice A n c, .slice A2 n2 c2, .int .i64 (textS s).2] ∧ WS w (.slice A n c) (.slice A2 n2 c2) (if (textS s).2 = 0 then wordsF s 0 else []) w')
theorem WS.start {w0 w1 w : World} {v u : Value} {l : List (ByteArray × Nat)} (hb : Below w0.heap.size w0 w1) (h : WS w1 v u l w) : WS w0 v u l w :=
  ⟨hb.trans (h.below.mono hb.size), h.ws.rebase fun k hk => Nat.le_trans hb.size (h.ws.lt k hk).1, h.at_.rebase fun k hk => Nat.le_trans hb.size (h.at_.lt k hk).1, h.ap⟩
theorem wordsA_k (s : ByteArray) {w : World} (hT : Tabs w) {R : Ending → World → Prop} (h : ∀ v w', WAns s w v w' → R (.returned v) w') : Calls Tryd.prog 4 #[.string s] w R := by
  refine ok4 s ?_
  unfold F4
  refine textA_k s hT fun w1 hb => ⟨_, _, rfl, ?_⟩
  refine brn (fun hne => ?_) (fun he => ?_)
  · refine h _ _ ⟨_, _, _, _, _, _, rfl, ?_⟩
    rw [if_neg (by omega)]
    exact ⟨hb, Own.nil _ _ _ _, Own.nil _ _ _ _, Apart.nil_r⟩
  · have he' : (textS s).2 = 0 := by omega
    refine words_calls s (textS_ok he') fun A n c A2 n2 c2 w2 hw => ⟨_, _, _, _, _, _, rfl, h _ _ ⟨_, _, _, _, _, _, by rw [he']; rfl, ?_⟩⟩
    rw [if_pos he']
    exact hw.start hb
theorem wordsR_k (s : ByteArray) {w : World} {R : Ending → World → Prop} (h : ∀ v w', WAns s w v w' → R (.returned v) w') : Calls Tryd.prog 5 #[.string s] w R := by
  refine ok5 s ?_
  unfold F5
  refine textR_k s fun w1 hb => ⟨_, _, rfl, ?_⟩
  refine brn (fun hne => ?_) (fun he => ?_)
  · refine h _ _ ⟨_, _, _, _, _, _, rfl, ?_⟩
    rw [if_neg (by omega)]
    exact ⟨hb, Own.nil _ _ _ _, Own.nil _ _ _ _, Apart.nil_r⟩
  · have he' : (textS s).2 = 0 := by omega
    refine split_calls s (textS_ok he') fun A n c A2 n2 c2 w2 hw => ⟨_, _, _, _, _, _, rfl, h _ _ ⟨_, _, _, _, _, _, by rw [he']; rfl, ?_⟩⟩
    rw [if_pos he']
    exact hw.start hb
theorem law_calls (s : ByteArray) (w : World) (hT : Tabs w) : Calls Tryd.prog 3 #[.string s] w fun e w' => e = .returned (.bool true) ∧ Below w.heap.size w w' := by
  refine ok3 s ?_
  unfold F3
  refine wordsA_k s hT fun v w1 ⟨A, n, c, A2, n2, c2, hv, h1⟩ => ⟨_, _, _, _, _, _, _, hv, ?_⟩
  refine wordsR_k s fun v w2 ⟨B, m, d, B2, m2, d2, hv, h2⟩ => ⟨_, _, _, _, _, _, _, hv, ?_⟩
  have h1 := h1.keep h2.below
  generalize hl : (if (textS s).2 = 0 then wordsF s 0 else []) = l at h1 h2
  obtain ⟨en, r1⟩ := h1.ws.rd
  obtain ⟨en2, r2⟩ := h1.at_.rd
  obtain ⟨em, r3⟩ := h2.ws.rd
  obtain ⟨em2, r4⟩ := h2.at_.rd
  simp only [List.length_map] at en en2 em em2
  subst en en2 em em2
  have hlen : l.length ≤ 16384 := by
    rw [← hl]
    split
    · rename_i he
      have := wordsF_len s 0
      have := textS_ok he
      omega
    · simp
  refine ⟨fun w3 => Below w2.heap.size w2 w3, ?_, ?_⟩
  · intro w3 hb3
    unfold F3_j5
    refine ⟨fun i w4 => ∃ k : Nat, i = k ∧ k ≤ l.length ∧ Below w2.heap.size w2 w4, fun i w4 => l.length - i.toNat, ⟨0, rfl, by omega, hb3⟩, ?_⟩
    rintro i w4 ⟨k, rfl, hk, hb4⟩
    unfold F3_l6
    refine brd (fun hlt => ?_) (fun hge => ?_)
    · have hk2 : k < l.length := by omega
      refine ⟨fun w5 => Below w2.heap.size w2 w5, ?_, ?_⟩
      · intro w5 hb5
        unfold F3_j7
        exact ⟨inR_i64 (by omega) (by omega), ⟨k + 1, by simp, by omega, hb5⟩, by dsimp only; omega⟩
      · refine dr fun w5 hb5 _ => ?_
        have hb := btr hb4 hb4.size hb5
        have g1 := r1.keep hb
        have g2 := r2.keep hb
        have g3 := r3.keep hb
        have g4 := r4.keep hb
        refine g1.idx (by simp) (by omega) hlt rfl fun b o hc => ?_
        have c1 := hc 0 _ rfl
        simp only [Nat.add_zero] at c1
        rw [c1, LdStr_some]
        refine g3.idx (by simp) (by omega) hlt rfl fun b o hc => ?_
        have c2 := hc 0 _ rfl
        simp only [Nat.add_zero] at c2
        rw [c2, LdStr_some]
        rw [show ∀ x : ByteArray, (!(x.toList == x.toList)) = false from fun x => by simp, Br_f]
        refine g2.idx (by simp) (by omega) hlt rfl fun b o hc => ?_
        have c3 := hc 0 _ rfl
        simp only [Nat.add_zero] at c3
        rw [c3, LdI_some]
        refine g4.idx (by simp) (by omega) hlt rfl fun b o hc => ?_
        have c4 := hc 0 _ rfl
        simp only [Nat.add_zero] at c4
        rw [c4, LdI_some]
        rw [show ∀ x : Int, (x != x) = false from fun x => by simp, Br_f]
        exact hb
    · exact ⟨rfl, h1.below.trans (hb4.mono h1.below.size)⟩
  · simp only [bne_self_eq_false, Br_f]
    exact Below.refl _ _
end Go.Proofs.YtaanlildniiijaaDoor
