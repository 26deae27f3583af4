/- That 'vc' suffices: structs that are compared. -/
import Derived.Test.YtkmoeokfgkmlhaaVcSnd3
namespace Go.Vc
open Go
set_option linter.unusedSimpArgs false
set_option linter.unusedVariables false
section
variable {P : Program} {n : Nat} {e : Env} {a : Act} {o : Oper} {w : World}

theorem eqL_append : ∀ (ks js : List Nat) (a b c d : List Value) (r : Bool), a.length = ks.length → c.length = ks.length → eqL (ks ++ js) (a ++ b) (c ++ d) = some r → ∃ r1 r2, eqL ks a c = some r1 ∧ eqL js b d = some r2 ∧ r = (r1 && r2)
  | [], js, [], b, [], d, r, _, _, h => ⟨true, r, rfl, h, by simp⟩
  | k0 :: ks, js, x :: xs, b, y :: ys, d, r, hl, hm, h => by
    have hl' : xs.length = ks.length := by simpa using hl
    have hm' : ys.length = ks.length := by simpa using hm
    simp only [List.cons_append] at h
    unfold eqL at h
    split at h
    · rename_i heq _ _; cases heq
    · rename_i ks' k p xs' k' q ys' h0 h1 h2
      obtain ⟨rfl, rfl⟩ : k0 = 0 ∧ ks ++ js = ks' := by simpa using h0
      obtain ⟨rfl, rfl⟩ : x = .int k p ∧ xs ++ b = xs' := by simpa using h1
      obtain ⟨rfl, rfl⟩ : y = .int k' q ∧ ys ++ d = ys' := by simpa using h2
      split at h
      · rename_i r' hk hr
        obtain ⟨r1, r2, e1, e2, e3⟩ := eqL_append ks js xs b ys d _ hl' hm' hr
        obtain rfl : ((p == q) && r') = r := by simpa using h
        exact ⟨(p == q) && r1, r2, by simp [eqL, hk, e1], e2, by rw [e3, Bool.and_assoc]⟩
      · cases h
    · rename_i ks' p xs' q ys' h0 h1 h2
      obtain ⟨rfl, rfl⟩ : k0 = 1 ∧ ks ++ js = ks' := by simpa using h0
      obtain ⟨rfl, rfl⟩ : x = .string p ∧ xs ++ b = xs' := by simpa using h1
      obtain ⟨rfl, rfl⟩ : y = .string q ∧ ys ++ d = ys' := by simpa using h2
      split at h
      · rename_i r' hr
        obtain ⟨r1, r2, e1, e2, e3⟩ := eqL_append ks js xs b ys d _ hl' hm' hr
        obtain rfl : ((p == q) && r') = r := by simpa using h
        exact ⟨(p == q) && r1, r2, by simp [eqL, e1], e2, by rw [e3, Bool.and_assoc]⟩
      · cases h
    · rename_i ks' p xs' q ys' h0 h1 h2
      obtain ⟨rfl, rfl⟩ : k0 = 2 ∧ ks ++ js = ks' := by simpa using h0
      obtain ⟨rfl, rfl⟩ : x = .bool p ∧ xs ++ b = xs' := by simpa using h1
      obtain ⟨rfl, rfl⟩ : y = .bool q ∧ ys ++ d = ys' := by simpa using h2
      split at h
      · rename_i r' hr
        obtain ⟨r1, r2, e1, e2, e3⟩ := eqL_append ks js xs b ys d _ hl' hm' hr
        obtain rfl : ((p == q) && r') = r := by simpa using h
        exact ⟨(p == q) && r1, r2, by simp [eqL, e1], e2, by rw [e3, Bool.and_assoc]⟩
      · cases h
    · cases h
theorem eqL_len : ∀ (ks : List Nat) (a c : List Value) (r : Bool), eqL ks a c = some r → a.length = ks.length ∧ c.length = ks.length
  | ks, a, c, r, h => by
    unfold eqL at h
    split at h
    · exact ⟨rfl, rfl⟩
    · split at h
      · rename_i hr; have := eqL_len _ _ _ _ hr; simp [this]
      · cases h
    · split at h
      · rename_i hr; have := eqL_len _ _ _ _ hr; simp [this]
      · cases h
    · split at h
      · rename_i hr; have := eqL_len _ _ _ _ hr; simp [this]
      · cases h
    · cases h
termination_by ks => ks.length
theorem eqL_one {c : Nat} {u v : Value} {b : Bool} (h : eqL [c] [u] [v] = some b) :
    (c = 0 ∧ ∃ k p q, u = .int k p ∧ v = .int k q ∧ b = (p == q)) ∨ (c = 1 ∧ ∃ p q, u = .string p ∧ v = .string q ∧ b = (p == q)) ∨ (c = 2 ∧ ∃ p q, u = .bool p ∧ v = .bool q ∧ b = (p == q)) := by
  unfold eqL at h
  split at h
  · rename_i h0 _ _; cases h0
  · rename_i h0 h1 h2
    obtain ⟨rfl, rfl⟩ := List.cons.inj h0
    obtain ⟨rfl, rfl⟩ := List.cons.inj h1
    obtain ⟨rfl, rfl⟩ := List.cons.inj h2
    split at h
    · rename_i hk hr
      rw [IntKind.same_eq hk]
      simp [eqL] at hr
      subst hr
      exact .inl ⟨rfl, _, _, _, rfl, rfl, by simpa using h.symm⟩
    · cases h
  · rename_i h0 h1 h2
    obtain ⟨rfl, rfl⟩ := List.cons.inj h0
    obtain ⟨rfl, rfl⟩ := List.cons.inj h1
    obtain ⟨rfl, rfl⟩ := List.cons.inj h2
    simp only [eqL, Option.some.injEq, Bool.and_true] at h
    exact .inr (.inl ⟨rfl, _, _, rfl, rfl, h.symm⟩)
  · rename_i h0 h1 h2
    obtain ⟨rfl, rfl⟩ := List.cons.inj h0
    obtain ⟨rfl, rfl⟩ := List.cons.inj h1
    obtain ⟨rfl, rfl⟩ := List.cons.inj h2
    simp only [eqL, Option.some.injEq, Bool.and_true] at h
    exact .inr (.inr ⟨rfl, _, _, rfl, rfl, h.symm⟩)
  · cases h

/-- The cells of a part as one value. -/
def packT (P : Program) (t : TypeId) (cs : List Value) : Value := match isAggT P t with
  | true => .agg cs.toArray
  | false => match cs with | [v] => v | _ => undef

theorem isAgg_run {t : TypeId} {d : TypeDesc} (hu : P.underlying t = some d) (w : World) : (isAgg t).run P w = .ok (isAggT P t) w := by
  unfold isAgg isAggT
  simp only [Sem.run_bind, run_und hu, Result.andThen_ok, hu]
  cases d <;> rfl
theorem part_run {d : Nat} {t : TypeId} {ks : List Nat} (hf : flatT P d t = some ks) (cs : Array Value) (i : Nat) (hi : i + ks.length ≤ cs.size) (w : World) :
    (part t cs i).run P w = .ok (packT P t ((cs.toList.drop i).take ks.length)) w := by
  cases d with
  | zero => simp [flatT] at hf
  | succ d =>
    unfold flatT at hf
    have hex : ∀ v, cs[i]? = some v → (cs.toList.drop i).take 1 = [v] := fun v hv => by
      have h1 : cs.toList[i]? = some v := by simpa using hv
      rw [List.take_one, List.head?_drop, h1]; rfl
    have sc : isAggT P t = false → (∃ q, P.underlying t = some q) → ks.length = 1 → (part t cs i).run P w = .ok (packT P t ((cs.toList.drop i).take ks.length)) w := by
      rintro ha ⟨q, hu⟩ hk
      rw [hk] at hi ⊢
      obtain ⟨v, hv⟩ : ∃ v, cs[i]? = some v := ⟨cs[i], by simp⟩
      unfold part
      simp only [Sem.run_bind, isAgg_run hu, ha, Result.andThen_ok, if_false, Bool.false_eq_true, hv, Sem.run_pure, packT, hex v hv]
    split at hf
    · rename_i fs sz hu hz
      have ha : isAggT P t = true := by simp [isAggT, hu]
      split at hf
      · cases hf
      · split at hf
        · rename_i m hm
          split at hf
          · rename_i hb
            obtain rfl : m = ks := by simpa using hf
            obtain rfl : m.length = sz := Nat.eq_of_beq_eq_true hb
            unfold part
            simp only [Sem.run_bind, isAgg_run hu, ha, Result.andThen_ok, if_true, run_size hz, Sem.run_pure, packT]
            congr 2
            apply Array.ext'
            simp [List.take_drop, Nat.add_comm]
          · cases hf
        · cases hf
    · rename_i hu hz
      exact sc (by simp [isAggT, hu]) ⟨_, hu⟩ (by rw [← Option.some.inj hf]; rfl)
    · rename_i hu hz
      exact sc (by simp [isAggT, hu]) ⟨_, hu⟩ (by rw [← Option.some.inj hf]; rfl)
    · rename_i hu hz
      exact sc (by simp [isAggT, hu]) ⟨_, hu⟩ (by rw [← Option.some.inj hf]; rfl)
    · cases hf

theorem eq_flat : ∀ (d D : Nat) (t : TypeId) (ks : List Nat), d ≤ D → flatT P d t = some ks → ∀ (cs ds : List Value) (r : Bool), eqL ks cs ds = some r → ∀ w, (Op.equalIn D t (packT P t cs) (packT P t ds)).run P w = .ok r w
  | 0, _, _, _, _, hf, _, _, _, _, _ => by simp [flatT] at hf
  | d + 1, D, t, ks, hD, hf, cs, ds, r, he, w => by
    obtain ⟨D', rfl⟩ : ∃ D', D = D' + 1 := ⟨D - 1, by omega⟩
    obtain ⟨hc, hd⟩ := eqL_len _ _ _ _ he
    unfold flatT at hf
    have sc : ∀ (c : Nat), isAggT P t = false → ks = [c] → 
        (∀ u v b, eqL [c] [u] [v] = some b → (Op.equalIn (D' + 1) t u v).run P w = .ok b w) → (Op.equalIn (D' + 1) t (packT P t cs) (packT P t ds)).run P w = .ok r w := by
      intro c ha hk hh
      subst hk
      match cs, hc, ds, hd with
      | [u], _, [v], _ =>
        have p1 : packT P t [u] = u := by simp [packT, ha]
        have p2 : packT P t [v] = v := by simp [packT, ha]
        rw [p1, p2]
        exact hh u v r he
    split at hf
    · rename_i fs sz hu hz
      have ha : isAggT P t = true := by simp [isAggT, hu]
      split at hf
      · cases hf
      · rename_i hp
        split at hf
        · rename_i m hm
          split at hf
          · obtain rfl : m = ks := by simpa using hf
            have hfo : P.fieldsOf t = fs := by simp [Program.fieldsOf, hu]
            simp only [packT, ha]
            rw [run_equalIn_struct (P := P) w D' t _ _ (by rw [hfo]; exact hu) hp, hfo]
            have main : ∀ (l : List Field) (i : Nat) (m : List Nat) (r : Bool), flatFs (flatT P d) l i = some m → eqL m (cs.drop i) (ds.drop i) = some r → 
                (Op.eqFields D' cs.toArray ds.toArray l).run P w = .ok r w := by
              intro l
              induction l with
              | nil =>
                intro i m r h1 h4
                obtain rfl : [] = m := by simpa [flatFs] using h1
                have := eqL_len _ _ _ _ h4
                have e1 : cs.drop i = [] := List.eq_nil_of_length_eq_zero this.1
                have e2 : ds.drop i = [] := List.eq_nil_of_length_eq_zero this.2
                rw [e1, e2] at h4
                obtain rfl : true = r := by simpa [eqL] using h4
                simp [Op.eqFields]
              | cons f fs ih =>
                intro i m r h1 h4
                unfold flatFs at h1
                split at h1
                · rename_i hb
                  rw [Bool.and_eq_true] at hb
                  obtain rfl : f.offset = i := Nat.eq_of_beq_eq_true hb.1
                  split at h1
                  · rename_i c0 n0 hk'
                    obtain ⟨k', hk0, hpos⟩ : ∃ k', k' = c0 :: n0 ∧ 0 < k'.length := ⟨_, rfl, by simp⟩
                    rw [← hk0] at hk' h1
                    split at h1
                    · rename_i rs hrs
                      obtain rfl : k' ++ rs = m := by simpa using h1
                      have hl := eqL_len _ _ _ _ h4
                      simp at hl
                      have e1 : cs.drop f.offset = (cs.drop f.offset).take k'.length ++ cs.drop (f.offset + k'.length) := by
                        rw [← List.drop_drop, List.take_append_drop]
                      have e2 : ds.drop f.offset = (ds.drop f.offset).take k'.length ++ ds.drop (f.offset + k'.length) := by
                        rw [← List.drop_drop, List.take_append_drop]
                      have l1 : ((cs.drop f.offset).take k'.length).length = k'.length := by simp; omega
                      have l2 : ((ds.drop f.offset).take k'.length).length = k'.length := by simp; omega
                      rw [e1, e2] at h4
                      obtain ⟨r1, r2, a1, a2, rfl⟩ := eqL_append _ _ _ _ _ _ _ l1 l2 h4
                      have b2 := ih _ _ _ hrs a2
                      have hn : f.name ≠ "_" := by simpa using hb.2
                      have hle1 : f.offset + k'.length ≤ cs.length := by simp at l1; omega
                      have hle2 : f.offset + k'.length ≤ ds.length := by simp at l2; omega
                      have p1 := part_run hk' cs.toArray f.offset (by simpa using hle1) w
                      have p2 := part_run hk' ds.toArray f.offset (by simpa using hle2) w
                      have p3 := eq_flat d D' f.type k' (by omega) hk' _ _ r1 a1 w
                      rw [Op.eqFields]
                      simp only [if_pos hn, Sem.run_bind, p1, p2, Result.andThen_ok]
                      rw [p3]
                      cases r1
                      · simp
                      · simpa using b2
                    · cases h1
                  · cases h1
                · cases h1
            exact main fs.toList 0 m r hm (by simpa using he)
          · cases hf
        · cases hf
    · rename_i kk hu hz
      refine sc 0 (by simp [isAggT, hu]) (Option.some.inj hf).symm ?_
      intro u v b hb
      rcases eqL_one hb with ⟨_, k, p, q, rfl, rfl, rfl⟩ | ⟨h, _⟩ | ⟨h, _⟩
      · rw [Op.equalIn]; simp [run_und hu]
      · cases h
      · cases h
    · rename_i hu hz
      refine sc 1 (by simp [isAggT, hu]) (Option.some.inj hf).symm ?_
      intro u v b hb
      rcases eqL_one hb with ⟨h, _⟩ | ⟨_, p, q, rfl, rfl, rfl⟩ | ⟨h, _⟩
      · cases h
      · rw [Op.equalIn]; simp [run_und hu]
      · cases h
    · rename_i hu hz
      refine sc 2 (by simp [isAggT, hu]) (Option.some.inj hf).symm ?_
      intro u v b hb
      rcases eqL_one hb with ⟨h, _⟩ | ⟨h, _⟩ | ⟨_, p, q, rfl, rfl, rfl⟩
      · cases h
      · cases h
      · rw [Op.equalIn]; simp [run_und hu]
    · cases hf

theorem sure_eqL {K : Value → Prop} {op : BinOp} {t yt : TypeId} {x y : Operand} (ho : o.op = .binOp op t x y yt) {xs ys : Array Value} {ks : List Nat} {r : Bool}
    (hx : a.eval x = .agg xs) (hy : a.eval y = .agg ys) (ha : isAggT P t = true) (hf : flatT P 8 t = some ks) (hg : P.eqGuardType P.depth t = false) (he : eqL ks xs.toList ys.toList = some r) (h : eqB op r K) : Sure P a o K := by
  refine run_eqB ho h hx hy (fun w => ?_) rfl (fun w => ?_)
  · have : ∀ x y : Operand, (eqGuard op t x y (.agg xs) (.agg ys)).run P w = .ok () w := fun x y => by
      cases op <;> simp [eqGuard, program, Sem.run, hg]
    exact this x y
  · have := eq_flat 8 10000 t ks (by decide) hf xs.toList ys.toList r he w
    simpa [packT, ha, Op.equal, Op.maxDepth] using this
end
end Go.Vc
