/- Models: Parse, which recovers what the reader panics with. -/
import Derived.Test.YtkmoeokfgkmlhaaMdRow
import Derived.Test.YtkmoeokfgkmlhaaMdRunW
import Derived.Defers
import Derived.Recover
namespace Go.Proofs.Ytkmoeokfgkmlhaa
open Go.RowKit Go.Vc Go.Mdl
set_option linter.unusedVariables false
set_option linter.unusedSimpArgs false
set_option maxRecDepth 100000
section
variable {w w1 : World} {R : Ending → World → Prop} {g : Nat}
theorem parse_results {tmps : Array Value} {a b c : Addr} {p : Option Addr} {n m : Int} (hsz : tmps.size = 27) (h2 : tmps.getD 2 undef = .pointer (some a)) (h3 : tmps.getD 3 undef = .pointer (some b)) (h4 : tmps.getD 4 undef = .pointer (some c))
    (c2 : w.cell? a = some (.pointer p)) (c3 : w.cell? b = some (.int .i64 n)) (c4 : w.cell? c = some (.int .i64 m)) :
    (results Try.f5 tmps).run Try.prog w = .ok (.tuple #[.pointer p, .int .i64 n, .int .i64 m]) w := by
  let R : Ending → World → Prop := fun e w' => e = .returned (.tuple #[.pointer p, .int .i64 n, .int .i64 m])
  have e : vcRet Try.prog Try.f5 R [.w 2 (.pointer (some a)), .w 3 (.pointer (some b)), .w 4 (.pointer (some c))] w =
      (LdP (w.cell? a) fun p' => LdI .i64 (w.cell? b) fun n' => LdI .i64 (w.cell? c) fun m' => R (.returned (.tuple #[.pointer p', .int .i64 n', .int .i64 m'])) w) := by kernel_rfl
  have h : vcRet Try.prog Try.f5 R [.w 2 (.pointer (some a)), .w 3 (.pointer (some b)), .w 4 (.pointer (some c))] w := by
    rw [e, c2, c3, c4, LdP_some, LdI_some, LdI_some]
  obtain ⟨v, h1, h5⟩ := vcRet_spec (n := 27) (a := ⟨tmps, []⟩) (by
    refine ⟨rfl, by simpa using hsz, fun t v ht => ?_⟩
    simp only [Env.get] at ht
    split at ht
    · rename_i hb; obtain rfl := Nat.eq_of_beq_eq_true hb; cases ht; exact h2
    split at ht
    · rename_i hb; obtain rfl := Nat.eq_of_beq_eq_true hb; cases ht; exact h3
    split at ht
    · rename_i hb; obtain rfl := Nat.eq_of_beq_eq_true hb; cases ht; exact h4
    · cases ht) h
  have h5 : Ending.returned v = .returned (.tuple #[.pointer p, .int .i64 n, .int .i64 m]) := h5
  cases h5
  exact h1
theorem RA0 (w : World) (s : ByteArray) (o1 o2 o3 : Obj) : RAt ((((w.alloc o1).alloc o2).alloc o3).alloc (.cells #[.string s, .int .i64 0, .int .i64 0] 46)) (w.heap.size + 1 + 1 + 1) s s.data.toList 0 := by
  refine ⟨by simp, by simp, by simp, ?_⟩
  have := Blk.alloc_new (((w.alloc o1).alloc o2).alloc o3) #[.string s, .int .i64 0, .int .i64 0] 46
  simpa using this
set_option maxHeartbeats 1000000
/-- The deferred function where nothing is wrong. -/
theorem parse1_plain (args : Array Value) (ha : args.size = 3) (w : World) : CallsD Try.prog 16 args .returning w fun e u' w' => e = .returned (.tuple #[]) ∧ u' = .returning ∧ w' = w := by
  obtain ⟨l⟩ := args
  obtain ⟨x, y, z, rfl⟩ : ∃ x y z, l = [x, y, z] := by
    match l, ha with
    | [x, y, z], _ => exact ⟨x, y, z, rfl⟩
  refine callsD_of_wpS Try.func16 rfl fun c₀ cs hu => ?_
  simp only [Try.ntmps16, List.size_toArray, List.length_cons, List.length_nil, Nat.reduceAdd, Nat.reduceSub, Array.replicate_succ,
     Array.replicate_zero, List.push_toArray, List.append_toArray, List.nil_append, List.cons_append]
  refine wpS_seq (wpS_region ?_)
  have hrec : recoverD (c₀ :: cs) = Option.none := by simp only [recoverD, hu]
  simp only [List.size_toArray, List.length_cons, List.length_nil, Nat.reduceAdd, List.range_succ, List.range_zero, List.nil_append, wpOpsS]
  simp [Region.wanted, execOp, resolve, invoke, builtin, hrec, Act.put]
  unfold Exit.thenS
  refine wpS_of_wp ?_
  go_wp2
  exact ⟨rfl, .returning, by rw [← hu], .tuple #[], results_none rfl _ _ _, rfl, rfl, rfl⟩
theorem parse1_panic (a b c : Nat) (at_ e : Int) (w : World) (va : Option Addr) (vb vc : Int) (ca : w.heap[a]? = some (.cells #[.pointer va] 23 (0, 0))) (cb : w.heap[b]? = some (.cells #[.int .i64 vb] 3 (0, 0))) (cc : w.heap[c]? = some (.cells #[.int .i64 vc] 24 (0, 0))) (hab : a ≠ b) (hac : a ≠ c) (hbc : b ≠ c) :
    CallsD Try.prog 16 #[.pointer (some ⟨a, 0, none⟩), .pointer (some ⟨b, 0, none⟩), .pointer (some ⟨c, 0, none⟩)] (.panicking [{ v := .iface 43 (.agg #[.int .i64 at_, .int .i64 e]), recovered := false }]) w
      fun en u' w' => en = .returned (.tuple #[]) ∧ u' = .panicking [{ v := .iface 43 (.agg #[.int .i64 at_, .int .i64 e]), recovered := true }] ∧
        Fm (fun k => k = a ∨ k = b ∨ k = c) w w' ∧ w'.cell? ⟨a, 0, none⟩ = some (.pointer none) ∧ w'.cell? ⟨b, 0, none⟩ = some (.int .i64 at_) ∧ w'.cell? ⟨c, 0, none⟩ = some (.int .i64 e) := by
  refine callsD_of_wpS Try.func16 rfl fun c₀ cs hu => ?_
  simp only [Try.ntmps16, List.size_toArray, List.length_cons, List.length_nil, Nat.reduceAdd, Nat.reduceSub, Array.replicate_succ,
     Array.replicate_zero, List.push_toArray, List.append_toArray, List.nil_append, List.cons_append]
  refine wpS_seq (wpS_region ?_)
  have hrec : recoverD (c₀ :: cs) = some (.iface 43 (.agg #[.int .i64 at_, .int .i64 e]), { c₀ with mode := .panicking [{ v := .iface 43 (.agg #[.int .i64 at_, .int .i64 e]), recovered := true }] } :: cs) := by simp only [recoverD, hu]
  simp only [List.size_toArray, List.length_cons, List.length_nil, Nat.reduceAdd, List.range_succ, List.range_zero, List.nil_append, wpOpsS]
  simp [Region.wanted, execOp, resolve, invoke, builtin, hrec, Act.put]
  unfold Exit.thenS
  refine wpS_of_wp ?_
  go_wp2
  have hta : (Instr.typeAssert (.iface 43 (.agg #[.int .i64 at_, .int .i64 e])) 20 43 true).run Try.prog w = .ok (.tuple #[.agg #[.int .i64 at_, .int .i64 e], .bool true]) w := by kernel_rfl
  rw [hta]
  simp only [Result.andThen]
  rw [Oper.upon_value]
  go_wp2
  refine vcRegion_sound (n := 16) (fl := ⟨[]⟩) (r := 7) (R := fun _ _ => False) (e := [.w 0 (.pointer (some ⟨a, 0, Option.none⟩)), .w 1 (.pointer (some ⟨b, 0, Option.none⟩)), .w 2 (.pointer (some ⟨c, 0, Option.none⟩)), .w 4 (.pointer (some ⟨w.heap.size, 0, Option.none⟩))])
    (K := fun _ w' => Fm (fun k => k = a ∨ k = b ∨ k = c) w w' ∧ w'.cell? ⟨a, 0, Option.none⟩ = some (.pointer Option.none) ∧ w'.cell? ⟨b, 0, Option.none⟩ = some (.int .i64 at_) ∧ w'.cell? ⟨c, 0, Option.none⟩ = some (.int .i64 e))
    (by kernel_rfl) (fun _ _ _ _ h => h.elim) (fun _ h => h.elim) ?_ ?_ ?_ ?_
  · intro ch a' w' d v h
    cases d <;> exact h
  · refine ⟨rfl, rfl, fun t v ht => ?_⟩
    simp only [Env.get] at ht
    split at ht
    · rename_i hb; obtain rfl := Nat.eq_of_beq_eq_true hb; cases ht; rfl
    split at ht
    · rename_i hb; obtain rfl := Nat.eq_of_beq_eq_true hb; cases ht; rfl
    split at ht
    · rename_i hb; obtain rfl := Nat.eq_of_beq_eq_true hb; cases ht; rfl
    split at ht
    · rename_i hb; obtain rfl := Nat.eq_of_beq_eq_true hb; cases ht; rfl
    · cases ht
  · intro e' a' w' hx hs hk
    have key : bodyPostS Try.prog Try.f16 c₀ cs (fun en u' w' => en = .returned (.tuple #[]) ∧ u' = .panicking [{ v := .iface 43 (.agg #[.int .i64 at_, .int .i64 e]), recovered := true }] ∧
        Fm (fun k => k = a ∨ k = b ∨ k = c) w w' ∧ w'.cell? ⟨a, 0, Option.none⟩ = some (.pointer Option.none) ∧ w'.cell? ⟨b, 0, Option.none⟩ = some (.int .i64 at_) ∧ w'.cell? ⟨c, 0, Option.none⟩ = some (.int .i64 e)) .normal a'
        ({ c₀ with mode := .panicking [{ v := .iface 43 (.agg #[.int .i64 at_, .int .i64 e]), recovered := true }] } :: cs) w' :=
      ⟨hs.1, _, rfl, .tuple #[], results_none rfl _ _ _, rfl, rfl, hk⟩
    exact key
  · suffices h : ∃ S : World → Prop, S (w.alloc (Obj.cells #[Value.int IntKind.i64 at_, Value.int IntKind.i64 e] 43)).drew ∧ ∃ x : Int, Held S ⟨w.heap.size, 0, Option.none⟩ (.int .i64 x) ∧ ∃ y : Int, Held S (Addr.add ⟨w.heap.size, 0, Option.none⟩ 1) (.int .i64 y) ∧ St (w.alloc (Obj.cells #[Value.int IntKind.i64 at_, Value.int IntKind.i64 e] 43)).drew ⟨a, 0, Option.none⟩ (.pointer Option.none) fun w1 => S w1 ∧ St w1 ⟨b, 0, Option.none⟩ (.int .i64 x) fun w2 => S w2 ∧ St w2 ⟨c, 0, Option.none⟩ (.int .i64 y) fun w' =>
        Fm (fun k => k = a ∨ k = b ∨ k = c) w w' ∧ w'.cell? ⟨a, 0, Option.none⟩ = some (.pointer Option.none) ∧ w'.cell? ⟨b, 0, Option.none⟩ = some (.int .i64 at_) ∧ w'.cell? ⟨c, 0, Option.none⟩ = some (.int .i64 e) by
      refine Eq.mp ?_ h
      kernel_rfl
    have hB : Below w.heap.size w (w.alloc (Obj.cells #[Value.int IntKind.i64 at_, Value.int IntKind.i64 e] 43)).drew := ((Below.refl _ _).alloc (Nat.le_refl _) _).drew
    have hbx : Blk (w.alloc (Obj.cells #[Value.int IntKind.i64 at_, Value.int IntKind.i64 e] 43)).drew w.heap.size #[.int .i64 at_, .int .i64 e] 43 := Blk.alloc_new w _ _
    have qa := Blk.keep (show Blk w a _ _ from ca) hB
    have qb := Blk.keep (show Blk w b _ _ from cb) hB
    have qc := Blk.keep (show Blk w c _ _ from cc) hB
    have la := (Array.getElem?_eq_some_iff.1 ca).1
    have lb := (Array.getElem?_eq_some_iff.1 cb).1
    have lc := (Array.getElem?_eq_some_iff.1 cc).1
    generalize (w.alloc (Obj.cells #[Value.int IntKind.i64 at_, Value.int IntKind.i64 e] 43)).drew = w1 at hB hbx qa qb qc ⊢
    refine ⟨fun w' => Blk w' w.heap.size #[.int .i64 at_, .int .i64 e] 43, hbx, at_, fun w' h => h.cell 0, e, fun w' h => h.cell 1, ?_⟩
    refine st_blk (g := a) (i := 0) qa (by simp) fun w2 qa2 f2 => ⟨f2.blk hbx (by omega), st_blk (g := b) (i := 0) (f2.blk qb (Ne.symm hab)) (by simp) fun w3 qb3 f3 => ⟨f3.blk (f2.blk hbx (by omega)) (by omega), st_blk (g := c) (i := 0) (f3.blk (f2.blk qc (Ne.symm hac)) (Ne.symm hbc)) (by simp) fun w4 qc4 f4 => ?_⟩⟩
    refine ⟨(((Fm.below hB).trans (f2.mono fun b _ e => .inl e)).trans (f3.mono fun b _ e => .inr (.inl e))).trans (f4.mono fun b _ e => .inr (.inr e)), (f4.blk (f3.blk qa2 hab) hac).cell 0, (f4.blk qb3 hbc).cell 0, qc4.cell 0⟩
/-- What is behind a panic of the reader's, and behind none. -/
theorem leaf_panic {tmps : Array Value} {R : Ending → World → Prop} {a b c : Nat} {at_ e : Int} {w : World} {va : Option Addr} {vb vc : Int} (hsz : tmps.size = 27) (h2 : tmps.getD 2 undef = .pointer (some ⟨a, 0, Option.none⟩)) (h3 : tmps.getD 3 undef = .pointer (some ⟨b, 0, Option.none⟩)) (h4 : tmps.getD 4 undef = .pointer (some ⟨c, 0, Option.none⟩))
    (ca : Blk w a #[.pointer va] 23) (cb : Blk w b #[.int .i64 vb] 3) (cc : Blk w c #[.int .i64 vc] 24) (hab : a ≠ b) (hac : a ≠ c) (hbc : b ≠ c)
    (hR : ∀ w', Fm (fun k => k = a ∨ k = b ∨ k = c) w w' → R (.returned (.tuple #[.pointer Option.none, .int .i64 at_, .int .i64 e])) w') :
    Leaves Try.prog Try.f5 tmps R [{ target := .fn (.func 16) #[.pointer (some ⟨a, 0, Option.none⟩), .pointer (some ⟨b, 0, Option.none⟩), .pointer (some ⟨c, 0, Option.none⟩)], args := #[] }] (.panicking (oops at_ e)) w := by
  refine leaves_cons (f := 16) (args := #[.pointer (some ⟨a, 0, Option.none⟩), .pointer (some ⟨b, 0, Option.none⟩), .pointer (some ⟨c, 0, Option.none⟩)]) (by simp) (by kernel_rfl) ?_
  refine (parse1_panic a b c at_ e w va vb vc ca cb cc hab hac hbc).mono ?_
  rintro en u' w' ⟨rfl, rfl, hf, q2, q3, q4⟩
  exact ⟨_, parse_results hsz h2 h3 h4 q2 q3 q4, hR w' hf⟩
theorem leaf_ret {tmps : Array Value} {R : Ending → World → Prop} {a b c : Nat} {w : World} {va : Option Addr} {vb vc : Int} (hsz : tmps.size = 27) (h2 : tmps.getD 2 undef = .pointer (some ⟨a, 0, Option.none⟩)) (h3 : tmps.getD 3 undef = .pointer (some ⟨b, 0, Option.none⟩)) (h4 : tmps.getD 4 undef = .pointer (some ⟨c, 0, Option.none⟩))
    (ca : w.cell? ⟨a, 0, Option.none⟩ = some (.pointer va)) (cb : w.cell? ⟨b, 0, Option.none⟩ = some (.int .i64 vb)) (cc : w.cell? ⟨c, 0, Option.none⟩ = some (.int .i64 vc))
    (hR : R (.returned (.tuple #[.pointer va, .int .i64 vb, .int .i64 vc])) w) :
    Leaves Try.prog Try.f5 tmps R [{ target := .fn (.func 16) #[.pointer (some ⟨a, 0, Option.none⟩), .pointer (some ⟨b, 0, Option.none⟩), .pointer (some ⟨c, 0, Option.none⟩)], args := #[] }] .returning w := by
  refine leaves_cons (f := 16) (args := #[.pointer (some ⟨a, 0, Option.none⟩), .pointer (some ⟨b, 0, Option.none⟩), .pointer (some ⟨c, 0, Option.none⟩)]) (by simp) (by kernel_rfl) ?_
  refine (parse1_plain _ rfl w).mono ?_
  rintro en u' w' ⟨rfl, rfl, rfl⟩
  exact ⟨_, parse_results hsz h2 h3 h4 ca cb cc, hR⟩
theorem parse_calls {s : ByteArray} (w : World) {R : Ending → World → Prop}
    (h1 : ∀ g w' rows, Mdl.parse s.data.toList = .ok rows → RdM w' g rows (placed rows) → Below w.heap.size w w' → R (.returned (.tuple #[.pointer (some ⟨g, 0, Option.none⟩), .int .i64 0, .int .i64 0])) w')
    (h2 : ∀ pos e at_ w', Mdl.parse s.data.toList = .error (pos, e) → Below w.heap.size w w' → R (.returned (.tuple #[.pointer Option.none, .int .i64 at_, .int .i64 (e : Int)])) w') :
    Calls Try.prog 5 #[.string s] w R := by
  have hsz : s.data.toList.length = s.size := by simp
  have A0 : Below w.heap.size w ((w.alloc (Obj.cells #[Value.pointer Option.none] 23)).alloc (Obj.cells #[Value.int IntKind.i64 0] 3)) := ((Below.refl _ _).alloc (Nat.le_refl _) _).alloc (by simp) _
  have c2 : ∀ o1 o2, (((w.alloc (Obj.cells #[Value.pointer Option.none] 23)).alloc o1).alloc o2).heap[w.heap.size]? = some (Obj.cells #[Value.pointer Option.none] 23) := fun o1 o2 => by
    rw [Below.heap_alloc _ _ _ (by simp; omega), Below.heap_alloc _ _ _ (by simp)]; exact Blk.alloc_new w _ _
  have c3 : ∀ o1 o2, (((w.alloc o1).alloc (Obj.cells #[Value.int IntKind.i64 0] 3)).alloc o2).heap[w.heap.size + 1]? = some (Obj.cells #[Value.int IntKind.i64 0] 3) := fun o1 o2 => by
    rw [Below.heap_alloc _ _ _ (by simp)]
    have := Blk.alloc_new (w.alloc o1) #[Value.int IntKind.i64 0] 3
    unfold Blk at this
    simpa using this
  have c4 : ∀ o1 o2 (v : Int), (((w.alloc o1).alloc o2).alloc (Obj.cells #[Value.int IntKind.i64 v] 24)).heap[w.heap.size + 1 + 1]? = some (Obj.cells #[Value.int IntKind.i64 v] 24) := fun o1 o2 v => by
    have := Blk.alloc_new ((w.alloc o1).alloc o2) #[Value.int IntKind.i64 v] 24
    unfold Blk at this
    simpa using this
  go_enter_defers Try.func5, Try.ntmps5
  go_wp2_with (first
    | (go_at_call 17; refine choices_calls (s.data.toList.length + 1) _ _ s s.data.toList 0 _ (RA0 _ _ _ _ _) (by omega) (by omega) ?_))
  · refine ⟨_, parse_results rfl rfl rfl rfl (blk_cell (c2 _ _) 0) (blk_cell (c3 _ _) 0) (blk_cell (c4 _ _ _) 0), ?_⟩
    refine h2 s.data.toList.length eLong 0 _ ?_ (A0.alloc (Nat.le_trans (by simp) A0.size) _)
    unfold Mdl.parse
    rw [if_pos (by omega)]
  rename_i hle
  unfold Mdl.parse at h1 h2
  rw [if_neg (by omega)] at h1 h2
  have d2 := fun o1 o2 => Blk.keep (show Blk _ _ _ _ from c2 o1 o2) ((Below.refl _ _).alloc (Nat.le_refl _) (Obj.cells #[Value.string s, Value.int IntKind.i64 0, Value.int IntKind.i64 0] 46))
  have d3 := fun o1 o2 => Blk.keep (show Blk _ _ _ _ from c3 o1 o2) ((Below.refl _ _).alloc (Nat.le_refl _) (Obj.cells #[Value.string s, Value.int IntKind.i64 0, Value.int IntKind.i64 0] 46))
  have d4 := fun o1 o2 => Blk.keep (show Blk _ _ _ _ from c4 o1 o2 0) ((Below.refl _ _).alloc (Nat.le_refl _) (Obj.cells #[Value.string s, Value.int IntKind.i64 0, Value.int IntKind.i64 0] 46))
  have A1 := (A0.alloc (Nat.le_trans (by simp) A0.size) (Obj.cells #[Value.int IntKind.i64 0] 24)).alloc (by simp; omega) (Obj.cells #[Value.string s, Value.int IntKind.i64 0, Value.int IntKind.i64 0] 46)
  replace d2 := d2 (Obj.cells #[Value.int IntKind.i64 0] 3) (Obj.cells #[Value.int IntKind.i64 0] 24)
  replace d3 := d3 (Obj.cells #[Value.pointer Option.none] 23) (Obj.cells #[Value.int IntKind.i64 0] 24)
  replace d4 := d4 (Obj.cells #[Value.pointer Option.none] 23) (Obj.cells #[Value.int IntKind.i64 0] 3)
  have hWs : w.heap.size + 1 + 1 + 1 < ((((w.alloc (Obj.cells #[Value.pointer Option.none] 23)).alloc (Obj.cells #[Value.int IntKind.i64 0] 3)).alloc (Obj.cells #[Value.int IntKind.i64 0] 24)).alloc (Obj.cells #[Value.string s, Value.int IntKind.i64 0, Value.int IntKind.i64 0] 46)).heap.size := by simp
  clear c2 c3 c4 A0
  generalize ((((w.alloc (Obj.cells #[Value.pointer Option.none] 23)).alloc (Obj.cells #[Value.int IntKind.i64 0] 3)).alloc (Obj.cells #[Value.int IntKind.i64 0] 24)).alloc (Obj.cells #[Value.string s, Value.int IntKind.i64 0, Value.int IntKind.i64 0] 46)) = W at d2 d3 d4 A1 hWs ⊢
  cases hc : choices (s.data.toList.length + 1) s.data.toList 0 with
  | error x =>
    obtain ⟨pos, e⟩ := x
    rw [hc] at h2
    intro at_ w' f'
    refine leaf_panic rfl rfl rfl rfl (f'.blk d2 (by omega)) (f'.blk d3 (by omega)) (f'.blk d4 (by omega)) (by omega) (by omega) (by omega) fun w2 f2 => ?_
    exact h2 pos e at_ w2 rfl (A1.trans ((f'.toBelow A1.size fun b hb e => by omega).trans (f2.toBelow (Nat.le_trans A1.size f'.size) fun b hb e => by omega)))
  | ok x =>
    obtain ⟨rows, l, n⟩ := x
    rw [hc] at h1 h2
    dsimp only at h1 h2
    rintro w1 _ hra f1 ⟨sl, rfl, hrd⟩
    dsimp only
    go_wp2_with (first
      | (go_at_call 18; refine ends_calls hra (by omega) ?_))
    intro w2 hra2 f2
    have F2 := f1.trans f2
    have e2 := F2.blk d2 (by omega)
    have e3 := F2.blk d3 (by omega)
    have e4 := F2.blk d4 (by omega)
    cases hsk : skip l with
    | cons c r =>
      rw [hsk] at h2
      have hc0 : w2.cell? ⟨w.heap.size + 1 + 1 + 1, 1, Option.none⟩ = some (.int .i64 ((s.size - (skip l).length : Nat) : Int)) := hra2.blk.cell 1
      simp only [List.isEmpty_cons]
      go_wp2_with (first
        | (go_at_call 19; refine ok19 _ _ _ ?_; unfold F19))
      refine leaf_panic rfl rfl rfl rfl e2 e3 e4 (by omega) (by omega) (by omega) fun w' f' => ?_
      exact h2 _ eMore _ w' rfl (A1.trans ((F2.toBelow A1.size fun b hb e => by omega).trans (f'.toBelow (Nat.le_trans A1.size F2.size) fun b hb e => by omega)))
    | nil =>
      rw [hsk] at h1
      obtain ⟨ok1, le1, co1, mx1⟩ := sound _ _ _ _ _ _ hc (by simp [maxParts])
      have hrd2 : RdC w2 rows sl := hrd.sub ((above_fm f2 (Nat.le_refl _) (fun b hb e => by omega)).trans sub_of_only)
      simp only [List.isEmpty_nil]
      go_wp2_with (first
        | (go_at_call 20; refine placed_calls hrd2 (by unfold maxParts at mx1; omega) ?_))
      intro g w3 hm hb3
      have B3 : Below w.heap.size w w3 := A1.trans ((F2.toBelow A1.size fun b hb e => by omega).trans (hb3.mono (Nat.le_trans A1.size F2.size)))
      have q2 := e2.keep hb3
      have q3 := e3.keep hb3
      have q4 := e4.keep hb3
      have c2 : w3.cell? ⟨w.heap.size, 0, Option.none⟩ = some (.pointer Option.none) := q2.cell 0
      have c3 : w3.cell? ⟨w.heap.size + 1, 0, Option.none⟩ = some (.int .i64 0) := q3.cell 0
      have c4 : w3.cell? ⟨w.heap.size + 1 + 1, 0, Option.none⟩ = some (.int .i64 0) := q4.cell 0
      have z2 := q2.frozen 0
      have z3 := q3.frozen 0
      have z4 := q4.frozen 0
      go_wp2
      have F : Fm (fun k => k = w.heap.size ∨ k = w.heap.size + 1 ∨ k = w.heap.size + 1 + 1) w3 (((w3.setCell ⟨w.heap.size, 0, Option.none⟩ (.pointer (some ⟨g, 0, Option.none⟩))).setCell ⟨w.heap.size + 1, 0, Option.none⟩ (.int .i64 0)).setCell ⟨w.heap.size + 1 + 1, 0, Option.none⟩ (.int .i64 0)) :=
        (((Fm.refl _ _).set (fun _ => .inl rfl) _).set (fun _ => .inr (.inl rfl)) _).set (fun _ => .inr (.inr rfl)) _
      have r2 := ((q2.set 0 (.pointer (some ⟨g, 0, Option.none⟩))).other (a := ⟨w.heap.size + 1, 0, Option.none⟩) (by simp) (.int .i64 0)).other (a := ⟨w.heap.size + 1 + 1, 0, Option.none⟩) (by simp; omega) (.int .i64 0)
      have r3 := ((q3.other (a := ⟨w.heap.size, 0, Option.none⟩) (by simp) (.pointer (some ⟨g, 0, Option.none⟩))).set 0 (.int .i64 0)).other (a := ⟨w.heap.size + 1 + 1, 0, Option.none⟩) (by simp) (.int .i64 0)
      have r4 := ((q4.other (a := ⟨w.heap.size, 0, Option.none⟩) (by simp; omega) (.pointer (some ⟨g, 0, Option.none⟩))).other (a := ⟨w.heap.size + 1, 0, Option.none⟩) (by simp) (.int .i64 0)).set 0 (.int .i64 0)
      generalize (((w3.setCell ⟨w.heap.size, 0, Option.none⟩ (.pointer (some ⟨g, 0, Option.none⟩))).setCell ⟨w.heap.size + 1, 0, Option.none⟩ (.int .i64 0)).setCell ⟨w.heap.size + 1 + 1, 0, Option.none⟩ (.int .i64 0)) = w4 at F r2 r3 r4 ⊢
      refine leaf_ret rfl rfl rfl rfl (r2.cell 0) (r3.cell 0) (r4.cell 0) ?_
      have hs1 := f1.size
      have hs2 := f2.size
      refine h1 g w4 rows rfl ⟨sl, hm.sub ((above_fm F (Nat.le_refl _) (fun b hb e => by omega)).trans sub_of_only), hrd.sub (((above_fm f2 (Nat.le_refl _) (fun b hb e => by omega)).trans ((above_fm (M := fun _ => False) (Fm.below hb3) (Nat.le_refl _) (fun b hb e => e)).trans (above_fm F (Nat.le_refl _) (fun b hb e => by omega)))).trans sub_of_only)⟩ (B3.trans (F.toBelow B3.size fun b hb e => by omega))
end
end Go.Proofs.Ytkmoeokfgkmlhaa
