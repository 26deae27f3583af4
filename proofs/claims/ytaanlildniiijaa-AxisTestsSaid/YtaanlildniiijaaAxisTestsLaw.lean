/- For any three spans every test of the program is the document's; no condition. -/
import Derived.Test.YtaanlildniiijaaRows
import Derived.Test.YtaanlildniiijaaAxisTestsW
import Derived.WalkKit
import Derived.ProofKit
import Derived.OpenShut
import Derived.ShutString
import Derived.ChangeOld
import Derived.Below
import Derived.SizedLaws
import Derived.Carry
import Derived.Lib.SmallJoins
namespace Go.Proofs.Ytaanlildniiijaa.axisTests
open Go.ChangeShapes Go.WideShapes Go.ChangeAt Go.RowKit Go.Joins
open Go.ChangeMaps (open_string shut_string)
theorem own : ownKnob Try.prog.godebug = none := by kernel_rfl
theorem laidOut : laidOutB Try.prog = true := by kernel_rfl
set_option maxRecDepth 100000 in
theorem lifted (os : Os) (started : os.Started) (H : Type) (enc : TypeId × Value → H) :
    ReturnsInHanded {} Try.checked os 5 .any (Rows.axisTestsSpec.pre6 enc Try.prog Try.f5 Rows.axisTestsRow.domain false) (Rows.axisTestsSpec.post enc Try.prog Try.f5 false true false false) := by
  refine returnsInHanded_of_change_sized (C := Try.checked) own started (by kernel_rfl) Try.func5
    (ChangeSpec.witness6 (enc := enc) (C := Try.checked) false ⟨#[], #[.agg #[.int .u64 0, .int .u64 0, .int .i64 0], .agg #[.int .u64 0, .int .u64 0, .int .i64 0], .agg #[.int .u64 0, .int .u64 0, .int .i64 0]], []⟩ 8 (by kernel_rfl) (by kernel_rfl) (by kernel_rfl) (by kernel_rfl)) ?_
  intro W base args ds gs before hval0 hW hcnd hsz0 _
  have hsz : (DataW.weightsEach Try.prog (Try.f5.params.toList ++ Rows.axisTestsSpec.plain.varTypes Try.prog) (ds ++ gs)).all (· ≤ reachBytes) = true := hsz0
  have hval : ∀ (j : Nat) t v, Try.f5.params[j]? = some t → args[j]? = some v → Value.okWide Try.prog W .any base t v := hval0
  have hW' := hW
  obtain ⟨p, q, hA0, hV, rfl, hfz, hnd⟩ := hW
  have hA : DataW.TrodAll enc Try.prog W 0 (fun _ => true) true Try.f5.params.toList args.toList ds p := hA0
  rw [Try.params5] at hA hval hsz
  obtain ⟨v0, vs0, d0, ds0, p0, q0, hargs, rfl, rfl, h0, r0⟩ := trodAll_cons hA
  obtain ⟨v1, vs1, d1, ds1, p1, q1, rfl, rfl, rfl, h1, r1⟩ := trodAll_cons r0
  obtain ⟨v2, vs2, d2, ds2, p2, q2, rfl, rfl, rfl, h2, r2⟩ := trodAll_cons r1
  obtain ⟨rfl, rfl, rfl⟩ := trodAll_nil r2
  obtain rfl : args = #[v0, v1, v2] := by cases args; simp_all
  obtain ⟨rfl, rfl⟩ := trodVars_none hV
  have k0 := h0
  have lt0 : ∀ x ∈ p0, x.block < W.heap.size := by obtain ⟨m, hm⟩ := k0; exact DataW.trod_lt m _ _ _ hm
  have k1 := h1
  have lt1 : ∀ x ∈ p1, x.block < W.heap.size := by obtain ⟨m, hm⟩ := k1; exact DataW.trod_lt m _ _ _ hm
  have k2 := h2
  have lt2 : ∀ x ∈ p2, x.block < W.heap.size := by obtain ⟨m, hm⟩ := k2; exact DataW.trod_lt m _ _ _ hm
  clear hA0 hval0 hsz0
  obtain ⟨c0, c1, c2, y0, y1, y2, m, rfl, -, -, z0, z1, z2⟩ := open_agg3 Try.underlying29 (by kernel_rfl) (by kernel_rfl) (hval 0 29 _ rfl rfl) h0; 
  obtain ⟨b0, e0, -, -⟩ := DataW.trod_int Try.underlying27 z0; 
  obtain ⟨f0, e1, -, -⟩ := DataW.trod_int Try.underlying27 z1; 
  obtain ⟨l0, e2, -, -⟩ := DataW.trod_int Try.underlying3 z2; 
  simp only [List.cons.injEq, and_true] at e0 e1 e2; subst e0 e1 e2
  obtain ⟨c0, c1, c2, y0, y1, y2, m, rfl, -, -, z0, z1, z2⟩ := open_agg3 Try.underlying29 (by kernel_rfl) (by kernel_rfl) (hval 1 29 _ rfl rfl) h1; 
  obtain ⟨b1, e0, -, -⟩ := DataW.trod_int Try.underlying27 z0; 
  obtain ⟨f1, e1, -, -⟩ := DataW.trod_int Try.underlying27 z1; 
  obtain ⟨l1, e2, -, -⟩ := DataW.trod_int Try.underlying3 z2; 
  simp only [List.cons.injEq, and_true] at e0 e1 e2; subst e0 e1 e2
  obtain ⟨c0, c1, c2, y0, y1, y2, m, rfl, -, -, z0, z1, z2⟩ := open_agg3 Try.underlying29 (by kernel_rfl) (by kernel_rfl) (hval 2 29 _ rfl rfl) h2; 
  obtain ⟨b2, e0, -, -⟩ := DataW.trod_int Try.underlying27 z0; 
  obtain ⟨f2, e1, -, -⟩ := DataW.trod_int Try.underlying27 z1; 
  obtain ⟨l2, e2, -, -⟩ := DataW.trod_int Try.underlying3 z2; 
  simp only [List.cons.injEq, and_true] at e0 e1 e2; subst e0 e1 e2
  refine (axisTests_calls ⟨b0, f0, l0⟩ ⟨b1, f1, l1⟩ ⟨b2, f2, l2⟩ W).mono fun e W' ⟨he, bel⟩ => ?_
  subst he
  exact ⟨_, rfl, _, _, _, [], _, [], hW', trodAll_mk1 (shut_bool Try.underlying4 _), (trodAll_cons_mk (Below.trod laidOut (by kernel_rfl) (of_decide_eq_true (by kernel_rfl)) k0 bel lt0) (trodAll_cons_mk (Below.trod laidOut (by kernel_rfl) (of_decide_eq_true (by kernel_rfl)) k1 bel lt1) (trodAll_cons_mk (Below.trod laidOut (by kernel_rfl) (of_decide_eq_true (by kernel_rfl)) k2 bel lt2) trodAll_mk0))), rfl, bel.frame _, fun h => by cases h⟩
theorem over : Rows.axisTestsRow.holds Try.pinned (OpenSpec.ofChange Rows.axisTestsSpec) :=
  OpenClaim.holds_of_wide 5 Try.f5 rfl rfl rfl rfl rfl rfl rfl ⟨rfl, rfl, rfl, rfl, rfl⟩ rfl rfl rfl rfl rfl (by kernel_rfl) Try.func5 (by kernel_rfl)
    (of_decide_eq_true (by kernel_rfl)) (by unfold Func.isWrapper; first | (rw [if_pos (by decide +kernel)]; kernel_rfl) | (rw [if_neg (by decide +kernel)]; exact ⟨rfl, rfl⟩))
    (fun os started H enc _ => lifted os started H enc)
end Go.Proofs.Ytaanlildniiijaa.axisTests
namespace Go.Proofs.Ytaanlildniiijaa
theorem axisTests_holds : Rows.AxisTestsSaid := axisTests.over
#print axioms axisTests_holds
end Go.Proofs.Ytaanlildniiijaa
