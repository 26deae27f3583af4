/- A list of placed spans as an argument. -/
import Derived.Test.YtaanlildniiijaaOpen
import Derived.Test.YtaanlildniiijaaSpParts
import Derived.Lib.SmallJoins
namespace Go.Proofs.Ytaanlildniiijaa
open Go.RowKit Go.Deep Go.WideShapes Go.ChangeShapes
set_option linter.unusedSimpArgs false
set_option maxRecDepth 100000 in
theorem pl_cells2 {H : Type} {enc : TypeId × Value → H} {W : World} (n : Nat) (cs : List Value) (x : DataW H × List MemPlace)
    (h : DataW.trod enc Try.prog W 0 (fun _ => true) true n 51 cs = some x) : ∃ y : Pl, cs = LPl.cells y := by
  obtain ⟨ya, yb, m1, -, hlen1, g0, g1⟩ := trod_struct2 Try.underlying51 h
  have hl : cs.length = 4 := hlen1.trans (by kernel_rfl)
  match cs, hl with
  | [a, b, c, d], _ =>
    have k0 : (Try.prog).cellsOf 27 = 1 := by kernel_rfl
    have k1 : (Try.prog).cellsOf 3 = 1 := by kernel_rfl
    have k2 : (Try.prog).cellsOf 29 = 3 := by kernel_rfl
    have k3 : (Try.prog).cellsOf 49 = 1 := by kernel_rfl
    simp only [k0, k1, k2, k3, List.drop_zero, List.drop_succ_cons, List.take_succ_cons, List.take_zero] at g0 g1
    obtain ⟨n3, e3, -, -⟩ := DataW.trod_int Try.underlying49 g0
    obtain ⟨y0, y1, y2, m, -, hlen, h0, h1, h2⟩ := trod_struct3 Try.underlying29 g1
    simp only [k0, k1, List.drop_zero, List.drop_succ_cons, List.take_succ_cons, List.take_zero] at h0 h1 h2
    obtain ⟨n0, e0, -, -⟩ := DataW.trod_int Try.underlying27 h0
    obtain ⟨n1, e1, -, -⟩ := DataW.trod_int Try.underlying27 h1
    obtain ⟨n2, e2, -, -⟩ := DataW.trod_int Try.underlying3 h2
    simp only [List.cons.injEq, and_true] at e0 e1 e2 e3
    subst e0 e1 e2 e3
    exact ⟨⟨n3, ⟨n0, n1, n2⟩⟩, rfl⟩
end Go.Proofs.Ytaanlildniiijaa
