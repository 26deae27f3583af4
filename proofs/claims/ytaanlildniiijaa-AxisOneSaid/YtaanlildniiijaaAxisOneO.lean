/- A list of spans as an argument. -/
import Derived.Test.YtaanlildniiijaaOpen
import Derived.Test.YtaanlildniiijaaAxisOneW
import Derived.Lib.SmallJoins
namespace Go.Proofs.Ytaanlildniiijaa
open Go.RowKit Go.Deep Go.WideShapes Go.ChangeShapes
instance : Inhabited Sp := ⟨⟨0, 0, 0⟩⟩
set_option maxRecDepth 100000 in
theorem sp_cells {H : Type} {enc : TypeId × Value → H} {W : World} (n : Nat) (cs : List Value) (x : DataW H × List MemPlace)
    (h : DataW.trod enc Try.prog W 0 (fun _ => true) true n 29 cs = some x) : ∃ y : Sp, cs = LSp.cells y := by
  obtain ⟨y0, y1, y2, m, -, hlen, h0, h1, h2⟩ := trod_struct3 Try.underlying29 h
  have hl : cs.length = 3 := hlen.trans (by kernel_rfl)
  match cs, hl with
  | [a, b, c], _ =>
    have k0 : (Try.prog).cellsOf 27 = 1 := by kernel_rfl
    have k1 : (Try.prog).cellsOf 3 = 1 := by kernel_rfl
    simp only [k0, k1, List.drop_zero, List.drop_succ_cons, List.take_succ_cons, List.take_zero] at h0 h1 h2
    obtain ⟨n0, e0, -, -⟩ := DataW.trod_int Try.underlying27 h0
    obtain ⟨n1, e1, -, -⟩ := DataW.trod_int Try.underlying27 h1
    obtain ⟨n2, e2, -, -⟩ := DataW.trod_int Try.underlying3 h2
    simp only [List.cons.injEq, and_true] at e0 e1 e2
    subst e0 e1 e2
    exact ⟨⟨n0, n1, n2⟩, rfl⟩
end Go.Proofs.Ytaanlildniiijaa
