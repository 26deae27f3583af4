/- A list of texts as an argument. -/
import Derived.Test.YtaanlildniiijaaOpen
import Derived.Test.YtaanlildniiijaaMdLaw
import Derived.Lib.SmallJoins
namespace Go.Proofs.Ytaanlildniiijaa
open Go.RowKit Go.Deep Go.WideShapes Go.ChangeShapes Go.Vc Go.Mdl
theorem st_cells {H : Type} {enc : TypeId × Value → H} {W : World} (n : Nat) (cs : List Value) (x : DataW H × List MemPlace)
    (h : DataW.trod enc Try.prog W 0 (fun _ => true) true n 9 cs = some x) : ∃ y : ByteArray, cs = LSt.cells y := by
  obtain ⟨s, rfl, -, -⟩ := DataW.trod_string Try.underlying9 h
  exact ⟨s, rfl⟩
end Go.Proofs.Ytaanlildniiijaa
