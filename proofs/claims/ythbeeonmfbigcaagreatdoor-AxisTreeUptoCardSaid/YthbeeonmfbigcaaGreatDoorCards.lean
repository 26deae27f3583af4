/-
  DERIVED. GIVEN WITH THE SEED: THE CARDS: each row of YthbeeonmfbigcaaGreatDoorRows.lean that lists a variable, with what it lists TIED to the program's text (the seventh form; the later family's looks); each row that meets fmt, with fmt's text TOLD by the authors' own Lean function (tested against real Go, not proved from fmt's source: count such statements apart). THE CARD IS WHAT COUNTS. Prove the row's statement (the work); the ties are given (YthbeeonmfbigcaaGreatDoorTie.lean); close each card by the builder's one call (the guide's Derived/Test/ToyasCard.lean, 'card_holds'). Laid BY PROGRAM, IN A SANDBOX (cutbox-door.mjs). By AI agents, Wed Nov 11 2026. No macro, syntax, notation, axiom, sorry.
-/
import Derived.Test.YthbeeonmfbigcaaGreatDoorRows
import GoSem.ClaimSeven
namespace Go.Proofs.YthbeeonmfbigcaaGreatDoor
namespace Rows

/-- THE TIED CARD OF 'espalierlaw09.AxisTree'. -/
def axisTreeCard : Claim7 := { stood := { row := axisTreeRow, standIns := [], harness := (true, "86216e0f383628f7892e2ae797955525823c04f9673d680a835d8c5e83b2e7f3"), looks := false }, kinds := [], alts := [], laidByText := true, laidKinds := [.data, .pinned], laidTests := true, laidLooks := .later }
def AxisTreeCardSaid : Prop := Claim7.holds Tryz.pinned (.plain (OpenSpec.ofChange axisTreeSpec)) axisTreeCard

/-- THE SECOND FORM's CARD OF 'espalierlaw09.AxisTree'. -/
def axisTreeUptoCard : Claim7 := { stood := { row := axisTreeUptoRow, standIns := [], harness := (true, "86216e0f383628f7892e2ae797955525823c04f9673d680a835d8c5e83b2e7f3"), looks := false }, kinds := [], alts := [], laidByText := true, laidKinds := [.data, .pinned], laidTests := true, laidLooks := .later }
def AxisTreeUptoCardSaid : Prop := Claim7.holds Tryz.pinned (.plain (OpenSpec.upto axisTreeSpec)) axisTreeUptoCard
end Rows
end Go.Proofs.YthbeeonmfbigcaaGreatDoor
