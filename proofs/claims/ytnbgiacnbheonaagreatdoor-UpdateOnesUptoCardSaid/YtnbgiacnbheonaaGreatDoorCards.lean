/-
  DERIVED. GIVEN WITH THE SEED: THE CARDS: each row of YtnbgiacnbheonaaGreatDoorRows.lean that lists a variable, with what it lists TIED to the program's text (the seventh form; the later family's looks); each row that meets fmt, with fmt's text TOLD by the authors' own Lean function (tested against real Go, not proved from fmt's source: count such statements apart). THE CARD IS WHAT COUNTS. Prove the row's statement (the work); the ties are given (YtnbgiacnbheonaaGreatDoorTie.lean); close each card by the builder's one call (the guide's Derived/Test/ToyasCard.lean, 'card_holds'). Laid BY PROGRAM, IN A SANDBOX (cutbox-door.mjs). By AI agents, Wed Nov 11 2026. No macro, syntax, notation, axiom, sorry.
-/
import Derived.Test.YtnbgiacnbheonaaGreatDoorRows
import GoSem.ClaimSeven
namespace Go.Proofs.YtnbgiacnbheonaaGreatDoor
namespace Rows

/-- THE TIED CARD OF 'espalierlaw25.MergeOne'. -/
def mergeOneCard : Claim7 := { stood := { row := mergeOneRow, standIns := [], harness := (true, "f926e4fd43a049fd646e14226b928eda794f101b4f18503bab024b5fc9d3ae9e"), looks := false }, kinds := [], alts := [], laidByText := true, laidKinds := [.data, .pinned], laidTests := true, laidLooks := .later }
def MergeOneCardSaid : Prop := Claim7.holds Tryz.pinned (.plain (OpenSpec.ofChange mergeOneSpec)) mergeOneCard

/-- THE TIED CARD OF 'espalierlaw17.UpdateApplies'. -/
def updateAppliesCard : Claim7 := { stood := { row := updateAppliesRow, standIns := [], harness := (true, "f926e4fd43a049fd646e14226b928eda794f101b4f18503bab024b5fc9d3ae9e"), looks := false }, kinds := [], alts := [], laidByText := true, laidKinds := [.data, .pinned], laidTests := true, laidLooks := .later }
def UpdateAppliesCardSaid : Prop := Claim7.holds Tryz.pinned (.plain (OpenSpec.ofChange updateAppliesSpec)) updateAppliesCard

/-- THE TIED CARD OF 'espalierlaw17.UpdateOnes'. -/
def updateOnesCard : Claim7 := { stood := { row := updateOnesRow, standIns := [], harness := (true, "f926e4fd43a049fd646e14226b928eda794f101b4f18503bab024b5fc9d3ae9e"), looks := false }, kinds := [], alts := [], laidByText := true, laidKinds := [.data, .pinned], laidTests := true, laidLooks := .later }
def UpdateOnesCardSaid : Prop := Claim7.holds Tryz.pinned (.plain (OpenSpec.ofChange updateOnesSpec)) updateOnesCard

/-- THE TIED CARD OF 'espalierlaw25.MergeTouches'. -/
def mergeTouchesCard : Claim7 := { stood := { row := mergeTouchesRow, standIns := [], harness := (true, "f926e4fd43a049fd646e14226b928eda794f101b4f18503bab024b5fc9d3ae9e"), looks := false }, kinds := [], alts := [], laidByText := true, laidKinds := [.data, .pinned], laidTests := true, laidLooks := .later }
def MergeTouchesCardSaid : Prop := Claim7.holds Tryz.pinned (.plain (OpenSpec.ofChange mergeTouchesSpec)) mergeTouchesCard

/-- THE SECOND FORM's CARD OF 'espalierlaw25.MergeOne'. -/
def mergeOneUptoCard : Claim7 := { stood := { row := mergeOneUptoRow, standIns := [], harness := (true, "f926e4fd43a049fd646e14226b928eda794f101b4f18503bab024b5fc9d3ae9e"), looks := false }, kinds := [], alts := [], laidByText := true, laidKinds := [.data, .pinned], laidTests := true, laidLooks := .later }
def MergeOneUptoCardSaid : Prop := Claim7.holds Tryz.pinned (.plain (OpenSpec.upto mergeOneSpec)) mergeOneUptoCard

/-- THE SECOND FORM's CARD OF 'espalierlaw17.UpdateApplies'. -/
def updateAppliesUptoCard : Claim7 := { stood := { row := updateAppliesUptoRow, standIns := [], harness := (true, "f926e4fd43a049fd646e14226b928eda794f101b4f18503bab024b5fc9d3ae9e"), looks := false }, kinds := [], alts := [], laidByText := true, laidKinds := [.data, .pinned], laidTests := true, laidLooks := .later }
def UpdateAppliesUptoCardSaid : Prop := Claim7.holds Tryz.pinned (.plain (OpenSpec.upto updateAppliesSpec)) updateAppliesUptoCard

/-- THE SECOND FORM's CARD OF 'espalierlaw17.UpdateOnes'. -/
def updateOnesUptoCard : Claim7 := { stood := { row := updateOnesUptoRow, standIns := [], harness := (true, "f926e4fd43a049fd646e14226b928eda794f101b4f18503bab024b5fc9d3ae9e"), looks := false }, kinds := [], alts := [], laidByText := true, laidKinds := [.data, .pinned], laidTests := true, laidLooks := .later }
def UpdateOnesUptoCardSaid : Prop := Claim7.holds Tryz.pinned (.plain (OpenSpec.upto updateOnesSpec)) updateOnesUptoCard

/-- THE SECOND FORM's CARD OF 'espalierlaw25.MergeTouches'. -/
def mergeTouchesUptoCard : Claim7 := { stood := { row := mergeTouchesUptoRow, standIns := [], harness := (true, "f926e4fd43a049fd646e14226b928eda794f101b4f18503bab024b5fc9d3ae9e"), looks := false }, kinds := [], alts := [], laidByText := true, laidKinds := [.data, .pinned], laidTests := true, laidLooks := .later }
def MergeTouchesUptoCardSaid : Prop := Claim7.holds Tryz.pinned (.plain (OpenSpec.upto mergeTouchesSpec)) mergeTouchesUptoCard
end Rows
end Go.Proofs.YtnbgiacnbheonaaGreatDoor
