/-
  DERIVED. GIVEN WITH THE SEED: THE CARDS: each row of YtncbjdgcgclnnaaGreatDoorRows.lean that lists a variable, with what it lists TIED to the program's text (the seventh form; the later family's looks); each row that meets fmt, with fmt's text TOLD by the authors' own Lean function (tested against real Go, not proved from fmt's source: count such statements apart). THE CARD IS WHAT COUNTS. Prove the row's statement (the work); the ties are given (YtncbjdgcgclnnaaGreatDoorTie.lean); close each card by the builder's one call (the guide's Derived/Test/ToyasCard.lean, 'card_holds'). Laid BY PROGRAM, IN A SANDBOX (cutbox-door.mjs). By AI agents, Wed Nov 11 2026. No macro, syntax, notation, axiom, sorry.
-/
import Derived.Test.YtncbjdgcgclnnaaGreatDoorRows
import GoSem.ClaimSeven
namespace Go.Proofs.YtncbjdgcgclnnaaGreatDoor
namespace Rows

/-- THE TIED CARD OF 'espalierlaw17.UpdateChecks'. -/
def updateChecksCard : Claim7 := { stood := { row := updateChecksRow, standIns := [], harness := (true, "57d502868b566973810d89595f924bfe99f9f231730f5c1025938144ad640967"), looks := false }, kinds := [], alts := [], laidByText := true, laidKinds := [.data, .pinned], laidTests := true, laidLooks := .later }
def UpdateChecksCardSaid : Prop := Claim7.holds Tryz.pinned (.plain (OpenSpec.ofChange updateChecksSpec)) updateChecksCard

/-- THE TIED CARD OF 'espalierlaw17.UpdateApplies'. -/
def updateAppliesCard : Claim7 := { stood := { row := updateAppliesRow, standIns := [], harness := (true, "57d502868b566973810d89595f924bfe99f9f231730f5c1025938144ad640967"), looks := false }, kinds := [], alts := [], laidByText := true, laidKinds := [.data, .pinned], laidTests := true, laidLooks := .later }
def UpdateAppliesCardSaid : Prop := Claim7.holds Tryz.pinned (.plain (OpenSpec.ofChange updateAppliesSpec)) updateAppliesCard

/-- THE TIED CARD OF 'espalierlaw17.UpdateOnes'. -/
def updateOnesCard : Claim7 := { stood := { row := updateOnesRow, standIns := [], harness := (true, "57d502868b566973810d89595f924bfe99f9f231730f5c1025938144ad640967"), looks := false }, kinds := [], alts := [], laidByText := true, laidKinds := [.data, .pinned], laidTests := true, laidLooks := .later }
def UpdateOnesCardSaid : Prop := Claim7.holds Tryz.pinned (.plain (OpenSpec.ofChange updateOnesSpec)) updateOnesCard

/-- THE SECOND FORM's CARD OF 'espalierlaw17.UpdateChecks'. -/
def updateChecksUptoCard : Claim7 := { stood := { row := updateChecksUptoRow, standIns := [], harness := (true, "57d502868b566973810d89595f924bfe99f9f231730f5c1025938144ad640967"), looks := false }, kinds := [], alts := [], laidByText := true, laidKinds := [.data, .pinned], laidTests := true, laidLooks := .later }
def UpdateChecksUptoCardSaid : Prop := Claim7.holds Tryz.pinned (.plain (OpenSpec.upto updateChecksSpec)) updateChecksUptoCard

/-- THE SECOND FORM's CARD OF 'espalierlaw17.UpdateApplies'. -/
def updateAppliesUptoCard : Claim7 := { stood := { row := updateAppliesUptoRow, standIns := [], harness := (true, "57d502868b566973810d89595f924bfe99f9f231730f5c1025938144ad640967"), looks := false }, kinds := [], alts := [], laidByText := true, laidKinds := [.data, .pinned], laidTests := true, laidLooks := .later }
def UpdateAppliesUptoCardSaid : Prop := Claim7.holds Tryz.pinned (.plain (OpenSpec.upto updateAppliesSpec)) updateAppliesUptoCard

/-- THE SECOND FORM's CARD OF 'espalierlaw17.UpdateOnes'. -/
def updateOnesUptoCard : Claim7 := { stood := { row := updateOnesUptoRow, standIns := [], harness := (true, "57d502868b566973810d89595f924bfe99f9f231730f5c1025938144ad640967"), looks := false }, kinds := [], alts := [], laidByText := true, laidKinds := [.data, .pinned], laidTests := true, laidLooks := .later }
def UpdateOnesUptoCardSaid : Prop := Claim7.holds Tryz.pinned (.plain (OpenSpec.upto updateOnesSpec)) updateOnesUptoCard
end Rows
end Go.Proofs.YtncbjdgcgclnnaaGreatDoor
