/-
  DERIVED. GIVEN WITH THE SEED: THE CARDS: each row of YtfhkgnfphfmhiaaGreatDoorRows.lean that lists a variable, with what it lists TIED to the program's text (the seventh form; the later family's looks); each row that meets fmt, with fmt's text TOLD by the authors' own Lean function (tested against real Go, not proved from fmt's source: count such statements apart). THE CARD IS WHAT COUNTS. Prove the row's statement (the work); the ties are given (YtfhkgnfphfmhiaaGreatDoorTie.lean); close each card by the builder's one call (the guide's Derived/Test/ToyasCard.lean, 'card_holds'). Laid BY PROGRAM, IN A SANDBOX (cutbox-door.mjs). By AI agents, Wed Nov 11 2026. No macro, syntax, notation, axiom, sorry.
-/
import Derived.Test.YtfhkgnfphfmhiaaGreatDoorRows
import GoSem.ClaimSeven
namespace Go.Proofs.YtfhkgnfphfmhiaaGreatDoor
namespace Rows

/-- THE TIED CARD OF 'espalierlaw28.LocksBoth'. -/
def locksBothCard : Claim7 := { stood := { row := locksBothRow, standIns := [], harness := (true, "bf69c2acee2792f965e608dcea5c91ee00043dcf390fbc60169014928348fa76"), looks := false }, kinds := [], alts := [], laidByText := true, laidKinds := [.data, .pinned], laidTests := true, laidLooks := .later }
def LocksBothCardSaid : Prop := Claim7.holds Tryz.pinned (.plain (OpenSpec.ofChange locksBothSpec)) locksBothCard

/-- THE TIED CARD OF 'espalierlaw28.LocksApart'. -/
def locksApartCard : Claim7 := { stood := { row := locksApartRow, standIns := [], harness := (true, "bf69c2acee2792f965e608dcea5c91ee00043dcf390fbc60169014928348fa76"), looks := false }, kinds := [], alts := [], laidByText := true, laidKinds := [.data, .pinned], laidTests := true, laidLooks := .later }
def LocksApartCardSaid : Prop := Claim7.holds Tryz.pinned (.plain (OpenSpec.ofChange locksApartSpec)) locksApartCard

/-- THE TIED CARD OF 'espalierlaw28.LocksFree'. -/
def locksFreeCard : Claim7 := { stood := { row := locksFreeRow, standIns := [], harness := (true, "bf69c2acee2792f965e608dcea5c91ee00043dcf390fbc60169014928348fa76"), looks := false }, kinds := [], alts := [], laidByText := true, laidKinds := [.data, .pinned], laidTests := true, laidLooks := .later }
def LocksFreeCardSaid : Prop := Claim7.holds Tryz.pinned (.plain (OpenSpec.ofChange locksFreeSpec)) locksFreeCard

/-- THE TIED CARD OF 'espalierlaw28.LocksAll'. -/
def locksAllCard : Claim7 := { stood := { row := locksAllRow, standIns := [], harness := (true, "bf69c2acee2792f965e608dcea5c91ee00043dcf390fbc60169014928348fa76"), looks := false }, kinds := [], alts := [], laidByText := true, laidKinds := [.data, .pinned], laidTests := true, laidLooks := .later }
def LocksAllCardSaid : Prop := Claim7.holds Tryz.pinned (.plain (OpenSpec.ofChange locksAllSpec)) locksAllCard

/-- THE TIED CARD OF 'espalierlaw28.LocksFit'. -/
def locksFitCard : Claim7 := { stood := { row := locksFitRow, standIns := [], harness := (true, "bf69c2acee2792f965e608dcea5c91ee00043dcf390fbc60169014928348fa76"), looks := false }, kinds := [], alts := [], laidByText := true, laidKinds := [.data, .pinned], laidTests := true, laidLooks := .later }
def LocksFitCardSaid : Prop := Claim7.holds Tryz.pinned (.plain (OpenSpec.ofChange locksFitSpec)) locksFitCard

/-- THE SECOND FORM's CARD OF 'espalierlaw28.LocksBoth'. -/
def locksBothUptoCard : Claim7 := { stood := { row := locksBothUptoRow, standIns := [], harness := (true, "bf69c2acee2792f965e608dcea5c91ee00043dcf390fbc60169014928348fa76"), looks := false }, kinds := [], alts := [], laidByText := true, laidKinds := [.data, .pinned], laidTests := true, laidLooks := .later }
def LocksBothUptoCardSaid : Prop := Claim7.holds Tryz.pinned (.plain (OpenSpec.upto locksBothSpec)) locksBothUptoCard

/-- THE SECOND FORM's CARD OF 'espalierlaw28.LocksApart'. -/
def locksApartUptoCard : Claim7 := { stood := { row := locksApartUptoRow, standIns := [], harness := (true, "bf69c2acee2792f965e608dcea5c91ee00043dcf390fbc60169014928348fa76"), looks := false }, kinds := [], alts := [], laidByText := true, laidKinds := [.data, .pinned], laidTests := true, laidLooks := .later }
def LocksApartUptoCardSaid : Prop := Claim7.holds Tryz.pinned (.plain (OpenSpec.upto locksApartSpec)) locksApartUptoCard

/-- THE SECOND FORM's CARD OF 'espalierlaw28.LocksFree'. -/
def locksFreeUptoCard : Claim7 := { stood := { row := locksFreeUptoRow, standIns := [], harness := (true, "bf69c2acee2792f965e608dcea5c91ee00043dcf390fbc60169014928348fa76"), looks := false }, kinds := [], alts := [], laidByText := true, laidKinds := [.data, .pinned], laidTests := true, laidLooks := .later }
def LocksFreeUptoCardSaid : Prop := Claim7.holds Tryz.pinned (.plain (OpenSpec.upto locksFreeSpec)) locksFreeUptoCard

/-- THE SECOND FORM's CARD OF 'espalierlaw28.LocksAll'. -/
def locksAllUptoCard : Claim7 := { stood := { row := locksAllUptoRow, standIns := [], harness := (true, "bf69c2acee2792f965e608dcea5c91ee00043dcf390fbc60169014928348fa76"), looks := false }, kinds := [], alts := [], laidByText := true, laidKinds := [.data, .pinned], laidTests := true, laidLooks := .later }
def LocksAllUptoCardSaid : Prop := Claim7.holds Tryz.pinned (.plain (OpenSpec.upto locksAllSpec)) locksAllUptoCard

/-- THE SECOND FORM's CARD OF 'espalierlaw28.LocksFit'. -/
def locksFitUptoCard : Claim7 := { stood := { row := locksFitUptoRow, standIns := [], harness := (true, "bf69c2acee2792f965e608dcea5c91ee00043dcf390fbc60169014928348fa76"), looks := false }, kinds := [], alts := [], laidByText := true, laidKinds := [.data, .pinned], laidTests := true, laidLooks := .later }
def LocksFitUptoCardSaid : Prop := Claim7.holds Tryz.pinned (.plain (OpenSpec.upto locksFitSpec)) locksFitUptoCard
end Rows
end Go.Proofs.YtfhkgnfphfmhiaaGreatDoor
