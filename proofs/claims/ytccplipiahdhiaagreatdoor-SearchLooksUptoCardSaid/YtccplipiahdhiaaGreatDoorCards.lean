/-
  DERIVED. GIVEN WITH THE SEED: THE CARDS: each row of YtccplipiahdhiaaGreatDoorRows.lean that lists a variable, with what it lists TIED to the program's text (the seventh form; the later family's looks); each row that meets fmt, with fmt's text TOLD by the authors' own Lean function (tested against real Go, not proved from fmt's source: count such statements apart). THE CARD IS WHAT COUNTS. Prove the row's statement (the work); the ties are given (YtccplipiahdhiaaGreatDoorTie.lean); close each card by the builder's one call (the guide's Derived/Test/ToyasCard.lean, 'card_holds'). Laid BY PROGRAM, IN A SANDBOX (cutbox-door.mjs). By AI agents, Wed Nov 11 2026. No macro, syntax, notation, axiom, sorry.
-/
import Derived.Test.YtccplipiahdhiaaGreatDoorRows
import GoSem.ClaimSeven
namespace Go.Proofs.YtccplipiahdhiaaGreatDoor
namespace Rows

/-- THE TIED CARD OF 'espalierlaw26.SearchLooks'. -/
def searchLooksCard : Claim7 := { stood := { row := searchLooksRow, standIns := [], harness := (true, "04de3f7663e2560431304d55be48cee2ee29b8aed9e518128f6e1dc381cd6dfb"), looks := false }, kinds := [], alts := [], laidByText := true, laidKinds := [.data, .pinned], laidTests := true, laidLooks := .later }
def SearchLooksCardSaid : Prop := Claim7.holds Tryz.pinned (.plain (OpenSpec.ofChange searchLooksSpec)) searchLooksCard

/-- THE TIED CARD OF 'espalierlaw26.SearchFinds'. -/
def searchFindsCard : Claim7 := { stood := { row := searchFindsRow, standIns := [], harness := (true, "04de3f7663e2560431304d55be48cee2ee29b8aed9e518128f6e1dc381cd6dfb"), looks := false }, kinds := [], alts := [], laidByText := true, laidKinds := [.data, .pinned], laidTests := true, laidLooks := .later }
def SearchFindsCardSaid : Prop := Claim7.holds Tryz.pinned (.plain (OpenSpec.ofChange searchFindsSpec)) searchFindsCard

/-- THE TIED CARD OF 'espalierlaw26.SearchPhrases'. -/
def searchPhrasesCard : Claim7 := { stood := { row := searchPhrasesRow, standIns := [], harness := (true, "04de3f7663e2560431304d55be48cee2ee29b8aed9e518128f6e1dc381cd6dfb"), looks := false }, kinds := [], alts := [], laidByText := true, laidKinds := [.data, .pinned], laidTests := true, laidLooks := .later }
def SearchPhrasesCardSaid : Prop := Claim7.holds Tryz.pinned (.plain (OpenSpec.ofChange searchPhrasesSpec)) searchPhrasesCard

/-- THE TIED CARD OF 'espalierlaw26.SearchTurned'. -/
def searchTurnedCard : Claim7 := { stood := { row := searchTurnedRow, standIns := [], harness := (true, "04de3f7663e2560431304d55be48cee2ee29b8aed9e518128f6e1dc381cd6dfb"), looks := false }, kinds := [], alts := [], laidByText := true, laidKinds := [.data, .pinned], laidTests := true, laidLooks := .later }
def SearchTurnedCardSaid : Prop := Claim7.holds Tryz.pinned (.plain (OpenSpec.ofChange searchTurnedSpec)) searchTurnedCard

/-- THE TIED CARD OF 'espalierlaw26.SearchSmallest'. -/
def searchSmallestCard : Claim7 := { stood := { row := searchSmallestRow, standIns := [], harness := (true, "04de3f7663e2560431304d55be48cee2ee29b8aed9e518128f6e1dc381cd6dfb"), looks := false }, kinds := [], alts := [], laidByText := true, laidKinds := [.data, .pinned], laidTests := true, laidLooks := .later }
def SearchSmallestCardSaid : Prop := Claim7.holds Tryz.pinned (.plain (OpenSpec.ofChange searchSmallestSpec)) searchSmallestCard

/-- THE TIED CARD OF 'espalierlaw26.SearchTerms'. -/
def searchTermsCard : Claim7 := { stood := { row := searchTermsRow, standIns := [], harness := (true, "04de3f7663e2560431304d55be48cee2ee29b8aed9e518128f6e1dc381cd6dfb"), looks := false }, kinds := [], alts := [], laidByText := true, laidKinds := [.data, .pinned], laidTests := true, laidLooks := .later }
def SearchTermsCardSaid : Prop := Claim7.holds Tryz.pinned (.plain (OpenSpec.ofChange searchTermsSpec)) searchTermsCard

/-- THE SECOND FORM's CARD OF 'espalierlaw26.SearchLooks'. -/
def searchLooksUptoCard : Claim7 := { stood := { row := searchLooksUptoRow, standIns := [], harness := (true, "04de3f7663e2560431304d55be48cee2ee29b8aed9e518128f6e1dc381cd6dfb"), looks := false }, kinds := [], alts := [], laidByText := true, laidKinds := [.data, .pinned], laidTests := true, laidLooks := .later }
def SearchLooksUptoCardSaid : Prop := Claim7.holds Tryz.pinned (.plain (OpenSpec.upto searchLooksSpec)) searchLooksUptoCard

/-- THE SECOND FORM's CARD OF 'espalierlaw26.SearchFinds'. -/
def searchFindsUptoCard : Claim7 := { stood := { row := searchFindsUptoRow, standIns := [], harness := (true, "04de3f7663e2560431304d55be48cee2ee29b8aed9e518128f6e1dc381cd6dfb"), looks := false }, kinds := [], alts := [], laidByText := true, laidKinds := [.data, .pinned], laidTests := true, laidLooks := .later }
def SearchFindsUptoCardSaid : Prop := Claim7.holds Tryz.pinned (.plain (OpenSpec.upto searchFindsSpec)) searchFindsUptoCard

/-- THE SECOND FORM's CARD OF 'espalierlaw26.SearchPhrases'. -/
def searchPhrasesUptoCard : Claim7 := { stood := { row := searchPhrasesUptoRow, standIns := [], harness := (true, "04de3f7663e2560431304d55be48cee2ee29b8aed9e518128f6e1dc381cd6dfb"), looks := false }, kinds := [], alts := [], laidByText := true, laidKinds := [.data, .pinned], laidTests := true, laidLooks := .later }
def SearchPhrasesUptoCardSaid : Prop := Claim7.holds Tryz.pinned (.plain (OpenSpec.upto searchPhrasesSpec)) searchPhrasesUptoCard

/-- THE SECOND FORM's CARD OF 'espalierlaw26.SearchTurned'. -/
def searchTurnedUptoCard : Claim7 := { stood := { row := searchTurnedUptoRow, standIns := [], harness := (true, "04de3f7663e2560431304d55be48cee2ee29b8aed9e518128f6e1dc381cd6dfb"), looks := false }, kinds := [], alts := [], laidByText := true, laidKinds := [.data, .pinned], laidTests := true, laidLooks := .later }
def SearchTurnedUptoCardSaid : Prop := Claim7.holds Tryz.pinned (.plain (OpenSpec.upto searchTurnedSpec)) searchTurnedUptoCard

/-- THE SECOND FORM's CARD OF 'espalierlaw26.SearchSmallest'. -/
def searchSmallestUptoCard : Claim7 := { stood := { row := searchSmallestUptoRow, standIns := [], harness := (true, "04de3f7663e2560431304d55be48cee2ee29b8aed9e518128f6e1dc381cd6dfb"), looks := false }, kinds := [], alts := [], laidByText := true, laidKinds := [.data, .pinned], laidTests := true, laidLooks := .later }
def SearchSmallestUptoCardSaid : Prop := Claim7.holds Tryz.pinned (.plain (OpenSpec.upto searchSmallestSpec)) searchSmallestUptoCard

/-- THE SECOND FORM's CARD OF 'espalierlaw26.SearchTerms'. -/
def searchTermsUptoCard : Claim7 := { stood := { row := searchTermsUptoRow, standIns := [], harness := (true, "04de3f7663e2560431304d55be48cee2ee29b8aed9e518128f6e1dc381cd6dfb"), looks := false }, kinds := [], alts := [], laidByText := true, laidKinds := [.data, .pinned], laidTests := true, laidLooks := .later }
def SearchTermsUptoCardSaid : Prop := Claim7.holds Tryz.pinned (.plain (OpenSpec.upto searchTermsSpec)) searchTermsUptoCard
end Rows
end Go.Proofs.YtccplipiahdhiaaGreatDoor
