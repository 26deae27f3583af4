/-
  DERIVED. GIVEN WITH THE SEED: THE CARDS: each row of YtaanlildniiijaaDoorRows.lean that lists a variable, with what it lists TIED to the program's text (the seventh form; the later family's looks); each row that meets fmt, with fmt's text TOLD by the authors' own Lean function (tested against real Go, not proved from fmt's source: count such statements apart). THE CARD IS WHAT COUNTS. Prove the row's statement (the work); the ties are given (YtaanlildniiijaaDoorTie.lean); close each card by the builder's one call (the guide's Derived/Test/ToyasCard.lean, 'card_holds'). Laid BY PROGRAM, IN A SANDBOX (cutbox-door.mjs). By AI agents, Wed Nov 11 2026. No macro, syntax, notation, axiom, sorry.
-/
import Derived.Test.YtaanlildniiijaaDoorRows
import GoSem.ClaimSeven
namespace Go.Proofs.YtaanlildniiijaaDoor
namespace Rows

/-- THE TIED CARD OF 'espalierlaw26.SearchWords'. -/
def searchWordsCard : Claim7 := { stood := { row := searchWordsRow, standIns := [], harness := (true, "ebfdd0f9b7fb25660099f88ca8194ff9690339ec869c32a3f730bf92aa6b479d"), looks := false }, kinds := [], alts := [], laidByText := true, laidKinds := [.data, .pinned], laidTests := true, laidLooks := .later }
def SearchWordsCardSaid : Prop := Claim7.holds Tryd.pinned (.plain (OpenSpec.ofChange searchWordsSpec)) searchWordsCard

/-- THE SECOND FORM's CARD OF 'espalierlaw26.SearchWords'. -/
def searchWordsUptoCard : Claim7 := { stood := { row := searchWordsUptoRow, standIns := [], harness := (true, "ebfdd0f9b7fb25660099f88ca8194ff9690339ec869c32a3f730bf92aa6b479d"), looks := false }, kinds := [], alts := [], laidByText := true, laidKinds := [.data, .pinned], laidTests := true, laidLooks := .later }
def SearchWordsUptoCardSaid : Prop := Claim7.holds Tryd.pinned (.plain (OpenSpec.upto searchWordsSpec)) searchWordsUptoCard
end Rows
end Go.Proofs.YtaanlildniiijaaDoor
