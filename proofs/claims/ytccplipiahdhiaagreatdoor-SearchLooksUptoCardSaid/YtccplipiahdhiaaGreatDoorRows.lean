/-
  NARROWER THAN 'FOR EVERY INPUT', by the rows' own cells (each row's printed sentence says how): SearchLooks: laid · SearchFinds: laid · SearchPhrases: loops, laid · SearchTurned: loops, laid · SearchSmallest: loops, laid · SearchTerms: loops, laid.
  DERIVED. THE GIVEN ROWS OF THIS SEAT. 6 by the template 'for every input the law returns true; each argument reads behind the call as it read before'; 0 by the template 'total and deterministic' (their statements: YtccplipiahdhiaaGreatDoorTotals.lean).
  GIVEN WITH THE SEED: the statements are not yours to turn. If you find one false, say at which input.
  Laid BY PROGRAM, IN A SANDBOX (cutbox-rows.mjs): the forced cells as the released guide's own fill.sh prints them over the translation 722b3400cab43ac4… (all of the seat's roots in one cut). By AI agents, Wed Nov 11 2026. No macro, syntax, notation, axiom, sorry.
-/
import Derived.Test.YtccplipiahdhiaaGreatDoorChecked
import GoSem.PinnedTables
import GoSem.Claim
import GoSem.ClaimJoined
import GoSem.ClaimMapViews
import Derived.JoinedTies
import Derived.KernelRfl
namespace Go.Proofs.YtccplipiahdhiaaGreatDoor
/- THE CELL 'sum', in the pinned program and in every row, IS THE sha256 OF THE DUMP (.gsa) THAT YtccplipiahdhiaaGreatDoorProg.lean LOADS. Nothing in Lean hashes anything: it is a label: what it is worth is what the hold of that sum in a sandbox is worth. -/
noncomputable def Tryz.pinned : Pinned := { name := "ytccplipiahdhiaagreatdoor", sum := "722b3400cab43ac47c86aa5cc3421c87ebe4b0aaa2b9ca09f83696faa419d4b9", checked := Tryz.checked }
namespace Rows
def none {H : Type} : Left H := { results := [], args := [] }

/- WHAT THE LISTED PACKAGE-LEVEL VARIABLES READ AS WHEN THE CALL BEGINS. Each datum BY PROGRAM (the guide's laid-datum.mjs) off the statement by which the dump's own 'gosem.cut.vars' lays the variable. In a bare row this is a premise. The card (YtccplipiahdhiaaGreatDoorCards.lean) ties it to the program's text. -/
def laid_unicode_utf8_acceptRanges {H : Type} : DataW H := .agg [.agg [.lit (.int .u8 128), .lit (.int .u8 191)], .agg [.lit (.int .u8 160), .lit (.int .u8 191)], .agg [.lit (.int .u8 128), .lit (.int .u8 159)], .agg [.lit (.int .u8 144), .lit (.int .u8 191)], .agg [.lit (.int .u8 128), .lit (.int .u8 143)], .agg [.lit (.int .u8 0), .lit (.int .u8 0)], .agg [.lit (.int .u8 0), .lit (.int .u8 0)], .agg [.lit (.int .u8 0), .lit (.int .u8 0)], .agg [.lit (.int .u8 0), .lit (.int .u8 0)], .agg [.lit (.int .u8 0), .lit (.int .u8 0)], .agg [.lit (.int .u8 0), .lit (.int .u8 0)], .agg [.lit (.int .u8 0), .lit (.int .u8 0)], .agg [.lit (.int .u8 0), .lit (.int .u8 0)], .agg [.lit (.int .u8 0), .lit (.int .u8 0)], .agg [.lit (.int .u8 0), .lit (.int .u8 0)], .agg [.lit (.int .u8 0), .lit (.int .u8 0)]]
/-- One of Go's own tables, pinned by name: the form's constant. -/
def laid_unicode_utf8_first : DataW Unit := Go.Pinned.utf8First

/-- 'espalierlaw26.SearchLooks': WHATEVER THE INPUT: true; the input reads as it did. -/
def searchLooksSpec : ChangeSpec := { name := "searchLooks", fn := fun _ => fun
  | [d1, d2] => { results := [.lit (.bool true)], args := [d1, d2] }
  | _ => none }
def searchLooksRow : OpenClaim := { program := "ytccplipiahdhiaagreatdoor", sum := "722b3400cab43ac47c86aa5cc3421c87ebe4b0aaa2b9ca09f83696faa419d4b9", func := "espalier/espalierlaw26.SearchLooks", spec := "searchLooks", inPlace := ["slices.overlaps[*espalier/tree.node]"], unfollowed := true, recurses := true, named := ["unicode/utf8.first", "unicode/utf8.acceptRanges"], apart := false, laid := [("unicode/utf8.acceptRanges", laid_unicode_utf8_acceptRanges), ("unicode/utf8.first", laid_unicode_utf8_first)] }
def SearchLooksSaid : Prop := searchLooksRow.holds Tryz.pinned (OpenSpec.ofChange searchLooksSpec)

/-- ITS FALSE NEIGHBOUR: 'it returns false'. Refute it at one input. -/
def searchLooksWrong : ChangeSpec := { name := "searchLooks", fn := fun _ => fun
  | [d1, d2] => { results := [.lit (.bool false)], args := [d1, d2] }
  | _ => none }
def SearchLooksWrongFalsely : Prop := searchLooksRow.holds Tryz.pinned (OpenSpec.ofChange searchLooksWrong)

/-- 'espalierlaw26.SearchFinds': WHATEVER THE INPUT: true; the input reads as it did. -/
def searchFindsSpec : ChangeSpec := { name := "searchFinds", fn := fun _ => fun
  | [d1, d2, d3, d4] => { results := [.lit (.bool true)], args := [d1, d2, d3, d4] }
  | _ => none }
def searchFindsRow : OpenClaim := { program := "ytccplipiahdhiaagreatdoor", sum := "722b3400cab43ac47c86aa5cc3421c87ebe4b0aaa2b9ca09f83696faa419d4b9", func := "espalier/espalierlaw26.SearchFinds", spec := "searchFinds", inPlace := ["slices.overlaps[*espalier/tree.node]", "internal/bytealg.abigen_runtime_cmpstring"], unfollowed := true, recurses := true, named := ["unicode/utf8.first", "unicode/utf8.acceptRanges"], apart := false, laid := [("unicode/utf8.acceptRanges", laid_unicode_utf8_acceptRanges), ("unicode/utf8.first", laid_unicode_utf8_first)] }
def SearchFindsSaid : Prop := searchFindsRow.holds Tryz.pinned (OpenSpec.ofChange searchFindsSpec)

/-- ITS FALSE NEIGHBOUR: 'it returns false'. Refute it at one input. -/
def searchFindsWrong : ChangeSpec := { name := "searchFinds", fn := fun _ => fun
  | [d1, d2, d3, d4] => { results := [.lit (.bool false)], args := [d1, d2, d3, d4] }
  | _ => none }
def SearchFindsWrongFalsely : Prop := searchFindsRow.holds Tryz.pinned (OpenSpec.ofChange searchFindsWrong)

/-- 'espalierlaw26.SearchPhrases': WHATEVER THE INPUT: true; the input reads as it did. -/
def searchPhrasesSpec : ChangeSpec := { name := "searchPhrases", fn := fun _ => fun
  | [d1, d2] => { results := [.lit (.bool true)], args := [d1, d2] }
  | _ => none }
def searchPhrasesRow : OpenClaim := { program := "ytccplipiahdhiaagreatdoor", sum := "722b3400cab43ac47c86aa5cc3421c87ebe4b0aaa2b9ca09f83696faa419d4b9", func := "espalier/espalierlaw26.SearchPhrases", spec := "searchPhrases", inPlace := ["slices.overlaps[*espalier/tree.node]"], unfollowed := true, recurses := true, named := ["unicode/utf8.first", "unicode/utf8.acceptRanges"], loops := true, apart := false, laid := [("unicode/utf8.acceptRanges", laid_unicode_utf8_acceptRanges), ("unicode/utf8.first", laid_unicode_utf8_first)] }
def SearchPhrasesSaid : Prop := searchPhrasesRow.holds Tryz.pinned (OpenSpec.ofChange searchPhrasesSpec)

/-- ITS FALSE NEIGHBOUR: 'it returns false'. Refute it at one input. -/
def searchPhrasesWrong : ChangeSpec := { name := "searchPhrases", fn := fun _ => fun
  | [d1, d2] => { results := [.lit (.bool false)], args := [d1, d2] }
  | _ => none }
def SearchPhrasesWrongFalsely : Prop := searchPhrasesRow.holds Tryz.pinned (OpenSpec.ofChange searchPhrasesWrong)

/-- 'espalierlaw26.SearchTurned': WHATEVER THE INPUT: true; the input reads as it did. -/
def searchTurnedSpec : ChangeSpec := { name := "searchTurned", fn := fun _ => fun
  | [d1, d2, d3] => { results := [.lit (.bool true)], args := [d1, d2, d3] }
  | _ => none }
def searchTurnedRow : OpenClaim := { program := "ytccplipiahdhiaagreatdoor", sum := "722b3400cab43ac47c86aa5cc3421c87ebe4b0aaa2b9ca09f83696faa419d4b9", func := "espalier/espalierlaw26.SearchTurned", spec := "searchTurned", inPlace := ["slices.overlaps[*espalier/tree.node]"], unfollowed := true, recurses := true, named := ["unicode/utf8.first", "unicode/utf8.acceptRanges"], loops := true, apart := false, laid := [("unicode/utf8.acceptRanges", laid_unicode_utf8_acceptRanges), ("unicode/utf8.first", laid_unicode_utf8_first)] }
def SearchTurnedSaid : Prop := searchTurnedRow.holds Tryz.pinned (OpenSpec.ofChange searchTurnedSpec)

/-- ITS FALSE NEIGHBOUR: 'it returns false'. Refute it at one input. -/
def searchTurnedWrong : ChangeSpec := { name := "searchTurned", fn := fun _ => fun
  | [d1, d2, d3] => { results := [.lit (.bool false)], args := [d1, d2, d3] }
  | _ => none }
def SearchTurnedWrongFalsely : Prop := searchTurnedRow.holds Tryz.pinned (OpenSpec.ofChange searchTurnedWrong)

/-- 'espalierlaw26.SearchSmallest': WHATEVER THE INPUT: true; the input reads as it did. -/
def searchSmallestSpec : ChangeSpec := { name := "searchSmallest", fn := fun _ => fun
  | [d1, d2] => { results := [.lit (.bool true)], args := [d1, d2] }
  | _ => none }
def searchSmallestRow : OpenClaim := { program := "ytccplipiahdhiaagreatdoor", sum := "722b3400cab43ac47c86aa5cc3421c87ebe4b0aaa2b9ca09f83696faa419d4b9", func := "espalier/espalierlaw26.SearchSmallest", spec := "searchSmallest", inPlace := ["slices.overlaps[*espalier/tree.node]"], unfollowed := true, recurses := true, named := ["unicode/utf8.first", "unicode/utf8.acceptRanges"], loops := true, apart := false, laid := [("unicode/utf8.acceptRanges", laid_unicode_utf8_acceptRanges), ("unicode/utf8.first", laid_unicode_utf8_first)] }
def SearchSmallestSaid : Prop := searchSmallestRow.holds Tryz.pinned (OpenSpec.ofChange searchSmallestSpec)

/-- ITS FALSE NEIGHBOUR: 'it returns false'. Refute it at one input. -/
def searchSmallestWrong : ChangeSpec := { name := "searchSmallest", fn := fun _ => fun
  | [d1, d2] => { results := [.lit (.bool false)], args := [d1, d2] }
  | _ => none }
def SearchSmallestWrongFalsely : Prop := searchSmallestRow.holds Tryz.pinned (OpenSpec.ofChange searchSmallestWrong)

/-- 'espalierlaw26.SearchTerms': WHATEVER THE INPUT: true; the input reads as it did. -/
def searchTermsSpec : ChangeSpec := { name := "searchTerms", fn := fun _ => fun
  | [d1, d2] => { results := [.lit (.bool true)], args := [d1, d2] }
  | _ => none }
def searchTermsRow : OpenClaim := { program := "ytccplipiahdhiaagreatdoor", sum := "722b3400cab43ac47c86aa5cc3421c87ebe4b0aaa2b9ca09f83696faa419d4b9", func := "espalier/espalierlaw26.SearchTerms", spec := "searchTerms", inPlace := ["slices.overlaps[*espalier/tree.node]", "internal/bytealg.abigen_runtime_cmpstring"], unfollowed := true, recurses := true, named := ["unicode/utf8.first", "unicode/utf8.acceptRanges"], loops := true, apart := false, laid := [("unicode/utf8.acceptRanges", laid_unicode_utf8_acceptRanges), ("unicode/utf8.first", laid_unicode_utf8_first)] }
def SearchTermsSaid : Prop := searchTermsRow.holds Tryz.pinned (OpenSpec.ofChange searchTermsSpec)

/-- ITS FALSE NEIGHBOUR: 'it returns false'. Refute it at one input. -/
def searchTermsWrong : ChangeSpec := { name := "searchTerms", fn := fun _ => fun
  | [d1, d2] => { results := [.lit (.bool false)], args := [d1, d2] }
  | _ => none }
def SearchTermsWrongFalsely : Prop := searchTermsRow.holds Tryz.pinned (OpenSpec.ofChange searchTermsWrong)

/- THE SECOND FORM. 'bulk': how many values and letters a reading holds, each counted each time it is reached (what is shared counts as often as it is met; a slice's spare places count too). A statement '..UptoSaid' is the law's where the arguments, and the package variables that the reading takes, are together of bulk at most 1048576: NARROWER than '..Said'. Prove '..Said' where nothing that the law and all that it calls make is longer than what came in: it says more and counts as full. Else prove '..UptoSaid'. A law counts once. -/
mutual
def uptoBulk {H : Type} : DataW H → Nat
  | .lit (.string bytes) => bytes.length + 1
  | .lit _ => 1
  | .nil => 1
  | .ptr d => uptoBulk d + 1
  | .slice elems spare => uptoBulkAll elems + uptoBulkAll spare + 1
  | .agg parts => uptoBulkAll parts + 1
  | .iface _ d => uptoBulk d + 1
  | .map entries => uptoBulkEntries entries + 1
  | .held _ => 1
def uptoBulkAll {H : Type} : List (DataW H) → Nat
  | [] => 0
  | d :: r => uptoBulk d + uptoBulkAll r
def uptoBulkEntries {H : Type} : List (Lit × DataW H) → Nat
  | [] => 0
  | x :: r => uptoBulkEntry x + uptoBulkEntries r
def uptoBulkEntry {H : Type} : Lit × DataW H → Nat
  | (.string bytes, d) => bytes.length + uptoBulk d + 1
  | (_, d) => uptoBulk d + 1
 end
def uptoSmall : (H : Type) → List (DataW H) → Bool := fun _ ds => decide (uptoBulkAll ds ≤ 1048576)
def OpenSpec.upto (s : _root_.Go.ChangeSpec) : _root_.Go.OpenSpec := { _root_.Go.OpenSpec.ofChange s with cond := some uptoSmall }

/-- 'espalierlaw26.SearchLooks', WHERE WHAT IT READS IS OF BULK AT MOST 1048576: true; the input reads as it did. -/
def searchLooksUptoRow : OpenClaim := { program := "ytccplipiahdhiaagreatdoor", sum := "722b3400cab43ac47c86aa5cc3421c87ebe4b0aaa2b9ca09f83696faa419d4b9", func := "espalier/espalierlaw26.SearchLooks", spec := "searchLooks", inPlace := ["slices.overlaps[*espalier/tree.node]"], unfollowed := true, recurses := true, named := ["unicode/utf8.first", "unicode/utf8.acceptRanges"], apart := false, laid := [("unicode/utf8.acceptRanges", laid_unicode_utf8_acceptRanges), ("unicode/utf8.first", laid_unicode_utf8_first)], narrowed := true }
def SearchLooksUptoSaid : Prop := searchLooksUptoRow.holds Tryz.pinned (OpenSpec.upto searchLooksSpec)

/-- 'espalierlaw26.SearchFinds', WHERE WHAT IT READS IS OF BULK AT MOST 1048576: true; the input reads as it did. -/
def searchFindsUptoRow : OpenClaim := { program := "ytccplipiahdhiaagreatdoor", sum := "722b3400cab43ac47c86aa5cc3421c87ebe4b0aaa2b9ca09f83696faa419d4b9", func := "espalier/espalierlaw26.SearchFinds", spec := "searchFinds", inPlace := ["slices.overlaps[*espalier/tree.node]", "internal/bytealg.abigen_runtime_cmpstring"], unfollowed := true, recurses := true, named := ["unicode/utf8.first", "unicode/utf8.acceptRanges"], apart := false, laid := [("unicode/utf8.acceptRanges", laid_unicode_utf8_acceptRanges), ("unicode/utf8.first", laid_unicode_utf8_first)], narrowed := true }
def SearchFindsUptoSaid : Prop := searchFindsUptoRow.holds Tryz.pinned (OpenSpec.upto searchFindsSpec)

/-- 'espalierlaw26.SearchPhrases', WHERE WHAT IT READS IS OF BULK AT MOST 1048576: true; the input reads as it did. -/
def searchPhrasesUptoRow : OpenClaim := { program := "ytccplipiahdhiaagreatdoor", sum := "722b3400cab43ac47c86aa5cc3421c87ebe4b0aaa2b9ca09f83696faa419d4b9", func := "espalier/espalierlaw26.SearchPhrases", spec := "searchPhrases", inPlace := ["slices.overlaps[*espalier/tree.node]"], unfollowed := true, recurses := true, named := ["unicode/utf8.first", "unicode/utf8.acceptRanges"], loops := true, apart := false, laid := [("unicode/utf8.acceptRanges", laid_unicode_utf8_acceptRanges), ("unicode/utf8.first", laid_unicode_utf8_first)], narrowed := true }
def SearchPhrasesUptoSaid : Prop := searchPhrasesUptoRow.holds Tryz.pinned (OpenSpec.upto searchPhrasesSpec)

/-- 'espalierlaw26.SearchTurned', WHERE WHAT IT READS IS OF BULK AT MOST 1048576: true; the input reads as it did. -/
def searchTurnedUptoRow : OpenClaim := { program := "ytccplipiahdhiaagreatdoor", sum := "722b3400cab43ac47c86aa5cc3421c87ebe4b0aaa2b9ca09f83696faa419d4b9", func := "espalier/espalierlaw26.SearchTurned", spec := "searchTurned", inPlace := ["slices.overlaps[*espalier/tree.node]"], unfollowed := true, recurses := true, named := ["unicode/utf8.first", "unicode/utf8.acceptRanges"], loops := true, apart := false, laid := [("unicode/utf8.acceptRanges", laid_unicode_utf8_acceptRanges), ("unicode/utf8.first", laid_unicode_utf8_first)], narrowed := true }
def SearchTurnedUptoSaid : Prop := searchTurnedUptoRow.holds Tryz.pinned (OpenSpec.upto searchTurnedSpec)

/-- 'espalierlaw26.SearchSmallest', WHERE WHAT IT READS IS OF BULK AT MOST 1048576: true; the input reads as it did. -/
def searchSmallestUptoRow : OpenClaim := { program := "ytccplipiahdhiaagreatdoor", sum := "722b3400cab43ac47c86aa5cc3421c87ebe4b0aaa2b9ca09f83696faa419d4b9", func := "espalier/espalierlaw26.SearchSmallest", spec := "searchSmallest", inPlace := ["slices.overlaps[*espalier/tree.node]"], unfollowed := true, recurses := true, named := ["unicode/utf8.first", "unicode/utf8.acceptRanges"], loops := true, apart := false, laid := [("unicode/utf8.acceptRanges", laid_unicode_utf8_acceptRanges), ("unicode/utf8.first", laid_unicode_utf8_first)], narrowed := true }
def SearchSmallestUptoSaid : Prop := searchSmallestUptoRow.holds Tryz.pinned (OpenSpec.upto searchSmallestSpec)

/-- 'espalierlaw26.SearchTerms', WHERE WHAT IT READS IS OF BULK AT MOST 1048576: true; the input reads as it did. -/
def searchTermsUptoRow : OpenClaim := { program := "ytccplipiahdhiaagreatdoor", sum := "722b3400cab43ac47c86aa5cc3421c87ebe4b0aaa2b9ca09f83696faa419d4b9", func := "espalier/espalierlaw26.SearchTerms", spec := "searchTerms", inPlace := ["slices.overlaps[*espalier/tree.node]", "internal/bytealg.abigen_runtime_cmpstring"], unfollowed := true, recurses := true, named := ["unicode/utf8.first", "unicode/utf8.acceptRanges"], loops := true, apart := false, laid := [("unicode/utf8.acceptRanges", laid_unicode_utf8_acceptRanges), ("unicode/utf8.first", laid_unicode_utf8_first)], narrowed := true }
def SearchTermsUptoSaid : Prop := searchTermsUptoRow.holds Tryz.pinned (OpenSpec.upto searchTermsSpec)

end Rows
end Go.Proofs.YtccplipiahdhiaaGreatDoor
