/-
  NARROWER THAN 'FOR EVERY INPUT', by the rows' own cells (each row's printed sentence says how): MergeOne: loops, laid · UpdateApplies: loops, laid · UpdateOnes: loops, laid · MergeTouches: loops, laid.
  DERIVED. THE GIVEN ROWS OF THIS SEAT. 4 by the template 'for every input the law returns true; each argument reads behind the call as it read before'; 0 by the template 'total and deterministic' (their statements: YtnbgiacnbheonaaGreatDoorTotals.lean).
  GIVEN WITH THE SEED: the statements are not yours to turn. If you find one false, say at which input.
  Laid BY PROGRAM, IN A SANDBOX (cutbox-rows.mjs): the forced cells as the released guide's own fill.sh prints them over the translation d91e35f63d849de8… (all of the seat's roots in one cut). By AI agents, Wed Nov 11 2026. No macro, syntax, notation, axiom, sorry.
-/
import Derived.Test.YtnbgiacnbheonaaGreatDoorChecked
import GoSem.PinnedTables
import GoSem.Claim
import GoSem.ClaimJoined
import GoSem.ClaimMapViews
import Derived.JoinedTies
import Derived.KernelRfl
namespace Go.Proofs.YtnbgiacnbheonaaGreatDoor
/- THE CELL 'sum', in the pinned program and in every row, IS THE sha256 OF THE DUMP (.gsa) THAT YtnbgiacnbheonaaGreatDoorProg.lean LOADS. Nothing in Lean hashes anything: it is a label: what it is worth is what the hold of that sum in a sandbox is worth. -/
noncomputable def Tryz.pinned : Pinned := { name := "ytnbgiacnbheonaagreatdoor", sum := "d91e35f63d849de8a61f2b590088fb2d303605a487d6dea12b9f5225c9f707ed", checked := Tryz.checked }
namespace Rows
def none {H : Type} : Left H := { results := [], args := [] }

/- WHAT THE LISTED PACKAGE-LEVEL VARIABLES READ AS WHEN THE CALL BEGINS. Each datum BY PROGRAM (the guide's laid-datum.mjs) off the statement by which the dump's own 'gosem.cut.vars' lays the variable. In a bare row this is a premise. The card (YtnbgiacnbheonaaGreatDoorCards.lean) ties it to the program's text. -/
def laid_unicode_utf8_acceptRanges {H : Type} : DataW H := .agg [.agg [.lit (.int .u8 128), .lit (.int .u8 191)], .agg [.lit (.int .u8 160), .lit (.int .u8 191)], .agg [.lit (.int .u8 128), .lit (.int .u8 159)], .agg [.lit (.int .u8 144), .lit (.int .u8 191)], .agg [.lit (.int .u8 128), .lit (.int .u8 143)], .agg [.lit (.int .u8 0), .lit (.int .u8 0)], .agg [.lit (.int .u8 0), .lit (.int .u8 0)], .agg [.lit (.int .u8 0), .lit (.int .u8 0)], .agg [.lit (.int .u8 0), .lit (.int .u8 0)], .agg [.lit (.int .u8 0), .lit (.int .u8 0)], .agg [.lit (.int .u8 0), .lit (.int .u8 0)], .agg [.lit (.int .u8 0), .lit (.int .u8 0)], .agg [.lit (.int .u8 0), .lit (.int .u8 0)], .agg [.lit (.int .u8 0), .lit (.int .u8 0)], .agg [.lit (.int .u8 0), .lit (.int .u8 0)], .agg [.lit (.int .u8 0), .lit (.int .u8 0)]]
/-- One of Go's own tables, pinned by name: the form's constant. -/
def laid_unicode_utf8_first : DataW Unit := Go.Pinned.utf8First

/-- 'espalierlaw25.MergeOne': WHATEVER THE INPUT: true; the input reads as it did. -/
def mergeOneSpec : ChangeSpec := { name := "mergeOne", fn := fun _ => fun
  | [d1, d2] => { results := [.lit (.bool true)], args := [d1, d2] }
  | _ => none }
def mergeOneRow : OpenClaim := { program := "ytnbgiacnbheonaagreatdoor", sum := "d91e35f63d849de8a61f2b590088fb2d303605a487d6dea12b9f5225c9f707ed", func := "espalier/espalierlaw25.MergeOne", spec := "mergeOne", inPlace := ["slices.overlaps[*espalier/tree.node]", "internal/bytealg.abigen_runtime_cmpstring", "slices.overlaps[espalier/api.Attr]"], unfollowed := true, recurses := true, named := ["unicode/utf8.first", "unicode/utf8.acceptRanges"], loops := true, plainKeys := false, apart := false, laid := [("unicode/utf8.acceptRanges", laid_unicode_utf8_acceptRanges), ("unicode/utf8.first", laid_unicode_utf8_first)] }
def MergeOneSaid : Prop := mergeOneRow.holds Tryz.pinned (OpenSpec.ofChange mergeOneSpec)

/-- ITS FALSE NEIGHBOUR: 'it returns false'. Refute it at one input. -/
def mergeOneWrong : ChangeSpec := { name := "mergeOne", fn := fun _ => fun
  | [d1, d2] => { results := [.lit (.bool false)], args := [d1, d2] }
  | _ => none }
def MergeOneWrongFalsely : Prop := mergeOneRow.holds Tryz.pinned (OpenSpec.ofChange mergeOneWrong)

/-- 'espalierlaw17.UpdateApplies': WHATEVER THE INPUT: true; the input reads as it did. -/
def updateAppliesSpec : ChangeSpec := { name := "updateApplies", fn := fun _ => fun
  | [d1, d2, d3] => { results := [.lit (.bool true)], args := [d1, d2, d3] }
  | _ => none }
def updateAppliesRow : OpenClaim := { program := "ytnbgiacnbheonaagreatdoor", sum := "d91e35f63d849de8a61f2b590088fb2d303605a487d6dea12b9f5225c9f707ed", func := "espalier/espalierlaw17.UpdateApplies", spec := "updateApplies", inPlace := ["internal/bytealg.abigen_runtime_cmpstring", "slices.overlaps[espalier/api.Attr]", "slices.overlaps[*espalier/tree.node]"], unfollowed := true, recurses := true, named := ["unicode/utf8.first", "unicode/utf8.acceptRanges"], loops := true, plainKeys := false, apart := false, laid := [("unicode/utf8.acceptRanges", laid_unicode_utf8_acceptRanges), ("unicode/utf8.first", laid_unicode_utf8_first)] }
def UpdateAppliesSaid : Prop := updateAppliesRow.holds Tryz.pinned (OpenSpec.ofChange updateAppliesSpec)

/-- ITS FALSE NEIGHBOUR: 'it returns false'. Refute it at one input. -/
def updateAppliesWrong : ChangeSpec := { name := "updateApplies", fn := fun _ => fun
  | [d1, d2, d3] => { results := [.lit (.bool false)], args := [d1, d2, d3] }
  | _ => none }
def UpdateAppliesWrongFalsely : Prop := updateAppliesRow.holds Tryz.pinned (OpenSpec.ofChange updateAppliesWrong)

/-- 'espalierlaw17.UpdateOnes': WHATEVER THE INPUT: true; the input reads as it did. -/
def updateOnesSpec : ChangeSpec := { name := "updateOnes", fn := fun _ => fun
  | [d1, d2, d3] => { results := [.lit (.bool true)], args := [d1, d2, d3] }
  | _ => none }
def updateOnesRow : OpenClaim := { program := "ytnbgiacnbheonaagreatdoor", sum := "d91e35f63d849de8a61f2b590088fb2d303605a487d6dea12b9f5225c9f707ed", func := "espalier/espalierlaw17.UpdateOnes", spec := "updateOnes", inPlace := ["internal/bytealg.abigen_runtime_cmpstring", "slices.overlaps[espalier/api.Attr]", "slices.overlaps[*espalier/tree.node]"], unfollowed := true, recurses := true, named := ["unicode/utf8.first", "unicode/utf8.acceptRanges"], loops := true, plainKeys := false, apart := false, laid := [("unicode/utf8.acceptRanges", laid_unicode_utf8_acceptRanges), ("unicode/utf8.first", laid_unicode_utf8_first)] }
def UpdateOnesSaid : Prop := updateOnesRow.holds Tryz.pinned (OpenSpec.ofChange updateOnesSpec)

/-- ITS FALSE NEIGHBOUR: 'it returns false'. Refute it at one input. -/
def updateOnesWrong : ChangeSpec := { name := "updateOnes", fn := fun _ => fun
  | [d1, d2, d3] => { results := [.lit (.bool false)], args := [d1, d2, d3] }
  | _ => none }
def UpdateOnesWrongFalsely : Prop := updateOnesRow.holds Tryz.pinned (OpenSpec.ofChange updateOnesWrong)

/-- 'espalierlaw25.MergeTouches': WHATEVER THE INPUT: true; the input reads as it did. -/
def mergeTouchesSpec : ChangeSpec := { name := "mergeTouches", fn := fun _ => fun
  | [d1, d2, d3] => { results := [.lit (.bool true)], args := [d1, d2, d3] }
  | _ => none }
def mergeTouchesRow : OpenClaim := { program := "ytnbgiacnbheonaagreatdoor", sum := "d91e35f63d849de8a61f2b590088fb2d303605a487d6dea12b9f5225c9f707ed", func := "espalier/espalierlaw25.MergeTouches", spec := "mergeTouches", inPlace := ["slices.overlaps[*espalier/tree.node]", "internal/bytealg.abigen_runtime_cmpstring", "slices.overlaps[espalier/api.Attr]"], unfollowed := true, recurses := true, named := ["unicode/utf8.first", "unicode/utf8.acceptRanges"], loops := true, plainKeys := false, apart := false, laid := [("unicode/utf8.acceptRanges", laid_unicode_utf8_acceptRanges), ("unicode/utf8.first", laid_unicode_utf8_first)] }
def MergeTouchesSaid : Prop := mergeTouchesRow.holds Tryz.pinned (OpenSpec.ofChange mergeTouchesSpec)

/-- ITS FALSE NEIGHBOUR: 'it returns false'. Refute it at one input. -/
def mergeTouchesWrong : ChangeSpec := { name := "mergeTouches", fn := fun _ => fun
  | [d1, d2, d3] => { results := [.lit (.bool false)], args := [d1, d2, d3] }
  | _ => none }
def MergeTouchesWrongFalsely : Prop := mergeTouchesRow.holds Tryz.pinned (OpenSpec.ofChange mergeTouchesWrong)

/- THE SECOND FORM. 'bulk': how many values and letters a reading holds, each counted each time it is reached (what is shared counts as often as it is met; a slice's spare places count too). A statement '..UptoSaid' is the law's where the arguments, and the package variables that the reading takes, are together of bulk at most 1048576: NARROWER than '..Said'. Prove '..Said' where nothing that the law and all that it calls make is longer than what came in: it says more and counts as full. Else prove '..UptoSaid'. A law counts once. -/
mutual
def uptoBulk {H : Type} : DataW H → Nat
  | .lit (.string bytes) => bytes.length + 1
  | .lit _ => 1
  | .nil => 1
  | .ptr d => uptoBulk d + 1
  | .slice elems spare => uptoBulkAll elems + uptoBulkAll spare + 1
  | .agg parts => uptoBulkAll parts + 1
  | .iface _ d => uptoBulk d + 1
  | .map entries => uptoBulkEntries entries + 1
  | .held _ => 1
def uptoBulkAll {H : Type} : List (DataW H) → Nat
  | [] => 0
  | d :: r => uptoBulk d + uptoBulkAll r
def uptoBulkEntries {H : Type} : List (Lit × DataW H) → Nat
  | [] => 0
  | x :: r => uptoBulkEntry x + uptoBulkEntries r
def uptoBulkEntry {H : Type} : Lit × DataW H → Nat
  | (.string bytes, d) => bytes.length + uptoBulk d + 1
  | (_, d) => uptoBulk d + 1
 end
def uptoSmall : (H : Type) → List (DataW H) → Bool := fun _ ds => decide (uptoBulkAll ds ≤ 1048576)
def OpenSpec.upto (s : _root_.Go.ChangeSpec) : _root_.Go.OpenSpec := { _root_.Go.OpenSpec.ofChange s with cond := some uptoSmall }

/-- 'espalierlaw25.MergeOne', WHERE WHAT IT READS IS OF BULK AT MOST 1048576: true; the input reads as it did. -/
def mergeOneUptoRow : OpenClaim := { program := "ytnbgiacnbheonaagreatdoor", sum := "d91e35f63d849de8a61f2b590088fb2d303605a487d6dea12b9f5225c9f707ed", func := "espalier/espalierlaw25.MergeOne", spec := "mergeOne", inPlace := ["slices.overlaps[*espalier/tree.node]", "internal/bytealg.abigen_runtime_cmpstring", "slices.overlaps[espalier/api.Attr]"], unfollowed := true, recurses := true, named := ["unicode/utf8.first", "unicode/utf8.acceptRanges"], loops := true, plainKeys := false, apart := false, laid := [("unicode/utf8.acceptRanges", laid_unicode_utf8_acceptRanges), ("unicode/utf8.first", laid_unicode_utf8_first)], narrowed := true }
def MergeOneUptoSaid : Prop := mergeOneUptoRow.holds Tryz.pinned (OpenSpec.upto mergeOneSpec)

/-- 'espalierlaw17.UpdateApplies', WHERE WHAT IT READS IS OF BULK AT MOST 1048576: true; the input reads as it did. -/
def updateAppliesUptoRow : OpenClaim := { program := "ytnbgiacnbheonaagreatdoor", sum := "d91e35f63d849de8a61f2b590088fb2d303605a487d6dea12b9f5225c9f707ed", func := "espalier/espalierlaw17.UpdateApplies", spec := "updateApplies", inPlace := ["internal/bytealg.abigen_runtime_cmpstring", "slices.overlaps[espalier/api.Attr]", "slices.overlaps[*espalier/tree.node]"], unfollowed := true, recurses := true, named := ["unicode/utf8.first", "unicode/utf8.acceptRanges"], loops := true, plainKeys := false, apart := false, laid := [("unicode/utf8.acceptRanges", laid_unicode_utf8_acceptRanges), ("unicode/utf8.first", laid_unicode_utf8_first)], narrowed := true }
def UpdateAppliesUptoSaid : Prop := updateAppliesUptoRow.holds Tryz.pinned (OpenSpec.upto updateAppliesSpec)

/-- 'espalierlaw17.UpdateOnes', WHERE WHAT IT READS IS OF BULK AT MOST 1048576: true; the input reads as it did. -/
def updateOnesUptoRow : OpenClaim := { program := "ytnbgiacnbheonaagreatdoor", sum := "d91e35f63d849de8a61f2b590088fb2d303605a487d6dea12b9f5225c9f707ed", func := "espalier/espalierlaw17.UpdateOnes", spec := "updateOnes", inPlace := ["internal/bytealg.abigen_runtime_cmpstring", "slices.overlaps[espalier/api.Attr]", "slices.overlaps[*espalier/tree.node]"], unfollowed := true, recurses := true, named := ["unicode/utf8.first", "unicode/utf8.acceptRanges"], loops := true, plainKeys := false, apart := false, laid := [("unicode/utf8.acceptRanges", laid_unicode_utf8_acceptRanges), ("unicode/utf8.first", laid_unicode_utf8_first)], narrowed := true }
def UpdateOnesUptoSaid : Prop := updateOnesUptoRow.holds Tryz.pinned (OpenSpec.upto updateOnesSpec)

/-- 'espalierlaw25.MergeTouches', WHERE WHAT IT READS IS OF BULK AT MOST 1048576: true; the input reads as it did. -/
def mergeTouchesUptoRow : OpenClaim := { program := "ytnbgiacnbheonaagreatdoor", sum := "d91e35f63d849de8a61f2b590088fb2d303605a487d6dea12b9f5225c9f707ed", func := "espalier/espalierlaw25.MergeTouches", spec := "mergeTouches", inPlace := ["slices.overlaps[*espalier/tree.node]", "internal/bytealg.abigen_runtime_cmpstring", "slices.overlaps[espalier/api.Attr]"], unfollowed := true, recurses := true, named := ["unicode/utf8.first", "unicode/utf8.acceptRanges"], loops := true, plainKeys := false, apart := false, laid := [("unicode/utf8.acceptRanges", laid_unicode_utf8_acceptRanges), ("unicode/utf8.first", laid_unicode_utf8_first)], narrowed := true }
def MergeTouchesUptoSaid : Prop := mergeTouchesUptoRow.holds Tryz.pinned (OpenSpec.upto mergeTouchesSpec)

end Rows
end Go.Proofs.YtnbgiacnbheonaaGreatDoor
