/-
  NARROWER THAN 'FOR EVERY INPUT', by the rows' own cells (each row's printed sentence says how): LocksBoth: laid · LocksApart: laid · LocksFree: laid · LocksAll: laid · LocksFit: laid.
  DERIVED. THE GIVEN ROWS OF THIS SEAT. 5 by the template 'for every input the law returns true; each argument reads behind the call as it read before'; 0 by the template 'total and deterministic' (their statements: YtfhkgnfphfmhiaaGreatDoorTotals.lean).
  GIVEN WITH THE SEED: the statements are not yours to turn. If you find one false, say at which input.
  Laid BY PROGRAM, IN A SANDBOX (cutbox-rows.mjs): the forced cells as the released guide's own fill.sh prints them over the translation 97854384d2e950c0… (all of the seat's roots in one cut). By AI agents, Wed Nov 11 2026. No macro, syntax, notation, axiom, sorry.
-/
import Derived.Test.YtfhkgnfphfmhiaaGreatDoorChecked
import GoSem.PinnedTables
import GoSem.Claim
import GoSem.ClaimJoined
import GoSem.ClaimMapViews
import Derived.JoinedTies
import Derived.KernelRfl
namespace Go.Proofs.YtfhkgnfphfmhiaaGreatDoor
/- THE CELL 'sum', in the pinned program and in every row, IS THE sha256 OF THE DUMP (.gsa) THAT YtfhkgnfphfmhiaaGreatDoorProg.lean LOADS. Nothing in Lean hashes anything: it is a label: what it is worth is what the hold of that sum in a sandbox is worth. -/
noncomputable def Tryz.pinned : Pinned := { name := "ytfhkgnfphfmhiaagreatdoor", sum := "97854384d2e950c09703267c8c8eccb03a8c436eec9c726e026bae1e4f763d32", checked := Tryz.checked }
namespace Rows
def none {H : Type} : Left H := { results := [], args := [] }

/- WHAT THE LISTED PACKAGE-LEVEL VARIABLES READ AS WHEN THE CALL BEGINS. Each datum BY PROGRAM (the guide's laid-datum.mjs) off the statement by which the dump's own 'gosem.cut.vars' lays the variable. In a bare row this is a premise. The card (YtfhkgnfphfmhiaaGreatDoorCards.lean) ties it to the program's text. -/
def laid_unicode_utf8_acceptRanges {H : Type} : DataW H := .agg [.agg [.lit (.int .u8 128), .lit (.int .u8 191)], .agg [.lit (.int .u8 160), .lit (.int .u8 191)], .agg [.lit (.int .u8 128), .lit (.int .u8 159)], .agg [.lit (.int .u8 144), .lit (.int .u8 191)], .agg [.lit (.int .u8 128), .lit (.int .u8 143)], .agg [.lit (.int .u8 0), .lit (.int .u8 0)], .agg [.lit (.int .u8 0), .lit (.int .u8 0)], .agg [.lit (.int .u8 0), .lit (.int .u8 0)], .agg [.lit (.int .u8 0), .lit (.int .u8 0)], .agg [.lit (.int .u8 0), .lit (.int .u8 0)], .agg [.lit (.int .u8 0), .lit (.int .u8 0)], .agg [.lit (.int .u8 0), .lit (.int .u8 0)], .agg [.lit (.int .u8 0), .lit (.int .u8 0)], .agg [.lit (.int .u8 0), .lit (.int .u8 0)], .agg [.lit (.int .u8 0), .lit (.int .u8 0)], .agg [.lit (.int .u8 0), .lit (.int .u8 0)]]
/-- One of Go's own tables, pinned by name: the form's constant. -/
def laid_unicode_utf8_first : DataW Unit := Go.Pinned.utf8First

/-- 'espalierlaw28.LocksBoth': WHATEVER THE INPUT: true; the input reads as it did. -/
def locksBothSpec : ChangeSpec := { name := "locksBoth", fn := fun _ => fun
  | [d1, d2, d3] => { results := [.lit (.bool true)], args := [d1, d2, d3] }
  | _ => none }
def locksBothRow : OpenClaim := { program := "ytfhkgnfphfmhiaagreatdoor", sum := "97854384d2e950c09703267c8c8eccb03a8c436eec9c726e026bae1e4f763d32", func := "espalier/espalierlaw28.LocksBoth", spec := "locksBoth", inPlace := ["slices.overlaps[*espalier/tree.node]", "slices.overlaps[espalier/locks.waiter]"], unfollowed := true, recurses := true, named := ["unicode/utf8.first", "unicode/utf8.acceptRanges"], apart := false, laid := [("unicode/utf8.acceptRanges", laid_unicode_utf8_acceptRanges), ("unicode/utf8.first", laid_unicode_utf8_first)] }
def LocksBothSaid : Prop := locksBothRow.holds Tryz.pinned (OpenSpec.ofChange locksBothSpec)

/-- ITS FALSE NEIGHBOUR: 'it returns false'. Refute it at one input. -/
def locksBothWrong : ChangeSpec := { name := "locksBoth", fn := fun _ => fun
  | [d1, d2, d3] => { results := [.lit (.bool false)], args := [d1, d2, d3] }
  | _ => none }
def LocksBothWrongFalsely : Prop := locksBothRow.holds Tryz.pinned (OpenSpec.ofChange locksBothWrong)

/-- 'espalierlaw28.LocksApart': WHATEVER THE INPUT: true; the input reads as it did. -/
def locksApartSpec : ChangeSpec := { name := "locksApart", fn := fun _ => fun
  | [d1, d2] => { results := [.lit (.bool true)], args := [d1, d2] }
  | _ => none }
def locksApartRow : OpenClaim := { program := "ytfhkgnfphfmhiaagreatdoor", sum := "97854384d2e950c09703267c8c8eccb03a8c436eec9c726e026bae1e4f763d32", func := "espalier/espalierlaw28.LocksApart", spec := "locksApart", inPlace := ["slices.overlaps[*espalier/tree.node]", "slices.overlaps[espalier/locks.waiter]"], unfollowed := true, recurses := true, named := ["unicode/utf8.first", "unicode/utf8.acceptRanges"], apart := false, laid := [("unicode/utf8.acceptRanges", laid_unicode_utf8_acceptRanges), ("unicode/utf8.first", laid_unicode_utf8_first)] }
def LocksApartSaid : Prop := locksApartRow.holds Tryz.pinned (OpenSpec.ofChange locksApartSpec)

/-- ITS FALSE NEIGHBOUR: 'it returns false'. Refute it at one input. -/
def locksApartWrong : ChangeSpec := { name := "locksApart", fn := fun _ => fun
  | [d1, d2] => { results := [.lit (.bool false)], args := [d1, d2] }
  | _ => none }
def LocksApartWrongFalsely : Prop := locksApartRow.holds Tryz.pinned (OpenSpec.ofChange locksApartWrong)

/-- 'espalierlaw28.LocksFree': WHATEVER THE INPUT: true; the input reads as it did. -/
def locksFreeSpec : ChangeSpec := { name := "locksFree", fn := fun _ => fun
  | [d1, d2, d3] => { results := [.lit (.bool true)], args := [d1, d2, d3] }
  | _ => none }
def locksFreeRow : OpenClaim := { program := "ytfhkgnfphfmhiaagreatdoor", sum := "97854384d2e950c09703267c8c8eccb03a8c436eec9c726e026bae1e4f763d32", func := "espalier/espalierlaw28.LocksFree", spec := "locksFree", inPlace := ["slices.overlaps[*espalier/tree.node]", "slices.overlaps[espalier/locks.waiter]"], unfollowed := true, recurses := true, named := ["unicode/utf8.first", "unicode/utf8.acceptRanges"], apart := false, laid := [("unicode/utf8.acceptRanges", laid_unicode_utf8_acceptRanges), ("unicode/utf8.first", laid_unicode_utf8_first)] }
def LocksFreeSaid : Prop := locksFreeRow.holds Tryz.pinned (OpenSpec.ofChange locksFreeSpec)

/-- ITS FALSE NEIGHBOUR: 'it returns false'. Refute it at one input. -/
def locksFreeWrong : ChangeSpec := { name := "locksFree", fn := fun _ => fun
  | [d1, d2, d3] => { results := [.lit (.bool false)], args := [d1, d2, d3] }
  | _ => none }
def LocksFreeWrongFalsely : Prop := locksFreeRow.holds Tryz.pinned (OpenSpec.ofChange locksFreeWrong)

/-- 'espalierlaw28.LocksAll': WHATEVER THE INPUT: true; the input reads as it did. -/
def locksAllSpec : ChangeSpec := { name := "locksAll", fn := fun _ => fun
  | [d1, d2] => { results := [.lit (.bool true)], args := [d1, d2] }
  | _ => none }
def locksAllRow : OpenClaim := { program := "ytfhkgnfphfmhiaagreatdoor", sum := "97854384d2e950c09703267c8c8eccb03a8c436eec9c726e026bae1e4f763d32", func := "espalier/espalierlaw28.LocksAll", spec := "locksAll", inPlace := ["slices.overlaps[*espalier/tree.node]", "slices.overlaps[espalier/locks.waiter]"], unfollowed := true, recurses := true, named := ["unicode/utf8.first", "unicode/utf8.acceptRanges"], apart := false, laid := [("unicode/utf8.acceptRanges", laid_unicode_utf8_acceptRanges), ("unicode/utf8.first", laid_unicode_utf8_first)] }
def LocksAllSaid : Prop := locksAllRow.holds Tryz.pinned (OpenSpec.ofChange locksAllSpec)

/-- ITS FALSE NEIGHBOUR: 'it returns false'. Refute it at one input. -/
def locksAllWrong : ChangeSpec := { name := "locksAll", fn := fun _ => fun
  | [d1, d2] => { results := [.lit (.bool false)], args := [d1, d2] }
  | _ => none }
def LocksAllWrongFalsely : Prop := locksAllRow.holds Tryz.pinned (OpenSpec.ofChange locksAllWrong)

/-- 'espalierlaw28.LocksFit': WHATEVER THE INPUT: true; the input reads as it did. -/
def locksFitSpec : ChangeSpec := { name := "locksFit", fn := fun _ => fun
  | [d1, d2] => { results := [.lit (.bool true)], args := [d1, d2] }
  | _ => none }
def locksFitRow : OpenClaim := { program := "ytfhkgnfphfmhiaagreatdoor", sum := "97854384d2e950c09703267c8c8eccb03a8c436eec9c726e026bae1e4f763d32", func := "espalier/espalierlaw28.LocksFit", spec := "locksFit", inPlace := ["slices.overlaps[*espalier/tree.node]", "slices.overlaps[espalier/locks.waiter]"], unfollowed := true, recurses := true, named := ["unicode/utf8.first", "unicode/utf8.acceptRanges"], apart := false, laid := [("unicode/utf8.acceptRanges", laid_unicode_utf8_acceptRanges), ("unicode/utf8.first", laid_unicode_utf8_first)] }
def LocksFitSaid : Prop := locksFitRow.holds Tryz.pinned (OpenSpec.ofChange locksFitSpec)

/-- ITS FALSE NEIGHBOUR: 'it returns false'. Refute it at one input. -/
def locksFitWrong : ChangeSpec := { name := "locksFit", fn := fun _ => fun
  | [d1, d2] => { results := [.lit (.bool false)], args := [d1, d2] }
  | _ => none }
def LocksFitWrongFalsely : Prop := locksFitRow.holds Tryz.pinned (OpenSpec.ofChange locksFitWrong)

/- THE SECOND FORM. 'bulk': how many values and letters a reading holds, each counted each time it is reached (what is shared counts as often as it is met; a slice's spare places count too). A statement '..UptoSaid' is the law's where the arguments, and the package variables that the reading takes, are together of bulk at most 1048576: NARROWER than '..Said'. Prove '..Said' where nothing that the law and all that it calls make is longer than what came in: it says more and counts as full. Else prove '..UptoSaid'. A law counts once. -/
mutual
def uptoBulk {H : Type} : DataW H → Nat
  | .lit (.string bytes) => bytes.length + 1
  | .lit _ => 1
  | .nil => 1
  | .ptr d => uptoBulk d + 1
  | .slice elems spare => uptoBulkAll elems + uptoBulkAll spare + 1
  | .agg parts => uptoBulkAll parts + 1
  | .iface _ d => uptoBulk d + 1
  | .map entries => uptoBulkEntries entries + 1
  | .held _ => 1
def uptoBulkAll {H : Type} : List (DataW H) → Nat
  | [] => 0
  | d :: r => uptoBulk d + uptoBulkAll r
def uptoBulkEntries {H : Type} : List (Lit × DataW H) → Nat
  | [] => 0
  | x :: r => uptoBulkEntry x + uptoBulkEntries r
def uptoBulkEntry {H : Type} : Lit × DataW H → Nat
  | (.string bytes, d) => bytes.length + uptoBulk d + 1
  | (_, d) => uptoBulk d + 1
 end
def uptoSmall : (H : Type) → List (DataW H) → Bool := fun _ ds => decide (uptoBulkAll ds ≤ 1048576)
def OpenSpec.upto (s : _root_.Go.ChangeSpec) : _root_.Go.OpenSpec := { _root_.Go.OpenSpec.ofChange s with cond := some uptoSmall }

/-- 'espalierlaw28.LocksBoth', WHERE WHAT IT READS IS OF BULK AT MOST 1048576: true; the input reads as it did. -/
def locksBothUptoRow : OpenClaim := { program := "ytfhkgnfphfmhiaagreatdoor", sum := "97854384d2e950c09703267c8c8eccb03a8c436eec9c726e026bae1e4f763d32", func := "espalier/espalierlaw28.LocksBoth", spec := "locksBoth", inPlace := ["slices.overlaps[*espalier/tree.node]", "slices.overlaps[espalier/locks.waiter]"], unfollowed := true, recurses := true, named := ["unicode/utf8.first", "unicode/utf8.acceptRanges"], apart := false, laid := [("unicode/utf8.acceptRanges", laid_unicode_utf8_acceptRanges), ("unicode/utf8.first", laid_unicode_utf8_first)], narrowed := true }
def LocksBothUptoSaid : Prop := locksBothUptoRow.holds Tryz.pinned (OpenSpec.upto locksBothSpec)

/-- 'espalierlaw28.LocksApart', WHERE WHAT IT READS IS OF BULK AT MOST 1048576: true; the input reads as it did. -/
def locksApartUptoRow : OpenClaim := { program := "ytfhkgnfphfmhiaagreatdoor", sum := "97854384d2e950c09703267c8c8eccb03a8c436eec9c726e026bae1e4f763d32", func := "espalier/espalierlaw28.LocksApart", spec := "locksApart", inPlace := ["slices.overlaps[*espalier/tree.node]", "slices.overlaps[espalier/locks.waiter]"], unfollowed := true, recurses := true, named := ["unicode/utf8.first", "unicode/utf8.acceptRanges"], apart := false, laid := [("unicode/utf8.acceptRanges", laid_unicode_utf8_acceptRanges), ("unicode/utf8.first", laid_unicode_utf8_first)], narrowed := true }
def LocksApartUptoSaid : Prop := locksApartUptoRow.holds Tryz.pinned (OpenSpec.upto locksApartSpec)

/-- 'espalierlaw28.LocksFree', WHERE WHAT IT READS IS OF BULK AT MOST 1048576: true; the input reads as it did. -/
def locksFreeUptoRow : OpenClaim := { program := "ytfhkgnfphfmhiaagreatdoor", sum := "97854384d2e950c09703267c8c8eccb03a8c436eec9c726e026bae1e4f763d32", func := "espalier/espalierlaw28.LocksFree", spec := "locksFree", inPlace := ["slices.overlaps[*espalier/tree.node]", "slices.overlaps[espalier/locks.waiter]"], unfollowed := true, recurses := true, named := ["unicode/utf8.first", "unicode/utf8.acceptRanges"], apart := false, laid := [("unicode/utf8.acceptRanges", laid_unicode_utf8_acceptRanges), ("unicode/utf8.first", laid_unicode_utf8_first)], narrowed := true }
def LocksFreeUptoSaid : Prop := locksFreeUptoRow.holds Tryz.pinned (OpenSpec.upto locksFreeSpec)

/-- 'espalierlaw28.LocksAll', WHERE WHAT IT READS IS OF BULK AT MOST 1048576: true; the input reads as it did. -/
def locksAllUptoRow : OpenClaim := { program := "ytfhkgnfphfmhiaagreatdoor", sum := "97854384d2e950c09703267c8c8eccb03a8c436eec9c726e026bae1e4f763d32", func := "espalier/espalierlaw28.LocksAll", spec := "locksAll", inPlace := ["slices.overlaps[*espalier/tree.node]", "slices.overlaps[espalier/locks.waiter]"], unfollowed := true, recurses := true, named := ["unicode/utf8.first", "unicode/utf8.acceptRanges"], apart := false, laid := [("unicode/utf8.acceptRanges", laid_unicode_utf8_acceptRanges), ("unicode/utf8.first", laid_unicode_utf8_first)], narrowed := true }
def LocksAllUptoSaid : Prop := locksAllUptoRow.holds Tryz.pinned (OpenSpec.upto locksAllSpec)

/-- 'espalierlaw28.LocksFit', WHERE WHAT IT READS IS OF BULK AT MOST 1048576: true; the input reads as it did. -/
def locksFitUptoRow : OpenClaim := { program := "ytfhkgnfphfmhiaagreatdoor", sum := "97854384d2e950c09703267c8c8eccb03a8c436eec9c726e026bae1e4f763d32", func := "espalier/espalierlaw28.LocksFit", spec := "locksFit", inPlace := ["slices.overlaps[*espalier/tree.node]", "slices.overlaps[espalier/locks.waiter]"], unfollowed := true, recurses := true, named := ["unicode/utf8.first", "unicode/utf8.acceptRanges"], apart := false, laid := [("unicode/utf8.acceptRanges", laid_unicode_utf8_acceptRanges), ("unicode/utf8.first", laid_unicode_utf8_first)], narrowed := true }
def LocksFitUptoSaid : Prop := locksFitUptoRow.holds Tryz.pinned (OpenSpec.upto locksFitSpec)

end Rows
end Go.Proofs.YtfhkgnfphfmhiaaGreatDoor
