/-
  No cell of these rows narrows 'for every input' (looked for: loops, veiled, ifaces, maps, wideKeys, modest, calm, conditions, laid).
  DERIVED. THE GIVEN ROWS OF THIS SEAT. 6 by the template 'for every input the law returns true; each argument reads behind the call as it read before'; 0 by the template 'total and deterministic' (their statements: YtaanlildniiijaaTotals.lean).
  GIVEN WITH THE SEED: the statements are not yours to turn. If you find one false, say at which input.
  Laid BY PROGRAM, IN A SANDBOX (cutbox-rows.mjs): the forced cells as the released guide's own fill.sh prints them over the translation cc68e96b72f02798… (all of the seat's roots in one cut). By AI agents, Wed Nov 11 2026. No macro, syntax, notation, axiom, sorry.
-/
import Derived.Test.YtaanlildniiijaaChecked
import GoSem.Claim
import GoSem.ClaimJoined
import GoSem.ClaimMapViews
import Derived.JoinedTies
import Derived.KernelRfl
namespace Go.Proofs.Ytaanlildniiijaa
/- THE CELL 'sum', in the pinned program and in every row, IS THE sha256 OF THE DUMP (.gsa) THAT YtaanlildniiijaaProg.lean LOADS. Nothing in Lean hashes anything: it is a label: what it is worth is what the hold of that sum in a sandbox is worth. -/
noncomputable def Try.pinned : Pinned := { name := "ytaanlildniiijaa", sum := "cc68e96b72f02798cc82543e09366cda0925148596f8bb4c4ff2f479e3215f78", checked := Try.checked }
namespace Rows
def none {H : Type} : Left H := { results := [], args := [] }

/-- 'espalierlaw09.AxisOne': WHATEVER THE INPUT: true; the input reads as it did. -/
def axisOneSpec : ChangeSpec := { name := "axisOne", fn := fun _ => fun
  | [d] => { results := [.lit (.bool true)], args := [d] }
  | _ => none }
def axisOneRow : OpenClaim := { program := "ytaanlildniiijaa", sum := "cc68e96b72f02798cc82543e09366cda0925148596f8bb4c4ff2f479e3215f78", func := "espalier/espalierlaw09.AxisOne", spec := "axisOne", apart := false }
def AxisOneSaid : Prop := axisOneRow.holds Try.pinned (OpenSpec.ofChange axisOneSpec)

/-- ITS FALSE NEIGHBOUR: 'it returns false'. Refute it at one input. -/
def axisOneWrong : ChangeSpec := { name := "axisOne", fn := fun _ => fun
  | [d] => { results := [.lit (.bool false)], args := [d] }
  | _ => none }
def AxisOneWrongFalsely : Prop := axisOneRow.holds Try.pinned (OpenSpec.ofChange axisOneWrong)

/-- 'espalierlaw28.LocksModes': WHATEVER THE INPUT: true; the input reads as it did. -/
def locksModesSpec : ChangeSpec := { name := "locksModes", fn := fun _ => fun
  | [d1, d2] => { results := [.lit (.bool true)], args := [d1, d2] }
  | _ => none }
def locksModesRow : OpenClaim := { program := "ytaanlildniiijaa", sum := "cc68e96b72f02798cc82543e09366cda0925148596f8bb4c4ff2f479e3215f78", func := "espalier/espalierlaw28.LocksModes", spec := "locksModes", apart := false }
def LocksModesSaid : Prop := locksModesRow.holds Try.pinned (OpenSpec.ofChange locksModesSpec)

/-- ITS FALSE NEIGHBOUR: 'it returns false'. Refute it at one input. -/
def locksModesWrong : ChangeSpec := { name := "locksModes", fn := fun _ => fun
  | [d1, d2] => { results := [.lit (.bool false)], args := [d1, d2] }
  | _ => none }
def LocksModesWrongFalsely : Prop := locksModesRow.holds Try.pinned (OpenSpec.ofChange locksModesWrong)

/-- 'espalierlaw09.AxisTests': WHATEVER THE INPUT: true; the input reads as it did. -/
def axisTestsSpec : ChangeSpec := { name := "axisTests", fn := fun _ => fun
  | [d1, d2, d3] => { results := [.lit (.bool true)], args := [d1, d2, d3] }
  | _ => none }
def axisTestsRow : OpenClaim := { program := "ytaanlildniiijaa", sum := "cc68e96b72f02798cc82543e09366cda0925148596f8bb4c4ff2f479e3215f78", func := "espalier/espalierlaw09.AxisTests", spec := "axisTests", apart := false }
def AxisTestsSaid : Prop := axisTestsRow.holds Try.pinned (OpenSpec.ofChange axisTestsSpec)

/-- ITS FALSE NEIGHBOUR: 'it returns false'. Refute it at one input. -/
def axisTestsWrong : ChangeSpec := { name := "axisTests", fn := fun _ => fun
  | [d1, d2, d3] => { results := [.lit (.bool false)], args := [d1, d2, d3] }
  | _ => none }
def AxisTestsWrongFalsely : Prop := axisTestsRow.holds Try.pinned (OpenSpec.ofChange axisTestsWrong)

/-- 'espalierlaw11.JoinParts': WHATEVER THE INPUT: true; the input reads as it did. -/
def joinPartsSpec : ChangeSpec := { name := "joinParts", fn := fun _ => fun
  | [d1, d2] => { results := [.lit (.bool true)], args := [d1, d2] }
  | _ => none }
def joinPartsRow : OpenClaim := { program := "ytaanlildniiijaa", sum := "cc68e96b72f02798cc82543e09366cda0925148596f8bb4c4ff2f479e3215f78", func := "espalier/espalierlaw11.JoinParts", spec := "joinParts", unfollowed := true, recurses := true, apart := false }
def JoinPartsSaid : Prop := joinPartsRow.holds Try.pinned (OpenSpec.ofChange joinPartsSpec)

/-- ITS FALSE NEIGHBOUR: 'it returns false'. Refute it at one input. -/
def joinPartsWrong : ChangeSpec := { name := "joinParts", fn := fun _ => fun
  | [d1, d2] => { results := [.lit (.bool false)], args := [d1, d2] }
  | _ => none }
def JoinPartsWrongFalsely : Prop := joinPartsRow.holds Try.pinned (OpenSpec.ofChange joinPartsWrong)

/-- 'espalierlaw11.JoinAll': WHATEVER THE INPUT: true; the input reads as it did. -/
def joinAllSpec : ChangeSpec := { name := "joinAll", fn := fun _ => fun
  | [d1, d2, d3] => { results := [.lit (.bool true)], args := [d1, d2, d3] }
  | _ => none }
def joinAllRow : OpenClaim := { program := "ytaanlildniiijaa", sum := "cc68e96b72f02798cc82543e09366cda0925148596f8bb4c4ff2f479e3215f78", func := "espalier/espalierlaw11.JoinAll", spec := "joinAll", unfollowed := true, recurses := true, apart := false }
def JoinAllSaid : Prop := joinAllRow.holds Try.pinned (OpenSpec.ofChange joinAllSpec)

/-- ITS FALSE NEIGHBOUR: 'it returns false'. Refute it at one input. -/
def joinAllWrong : ChangeSpec := { name := "joinAll", fn := fun _ => fun
  | [d1, d2, d3] => { results := [.lit (.bool false)], args := [d1, d2, d3] }
  | _ => none }
def JoinAllWrongFalsely : Prop := joinAllRow.holds Try.pinned (OpenSpec.ofChange joinAllWrong)

/-- 'espalierlaw23.ModelLaws': WHATEVER THE INPUT: true; the input reads as it did. -/
def modelLawsSpec : ChangeSpec := { name := "modelLaws", fn := fun _ => fun
  | [d1, d2, d3] => { results := [.lit (.bool true)], args := [d1, d2, d3] }
  | _ => none }
def modelLawsRow : OpenClaim := { program := "ytaanlildniiijaa", sum := "cc68e96b72f02798cc82543e09366cda0925148596f8bb4c4ff2f479e3215f78", func := "espalier/espalierlaw23.ModelLaws", spec := "modelLaws", inPlace := ["internal/abi.NoEscape"], unfollowed := true, recurses := true, apart := false }
def ModelLawsSaid : Prop := modelLawsRow.holds Try.pinned (OpenSpec.ofChange modelLawsSpec)

/-- ITS FALSE NEIGHBOUR: 'it returns false'. Refute it at one input. -/
def modelLawsWrong : ChangeSpec := { name := "modelLaws", fn := fun _ => fun
  | [d1, d2, d3] => { results := [.lit (.bool false)], args := [d1, d2, d3] }
  | _ => none }
def ModelLawsWrongFalsely : Prop := modelLawsRow.holds Try.pinned (OpenSpec.ofChange modelLawsWrong)

/- THE SECOND FORM. 'bulk': how many values and letters a reading holds, each counted each time it is reached (what is shared counts as often as it is met; a slice's spare places count too). A statement '..UptoSaid' is the law's where the arguments, and the package variables that the reading takes, are together of bulk at most 1048576: NARROWER than '..Said'. Prove '..Said' where nothing that the law and all that it calls make is longer than what came in: it says more and counts as full. Else prove '..UptoSaid'. A law counts once. -/
mutual
def uptoBulk {H : Type} : DataW H → Nat
  | .lit (.string bytes) => bytes.length + 1
  | .lit _ => 1
  | .nil => 1
  | .ptr d => uptoBulk d + 1
  | .slice elems spare => uptoBulkAll elems + uptoBulkAll spare + 1
  | .agg parts => uptoBulkAll parts + 1
  | .iface _ d => uptoBulk d + 1
  | .map entries => uptoBulkEntries entries + 1
  | .held _ => 1
def uptoBulkAll {H : Type} : List (DataW H) → Nat
  | [] => 0
  | d :: r => uptoBulk d + uptoBulkAll r
def uptoBulkEntries {H : Type} : List (Lit × DataW H) → Nat
  | [] => 0
  | x :: r => uptoBulkEntry x + uptoBulkEntries r
def uptoBulkEntry {H : Type} : Lit × DataW H → Nat
  | (.string bytes, d) => bytes.length + uptoBulk d + 1
  | (_, d) => uptoBulk d + 1
 end
def uptoSmall : (H : Type) → List (DataW H) → Bool := fun _ ds => decide (uptoBulkAll ds ≤ 1048576)
def OpenSpec.upto (s : _root_.Go.ChangeSpec) : _root_.Go.OpenSpec := { _root_.Go.OpenSpec.ofChange s with cond := some uptoSmall }

/-- 'espalierlaw09.AxisOne', WHERE WHAT IT READS IS OF BULK AT MOST 1048576: true; the input reads as it did. -/
def axisOneUptoRow : OpenClaim := { program := "ytaanlildniiijaa", sum := "cc68e96b72f02798cc82543e09366cda0925148596f8bb4c4ff2f479e3215f78", func := "espalier/espalierlaw09.AxisOne", spec := "axisOne", apart := false, narrowed := true }
def AxisOneUptoSaid : Prop := axisOneUptoRow.holds Try.pinned (OpenSpec.upto axisOneSpec)

/-- 'espalierlaw28.LocksModes', WHERE WHAT IT READS IS OF BULK AT MOST 1048576: true; the input reads as it did. -/
def locksModesUptoRow : OpenClaim := { program := "ytaanlildniiijaa", sum := "cc68e96b72f02798cc82543e09366cda0925148596f8bb4c4ff2f479e3215f78", func := "espalier/espalierlaw28.LocksModes", spec := "locksModes", apart := false, narrowed := true }
def LocksModesUptoSaid : Prop := locksModesUptoRow.holds Try.pinned (OpenSpec.upto locksModesSpec)

/-- 'espalierlaw09.AxisTests', WHERE WHAT IT READS IS OF BULK AT MOST 1048576: true; the input reads as it did. -/
def axisTestsUptoRow : OpenClaim := { program := "ytaanlildniiijaa", sum := "cc68e96b72f02798cc82543e09366cda0925148596f8bb4c4ff2f479e3215f78", func := "espalier/espalierlaw09.AxisTests", spec := "axisTests", apart := false, narrowed := true }
def AxisTestsUptoSaid : Prop := axisTestsUptoRow.holds Try.pinned (OpenSpec.upto axisTestsSpec)

/-- 'espalierlaw11.JoinParts', WHERE WHAT IT READS IS OF BULK AT MOST 1048576: true; the input reads as it did. -/
def joinPartsUptoRow : OpenClaim := { program := "ytaanlildniiijaa", sum := "cc68e96b72f02798cc82543e09366cda0925148596f8bb4c4ff2f479e3215f78", func := "espalier/espalierlaw11.JoinParts", spec := "joinParts", unfollowed := true, recurses := true, apart := false, narrowed := true }
def JoinPartsUptoSaid : Prop := joinPartsUptoRow.holds Try.pinned (OpenSpec.upto joinPartsSpec)

/-- 'espalierlaw11.JoinAll', WHERE WHAT IT READS IS OF BULK AT MOST 1048576: true; the input reads as it did. -/
def joinAllUptoRow : OpenClaim := { program := "ytaanlildniiijaa", sum := "cc68e96b72f02798cc82543e09366cda0925148596f8bb4c4ff2f479e3215f78", func := "espalier/espalierlaw11.JoinAll", spec := "joinAll", unfollowed := true, recurses := true, apart := false, narrowed := true }
def JoinAllUptoSaid : Prop := joinAllUptoRow.holds Try.pinned (OpenSpec.upto joinAllSpec)

/-- 'espalierlaw23.ModelLaws', WHERE WHAT IT READS IS OF BULK AT MOST 1048576: true; the input reads as it did. -/
def modelLawsUptoRow : OpenClaim := { program := "ytaanlildniiijaa", sum := "cc68e96b72f02798cc82543e09366cda0925148596f8bb4c4ff2f479e3215f78", func := "espalier/espalierlaw23.ModelLaws", spec := "modelLaws", inPlace := ["internal/abi.NoEscape"], unfollowed := true, recurses := true, apart := false, narrowed := true }
def ModelLawsUptoSaid : Prop := modelLawsUptoRow.holds Try.pinned (OpenSpec.upto modelLawsSpec)

end Rows
end Go.Proofs.Ytaanlildniiijaa
