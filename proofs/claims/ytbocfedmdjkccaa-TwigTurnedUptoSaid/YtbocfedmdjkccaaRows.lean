/-
  NARROWER THAN 'FOR EVERY INPUT', by the rows' own cells (each row's printed sentence says how): TwigFinds: loops · TwigJust: loops · TwigUsed: loops · TwigTurned: loops.
  DERIVED. THE GIVEN ROWS OF THIS SEAT. 4 by the template 'for every input the law returns true; each argument reads behind the call as it read before'; 0 by the template 'total and deterministic' (their statements: YtbocfedmdjkccaaTotals.lean).
  GIVEN WITH THE SEED: the statements are not yours to turn. If you find one false, say at which input.
  Laid BY PROGRAM, IN A SANDBOX (cutbox-rows.mjs): the forced cells as the released guide's own fill.sh prints them over the translation 8a07fdadc510c216… (all of the seat's roots in one cut). By AI agents, Wed Nov 11 2026. No macro, syntax, notation, axiom, sorry.
-/
import Derived.Test.YtbocfedmdjkccaaChecked
import GoSem.Claim
import GoSem.ClaimJoined
import GoSem.ClaimMapViews
import Derived.JoinedTies
import Derived.KernelRfl
namespace Go.Proofs.Ytbocfedmdjkccaa
/- THE CELL 'sum', in the pinned program and in every row, IS THE sha256 OF THE DUMP (.gsa) THAT YtbocfedmdjkccaaProg.lean LOADS. Nothing in Lean hashes anything: it is a label: what it is worth is what the hold of that sum in a sandbox is worth. -/
noncomputable def Try.pinned : Pinned := { name := "ytbocfedmdjkccaa", sum := "8a07fdadc510c216eeb1ad3099838659ea1ec16765d23c9f503250b0a83a8629", checked := Try.checked }
namespace Rows
def none {H : Type} : Left H := { results := [], args := [] }

/-- 'espalierlaw12.TwigFinds': WHATEVER THE INPUT: true; the input reads as it did. -/
def twigFindsSpec : ChangeSpec := { name := "twigFinds", fn := fun _ => fun
  | [d1, d2, d3] => { results := [.lit (.bool true)], args := [d1, d2, d3] }
  | _ => none }
def twigFindsRow : OpenClaim := { program := "ytbocfedmdjkccaa", sum := "8a07fdadc510c216eeb1ad3099838659ea1ec16765d23c9f503250b0a83a8629", func := "espalier/espalierlaw12.TwigFinds", spec := "twigFinds", inPlace := ["math/bits.Add64"], unfollowed := true, recurses := true, loops := true, apart := false }
def TwigFindsSaid : Prop := twigFindsRow.holds Try.pinned (OpenSpec.ofChange twigFindsSpec)

/-- ITS FALSE NEIGHBOUR: 'it returns false'. Refute it at one input. -/
def twigFindsWrong : ChangeSpec := { name := "twigFinds", fn := fun _ => fun
  | [d1, d2, d3] => { results := [.lit (.bool false)], args := [d1, d2, d3] }
  | _ => none }
def TwigFindsWrongFalsely : Prop := twigFindsRow.holds Try.pinned (OpenSpec.ofChange twigFindsWrong)

/-- 'espalierlaw12.TwigJust': WHATEVER THE INPUT: true; the input reads as it did. -/
def twigJustSpec : ChangeSpec := { name := "twigJust", fn := fun _ => fun
  | [d1, d2] => { results := [.lit (.bool true)], args := [d1, d2] }
  | _ => none }
def twigJustRow : OpenClaim := { program := "ytbocfedmdjkccaa", sum := "8a07fdadc510c216eeb1ad3099838659ea1ec16765d23c9f503250b0a83a8629", func := "espalier/espalierlaw12.TwigJust", spec := "twigJust", inPlace := ["math/bits.Add64"], unfollowed := true, recurses := true, loops := true, apart := false }
def TwigJustSaid : Prop := twigJustRow.holds Try.pinned (OpenSpec.ofChange twigJustSpec)

/-- ITS FALSE NEIGHBOUR: 'it returns false'. Refute it at one input. -/
def twigJustWrong : ChangeSpec := { name := "twigJust", fn := fun _ => fun
  | [d1, d2] => { results := [.lit (.bool false)], args := [d1, d2] }
  | _ => none }
def TwigJustWrongFalsely : Prop := twigJustRow.holds Try.pinned (OpenSpec.ofChange twigJustWrong)

/-- 'espalierlaw12.TwigUsed': WHATEVER THE INPUT: true; the input reads as it did. -/
def twigUsedSpec : ChangeSpec := { name := "twigUsed", fn := fun _ => fun
  | [d1, d2, d3] => { results := [.lit (.bool true)], args := [d1, d2, d3] }
  | _ => none }
def twigUsedRow : OpenClaim := { program := "ytbocfedmdjkccaa", sum := "8a07fdadc510c216eeb1ad3099838659ea1ec16765d23c9f503250b0a83a8629", func := "espalier/espalierlaw12.TwigUsed", spec := "twigUsed", inPlace := ["math/bits.Add64"], unfollowed := true, recurses := true, loops := true, apart := false }
def TwigUsedSaid : Prop := twigUsedRow.holds Try.pinned (OpenSpec.ofChange twigUsedSpec)

/-- ITS FALSE NEIGHBOUR: 'it returns false'. Refute it at one input. -/
def twigUsedWrong : ChangeSpec := { name := "twigUsed", fn := fun _ => fun
  | [d1, d2, d3] => { results := [.lit (.bool false)], args := [d1, d2, d3] }
  | _ => none }
def TwigUsedWrongFalsely : Prop := twigUsedRow.holds Try.pinned (OpenSpec.ofChange twigUsedWrong)

/-- 'espalierlaw12.TwigTurned': WHATEVER THE INPUT: true; the input reads as it did. -/
def twigTurnedSpec : ChangeSpec := { name := "twigTurned", fn := fun _ => fun
  | [d1, d2] => { results := [.lit (.bool true)], args := [d1, d2] }
  | _ => none }
def twigTurnedRow : OpenClaim := { program := "ytbocfedmdjkccaa", sum := "8a07fdadc510c216eeb1ad3099838659ea1ec16765d23c9f503250b0a83a8629", func := "espalier/espalierlaw12.TwigTurned", spec := "twigTurned", inPlace := ["math/bits.Add64"], unfollowed := true, recurses := true, loops := true, apart := false }
def TwigTurnedSaid : Prop := twigTurnedRow.holds Try.pinned (OpenSpec.ofChange twigTurnedSpec)

/-- ITS FALSE NEIGHBOUR: 'it returns false'. Refute it at one input. -/
def twigTurnedWrong : ChangeSpec := { name := "twigTurned", fn := fun _ => fun
  | [d1, d2] => { results := [.lit (.bool false)], args := [d1, d2] }
  | _ => none }
def TwigTurnedWrongFalsely : Prop := twigTurnedRow.holds Try.pinned (OpenSpec.ofChange twigTurnedWrong)

/- THE SECOND FORM. 'bulk': how many values and letters a reading holds, each counted each time it is reached (what is shared counts as often as it is met; a slice's spare places count too). A statement '..UptoSaid' is the law's where the arguments, and the package variables that the reading takes, are together of bulk at most 1048576: NARROWER than '..Said'. Prove '..Said' where nothing that the law and all that it calls make is longer than what came in: it says more and counts as full. Else prove '..UptoSaid'. A law counts once. -/
mutual
def uptoBulk {H : Type} : DataW H → Nat
  | .lit (.string bytes) => bytes.length + 1
  | .lit _ => 1
  | .nil => 1
  | .ptr d => uptoBulk d + 1
  | .slice elems spare => uptoBulkAll elems + uptoBulkAll spare + 1
  | .agg parts => uptoBulkAll parts + 1
  | .iface _ d => uptoBulk d + 1
  | .map entries => uptoBulkEntries entries + 1
  | .held _ => 1
def uptoBulkAll {H : Type} : List (DataW H) → Nat
  | [] => 0
  | d :: r => uptoBulk d + uptoBulkAll r
def uptoBulkEntries {H : Type} : List (Lit × DataW H) → Nat
  | [] => 0
  | x :: r => uptoBulkEntry x + uptoBulkEntries r
def uptoBulkEntry {H : Type} : Lit × DataW H → Nat
  | (.string bytes, d) => bytes.length + uptoBulk d + 1
  | (_, d) => uptoBulk d + 1
 end
def uptoSmall : (H : Type) → List (DataW H) → Bool := fun _ ds => decide (uptoBulkAll ds ≤ 1048576)
def OpenSpec.upto (s : _root_.Go.ChangeSpec) : _root_.Go.OpenSpec := { _root_.Go.OpenSpec.ofChange s with cond := some uptoSmall }

/-- 'espalierlaw12.TwigFinds', WHERE WHAT IT READS IS OF BULK AT MOST 1048576: true; the input reads as it did. -/
def twigFindsUptoRow : OpenClaim := { program := "ytbocfedmdjkccaa", sum := "8a07fdadc510c216eeb1ad3099838659ea1ec16765d23c9f503250b0a83a8629", func := "espalier/espalierlaw12.TwigFinds", spec := "twigFinds", inPlace := ["math/bits.Add64"], unfollowed := true, recurses := true, loops := true, apart := false, narrowed := true }
def TwigFindsUptoSaid : Prop := twigFindsUptoRow.holds Try.pinned (OpenSpec.upto twigFindsSpec)

/-- 'espalierlaw12.TwigJust', WHERE WHAT IT READS IS OF BULK AT MOST 1048576: true; the input reads as it did. -/
def twigJustUptoRow : OpenClaim := { program := "ytbocfedmdjkccaa", sum := "8a07fdadc510c216eeb1ad3099838659ea1ec16765d23c9f503250b0a83a8629", func := "espalier/espalierlaw12.TwigJust", spec := "twigJust", inPlace := ["math/bits.Add64"], unfollowed := true, recurses := true, loops := true, apart := false, narrowed := true }
def TwigJustUptoSaid : Prop := twigJustUptoRow.holds Try.pinned (OpenSpec.upto twigJustSpec)

/-- 'espalierlaw12.TwigUsed', WHERE WHAT IT READS IS OF BULK AT MOST 1048576: true; the input reads as it did. -/
def twigUsedUptoRow : OpenClaim := { program := "ytbocfedmdjkccaa", sum := "8a07fdadc510c216eeb1ad3099838659ea1ec16765d23c9f503250b0a83a8629", func := "espalier/espalierlaw12.TwigUsed", spec := "twigUsed", inPlace := ["math/bits.Add64"], unfollowed := true, recurses := true, loops := true, apart := false, narrowed := true }
def TwigUsedUptoSaid : Prop := twigUsedUptoRow.holds Try.pinned (OpenSpec.upto twigUsedSpec)

/-- 'espalierlaw12.TwigTurned', WHERE WHAT IT READS IS OF BULK AT MOST 1048576: true; the input reads as it did. -/
def twigTurnedUptoRow : OpenClaim := { program := "ytbocfedmdjkccaa", sum := "8a07fdadc510c216eeb1ad3099838659ea1ec16765d23c9f503250b0a83a8629", func := "espalier/espalierlaw12.TwigTurned", spec := "twigTurned", inPlace := ["math/bits.Add64"], unfollowed := true, recurses := true, loops := true, apart := false, narrowed := true }
def TwigTurnedUptoSaid : Prop := twigTurnedUptoRow.holds Try.pinned (OpenSpec.upto twigTurnedSpec)

end Rows
end Go.Proofs.Ytbocfedmdjkccaa
