/-
  No cell of these rows narrows 'for every input' (looked for: loops, veiled, ifaces, maps, wideKeys, modest, calm, conditions, laid).
  DERIVED. THE GIVEN ROWS OF THIS SEAT. 5 by the template 'for every input the law returns true; each argument reads behind the call as it read before'; 0 by the template 'total and deterministic' (their statements: YtlepgljlnlfknaaTotals.lean).
  GIVEN WITH THE SEED: the statements are not yours to turn. If you find one false, say at which input.
  Laid BY PROGRAM, IN A SANDBOX (cutbox-rows.mjs): the forced cells as the released guide's own fill.sh prints them over the translation 963941edd1e3ed47… (all of the seat's roots in one cut). By AI agents, Wed Nov 11 2026. No macro, syntax, notation, axiom, sorry.
-/
import Derived.Test.YtlepgljlnlfknaaChecked
import GoSem.Claim
import GoSem.ClaimJoined
import GoSem.ClaimMapViews
import Derived.JoinedTies
import Derived.KernelRfl
namespace Go.Proofs.Ytlepgljlnlfknaa
/- THE CELL 'sum', in the pinned program and in every row, IS THE sha256 OF THE DUMP (.gsa) THAT YtlepgljlnlfknaaProg.lean LOADS. Nothing in Lean hashes anything: it is a label: what it is worth is what the hold of that sum in a sandbox is worth. -/
noncomputable def Try.pinned : Pinned := { name := "ytlepgljlnlfknaa", sum := "963941edd1e3ed473dc1790a8ce262197720a42375a9473f07e9f1278a8fab0d", checked := Try.checked }
namespace Rows
def none {H : Type} : Left H := { results := [], args := [] }

/-- 'tracebooklaw29.SampleOf': WHATEVER THE INPUT: true; the input reads as it did. -/
def sampleOfSpec : ChangeSpec := { name := "sampleOf", fn := fun _ => fun
  | [d] => { results := [.lit (.bool true)], args := [d] }
  | _ => none }
def sampleOfRow : OpenClaim := { program := "ytlepgljlnlfknaa", sum := "963941edd1e3ed473dc1790a8ce262197720a42375a9473f07e9f1278a8fab0d", func := "tracebook/tracebooklaw29.SampleOf", spec := "sampleOf", inPlace := ["internal/bytealg.IndexByteString"], unfollowed := true, recurses := true, apart := false }
def SampleOfSaid : Prop := sampleOfRow.holds Try.pinned (OpenSpec.ofChange sampleOfSpec)

/-- ITS FALSE NEIGHBOUR: 'it returns false'. Refute it at one input. -/
def sampleOfWrong : ChangeSpec := { name := "sampleOf", fn := fun _ => fun
  | [d] => { results := [.lit (.bool false)], args := [d] }
  | _ => none }
def SampleOfWrongFalsely : Prop := sampleOfRow.holds Try.pinned (OpenSpec.ofChange sampleOfWrong)

/-- 'tracebooklaw29.SampleOrdered': WHATEVER THE INPUT: true; the input reads as it did. -/
def sampleOrderedSpec : ChangeSpec := { name := "sampleOrdered", fn := fun _ => fun
  | [d] => { results := [.lit (.bool true)], args := [d] }
  | _ => none }
def sampleOrderedRow : OpenClaim := { program := "ytlepgljlnlfknaa", sum := "963941edd1e3ed473dc1790a8ce262197720a42375a9473f07e9f1278a8fab0d", func := "tracebook/tracebooklaw29.SampleOrdered", spec := "sampleOrdered", inPlace := ["internal/bytealg.IndexByteString"], unfollowed := true, recurses := true, apart := false }
def SampleOrderedSaid : Prop := sampleOrderedRow.holds Try.pinned (OpenSpec.ofChange sampleOrderedSpec)

/-- ITS FALSE NEIGHBOUR: 'it returns false'. Refute it at one input. -/
def sampleOrderedWrong : ChangeSpec := { name := "sampleOrdered", fn := fun _ => fun
  | [d] => { results := [.lit (.bool false)], args := [d] }
  | _ => none }
def SampleOrderedWrongFalsely : Prop := sampleOrderedRow.holds Try.pinned (OpenSpec.ofChange sampleOrderedWrong)

/-- 'tracebooklaw29.SampleChecks': WHATEVER THE INPUT: true; the input reads as it did. -/
def sampleChecksSpec : ChangeSpec := { name := "sampleChecks", fn := fun _ => fun
  | [d1, d2, d3] => { results := [.lit (.bool true)], args := [d1, d2, d3] }
  | _ => none }
def sampleChecksRow : OpenClaim := { program := "ytlepgljlnlfknaa", sum := "963941edd1e3ed473dc1790a8ce262197720a42375a9473f07e9f1278a8fab0d", func := "tracebook/tracebooklaw29.SampleChecks", spec := "sampleChecks", inPlace := ["internal/bytealg.IndexByteString"], unfollowed := true, recurses := true, apart := false }
def SampleChecksSaid : Prop := sampleChecksRow.holds Try.pinned (OpenSpec.ofChange sampleChecksSpec)

/-- ITS FALSE NEIGHBOUR: 'it returns false'. Refute it at one input. -/
def sampleChecksWrong : ChangeSpec := { name := "sampleChecks", fn := fun _ => fun
  | [d1, d2, d3] => { results := [.lit (.bool false)], args := [d1, d2, d3] }
  | _ => none }
def SampleChecksWrongFalsely : Prop := sampleChecksRow.holds Try.pinned (OpenSpec.ofChange sampleChecksWrong)

/-- 'tracebooklaw29.SampleDivides': WHATEVER THE INPUT: true; the input reads as it did. -/
def sampleDividesSpec : ChangeSpec := { name := "sampleDivides", fn := fun _ => fun
  | [d1, d2] => { results := [.lit (.bool true)], args := [d1, d2] }
  | _ => none }
def sampleDividesRow : OpenClaim := { program := "ytlepgljlnlfknaa", sum := "963941edd1e3ed473dc1790a8ce262197720a42375a9473f07e9f1278a8fab0d", func := "tracebook/tracebooklaw29.SampleDivides", spec := "sampleDivides", inPlace := ["internal/bytealg.IndexByteString"], unfollowed := true, recurses := true, apart := false }
def SampleDividesSaid : Prop := sampleDividesRow.holds Try.pinned (OpenSpec.ofChange sampleDividesSpec)

/-- ITS FALSE NEIGHBOUR: 'it returns false'. Refute it at one input. -/
def sampleDividesWrong : ChangeSpec := { name := "sampleDivides", fn := fun _ => fun
  | [d1, d2] => { results := [.lit (.bool false)], args := [d1, d2] }
  | _ => none }
def SampleDividesWrongFalsely : Prop := sampleDividesRow.holds Try.pinned (OpenSpec.ofChange sampleDividesWrong)

/-- 'tracebooklaw29.SampleLeaves': WHATEVER THE INPUT: true; the input reads as it did. -/
def sampleLeavesSpec : ChangeSpec := { name := "sampleLeaves", fn := fun _ => fun
  | [d] => { results := [.lit (.bool true)], args := [d] }
  | _ => none }
def sampleLeavesRow : OpenClaim := { program := "ytlepgljlnlfknaa", sum := "963941edd1e3ed473dc1790a8ce262197720a42375a9473f07e9f1278a8fab0d", func := "tracebook/tracebooklaw29.SampleLeaves", spec := "sampleLeaves", inPlace := ["internal/bytealg.IndexByteString"], unfollowed := true, recurses := true, apart := false }
def SampleLeavesSaid : Prop := sampleLeavesRow.holds Try.pinned (OpenSpec.ofChange sampleLeavesSpec)

/-- ITS FALSE NEIGHBOUR: 'it returns false'. Refute it at one input. -/
def sampleLeavesWrong : ChangeSpec := { name := "sampleLeaves", fn := fun _ => fun
  | [d] => { results := [.lit (.bool false)], args := [d] }
  | _ => none }
def SampleLeavesWrongFalsely : Prop := sampleLeavesRow.holds Try.pinned (OpenSpec.ofChange sampleLeavesWrong)

/- THE SECOND FORM. 'bulk': how many values and letters a reading holds, each counted each time it is reached (what is shared counts as often as it is met; a slice's spare places count too). A statement '..UptoSaid' is the law's where the arguments, and the package variables that the reading takes, are together of bulk at most 1048576: NARROWER than '..Said'. Prove '..Said' where nothing that the law and all that it calls make is longer than what came in: it says more and counts as full. Else prove '..UptoSaid'. A law counts once. -/
mutual
def uptoBulk {H : Type} : DataW H → Nat
  | .lit (.string bytes) => bytes.length + 1
  | .lit _ => 1
  | .nil => 1
  | .ptr d => uptoBulk d + 1
  | .slice elems spare => uptoBulkAll elems + uptoBulkAll spare + 1
  | .agg parts => uptoBulkAll parts + 1
  | .iface _ d => uptoBulk d + 1
  | .map entries => uptoBulkEntries entries + 1
  | .held _ => 1
def uptoBulkAll {H : Type} : List (DataW H) → Nat
  | [] => 0
  | d :: r => uptoBulk d + uptoBulkAll r
def uptoBulkEntries {H : Type} : List (Lit × DataW H) → Nat
  | [] => 0
  | x :: r => uptoBulkEntry x + uptoBulkEntries r
def uptoBulkEntry {H : Type} : Lit × DataW H → Nat
  | (.string bytes, d) => bytes.length + uptoBulk d + 1
  | (_, d) => uptoBulk d + 1
 end
def uptoSmall : (H : Type) → List (DataW H) → Bool := fun _ ds => decide (uptoBulkAll ds ≤ 1048576)
def OpenSpec.upto (s : _root_.Go.ChangeSpec) : _root_.Go.OpenSpec := { _root_.Go.OpenSpec.ofChange s with cond := some uptoSmall }

/-- 'tracebooklaw29.SampleOf', WHERE WHAT IT READS IS OF BULK AT MOST 1048576: true; the input reads as it did. -/
def sampleOfUptoRow : OpenClaim := { program := "ytlepgljlnlfknaa", sum := "963941edd1e3ed473dc1790a8ce262197720a42375a9473f07e9f1278a8fab0d", func := "tracebook/tracebooklaw29.SampleOf", spec := "sampleOf", inPlace := ["internal/bytealg.IndexByteString"], unfollowed := true, recurses := true, apart := false, narrowed := true }
def SampleOfUptoSaid : Prop := sampleOfUptoRow.holds Try.pinned (OpenSpec.upto sampleOfSpec)

/-- 'tracebooklaw29.SampleOrdered', WHERE WHAT IT READS IS OF BULK AT MOST 1048576: true; the input reads as it did. -/
def sampleOrderedUptoRow : OpenClaim := { program := "ytlepgljlnlfknaa", sum := "963941edd1e3ed473dc1790a8ce262197720a42375a9473f07e9f1278a8fab0d", func := "tracebook/tracebooklaw29.SampleOrdered", spec := "sampleOrdered", inPlace := ["internal/bytealg.IndexByteString"], unfollowed := true, recurses := true, apart := false, narrowed := true }
def SampleOrderedUptoSaid : Prop := sampleOrderedUptoRow.holds Try.pinned (OpenSpec.upto sampleOrderedSpec)

/-- 'tracebooklaw29.SampleChecks', WHERE WHAT IT READS IS OF BULK AT MOST 1048576: true; the input reads as it did. -/
def sampleChecksUptoRow : OpenClaim := { program := "ytlepgljlnlfknaa", sum := "963941edd1e3ed473dc1790a8ce262197720a42375a9473f07e9f1278a8fab0d", func := "tracebook/tracebooklaw29.SampleChecks", spec := "sampleChecks", inPlace := ["internal/bytealg.IndexByteString"], unfollowed := true, recurses := true, apart := false, narrowed := true }
def SampleChecksUptoSaid : Prop := sampleChecksUptoRow.holds Try.pinned (OpenSpec.upto sampleChecksSpec)

/-- 'tracebooklaw29.SampleDivides', WHERE WHAT IT READS IS OF BULK AT MOST 1048576: true; the input reads as it did. -/
def sampleDividesUptoRow : OpenClaim := { program := "ytlepgljlnlfknaa", sum := "963941edd1e3ed473dc1790a8ce262197720a42375a9473f07e9f1278a8fab0d", func := "tracebook/tracebooklaw29.SampleDivides", spec := "sampleDivides", inPlace := ["internal/bytealg.IndexByteString"], unfollowed := true, recurses := true, apart := false, narrowed := true }
def SampleDividesUptoSaid : Prop := sampleDividesUptoRow.holds Try.pinned (OpenSpec.upto sampleDividesSpec)

/-- 'tracebooklaw29.SampleLeaves', WHERE WHAT IT READS IS OF BULK AT MOST 1048576: true; the input reads as it did. -/
def sampleLeavesUptoRow : OpenClaim := { program := "ytlepgljlnlfknaa", sum := "963941edd1e3ed473dc1790a8ce262197720a42375a9473f07e9f1278a8fab0d", func := "tracebook/tracebooklaw29.SampleLeaves", spec := "sampleLeaves", inPlace := ["internal/bytealg.IndexByteString"], unfollowed := true, recurses := true, apart := false, narrowed := true }
def SampleLeavesUptoSaid : Prop := sampleLeavesUptoRow.holds Try.pinned (OpenSpec.upto sampleLeavesSpec)

end Rows
end Go.Proofs.Ytlepgljlnlfknaa
