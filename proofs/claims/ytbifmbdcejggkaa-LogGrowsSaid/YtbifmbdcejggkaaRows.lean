/-
  No cell of these rows narrows 'for every input' (looked for: loops, veiled, ifaces, maps, wideKeys, modest, calm, conditions, laid).
  DERIVED. THE GIVEN ROWS OF THIS SEAT. 5 by the template 'for every input the law returns true; each argument reads behind the call as it read before'; 0 by the template 'total and deterministic' (their statements: YtbifmbdcejggkaaTotals.lean).
  GIVEN WITH THE SEED: the statements are not yours to turn. If you find one false, say at which input.
  Laid BY PROGRAM, IN A SANDBOX (cutbox-rows.mjs): the forced cells as the released guide's own fill.sh prints them over the translation 9075555253121639… (all of the seat's roots in one cut). By AI agents, Wed Nov 11 2026. No macro, syntax, notation, axiom, sorry.
-/
import Derived.Test.YtbifmbdcejggkaaChecked
import GoSem.Claim
import GoSem.ClaimJoined
import GoSem.ClaimMapViews
import Derived.JoinedTies
import Derived.KernelRfl
namespace Go.Proofs.Ytbifmbdcejggkaa
/- THE CELL 'sum', in the pinned program and in every row, IS THE sha256 OF THE DUMP (.gsa) THAT YtbifmbdcejggkaaProg.lean LOADS. Nothing in Lean hashes anything: it is a label: what it is worth is what the hold of that sum in a sandbox is worth. -/
noncomputable def Try.pinned : Pinned := { name := "ytbifmbdcejggkaa", sum := "9075555253121639cc96f4f82407fcf2a83a314045bbf93cd0780137d6d37187", checked := Try.checked }
namespace Rows
def none {H : Type} : Left H := { results := [], args := [] }

/-- 'tracebooklaw16.LogOf': WHATEVER THE INPUT: true; the input reads as it did. -/
def logOfSpec : ChangeSpec := { name := "logOf", fn := fun _ => fun
  | [d1, d2] => { results := [.lit (.bool true)], args := [d1, d2] }
  | _ => none }
def logOfRow : OpenClaim := { program := "ytbifmbdcejggkaa", sum := "9075555253121639cc96f4f82407fcf2a83a314045bbf93cd0780137d6d37187", func := "tracebook/tracebooklaw16.LogOf", spec := "logOf", inPlace := ["internal/bytealg.IndexByteString"], unfollowed := true, recurses := true, apart := false }
def LogOfSaid : Prop := logOfRow.holds Try.pinned (OpenSpec.ofChange logOfSpec)

/-- ITS FALSE NEIGHBOUR: 'it returns false'. Refute it at one input. -/
def logOfWrong : ChangeSpec := { name := "logOf", fn := fun _ => fun
  | [d1, d2] => { results := [.lit (.bool false)], args := [d1, d2] }
  | _ => none }
def LogOfWrongFalsely : Prop := logOfRow.holds Try.pinned (OpenSpec.ofChange logOfWrong)

/-- 'tracebooklaw16.LogReads': WHATEVER THE INPUT: true; the input reads as it did. -/
def logReadsSpec : ChangeSpec := { name := "logReads", fn := fun _ => fun
  | [d1, d2, d3] => { results := [.lit (.bool true)], args := [d1, d2, d3] }
  | _ => none }
def logReadsRow : OpenClaim := { program := "ytbifmbdcejggkaa", sum := "9075555253121639cc96f4f82407fcf2a83a314045bbf93cd0780137d6d37187", func := "tracebook/tracebooklaw16.LogReads", spec := "logReads", inPlace := ["internal/bytealg.IndexByteString"], unfollowed := true, recurses := true, apart := false }
def LogReadsSaid : Prop := logReadsRow.holds Try.pinned (OpenSpec.ofChange logReadsSpec)

/-- ITS FALSE NEIGHBOUR: 'it returns false'. Refute it at one input. -/
def logReadsWrong : ChangeSpec := { name := "logReads", fn := fun _ => fun
  | [d1, d2, d3] => { results := [.lit (.bool false)], args := [d1, d2, d3] }
  | _ => none }
def LogReadsWrongFalsely : Prop := logReadsRow.holds Try.pinned (OpenSpec.ofChange logReadsWrong)

/-- 'tracebooklaw16.LogCounts': WHATEVER THE INPUT: true; the input reads as it did. -/
def logCountsSpec : ChangeSpec := { name := "logCounts", fn := fun _ => fun
  | [d1, d2, d3] => { results := [.lit (.bool true)], args := [d1, d2, d3] }
  | _ => none }
def logCountsRow : OpenClaim := { program := "ytbifmbdcejggkaa", sum := "9075555253121639cc96f4f82407fcf2a83a314045bbf93cd0780137d6d37187", func := "tracebook/tracebooklaw16.LogCounts", spec := "logCounts", inPlace := ["internal/bytealg.IndexByteString"], unfollowed := true, recurses := true, apart := false }
def LogCountsSaid : Prop := logCountsRow.holds Try.pinned (OpenSpec.ofChange logCountsSpec)

/-- ITS FALSE NEIGHBOUR: 'it returns false'. Refute it at one input. -/
def logCountsWrong : ChangeSpec := { name := "logCounts", fn := fun _ => fun
  | [d1, d2, d3] => { results := [.lit (.bool false)], args := [d1, d2, d3] }
  | _ => none }
def LogCountsWrongFalsely : Prop := logCountsRow.holds Try.pinned (OpenSpec.ofChange logCountsWrong)

/-- 'tracebooklaw16.LogDivided': WHATEVER THE INPUT: true; the input reads as it did. -/
def logDividedSpec : ChangeSpec := { name := "logDivided", fn := fun _ => fun
  | [d1, d2, d3, d4] => { results := [.lit (.bool true)], args := [d1, d2, d3, d4] }
  | _ => none }
def logDividedRow : OpenClaim := { program := "ytbifmbdcejggkaa", sum := "9075555253121639cc96f4f82407fcf2a83a314045bbf93cd0780137d6d37187", func := "tracebook/tracebooklaw16.LogDivided", spec := "logDivided", inPlace := ["internal/bytealg.IndexByteString"], unfollowed := true, recurses := true, apart := false }
def LogDividedSaid : Prop := logDividedRow.holds Try.pinned (OpenSpec.ofChange logDividedSpec)

/-- ITS FALSE NEIGHBOUR: 'it returns false'. Refute it at one input. -/
def logDividedWrong : ChangeSpec := { name := "logDivided", fn := fun _ => fun
  | [d1, d2, d3, d4] => { results := [.lit (.bool false)], args := [d1, d2, d3, d4] }
  | _ => none }
def LogDividedWrongFalsely : Prop := logDividedRow.holds Try.pinned (OpenSpec.ofChange logDividedWrong)

/-- 'tracebooklaw16.LogGrows': WHATEVER THE INPUT: true; the input reads as it did. -/
def logGrowsSpec : ChangeSpec := { name := "logGrows", fn := fun _ => fun
  | [d1, d2, d3, d4] => { results := [.lit (.bool true)], args := [d1, d2, d3, d4] }
  | _ => none }
def logGrowsRow : OpenClaim := { program := "ytbifmbdcejggkaa", sum := "9075555253121639cc96f4f82407fcf2a83a314045bbf93cd0780137d6d37187", func := "tracebook/tracebooklaw16.LogGrows", spec := "logGrows", inPlace := ["internal/bytealg.IndexByteString"], unfollowed := true, recurses := true, apart := false }
def LogGrowsSaid : Prop := logGrowsRow.holds Try.pinned (OpenSpec.ofChange logGrowsSpec)

/-- ITS FALSE NEIGHBOUR: 'it returns false'. Refute it at one input. -/
def logGrowsWrong : ChangeSpec := { name := "logGrows", fn := fun _ => fun
  | [d1, d2, d3, d4] => { results := [.lit (.bool false)], args := [d1, d2, d3, d4] }
  | _ => none }
def LogGrowsWrongFalsely : Prop := logGrowsRow.holds Try.pinned (OpenSpec.ofChange logGrowsWrong)

/- THE SECOND FORM. 'bulk': how many values and letters a reading holds, each counted each time it is reached (what is shared counts as often as it is met; a slice's spare places count too). A statement '..UptoSaid' is the law's where the arguments, and the package variables that the reading takes, are together of bulk at most 1048576: NARROWER than '..Said'. Prove '..Said' where nothing that the law and all that it calls make is longer than what came in: it says more and counts as full. Else prove '..UptoSaid'. A law counts once. -/
mutual
def uptoBulk {H : Type} : DataW H → Nat
  | .lit (.string bytes) => bytes.length + 1
  | .lit _ => 1
  | .nil => 1
  | .ptr d => uptoBulk d + 1
  | .slice elems spare => uptoBulkAll elems + uptoBulkAll spare + 1
  | .agg parts => uptoBulkAll parts + 1
  | .iface _ d => uptoBulk d + 1
  | .map entries => uptoBulkEntries entries + 1
  | .held _ => 1
def uptoBulkAll {H : Type} : List (DataW H) → Nat
  | [] => 0
  | d :: r => uptoBulk d + uptoBulkAll r
def uptoBulkEntries {H : Type} : List (Lit × DataW H) → Nat
  | [] => 0
  | x :: r => uptoBulkEntry x + uptoBulkEntries r
def uptoBulkEntry {H : Type} : Lit × DataW H → Nat
  | (.string bytes, d) => bytes.length + uptoBulk d + 1
  | (_, d) => uptoBulk d + 1
 end
def uptoSmall : (H : Type) → List (DataW H) → Bool := fun _ ds => decide (uptoBulkAll ds ≤ 1048576)
def OpenSpec.upto (s : _root_.Go.ChangeSpec) : _root_.Go.OpenSpec := { _root_.Go.OpenSpec.ofChange s with cond := some uptoSmall }

/-- 'tracebooklaw16.LogOf', WHERE WHAT IT READS IS OF BULK AT MOST 1048576: true; the input reads as it did. -/
def logOfUptoRow : OpenClaim := { program := "ytbifmbdcejggkaa", sum := "9075555253121639cc96f4f82407fcf2a83a314045bbf93cd0780137d6d37187", func := "tracebook/tracebooklaw16.LogOf", spec := "logOf", inPlace := ["internal/bytealg.IndexByteString"], unfollowed := true, recurses := true, apart := false, narrowed := true }
def LogOfUptoSaid : Prop := logOfUptoRow.holds Try.pinned (OpenSpec.upto logOfSpec)

/-- 'tracebooklaw16.LogReads', WHERE WHAT IT READS IS OF BULK AT MOST 1048576: true; the input reads as it did. -/
def logReadsUptoRow : OpenClaim := { program := "ytbifmbdcejggkaa", sum := "9075555253121639cc96f4f82407fcf2a83a314045bbf93cd0780137d6d37187", func := "tracebook/tracebooklaw16.LogReads", spec := "logReads", inPlace := ["internal/bytealg.IndexByteString"], unfollowed := true, recurses := true, apart := false, narrowed := true }
def LogReadsUptoSaid : Prop := logReadsUptoRow.holds Try.pinned (OpenSpec.upto logReadsSpec)

/-- 'tracebooklaw16.LogCounts', WHERE WHAT IT READS IS OF BULK AT MOST 1048576: true; the input reads as it did. -/
def logCountsUptoRow : OpenClaim := { program := "ytbifmbdcejggkaa", sum := "9075555253121639cc96f4f82407fcf2a83a314045bbf93cd0780137d6d37187", func := "tracebook/tracebooklaw16.LogCounts", spec := "logCounts", inPlace := ["internal/bytealg.IndexByteString"], unfollowed := true, recurses := true, apart := false, narrowed := true }
def LogCountsUptoSaid : Prop := logCountsUptoRow.holds Try.pinned (OpenSpec.upto logCountsSpec)

/-- 'tracebooklaw16.LogDivided', WHERE WHAT IT READS IS OF BULK AT MOST 1048576: true; the input reads as it did. -/
def logDividedUptoRow : OpenClaim := { program := "ytbifmbdcejggkaa", sum := "9075555253121639cc96f4f82407fcf2a83a314045bbf93cd0780137d6d37187", func := "tracebook/tracebooklaw16.LogDivided", spec := "logDivided", inPlace := ["internal/bytealg.IndexByteString"], unfollowed := true, recurses := true, apart := false, narrowed := true }
def LogDividedUptoSaid : Prop := logDividedUptoRow.holds Try.pinned (OpenSpec.upto logDividedSpec)

/-- 'tracebooklaw16.LogGrows', WHERE WHAT IT READS IS OF BULK AT MOST 1048576: true; the input reads as it did. -/
def logGrowsUptoRow : OpenClaim := { program := "ytbifmbdcejggkaa", sum := "9075555253121639cc96f4f82407fcf2a83a314045bbf93cd0780137d6d37187", func := "tracebook/tracebooklaw16.LogGrows", spec := "logGrows", inPlace := ["internal/bytealg.IndexByteString"], unfollowed := true, recurses := true, apart := false, narrowed := true }
def LogGrowsUptoSaid : Prop := logGrowsUptoRow.holds Try.pinned (OpenSpec.upto logGrowsSpec)

end Rows
end Go.Proofs.Ytbifmbdcejggkaa
