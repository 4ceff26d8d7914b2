/-
  No cell of these rows narrows 'for every input' (looked for: loops, veiled, ifaces, maps, wideKeys, modest, calm, conditions, laid).
  DERIVED. THE GIVEN ROWS OF THIS SEAT. 8 by the template 'for every input the law returns true; each argument reads behind the call as it read before'; 0 by the template 'total and deterministic' (their statements: YtlnlcciflpncmaaTotals.lean).
  GIVEN WITH THE SEED: the statements are not yours to turn. If you find one false, say at which input.
  Laid BY PROGRAM, IN A SANDBOX (cutbox-rows.mjs): the forced cells as the released guide's own fill.sh prints them over the translation 27552a21823e006f… (all of the seat's roots in one cut). By AI agents, Wed Nov 11 2026. No macro, syntax, notation, axiom, sorry.
-/
import Derived.Test.YtlnlcciflpncmaaChecked
import GoSem.Claim
import GoSem.ClaimJoined
import GoSem.ClaimMapViews
import Derived.JoinedTies
import Derived.KernelRfl
namespace Go.Proofs.Ytlnlcciflpncmaa
/- THE CELL 'sum', in the pinned program and in every row, IS THE sha256 OF THE DUMP (.gsa) THAT YtlnlcciflpncmaaProg.lean LOADS. Nothing in Lean hashes anything: it is a label: what it is worth is what the hold of that sum in a sandbox is worth. -/
noncomputable def Try.pinned : Pinned := { name := "ytlnlcciflpncmaa", sum := "27552a21823e006f7c364554039bb2096f0efeb0f4138597253240317ed9d083", checked := Try.checked }
namespace Rows
def none {H : Type} : Left H := { results := [], args := [] }

/-- 'tracebooklaw11.PacketChecks': WHATEVER THE INPUT: true; the input reads as it did. -/
def packetChecksSpec : ChangeSpec := { name := "packetChecks", fn := fun _ => fun
  | [d1, d2] => { results := [.lit (.bool true)], args := [d1, d2] }
  | _ => none }
def packetChecksRow : OpenClaim := { program := "ytlnlcciflpncmaa", sum := "27552a21823e006f7c364554039bb2096f0efeb0f4138597253240317ed9d083", func := "tracebook/tracebooklaw11.PacketChecks", spec := "packetChecks", inPlace := ["internal/bytealg.IndexByteString"], unfollowed := true, recurses := true, plainKeys := false, apart := false }
def PacketChecksSaid : Prop := packetChecksRow.holds Try.pinned (OpenSpec.ofChange packetChecksSpec)

/-- ITS FALSE NEIGHBOUR: 'it returns false'. Refute it at one input. -/
def packetChecksWrong : ChangeSpec := { name := "packetChecks", fn := fun _ => fun
  | [d1, d2] => { results := [.lit (.bool false)], args := [d1, d2] }
  | _ => none }
def PacketChecksWrongFalsely : Prop := packetChecksRow.holds Try.pinned (OpenSpec.ofChange packetChecksWrong)

/-- 'tracebooklaw11.PacketLimits': WHATEVER THE INPUT: true; the input reads as it did. -/
def packetLimitsSpec : ChangeSpec := { name := "packetLimits", fn := fun _ => fun
  | [d1, d2] => { results := [.lit (.bool true)], args := [d1, d2] }
  | _ => none }
def packetLimitsRow : OpenClaim := { program := "ytlnlcciflpncmaa", sum := "27552a21823e006f7c364554039bb2096f0efeb0f4138597253240317ed9d083", func := "tracebook/tracebooklaw11.PacketLimits", spec := "packetLimits", inPlace := ["internal/bytealg.IndexByteString"], unfollowed := true, recurses := true, plainKeys := false, apart := false }
def PacketLimitsSaid : Prop := packetLimitsRow.holds Try.pinned (OpenSpec.ofChange packetLimitsSpec)

/-- ITS FALSE NEIGHBOUR: 'it returns false'. Refute it at one input. -/
def packetLimitsWrong : ChangeSpec := { name := "packetLimits", fn := fun _ => fun
  | [d1, d2] => { results := [.lit (.bool false)], args := [d1, d2] }
  | _ => none }
def PacketLimitsWrongFalsely : Prop := packetLimitsRow.holds Try.pinned (OpenSpec.ofChange packetLimitsWrong)

/-- 'tracebooklaw11.PacketEncodes': WHATEVER THE INPUT: true; the input reads as it did. -/
def packetEncodesSpec : ChangeSpec := { name := "packetEncodes", fn := fun _ => fun
  | [d] => { results := [.lit (.bool true)], args := [d] }
  | _ => none }
def packetEncodesRow : OpenClaim := { program := "ytlnlcciflpncmaa", sum := "27552a21823e006f7c364554039bb2096f0efeb0f4138597253240317ed9d083", func := "tracebook/tracebooklaw11.PacketEncodes", spec := "packetEncodes", inPlace := ["internal/bytealg.IndexByteString"], unfollowed := true, recurses := true, plainKeys := false, apart := false }
def PacketEncodesSaid : Prop := packetEncodesRow.holds Try.pinned (OpenSpec.ofChange packetEncodesSpec)

/-- ITS FALSE NEIGHBOUR: 'it returns false'. Refute it at one input. -/
def packetEncodesWrong : ChangeSpec := { name := "packetEncodes", fn := fun _ => fun
  | [d] => { results := [.lit (.bool false)], args := [d] }
  | _ => none }
def PacketEncodesWrongFalsely : Prop := packetEncodesRow.holds Try.pinned (OpenSpec.ofChange packetEncodesWrong)

/-- 'tracebooklaw11.PacketDecodes': WHATEVER THE INPUT: true; the input reads as it did. -/
def packetDecodesSpec : ChangeSpec := { name := "packetDecodes", fn := fun _ => fun
  | [d] => { results := [.lit (.bool true)], args := [d] }
  | _ => none }
def packetDecodesRow : OpenClaim := { program := "ytlnlcciflpncmaa", sum := "27552a21823e006f7c364554039bb2096f0efeb0f4138597253240317ed9d083", func := "tracebook/tracebooklaw11.PacketDecodes", spec := "packetDecodes", inPlace := ["internal/bytealg.IndexByteString"], unfollowed := true, recurses := true, plainKeys := false, apart := false }
def PacketDecodesSaid : Prop := packetDecodesRow.holds Try.pinned (OpenSpec.ofChange packetDecodesSpec)

/-- ITS FALSE NEIGHBOUR: 'it returns false'. Refute it at one input. -/
def packetDecodesWrong : ChangeSpec := { name := "packetDecodes", fn := fun _ => fun
  | [d] => { results := [.lit (.bool false)], args := [d] }
  | _ => none }
def PacketDecodesWrongFalsely : Prop := packetDecodesRow.holds Try.pinned (OpenSpec.ofChange packetDecodesWrong)

/-- 'tracebooklaw11.PacketBack': WHATEVER THE INPUT: true; the input reads as it did. -/
def packetBackSpec : ChangeSpec := { name := "packetBack", fn := fun _ => fun
  | [d1, d2] => { results := [.lit (.bool true)], args := [d1, d2] }
  | _ => none }
def packetBackRow : OpenClaim := { program := "ytlnlcciflpncmaa", sum := "27552a21823e006f7c364554039bb2096f0efeb0f4138597253240317ed9d083", func := "tracebook/tracebooklaw11.PacketBack", spec := "packetBack", inPlace := ["internal/bytealg.IndexByteString"], unfollowed := true, recurses := true, plainKeys := false, apart := false }
def PacketBackSaid : Prop := packetBackRow.holds Try.pinned (OpenSpec.ofChange packetBackSpec)

/-- ITS FALSE NEIGHBOUR: 'it returns false'. Refute it at one input. -/
def packetBackWrong : ChangeSpec := { name := "packetBack", fn := fun _ => fun
  | [d1, d2] => { results := [.lit (.bool false)], args := [d1, d2] }
  | _ => none }
def PacketBackWrongFalsely : Prop := packetBackRow.holds Try.pinned (OpenSpec.ofChange packetBackWrong)

/-- 'tracebooklaw11.PacketUnique': WHATEVER THE INPUT: true; the input reads as it did. -/
def packetUniqueSpec : ChangeSpec := { name := "packetUnique", fn := fun _ => fun
  | [d] => { results := [.lit (.bool true)], args := [d] }
  | _ => none }
def packetUniqueRow : OpenClaim := { program := "ytlnlcciflpncmaa", sum := "27552a21823e006f7c364554039bb2096f0efeb0f4138597253240317ed9d083", func := "tracebook/tracebooklaw11.PacketUnique", spec := "packetUnique", inPlace := ["internal/bytealg.IndexByteString"], unfollowed := true, recurses := true, plainKeys := false, apart := false }
def PacketUniqueSaid : Prop := packetUniqueRow.holds Try.pinned (OpenSpec.ofChange packetUniqueSpec)

/-- ITS FALSE NEIGHBOUR: 'it returns false'. Refute it at one input. -/
def packetUniqueWrong : ChangeSpec := { name := "packetUnique", fn := fun _ => fun
  | [d] => { results := [.lit (.bool false)], args := [d] }
  | _ => none }
def PacketUniqueWrongFalsely : Prop := packetUniqueRow.holds Try.pinned (OpenSpec.ofChange packetUniqueWrong)

/-- 'tracebooklaw11.PacketJoins': WHATEVER THE INPUT: true; the input reads as it did. -/
def packetJoinsSpec : ChangeSpec := { name := "packetJoins", fn := fun _ => fun
  | [d1, d2] => { results := [.lit (.bool true)], args := [d1, d2] }
  | _ => none }
def packetJoinsRow : OpenClaim := { program := "ytlnlcciflpncmaa", sum := "27552a21823e006f7c364554039bb2096f0efeb0f4138597253240317ed9d083", func := "tracebook/tracebooklaw11.PacketJoins", spec := "packetJoins", inPlace := ["internal/bytealg.IndexByteString"], unfollowed := true, recurses := true, plainKeys := false, apart := false }
def PacketJoinsSaid : Prop := packetJoinsRow.holds Try.pinned (OpenSpec.ofChange packetJoinsSpec)

/-- ITS FALSE NEIGHBOUR: 'it returns false'. Refute it at one input. -/
def packetJoinsWrong : ChangeSpec := { name := "packetJoins", fn := fun _ => fun
  | [d1, d2] => { results := [.lit (.bool false)], args := [d1, d2] }
  | _ => none }
def PacketJoinsWrongFalsely : Prop := packetJoinsRow.holds Try.pinned (OpenSpec.ofChange packetJoinsWrong)

/-- 'tracebooklaw11.PacketSplits': WHATEVER THE INPUT: true; the input reads as it did. -/
def packetSplitsSpec : ChangeSpec := { name := "packetSplits", fn := fun _ => fun
  | [d1, d2] => { results := [.lit (.bool true)], args := [d1, d2] }
  | _ => none }
def packetSplitsRow : OpenClaim := { program := "ytlnlcciflpncmaa", sum := "27552a21823e006f7c364554039bb2096f0efeb0f4138597253240317ed9d083", func := "tracebook/tracebooklaw11.PacketSplits", spec := "packetSplits", inPlace := ["internal/bytealg.IndexByteString"], unfollowed := true, recurses := true, plainKeys := false, apart := false }
def PacketSplitsSaid : Prop := packetSplitsRow.holds Try.pinned (OpenSpec.ofChange packetSplitsSpec)

/-- ITS FALSE NEIGHBOUR: 'it returns false'. Refute it at one input. -/
def packetSplitsWrong : ChangeSpec := { name := "packetSplits", fn := fun _ => fun
  | [d1, d2] => { results := [.lit (.bool false)], args := [d1, d2] }
  | _ => none }
def PacketSplitsWrongFalsely : Prop := packetSplitsRow.holds Try.pinned (OpenSpec.ofChange packetSplitsWrong)

/- THE SECOND FORM. 'bulk': how many values and letters a reading holds, each counted each time it is reached (what is shared counts as often as it is met; a slice's spare places count too). A statement '..UptoSaid' is the law's where the arguments, and the package variables that the reading takes, are together of bulk at most 1048576: NARROWER than '..Said'. Prove '..Said' where nothing that the law and all that it calls make is longer than what came in: it says more and counts as full. Else prove '..UptoSaid'. A law counts once. -/
mutual
def uptoBulk {H : Type} : DataW H → Nat
  | .lit (.string bytes) => bytes.length + 1
  | .lit _ => 1
  | .nil => 1
  | .ptr d => uptoBulk d + 1
  | .slice elems spare => uptoBulkAll elems + uptoBulkAll spare + 1
  | .agg parts => uptoBulkAll parts + 1
  | .iface _ d => uptoBulk d + 1
  | .map entries => uptoBulkEntries entries + 1
  | .held _ => 1
def uptoBulkAll {H : Type} : List (DataW H) → Nat
  | [] => 0
  | d :: r => uptoBulk d + uptoBulkAll r
def uptoBulkEntries {H : Type} : List (Lit × DataW H) → Nat
  | [] => 0
  | x :: r => uptoBulkEntry x + uptoBulkEntries r
def uptoBulkEntry {H : Type} : Lit × DataW H → Nat
  | (.string bytes, d) => bytes.length + uptoBulk d + 1
  | (_, d) => uptoBulk d + 1
 end
def uptoSmall : (H : Type) → List (DataW H) → Bool := fun _ ds => decide (uptoBulkAll ds ≤ 1048576)
def OpenSpec.upto (s : _root_.Go.ChangeSpec) : _root_.Go.OpenSpec := { _root_.Go.OpenSpec.ofChange s with cond := some uptoSmall }

/-- 'tracebooklaw11.PacketChecks', WHERE WHAT IT READS IS OF BULK AT MOST 1048576: true; the input reads as it did. -/
def packetChecksUptoRow : OpenClaim := { program := "ytlnlcciflpncmaa", sum := "27552a21823e006f7c364554039bb2096f0efeb0f4138597253240317ed9d083", func := "tracebook/tracebooklaw11.PacketChecks", spec := "packetChecks", inPlace := ["internal/bytealg.IndexByteString"], unfollowed := true, recurses := true, plainKeys := false, apart := false, narrowed := true }
def PacketChecksUptoSaid : Prop := packetChecksUptoRow.holds Try.pinned (OpenSpec.upto packetChecksSpec)

/-- 'tracebooklaw11.PacketLimits', WHERE WHAT IT READS IS OF BULK AT MOST 1048576: true; the input reads as it did. -/
def packetLimitsUptoRow : OpenClaim := { program := "ytlnlcciflpncmaa", sum := "27552a21823e006f7c364554039bb2096f0efeb0f4138597253240317ed9d083", func := "tracebook/tracebooklaw11.PacketLimits", spec := "packetLimits", inPlace := ["internal/bytealg.IndexByteString"], unfollowed := true, recurses := true, plainKeys := false, apart := false, narrowed := true }
def PacketLimitsUptoSaid : Prop := packetLimitsUptoRow.holds Try.pinned (OpenSpec.upto packetLimitsSpec)

/-- 'tracebooklaw11.PacketEncodes', WHERE WHAT IT READS IS OF BULK AT MOST 1048576: true; the input reads as it did. -/
def packetEncodesUptoRow : OpenClaim := { program := "ytlnlcciflpncmaa", sum := "27552a21823e006f7c364554039bb2096f0efeb0f4138597253240317ed9d083", func := "tracebook/tracebooklaw11.PacketEncodes", spec := "packetEncodes", inPlace := ["internal/bytealg.IndexByteString"], unfollowed := true, recurses := true, plainKeys := false, apart := false, narrowed := true }
def PacketEncodesUptoSaid : Prop := packetEncodesUptoRow.holds Try.pinned (OpenSpec.upto packetEncodesSpec)

/-- 'tracebooklaw11.PacketDecodes', WHERE WHAT IT READS IS OF BULK AT MOST 1048576: true; the input reads as it did. -/
def packetDecodesUptoRow : OpenClaim := { program := "ytlnlcciflpncmaa", sum := "27552a21823e006f7c364554039bb2096f0efeb0f4138597253240317ed9d083", func := "tracebook/tracebooklaw11.PacketDecodes", spec := "packetDecodes", inPlace := ["internal/bytealg.IndexByteString"], unfollowed := true, recurses := true, plainKeys := false, apart := false, narrowed := true }
def PacketDecodesUptoSaid : Prop := packetDecodesUptoRow.holds Try.pinned (OpenSpec.upto packetDecodesSpec)

/-- 'tracebooklaw11.PacketBack', WHERE WHAT IT READS IS OF BULK AT MOST 1048576: true; the input reads as it did. -/
def packetBackUptoRow : OpenClaim := { program := "ytlnlcciflpncmaa", sum := "27552a21823e006f7c364554039bb2096f0efeb0f4138597253240317ed9d083", func := "tracebook/tracebooklaw11.PacketBack", spec := "packetBack", inPlace := ["internal/bytealg.IndexByteString"], unfollowed := true, recurses := true, plainKeys := false, apart := false, narrowed := true }
def PacketBackUptoSaid : Prop := packetBackUptoRow.holds Try.pinned (OpenSpec.upto packetBackSpec)

/-- 'tracebooklaw11.PacketUnique', WHERE WHAT IT READS IS OF BULK AT MOST 1048576: true; the input reads as it did. -/
def packetUniqueUptoRow : OpenClaim := { program := "ytlnlcciflpncmaa", sum := "27552a21823e006f7c364554039bb2096f0efeb0f4138597253240317ed9d083", func := "tracebook/tracebooklaw11.PacketUnique", spec := "packetUnique", inPlace := ["internal/bytealg.IndexByteString"], unfollowed := true, recurses := true, plainKeys := false, apart := false, narrowed := true }
def PacketUniqueUptoSaid : Prop := packetUniqueUptoRow.holds Try.pinned (OpenSpec.upto packetUniqueSpec)

/-- 'tracebooklaw11.PacketJoins', WHERE WHAT IT READS IS OF BULK AT MOST 1048576: true; the input reads as it did. -/
def packetJoinsUptoRow : OpenClaim := { program := "ytlnlcciflpncmaa", sum := "27552a21823e006f7c364554039bb2096f0efeb0f4138597253240317ed9d083", func := "tracebook/tracebooklaw11.PacketJoins", spec := "packetJoins", inPlace := ["internal/bytealg.IndexByteString"], unfollowed := true, recurses := true, plainKeys := false, apart := false, narrowed := true }
def PacketJoinsUptoSaid : Prop := packetJoinsUptoRow.holds Try.pinned (OpenSpec.upto packetJoinsSpec)

/-- 'tracebooklaw11.PacketSplits', WHERE WHAT IT READS IS OF BULK AT MOST 1048576: true; the input reads as it did. -/
def packetSplitsUptoRow : OpenClaim := { program := "ytlnlcciflpncmaa", sum := "27552a21823e006f7c364554039bb2096f0efeb0f4138597253240317ed9d083", func := "tracebook/tracebooklaw11.PacketSplits", spec := "packetSplits", inPlace := ["internal/bytealg.IndexByteString"], unfollowed := true, recurses := true, plainKeys := false, apart := false, narrowed := true }
def PacketSplitsUptoSaid : Prop := packetSplitsUptoRow.holds Try.pinned (OpenSpec.upto packetSplitsSpec)

end Rows
end Go.Proofs.Ytlnlcciflpncmaa
