/-
  No cell of these rows narrows 'for every input' (looked for: loops, veiled, ifaces, maps, wideKeys, modest, calm, conditions, laid).
  DERIVED. THE GIVEN ROWS OF THIS SEAT. 5 by the template 'for every input the law returns true; each argument reads behind the call as it read before'; 0 by the template 'total and deterministic' (their statements: YtdpgdpjoemdkjaaTotals.lean).
  GIVEN WITH THE SEED: the statements are not yours to turn. If you find one false, say at which input.
  Laid BY PROGRAM, IN A SANDBOX (cutbox-rows.mjs): the forced cells as the released guide's own fill.sh prints them over the translation a28ee19e618b2e0f… (all of the seat's roots in one cut). By AI agents, Wed Nov 11 2026. No macro, syntax, notation, axiom, sorry.
-/
import Derived.Test.YtdpgdpjoemdkjaaChecked
import GoSem.Claim
import GoSem.ClaimJoined
import GoSem.ClaimMapViews
import Derived.JoinedTies
import Derived.KernelRfl
namespace Go.Proofs.Ytdpgdpjoemdkjaa
/- THE CELL 'sum', in the pinned program and in every row, IS THE sha256 OF THE DUMP (.gsa) THAT YtdpgdpjoemdkjaaProg.lean LOADS. Nothing in Lean hashes anything: it is a label: what it is worth is what the hold of that sum in a sandbox is worth. -/
noncomputable def Try.pinned : Pinned := { name := "ytdpgdpjoemdkjaa", sum := "a28ee19e618b2e0f6dbbd0ed07555d4ac6397552563099af0e8e70f041f2e32e", checked := Try.checked }
namespace Rows
def none {H : Type} : Left H := { results := [], args := [] }

/-- 'tracebooklaw10.ProducerThreads': WHATEVER THE INPUT: true; the input reads as it did. -/
def producerThreadsSpec : ChangeSpec := { name := "producerThreads", fn := fun _ => fun
  | [d1, d2, d3] => { results := [.lit (.bool true)], args := [d1, d2, d3] }
  | _ => none }
def producerThreadsRow : OpenClaim := { program := "ytdpgdpjoemdkjaa", sum := "a28ee19e618b2e0f6dbbd0ed07555d4ac6397552563099af0e8e70f041f2e32e", func := "tracebook/tracebooklaw10.ProducerThreads", spec := "producerThreads", inPlace := ["internal/bytealg.IndexByteString"], plainKeys := false, apart := false }
def ProducerThreadsSaid : Prop := producerThreadsRow.holds Try.pinned (OpenSpec.ofChange producerThreadsSpec)

/-- ITS FALSE NEIGHBOUR: 'it returns false'. Refute it at one input. -/
def producerThreadsWrong : ChangeSpec := { name := "producerThreads", fn := fun _ => fun
  | [d1, d2, d3] => { results := [.lit (.bool false)], args := [d1, d2, d3] }
  | _ => none }
def ProducerThreadsWrongFalsely : Prop := producerThreadsRow.holds Try.pinned (OpenSpec.ofChange producerThreadsWrong)

/-- 'tracebooklaw10.ProducerPlays': WHATEVER THE INPUT: true; the input reads as it did. -/
def producerPlaysSpec : ChangeSpec := { name := "producerPlays", fn := fun _ => fun
  | [d1, d2, d3] => { results := [.lit (.bool true)], args := [d1, d2, d3] }
  | _ => none }
def producerPlaysRow : OpenClaim := { program := "ytdpgdpjoemdkjaa", sum := "a28ee19e618b2e0f6dbbd0ed07555d4ac6397552563099af0e8e70f041f2e32e", func := "tracebook/tracebooklaw10.ProducerPlays", spec := "producerPlays", inPlace := ["internal/bytealg.IndexByteString"], plainKeys := false, apart := false }
def ProducerPlaysSaid : Prop := producerPlaysRow.holds Try.pinned (OpenSpec.ofChange producerPlaysSpec)

/-- ITS FALSE NEIGHBOUR: 'it returns false'. Refute it at one input. -/
def producerPlaysWrong : ChangeSpec := { name := "producerPlays", fn := fun _ => fun
  | [d1, d2, d3] => { results := [.lit (.bool false)], args := [d1, d2, d3] }
  | _ => none }
def ProducerPlaysWrongFalsely : Prop := producerPlaysRow.holds Try.pinned (OpenSpec.ofChange producerPlaysWrong)

/-- 'tracebooklaw10.ProducerAccounts': WHATEVER THE INPUT: true; the input reads as it did. -/
def producerAccountsSpec : ChangeSpec := { name := "producerAccounts", fn := fun _ => fun
  | [d1, d2, d3] => { results := [.lit (.bool true)], args := [d1, d2, d3] }
  | _ => none }
def producerAccountsRow : OpenClaim := { program := "ytdpgdpjoemdkjaa", sum := "a28ee19e618b2e0f6dbbd0ed07555d4ac6397552563099af0e8e70f041f2e32e", func := "tracebook/tracebooklaw10.ProducerAccounts", spec := "producerAccounts", inPlace := ["internal/bytealg.IndexByteString"], plainKeys := false, apart := false }
def ProducerAccountsSaid : Prop := producerAccountsRow.holds Try.pinned (OpenSpec.ofChange producerAccountsSpec)

/-- ITS FALSE NEIGHBOUR: 'it returns false'. Refute it at one input. -/
def producerAccountsWrong : ChangeSpec := { name := "producerAccounts", fn := fun _ => fun
  | [d1, d2, d3] => { results := [.lit (.bool false)], args := [d1, d2, d3] }
  | _ => none }
def ProducerAccountsWrongFalsely : Prop := producerAccountsRow.holds Try.pinned (OpenSpec.ofChange producerAccountsWrong)

/-- 'tracebooklaw10.ProducerTwice': WHATEVER THE INPUT: true; the input reads as it did. -/
def producerTwiceSpec : ChangeSpec := { name := "producerTwice", fn := fun _ => fun
  | [d] => { results := [.lit (.bool true)], args := [d] }
  | _ => none }
def producerTwiceRow : OpenClaim := { program := "ytdpgdpjoemdkjaa", sum := "a28ee19e618b2e0f6dbbd0ed07555d4ac6397552563099af0e8e70f041f2e32e", func := "tracebook/tracebooklaw10.ProducerTwice", spec := "producerTwice", inPlace := ["internal/bytealg.IndexByteString"], plainKeys := false, apart := false }
def ProducerTwiceSaid : Prop := producerTwiceRow.holds Try.pinned (OpenSpec.ofChange producerTwiceSpec)

/-- ITS FALSE NEIGHBOUR: 'it returns false'. Refute it at one input. -/
def producerTwiceWrong : ChangeSpec := { name := "producerTwice", fn := fun _ => fun
  | [d] => { results := [.lit (.bool false)], args := [d] }
  | _ => none }
def ProducerTwiceWrongFalsely : Prop := producerTwiceRow.holds Try.pinned (OpenSpec.ofChange producerTwiceWrong)

/-- 'tracebooklaw10.ProducerChecks': WHATEVER THE INPUT: true; the input reads as it did. -/
def producerChecksSpec : ChangeSpec := { name := "producerChecks", fn := fun _ => fun
  | [d1, d2] => { results := [.lit (.bool true)], args := [d1, d2] }
  | _ => none }
def producerChecksRow : OpenClaim := { program := "ytdpgdpjoemdkjaa", sum := "a28ee19e618b2e0f6dbbd0ed07555d4ac6397552563099af0e8e70f041f2e32e", func := "tracebook/tracebooklaw10.ProducerChecks", spec := "producerChecks", inPlace := ["internal/bytealg.IndexByteString"], plainKeys := false, apart := false }
def ProducerChecksSaid : Prop := producerChecksRow.holds Try.pinned (OpenSpec.ofChange producerChecksSpec)

/-- ITS FALSE NEIGHBOUR: 'it returns false'. Refute it at one input. -/
def producerChecksWrong : ChangeSpec := { name := "producerChecks", fn := fun _ => fun
  | [d1, d2] => { results := [.lit (.bool false)], args := [d1, d2] }
  | _ => none }
def ProducerChecksWrongFalsely : Prop := producerChecksRow.holds Try.pinned (OpenSpec.ofChange producerChecksWrong)

/- THE SECOND FORM. 'bulk': how many values and letters a reading holds, each counted each time it is reached (what is shared counts as often as it is met; a slice's spare places count too). A statement '..UptoSaid' is the law's where the arguments, and the package variables that the reading takes, are together of bulk at most 1048576: NARROWER than '..Said'. Prove '..Said' where nothing that the law and all that it calls make is longer than what came in: it says more and counts as full. Else prove '..UptoSaid'. A law counts once. -/
mutual
def uptoBulk {H : Type} : DataW H → Nat
  | .lit (.string bytes) => bytes.length + 1
  | .lit _ => 1
  | .nil => 1
  | .ptr d => uptoBulk d + 1
  | .slice elems spare => uptoBulkAll elems + uptoBulkAll spare + 1
  | .agg parts => uptoBulkAll parts + 1
  | .iface _ d => uptoBulk d + 1
  | .map entries => uptoBulkEntries entries + 1
  | .held _ => 1
def uptoBulkAll {H : Type} : List (DataW H) → Nat
  | [] => 0
  | d :: r => uptoBulk d + uptoBulkAll r
def uptoBulkEntries {H : Type} : List (Lit × DataW H) → Nat
  | [] => 0
  | x :: r => uptoBulkEntry x + uptoBulkEntries r
def uptoBulkEntry {H : Type} : Lit × DataW H → Nat
  | (.string bytes, d) => bytes.length + uptoBulk d + 1
  | (_, d) => uptoBulk d + 1
 end
def uptoSmall : (H : Type) → List (DataW H) → Bool := fun _ ds => decide (uptoBulkAll ds ≤ 1048576)
def OpenSpec.upto (s : _root_.Go.ChangeSpec) : _root_.Go.OpenSpec := { _root_.Go.OpenSpec.ofChange s with cond := some uptoSmall }

/-- 'tracebooklaw10.ProducerThreads', WHERE WHAT IT READS IS OF BULK AT MOST 1048576: true; the input reads as it did. -/
def producerThreadsUptoRow : OpenClaim := { program := "ytdpgdpjoemdkjaa", sum := "a28ee19e618b2e0f6dbbd0ed07555d4ac6397552563099af0e8e70f041f2e32e", func := "tracebook/tracebooklaw10.ProducerThreads", spec := "producerThreads", inPlace := ["internal/bytealg.IndexByteString"], plainKeys := false, apart := false, narrowed := true }
def ProducerThreadsUptoSaid : Prop := producerThreadsUptoRow.holds Try.pinned (OpenSpec.upto producerThreadsSpec)

/-- 'tracebooklaw10.ProducerPlays', WHERE WHAT IT READS IS OF BULK AT MOST 1048576: true; the input reads as it did. -/
def producerPlaysUptoRow : OpenClaim := { program := "ytdpgdpjoemdkjaa", sum := "a28ee19e618b2e0f6dbbd0ed07555d4ac6397552563099af0e8e70f041f2e32e", func := "tracebook/tracebooklaw10.ProducerPlays", spec := "producerPlays", inPlace := ["internal/bytealg.IndexByteString"], plainKeys := false, apart := false, narrowed := true }
def ProducerPlaysUptoSaid : Prop := producerPlaysUptoRow.holds Try.pinned (OpenSpec.upto producerPlaysSpec)

/-- 'tracebooklaw10.ProducerAccounts', WHERE WHAT IT READS IS OF BULK AT MOST 1048576: true; the input reads as it did. -/
def producerAccountsUptoRow : OpenClaim := { program := "ytdpgdpjoemdkjaa", sum := "a28ee19e618b2e0f6dbbd0ed07555d4ac6397552563099af0e8e70f041f2e32e", func := "tracebook/tracebooklaw10.ProducerAccounts", spec := "producerAccounts", inPlace := ["internal/bytealg.IndexByteString"], plainKeys := false, apart := false, narrowed := true }
def ProducerAccountsUptoSaid : Prop := producerAccountsUptoRow.holds Try.pinned (OpenSpec.upto producerAccountsSpec)

/-- 'tracebooklaw10.ProducerTwice', WHERE WHAT IT READS IS OF BULK AT MOST 1048576: true; the input reads as it did. -/
def producerTwiceUptoRow : OpenClaim := { program := "ytdpgdpjoemdkjaa", sum := "a28ee19e618b2e0f6dbbd0ed07555d4ac6397552563099af0e8e70f041f2e32e", func := "tracebook/tracebooklaw10.ProducerTwice", spec := "producerTwice", inPlace := ["internal/bytealg.IndexByteString"], plainKeys := false, apart := false, narrowed := true }
def ProducerTwiceUptoSaid : Prop := producerTwiceUptoRow.holds Try.pinned (OpenSpec.upto producerTwiceSpec)

/-- 'tracebooklaw10.ProducerChecks', WHERE WHAT IT READS IS OF BULK AT MOST 1048576: true; the input reads as it did. -/
def producerChecksUptoRow : OpenClaim := { program := "ytdpgdpjoemdkjaa", sum := "a28ee19e618b2e0f6dbbd0ed07555d4ac6397552563099af0e8e70f041f2e32e", func := "tracebook/tracebooklaw10.ProducerChecks", spec := "producerChecks", inPlace := ["internal/bytealg.IndexByteString"], plainKeys := false, apart := false, narrowed := true }
def ProducerChecksUptoSaid : Prop := producerChecksUptoRow.holds Try.pinned (OpenSpec.upto producerChecksSpec)

end Rows
end Go.Proofs.Ytdpgdpjoemdkjaa
