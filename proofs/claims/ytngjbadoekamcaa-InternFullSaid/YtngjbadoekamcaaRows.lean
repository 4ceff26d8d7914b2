/-
  No cell of these rows narrows 'for every input' (looked for: loops, veiled, ifaces, maps, wideKeys, modest, calm, conditions, laid).
  DERIVED. THE GIVEN ROWS OF THIS SEAT. 5 by the template 'for every input the law returns true; each argument reads behind the call as it read before'; 0 by the template 'total and deterministic' (their statements: YtngjbadoekamcaaTotals.lean).
  GIVEN WITH THE SEED: the statements are not yours to turn. If you find one false, say at which input.
  Laid BY PROGRAM, IN A SANDBOX (cutbox-rows.mjs): the forced cells as the released guide's own fill.sh prints them over the translation 4bc32eeea067fe84… (all of the seat's roots in one cut). By AI agents, Wed Nov 11 2026. No macro, syntax, notation, axiom, sorry.
-/
import Derived.Test.YtngjbadoekamcaaChecked
import GoSem.Claim
import GoSem.ClaimJoined
import GoSem.ClaimMapViews
import Derived.JoinedTies
import Derived.KernelRfl
namespace Go.Proofs.Ytngjbadoekamcaa
/- THE CELL 'sum', in the pinned program and in every row, IS THE sha256 OF THE DUMP (.gsa) THAT YtngjbadoekamcaaProg.lean LOADS. Nothing in Lean hashes anything: it is a label: what it is worth is what the hold of that sum in a sandbox is worth. -/
noncomputable def Try.pinned : Pinned := { name := "ytngjbadoekamcaa", sum := "4bc32eeea067fe8473c37353d2d3ffa1dd54b0fb80ae376ecf3cdcad3cd89c13", checked := Try.checked }
namespace Rows
def none {H : Type} : Left H := { results := [], args := [] }

/-- 'tracebooklaw06.InternChecks': WHATEVER THE INPUT: true; the input reads as it did. -/
def internChecksSpec : ChangeSpec := { name := "internChecks", fn := fun _ => fun
  | [d1, d2, d3] => { results := [.lit (.bool true)], args := [d1, d2, d3] }
  | _ => none }
def internChecksRow : OpenClaim := { program := "ytngjbadoekamcaa", sum := "4bc32eeea067fe8473c37353d2d3ffa1dd54b0fb80ae376ecf3cdcad3cd89c13", func := "tracebook/tracebooklaw06.InternChecks", spec := "internChecks", inPlace := ["internal/bytealg.IndexByteString"], plainKeys := false, apart := false }
def InternChecksSaid : Prop := internChecksRow.holds Try.pinned (OpenSpec.ofChange internChecksSpec)

/-- ITS FALSE NEIGHBOUR: 'it returns false'. Refute it at one input. -/
def internChecksWrong : ChangeSpec := { name := "internChecks", fn := fun _ => fun
  | [d1, d2, d3] => { results := [.lit (.bool false)], args := [d1, d2, d3] }
  | _ => none }
def InternChecksWrongFalsely : Prop := internChecksRow.holds Try.pinned (OpenSpec.ofChange internChecksWrong)

/-- 'tracebooklaw06.InternPuts': WHATEVER THE INPUT: true; the input reads as it did. -/
def internPutsSpec : ChangeSpec := { name := "internPuts", fn := fun _ => fun
  | [d1, d2, d3] => { results := [.lit (.bool true)], args := [d1, d2, d3] }
  | _ => none }
def internPutsRow : OpenClaim := { program := "ytngjbadoekamcaa", sum := "4bc32eeea067fe8473c37353d2d3ffa1dd54b0fb80ae376ecf3cdcad3cd89c13", func := "tracebook/tracebooklaw06.InternPuts", spec := "internPuts", inPlace := ["internal/bytealg.IndexByteString"], plainKeys := false, apart := false }
def InternPutsSaid : Prop := internPutsRow.holds Try.pinned (OpenSpec.ofChange internPutsSpec)

/-- ITS FALSE NEIGHBOUR: 'it returns false'. Refute it at one input. -/
def internPutsWrong : ChangeSpec := { name := "internPuts", fn := fun _ => fun
  | [d1, d2, d3] => { results := [.lit (.bool false)], args := [d1, d2, d3] }
  | _ => none }
def InternPutsWrongFalsely : Prop := internPutsRow.holds Try.pinned (OpenSpec.ofChange internPutsWrong)

/-- 'tracebooklaw06.InternBack': WHATEVER THE INPUT: true; the input reads as it did. -/
def internBackSpec : ChangeSpec := { name := "internBack", fn := fun _ => fun
  | [d1, d2] => { results := [.lit (.bool true)], args := [d1, d2] }
  | _ => none }
def internBackRow : OpenClaim := { program := "ytngjbadoekamcaa", sum := "4bc32eeea067fe8473c37353d2d3ffa1dd54b0fb80ae376ecf3cdcad3cd89c13", func := "tracebook/tracebooklaw06.InternBack", spec := "internBack", inPlace := ["internal/bytealg.IndexByteString"], plainKeys := false, apart := false }
def InternBackSaid : Prop := internBackRow.holds Try.pinned (OpenSpec.ofChange internBackSpec)

/-- ITS FALSE NEIGHBOUR: 'it returns false'. Refute it at one input. -/
def internBackWrong : ChangeSpec := { name := "internBack", fn := fun _ => fun
  | [d1, d2] => { results := [.lit (.bool false)], args := [d1, d2] }
  | _ => none }
def InternBackWrongFalsely : Prop := internBackRow.holds Try.pinned (OpenSpec.ofChange internBackWrong)

/-- 'tracebooklaw06.InternAgain': WHATEVER THE INPUT: true; the input reads as it did. -/
def internAgainSpec : ChangeSpec := { name := "internAgain", fn := fun _ => fun
  | [d1, d2, d3] => { results := [.lit (.bool true)], args := [d1, d2, d3] }
  | _ => none }
def internAgainRow : OpenClaim := { program := "ytngjbadoekamcaa", sum := "4bc32eeea067fe8473c37353d2d3ffa1dd54b0fb80ae376ecf3cdcad3cd89c13", func := "tracebook/tracebooklaw06.InternAgain", spec := "internAgain", inPlace := ["internal/bytealg.IndexByteString"], plainKeys := false, apart := false }
def InternAgainSaid : Prop := internAgainRow.holds Try.pinned (OpenSpec.ofChange internAgainSpec)

/-- ITS FALSE NEIGHBOUR: 'it returns false'. Refute it at one input. -/
def internAgainWrong : ChangeSpec := { name := "internAgain", fn := fun _ => fun
  | [d1, d2, d3] => { results := [.lit (.bool false)], args := [d1, d2, d3] }
  | _ => none }
def InternAgainWrongFalsely : Prop := internAgainRow.holds Try.pinned (OpenSpec.ofChange internAgainWrong)

/-- 'tracebooklaw06.InternFull': WHATEVER THE INPUT: true; the input reads as it did. -/
def internFullSpec : ChangeSpec := { name := "internFull", fn := fun _ => fun
  | [d] => { results := [.lit (.bool true)], args := [d] }
  | _ => none }
def internFullRow : OpenClaim := { program := "ytngjbadoekamcaa", sum := "4bc32eeea067fe8473c37353d2d3ffa1dd54b0fb80ae376ecf3cdcad3cd89c13", func := "tracebook/tracebooklaw06.InternFull", spec := "internFull", inPlace := ["internal/bytealg.IndexByteString"], plainKeys := false, apart := false }
def InternFullSaid : Prop := internFullRow.holds Try.pinned (OpenSpec.ofChange internFullSpec)

/-- ITS FALSE NEIGHBOUR: 'it returns false'. Refute it at one input. -/
def internFullWrong : ChangeSpec := { name := "internFull", fn := fun _ => fun
  | [d] => { results := [.lit (.bool false)], args := [d] }
  | _ => none }
def InternFullWrongFalsely : Prop := internFullRow.holds Try.pinned (OpenSpec.ofChange internFullWrong)

/- THE SECOND FORM. 'bulk': how many values and letters a reading holds, each counted each time it is reached (what is shared counts as often as it is met; a slice's spare places count too). A statement '..UptoSaid' is the law's where the arguments, and the package variables that the reading takes, are together of bulk at most 1048576: NARROWER than '..Said'. Prove '..Said' where nothing that the law and all that it calls make is longer than what came in: it says more and counts as full. Else prove '..UptoSaid'. A law counts once. -/
mutual
def uptoBulk {H : Type} : DataW H → Nat
  | .lit (.string bytes) => bytes.length + 1
  | .lit _ => 1
  | .nil => 1
  | .ptr d => uptoBulk d + 1
  | .slice elems spare => uptoBulkAll elems + uptoBulkAll spare + 1
  | .agg parts => uptoBulkAll parts + 1
  | .iface _ d => uptoBulk d + 1
  | .map entries => uptoBulkEntries entries + 1
  | .held _ => 1
def uptoBulkAll {H : Type} : List (DataW H) → Nat
  | [] => 0
  | d :: r => uptoBulk d + uptoBulkAll r
def uptoBulkEntries {H : Type} : List (Lit × DataW H) → Nat
  | [] => 0
  | x :: r => uptoBulkEntry x + uptoBulkEntries r
def uptoBulkEntry {H : Type} : Lit × DataW H → Nat
  | (.string bytes, d) => bytes.length + uptoBulk d + 1
  | (_, d) => uptoBulk d + 1
 end
def uptoSmall : (H : Type) → List (DataW H) → Bool := fun _ ds => decide (uptoBulkAll ds ≤ 1048576)
def OpenSpec.upto (s : _root_.Go.ChangeSpec) : _root_.Go.OpenSpec := { _root_.Go.OpenSpec.ofChange s with cond := some uptoSmall }

/-- 'tracebooklaw06.InternChecks', WHERE WHAT IT READS IS OF BULK AT MOST 1048576: true; the input reads as it did. -/
def internChecksUptoRow : OpenClaim := { program := "ytngjbadoekamcaa", sum := "4bc32eeea067fe8473c37353d2d3ffa1dd54b0fb80ae376ecf3cdcad3cd89c13", func := "tracebook/tracebooklaw06.InternChecks", spec := "internChecks", inPlace := ["internal/bytealg.IndexByteString"], plainKeys := false, apart := false, narrowed := true }
def InternChecksUptoSaid : Prop := internChecksUptoRow.holds Try.pinned (OpenSpec.upto internChecksSpec)

/-- 'tracebooklaw06.InternPuts', WHERE WHAT IT READS IS OF BULK AT MOST 1048576: true; the input reads as it did. -/
def internPutsUptoRow : OpenClaim := { program := "ytngjbadoekamcaa", sum := "4bc32eeea067fe8473c37353d2d3ffa1dd54b0fb80ae376ecf3cdcad3cd89c13", func := "tracebook/tracebooklaw06.InternPuts", spec := "internPuts", inPlace := ["internal/bytealg.IndexByteString"], plainKeys := false, apart := false, narrowed := true }
def InternPutsUptoSaid : Prop := internPutsUptoRow.holds Try.pinned (OpenSpec.upto internPutsSpec)

/-- 'tracebooklaw06.InternBack', WHERE WHAT IT READS IS OF BULK AT MOST 1048576: true; the input reads as it did. -/
def internBackUptoRow : OpenClaim := { program := "ytngjbadoekamcaa", sum := "4bc32eeea067fe8473c37353d2d3ffa1dd54b0fb80ae376ecf3cdcad3cd89c13", func := "tracebook/tracebooklaw06.InternBack", spec := "internBack", inPlace := ["internal/bytealg.IndexByteString"], plainKeys := false, apart := false, narrowed := true }
def InternBackUptoSaid : Prop := internBackUptoRow.holds Try.pinned (OpenSpec.upto internBackSpec)

/-- 'tracebooklaw06.InternAgain', WHERE WHAT IT READS IS OF BULK AT MOST 1048576: true; the input reads as it did. -/
def internAgainUptoRow : OpenClaim := { program := "ytngjbadoekamcaa", sum := "4bc32eeea067fe8473c37353d2d3ffa1dd54b0fb80ae376ecf3cdcad3cd89c13", func := "tracebook/tracebooklaw06.InternAgain", spec := "internAgain", inPlace := ["internal/bytealg.IndexByteString"], plainKeys := false, apart := false, narrowed := true }
def InternAgainUptoSaid : Prop := internAgainUptoRow.holds Try.pinned (OpenSpec.upto internAgainSpec)

/-- 'tracebooklaw06.InternFull', WHERE WHAT IT READS IS OF BULK AT MOST 1048576: true; the input reads as it did. -/
def internFullUptoRow : OpenClaim := { program := "ytngjbadoekamcaa", sum := "4bc32eeea067fe8473c37353d2d3ffa1dd54b0fb80ae376ecf3cdcad3cd89c13", func := "tracebook/tracebooklaw06.InternFull", spec := "internFull", inPlace := ["internal/bytealg.IndexByteString"], plainKeys := false, apart := false, narrowed := true }
def InternFullUptoSaid : Prop := internFullUptoRow.holds Try.pinned (OpenSpec.upto internFullSpec)

end Rows
end Go.Proofs.Ytngjbadoekamcaa
