/-
  No cell of these rows narrows 'for every input' (looked for: loops, veiled, ifaces, maps, wideKeys, modest, calm, conditions, laid).
  DERIVED. THE GIVEN ROWS OF THIS SEAT. 6 by the template 'for every input the law returns true; each argument reads behind the call as it read before'; 0 by the template 'total and deterministic' (their statements: YtpdbjocgoheapaaTotals.lean).
  GIVEN WITH THE SEED: the statements are not yours to turn. If you find one false, say at which input.
  Laid BY PROGRAM, IN A SANDBOX (cutbox-rows.mjs): the forced cells as the released guide's own fill.sh prints them over the translation ef52357d5b67be32… (all of the seat's roots in one cut). By AI agents, Wed Nov 11 2026. No macro, syntax, notation, axiom, sorry.
-/
import Derived.Test.YtpdbjocgoheapaaChecked
import GoSem.Claim
import GoSem.ClaimJoined
import GoSem.ClaimMapViews
import Derived.JoinedTies
import Derived.KernelRfl
namespace Go.Proofs.Ytpdbjocgoheapaa
/- THE CELL 'sum', in the pinned program and in every row, IS THE sha256 OF THE DUMP (.gsa) THAT YtpdbjocgoheapaaProg.lean LOADS. Nothing in Lean hashes anything: it is a label: what it is worth is what the hold of that sum in a sandbox is worth. -/
noncomputable def Try.pinned : Pinned := { name := "ytpdbjocgoheapaa", sum := "ef52357d5b67be32a9c988bd1ac9e870b6525b890ef7cdf847034ba146fd8e64", checked := Try.checked }
namespace Rows
def none {H : Type} : Left H := { results := [], args := [] }

/-- 'tracebooklaw12.DrainMakes': WHATEVER THE INPUT: true; the input reads as it did. -/
def drainMakesSpec : ChangeSpec := { name := "drainMakes", fn := fun _ => fun
  | [d] => { results := [.lit (.bool true)], args := [d] }
  | _ => none }
def drainMakesRow : OpenClaim := { program := "ytpdbjocgoheapaa", sum := "ef52357d5b67be32a9c988bd1ac9e870b6525b890ef7cdf847034ba146fd8e64", func := "tracebook/tracebooklaw12.DrainMakes", spec := "drainMakes", inPlace := ["internal/bytealg.IndexByteString"], unfollowed := true, recurses := true, apart := false }
def DrainMakesSaid : Prop := drainMakesRow.holds Try.pinned (OpenSpec.ofChange drainMakesSpec)

/-- ITS FALSE NEIGHBOUR: 'it returns false'. Refute it at one input. -/
def drainMakesWrong : ChangeSpec := { name := "drainMakes", fn := fun _ => fun
  | [d] => { results := [.lit (.bool false)], args := [d] }
  | _ => none }
def DrainMakesWrongFalsely : Prop := drainMakesRow.holds Try.pinned (OpenSpec.ofChange drainMakesWrong)

/-- 'tracebooklaw12.DrainChecks': WHATEVER THE INPUT: true; the input reads as it did. -/
def drainChecksSpec : ChangeSpec := { name := "drainChecks", fn := fun _ => fun
  | [d1, d2] => { results := [.lit (.bool true)], args := [d1, d2] }
  | _ => none }
def drainChecksRow : OpenClaim := { program := "ytpdbjocgoheapaa", sum := "ef52357d5b67be32a9c988bd1ac9e870b6525b890ef7cdf847034ba146fd8e64", func := "tracebook/tracebooklaw12.DrainChecks", spec := "drainChecks", inPlace := ["internal/bytealg.IndexByteString"], unfollowed := true, recurses := true, apart := false }
def DrainChecksSaid : Prop := drainChecksRow.holds Try.pinned (OpenSpec.ofChange drainChecksSpec)

/-- ITS FALSE NEIGHBOUR: 'it returns false'. Refute it at one input. -/
def drainChecksWrong : ChangeSpec := { name := "drainChecks", fn := fun _ => fun
  | [d1, d2] => { results := [.lit (.bool false)], args := [d1, d2] }
  | _ => none }
def DrainChecksWrongFalsely : Prop := drainChecksRow.holds Try.pinned (OpenSpec.ofChange drainChecksWrong)

/-- 'tracebooklaw12.DrainCollects': WHATEVER THE INPUT: true; the input reads as it did. -/
def drainCollectsSpec : ChangeSpec := { name := "drainCollects", fn := fun _ => fun
  | [d1, d2] => { results := [.lit (.bool true)], args := [d1, d2] }
  | _ => none }
def drainCollectsRow : OpenClaim := { program := "ytpdbjocgoheapaa", sum := "ef52357d5b67be32a9c988bd1ac9e870b6525b890ef7cdf847034ba146fd8e64", func := "tracebook/tracebooklaw12.DrainCollects", spec := "drainCollects", inPlace := ["internal/bytealg.IndexByteString"], unfollowed := true, recurses := true, apart := false }
def DrainCollectsSaid : Prop := drainCollectsRow.holds Try.pinned (OpenSpec.ofChange drainCollectsSpec)

/-- ITS FALSE NEIGHBOUR: 'it returns false'. Refute it at one input. -/
def drainCollectsWrong : ChangeSpec := { name := "drainCollects", fn := fun _ => fun
  | [d1, d2] => { results := [.lit (.bool false)], args := [d1, d2] }
  | _ => none }
def DrainCollectsWrongFalsely : Prop := drainCollectsRow.holds Try.pinned (OpenSpec.ofChange drainCollectsWrong)

/-- 'tracebooklaw12.DrainTwice': WHATEVER THE INPUT: true; the input reads as it did. -/
def drainTwiceSpec : ChangeSpec := { name := "drainTwice", fn := fun _ => fun
  | [d1, d2] => { results := [.lit (.bool true)], args := [d1, d2] }
  | _ => none }
def drainTwiceRow : OpenClaim := { program := "ytpdbjocgoheapaa", sum := "ef52357d5b67be32a9c988bd1ac9e870b6525b890ef7cdf847034ba146fd8e64", func := "tracebook/tracebooklaw12.DrainTwice", spec := "drainTwice", inPlace := ["internal/bytealg.IndexByteString"], unfollowed := true, recurses := true, apart := false }
def DrainTwiceSaid : Prop := drainTwiceRow.holds Try.pinned (OpenSpec.ofChange drainTwiceSpec)

/-- ITS FALSE NEIGHBOUR: 'it returns false'. Refute it at one input. -/
def drainTwiceWrong : ChangeSpec := { name := "drainTwice", fn := fun _ => fun
  | [d1, d2] => { results := [.lit (.bool false)], args := [d1, d2] }
  | _ => none }
def DrainTwiceWrongFalsely : Prop := drainTwiceRow.holds Try.pinned (OpenSpec.ofChange drainTwiceWrong)

/-- 'tracebooklaw12.DrainOrder': WHATEVER THE INPUT: true; the input reads as it did. -/
def drainOrderSpec : ChangeSpec := { name := "drainOrder", fn := fun _ => fun
  | [d1, d2] => { results := [.lit (.bool true)], args := [d1, d2] }
  | _ => none }
def drainOrderRow : OpenClaim := { program := "ytpdbjocgoheapaa", sum := "ef52357d5b67be32a9c988bd1ac9e870b6525b890ef7cdf847034ba146fd8e64", func := "tracebook/tracebooklaw12.DrainOrder", spec := "drainOrder", inPlace := ["internal/bytealg.IndexByteString"], unfollowed := true, recurses := true, apart := false }
def DrainOrderSaid : Prop := drainOrderRow.holds Try.pinned (OpenSpec.ofChange drainOrderSpec)

/-- ITS FALSE NEIGHBOUR: 'it returns false'. Refute it at one input. -/
def drainOrderWrong : ChangeSpec := { name := "drainOrder", fn := fun _ => fun
  | [d1, d2] => { results := [.lit (.bool false)], args := [d1, d2] }
  | _ => none }
def DrainOrderWrongFalsely : Prop := drainOrderRow.holds Try.pinned (OpenSpec.ofChange drainOrderWrong)

/-- 'tracebooklaw12.DrainKeeps': WHATEVER THE INPUT: true; the input reads as it did. -/
def drainKeepsSpec : ChangeSpec := { name := "drainKeeps", fn := fun _ => fun
  | [d1, d2] => { results := [.lit (.bool true)], args := [d1, d2] }
  | _ => none }
def drainKeepsRow : OpenClaim := { program := "ytpdbjocgoheapaa", sum := "ef52357d5b67be32a9c988bd1ac9e870b6525b890ef7cdf847034ba146fd8e64", func := "tracebook/tracebooklaw12.DrainKeeps", spec := "drainKeeps", inPlace := ["internal/bytealg.IndexByteString"], unfollowed := true, recurses := true, apart := false }
def DrainKeepsSaid : Prop := drainKeepsRow.holds Try.pinned (OpenSpec.ofChange drainKeepsSpec)

/-- ITS FALSE NEIGHBOUR: 'it returns false'. Refute it at one input. -/
def drainKeepsWrong : ChangeSpec := { name := "drainKeeps", fn := fun _ => fun
  | [d1, d2] => { results := [.lit (.bool false)], args := [d1, d2] }
  | _ => none }
def DrainKeepsWrongFalsely : Prop := drainKeepsRow.holds Try.pinned (OpenSpec.ofChange drainKeepsWrong)

/- THE SECOND FORM. 'bulk': how many values and letters a reading holds, each counted each time it is reached (what is shared counts as often as it is met; a slice's spare places count too). A statement '..UptoSaid' is the law's where the arguments, and the package variables that the reading takes, are together of bulk at most 1048576: NARROWER than '..Said'. Prove '..Said' where nothing that the law and all that it calls make is longer than what came in: it says more and counts as full. Else prove '..UptoSaid'. A law counts once. -/
mutual
def uptoBulk {H : Type} : DataW H → Nat
  | .lit (.string bytes) => bytes.length + 1
  | .lit _ => 1
  | .nil => 1
  | .ptr d => uptoBulk d + 1
  | .slice elems spare => uptoBulkAll elems + uptoBulkAll spare + 1
  | .agg parts => uptoBulkAll parts + 1
  | .iface _ d => uptoBulk d + 1
  | .map entries => uptoBulkEntries entries + 1
  | .held _ => 1
def uptoBulkAll {H : Type} : List (DataW H) → Nat
  | [] => 0
  | d :: r => uptoBulk d + uptoBulkAll r
def uptoBulkEntries {H : Type} : List (Lit × DataW H) → Nat
  | [] => 0
  | x :: r => uptoBulkEntry x + uptoBulkEntries r
def uptoBulkEntry {H : Type} : Lit × DataW H → Nat
  | (.string bytes, d) => bytes.length + uptoBulk d + 1
  | (_, d) => uptoBulk d + 1
 end
def uptoSmall : (H : Type) → List (DataW H) → Bool := fun _ ds => decide (uptoBulkAll ds ≤ 1048576)
def OpenSpec.upto (s : _root_.Go.ChangeSpec) : _root_.Go.OpenSpec := { _root_.Go.OpenSpec.ofChange s with cond := some uptoSmall }

/-- 'tracebooklaw12.DrainMakes', WHERE WHAT IT READS IS OF BULK AT MOST 1048576: true; the input reads as it did. -/
def drainMakesUptoRow : OpenClaim := { program := "ytpdbjocgoheapaa", sum := "ef52357d5b67be32a9c988bd1ac9e870b6525b890ef7cdf847034ba146fd8e64", func := "tracebook/tracebooklaw12.DrainMakes", spec := "drainMakes", inPlace := ["internal/bytealg.IndexByteString"], unfollowed := true, recurses := true, apart := false, narrowed := true }
def DrainMakesUptoSaid : Prop := drainMakesUptoRow.holds Try.pinned (OpenSpec.upto drainMakesSpec)

/-- 'tracebooklaw12.DrainChecks', WHERE WHAT IT READS IS OF BULK AT MOST 1048576: true; the input reads as it did. -/
def drainChecksUptoRow : OpenClaim := { program := "ytpdbjocgoheapaa", sum := "ef52357d5b67be32a9c988bd1ac9e870b6525b890ef7cdf847034ba146fd8e64", func := "tracebook/tracebooklaw12.DrainChecks", spec := "drainChecks", inPlace := ["internal/bytealg.IndexByteString"], unfollowed := true, recurses := true, apart := false, narrowed := true }
def DrainChecksUptoSaid : Prop := drainChecksUptoRow.holds Try.pinned (OpenSpec.upto drainChecksSpec)

/-- 'tracebooklaw12.DrainCollects', WHERE WHAT IT READS IS OF BULK AT MOST 1048576: true; the input reads as it did. -/
def drainCollectsUptoRow : OpenClaim := { program := "ytpdbjocgoheapaa", sum := "ef52357d5b67be32a9c988bd1ac9e870b6525b890ef7cdf847034ba146fd8e64", func := "tracebook/tracebooklaw12.DrainCollects", spec := "drainCollects", inPlace := ["internal/bytealg.IndexByteString"], unfollowed := true, recurses := true, apart := false, narrowed := true }
def DrainCollectsUptoSaid : Prop := drainCollectsUptoRow.holds Try.pinned (OpenSpec.upto drainCollectsSpec)

/-- 'tracebooklaw12.DrainTwice', WHERE WHAT IT READS IS OF BULK AT MOST 1048576: true; the input reads as it did. -/
def drainTwiceUptoRow : OpenClaim := { program := "ytpdbjocgoheapaa", sum := "ef52357d5b67be32a9c988bd1ac9e870b6525b890ef7cdf847034ba146fd8e64", func := "tracebook/tracebooklaw12.DrainTwice", spec := "drainTwice", inPlace := ["internal/bytealg.IndexByteString"], unfollowed := true, recurses := true, apart := false, narrowed := true }
def DrainTwiceUptoSaid : Prop := drainTwiceUptoRow.holds Try.pinned (OpenSpec.upto drainTwiceSpec)

/-- 'tracebooklaw12.DrainOrder', WHERE WHAT IT READS IS OF BULK AT MOST 1048576: true; the input reads as it did. -/
def drainOrderUptoRow : OpenClaim := { program := "ytpdbjocgoheapaa", sum := "ef52357d5b67be32a9c988bd1ac9e870b6525b890ef7cdf847034ba146fd8e64", func := "tracebook/tracebooklaw12.DrainOrder", spec := "drainOrder", inPlace := ["internal/bytealg.IndexByteString"], unfollowed := true, recurses := true, apart := false, narrowed := true }
def DrainOrderUptoSaid : Prop := drainOrderUptoRow.holds Try.pinned (OpenSpec.upto drainOrderSpec)

/-- 'tracebooklaw12.DrainKeeps', WHERE WHAT IT READS IS OF BULK AT MOST 1048576: true; the input reads as it did. -/
def drainKeepsUptoRow : OpenClaim := { program := "ytpdbjocgoheapaa", sum := "ef52357d5b67be32a9c988bd1ac9e870b6525b890ef7cdf847034ba146fd8e64", func := "tracebook/tracebooklaw12.DrainKeeps", spec := "drainKeeps", inPlace := ["internal/bytealg.IndexByteString"], unfollowed := true, recurses := true, apart := false, narrowed := true }
def DrainKeepsUptoSaid : Prop := drainKeepsUptoRow.holds Try.pinned (OpenSpec.upto drainKeepsSpec)

end Rows
end Go.Proofs.Ytpdbjocgoheapaa
