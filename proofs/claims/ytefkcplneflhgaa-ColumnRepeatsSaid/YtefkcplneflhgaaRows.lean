/-
  No cell of these rows narrows 'for every input' (looked for: loops, veiled, ifaces, maps, wideKeys, modest, calm, conditions, laid).
  DERIVED. THE GIVEN ROWS OF THIS SEAT. 5 by the template 'for every input the law returns true; each argument reads behind the call as it read before'; 0 by the template 'total and deterministic' (their statements: YtefkcplneflhgaaTotals.lean).
  GIVEN WITH THE SEED: the statements are not yours to turn. If you find one false, say at which input.
  Laid BY PROGRAM, IN A SANDBOX (cutbox-rows.mjs): the forced cells as the released guide's own fill.sh prints them over the translation ea6e83374d274641… (all of the seat's roots in one cut). By AI agents, Wed Nov 11 2026. No macro, syntax, notation, axiom, sorry.
-/
import Derived.Test.YtefkcplneflhgaaChecked
import GoSem.Claim
import GoSem.ClaimJoined
import GoSem.ClaimMapViews
import Derived.JoinedTies
import Derived.KernelRfl
namespace Go.Proofs.Ytefkcplneflhgaa
/- THE CELL 'sum', in the pinned program and in every row, IS THE sha256 OF THE DUMP (.gsa) THAT YtefkcplneflhgaaProg.lean LOADS. Nothing in Lean hashes anything: it is a label: what it is worth is what the hold of that sum in a sandbox is worth. -/
noncomputable def Try.pinned : Pinned := { name := "ytefkcplneflhgaa", sum := "ea6e83374d274641ce185a528cffb449a946aed4ba0a5053654f46fc3e91d99b", checked := Try.checked }
namespace Rows
def none {H : Type} : Left H := { results := [], args := [] }

/-- 'tracebooklaw33.ColumnValues': WHATEVER THE INPUT: true; the input reads as it did. -/
def columnValuesSpec : ChangeSpec := { name := "columnValues", fn := fun _ => fun
  | [d1, d2] => { results := [.lit (.bool true)], args := [d1, d2] }
  | _ => none }
def columnValuesRow : OpenClaim := { program := "ytefkcplneflhgaa", sum := "ea6e83374d274641ce185a528cffb449a946aed4ba0a5053654f46fc3e91d99b", func := "tracebook/tracebooklaw33.ColumnValues", spec := "columnValues", plainKeys := false, apart := false }
def ColumnValuesSaid : Prop := columnValuesRow.holds Try.pinned (OpenSpec.ofChange columnValuesSpec)

/-- ITS FALSE NEIGHBOUR: 'it returns false'. Refute it at one input. -/
def columnValuesWrong : ChangeSpec := { name := "columnValues", fn := fun _ => fun
  | [d1, d2] => { results := [.lit (.bool false)], args := [d1, d2] }
  | _ => none }
def ColumnValuesWrongFalsely : Prop := columnValuesRow.holds Try.pinned (OpenSpec.ofChange columnValuesWrong)

/-- 'tracebooklaw33.ColumnEncodes': WHATEVER THE INPUT: true; the input reads as it did. -/
def columnEncodesSpec : ChangeSpec := { name := "columnEncodes", fn := fun _ => fun
  | [d1, d2] => { results := [.lit (.bool true)], args := [d1, d2] }
  | _ => none }
def columnEncodesRow : OpenClaim := { program := "ytefkcplneflhgaa", sum := "ea6e83374d274641ce185a528cffb449a946aed4ba0a5053654f46fc3e91d99b", func := "tracebook/tracebooklaw33.ColumnEncodes", spec := "columnEncodes", plainKeys := false, apart := false }
def ColumnEncodesSaid : Prop := columnEncodesRow.holds Try.pinned (OpenSpec.ofChange columnEncodesSpec)

/-- ITS FALSE NEIGHBOUR: 'it returns false'. Refute it at one input. -/
def columnEncodesWrong : ChangeSpec := { name := "columnEncodes", fn := fun _ => fun
  | [d1, d2] => { results := [.lit (.bool false)], args := [d1, d2] }
  | _ => none }
def ColumnEncodesWrongFalsely : Prop := columnEncodesRow.holds Try.pinned (OpenSpec.ofChange columnEncodesWrong)

/-- 'tracebooklaw33.ColumnDecodes': WHATEVER THE INPUT: true; the input reads as it did. -/
def columnDecodesSpec : ChangeSpec := { name := "columnDecodes", fn := fun _ => fun
  | [d] => { results := [.lit (.bool true)], args := [d] }
  | _ => none }
def columnDecodesRow : OpenClaim := { program := "ytefkcplneflhgaa", sum := "ea6e83374d274641ce185a528cffb449a946aed4ba0a5053654f46fc3e91d99b", func := "tracebook/tracebooklaw33.ColumnDecodes", spec := "columnDecodes", plainKeys := false, apart := false }
def ColumnDecodesSaid : Prop := columnDecodesRow.holds Try.pinned (OpenSpec.ofChange columnDecodesSpec)

/-- ITS FALSE NEIGHBOUR: 'it returns false'. Refute it at one input. -/
def columnDecodesWrong : ChangeSpec := { name := "columnDecodes", fn := fun _ => fun
  | [d] => { results := [.lit (.bool false)], args := [d] }
  | _ => none }
def ColumnDecodesWrongFalsely : Prop := columnDecodesRow.holds Try.pinned (OpenSpec.ofChange columnDecodesWrong)

/-- 'tracebooklaw33.ColumnShort': WHATEVER THE INPUT: true; the input reads as it did. -/
def columnShortSpec : ChangeSpec := { name := "columnShort", fn := fun _ => fun
  | [d1, d2] => { results := [.lit (.bool true)], args := [d1, d2] }
  | _ => none }
def columnShortRow : OpenClaim := { program := "ytefkcplneflhgaa", sum := "ea6e83374d274641ce185a528cffb449a946aed4ba0a5053654f46fc3e91d99b", func := "tracebook/tracebooklaw33.ColumnShort", spec := "columnShort", plainKeys := false, apart := false }
def ColumnShortSaid : Prop := columnShortRow.holds Try.pinned (OpenSpec.ofChange columnShortSpec)

/-- ITS FALSE NEIGHBOUR: 'it returns false'. Refute it at one input. -/
def columnShortWrong : ChangeSpec := { name := "columnShort", fn := fun _ => fun
  | [d1, d2] => { results := [.lit (.bool false)], args := [d1, d2] }
  | _ => none }
def ColumnShortWrongFalsely : Prop := columnShortRow.holds Try.pinned (OpenSpec.ofChange columnShortWrong)

/-- 'tracebooklaw33.ColumnRepeats': WHATEVER THE INPUT: true; the input reads as it did. -/
def columnRepeatsSpec : ChangeSpec := { name := "columnRepeats", fn := fun _ => fun
  | [d1, d2, d3] => { results := [.lit (.bool true)], args := [d1, d2, d3] }
  | _ => none }
def columnRepeatsRow : OpenClaim := { program := "ytefkcplneflhgaa", sum := "ea6e83374d274641ce185a528cffb449a946aed4ba0a5053654f46fc3e91d99b", func := "tracebook/tracebooklaw33.ColumnRepeats", spec := "columnRepeats", plainKeys := false, apart := false }
def ColumnRepeatsSaid : Prop := columnRepeatsRow.holds Try.pinned (OpenSpec.ofChange columnRepeatsSpec)

/-- ITS FALSE NEIGHBOUR: 'it returns false'. Refute it at one input. -/
def columnRepeatsWrong : ChangeSpec := { name := "columnRepeats", fn := fun _ => fun
  | [d1, d2, d3] => { results := [.lit (.bool false)], args := [d1, d2, d3] }
  | _ => none }
def ColumnRepeatsWrongFalsely : Prop := columnRepeatsRow.holds Try.pinned (OpenSpec.ofChange columnRepeatsWrong)

/- THE SECOND FORM. 'bulk': how many values and letters a reading holds, each counted each time it is reached (what is shared counts as often as it is met; a slice's spare places count too). A statement '..UptoSaid' is the law's where the arguments, and the package variables that the reading takes, are together of bulk at most 1048576: NARROWER than '..Said'. Prove '..Said' where nothing that the law and all that it calls make is longer than what came in: it says more and counts as full. Else prove '..UptoSaid'. A law counts once. -/
mutual
def uptoBulk {H : Type} : DataW H → Nat
  | .lit (.string bytes) => bytes.length + 1
  | .lit _ => 1
  | .nil => 1
  | .ptr d => uptoBulk d + 1
  | .slice elems spare => uptoBulkAll elems + uptoBulkAll spare + 1
  | .agg parts => uptoBulkAll parts + 1
  | .iface _ d => uptoBulk d + 1
  | .map entries => uptoBulkEntries entries + 1
  | .held _ => 1
def uptoBulkAll {H : Type} : List (DataW H) → Nat
  | [] => 0
  | d :: r => uptoBulk d + uptoBulkAll r
def uptoBulkEntries {H : Type} : List (Lit × DataW H) → Nat
  | [] => 0
  | x :: r => uptoBulkEntry x + uptoBulkEntries r
def uptoBulkEntry {H : Type} : Lit × DataW H → Nat
  | (.string bytes, d) => bytes.length + uptoBulk d + 1
  | (_, d) => uptoBulk d + 1
 end
def uptoSmall : (H : Type) → List (DataW H) → Bool := fun _ ds => decide (uptoBulkAll ds ≤ 1048576)
def OpenSpec.upto (s : _root_.Go.ChangeSpec) : _root_.Go.OpenSpec := { _root_.Go.OpenSpec.ofChange s with cond := some uptoSmall }

/-- 'tracebooklaw33.ColumnValues', WHERE WHAT IT READS IS OF BULK AT MOST 1048576: true; the input reads as it did. -/
def columnValuesUptoRow : OpenClaim := { program := "ytefkcplneflhgaa", sum := "ea6e83374d274641ce185a528cffb449a946aed4ba0a5053654f46fc3e91d99b", func := "tracebook/tracebooklaw33.ColumnValues", spec := "columnValues", plainKeys := false, apart := false, narrowed := true }
def ColumnValuesUptoSaid : Prop := columnValuesUptoRow.holds Try.pinned (OpenSpec.upto columnValuesSpec)

/-- 'tracebooklaw33.ColumnEncodes', WHERE WHAT IT READS IS OF BULK AT MOST 1048576: true; the input reads as it did. -/
def columnEncodesUptoRow : OpenClaim := { program := "ytefkcplneflhgaa", sum := "ea6e83374d274641ce185a528cffb449a946aed4ba0a5053654f46fc3e91d99b", func := "tracebook/tracebooklaw33.ColumnEncodes", spec := "columnEncodes", plainKeys := false, apart := false, narrowed := true }
def ColumnEncodesUptoSaid : Prop := columnEncodesUptoRow.holds Try.pinned (OpenSpec.upto columnEncodesSpec)

/-- 'tracebooklaw33.ColumnDecodes', WHERE WHAT IT READS IS OF BULK AT MOST 1048576: true; the input reads as it did. -/
def columnDecodesUptoRow : OpenClaim := { program := "ytefkcplneflhgaa", sum := "ea6e83374d274641ce185a528cffb449a946aed4ba0a5053654f46fc3e91d99b", func := "tracebook/tracebooklaw33.ColumnDecodes", spec := "columnDecodes", plainKeys := false, apart := false, narrowed := true }
def ColumnDecodesUptoSaid : Prop := columnDecodesUptoRow.holds Try.pinned (OpenSpec.upto columnDecodesSpec)

/-- 'tracebooklaw33.ColumnShort', WHERE WHAT IT READS IS OF BULK AT MOST 1048576: true; the input reads as it did. -/
def columnShortUptoRow : OpenClaim := { program := "ytefkcplneflhgaa", sum := "ea6e83374d274641ce185a528cffb449a946aed4ba0a5053654f46fc3e91d99b", func := "tracebook/tracebooklaw33.ColumnShort", spec := "columnShort", plainKeys := false, apart := false, narrowed := true }
def ColumnShortUptoSaid : Prop := columnShortUptoRow.holds Try.pinned (OpenSpec.upto columnShortSpec)

/-- 'tracebooklaw33.ColumnRepeats', WHERE WHAT IT READS IS OF BULK AT MOST 1048576: true; the input reads as it did. -/
def columnRepeatsUptoRow : OpenClaim := { program := "ytefkcplneflhgaa", sum := "ea6e83374d274641ce185a528cffb449a946aed4ba0a5053654f46fc3e91d99b", func := "tracebook/tracebooklaw33.ColumnRepeats", spec := "columnRepeats", plainKeys := false, apart := false, narrowed := true }
def ColumnRepeatsUptoSaid : Prop := columnRepeatsUptoRow.holds Try.pinned (OpenSpec.upto columnRepeatsSpec)

end Rows
end Go.Proofs.Ytefkcplneflhgaa
