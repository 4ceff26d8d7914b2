/- The typed arguments of this seat's laws. Printed by row.py. -/
import Derived.Test.YtngjbadoekamcaaP06xD
import Derived.Test.YtngjbadoekamcaaA35
namespace Go.Ab
open Go
set_option linter.unusedVariables false

def ok_Arr2_Int (s : Arr2_Int) : Prop := okI64 s.c0 ∧ okI64 s.c1
theorem enc_Arr2_Int : Enc [.int .i64, .int .i64] (fun s : Arr2_Int => [.int .i64 s.c0, .int .i64 s.c1]) ok_Arr2_Int :=
  Enc.view (enc_app enc_i64 (enc_app enc_i64 enc_nil)) (fun p => (⟨p.1, p.2.1⟩ : Arr2_Int)) (fun _ => rfl) (fun _ h => ⟨h.1, h.2.1⟩)
def ok_T_tracebooklaw06_Tables (s : T_tracebooklaw06_Tables) : Prop := (okSl okStr) s.Names ∧ (okSl ok_Arr2_Int) s.Stacks
theorem enc_T_tracebooklaw06_Tables : Enc [.sl false [.str], .sl true [.int .i64, .int .i64]] (fun s : T_tracebooklaw06_Tables => [.sl false 1 (List.map AV.str s.Names), .sl false 2 (List.map e_Arr2_Int s.Stacks)]) ok_T_tracebooklaw06_Tables :=
  Enc.view (enc_app (enc_lC enc_st) (enc_app (enc_lA enc_Arr2_Int) enc_nil)) (fun p => (⟨p.1, p.2.1⟩ : T_tracebooklaw06_Tables)) (fun _ => rfl) (fun _ h => ⟨h.1, h.2.1⟩)
end Go.Ab
