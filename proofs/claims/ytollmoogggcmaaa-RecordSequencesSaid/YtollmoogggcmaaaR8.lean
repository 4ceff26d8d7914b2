/- The typed arguments of this seat's laws. Printed by row.py. -/
import Derived.Test.YtollmoogggcmaaaP08xD
import Derived.Test.YtollmoogggcmaaaA35
namespace Go.Ab
open Go
set_option linter.unusedVariables false

def ok_Arr2_Int (s : Arr2_Int) : Prop := okI64 s.c0 ∧ okI64 s.c1
theorem enc_Arr2_Int : Enc [.int .i64, .int .i64] (fun s : Arr2_Int => [.int .i64 s.c0, .int .i64 s.c1]) ok_Arr2_Int :=
  Enc.view (enc_app enc_i64 (enc_app enc_i64 enc_nil)) (fun p => (⟨p.1, p.2.1⟩ : Arr2_Int)) (fun _ => rfl) (fun _ h => ⟨h.1, h.2.1⟩)
def ok_T_tracebooklaw08_Tables (s : T_tracebooklaw08_Tables) : Prop := (okSl okStr) s.Names ∧ (okSl ok_Arr2_Int) s.Stacks
theorem enc_T_tracebooklaw08_Tables : Enc [.sl false [.str], .sl true [.int .i64, .int .i64]] (fun s : T_tracebooklaw08_Tables => [.sl false 1 (List.map AV.str s.Names), .sl false 2 (List.map e_Arr2_Int s.Stacks)]) ok_T_tracebooklaw08_Tables :=
  Enc.view (enc_app (enc_lC enc_st) (enc_app (enc_lA enc_Arr2_Int) enc_nil)) (fun p => (⟨p.1, p.2.1⟩ : T_tracebooklaw08_Tables)) (fun _ => rfl) (fun _ h => ⟨h.1, h.2.1⟩)
def ok_T_api_Event (s : T_api_Event) : Prop := okI64 s.At ∧ okI64 s.Kind ∧ okStr s.Name ∧ okI64 s.N ∧ okI64 s.M ∧ (okSl okStr) s.Stack
theorem enc_T_api_Event : Enc [.int .i64, .int .i64, .str, .int .i64, .int .i64, .sl false [.str]] (fun s : T_api_Event => [.int .i64 s.At, .int .i64 s.Kind, .str s.Name, .int .i64 s.N, .int .i64 s.M, .sl false 1 (List.map AV.str s.Stack)]) ok_T_api_Event :=
  Enc.view (enc_app enc_i64 (enc_app enc_i64 (enc_app enc_st (enc_app enc_i64 (enc_app enc_i64 (enc_app (enc_lC enc_st) enc_nil)))))) (fun p => (⟨p.1, p.2.1, p.2.2.1, p.2.2.2.1, p.2.2.2.2.1, p.2.2.2.2.2.1⟩ : T_api_Event)) (fun _ => rfl) (fun _ h => ⟨h.1, h.2.1, h.2.2.1, h.2.2.2.1, h.2.2.2.2.1, h.2.2.2.2.2.1⟩)
end Go.Ab
