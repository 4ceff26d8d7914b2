/- The typed arguments of this seat's laws. Printed by row.py. -/
import Derived.Test.YtefkcplneflhgaaP33xD
import Derived.Test.YtefkcplneflhgaaA35
namespace Go.Ab
open Go
set_option linter.unusedVariables false

def ok_T_api_Value (s : T_api_Value) : Prop := okI64 s.Kind ∧ okI64 s.N ∧ okStr s.S
theorem enc_T_api_Value : Enc [.int .i64, .int .i64, .str] (fun s : T_api_Value => [.int .i64 s.Kind, .int .i64 s.N, .str s.S]) ok_T_api_Value :=
  Enc.view (enc_app enc_i64 (enc_app enc_i64 (enc_app enc_st enc_nil))) (fun p => (⟨p.1, p.2.1, p.2.2.1⟩ : T_api_Value)) (fun _ => rfl) (fun _ h => ⟨h.1, h.2.1, h.2.2.1⟩)
def ok_T_api_Packed (s : T_api_Packed) : Prop := okI64 s.Type_ ∧ okI64 s.N ∧ (okSl okU8) s.Bytes
theorem enc_T_api_Packed : Enc [.int .i64, .int .i64, .sl false [.int .u8]] (fun s : T_api_Packed => [.int .i64 s.Type_, .int .i64 s.N, .sl false 1 (List.map (AV.int .u8) s.Bytes)]) ok_T_api_Packed :=
  Enc.view (enc_app enc_i64 (enc_app enc_i64 (enc_app (enc_lC enc_u8) enc_nil))) (fun p => (⟨p.1, p.2.1, p.2.2.1⟩ : T_api_Packed)) (fun _ => rfl) (fun _ h => ⟨h.1, h.2.1, h.2.2.1⟩)
end Go.Ab
