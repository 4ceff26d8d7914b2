/- The typed arguments of this seat's laws. Printed by row.py. -/
import Derived.Test.YtldkljbmhfiboaaP09xD
import Derived.Test.YtldkljbmhfiboaaA35
namespace Go.Ab
open Go
set_option linter.unusedVariables false

def ok_T_api_Ring (s : T_api_Ring) : Prop := okI64 s.Policy ∧ (okSl okU8) s.Data ∧ okI64 s.Start ∧ okI64 s.End ∧ okI64 s.First ∧ okI64 s.Next
theorem enc_T_api_Ring : Enc [.int .i64, .sl false [.int .u8], .int .i64, .int .i64, .int .i64, .int .i64] (fun s : T_api_Ring => [.int .i64 s.Policy, .sl false 1 (List.map (AV.int .u8) s.Data), .int .i64 s.Start, .int .i64 s.End, .int .i64 s.First, .int .i64 s.Next]) ok_T_api_Ring :=
  Enc.view (enc_app enc_i64 (enc_app (enc_lC enc_u8) (enc_app enc_i64 (enc_app enc_i64 (enc_app enc_i64 (enc_app enc_i64 enc_nil)))))) (fun p => (⟨p.1, p.2.1, p.2.2.1, p.2.2.2.1, p.2.2.2.2.1, p.2.2.2.2.2.1⟩ : T_api_Ring)) (fun _ => rfl) (fun _ h => ⟨h.1, h.2.1, h.2.2.1, h.2.2.2.1, h.2.2.2.2.1, h.2.2.2.2.2.1⟩)
end Go.Ab
