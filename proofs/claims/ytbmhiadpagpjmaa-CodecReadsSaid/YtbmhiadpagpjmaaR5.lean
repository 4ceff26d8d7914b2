/- The typed arguments of this seat's laws. Printed by row.py. -/
import Derived.Test.YtbmhiadpagpjmaaP05
import Derived.Test.YtbmhiadpagpjmaaA30
namespace Go.Ab
open Go
set_option linter.unusedVariables false

def ok_Arr4_Int (s : Arr4_Int) : Prop := okU8 s.c0 ∧ okU8 s.c1 ∧ okU8 s.c2 ∧ okU8 s.c3
theorem enc_Arr4_Int : Enc [.int .u8, .int .u8, .int .u8, .int .u8] (fun s : Arr4_Int => [.int .u8 s.c0, .int .u8 s.c1, .int .u8 s.c2, .int .u8 s.c3]) ok_Arr4_Int :=
  Enc.view (enc_app enc_u8 (enc_app enc_u8 (enc_app enc_u8 (enc_app enc_u8 enc_nil)))) (fun p => (⟨p.1, p.2.1, p.2.2.1, p.2.2.2.1⟩ : Arr4_Int)) (fun _ => rfl) (fun _ h => ⟨h.1, h.2.1, h.2.2.1, h.2.2.2.1⟩)
end Go.Ab
