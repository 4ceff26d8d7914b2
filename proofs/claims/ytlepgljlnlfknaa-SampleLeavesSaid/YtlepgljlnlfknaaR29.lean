/- The typed arguments of this seat's laws. Printed by row.py. -/
import Derived.Test.YtlepgljlnlfknaaP29
import Derived.Test.YtlepgljlnlfknaaA30
namespace Go.Ab
open Go
set_option linter.unusedVariables false

def ok_T_api_Id (s : T_api_Id) : Prop := okI64 s.Thread ∧ okI64 s.Serial
theorem enc_T_api_Id : Enc [.int .i64, .int .i64] (fun s : T_api_Id => [.int .i64 s.Thread, .int .i64 s.Serial]) ok_T_api_Id :=
  Enc.view (enc_app enc_i64 (enc_app enc_i64 enc_nil)) (fun p => (⟨p.1, p.2.1⟩ : T_api_Id)) (fun _ => rfl) (fun _ h => ⟨h.1, h.2.1⟩)
def ok_T_api_Event (s : T_api_Event) : Prop := okI64 s.At ∧ okI64 s.Kind ∧ okStr s.Name ∧ okI64 s.N ∧ okI64 s.M ∧ (okSl okStr) s.Stack
theorem enc_T_api_Event : Enc [.int .i64, .int .i64, .str, .int .i64, .int .i64, .sl false [.str]] (fun s : T_api_Event => [.int .i64 s.At, .int .i64 s.Kind, .str s.Name, .int .i64 s.N, .int .i64 s.M, .sl false 1 (List.map AV.str s.Stack)]) ok_T_api_Event :=
  Enc.view (enc_app enc_i64 (enc_app enc_i64 (enc_app enc_st (enc_app enc_i64 (enc_app enc_i64 (enc_app (enc_lC enc_st) enc_nil)))))) (fun p => (⟨p.1, p.2.1, p.2.2.1, p.2.2.2.1, p.2.2.2.2.1, p.2.2.2.2.2.1⟩ : T_api_Event)) (fun _ => rfl) (fun _ h => ⟨h.1, h.2.1, h.2.2.1, h.2.2.2.1, h.2.2.2.2.1, h.2.2.2.2.2.1⟩)
def ok_T_api_Interval (s : T_api_Interval) : Prop := okI64 s.Lo ∧ okI64 s.Hi
theorem enc_T_api_Interval : Enc [.int .i64, .int .i64] (fun s : T_api_Interval => [.int .i64 s.Lo, .int .i64 s.Hi]) ok_T_api_Interval :=
  Enc.view (enc_app enc_i64 (enc_app enc_i64 enc_nil)) (fun p => (⟨p.1, p.2.1⟩ : T_api_Interval)) (fun _ => rfl) (fun _ h => ⟨h.1, h.2.1⟩)
def ok_T_api_Timed (s : T_api_Timed) : Prop := ok_T_api_Id s.Id ∧ ok_T_api_Event s.Event ∧ ok_T_api_Interval s.When
theorem enc_T_api_Timed : Enc [.int .i64, .int .i64, .int .i64, .int .i64, .str, .int .i64, .int .i64, .sl false [.str], .int .i64, .int .i64] (fun s : T_api_Timed => [.int .i64 s.Id.Thread, .int .i64 s.Id.Serial, .int .i64 s.Event.At, .int .i64 s.Event.Kind, .str s.Event.Name, .int .i64 s.Event.N, .int .i64 s.Event.M, .sl false 1 (List.map AV.str s.Event.Stack), .int .i64 s.When.Lo, .int .i64 s.When.Hi]) ok_T_api_Timed :=
  Enc.view (enc_app enc_T_api_Id (enc_app enc_T_api_Event (enc_app enc_T_api_Interval enc_nil))) (fun p => (⟨p.1, p.2.1, p.2.2.1⟩ : T_api_Timed)) (fun _ => rfl) (fun _ h => ⟨h.1, h.2.1, h.2.2.1⟩)
def ok_T_api_Sample (s : T_api_Sample) : Prop := okI64 s.Thread ∧ okI64 s.At ∧ okI64 s.Weight ∧ (okSl okStr) s.Stack
theorem enc_T_api_Sample : Enc [.int .i64, .int .i64, .int .i64, .sl false [.str]] (fun s : T_api_Sample => [.int .i64 s.Thread, .int .i64 s.At, .int .i64 s.Weight, .sl false 1 (List.map AV.str s.Stack)]) ok_T_api_Sample :=
  Enc.view (enc_app enc_i64 (enc_app enc_i64 (enc_app enc_i64 (enc_app (enc_lC enc_st) enc_nil)))) (fun p => (⟨p.1, p.2.1, p.2.2.1, p.2.2.2.1⟩ : T_api_Sample)) (fun _ => rfl) (fun _ h => ⟨h.1, h.2.1, h.2.2.1, h.2.2.2.1⟩)
def ok_T_api_Span (s : T_api_Span) : Prop := okI64 s.From ∧ okI64 s.To
theorem enc_T_api_Span : Enc [.int .i64, .int .i64] (fun s : T_api_Span => [.int .i64 s.From, .int .i64 s.To]) ok_T_api_Span :=
  Enc.view (enc_app enc_i64 (enc_app enc_i64 enc_nil)) (fun p => (⟨p.1, p.2.1⟩ : T_api_Span)) (fun _ => rfl) (fun _ h => ⟨h.1, h.2.1⟩)
def ok_Arr3_Int (s : Arr3_Int) : Prop := okI64 s.c0 ∧ okI64 s.c1 ∧ okI64 s.c2
theorem enc_Arr3_Int : Enc [.int .i64, .int .i64, .int .i64] (fun s : Arr3_Int => [.int .i64 s.c0, .int .i64 s.c1, .int .i64 s.c2]) ok_Arr3_Int :=
  Enc.view (enc_app enc_i64 (enc_app enc_i64 (enc_app enc_i64 enc_nil))) (fun p => (⟨p.1, p.2.1, p.2.2.1⟩ : Arr3_Int)) (fun _ => rfl) (fun _ h => ⟨h.1, h.2.1, h.2.2.1⟩)
end Go.Ab
