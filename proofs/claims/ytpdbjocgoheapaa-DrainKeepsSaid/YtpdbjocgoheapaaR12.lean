/- The typed arguments of this seat's laws. Printed by row.py. -/
import Derived.Test.YtpdbjocgoheapaaP12xD
import Derived.Test.YtpdbjocgoheapaaA30
namespace Go.Ab
open Go
set_option linter.unusedVariables false

def ok_T_api_Thread (s : T_api_Thread) : Prop := okI64 s.Id ∧ okStr s.Name ∧ okI64 s.Domain
theorem enc_T_api_Thread : Enc [.int .i64, .str, .int .i64] (fun s : T_api_Thread => [.int .i64 s.Id, .str s.Name, .int .i64 s.Domain]) ok_T_api_Thread :=
  Enc.view (enc_app enc_i64 (enc_app enc_st (enc_app enc_i64 enc_nil))) (fun p => (⟨p.1, p.2.1, p.2.2.1⟩ : T_api_Thread)) (fun _ => rfl) (fun _ h => ⟨h.1, h.2.1, h.2.2.1⟩)
def ok_T_api_Event (s : T_api_Event) : Prop := okI64 s.At ∧ okI64 s.Kind ∧ okStr s.Name ∧ okI64 s.N ∧ okI64 s.M ∧ (okSl okStr) s.Stack
theorem enc_T_api_Event : Enc [.int .i64, .int .i64, .str, .int .i64, .int .i64, .sl false [.str]] (fun s : T_api_Event => [.int .i64 s.At, .int .i64 s.Kind, .str s.Name, .int .i64 s.N, .int .i64 s.M, .sl false 1 (List.map AV.str s.Stack)]) ok_T_api_Event :=
  Enc.view (enc_app enc_i64 (enc_app enc_i64 (enc_app enc_st (enc_app enc_i64 (enc_app enc_i64 (enc_app (enc_lC enc_st) enc_nil)))))) (fun p => (⟨p.1, p.2.1, p.2.2.1, p.2.2.2.1, p.2.2.2.2.1, p.2.2.2.2.2.1⟩ : T_api_Event)) (fun _ => rfl) (fun _ h => ⟨h.1, h.2.1, h.2.2.1, h.2.2.2.1, h.2.2.2.2.1, h.2.2.2.2.2.1⟩)
def ok_T_api_Packet (s : T_api_Packet) : Prop := okI64 s.Thread ∧ okI64 s.Serial ∧ okI64 s.Lost ∧ (okSl ok_T_api_Event) s.Events
theorem enc_T_api_Packet : Enc [.int .i64, .int .i64, .int .i64, .sl true [.int .i64, .int .i64, .str, .int .i64, .int .i64, .sl false [.str]]] (fun s : T_api_Packet => [.int .i64 s.Thread, .int .i64 s.Serial, .int .i64 s.Lost, .sl false 6 (List.map e_T_api_Event s.Events)]) ok_T_api_Packet :=
  Enc.view (enc_app enc_i64 (enc_app enc_i64 (enc_app enc_i64 (enc_app (enc_lA enc_T_api_Event) enc_nil)))) (fun p => (⟨p.1, p.2.1, p.2.2.1, p.2.2.2.1⟩ : T_api_Packet)) (fun _ => rfl) (fun _ h => ⟨h.1, h.2.1, h.2.2.1, h.2.2.2.1⟩)
def ok_T_api_Service (s : T_api_Service) : Prop := (okSl ok_T_api_Thread) s.Threads ∧ (okSl okI64) s.Next ∧ (okSl ok_T_api_Packet) s.Queue
theorem enc_T_api_Service : Enc [.sl true [.int .i64, .str, .int .i64], .sl false [.int .i64], .sl true [.int .i64, .int .i64, .int .i64, .sl true [.int .i64, .int .i64, .str, .int .i64, .int .i64, .sl false [.str]]]] (fun s : T_api_Service => [.sl false 3 (List.map e_T_api_Thread s.Threads), .sl false 1 (List.map (AV.int .i64) s.Next), .sl false 4 (List.map e_T_api_Packet s.Queue)]) ok_T_api_Service :=
  Enc.view (enc_app (enc_lA enc_T_api_Thread) (enc_app (enc_lC enc_i64) (enc_app (enc_lA enc_T_api_Packet) enc_nil))) (fun p => (⟨p.1, p.2.1, p.2.2.1⟩ : T_api_Service)) (fun _ => rfl) (fun _ h => ⟨h.1, h.2.1, h.2.2.1⟩)
end Go.Ab
