/- Printed: the typed Lean functions of the Go functions, or the proofs that the Go functions meet them. No conditions but those that the theorems name. -/
import Derived.Test.YtpdbjocgoheapaaP12x2
namespace Go.Ab
open Go
set_option linter.unusedVariables false
theorem L12_after_ok (F : Nat) (s_1 : T_api_Service) (p_1 : T_api_Packet) (thread_1 : Int) (r : T_api_Service) (h : L12_after F s_1 p_1 thread_1 = some r) : TripleG prog 25 [] [] [e_T_api_Service s_1, e_T_api_Packet p_1, Ii thread_1] [] (e_T_api_Service r) := by
 refine triple_intro (fn := Go.Proofs.Try.f25) (code := codeOf Go.Proofs.Try.f25) (by kernel_rfl) (by kernel_rfl) (Nat.le_of_ble_eq_true (by kernel_rfl)) ?_
 unfold L12_after at h
 refine sr [(0, { id := 0 }), (1, { id := 1 }), (2, { id := 2 })] [2, 3, 4, 6] [0, 1, 2] 3 [Ii thread_1, Pp 0, Pp 1, Pp 2] [Vb 27 (v_T_api_Service s_1), Vb 43 (v_T_api_Packet p_1), Vb 27 [.nilsl, .nilsl, .nilsl]] hmix an ?_
 refine sr [] [3, 4, 6] [0, 1, 2] 3 [Pp 0, Pp 1, Pp 2] [Vb 27 (v_T_api_Service s_1), Vb 43 [Ii thread_1, Ii p_1.Serial, Ii p_1.Lost, .sl false 6 (Mp e_T_api_Event p_1.Events)], Vb 27 [.nilsl, .nilsl, .nilsl]] hmix an ?_
 refine sq ?_
 obtain ⟨r_1, h_1, h⟩ := bind_some h
 refine rg [(2, { av := .tuple [e_T_api_Service r_1.1, Ii r_1.2], l := [e_T_api_Service s_1, .agg [Ii thread_1, Ii p_1.Serial, Ii p_1.Lost, .sl false 6 (Mp e_T_api_Event p_1.Events)]] }), (6, { id := 3 })] [3, 6, 7, 8] [0, 2, 3] 4 [Pp 0, Pp 2, Pp 3, Ii r_1.2] [Vb 27 (v_T_api_Service s_1), Vb 27 [.nilsl, .nilsl, .nilsl], Vb 27 (v_T_api_Service r_1.1)] hmix (ar ([e_T_api_Service s_1, .agg [Ii thread_1, Ii p_1.Serial, Ii p_1.Lost, .sl false 6 (Mp e_T_api_Event p_1.Events)]] : List AV) (ac (rfl : ([] : List BoxSt) = []) (ac (triple_lo (args' := [e_T_api_Service s_1, e_T_api_Packet (⟨thread_1, p_1.Serial, p_1.Lost, p_1.Events⟩ : T_api_Packet)]) (drain_Collect_ok F s_1 (⟨thread_1, p_1.Serial, p_1.Lost, p_1.Events⟩ : T_api_Packet) r_1 h_1) rfl ⟨rfl, rfl, rfl, rfl, rfl, rfl, rfl, rfl, rfl, rfl, rfl, rfl, rfl, rfl, rfl, trivial⟩ : TripleG prog 22 [] [] [e_T_api_Service s_1, .agg [Ii thread_1, Ii p_1.Serial, Ii p_1.Lost, .sl false 6 (Mp e_T_api_Event p_1.Events)]] [] (.tuple [e_T_api_Service r_1.1, Ii r_1.2])) an))) ?_
 refine sq ?_
 refine sr [] [3, 6, 7, 18] [0, 2, 3] 4 [Pp 0, Pp 2, Pp 3, .bool (r_1.2 != (0 : Int))] [Vb 27 (v_T_api_Service s_1), Vb 27 [.nilsl, .nilsl, .nilsl], Vb 27 (v_T_api_Service r_1.1)] hmix an ?_
 refine cd 18 (r_1.2 != (0 : Int)) ?_ ?_
 ·intro g_1; replace h := cond_t g_1 h
  refine sr [] [6] [2] 4 [Pp 2] [Vb 27 (v_T_api_Service s_1)] hmix an ?_
  refine wk [2] [] [.s 6] [.s 0] [(6, Pp 0)] [(0, Vb 27 (v_T_api_Service s_1))] an ?_
  refine rt ?_
  cases h
  exact ⟨.inr rfl, Nat.le_of_ble_eq_true rfl, by kernel_rfl⟩
 intro g_1; replace h := cond_f g_1 h
 refine sk ?_
 refine sr [] [6] [2] 4 [Pp 2] [Vb 27 (v_T_api_Service r_1.1)] hmix an ?_
 refine wk [2] [] [.s 6] [.s 0] [(6, Pp 0)] [(0, Vb 27 (v_T_api_Service r_1.1))] an ?_
 refine rt ?_
 cases h
 exact ⟨.inr rfl, Nat.le_of_ble_eq_true rfl, by kernel_rfl⟩

end Go.Ab
