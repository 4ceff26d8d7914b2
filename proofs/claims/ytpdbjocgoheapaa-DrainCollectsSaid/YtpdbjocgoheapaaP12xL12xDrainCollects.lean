/- Printed: the typed Lean functions of the Go functions, or the proofs that the Go functions meet them. No conditions but those that the theorems name. -/
import Derived.Test.YtpdbjocgoheapaaP12x3
namespace Go.Ab
open Go
set_option linter.unusedVariables false
theorem L12_DrainCollects_ok (F : Nat) (s_1 : T_api_Service) (p_1 : T_api_Packet) (r : Bool) (h : L12_DrainCollects F s_1 p_1 = some r) : TripleG prog 5 [] [] [e_T_api_Service s_1, e_T_api_Packet p_1] [] (.bool r) := by
 refine triple_intro (fn := Go.Proofs.Try.f5) (code := codeOf Go.Proofs.Try.f5) (by kernel_rfl) (by kernel_rfl) (Nat.le_of_ble_eq_true (by kernel_rfl)) ?_
 unfold L12_DrainCollects at h
 refine sr [(0, { id := 0 }), (1, { id := 1 })] [2, 3] [0, 1] 2 [Pp 0, Pp 1] [Vb 27 (v_T_api_Service s_1), Vb 43 (v_T_api_Packet p_1)] hmix an ?_
 refine sq ?_
 refine sq ?_
 obtain ⟨p_2, h_3, h⟩ := bind_some h
 refine aw_mid (mk [(2, Pp 0), (3, Pp 1), (17, .bool p_2)] [(0, Vb 27 (v_T_api_Service s_1)), (1, Vb 43 (v_T_api_Packet p_1))] 2) ?_ ?_
 ·replace h := h_3
  obtain ⟨r_1, h_1, h⟩ := bind_some h
  rcases bft (!r_1) with gg_1 | gg_1
  ·replace h := cond_t gg_1 h
   refine rg [(1, { av := .bool r_1, l := [e_T_api_Service s_1] }), (4, Hg), (5, Hg), (6, Hg), (7, Hg), (8, Ht)] [2, 3, 17] [0, 1] 2 [Pp 0, Pp 1, .bool true] [Vb 27 (v_T_api_Service s_1), Vb 43 (v_T_api_Packet p_1)] hmix (ar ([e_T_api_Service s_1] : List AV) (ac (rfl : ([] : List BoxSt) = []) (ac (L12_few_ok F s_1 r_1 h_1 : TripleG prog 14 [] [] [e_T_api_Service s_1] [] (.bool r_1)) (ac gg_1 (ac gg_1 (ac gg_1 (ac gg_1 (ac gg_1 an)))))))) ?_
   cases h
   exact ⟨rfl, (sw [0, 1] [] [.s 2, .s 3, .s 17] [.s 0, .s 1] an)⟩
  ·replace h := cond_f gg_1 h
   obtain ⟨r_2, h_2, h⟩ := bind_some h
   refine rg [(1, { av := .bool r_1, l := [e_T_api_Service s_1] }), (5, { id := 2 }), (6, { av := .bool r_2, frz := [2], l := [.sl false 4 (Mp e_T_api_Packet ([p_1] : List T_api_Packet))] }), (8, Hf)] [2, 3, 17] [0, 1] 3 [Pp 0, Pp 1, .bool (!r_2)] [Vb 27 (v_T_api_Service s_1), Vb 43 (v_T_api_Packet p_1)] hmix (ar ([e_T_api_Service s_1] : List AV) (ac (rfl : ([] : List BoxSt) = []) (ac (L12_few_ok F s_1 r_1 h_1 : TripleG prog 14 [] [] [e_T_api_Service s_1] [] (.bool r_1)) (ac gg_1 (ac gg_1 (ac gg_1 (ac (by first | (simp; done) | (simp; omega) : 1 = ((List.map e_T_api_Packet ([p_1] : List T_api_Packet))).length) (ar ([.sl false 4 (Mp e_T_api_Packet ([p_1] : List T_api_Packet))] : List AV) (ac (rfl : ([] : List BoxSt) = []) (ac (L12_small_ok F ([p_1] : List T_api_Packet) r_2 h_2 : TripleG prog 21 [] [] [.sl false 4 (Mp e_T_api_Packet ([p_1] : List T_api_Packet))] [] (.bool r_2)) (ac gg_1 (ac gg_1 an)))))))))))) ?_
   cases h
   exact ⟨rfl, (sw [0, 1] [] [.s 2, .s 3, .s 17] [.s 0, .s 1] an)⟩
 refine cd 17 p_2 ?_ ?_
 ·intro g_1; replace h := cond_t g_1 h
  refine sq ?_
  obtain ⟨r_3, h_4, h⟩ := bind_some h
  refine rg [(0, { av := .bool r_3, l := [] })] [4] [] 2 [.bool r_3] [] hmix (ar ([] : List AV) (ac (rfl : ([] : List BoxSt) = []) (ac (L12_awake_ok F r_3 h_4 : TripleG prog 9 [] [] [] [] (.bool r_3)) an))) ?_
  refine rt ?_
  cases h
  exact ⟨.inr rfl, Nat.le_of_ble_eq_true rfl, by kernel_rfl⟩
 intro g_1; replace h := cond_f g_1 h
 refine sk ?_
 refine sq ?_
 obtain ⟨r_4, h_5, h⟩ := bind_some h
 refine rg [(2, { av := .tuple [e_T_api_Service r_4.1, Ii r_4.2], l := [e_T_api_Service s_1, e_T_api_Packet p_1] }), (6, { id := 2 })] [2, 3, 5, 6] [0, 1, 2] 3 [Pp 0, Pp 1, Pp 2, Ii r_4.2] [Vb 27 (v_T_api_Service s_1), Vb 43 (v_T_api_Packet p_1), Vb 27 (v_T_api_Service r_4.1)] hmix (ar ([e_T_api_Service s_1, e_T_api_Packet p_1] : List AV) (ac (rfl : ([] : List BoxSt) = []) (ac (drain_Collect_ok F s_1 p_1 r_4 h_5 : TripleG prog 22 [] [] [e_T_api_Service s_1, e_T_api_Packet p_1] [] (.tuple [e_T_api_Service r_4.1, Ii r_4.2])) an))) ?_
 refine sq ?_
 obtain ⟨r_5, h_6, h⟩ := bind_some h
 refine rg [(2, { av := .tuple [e_T_api_Service r_5.1, Ii r_5.2], l := [e_T_api_Service s_1, e_T_api_Packet p_1] }), (6, { id := 3 })] [5, 6, 7, 8] [2, 3] 4 [Pp 2, Ii r_4.2, Pp 3, Ii r_5.2] [Vb 27 (v_T_api_Service r_4.1), Vb 27 (v_T_api_Service r_5.1)] hmix (ar ([e_T_api_Service s_1, e_T_api_Packet p_1] : List AV) (ac (rfl : ([] : List BoxSt) = []) (ac (R12_Collect_ok F s_1 p_1 r_5 h_6 : TripleG prog 23 [] [] [e_T_api_Service s_1, e_T_api_Packet p_1] [] (.tuple [e_T_api_Service r_5.1, Ii r_5.2])) an))) ?_
 refine sq ?_
 obtain ⟨p_3, h_9, h⟩ := bind_some h
 refine aw_mid (mk [(4, .bool p_3)] [] 0) ?_ ?_
 ·replace h := h_9
  rcases bft (r_4.2 == r_5.2) with gg_2 | gg_2
  ·replace h := cond_t gg_2 h
   obtain ⟨r_6, h_7, h⟩ := bind_some h
   rcases Bool.eq_false_or_eq_true r_6 with gg_3 | gg_3
   ·replace h := cond_t gg_3 h
    obtain ⟨r_7, h_8, h⟩ := bind_some h
    refine rg [(6, { av := .bool r_6, l := [e_T_api_Service r_4.1, e_T_api_Service r_5.1] }), (7, Ht), (9, { av := .bool r_7, l := [] }), (10, Ht)] [4] [] 4 [.bool r_7] [] hmix (ac gg_2 (ac gg_2 (ac gg_2 (ar ([e_T_api_Service r_4.1, e_T_api_Service r_5.1] : List AV) (ac (rfl : ([] : List BoxSt) = []) (ac (R12_Same_ok F r_4.1 r_5.1 r_6 h_7 : TripleG prog 12 [] [] [e_T_api_Service r_4.1, e_T_api_Service r_5.1] [] (.bool r_6)) (ac gg_2 (ac gg_3 (ar ([] : List AV) (ac (rfl : ([] : List BoxSt) = []) (ac (L12_awake_ok F r_7 h_8 : TripleG prog 9 [] [] [] [] (.bool r_7)) (ac gg_3 an)))))))))))) ?_
    cases h
    exact ⟨rfl, (sw [] [] [.s 4] [] an)⟩
   ·replace h := cond_f gg_3 h
    refine rg [(6, { av := .bool r_6, l := [e_T_api_Service r_4.1, e_T_api_Service r_5.1] }), (7, Ht), (9, Hg), (10, Hf)] [4] [] 4 [.bool false] [] hmix (ac gg_2 (ac gg_2 (ac gg_2 (ar ([e_T_api_Service r_4.1, e_T_api_Service r_5.1] : List AV) (ac (rfl : ([] : List BoxSt) = []) (ac (R12_Same_ok F r_4.1 r_5.1 r_6 h_7 : TripleG prog 12 [] [] [e_T_api_Service r_4.1, e_T_api_Service r_5.1] [] (.bool r_6)) (ac gg_2 (ac gg_3 (ac gg_3 an))))))))) ?_
    cases h
    exact ⟨rfl, (sw [] [] [.s 4] [] an)⟩
  ·replace h := cond_f gg_2 h
   refine rg [(4, Hg), (5, Hg), (6, Hg), (7, Hf), (9, Hg), (10, Hf)] [4] [] 4 [.bool false] [] hmix (ac gg_2 (ac gg_2 (ac gg_2 (ac gg_2 (ac (rfl : false = !true) (ar false an)))))) ?_
   cases h
   exact ⟨rfl, (sw [] [] [.s 4] [] an)⟩
 refine rt ?_
 cases h
 exact ⟨.inr rfl, Nat.le_of_ble_eq_true rfl, by kernel_rfl⟩

end Go.Ab
