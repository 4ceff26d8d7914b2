/- Printed: the typed Lean functions of the Go functions, or the proofs that the Go functions meet them. No conditions but those that the theorems name. -/
import Derived.Test.YtpdbjocgoheapaaP12x3
namespace Go.Ab
open Go
set_option linter.unusedVariables false
theorem L12_DrainTwice_ok (F : Nat) (s_1 : T_api_Service) (p_1 : T_api_Packet) (r : Bool) (h : L12_DrainTwice F s_1 p_1 = some r) : TripleG prog 6 [] [] [e_T_api_Service s_1, e_T_api_Packet p_1] [] (.bool r) := by
 refine triple_intro (fn := Go.Proofs.Try.f6) (code := codeOf Go.Proofs.Try.f6) (by kernel_rfl) (by kernel_rfl) (Nat.le_of_ble_eq_true (by kernel_rfl)) ?_
 unfold L12_DrainTwice at h
 refine sr [(0, { id := 0 }), (1, { id := 1 })] [2, 3] [0, 1] 2 [Pp 0, Pp 1] [Vb 27 (v_T_api_Service s_1), Vb 43 (v_T_api_Packet p_1)] hmix an ?_
 refine sq ?_
 refine sq ?_
 obtain ⟨p_2, h_3, h⟩ := bind_some h
 refine aw_mid (mk [(2, Pp 0), (3, Pp 1), (19, .bool p_2)] [(0, Vb 27 (v_T_api_Service s_1)), (1, Vb 43 (v_T_api_Packet p_1))] 2) ?_ ?_
 ·replace h := h_3
  obtain ⟨r_1, h_1, h⟩ := bind_some h
  rcases bft (!r_1) with gg_1 | gg_1
  ·replace h := cond_t gg_1 h
   refine rg [(1, { av := .bool r_1, l := [e_T_api_Service s_1] }), (4, Hg), (5, Hg), (6, Hg), (7, Hg), (8, Ht)] [2, 3, 19] [0, 1] 2 [Pp 0, Pp 1, .bool true] [Vb 27 (v_T_api_Service s_1), Vb 43 (v_T_api_Packet p_1)] hmix (ar ([e_T_api_Service s_1] : List AV) (ac (rfl : ([] : List BoxSt) = []) (ac (L12_few_ok F s_1 r_1 h_1 : TripleG prog 14 [] [] [e_T_api_Service s_1] [] (.bool r_1)) (ac gg_1 (ac gg_1 (ac gg_1 (ac gg_1 (ac gg_1 an)))))))) ?_
   cases h
   exact ⟨rfl, (sw [0, 1] [] [.s 2, .s 3, .s 19] [.s 0, .s 1] an)⟩
  ·replace h := cond_f gg_1 h
   obtain ⟨r_2, h_2, h⟩ := bind_some h
   refine rg [(1, { av := .bool r_1, l := [e_T_api_Service s_1] }), (5, { id := 2 }), (6, { av := .bool r_2, frz := [2], l := [.sl false 4 (Mp e_T_api_Packet ([p_1] : List T_api_Packet))] }), (8, Hf)] [2, 3, 19] [0, 1] 3 [Pp 0, Pp 1, .bool (!r_2)] [Vb 27 (v_T_api_Service s_1), Vb 43 (v_T_api_Packet p_1)] hmix (ar ([e_T_api_Service s_1] : List AV) (ac (rfl : ([] : List BoxSt) = []) (ac (L12_few_ok F s_1 r_1 h_1 : TripleG prog 14 [] [] [e_T_api_Service s_1] [] (.bool r_1)) (ac gg_1 (ac gg_1 (ac gg_1 (ac (by first | (simp; done) | (simp; omega) : 1 = ((List.map e_T_api_Packet ([p_1] : List T_api_Packet))).length) (ar ([.sl false 4 (Mp e_T_api_Packet ([p_1] : List T_api_Packet))] : List AV) (ac (rfl : ([] : List BoxSt) = []) (ac (L12_small_ok F ([p_1] : List T_api_Packet) r_2 h_2 : TripleG prog 21 [] [] [.sl false 4 (Mp e_T_api_Packet ([p_1] : List T_api_Packet))] [] (.bool r_2)) (ac gg_1 (ac gg_1 an)))))))))))) ?_
   cases h
   exact ⟨rfl, (sw [0, 1] [] [.s 2, .s 3, .s 19] [.s 0, .s 1] an)⟩
 refine cd 19 p_2 ?_ ?_
 ·intro g_1; replace h := cond_t g_1 h
  refine sq ?_
  obtain ⟨r_3, h_4, h⟩ := bind_some h
  refine rg [(0, { av := .bool r_3, l := [] })] [4] [] 2 [.bool r_3] [] hmix (ar ([] : List AV) (ac (rfl : ([] : List BoxSt) = []) (ac (L12_awake_ok F r_3 h_4 : TripleG prog 9 [] [] [] [] (.bool r_3)) an))) ?_
  refine rt ?_
  cases h
  exact ⟨.inr rfl, Nat.le_of_ble_eq_true rfl, by kernel_rfl⟩
 intro g_1; replace h := cond_f g_1 h
 refine sk ?_
 refine sq ?_
 obtain ⟨r_4, h_5, h⟩ := bind_some h
 refine rg [(2, { av := .tuple [e_T_api_Service r_4.1, Ii r_4.2], l := [e_T_api_Service s_1, e_T_api_Packet p_1] }), (6, { id := 2 })] [2, 3, 5, 6] [0, 1, 2] 3 [Pp 0, Pp 1, Pp 2, Ii r_4.2] [Vb 27 (v_T_api_Service s_1), Vb 43 (v_T_api_Packet p_1), Vb 27 (v_T_api_Service r_4.1)] hmix (ar ([e_T_api_Service s_1, e_T_api_Packet p_1] : List AV) (ac (rfl : ([] : List BoxSt) = []) (ac (drain_Collect_ok F s_1 p_1 r_4 h_5 : TripleG prog 22 [] [] [e_T_api_Service s_1, e_T_api_Packet p_1] [] (.tuple [e_T_api_Service r_4.1, Ii r_4.2])) an))) ?_
 refine sq ?_
 refine sr [] [2, 3, 5, 28] [0, 1, 2] 3 [Pp 0, Pp 1, Pp 2, .bool (r_4.2 != (0 : Int))] [Vb 27 (v_T_api_Service s_1), Vb 43 (v_T_api_Packet p_1), Vb 27 (v_T_api_Service r_4.1)] hmix an ?_
 refine cd 28 (r_4.2 != (0 : Int)) ?_ ?_
 ·intro g_2; replace h := cond_t g_2 h
  refine sq ?_
  obtain ⟨p_3, h_8, h⟩ := bind_some h
  refine aw_mid (mk [(4, .bool p_3)] [] 0) ?_ ?_
  ·replace h := h_8
   obtain ⟨r_5, h_6, h⟩ := bind_some h
   rcases Bool.eq_false_or_eq_true r_5 with gg_2 | gg_2
   ·replace h := cond_t gg_2 h
    obtain ⟨r_6, h_7, h⟩ := bind_some h
    refine rg [(2, { av := .bool r_5, l := [e_T_api_Service s_1, e_T_api_Service r_4.1] }), (4, { av := .bool r_6, l := [] }), (5, Ht)] [4] [] 3 [.bool r_6] [] hmix (ar ([e_T_api_Service s_1, e_T_api_Service r_4.1] : List AV) (ac (rfl : ([] : List BoxSt) = []) (ac (R12_Same_ok F s_1 r_4.1 r_5 h_6 : TripleG prog 12 [] [] [e_T_api_Service s_1, e_T_api_Service r_4.1] [] (.bool r_5)) (ac gg_2 (ar ([] : List AV) (ac (rfl : ([] : List BoxSt) = []) (ac (L12_awake_ok F r_6 h_7 : TripleG prog 9 [] [] [] [] (.bool r_6)) (ac gg_2 an)))))))) ?_
    cases h
    exact ⟨rfl, (sw [] [] [.s 4] [] an)⟩
   ·replace h := cond_f gg_2 h
    refine rg [(2, { av := .bool r_5, l := [e_T_api_Service s_1, e_T_api_Service r_4.1] }), (4, Hg), (5, Hf)] [4] [] 3 [.bool false] [] hmix (ar ([e_T_api_Service s_1, e_T_api_Service r_4.1] : List AV) (ac (rfl : ([] : List BoxSt) = []) (ac (R12_Same_ok F s_1 r_4.1 r_5 h_6 : TripleG prog 12 [] [] [e_T_api_Service s_1, e_T_api_Service r_4.1] [] (.bool r_5)) (ac gg_2 (ac gg_2 an))))) ?_
    cases h
    exact ⟨rfl, (sw [] [] [.s 4] [] an)⟩
  refine rt ?_
  cases h
  exact ⟨.inr rfl, Nat.le_of_ble_eq_true rfl, by kernel_rfl⟩
 intro g_2; replace h := cond_f g_2 h
 refine sk ?_
 refine sq ?_
 obtain ⟨r_7, h_9, h⟩ := bind_some h
 refine rg [(3, { av := .tuple [Ii r_7.1, Ii r_7.2], l := [e_T_api_Service r_4.1, Ii p_1.Thread] })] [3, 5, 7, 8] [1, 2] 3 [Pp 1, Pp 2, Ii r_7.1, Ii r_7.2] [Vb 43 (v_T_api_Packet p_1), Vb 27 (v_T_api_Service r_4.1)] hmix (ar ([e_T_api_Service r_4.1, Ii p_1.Thread] : List AV) (ac (rfl : ([] : List BoxSt) = []) (ac (drain_Expect_ok F r_4.1 p_1.Thread r_7 h_9 : TripleG prog 15 [] [] [e_T_api_Service r_4.1, Ii p_1.Thread] [] (.tuple [Ii r_7.1, Ii r_7.2])) an))) ?_
 refine sq ?_
 obtain ⟨r_8, h_10, h⟩ := bind_some h
 refine rg [(2, { av := .tuple [e_T_api_Service r_8.1, Ii r_8.2], l := [e_T_api_Service r_4.1, e_T_api_Packet p_1] }), (6, { id := 3 })] [3, 5, 7, 8, 9, 10] [1, 2, 3] 4 [Pp 1, Pp 2, Ii r_7.1, Ii r_7.2, Pp 3, Ii r_8.2] [Vb 43 (v_T_api_Packet p_1), Vb 27 (v_T_api_Service r_4.1), Vb 27 (v_T_api_Service r_8.1)] hmix (ar ([e_T_api_Service r_4.1, e_T_api_Packet p_1] : List AV) (ac (rfl : ([] : List BoxSt) = []) (ac (drain_Collect_ok F r_4.1 p_1 r_8 h_10 : TripleG prog 22 [] [] [e_T_api_Service r_4.1, e_T_api_Packet p_1] [] (.tuple [e_T_api_Service r_8.1, Ii r_8.2])) an))) ?_
 refine sq ?_
 obtain ⟨p_4, h_14, h⟩ := bind_some h
 refine aw_mid (mk [(4, .bool p_4)] [] 0) ?_ ?_
 ·replace h := h_14
  rcases bft (r_7.1 == (w_i64 (p_1.Serial + (lN (p_1.Events))))) with gg_3 | gg_3
  ·replace h := cond_t gg_3 h
   rcases bft (r_7.2 == (0 : Int)) with gg_4 | gg_4
   ·replace h := cond_t gg_4 h
    obtain ⟨r_9, h_11, h⟩ := bind_some h
    rcases bft (r_9 == (0 : Int)) with gg_5 | gg_5
    ·replace h := cond_t gg_5 h
     rcases bft (r_8.2 == (4 : Int)) with gg_6 | gg_6
     ·replace h := cond_t gg_6 h
      obtain ⟨r_10, h_12, h⟩ := bind_some h
      rcases Bool.eq_false_or_eq_true r_10 with gg_7 | gg_7
      ·replace h := cond_t gg_7 h
       obtain ⟨r_11, h_13, h⟩ := bind_some h
       refine rg [(5, { n := (p_1.Events).length }), (11, Ht), (14, { av := Ii r_9, l := [e_T_api_Service r_4.1] }), (16, Ht), (20, Ht), (24, { av := .bool r_10, l := [e_T_api_Service r_4.1, e_T_api_Service r_8.1] }), (25, Ht), (27, { av := .bool r_11, l := [] }), (28, Ht)] [4] [] 4 [.bool r_11] [] hmix (ac (vc_len _ : ((Mp e_T_api_Event p_1.Events)).length = (p_1.Events).length) (ac gg_3 (ac gg_3 (ac gg_3 (ac gg_4 (ac gg_4 (ar ([e_T_api_Service r_4.1] : List AV) (ac (rfl : ([] : List BoxSt) = []) (ac (drain_Check_ok F r_4.1 r_9 h_11 : TripleG prog 13 [] [] [e_T_api_Service r_4.1] [] (Ii r_9)) (ac gg_4 (ac gg_4 (ac gg_5 (ac gg_5 (ac gg_5 (ac gg_6 (ac gg_6 (ac gg_6 (ar ([e_T_api_Service r_4.1, e_T_api_Service r_8.1] : List AV) (ac (rfl : ([] : List BoxSt) = []) (ac (R12_Same_ok F r_4.1 r_8.1 r_10 h_12 : TripleG prog 12 [] [] [e_T_api_Service r_4.1, e_T_api_Service r_8.1] [] (.bool r_10)) (ac gg_6 (ac gg_7 (ar ([] : List AV) (ac (rfl : ([] : List BoxSt) = []) (ac (L12_awake_ok F r_11 h_13 : TripleG prog 9 [] [] [] [] (.bool r_11)) (ac gg_7 an)))))))))))))))))))))))))) ?_
       cases h
       exact ⟨rfl, (sw [] [] [.s 4] [] an)⟩
      ·replace h := cond_f gg_7 h
       refine rg [(5, { n := (p_1.Events).length }), (11, Ht), (14, { av := Ii r_9, l := [e_T_api_Service r_4.1] }), (16, Ht), (20, Ht), (24, { av := .bool r_10, l := [e_T_api_Service r_4.1, e_T_api_Service r_8.1] }), (25, Ht), (27, Hg), (28, Hf)] [4] [] 4 [.bool false] [] hmix (ac (vc_len _ : ((Mp e_T_api_Event p_1.Events)).length = (p_1.Events).length) (ac gg_3 (ac gg_3 (ac gg_3 (ac gg_4 (ac gg_4 (ar ([e_T_api_Service r_4.1] : List AV) (ac (rfl : ([] : List BoxSt) = []) (ac (drain_Check_ok F r_4.1 r_9 h_11 : TripleG prog 13 [] [] [e_T_api_Service r_4.1] [] (Ii r_9)) (ac gg_4 (ac gg_4 (ac gg_5 (ac gg_5 (ac gg_5 (ac gg_6 (ac gg_6 (ac gg_6 (ar ([e_T_api_Service r_4.1, e_T_api_Service r_8.1] : List AV) (ac (rfl : ([] : List BoxSt) = []) (ac (R12_Same_ok F r_4.1 r_8.1 r_10 h_12 : TripleG prog 12 [] [] [e_T_api_Service r_4.1, e_T_api_Service r_8.1] [] (.bool r_10)) (ac gg_6 (ac gg_7 (ac gg_7 an))))))))))))))))))))))) ?_
       cases h
       exact ⟨rfl, (sw [] [] [.s 4] [] an)⟩
     ·replace h := cond_f gg_6 h
      refine rg [(5, { n := (p_1.Events).length }), (11, Ht), (14, { av := Ii r_9, l := [e_T_api_Service r_4.1] }), (16, Ht), (20, Ht), (22, Hg), (23, Hg), (24, Hg), (25, Hf), (27, Hg), (28, Hf)] [4] [] 4 [.bool false] [] hmix (ac (vc_len _ : ((Mp e_T_api_Event p_1.Events)).length = (p_1.Events).length) (ac gg_3 (ac gg_3 (ac gg_3 (ac gg_4 (ac gg_4 (ar ([e_T_api_Service r_4.1] : List AV) (ac (rfl : ([] : List BoxSt) = []) (ac (drain_Check_ok F r_4.1 r_9 h_11 : TripleG prog 13 [] [] [e_T_api_Service r_4.1] [] (Ii r_9)) (ac gg_4 (ac gg_4 (ac gg_5 (ac gg_5 (ac gg_5 (ac gg_6 (ac gg_6 (ac gg_6 (ac gg_6 (ac (rfl : false = !true) (ar false an)))))))))))))))))))) ?_
      cases h
      exact ⟨rfl, (sw [] [] [.s 4] [] an)⟩
    ·replace h := cond_f gg_5 h
     refine rg [(5, { n := (p_1.Events).length }), (11, Ht), (14, { av := Ii r_9, l := [e_T_api_Service r_4.1] }), (16, Ht), (18, Hg), (19, Hg), (20, Hf), (22, Hg), (23, Hg), (24, Hg), (25, Hf), (27, Hg), (28, Hf)] [4] [] 4 [.bool false] [] hmix (ac (vc_len _ : ((Mp e_T_api_Event p_1.Events)).length = (p_1.Events).length) (ac gg_3 (ac gg_3 (ac gg_3 (ac gg_4 (ac gg_4 (ar ([e_T_api_Service r_4.1] : List AV) (ac (rfl : ([] : List BoxSt) = []) (ac (drain_Check_ok F r_4.1 r_9 h_11 : TripleG prog 13 [] [] [e_T_api_Service r_4.1] [] (Ii r_9)) (ac gg_4 (ac gg_4 (ac gg_5 (ac gg_5 (ac gg_5 (ac (rfl : false = !true) (ac (rfl : false = !true) (ac (rfl : false = !true) (ar false (ac (rfl : false = !true) (ar false an)))))))))))))))))))) ?_
     cases h
     exact ⟨rfl, (sw [] [] [.s 4] [] an)⟩
   ·replace h := cond_f gg_4 h
    refine rg [(5, { n := (p_1.Events).length }), (11, Ht), (13, Hg), (14, Hg), (15, Hg), (16, Hf), (18, Hg), (19, Hg), (20, Hf), (22, Hg), (23, Hg), (24, Hg), (25, Hf), (27, Hg), (28, Hf)] [4] [] 4 [.bool false] [] hmix (ac (vc_len _ : ((Mp e_T_api_Event p_1.Events)).length = (p_1.Events).length) (ac gg_3 (ac gg_3 (ac gg_3 (ac gg_4 (ac gg_4 (ac gg_4 (ac gg_4 (ac (rfl : false = !true) (ac (rfl : false = !true) (ar false (ac (rfl : false = !true) (ac (rfl : false = !true) (ac (rfl : false = !true) (ar false (ac (rfl : false = !true) (ar false an))))))))))))))))) ?_
    cases h
    exact ⟨rfl, (sw [] [] [.s 4] [] an)⟩
  ·replace h := cond_f gg_3 h
   refine rg [(5, { n := (p_1.Events).length }), (9, Hg), (10, Hg), (11, Hf), (13, Hg), (14, Hg), (15, Hg), (16, Hf), (18, Hg), (19, Hg), (20, Hf), (22, Hg), (23, Hg), (24, Hg), (25, Hf), (27, Hg), (28, Hf)] [4] [] 4 [.bool false] [] hmix (ac (vc_len _ : ((Mp e_T_api_Event p_1.Events)).length = (p_1.Events).length) (ac gg_3 (ac gg_3 (ac gg_3 (ac (rfl : false = !true) (ac (rfl : false = !true) (ac (rfl : false = !true) (ar false (ac (rfl : false = !true) (ac (rfl : false = !true) (ar false (ac (rfl : false = !true) (ac (rfl : false = !true) (ac (rfl : false = !true) (ar false (ac (rfl : false = !true) (ar false an))))))))))))))))) ?_
   cases h
   exact ⟨rfl, (sw [] [] [.s 4] [] an)⟩
 refine rt ?_
 cases h
 exact ⟨.inr rfl, Nat.le_of_ble_eq_true rfl, by kernel_rfl⟩

end Go.Ab
