/- Printed: the typed Lean functions of the Go functions, or the proofs that the Go functions meet them. No conditions but those that the theorems name. -/
import Derived.Test.YtpdbjocgoheapaaP12x3
namespace Go.Ab
open Go
set_option linter.unusedVariables false
theorem L12_DrainChecks_ok (F : Nat) (s_1 : T_api_Service) (thread_1 : Int) (r : Bool) (h : L12_DrainChecks F s_1 thread_1 = some r) : TripleG prog 4 [] [] [e_T_api_Service s_1, Ii thread_1] [] (.bool r) := by
 refine triple_intro (fn := Go.Proofs.Try.f4) (code := codeOf Go.Proofs.Try.f4) (by kernel_rfl) (by kernel_rfl) (Nat.le_of_ble_eq_true (by kernel_rfl)) ?_
 unfold L12_DrainChecks at h
 refine sr [(0, { id := 0 })] [1, 2] [0] 1 [Ii thread_1, Pp 0] [Vb 27 (v_T_api_Service s_1)] hmix an ?_
 refine sq ?_
 refine sq ?_
 obtain ⟨r_1, h_1, h⟩ := bind_some h
 refine rg [(1, { av := .bool r_1, l := [e_T_api_Service s_1] })] [1, 2, 15] [0] 1 [Ii thread_1, Pp 0, .bool (!r_1)] [Vb 27 (v_T_api_Service s_1)] hmix (ar ([e_T_api_Service s_1] : List AV) (ac (rfl : ([] : List BoxSt) = []) (ac (L12_few_ok F s_1 r_1 h_1 : TripleG prog 14 [] [] [e_T_api_Service s_1] [] (.bool r_1)) an))) ?_
 refine cd 15 (!r_1) ?_ ?_
 ·intro g_1; replace h := cond_t g_1 h
  refine sq ?_
  obtain ⟨r_2, h_2, h⟩ := bind_some h
  refine rg [(0, { av := .bool r_2, l := [] })] [4] [] 1 [.bool r_2] [] hmix (ar ([] : List AV) (ac (rfl : ([] : List BoxSt) = []) (ac (L12_awake_ok F r_2 h_2 : TripleG prog 9 [] [] [] [] (.bool r_2)) an))) ?_
  refine rt ?_
  cases h
  exact ⟨.inr rfl, Nat.le_of_ble_eq_true rfl, by kernel_rfl⟩
 intro g_1; replace h := cond_f g_1 h
 refine sk ?_
 refine sq ?_
 obtain ⟨r_3, h_3, h⟩ := bind_some h
 refine rg [(2, { av := .tuple [Ii r_3.1, Ii r_3.2], l := [e_T_api_Service s_1, Ii thread_1] })] [1, 2, 5, 6] [0] 1 [Ii thread_1, Pp 0, Ii r_3.1, Ii r_3.2] [Vb 27 (v_T_api_Service s_1)] hmix (ar ([e_T_api_Service s_1, Ii thread_1] : List AV) (ac (rfl : ([] : List BoxSt) = []) (ac (drain_Expect_ok F s_1 thread_1 r_3 h_3 : TripleG prog 15 [] [] [e_T_api_Service s_1, Ii thread_1] [] (.tuple [Ii r_3.1, Ii r_3.2])) an))) ?_
 refine sq ?_
 obtain ⟨r_4, h_4, h⟩ := bind_some h
 refine rg [(2, { av := .tuple [Ii r_4.1, Ii r_4.2], l := [e_T_api_Service s_1, Ii thread_1] })] [2, 5, 6, 7, 8] [0] 1 [Pp 0, Ii r_3.1, Ii r_3.2, Ii r_4.1, Ii r_4.2] [Vb 27 (v_T_api_Service s_1)] hmix (ar ([e_T_api_Service s_1, Ii thread_1] : List AV) (ac (rfl : ([] : List BoxSt) = []) (ac (R12_Expect_ok F s_1 thread_1 r_4 h_4 : TripleG prog 16 [] [] [e_T_api_Service s_1, Ii thread_1] [] (.tuple [Ii r_4.1, Ii r_4.2])) an))) ?_
 refine sq ?_
 obtain ⟨r_5, h_5, h⟩ := bind_some h
 refine rg [(1, { av := .tuple [.own 0 ((r_5.1).length), e_T_api_Service r_5.2], ids := [1], l := [e_T_api_Service s_1], post := [(.row 43 4 (Mp e_T_api_Packet r_5.1))] }), (5, { id := 2 })] [2, 5, 6, 7, 8, 9, 10] [0, 1, 2] 3 [Pp 0, Ii r_3.1, Ii r_3.2, Ii r_4.1, Ii r_4.2, .own 1 ((r_5.1).length), Pp 2] [Vb 27 (v_T_api_Service s_1), Rb 43 4 (Mp e_T_api_Packet r_5.1), Vb 27 (v_T_api_Service r_5.2)] hmix (ar ([e_T_api_Service s_1] : List AV) (ac (rfl : ([] : List BoxSt) = []) (ac (drain_Flush_ok F s_1 r_5 h_5 : TripleG prog 17 [] [] [e_T_api_Service s_1] [(.row 43 4 (Mp e_T_api_Packet r_5.1))] (.tuple [.own 0 ((r_5.1).length), e_T_api_Service r_5.2])) an))) ?_
 refine sq ?_
 obtain ⟨r_6, h_6, h⟩ := bind_some h
 refine rg [(1, { av := .tuple [.own 0 ((r_6.1).length), e_T_api_Service r_6.2], ids := [3], l := [e_T_api_Service s_1], post := [(.row 43 4 (Mp e_T_api_Packet r_6.1))] }), (5, { id := 4 })] [2, 5, 6, 7, 8, 9, 10, 11, 12] [0, 1, 2, 3, 4] 5 [Pp 0, Ii r_3.1, Ii r_3.2, Ii r_4.1, Ii r_4.2, .own 1 ((r_5.1).length), Pp 2, .own 3 ((r_6.1).length), Pp 4] [Vb 27 (v_T_api_Service s_1), Rb 43 4 (Mp e_T_api_Packet r_5.1), Vb 27 (v_T_api_Service r_5.2), Rb 43 4 (Mp e_T_api_Packet r_6.1), Vb 27 (v_T_api_Service r_6.2)] hmix (ar ([e_T_api_Service s_1] : List AV) (ac (rfl : ([] : List BoxSt) = []) (ac (R12_Flush_ok F s_1 r_6 h_6 : TripleG prog 18 [] [] [e_T_api_Service s_1] [(.row 43 4 (Mp e_T_api_Packet r_6.1))] (.tuple [.own 0 ((r_6.1).length), e_T_api_Service r_6.2])) an))) ?_
 refine sq ?_
 obtain ⟨p_1, h_12, h⟩ := bind_some h
 refine aw_mid (mk [(4, .bool p_1)] [] 0) ?_ ?_
 ·replace h := h_12
  obtain ⟨r_7, h_7, h⟩ := bind_some h
  obtain ⟨r_8, h_8, h⟩ := bind_some h
  rcases bft (r_7 == r_8) with gg_1 | gg_1
  ·replace h := cond_t gg_1 h
   rcases bft (r_3.1 == r_4.1) with gg_2 | gg_2
   ·replace h := cond_t gg_2 h
    rcases bft (r_3.2 == r_4.2) with gg_3 | gg_3
    ·replace h := cond_t gg_3 h
     obtain ⟨r_9, h_9, h⟩ := bind_some h
     rcases Bool.eq_false_or_eq_true r_9 with gg_4 | gg_4
     ·replace h := cond_t gg_4 h
      obtain ⟨r_10, h_10, h⟩ := bind_some h
      rcases Bool.eq_false_or_eq_true r_10 with gg_5 | gg_5
      ·replace h := cond_t gg_5 h
       obtain ⟨r_11, h_11, h⟩ := bind_some h
       refine rg [(1, { av := Ii r_7, l := [e_T_api_Service s_1] }), (3, { av := Ii r_8, l := [e_T_api_Service s_1] }), (9, Ht), (14, Ht), (18, { av := .bool r_9, frz := [1, 3], l := [.sl false 4 (Mp e_T_api_Packet r_5.1), .sl false 4 (Mp e_T_api_Packet r_6.1)] }), (19, Ht), (23, { av := .bool r_10, l := [e_T_api_Service r_5.2, e_T_api_Service r_6.2] }), (24, Ht), (26, { av := .bool r_11, l := [] }), (27, Ht)] [4] [] 5 [.bool r_11] [] hmix (ar ([e_T_api_Service s_1] : List AV) (ac (rfl : ([] : List BoxSt) = []) (ac (drain_Check_ok F s_1 r_7 h_7 : TripleG prog 13 [] [] [e_T_api_Service s_1] [] (Ii r_7)) (ar ([e_T_api_Service s_1] : List AV) (ac (rfl : ([] : List BoxSt) = []) (ac (R12_Check_ok F s_1 r_8 h_8 : TripleG prog 19 [] [] [e_T_api_Service s_1] [] (Ii r_8)) (ac gg_1 (ac gg_1 (ac gg_1 (ac gg_1 (ac gg_2 (ac gg_2 (ac gg_2 (ac gg_2 (ac gg_3 (ac gg_3 (ac gg_3 (ac (by first | (simp; done) | (simp; omega) : (r_5.1).length = ((List.map e_T_api_Packet r_5.1)).length) (ac (by first | (simp; done) | (simp; omega) : (r_6.1).length = ((List.map e_T_api_Packet r_6.1)).length) (ar ([.sl false 4 (Mp e_T_api_Packet r_5.1), .sl false 4 (Mp e_T_api_Packet r_6.1)] : List AV) (ac (rfl : ([] : List BoxSt) = []) (ac (R12_SamePackets_ok F r_5.1 r_6.1 r_9 h_9 : TripleG prog 20 [] [] [.sl false 4 (Mp e_T_api_Packet r_5.1), .sl false 4 (Mp e_T_api_Packet r_6.1)] [] (.bool r_9)) (ac gg_3 (ac gg_4 (ac gg_4 (ac gg_4 (ar ([e_T_api_Service r_5.2, e_T_api_Service r_6.2] : List AV) (ac (rfl : ([] : List BoxSt) = []) (ac (R12_Same_ok F r_5.2 r_6.2 r_10 h_10 : TripleG prog 12 [] [] [e_T_api_Service r_5.2, e_T_api_Service r_6.2] [] (.bool r_10)) (ac gg_4 (ac gg_5 (ar ([] : List AV) (ac (rfl : ([] : List BoxSt) = []) (ac (L12_awake_ok F r_11 h_11 : TripleG prog 9 [] [] [] [] (.bool r_11)) (ac gg_5 an))))))))))))))))))))))))))))))))))) ?_
       cases h
       exact ⟨rfl, (sw [] [] [.s 4] [] an)⟩
      ·replace h := cond_f gg_5 h
       refine rg [(1, { av := Ii r_7, l := [e_T_api_Service s_1] }), (3, { av := Ii r_8, l := [e_T_api_Service s_1] }), (9, Ht), (14, Ht), (18, { av := .bool r_9, frz := [1, 3], l := [.sl false 4 (Mp e_T_api_Packet r_5.1), .sl false 4 (Mp e_T_api_Packet r_6.1)] }), (19, Ht), (23, { av := .bool r_10, l := [e_T_api_Service r_5.2, e_T_api_Service r_6.2] }), (24, Ht), (26, Hg), (27, Hf)] [4] [] 5 [.bool false] [] hmix (ar ([e_T_api_Service s_1] : List AV) (ac (rfl : ([] : List BoxSt) = []) (ac (drain_Check_ok F s_1 r_7 h_7 : TripleG prog 13 [] [] [e_T_api_Service s_1] [] (Ii r_7)) (ar ([e_T_api_Service s_1] : List AV) (ac (rfl : ([] : List BoxSt) = []) (ac (R12_Check_ok F s_1 r_8 h_8 : TripleG prog 19 [] [] [e_T_api_Service s_1] [] (Ii r_8)) (ac gg_1 (ac gg_1 (ac gg_1 (ac gg_1 (ac gg_2 (ac gg_2 (ac gg_2 (ac gg_2 (ac gg_3 (ac gg_3 (ac gg_3 (ac (by first | (simp; done) | (simp; omega) : (r_5.1).length = ((List.map e_T_api_Packet r_5.1)).length) (ac (by first | (simp; done) | (simp; omega) : (r_6.1).length = ((List.map e_T_api_Packet r_6.1)).length) (ar ([.sl false 4 (Mp e_T_api_Packet r_5.1), .sl false 4 (Mp e_T_api_Packet r_6.1)] : List AV) (ac (rfl : ([] : List BoxSt) = []) (ac (R12_SamePackets_ok F r_5.1 r_6.1 r_9 h_9 : TripleG prog 20 [] [] [.sl false 4 (Mp e_T_api_Packet r_5.1), .sl false 4 (Mp e_T_api_Packet r_6.1)] [] (.bool r_9)) (ac gg_3 (ac gg_4 (ac gg_4 (ac gg_4 (ar ([e_T_api_Service r_5.2, e_T_api_Service r_6.2] : List AV) (ac (rfl : ([] : List BoxSt) = []) (ac (R12_Same_ok F r_5.2 r_6.2 r_10 h_10 : TripleG prog 12 [] [] [e_T_api_Service r_5.2, e_T_api_Service r_6.2] [] (.bool r_10)) (ac gg_4 (ac gg_5 (ac gg_5 an)))))))))))))))))))))))))))))))) ?_
       cases h
       exact ⟨rfl, (sw [] [] [.s 4] [] an)⟩
     ·replace h := cond_f gg_4 h
      refine rg [(1, { av := Ii r_7, l := [e_T_api_Service s_1] }), (3, { av := Ii r_8, l := [e_T_api_Service s_1] }), (9, Ht), (14, Ht), (18, { av := .bool r_9, frz := [1, 3], l := [.sl false 4 (Mp e_T_api_Packet r_5.1), .sl false 4 (Mp e_T_api_Packet r_6.1)] }), (19, Ht), (21, Hg), (22, Hg), (23, Hg), (24, Hf), (26, Hg), (27, Hf)] [4] [] 5 [.bool false] [] hmix (ar ([e_T_api_Service s_1] : List AV) (ac (rfl : ([] : List BoxSt) = []) (ac (drain_Check_ok F s_1 r_7 h_7 : TripleG prog 13 [] [] [e_T_api_Service s_1] [] (Ii r_7)) (ar ([e_T_api_Service s_1] : List AV) (ac (rfl : ([] : List BoxSt) = []) (ac (R12_Check_ok F s_1 r_8 h_8 : TripleG prog 19 [] [] [e_T_api_Service s_1] [] (Ii r_8)) (ac gg_1 (ac gg_1 (ac gg_1 (ac gg_1 (ac gg_2 (ac gg_2 (ac gg_2 (ac gg_2 (ac gg_3 (ac gg_3 (ac gg_3 (ac (by first | (simp; done) | (simp; omega) : (r_5.1).length = ((List.map e_T_api_Packet r_5.1)).length) (ac (by first | (simp; done) | (simp; omega) : (r_6.1).length = ((List.map e_T_api_Packet r_6.1)).length) (ar ([.sl false 4 (Mp e_T_api_Packet r_5.1), .sl false 4 (Mp e_T_api_Packet r_6.1)] : List AV) (ac (rfl : ([] : List BoxSt) = []) (ac (R12_SamePackets_ok F r_5.1 r_6.1 r_9 h_9 : TripleG prog 20 [] [] [.sl false 4 (Mp e_T_api_Packet r_5.1), .sl false 4 (Mp e_T_api_Packet r_6.1)] [] (.bool r_9)) (ac gg_3 (ac gg_4 (ac gg_4 (ac gg_4 (ac gg_4 (ac (rfl : false = !true) (ar false an))))))))))))))))))))))))))))) ?_
      cases h
      exact ⟨rfl, (sw [] [] [.s 4] [] an)⟩
    ·replace h := cond_f gg_3 h
     refine rg [(1, { av := Ii r_7, l := [e_T_api_Service s_1] }), (3, { av := Ii r_8, l := [e_T_api_Service s_1] }), (9, Ht), (14, Ht), (16, Hg), (17, Hg), (18, Hg), (19, Hf), (21, Hg), (22, Hg), (23, Hg), (24, Hf), (26, Hg), (27, Hf)] [4] [] 5 [.bool false] [] hmix (ar ([e_T_api_Service s_1] : List AV) (ac (rfl : ([] : List BoxSt) = []) (ac (drain_Check_ok F s_1 r_7 h_7 : TripleG prog 13 [] [] [e_T_api_Service s_1] [] (Ii r_7)) (ar ([e_T_api_Service s_1] : List AV) (ac (rfl : ([] : List BoxSt) = []) (ac (R12_Check_ok F s_1 r_8 h_8 : TripleG prog 19 [] [] [e_T_api_Service s_1] [] (Ii r_8)) (ac gg_1 (ac gg_1 (ac gg_1 (ac gg_1 (ac gg_2 (ac gg_2 (ac gg_2 (ac gg_2 (ac gg_3 (ac gg_3 (ac gg_3 (ac gg_3 (ac (rfl : false = !true) (ac (rfl : false = !true) (ac (rfl : false = !true) (ar false (ac (rfl : false = !true) (ar false an)))))))))))))))))))))))) ?_
     cases h
     exact ⟨rfl, (sw [] [] [.s 4] [] an)⟩
   ·replace h := cond_f gg_2 h
    refine rg [(1, { av := Ii r_7, l := [e_T_api_Service s_1] }), (3, { av := Ii r_8, l := [e_T_api_Service s_1] }), (9, Ht), (11, Hg), (12, Hg), (13, Hg), (14, Hf), (16, Hg), (17, Hg), (18, Hg), (19, Hf), (21, Hg), (22, Hg), (23, Hg), (24, Hf), (26, Hg), (27, Hf)] [4] [] 5 [.bool false] [] hmix (ar ([e_T_api_Service s_1] : List AV) (ac (rfl : ([] : List BoxSt) = []) (ac (drain_Check_ok F s_1 r_7 h_7 : TripleG prog 13 [] [] [e_T_api_Service s_1] [] (Ii r_7)) (ar ([e_T_api_Service s_1] : List AV) (ac (rfl : ([] : List BoxSt) = []) (ac (R12_Check_ok F s_1 r_8 h_8 : TripleG prog 19 [] [] [e_T_api_Service s_1] [] (Ii r_8)) (ac gg_1 (ac gg_1 (ac gg_1 (ac gg_1 (ac gg_2 (ac gg_2 (ac gg_2 (ac gg_2 (ac (rfl : false = !true) (ac (rfl : false = !true) (ac (rfl : false = !true) (ar false (ac (rfl : false = !true) (ac (rfl : false = !true) (ac (rfl : false = !true) (ar false (ac (rfl : false = !true) (ar false an)))))))))))))))))))))))) ?_
    cases h
    exact ⟨rfl, (sw [] [] [.s 4] [] an)⟩
  ·replace h := cond_f gg_1 h
   refine rg [(1, { av := Ii r_7, l := [e_T_api_Service s_1] }), (3, { av := Ii r_8, l := [e_T_api_Service s_1] }), (6, Hg), (7, Hg), (8, Hg), (9, Hf), (11, Hg), (12, Hg), (13, Hg), (14, Hf), (16, Hg), (17, Hg), (18, Hg), (19, Hf), (21, Hg), (22, Hg), (23, Hg), (24, Hf), (26, Hg), (27, Hf)] [4] [] 5 [.bool false] [] hmix (ar ([e_T_api_Service s_1] : List AV) (ac (rfl : ([] : List BoxSt) = []) (ac (drain_Check_ok F s_1 r_7 h_7 : TripleG prog 13 [] [] [e_T_api_Service s_1] [] (Ii r_7)) (ar ([e_T_api_Service s_1] : List AV) (ac (rfl : ([] : List BoxSt) = []) (ac (R12_Check_ok F s_1 r_8 h_8 : TripleG prog 19 [] [] [e_T_api_Service s_1] [] (Ii r_8)) (ac gg_1 (ac gg_1 (ac gg_1 (ac gg_1 (ac (rfl : false = !true) (ac (rfl : false = !true) (ac (rfl : false = !true) (ar false (ac (rfl : false = !true) (ac (rfl : false = !true) (ac (rfl : false = !true) (ar false (ac (rfl : false = !true) (ac (rfl : false = !true) (ac (rfl : false = !true) (ar false (ac (rfl : false = !true) (ar false an)))))))))))))))))))))))) ?_
   cases h
   exact ⟨rfl, (sw [] [] [.s 4] [] an)⟩
 refine rt ?_
 cases h
 exact ⟨.inr rfl, Nat.le_of_ble_eq_true rfl, by kernel_rfl⟩

end Go.Ab
