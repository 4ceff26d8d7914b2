/- Printed: the typed Lean functions of the Go functions, or the proofs that the Go functions meet them. No conditions but those that the theorems name. -/
import Derived.Test.YtpdbjocgoheapaaP12x3
namespace Go.Ab
open Go
set_option linter.unusedVariables false
theorem L12_DrainMakes_ok (F : Nat) (l_1 : List (T_api_Thread)) (r : Bool) (h : L12_DrainMakes F l_1 = some r) : TripleG prog 3 [] [] [.sl false 3 (Mp e_T_api_Thread l_1)] [] (.bool r) := by
 refine triple_intro (fn := Go.Proofs.Try.f3) (code := codeOf Go.Proofs.Try.f3) (by kernel_rfl) (by kernel_rfl) (Nat.le_of_ble_eq_true (by kernel_rfl)) ?_
 unfold L12_DrainMakes at h
 refine sr [] [0] [] 0 [.sl false 3 (Mp e_T_api_Thread l_1)] [] hmix an ?_
 refine sq ?_
 refine sr [(1, { n := (l_1).length })] [0, 9] [] 0 [.sl false 3 (Mp e_T_api_Thread l_1), .bool (decide ((lN (l_1)) > (70 : Int)))] [] hmix (ac (vc_len _ : ((Mp e_T_api_Thread l_1)).length = (l_1).length) an) ?_
 refine cd 9 (decide ((lN (l_1)) > (70 : Int))) ?_ ?_
 ·intro g_1; replace h := cond_t g_1 h
  refine sq ?_
  obtain ⟨r_1, h_1, h⟩ := bind_some h
  refine rg [(0, { av := .bool r_1, l := [] })] [2] [] 0 [.bool r_1] [] hmix (ar ([] : List AV) (ac (rfl : ([] : List BoxSt) = []) (ac (L12_awake_ok F r_1 h_1 : TripleG prog 9 [] [] [] [] (.bool r_1)) an))) ?_
  refine rt ?_
  cases h
  exact ⟨.inr rfl, Nat.le_of_ble_eq_true rfl, by kernel_rfl⟩
 intro g_1; replace h := cond_f g_1 h
 refine sk ?_
 refine sq ?_
 obtain ⟨r_2, h_2, h⟩ := bind_some h
 refine rg [(1, { av := .tuple [e_T_api_Service r_2.1, Ii r_2.2], l := [.sl false 3 (Mp e_T_api_Thread l_1)] }), (5, { id := 0 })] [0, 3, 4] [0] 1 [.sl false 3 (Mp e_T_api_Thread l_1), Pp 0, Ii r_2.2] [Vb 27 (v_T_api_Service r_2.1)] hmix (ar ([.sl false 3 (Mp e_T_api_Thread l_1)] : List AV) (ac (rfl : ([] : List BoxSt) = []) (ac (drain_New_ok F l_1 r_2 h_2 : TripleG prog 10 [] [] [.sl false 3 (Mp e_T_api_Thread l_1)] [] (.tuple [e_T_api_Service r_2.1, Ii r_2.2])) an))) ?_
 refine sq ?_
 obtain ⟨r_3, h_3, h⟩ := bind_some h
 refine rg [(1, { av := .tuple [e_T_api_Service r_3.1, Ii r_3.2], l := [.sl false 3 (Mp e_T_api_Thread l_1)] }), (5, { id := 1 })] [3, 4, 5, 6] [0, 1] 2 [Pp 0, Ii r_2.2, Pp 1, Ii r_3.2] [Vb 27 (v_T_api_Service r_2.1), Vb 27 (v_T_api_Service r_3.1)] hmix (ar ([.sl false 3 (Mp e_T_api_Thread l_1)] : List AV) (ac (rfl : ([] : List BoxSt) = []) (ac (R12_New_ok F l_1 r_3 h_3 : TripleG prog 11 [] [] [.sl false 3 (Mp e_T_api_Thread l_1)] [] (.tuple [e_T_api_Service r_3.1, Ii r_3.2])) an))) ?_
 refine sq ?_
 obtain ⟨p_1, h_7, h⟩ := bind_some h
 refine aw_mid (mk [(2, .bool p_1)] [] 0) ?_ ?_
 ·replace h := h_7
  rcases bft (r_2.2 == r_3.2) with gg_1 | gg_1
  ·replace h := cond_t gg_1 h
   obtain ⟨r_4, h_4, h⟩ := bind_some h
   rcases Bool.eq_false_or_eq_true r_4 with gg_2 | gg_2
   ·replace h := cond_t gg_2 h
    rcases bft (r_2.2 != (0 : Int)) with gg_3 | gg_3
    ·replace h := cond_t gg_3 h
     obtain ⟨r_5, h_5, h⟩ := bind_some h
     refine rg [(6, { av := .bool r_4, l := [e_T_api_Service r_2.1, e_T_api_Service r_3.1] }), (7, Ht), (12, Hg), (13, Hg), (14, Hg), (15, Ht), (16, Ht), (18, { av := .bool r_5, l := [] }), (19, Ht)] [2] [] 2 [.bool r_5] [] hmix (ac gg_1 (ac gg_1 (ac gg_1 (ar ([e_T_api_Service r_2.1, e_T_api_Service r_3.1] : List AV) (ac (rfl : ([] : List BoxSt) = []) (ac (R12_Same_ok F r_2.1 r_3.1 r_4 h_4 : TripleG prog 12 [] [] [e_T_api_Service r_2.1, e_T_api_Service r_3.1] [] (.bool r_4)) (ac gg_1 (ac gg_2 (ac gg_2 (ac gg_2 (ac gg_3 (ac gg_3 (ac gg_3 (ac gg_2 (ac gg_3 (ac gg_2 (ar true (ar ([] : List AV) (ac (rfl : ([] : List BoxSt) = []) (ac (L12_awake_ok F r_5 h_5 : TripleG prog 9 [] [] [] [] (.bool r_5)) (ar true an))))))))))))))))))))) ?_
     cases h
     exact ⟨rfl, (sw [] [] [.s 2] [] an)⟩
    ·replace h := cond_f gg_3 h
     obtain ⟨r_5, h_5, h⟩ := bind_some h
     rcases bft (r_5 == (0 : Int)) with gg_4 | gg_4
     ·replace h := cond_t gg_4 h
      obtain ⟨r_6, h_6, h⟩ := bind_some h
      refine rg [(6, { av := .bool r_4, l := [e_T_api_Service r_2.1, e_T_api_Service r_3.1] }), (7, Ht), (13, { av := Ii r_5, l := [e_T_api_Service r_2.1] }), (15, Hf), (16, Ht), (18, { av := .bool r_6, l := [] }), (19, Ht)] [2] [] 2 [.bool r_6] [] hmix (ac gg_1 (ac gg_1 (ac gg_1 (ar ([e_T_api_Service r_2.1, e_T_api_Service r_3.1] : List AV) (ac (rfl : ([] : List BoxSt) = []) (ac (R12_Same_ok F r_2.1 r_3.1 r_4 h_4 : TripleG prog 12 [] [] [e_T_api_Service r_2.1, e_T_api_Service r_3.1] [] (.bool r_4)) (ac gg_1 (ac gg_2 (ac gg_2 (ac gg_2 (ac gg_3 (ac gg_3 (ar ([e_T_api_Service r_2.1] : List AV) (ac (rfl : ([] : List BoxSt) = []) (ac (drain_Check_ok F r_2.1 r_5 h_5 : TripleG prog 13 [] [] [e_T_api_Service r_2.1] [] (Ii r_5)) (ac gg_3 (ac gg_2 (ac gg_3 (ac gg_2 (ac gg_4 (ar ([] : List AV) (ac (rfl : ([] : List BoxSt) = []) (ac (L12_awake_ok F r_6 h_6 : TripleG prog 9 [] [] [] [] (.bool r_6)) (ac gg_4 an)))))))))))))))))))))))) ?_
      cases h
      exact ⟨rfl, (sw [] [] [.s 2] [] an)⟩
     ·replace h := cond_f gg_4 h
      refine rg [(6, { av := .bool r_4, l := [e_T_api_Service r_2.1, e_T_api_Service r_3.1] }), (7, Ht), (13, { av := Ii r_5, l := [e_T_api_Service r_2.1] }), (15, Hf), (16, Ht), (18, Hg), (19, Hf)] [2] [] 2 [.bool false] [] hmix (ac gg_1 (ac gg_1 (ac gg_1 (ar ([e_T_api_Service r_2.1, e_T_api_Service r_3.1] : List AV) (ac (rfl : ([] : List BoxSt) = []) (ac (R12_Same_ok F r_2.1 r_3.1 r_4 h_4 : TripleG prog 12 [] [] [e_T_api_Service r_2.1, e_T_api_Service r_3.1] [] (.bool r_4)) (ac gg_1 (ac gg_2 (ac gg_2 (ac gg_2 (ac gg_3 (ac gg_3 (ar ([e_T_api_Service r_2.1] : List AV) (ac (rfl : ([] : List BoxSt) = []) (ac (drain_Check_ok F r_2.1 r_5 h_5 : TripleG prog 13 [] [] [e_T_api_Service r_2.1] [] (Ii r_5)) (ac gg_3 (ac gg_2 (ac gg_3 (ac gg_2 (ac gg_4 (ac gg_4 an))))))))))))))))))))) ?_
      cases h
      exact ⟨rfl, (sw [] [] [.s 2] [] an)⟩
   ·replace h := cond_f gg_2 h
    refine rg [(6, { av := .bool r_4, l := [e_T_api_Service r_2.1, e_T_api_Service r_3.1] }), (7, Ht), (9, Hg), (10, Hg), (11, Hg), (15, Hg), (16, Hf), (18, Hg), (19, Hf)] [2] [] 2 [.bool false] [] hmix (ac gg_1 (ac gg_1 (ac gg_1 (ar ([e_T_api_Service r_2.1, e_T_api_Service r_3.1] : List AV) (ac (rfl : ([] : List BoxSt) = []) (ac (R12_Same_ok F r_2.1 r_3.1 r_4 h_4 : TripleG prog 12 [] [] [e_T_api_Service r_2.1, e_T_api_Service r_3.1] [] (.bool r_4)) (ac gg_1 (ac gg_2 (ac gg_2 (ac gg_2 (ac gg_2 (ac gg_2 (ac (rfl : false = !true) (ar false an)))))))))))))) ?_
    cases h
    exact ⟨rfl, (sw [] [] [.s 2] [] an)⟩
  ·replace h := cond_f gg_1 h
   refine rg [(4, Hg), (5, Hg), (6, Hg), (7, Hf), (9, Hg), (10, Hg), (11, Hg), (15, Hg), (16, Hf), (18, Hg), (19, Hf)] [2] [] 2 [.bool false] [] hmix (ac gg_1 (ac gg_1 (ac gg_1 (ac gg_1 (ac (rfl : false = !true) (ac (rfl : false = !true) (ac (rfl : false = !true) (ac (rfl : false = !true) (ar false (ac (rfl : false = !true) (ar false an))))))))))) ?_
   cases h
   exact ⟨rfl, (sw [] [] [.s 2] [] an)⟩
 refine rt ?_
 cases h
 exact ⟨.inr rfl, Nat.le_of_ble_eq_true rfl, by kernel_rfl⟩

end Go.Ab
