/- Printed: the typed Lean functions of the Go functions, or the proofs that the Go functions meet them. No conditions but those that the theorems name. -/
import Derived.Test.YtefkcplneflhgaaP33x2
namespace Go.Ab
open Go
set_option linter.unusedVariables false
theorem L33_ColumnDecodes_ok (F : Nat) (p_1 : T_api_Packed) (r : Bool) (h : L33_ColumnDecodes F p_1 = some r) : TripleG prog 5 [] [] [e_T_api_Packed p_1] [] (.bool r) := by
 refine triple_intro (fn := Go.Proofs.Try.f5) (code := codeOf Go.Proofs.Try.f5) (by kernel_rfl) (by kernel_rfl) (Nat.le_of_ble_eq_true (by kernel_rfl)) ?_
 unfold L33_ColumnDecodes at h
 refine sr [(0, { id := 0 })] [1] [0] 1 [Pp 0] [Vb 33 (v_T_api_Packed p_1)] hmix an ?_
 refine sq ?_
 refine sq ?_
 obtain ⟨p_2, h_2, h⟩ := bind_some h
 refine aw_mid (mk [(1, Pp 0), (30, .bool p_2)] [(0, Vb 33 (v_T_api_Packed p_1))] 1) ?_ ?_
 ·replace h := h_2
  obtain ⟨r_1, h_1, h⟩ := bind_some h
  rcases bft (!r_1) with gg_1 | gg_1
  ·replace h := cond_t gg_1 h
   refine rg [(0, { av := .bool r_1, l := [] }), (3, Hg), (4, Hg), (5, Hg), (6, Hg), (10, Hg), (11, Ht), (13, Hg), (14, Hg), (15, Hg), (16, Hg), (17, Ht)] [1, 30] [0] 1 [Pp 0, .bool true] [Vb 33 (v_T_api_Packed p_1)] hmix (ar ([] : List AV) (ac (rfl : ([] : List BoxSt) = []) (ac (L33_awake_ok F r_1 h_1 : TripleG prog 10 [] [] [] [] (.bool r_1)) (ac gg_1 (ac gg_1 (ac gg_1 (ac gg_1 (ac gg_1 (ac gg_1 (ax (ax (ax (ax (ar true an)))))))))))))) ?_
   cases h
   exact ⟨rfl, (sw [0] [] [.s 1, .s 30] [.s 0] an)⟩
  ·replace h := cond_f gg_1 h
   rcases bft (decide (p_1.N > (60 : Int))) with gg_2 | gg_2
   ·replace h := cond_t gg_2 h
    rcases bft (decide (p_1.N ≤ (20000 : Int))) with gg_3 | gg_3
    ·replace h := cond_t gg_3 h
     refine rg [(0, { av := .bool r_1, l := [] }), (10, Ht), (11, Hf), (13, Hg), (14, Hg), (15, Hg), (16, Hg), (17, Ht)] [1, 30] [0] 1 [Pp 0, .bool true] [Vb 33 (v_T_api_Packed p_1)] hmix (ar ([] : List AV) (ac (rfl : ([] : List BoxSt) = []) (ac (L33_awake_ok F r_1 h_1 : TripleG prog 10 [] [] [] [] (.bool r_1)) (ac gg_1 (ac gg_1 (ac gg_1 (ac gg_1 (ac gg_2 (ac gg_2 (ac gg_2 (ac gg_1 (ac gg_2 (ac gg_1 (ac gg_3 (ac gg_3 (ac gg_3 (ac gg_3 (ac gg_3 an)))))))))))))))))) ?_
     cases h
     exact ⟨rfl, (sw [0] [] [.s 1, .s 30] [.s 0] an)⟩
    ·replace h := cond_f gg_3 h
     refine rg [(0, { av := .bool r_1, l := [] }), (10, Ht), (11, Hf), (15, { n := (p_1.Bytes).length }), (17, Hf)] [1, 30] [0] 1 [Pp 0, .bool (decide ((lN (p_1.Bytes)) > (600 : Int)))] [Vb 33 (v_T_api_Packed p_1)] hmix (ar ([] : List AV) (ac (rfl : ([] : List BoxSt) = []) (ac (L33_awake_ok F r_1 h_1 : TripleG prog 10 [] [] [] [] (.bool r_1)) (ac gg_1 (ac gg_1 (ac gg_1 (ac gg_1 (ac gg_2 (ac gg_2 (ac gg_2 (ac gg_1 (ac gg_2 (ac gg_1 (ac gg_3 (ac gg_3 (ac gg_3 (ac (vc_len _ : ((Mb p_1.Bytes)).length = (p_1.Bytes).length) (ac gg_3 (ac gg_3 an))))))))))))))))))) ?_
     cases h
     exact ⟨rfl, (sw [0] [] [.s 1, .s 30] [.s 0] an)⟩
   ·replace h := cond_f gg_2 h
    refine rg [(0, { av := .bool r_1, l := [] }), (7, Hg), (8, Hg), (9, Hg), (10, Hf), (11, Hf), (15, { n := (p_1.Bytes).length }), (17, Hf)] [1, 30] [0] 1 [Pp 0, .bool (decide ((lN (p_1.Bytes)) > (600 : Int)))] [Vb 33 (v_T_api_Packed p_1)] hmix (ar ([] : List AV) (ac (rfl : ([] : List BoxSt) = []) (ac (L33_awake_ok F r_1 h_1 : TripleG prog 10 [] [] [] [] (.bool r_1)) (ac gg_1 (ac gg_1 (ac gg_1 (ac gg_1 (ac gg_2 (ac gg_2 (ac gg_2 (ac gg_1 (ac gg_2 (ac gg_1 (ar false (ar false (ar false (ac (vc_len _ : ((Mb p_1.Bytes)).length = (p_1.Bytes).length) (ar false (ar false an))))))))))))))))))) ?_
    cases h
    exact ⟨rfl, (sw [0] [] [.s 1, .s 30] [.s 0] an)⟩
 refine cd 30 p_2 ?_ ?_
 ·intro g_1; replace h := cond_t g_1 h
  refine sq ?_
  obtain ⟨r_2, h_3, h⟩ := bind_some h
  refine rg [(0, { av := .bool r_2, l := [] })] [2] [] 1 [.bool r_2] [] hmix (ar ([] : List AV) (ac (rfl : ([] : List BoxSt) = []) (ac (L33_awake_ok F r_2 h_3 : TripleG prog 10 [] [] [] [] (.bool r_2)) an))) ?_
  refine rt ?_
  cases h
  exact ⟨.inr rfl, Nat.le_of_ble_eq_true rfl, by kernel_rfl⟩
 intro g_1; replace h := cond_f g_1 h
 refine sk ?_
 refine sq ?_
 obtain ⟨r_3, h_4, h⟩ := bind_some h
 refine rg [(1, { av := .tuple [.sl false 3 (Mp e_T_api_Value r_3.1), Ii r_3.2], l := [e_T_api_Packed p_1] })] [1, 3, 4] [0] 1 [Pp 0, .sl false 3 (Mp e_T_api_Value r_3.1), Ii r_3.2] [Vb 33 (v_T_api_Packed p_1)] hmix (ar ([e_T_api_Packed p_1] : List AV) (ac (rfl : ([] : List BoxSt) = []) (ac (column_Decode_ok F p_1 r_3 h_4 : TripleG prog 14 [] [] [e_T_api_Packed p_1] [] (.tuple [.sl false 3 (Mp e_T_api_Value r_3.1), Ii r_3.2])) an))) ?_
 refine sq ?_
 obtain ⟨r_4, h_5, h⟩ := bind_some h
 refine rg [(1, { av := .tuple [.sl false 3 (Mp e_T_api_Value r_4.1), Ii r_4.2], l := [e_T_api_Packed p_1] })] [1, 3, 4, 5, 6] [0] 1 [Pp 0, .sl false 3 (Mp e_T_api_Value r_3.1), Ii r_3.2, .sl false 3 (Mp e_T_api_Value r_4.1), Ii r_4.2] [Vb 33 (v_T_api_Packed p_1)] hmix (ar ([e_T_api_Packed p_1] : List AV) (ac (rfl : ([] : List BoxSt) = []) (ac (R33_Decode_ok F p_1 r_4 h_5 : TripleG prog 17 [] [] [e_T_api_Packed p_1] [] (.tuple [.sl false 3 (Mp e_T_api_Value r_4.1), Ii r_4.2])) an))) ?_
 refine sq ?_
 obtain ⟨r_5, h_6, h⟩ := bind_some h
 refine rg [(1, { av := .tuple [Ii r_5.1, Ii r_5.2], l := [e_T_api_Packed p_1] })] [1, 3, 4, 5, 6, 7, 8] [0] 1 [Pp 0, .sl false 3 (Mp e_T_api_Value r_3.1), Ii r_3.2, .sl false 3 (Mp e_T_api_Value r_4.1), Ii r_4.2, Ii r_5.1, Ii r_5.2] [Vb 33 (v_T_api_Packed p_1)] hmix (ar ([e_T_api_Packed p_1] : List AV) (ac (rfl : ([] : List BoxSt) = []) (ac (column_Coding_ok F p_1 r_5 h_6 : TripleG prog 15 [] [] [e_T_api_Packed p_1] [] (.tuple [Ii r_5.1, Ii r_5.2])) an))) ?_
 refine sq ?_
 obtain ⟨r_6, h_7, h⟩ := bind_some h
 refine rg [(1, { av := .tuple [Ii r_6.1, Ii r_6.2], l := [e_T_api_Packed p_1] })] [1, 3, 4, 5, 6, 7, 8, 9, 10] [0] 1 [Pp 0, .sl false 3 (Mp e_T_api_Value r_3.1), Ii r_3.2, .sl false 3 (Mp e_T_api_Value r_4.1), Ii r_4.2, Ii r_5.1, Ii r_5.2, Ii r_6.1, Ii r_6.2] [Vb 33 (v_T_api_Packed p_1)] hmix (ar ([e_T_api_Packed p_1] : List AV) (ac (rfl : ([] : List BoxSt) = []) (ac (R33_Coding_ok F p_1 r_6 h_7 : TripleG prog 18 [] [] [e_T_api_Packed p_1] [] (.tuple [Ii r_6.1, Ii r_6.2])) an))) ?_
 refine sq ?_
 refine sq ?_
 obtain ⟨p_3, h_9, h⟩ := bind_some h
 refine aw_mid (mk [(1, Pp 0), (3, .sl false 3 (Mp e_T_api_Value r_3.1)), (4, Ii r_3.2), (70, .bool p_3)] [(0, Vb 33 (v_T_api_Packed p_1))] 1) ?_ ?_
 ·replace h := h_9
  rcases bft (r_3.2 != r_4.2) with gg_4 | gg_4
  ·replace h := cond_t gg_4 h
   refine rg [(4, Hg), (5, Hg), (6, Hg), (7, Hg), (8, Ht), (10, Hg), (11, Hg), (12, Hg), (13, Ht), (15, Hg), (16, Hg), (17, Hg), (18, Ht)] [1, 3, 4, 70] [0] 1 [Pp 0, .sl false 3 (Mp e_T_api_Value r_3.1), Ii r_3.2, .bool true] [Vb 33 (v_T_api_Packed p_1)] hmix (ac gg_4 (ac gg_4 (ac gg_4 (ac gg_4 (ac gg_4 (ax (ax (ax (ar true (ax (ax (ax (ar true an))))))))))))) ?_
   cases h
   exact ⟨rfl, (sw [0] [] [.s 1, .s 3, .s 4, .s 70] [.s 0] an)⟩
  ·replace h := cond_f gg_4 h
   obtain ⟨r_7, h_8, h⟩ := bind_some h
   rcases bft (!r_7) with gg_5 | gg_5
   ·replace h := cond_t gg_5 h
    refine rg [(6, { av := .bool r_7, l := [.sl false 3 (Mp e_T_api_Value r_3.1), .sl false 3 (Mp e_T_api_Value r_4.1)] }), (8, Hf), (10, Hg), (11, Hg), (12, Hg), (13, Ht), (15, Hg), (16, Hg), (17, Hg), (18, Ht)] [1, 3, 4, 70] [0] 1 [Pp 0, .sl false 3 (Mp e_T_api_Value r_3.1), Ii r_3.2, .bool true] [Vb 33 (v_T_api_Packed p_1)] hmix (ac gg_4 (ac gg_4 (ac gg_4 (ar ([.sl false 3 (Mp e_T_api_Value r_3.1), .sl false 3 (Mp e_T_api_Value r_4.1)] : List AV) (ac (rfl : ([] : List BoxSt) = []) (ac (R33_Same_ok F r_3.1 r_4.1 r_7 h_8 : TripleG prog 16 [] [] [.sl false 3 (Mp e_T_api_Value r_3.1), .sl false 3 (Mp e_T_api_Value r_4.1)] [] (.bool r_7)) (ac gg_4 (ac gg_4 (ac gg_5 (ac gg_5 (ac gg_5 (ac gg_5 (ax (ax (ax (ar true an)))))))))))))))) ?_
    cases h
    exact ⟨rfl, (sw [0] [] [.s 1, .s 3, .s 4, .s 70] [.s 0] an)⟩
   ·replace h := cond_f gg_5 h
    rcases bft (r_5.2 != r_6.2) with gg_6 | gg_6
    ·replace h := cond_t gg_6 h
     refine rg [(6, { av := .bool r_7, l := [.sl false 3 (Mp e_T_api_Value r_3.1), .sl false 3 (Mp e_T_api_Value r_4.1)] }), (8, Hf), (13, Hf), (15, Hg), (16, Hg), (17, Hg), (18, Ht)] [1, 3, 4, 70] [0] 1 [Pp 0, .sl false 3 (Mp e_T_api_Value r_3.1), Ii r_3.2, .bool true] [Vb 33 (v_T_api_Packed p_1)] hmix (ac gg_4 (ac gg_4 (ac gg_4 (ar ([.sl false 3 (Mp e_T_api_Value r_3.1), .sl false 3 (Mp e_T_api_Value r_4.1)] : List AV) (ac (rfl : ([] : List BoxSt) = []) (ac (R33_Same_ok F r_3.1 r_4.1 r_7 h_8 : TripleG prog 16 [] [] [.sl false 3 (Mp e_T_api_Value r_3.1), .sl false 3 (Mp e_T_api_Value r_4.1)] [] (.bool r_7)) (ac gg_4 (ac gg_4 (ac gg_5 (ac gg_5 (ac gg_5 (ac gg_5 (ac gg_6 (ac gg_6 (ac gg_6 (ac gg_6 an)))))))))))))))) ?_
     cases h
     exact ⟨rfl, (sw [0] [] [.s 1, .s 3, .s 4, .s 70] [.s 0] an)⟩
    ·replace h := cond_f gg_6 h
     refine rg [(6, { av := .bool r_7, l := [.sl false 3 (Mp e_T_api_Value r_3.1), .sl false 3 (Mp e_T_api_Value r_4.1)] }), (8, Hf), (13, Hf), (18, Hf)] [1, 3, 4, 70] [0] 1 [Pp 0, .sl false 3 (Mp e_T_api_Value r_3.1), Ii r_3.2, .bool (r_5.1 != r_6.1)] [Vb 33 (v_T_api_Packed p_1)] hmix (ac gg_4 (ac gg_4 (ac gg_4 (ar ([.sl false 3 (Mp e_T_api_Value r_3.1), .sl false 3 (Mp e_T_api_Value r_4.1)] : List AV) (ac (rfl : ([] : List BoxSt) = []) (ac (R33_Same_ok F r_3.1 r_4.1 r_7 h_8 : TripleG prog 16 [] [] [.sl false 3 (Mp e_T_api_Value r_3.1), .sl false 3 (Mp e_T_api_Value r_4.1)] [] (.bool r_7)) (ac gg_4 (ac gg_4 (ac gg_5 (ac gg_5 (ac gg_5 (ac gg_5 (ac gg_6 (ac gg_6 (ac gg_6 (ac gg_6 an)))))))))))))))) ?_
     cases h
     exact ⟨rfl, (sw [0] [] [.s 1, .s 3, .s 4, .s 70] [.s 0] an)⟩
 refine cd 70 p_3 ?_ ?_
 ·intro g_2; replace h := cond_t g_2 h
  refine sr [] [2] [] 1 [.bool false] [] hmix an ?_
  refine rt ?_
  cases h
  exact ⟨.inr rfl, Nat.le_of_ble_eq_true rfl, by kernel_rfl⟩
 intro g_2; replace h := cond_f g_2 h
 refine sk ?_
 refine sq ?_
 refine sr [] [1, 3, 72] [0] 1 [Pp 0, .sl false 3 (Mp e_T_api_Value r_3.1), .bool (r_3.2 != (0 : Int))] [Vb 33 (v_T_api_Packed p_1)] hmix an ?_
 refine cd 72 (r_3.2 != (0 : Int)) ?_ ?_
 ·intro g_3; replace h := cond_t g_3 h
  refine sr [] [2] [] 1 [.bool true] [] hmix an ?_
  refine rt ?_
  cases h
  exact ⟨.inr rfl, Nat.le_of_ble_eq_true rfl, by kernel_rfl⟩
 intro g_3; replace h := cond_f g_3 h
 refine sk ?_
 refine sq ?_
 obtain ⟨r_8, h_10, h⟩ := bind_some h
 refine rg [(3, { av := .tuple [e_T_api_Packed r_8.1, Ii r_8.2], l := [Ii p_1.Type_, .sl false 3 (Mp e_T_api_Value r_3.1)] }), (7, { id := 1 })] [1, 11, 12] [0, 1] 2 [Pp 0, Pp 1, Ii r_8.2] [Vb 33 (v_T_api_Packed p_1), Vb 33 (v_T_api_Packed r_8.1)] hmix (ar ([Ii p_1.Type_, .sl false 3 (Mp e_T_api_Value r_3.1)] : List AV) (ac (rfl : ([] : List BoxSt) = []) (ac (column_Encode_ok F p_1.Type_ r_3.1 r_8 h_10 : TripleG prog 12 [] [] [Ii p_1.Type_, .sl false 3 (Mp e_T_api_Value r_3.1)] [] (.tuple [e_T_api_Packed r_8.1, Ii r_8.2])) an))) ?_
 refine sq ?_
 refine aw_mid (mk [(2, .bool ((r_8.2 == (0 : Int)) && ((r_8.1.Type_ == p_1.Type_) && ((r_8.1.N == p_1.N) && (r_8.1.Bytes == p_1.Bytes)))))] [] 0) ?_ ?_
 ·rcases bft (r_8.2 == (0 : Int)) with gg_7 | gg_7
  ·rcases bft (r_8.1.Type_ == p_1.Type_) with gg_8 | gg_8
   ·rcases bft (r_8.1.N == p_1.N) with gg_9 | gg_9
    ·refine rg [(8, Ht), (15, Ht), (19, { s := r_8.1.Bytes }), (22, { s := p_1.Bytes }), (24, Ht)] [2] [] 2 [.bool (r_8.1.Bytes == p_1.Bytes)] [] hmix (ac gg_7 (ac gg_7 (ac gg_7 (ac gg_7 (ac gg_7 (ac gg_7 (ac gg_8 (ac gg_8 (ac gg_8 (ac gg_8 (ac gg_8 (ac gg_8 (ac gg_9 (ac gg_9 (ac gg_9 (ac (rfl : (Mb r_8.1.Bytes) = List.map (AV.int .u8) r_8.1.Bytes) (ac gg_9 (ac gg_9 (ac gg_9 (ac (rfl : (Mb p_1.Bytes) = List.map (AV.int .u8) p_1.Bytes) (ac gg_9 (ac gg_9 an)))))))))))))))))))))) ?_
     exact ⟨rfl, (sw [] [] [.a 2 (.bool ((r_8.2 == (0 : Int)) && ((r_8.1.Type_ == p_1.Type_) && ((r_8.1.N == p_1.N) && (r_8.1.Bytes == p_1.Bytes)))))] [] (ac (congrArg AV.bool (andt gg_7 (andt gg_8 (andt gg_9 rfl))) : (.bool (r_8.1.Bytes == p_1.Bytes) : AV) = .bool ((r_8.2 == (0 : Int)) && ((r_8.1.Type_ == p_1.Type_) && ((r_8.1.N == p_1.N) && (r_8.1.Bytes == p_1.Bytes))))) an))⟩
    ·refine rg [(8, Ht), (15, Ht), (17, Hg), (18, Hg), (19, Hg), (20, Hg), (21, Hg), (22, Hg), (23, Hg), (24, Hf)] [2] [] 2 [.bool false] [] hmix (ac gg_7 (ac gg_7 (ac gg_7 (ac gg_7 (ac gg_7 (ac gg_7 (ac gg_8 (ac gg_8 (ac gg_8 (ac gg_8 (ac gg_8 (ac gg_8 (ac gg_9 (ac gg_9 (ac gg_9 (ac gg_9 (ac gg_9 (ac gg_9 (ac gg_9 (ac gg_9 an)))))))))))))))))))) ?_
     exact ⟨rfl, (sw [] [] [.a 2 (.bool ((r_8.2 == (0 : Int)) && ((r_8.1.Type_ == p_1.Type_) && ((r_8.1.N == p_1.N) && (r_8.1.Bytes == p_1.Bytes)))))] [] (ac (congrArg AV.bool (andt gg_7 (andt gg_8 (andf gg_9))) : (.bool false : AV) = .bool ((r_8.2 == (0 : Int)) && ((r_8.1.Type_ == p_1.Type_) && ((r_8.1.N == p_1.N) && (r_8.1.Bytes == p_1.Bytes))))) an))⟩
   ·refine rg [(8, Ht), (10, Hg), (11, Hg), (12, Hg), (13, Hg), (14, Hg), (15, Hf), (17, Hg), (18, Hg), (19, Hg), (20, Hg), (21, Hg), (22, Hg), (23, Hg), (24, Hf)] [2] [] 2 [.bool false] [] hmix (ac gg_7 (ac gg_7 (ac gg_7 (ac gg_7 (ac gg_7 (ac gg_7 (ac gg_8 (ac gg_8 (ac gg_8 (ac gg_8 (ac gg_8 (ac gg_8 (ac (rfl : false = !true) (ac (rfl : false = !true) (ac (rfl : false = !true) (ac (rfl : false = !true) (ac (rfl : false = !true) (ac (rfl : false = !true) (ac (rfl : false = !true) (ar false an)))))))))))))))))))) ?_
    exact ⟨rfl, (sw [] [] [.a 2 (.bool ((r_8.2 == (0 : Int)) && ((r_8.1.Type_ == p_1.Type_) && ((r_8.1.N == p_1.N) && (r_8.1.Bytes == p_1.Bytes)))))] [] (ac (congrArg AV.bool (andt gg_7 (andf gg_8)) : (.bool false : AV) = .bool ((r_8.2 == (0 : Int)) && ((r_8.1.Type_ == p_1.Type_) && ((r_8.1.N == p_1.N) && (r_8.1.Bytes == p_1.Bytes))))) an))⟩
  ·refine rg [(3, Hg), (4, Hg), (5, Hg), (6, Hg), (7, Hg), (8, Hf), (10, Hg), (11, Hg), (12, Hg), (13, Hg), (14, Hg), (15, Hf), (17, Hg), (18, Hg), (19, Hg), (20, Hg), (21, Hg), (22, Hg), (23, Hg), (24, Hf)] [2] [] 2 [.bool false] [] hmix (ac gg_7 (ac gg_7 (ac gg_7 (ac gg_7 (ac gg_7 (ac gg_7 (ac (rfl : false = !true) (ac (rfl : false = !true) (ac (rfl : false = !true) (ac (rfl : false = !true) (ac (rfl : false = !true) (ar false (ac (rfl : false = !true) (ac (rfl : false = !true) (ac (rfl : false = !true) (ac (rfl : false = !true) (ac (rfl : false = !true) (ac (rfl : false = !true) (ac (rfl : false = !true) (ar false an)))))))))))))))))))) ?_
   exact ⟨rfl, (sw [] [] [.a 2 (.bool ((r_8.2 == (0 : Int)) && ((r_8.1.Type_ == p_1.Type_) && ((r_8.1.N == p_1.N) && (r_8.1.Bytes == p_1.Bytes)))))] [] (ac (congrArg AV.bool (andf gg_7) : (.bool false : AV) = .bool ((r_8.2 == (0 : Int)) && ((r_8.1.Type_ == p_1.Type_) && ((r_8.1.N == p_1.N) && (r_8.1.Bytes == p_1.Bytes))))) an))⟩
 refine rt ?_
 cases h
 exact ⟨.inr rfl, Nat.le_of_ble_eq_true rfl, by kernel_rfl⟩

end Go.Ab
