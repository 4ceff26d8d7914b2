/- Printed: the typed Lean functions of the Go functions, or the proofs that the Go functions meet them. No conditions but those that the theorems name. -/
import Derived.Test.YtefkcplneflhgaaP33x2
namespace Go.Ab
open Go
set_option linter.unusedVariables false
theorem L33_ColumnEncodes_ok (F : Nat) (k_1 : Int) (l_1 : List (T_api_Value)) (r : Bool) (h : L33_ColumnEncodes F k_1 l_1 = some r) : TripleG prog 4 [] [] [Ii k_1, .sl false 3 (Mp e_T_api_Value l_1)] [] (.bool r) := by
 refine triple_intro (fn := Go.Proofs.Try.f4) (code := codeOf Go.Proofs.Try.f4) (by kernel_rfl) (by kernel_rfl) (Nat.le_of_ble_eq_true (by kernel_rfl)) ?_
 unfold L33_ColumnEncodes at h
 refine sr [] [0, 1] [] 0 [Ii k_1, .sl false 3 (Mp e_T_api_Value l_1)] [] hmix an ?_
 refine sq ?_
 refine sq ?_
 obtain ⟨p_1, h_3, h⟩ := bind_some h
 refine aw_mid (mk [(0, Ii k_1), (1, .sl false 3 (Mp e_T_api_Value l_1)), (19, .bool p_1)] [] 0) ?_ ?_
 ·replace h := h_3
  obtain ⟨r_1, h_1, h⟩ := bind_some h
  rcases bft (!r_1) with gg_1 | gg_1
  ·replace h := cond_t gg_1 h
   refine rg [(0, { av := .bool r_1, l := [] }), (3, Hg), (4, Hg), (5, Hg), (6, Ht)] [0, 1, 19] [] 0 [Ii k_1, .sl false 3 (Mp e_T_api_Value l_1), .bool true] [] hmix (ar ([] : List AV) (ac (rfl : ([] : List BoxSt) = []) (ac (L33_awake_ok F r_1 h_1 : TripleG prog 10 [] [] [] [] (.bool r_1)) (ac gg_1 (ac gg_1 (ac gg_1 (ac gg_1 an))))))) ?_
   cases h
   exact ⟨rfl, (sw [] [] [.s 0, .s 1, .s 19] [] an)⟩
  ·replace h := cond_f gg_1 h
   obtain ⟨r_2, h_2, h⟩ := bind_some h
   refine rg [(0, { av := .bool r_1, l := [] }), (4, { av := .bool r_2, l := [.sl false 3 (Mp e_T_api_Value l_1)] }), (6, Hf)] [0, 1, 19] [] 0 [Ii k_1, .sl false 3 (Mp e_T_api_Value l_1), .bool (!r_2)] [] hmix (ar ([] : List AV) (ac (rfl : ([] : List BoxSt) = []) (ac (L33_awake_ok F r_1 h_1 : TripleG prog 10 [] [] [] [] (.bool r_1)) (ac gg_1 (ac gg_1 (ar ([.sl false 3 (Mp e_T_api_Value l_1)] : List AV) (ac (rfl : ([] : List BoxSt) = []) (ac (L33_few_ok F l_1 r_2 h_2 : TripleG prog 11 [] [] [.sl false 3 (Mp e_T_api_Value l_1)] [] (.bool r_2)) (ac gg_1 (ac gg_1 an)))))))))) ?_
   cases h
   exact ⟨rfl, (sw [] [] [.s 0, .s 1, .s 19] [] an)⟩
 refine cd 19 p_1 ?_ ?_
 ·intro g_1; replace h := cond_t g_1 h
  refine sq ?_
  obtain ⟨r_3, h_4, h⟩ := bind_some h
  refine rg [(0, { av := .bool r_3, l := [] })] [4] [] 0 [.bool r_3] [] hmix (ar ([] : List AV) (ac (rfl : ([] : List BoxSt) = []) (ac (L33_awake_ok F r_3 h_4 : TripleG prog 10 [] [] [] [] (.bool r_3)) an))) ?_
  refine rt ?_
  cases h
  exact ⟨.inr rfl, Nat.le_of_ble_eq_true rfl, by kernel_rfl⟩
 intro g_1; replace h := cond_f g_1 h
 refine sk ?_
 refine sq ?_
 obtain ⟨r_4, h_5, h⟩ := bind_some h
 refine rg [(2, { av := .tuple [e_T_api_Packed r_4.1, Ii r_4.2], l := [Ii k_1, .sl false 3 (Mp e_T_api_Value l_1)] }), (6, { id := 0 })] [0, 1, 5, 6] [0] 1 [Ii k_1, .sl false 3 (Mp e_T_api_Value l_1), Pp 0, Ii r_4.2] [Vb 33 (v_T_api_Packed r_4.1)] hmix (ar ([Ii k_1, .sl false 3 (Mp e_T_api_Value l_1)] : List AV) (ac (rfl : ([] : List BoxSt) = []) (ac (column_Encode_ok F k_1 l_1 r_4 h_5 : TripleG prog 12 [] [] [Ii k_1, .sl false 3 (Mp e_T_api_Value l_1)] [] (.tuple [e_T_api_Packed r_4.1, Ii r_4.2])) an))) ?_
 refine sq ?_
 obtain ⟨r_5, h_6, h⟩ := bind_some h
 refine rg [(2, { av := .tuple [e_T_api_Packed r_5.1, Ii r_5.2], l := [Ii k_1, .sl false 3 (Mp e_T_api_Value l_1)] }), (6, { id := 1 })] [1, 5, 6, 7, 8] [0, 1] 2 [.sl false 3 (Mp e_T_api_Value l_1), Pp 0, Ii r_4.2, Pp 1, Ii r_5.2] [Vb 33 (v_T_api_Packed r_4.1), Vb 33 (v_T_api_Packed r_5.1)] hmix (ar ([Ii k_1, .sl false 3 (Mp e_T_api_Value l_1)] : List AV) (ac (rfl : ([] : List BoxSt) = []) (ac (R33_Encode_ok F k_1 l_1 r_5 h_6 : TripleG prog 13 [] [] [Ii k_1, .sl false 3 (Mp e_T_api_Value l_1)] [] (.tuple [e_T_api_Packed r_5.1, Ii r_5.2])) an))) ?_
 refine sq ?_
 refine sq ?_
 refine aw_mid (mk [(1, .sl false 3 (Mp e_T_api_Value l_1)), (5, Pp 0), (6, Ii r_4.2), (58, .bool ((r_4.2 != r_5.2) || ((r_4.1.Type_ != r_5.1.Type_) || ((r_4.1.N != r_5.1.N) || !(r_4.1.Bytes == r_5.1.Bytes)))))] [(0, Vb 33 (v_T_api_Packed r_4.1))] 1) ?_ ?_
 ·rcases bft (r_4.2 != r_5.2) with gg_2 | gg_2
  ·refine rg [(4, Hg), (5, Hg), (6, Hg), (7, Hg), (8, Hg), (9, Ht), (11, Hg), (12, Hg), (13, Hg), (14, Hg), (15, Hg), (16, Ht), (18, Hg), (19, Hg), (20, Hg), (21, Hg), (22, Hg), (23, Hg), (24, Hg), (25, Ht)] [1, 5, 6, 58] [0] 2 [.sl false 3 (Mp e_T_api_Value l_1), Pp 0, Ii r_4.2, .bool true] [Vb 33 (v_T_api_Packed r_4.1)] hmix (ac gg_2 (ac gg_2 (ac gg_2 (ac gg_2 (ac gg_2 (ac gg_2 (ax (ax (ax (ax (ax (ar true (ax (ax (ax (ax (ax (ax (ax (ar true an)))))))))))))))))))) ?_
   exact ⟨rfl, (sw [0] [] [.s 1, .s 5, .s 6, .a 58 (.bool ((r_4.2 != r_5.2) || ((r_4.1.Type_ != r_5.1.Type_) || ((r_4.1.N != r_5.1.N) || !(r_4.1.Bytes == r_5.1.Bytes)))))] [.s 0] (ac (congrArg AV.bool (ort gg_2) : (.bool true : AV) = .bool ((r_4.2 != r_5.2) || ((r_4.1.Type_ != r_5.1.Type_) || ((r_4.1.N != r_5.1.N) || !(r_4.1.Bytes == r_5.1.Bytes))))) an))⟩
  ·rcases bft (r_4.1.Type_ != r_5.1.Type_) with gg_3 | gg_3
   ·refine rg [(9, Hf), (11, Hg), (12, Hg), (13, Hg), (14, Hg), (15, Hg), (16, Ht), (18, Hg), (19, Hg), (20, Hg), (21, Hg), (22, Hg), (23, Hg), (24, Hg), (25, Ht)] [1, 5, 6, 58] [0] 2 [.sl false 3 (Mp e_T_api_Value l_1), Pp 0, Ii r_4.2, .bool true] [Vb 33 (v_T_api_Packed r_4.1)] hmix (ac gg_2 (ac gg_2 (ac gg_2 (ac gg_2 (ac gg_2 (ac gg_2 (ac gg_3 (ac gg_3 (ac gg_3 (ac gg_3 (ac gg_3 (ac gg_3 (ax (ax (ax (ax (ax (ax (ax (ar true an)))))))))))))))))))) ?_
    exact ⟨rfl, (sw [0] [] [.s 1, .s 5, .s 6, .a 58 (.bool ((r_4.2 != r_5.2) || ((r_4.1.Type_ != r_5.1.Type_) || ((r_4.1.N != r_5.1.N) || !(r_4.1.Bytes == r_5.1.Bytes)))))] [.s 0] (ac (congrArg AV.bool (orf gg_2 (ort gg_3)) : (.bool true : AV) = .bool ((r_4.2 != r_5.2) || ((r_4.1.Type_ != r_5.1.Type_) || ((r_4.1.N != r_5.1.N) || !(r_4.1.Bytes == r_5.1.Bytes))))) an))⟩
   ·rcases bft (r_4.1.N != r_5.1.N) with gg_4 | gg_4
    ·refine rg [(9, Hf), (16, Hf), (18, Hg), (19, Hg), (20, Hg), (21, Hg), (22, Hg), (23, Hg), (24, Hg), (25, Ht)] [1, 5, 6, 58] [0] 2 [.sl false 3 (Mp e_T_api_Value l_1), Pp 0, Ii r_4.2, .bool true] [Vb 33 (v_T_api_Packed r_4.1)] hmix (ac gg_2 (ac gg_2 (ac gg_2 (ac gg_2 (ac gg_2 (ac gg_2 (ac gg_3 (ac gg_3 (ac gg_3 (ac gg_3 (ac gg_3 (ac gg_3 (ac gg_4 (ac gg_4 (ac gg_4 (ac gg_4 (ac gg_4 (ac gg_4 (ac gg_4 (ac gg_4 an)))))))))))))))))))) ?_
     exact ⟨rfl, (sw [0] [] [.s 1, .s 5, .s 6, .a 58 (.bool ((r_4.2 != r_5.2) || ((r_4.1.Type_ != r_5.1.Type_) || ((r_4.1.N != r_5.1.N) || !(r_4.1.Bytes == r_5.1.Bytes)))))] [.s 0] (ac (congrArg AV.bool (orf gg_2 (orf gg_3 (ort gg_4))) : (.bool true : AV) = .bool ((r_4.2 != r_5.2) || ((r_4.1.Type_ != r_5.1.Type_) || ((r_4.1.N != r_5.1.N) || !(r_4.1.Bytes == r_5.1.Bytes))))) an))⟩
    ·refine rg [(9, Hf), (16, Hf), (20, { s := r_4.1.Bytes }), (23, { s := r_5.1.Bytes }), (25, Hf)] [1, 5, 6, 58] [0] 2 [.sl false 3 (Mp e_T_api_Value l_1), Pp 0, Ii r_4.2, .bool (!(r_4.1.Bytes == r_5.1.Bytes))] [Vb 33 (v_T_api_Packed r_4.1)] hmix (ac gg_2 (ac gg_2 (ac gg_2 (ac gg_2 (ac gg_2 (ac gg_2 (ac gg_3 (ac gg_3 (ac gg_3 (ac gg_3 (ac gg_3 (ac gg_3 (ac gg_4 (ac gg_4 (ac gg_4 (ac (rfl : (Mb r_4.1.Bytes) = List.map (AV.int .u8) r_4.1.Bytes) (ac gg_4 (ac gg_4 (ac gg_4 (ac (rfl : (Mb r_5.1.Bytes) = List.map (AV.int .u8) r_5.1.Bytes) (ac gg_4 (ac gg_4 an)))))))))))))))))))))) ?_
     exact ⟨rfl, (sw [0] [] [.s 1, .s 5, .s 6, .a 58 (.bool ((r_4.2 != r_5.2) || ((r_4.1.Type_ != r_5.1.Type_) || ((r_4.1.N != r_5.1.N) || !(r_4.1.Bytes == r_5.1.Bytes)))))] [.s 0] (ac (congrArg AV.bool (orf gg_2 (orf gg_3 (orf gg_4 rfl))) : (.bool (!(r_4.1.Bytes == r_5.1.Bytes)) : AV) = .bool ((r_4.2 != r_5.2) || ((r_4.1.Type_ != r_5.1.Type_) || ((r_4.1.N != r_5.1.N) || !(r_4.1.Bytes == r_5.1.Bytes))))) an))⟩
 refine cd 58 ((r_4.2 != r_5.2) || ((r_4.1.Type_ != r_5.1.Type_) || ((r_4.1.N != r_5.1.N) || !(r_4.1.Bytes == r_5.1.Bytes)))) ?_ ?_
 ·intro g_2; replace h := cond_t g_2 h
  refine sr [] [4] [] 1 [.bool false] [] hmix an ?_
  refine rt ?_
  cases h
  exact ⟨.inr rfl, Nat.le_of_ble_eq_true rfl, by kernel_rfl⟩
 intro g_2; replace h := cond_f g_2 h
 refine sk ?_
 refine sq ?_
 refine sr [] [1, 5, 60] [0] 1 [.sl false 3 (Mp e_T_api_Value l_1), Pp 0, .bool (r_4.2 != (0 : Int))] [Vb 33 (v_T_api_Packed r_4.1)] hmix an ?_
 refine cd 60 (r_4.2 != (0 : Int)) ?_ ?_
 ·intro g_3; replace h := cond_t g_3 h
  refine sr [] [4] [] 1 [.bool true] [] hmix an ?_
  refine rt ?_
  cases h
  exact ⟨.inr rfl, Nat.le_of_ble_eq_true rfl, by kernel_rfl⟩
 intro g_3; replace h := cond_f g_3 h
 refine sk ?_
 refine sq ?_
 obtain ⟨r_6, h_7, h⟩ := bind_some h
 refine rg [(1, { av := .tuple [.sl false 3 (Mp e_T_api_Value r_6.1), Ii r_6.2], l := [e_T_api_Packed r_4.1] })] [1, 5, 9, 10] [0] 1 [.sl false 3 (Mp e_T_api_Value l_1), Pp 0, .sl false 3 (Mp e_T_api_Value r_6.1), Ii r_6.2] [Vb 33 (v_T_api_Packed r_4.1)] hmix (ar ([e_T_api_Packed r_4.1] : List AV) (ac (rfl : ([] : List BoxSt) = []) (ac (column_Decode_ok F r_4.1 r_6 h_7 : TripleG prog 14 [] [] [e_T_api_Packed r_4.1] [] (.tuple [.sl false 3 (Mp e_T_api_Value r_6.1), Ii r_6.2])) an))) ?_
 refine sq ?_
 obtain ⟨r_7, h_8, h⟩ := bind_some h
 refine rg [(1, { av := .tuple [Ii r_7.1, Ii r_7.2], l := [e_T_api_Packed r_4.1] })] [1, 5, 9, 10, 11, 12] [0] 1 [.sl false 3 (Mp e_T_api_Value l_1), Pp 0, .sl false 3 (Mp e_T_api_Value r_6.1), Ii r_6.2, Ii r_7.1, Ii r_7.2] [Vb 33 (v_T_api_Packed r_4.1)] hmix (ar ([e_T_api_Packed r_4.1] : List AV) (ac (rfl : ([] : List BoxSt) = []) (ac (column_Coding_ok F r_4.1 r_7 h_8 : TripleG prog 15 [] [] [e_T_api_Packed r_4.1] [] (.tuple [Ii r_7.1, Ii r_7.2])) an))) ?_
 refine sq ?_
 obtain ⟨p_2, h_11, h⟩ := bind_some h
 refine aw_mid (mk [(4, .bool p_2)] [] 0) ?_ ?_
 ·replace h := h_11
  rcases bft (r_6.2 == (0 : Int)) with gg_5 | gg_5
  ·replace h := cond_t gg_5 h
   rcases bft (r_7.2 == (0 : Int)) with gg_6 | gg_6
   ·replace h := cond_t gg_6 h
    obtain ⟨r_8, h_9, h⟩ := bind_some h
    rcases Bool.eq_false_or_eq_true r_8 with gg_7 | gg_7
    ·replace h := cond_t gg_7 h
     obtain ⟨x_1, h_10, h⟩ := bind_some h
     refine rg [(5, Ht), (9, { av := .bool r_8, l := [.sl false 3 (Mp e_T_api_Value r_6.1), .sl false 3 (Mp e_T_api_Value l_1)] }), (10, Ht), (15, { av := Iu x_1 }), (19, Ht)] [4] [] 1 [.bool (r_7.1 == (w_i64 x_1))] [] hmix (ac gg_5 (ac gg_5 (ac gg_5 (ac gg_6 (ac gg_6 (ac gg_6 (ar ([.sl false 3 (Mp e_T_api_Value r_6.1), .sl false 3 (Mp e_T_api_Value l_1)] : List AV) (ac (rfl : ([] : List BoxSt) = []) (ac (R33_Same_ok F r_6.1 l_1 r_8 h_9 : TripleG prog 16 [] [] [.sl false 3 (Mp e_T_api_Value r_6.1), .sl false 3 (Mp e_T_api_Value l_1)] [] (.bool r_8)) (ac gg_6 (ac gg_7 (ac gg_7 (ac gg_7 (ac gg_7 (ac (vc_idx h_10 : idxA (Mb r_4.1.Bytes) (0 : Int) = some (Iu x_1)) (ac gg_7 (ac gg_7 (ac gg_7 (ac gg_7 an))))))))))))))))))) ?_
     cases h
     exact ⟨rfl, (sw [] [] [.s 4] [] an)⟩
    ·replace h := cond_f gg_7 h
     refine rg [(5, Ht), (9, { av := .bool r_8, l := [.sl false 3 (Mp e_T_api_Value r_6.1), .sl false 3 (Mp e_T_api_Value l_1)] }), (10, Ht), (12, Hg), (13, Hg), (14, Hg), (15, Hg), (16, Hg), (17, Hg), (18, Hg), (19, Hf)] [4] [] 1 [.bool false] [] hmix (ac gg_5 (ac gg_5 (ac gg_5 (ac gg_6 (ac gg_6 (ac gg_6 (ar ([.sl false 3 (Mp e_T_api_Value r_6.1), .sl false 3 (Mp e_T_api_Value l_1)] : List AV) (ac (rfl : ([] : List BoxSt) = []) (ac (R33_Same_ok F r_6.1 l_1 r_8 h_9 : TripleG prog 16 [] [] [.sl false 3 (Mp e_T_api_Value r_6.1), .sl false 3 (Mp e_T_api_Value l_1)] [] (.bool r_8)) (ac gg_6 (ac gg_7 (ac gg_7 (ac gg_7 (ac gg_7 (ac gg_7 (ac gg_7 (ac gg_7 (ac gg_7 an)))))))))))))))))) ?_
     cases h
     exact ⟨rfl, (sw [] [] [.s 4] [] an)⟩
   ·replace h := cond_f gg_6 h
    refine rg [(5, Ht), (7, Hg), (8, Hg), (9, Hg), (10, Hf), (12, Hg), (13, Hg), (14, Hg), (15, Hg), (16, Hg), (17, Hg), (18, Hg), (19, Hf)] [4] [] 1 [.bool false] [] hmix (ac gg_5 (ac gg_5 (ac gg_5 (ac gg_6 (ac gg_6 (ac gg_6 (ac gg_6 (ac (rfl : false = !true) (ac (rfl : false = !true) (ac (rfl : false = !true) (ac (rfl : false = !true) (ac (rfl : false = !true) (ac (rfl : false = !true) (ac (rfl : false = !true) (ar false an))))))))))))))) ?_
    cases h
    exact ⟨rfl, (sw [] [] [.s 4] [] an)⟩
  ·replace h := cond_f gg_5 h
   refine rg [(3, Hg), (4, Hg), (5, Hf), (7, Hg), (8, Hg), (9, Hg), (10, Hf), (12, Hg), (13, Hg), (14, Hg), (15, Hg), (16, Hg), (17, Hg), (18, Hg), (19, Hf)] [4] [] 1 [.bool false] [] hmix (ac gg_5 (ac gg_5 (ac gg_5 (ac (rfl : false = !true) (ac (rfl : false = !true) (ac (rfl : false = !true) (ar false (ac (rfl : false = !true) (ac (rfl : false = !true) (ac (rfl : false = !true) (ac (rfl : false = !true) (ac (rfl : false = !true) (ac (rfl : false = !true) (ac (rfl : false = !true) (ar false an))))))))))))))) ?_
   cases h
   exact ⟨rfl, (sw [] [] [.s 4] [] an)⟩
 refine rt ?_
 cases h
 exact ⟨.inr rfl, Nat.le_of_ble_eq_true rfl, by kernel_rfl⟩

end Go.Ab
