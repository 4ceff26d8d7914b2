/- Printed: the typed Lean functions of the Go functions, or the proofs that the Go functions meet them. No conditions but those that the theorems name. -/
import Derived.Test.YtefkcplneflhgaaP33x2
namespace Go.Ab
open Go
set_option linter.unusedVariables false
theorem L33_ColumnRepeats_ok (F : Nat) (k_1 : Int) (a_1 : T_api_Value) (n_1 : Int) (r : Bool) (h : L33_ColumnRepeats F k_1 a_1 n_1 = some r) : TripleG prog 7 [] [] [Ii k_1, e_T_api_Value a_1, .int .u16 n_1] [] (.bool r) := by
 refine triple_intro (fn := Go.Proofs.Try.f7) (code := codeOf Go.Proofs.Try.f7) (by kernel_rfl) (by kernel_rfl) (Nat.le_of_ble_eq_true (by kernel_rfl)) ?_
 unfold L33_ColumnRepeats at h
 refine sr [(0, { id := 0 })] [0, 2, 4] [0] 1 [Ii k_1, .int .u16 n_1, Pp 0] [Vb 24 (v_T_api_Value a_1)] hmix an ?_
 refine sq ?_
 refine sq ?_
 obtain ⟨p_1, h_3, h⟩ := bind_some h
 refine aw_mid (mk [(0, Ii k_1), (2, .int .u16 n_1), (4, Pp 0), (29, .bool p_1)] [(0, Vb 24 (v_T_api_Value a_1))] 1) ?_ ?_
 ·replace h := h_3
  obtain ⟨r_1, h_1, h⟩ := bind_some h
  rcases bft (!r_1) with gg_1 | gg_1
  ·replace h := cond_t gg_1 h
   refine rg [(0, { av := .bool r_1, l := [] }), (3, Hg), (4, Hg), (5, Hg), (6, Hg), (7, Ht), (9, Hg), (10, Hg), (11, Hg), (12, Hg), (13, Ht)] [0, 2, 4, 29] [0] 1 [Ii k_1, .int .u16 n_1, Pp 0, .bool true] [Vb 24 (v_T_api_Value a_1)] hmix (ar ([] : List AV) (ac (rfl : ([] : List BoxSt) = []) (ac (L33_awake_ok F r_1 h_1 : TripleG prog 10 [] [] [] [] (.bool r_1)) (ac gg_1 (ac gg_1 (ac gg_1 (ac gg_1 (ac gg_1 (ax (ax (ax (ax (ar true an))))))))))))) ?_
   cases h
   exact ⟨rfl, (sw [0] [] [.s 0, .s 2, .s 4, .s 29] [.s 0] an)⟩
  ·replace h := cond_f gg_1 h
   rcases bft (decide ((lN (a_1.S)) > (300 : Int))) with gg_2 | gg_2
   ·replace h := cond_t gg_2 h
    refine rg [(0, { av := .bool r_1, l := [] }), (7, Hf), (9, Hg), (10, Hg), (11, Hg), (12, Hg), (13, Ht)] [0, 2, 4, 29] [0] 1 [Ii k_1, .int .u16 n_1, Pp 0, .bool true] [Vb 24 (v_T_api_Value a_1)] hmix (ar ([] : List AV) (ac (rfl : ([] : List BoxSt) = []) (ac (L33_awake_ok F r_1 h_1 : TripleG prog 10 [] [] [] [] (.bool r_1)) (ac gg_1 (ac gg_1 (ac gg_1 (ac gg_1 (ac gg_1 (ac gg_2 (ac gg_2 (ac gg_2 (ac gg_2 (ac gg_2 an))))))))))))) ?_
    cases h
    exact ⟨rfl, (sw [0] [] [.s 0, .s 2, .s 4, .s 29] [.s 0] an)⟩
   ·replace h := cond_f gg_2 h
    obtain ⟨r_2, h_2, h⟩ := bind_some h
    refine rg [(0, { av := .bool r_1, l := [] }), (7, Hf), (11, { av := Ii r_2, l := [Ii k_1, e_T_api_Value a_1] }), (13, Hf)] [0, 2, 4, 29] [0] 1 [Ii k_1, .int .u16 n_1, Pp 0, .bool (r_2 != (0 : Int))] [Vb 24 (v_T_api_Value a_1)] hmix (ar ([] : List AV) (ac (rfl : ([] : List BoxSt) = []) (ac (L33_awake_ok F r_1 h_1 : TripleG prog 10 [] [] [] [] (.bool r_1)) (ac gg_1 (ac gg_1 (ac gg_1 (ac gg_1 (ac gg_1 (ac gg_2 (ac gg_2 (ac gg_2 (ar ([Ii k_1, e_T_api_Value a_1] : List AV) (ac (rfl : ([] : List BoxSt) = []) (ac (column_Value_ok k_1 a_1 r_2 h_2 : TripleG prog 8 [] [] [Ii k_1, e_T_api_Value a_1] [] (Ii r_2)) (ac gg_2 (ac gg_2 an)))))))))))))))) ?_
    cases h
    exact ⟨rfl, (sw [0] [] [.s 0, .s 2, .s 4, .s 29] [.s 0] an)⟩
 refine cd 29 p_1 ?_ ?_
 ·intro g_1; replace h := cond_t g_1 h
  refine sq ?_
  obtain ⟨r_3, h_4, h⟩ := bind_some h
  refine rg [(0, { av := .bool r_3, l := [] })] [6] [] 1 [.bool r_3] [] hmix (ar ([] : List AV) (ac (rfl : ([] : List BoxSt) = []) (ac (L33_awake_ok F r_3 h_4 : TripleG prog 10 [] [] [] [] (.bool r_3)) an))) ?_
  refine rt ?_
  cases h
  exact ⟨.inr rfl, Nat.le_of_ble_eq_true rfl, by kernel_rfl⟩
 intro g_1; replace h := cond_f g_1 h
 refine sk ?_
 refine sq ?_
 obtain ⟨r_4, h_5, h⟩ := bind_some h
 refine rg [(4, { id := 1 }), (5, { av := .tuple [e_T_api_Packed r_4.1, Ii r_4.2], frz := [1], l := [Ii k_1, .sl false 3 (Mp e_T_api_Value ([a_1, (⟨(0 : Int), (0 : Int), ([] : List Int)⟩ : T_api_Value), a_1] : List T_api_Value))] }), (9, { id := 2 })] [0, 2, 4, 7, 8] [0, 2] 3 [Ii k_1, .int .u16 n_1, Pp 0, Pp 2, Ii r_4.2] [Vb 24 (v_T_api_Value a_1), Vb 33 (v_T_api_Packed r_4.1)] hmix (ac (by first | (simp; done) | (simp; omega) : 3 = ((List.map e_T_api_Value ([a_1, (⟨(0 : Int), (0 : Int), ([] : List Int)⟩ : T_api_Value), a_1] : List T_api_Value))).length) (ar ([Ii k_1, .sl false 3 (Mp e_T_api_Value ([a_1, (⟨(0 : Int), (0 : Int), ([] : List Int)⟩ : T_api_Value), a_1] : List T_api_Value))] : List AV) (ac (rfl : ([] : List BoxSt) = []) (ac (column_Encode_ok F k_1 ([a_1, (⟨(0 : Int), (0 : Int), ([] : List Int)⟩ : T_api_Value), a_1] : List T_api_Value) r_4 h_5 : TripleG prog 12 [] [] [Ii k_1, .sl false 3 (Mp e_T_api_Value ([a_1, (⟨(0 : Int), (0 : Int), ([] : List Int)⟩ : T_api_Value), a_1] : List T_api_Value))] [] (.tuple [e_T_api_Packed r_4.1, Ii r_4.2])) an)))) ?_
 refine sr [(0, { id := 3, m := 1 })] [0, 2, 4, 7, 8, 9] [0, 2, 3] 4 [Ii k_1, .int .u16 n_1, Pp 0, Pp 2, Ii r_4.2, .own 3 0] [Vb 24 (v_T_api_Value a_1), Vb 33 (v_T_api_Packed r_4.1), Rb 24 3 []] hmix an ?_
 refine sq ?_
 refine sr [] [0, 2, 4, 7, 8, 9, 10] [0, 2, 3] 4 [Ii k_1, .int .u16 n_1, Pp 0, Pp 2, Ii r_4.2, .own 3 0, Ii 0] [Vb 24 (v_T_api_Value a_1), Vb 33 (v_T_api_Packed r_4.1), Rb 24 3 []] hmix an ?_
 obtain ⟨o_1, h_6, h⟩ := bind_some h
 refine aw_mid (mk [(0, Ii k_1), (4, Pp 0), (7, Pp 1), (8, Ii r_4.2), (9, .own 2 ((o_1).length))] [(0, Vb 24 (v_T_api_Value a_1)), (1, Vb 33 (v_T_api_Packed r_4.1)), (2, Rb 24 3 (Mp e_T_api_Value o_1))] 3) ?_ ?_
 ·replace h := h_6
  refine aw_block (id := 0) (by kernel_rfl) ?_
  refine wk [0, 2, 3] [] [.s 0, .s 2, .s 4, .s 7, .s 8, .s 9, .s 10] [.s 0, .s 1, .s 2] [(0, Ii k_1), (2, .int .u16 n_1), (4, Pp 0), (7, Pp 1), (8, Ii r_4.2), (9, .own 2 0), (10, Ii 0)] [(0, Vb 24 (v_T_api_Value a_1)), (1, Vb 33 (v_T_api_Packed r_4.1)), (2, Rb 24 3 [])] an ?_
  refine aw_loopF (fun n st => ∃ (i_1 : Int), ∃ (row_1 : List T_api_Value), st = mk [(0, Ii k_1), (2, .int .u16 n_1), (4, Pp 0), (7, Pp 1), (8, Ii r_4.2), (9, .own 2 ((row_1).length)), (10, Ii i_1)] [(0, Vb 24 (v_T_api_Value a_1)), (1, Vb 33 (v_T_api_Packed r_4.1)), (2, Rb 24 3 (Mp e_T_api_Value row_1))] 3 ∧ L33_ColumnRepeats_L1 F a_1 n_1 n i_1 row_1 = some o_1) F (by kernel_rfl) ⟨_, _, rfl, h⟩ ?_ ?_
  ·rintro _ ⟨_, _, _, h⟩; exact none_ne (h : (none : Option (List T_api_Value)) = some o_1)
  rintro n_2 _ ⟨i_1, row_1, rfl, h⟩
  replace h : L33_ColumnRepeats_L1_body F a_1 n_1 (L33_ColumnRepeats_L1 F a_1 n_1 n_2) i_1 row_1 = some o_1 := h
  unfold L33_ColumnRepeats_L1_body at h
  refine sq ?_
  refine sr [] [0, 2, 4, 7, 8, 9, 10, 44] [0, 1, 2] 3 [Ii k_1, .int .u16 n_1, Pp 0, Pp 1, Ii r_4.2, .own 2 ((row_1).length), Ii i_1, .bool (decide (i_1 < (irem (w_i64 n_1) (5000 : Int))))] [Vb 24 (v_T_api_Value a_1), Vb 33 (v_T_api_Packed r_4.1), Rb 24 3 (Mp e_T_api_Value row_1)] hmix (ac (by decide : (5000 : Int) ≠ (0 : Int)) an) ?_
  refine cd 44 (decide (i_1 < (irem (w_i64 n_1) (5000 : Int)))) ?_ ?_
  rotate_left
  ·intro g_2; replace h := cond_f g_2 h
   refine aw_exit (id := 0) (by kernel_rfl) ?_
   cases h
   exact ⟨rfl, (sw [0, 1, 2] [] [.s 0, .s 4, .s 7, .s 8, .s 9] [.s 0, .s 1, .s 2] an)⟩
  intro g_2; replace h := cond_t g_2 h
  refine sk ?_
  refine sq ?_
  refine aw_block (id := 1) (by kernel_rfl) ?_
  obtain ⟨_, h_7, h⟩ := bind_some h; replace h_7 := need_some h_7
  refine rg [(2, { id := 3 }), (3, { id := 4, l := (Mp e_T_api_Value (row_1 ++ ([a_1] : List T_api_Value))), n := ((row_1 ++ ([a_1] : List T_api_Value))).length })] [0, 2, 4, 7, 8, 9, 10] [0, 1, 4] 5 [Ii k_1, .int .u16 n_1, Pp 0, Pp 1, Ii r_4.2, .own 4 (((row_1 ++ ([a_1] : List T_api_Value))).length), Ii i_1] [Vb 24 (v_T_api_Value a_1), Vb 33 (v_T_api_Packed r_4.1), Rb 24 3 (Mp e_T_api_Value (row_1 ++ ([a_1] : List T_api_Value)))] hmix (ac (by first | (simp; done) | (simp; omega) : (row_1).length = ((List.map e_T_api_Value row_1)).length) (ac (by first | (simp; done) | (simp; omega) : 1 = ((List.map e_T_api_Value ([a_1] : List T_api_Value))).length) (ac (vc_app _ _ : (Mp e_T_api_Value (row_1 ++ ([a_1] : List T_api_Value))) = (Mp e_T_api_Value row_1) ++ (Mp e_T_api_Value ([a_1] : List T_api_Value))) (ac (by simp : ((row_1 ++ ([a_1] : List T_api_Value))).length = ((List.map e_T_api_Value (row_1 ++ ([a_1] : List T_api_Value)))).length) (ac (by first | (simp; done) | simpa using h_7 : (((List.map e_T_api_Value row_1) : List AV).length + ((List.map e_T_api_Value ([a_1] : List T_api_Value)) : List AV).length) * 32 ≤ 140737488355328) an))))) ?_
  refine rg [] [0, 2, 4, 7, 8, 9, 10] [0, 1, 4] 5 [Ii k_1, .int .u16 n_1, Pp 0, Pp 1, Ii r_4.2, .own 4 (((row_1 ++ ([a_1] : List T_api_Value))).length), Ii (w_i64 (i_1 + (1 : Int)))] [Vb 24 (v_T_api_Value a_1), Vb 33 (v_T_api_Packed r_4.1), Rb 24 3 (Mp e_T_api_Value (row_1 ++ ([a_1] : List T_api_Value)))] hmix an ?_
  exact ⟨_, (sw [0, 1, 4] [] [.s 0, .s 2, .s 4, .s 7, .s 8, .s 9, .s 10] [.s 0, .s 1, .s 2] an), _, _, rfl, h⟩
 refine sq ?_
 refine wk [0, 1] [2] [.s 0, .s 4, .s 7, .s 8, .a 9 (.sl false 3 (Mp e_T_api_Value o_1))] [.s 0, .s 1] [(0, Ii k_1), (4, Pp 0), (7, Pp 1), (8, Ii r_4.2), (9, .sl false 3 (Mp e_T_api_Value o_1))] [(0, Vb 24 (v_T_api_Value a_1)), (1, Vb 33 (v_T_api_Packed r_4.1))] (ac (by first | (simp; done) | (simp; omega) : (o_1).length = ((List.map e_T_api_Value o_1)).length) (ar 3 (ar ((Mp e_T_api_Value o_1) : List AV) (ac (rfl : (!false || false) = true) an)))) ?_
 obtain ⟨r_5, h_8, h⟩ := bind_some h
 refine rg [(2, { av := .tuple [e_T_api_Packed r_5.1, Ii r_5.2], l := [Ii k_1, .sl false 3 (Mp e_T_api_Value o_1)] }), (6, { id := 2 })] [4, 7, 8, 9, 11, 12] [0, 1, 2] 3 [Pp 0, Pp 1, Ii r_4.2, .sl false 3 (Mp e_T_api_Value o_1), Pp 2, Ii r_5.2] [Vb 24 (v_T_api_Value a_1), Vb 33 (v_T_api_Packed r_4.1), Vb 33 (v_T_api_Packed r_5.1)] hmix (ar ([Ii k_1, .sl false 3 (Mp e_T_api_Value o_1)] : List AV) (ac (rfl : ([] : List BoxSt) = []) (ac (column_Encode_ok F k_1 o_1 r_5 h_8 : TripleG prog 12 [] [] [Ii k_1, .sl false 3 (Mp e_T_api_Value o_1)] [] (.tuple [e_T_api_Packed r_5.1, Ii r_5.2])) an))) ?_
 refine sq ?_
 refine sq ?_
 refine aw_mid (mk [(4, Pp 0), (7, Pp 1), (8, Ii r_4.2), (9, .sl false 3 (Mp e_T_api_Value o_1)), (11, Pp 2), (12, Ii r_5.2), (62, .bool ((r_4.2 == (1 : Int)) && (r_5.2 == (1 : Int))))] [(0, Vb 24 (v_T_api_Value a_1)), (1, Vb 33 (v_T_api_Packed r_4.1)), (2, Vb 33 (v_T_api_Packed r_5.1))] 3) ?_ ?_
 ·rcases bft (r_4.2 == (1 : Int)) with gg_3 | gg_3
  ·refine rg [(5, Ht)] [4, 7, 8, 9, 11, 12, 62] [0, 1, 2] 3 [Pp 0, Pp 1, Ii r_4.2, .sl false 3 (Mp e_T_api_Value o_1), Pp 2, Ii r_5.2, .bool (r_5.2 == (1 : Int))] [Vb 24 (v_T_api_Value a_1), Vb 33 (v_T_api_Packed r_4.1), Vb 33 (v_T_api_Packed r_5.1)] hmix (ac gg_3 (ac gg_3 (ac gg_3 an))) ?_
   exact ⟨rfl, (sw [0, 1, 2] [] [.s 4, .s 7, .s 8, .s 9, .s 11, .s 12, .a 62 (.bool ((r_4.2 == (1 : Int)) && (r_5.2 == (1 : Int))))] [.s 0, .s 1, .s 2] (ac (congrArg AV.bool (andt gg_3 rfl) : (.bool (r_5.2 == (1 : Int)) : AV) = .bool ((r_4.2 == (1 : Int)) && (r_5.2 == (1 : Int)))) an))⟩
  ·refine rg [(3, Hg), (4, Hg), (5, Hf)] [4, 7, 8, 9, 11, 12, 62] [0, 1, 2] 3 [Pp 0, Pp 1, Ii r_4.2, .sl false 3 (Mp e_T_api_Value o_1), Pp 2, Ii r_5.2, .bool false] [Vb 24 (v_T_api_Value a_1), Vb 33 (v_T_api_Packed r_4.1), Vb 33 (v_T_api_Packed r_5.1)] hmix (ac gg_3 (ac gg_3 (ac gg_3 an))) ?_
   exact ⟨rfl, (sw [0, 1, 2] [] [.s 4, .s 7, .s 8, .s 9, .s 11, .s 12, .a 62 (.bool ((r_4.2 == (1 : Int)) && (r_5.2 == (1 : Int))))] [.s 0, .s 1, .s 2] (ac (congrArg AV.bool (andf gg_3) : (.bool false : AV) = .bool ((r_4.2 == (1 : Int)) && (r_5.2 == (1 : Int)))) an))⟩
 refine cd 62 ((r_4.2 == (1 : Int)) && (r_5.2 == (1 : Int))) ?_ ?_
 ·intro g_3; replace h := cond_t g_3 h
  refine sr [] [6] [] 3 [.bool true] [] hmix an ?_
  refine rt ?_
  cases h
  exact ⟨.inr rfl, Nat.le_of_ble_eq_true rfl, by kernel_rfl⟩
 intro g_3; replace h := cond_f g_3 h
 refine sk ?_
 refine sr [] [4, 7, 8, 9, 11, 12, 13] [0, 1, 2] 3 [Pp 0, Pp 1, Ii r_4.2, .sl false 3 (Mp e_T_api_Value o_1), Pp 2, Ii r_5.2, Ii 5] [Vb 24 (v_T_api_Value a_1), Vb 33 (v_T_api_Packed r_4.1), Vb 33 (v_T_api_Packed r_5.1)] hmix an ?_
 refine sq ?_
 refine sr [] [4, 7, 8, 9, 11, 12, 13, 65] [0, 1, 2] 3 [Pp 0, Pp 1, Ii r_4.2, .sl false 3 (Mp e_T_api_Value o_1), Pp 2, Ii r_5.2, Ii 5, .bool (a_1.Kind == (3 : Int))] [Vb 24 (v_T_api_Value a_1), Vb 33 (v_T_api_Packed r_4.1), Vb 33 (v_T_api_Packed r_5.1)] hmix an ?_
 obtain ⟨o_2, h_9, h⟩ := bind_some h
 refine aw_mid (mk [(4, Pp 0), (7, Pp 1), (8, Ii r_4.2), (9, .sl false 3 (Mp e_T_api_Value o_1)), (11, Pp 2), (12, Ii r_5.2), (13, Ii o_2)] [(0, Vb 24 (v_T_api_Value a_1)), (1, Vb 33 (v_T_api_Packed r_4.1)), (2, Vb 33 (v_T_api_Packed r_5.1))] 3) ?_ ?_
 ·replace h := h_9
  refine cd 65 (a_1.Kind == (3 : Int)) ?_ ?_
  ·intro g_4; replace h := cond_t g_4 h
   refine rg [] [4, 7, 8, 9, 11, 12, 13] [0, 1, 2] 3 [Pp 0, Pp 1, Ii r_4.2, .sl false 3 (Mp e_T_api_Value o_1), Pp 2, Ii r_5.2, Ii (w_i64 ((w_i64 ((5 : Int) + (2 : Int))) + (lN (a_1.S))))] [Vb 24 (v_T_api_Value a_1), Vb 33 (v_T_api_Packed r_4.1), Vb 33 (v_T_api_Packed r_5.1)] hmix an ?_
   cases h
   exact ⟨rfl, (sw [0, 1, 2] [] [.s 4, .s 7, .s 8, .s 9, .s 11, .s 12, .s 13] [.s 0, .s 1, .s 2] an)⟩
  intro g_4; replace h := cond_f g_4 h
  refine sk ?_
  cases h
  exact ⟨rfl, (sw [0, 1, 2] [] [.s 4, .s 7, .s 8, .s 9, .s 11, .s 12, .s 13] [.s 0, .s 1, .s 2] an)⟩
 refine sq ?_
 refine sq ?_
 refine aw_mid (mk [(7, Pp 0), (8, Ii r_4.2), (9, .sl false 3 (Mp e_T_api_Value o_1)), (11, Pp 1), (12, Ii r_5.2), (13, Ii o_2), (79, .bool ((a_1.Kind == (1 : Int)) || (a_1.Kind == (2 : Int))))] [(0, Vb 33 (v_T_api_Packed r_4.1)), (1, Vb 33 (v_T_api_Packed r_5.1))] 2) ?_ ?_
 ·rcases bft (a_1.Kind == (1 : Int)) with gg_4 | gg_4
  ·refine rg [(4, Hg), (5, Hg), (6, Hg), (7, Ht)] [7, 8, 9, 11, 12, 13, 79] [1, 2] 3 [Pp 1, Ii r_4.2, .sl false 3 (Mp e_T_api_Value o_1), Pp 2, Ii r_5.2, Ii o_2, .bool true] [Vb 33 (v_T_api_Packed r_4.1), Vb 33 (v_T_api_Packed r_5.1)] hmix (ac gg_4 (ac gg_4 (ac gg_4 (ac gg_4 an)))) ?_
   exact ⟨rfl, (sw [1, 2] [] [.s 7, .s 8, .s 9, .s 11, .s 12, .s 13, .a 79 (.bool ((a_1.Kind == (1 : Int)) || (a_1.Kind == (2 : Int))))] [.s 0, .s 1] (ac (congrArg AV.bool (ort gg_4) : (.bool true : AV) = .bool ((a_1.Kind == (1 : Int)) || (a_1.Kind == (2 : Int)))) an))⟩
  ·refine rg [(7, Hf)] [7, 8, 9, 11, 12, 13, 79] [1, 2] 3 [Pp 1, Ii r_4.2, .sl false 3 (Mp e_T_api_Value o_1), Pp 2, Ii r_5.2, Ii o_2, .bool (a_1.Kind == (2 : Int))] [Vb 33 (v_T_api_Packed r_4.1), Vb 33 (v_T_api_Packed r_5.1)] hmix (ac gg_4 (ac gg_4 (ac gg_4 (ac gg_4 an)))) ?_
   exact ⟨rfl, (sw [1, 2] [] [.s 7, .s 8, .s 9, .s 11, .s 12, .s 13, .a 79 (.bool ((a_1.Kind == (1 : Int)) || (a_1.Kind == (2 : Int))))] [.s 0, .s 1] (ac (congrArg AV.bool (orf gg_4 rfl) : (.bool (a_1.Kind == (2 : Int)) : AV) = .bool ((a_1.Kind == (1 : Int)) || (a_1.Kind == (2 : Int)))) an))⟩
 obtain ⟨o_3, h_10, h⟩ := bind_some h
 refine aw_mid (mk [(7, Pp 0), (8, Ii r_4.2), (9, .sl false 3 (Mp e_T_api_Value o_1)), (11, Pp 1), (12, Ii r_5.2), (13, Ii o_3)] [(0, Vb 33 (v_T_api_Packed r_4.1)), (1, Vb 33 (v_T_api_Packed r_5.1))] 2) ?_ ?_
 ·replace h := h_10
  refine cd 79 ((a_1.Kind == (1 : Int)) || (a_1.Kind == (2 : Int))) ?_ ?_
  ·intro g_5; replace h := cond_t g_5 h
   refine rg [] [7, 8, 9, 11, 12, 13] [0, 1] 2 [Pp 0, Ii r_4.2, .sl false 3 (Mp e_T_api_Value o_1), Pp 1, Ii r_5.2, Ii (w_i64 (o_2 + (10 : Int)))] [Vb 33 (v_T_api_Packed r_4.1), Vb 33 (v_T_api_Packed r_5.1)] hmix an ?_
   cases h
   exact ⟨rfl, (sw [0, 1] [] [.s 7, .s 8, .s 9, .s 11, .s 12, .s 13] [.s 0, .s 1] an)⟩
  intro g_5; replace h := cond_f g_5 h
  refine sk ?_
  cases h
  exact ⟨rfl, (sw [0, 1] [] [.s 7, .s 8, .s 9, .s 11, .s 12, .s 13] [.s 0, .s 1] an)⟩
 refine sq ?_
 obtain ⟨r_6, h_11, h⟩ := bind_some h
 refine rg [(1, { av := .tuple [.sl false 3 (Mp e_T_api_Value r_6.1), Ii r_6.2], l := [e_T_api_Packed r_5.1] })] [7, 8, 9, 11, 12, 13, 14, 15] [0, 1] 2 [Pp 0, Ii r_4.2, .sl false 3 (Mp e_T_api_Value o_1), Pp 1, Ii r_5.2, Ii o_3, .sl false 3 (Mp e_T_api_Value r_6.1), Ii r_6.2] [Vb 33 (v_T_api_Packed r_4.1), Vb 33 (v_T_api_Packed r_5.1)] hmix (ar ([e_T_api_Packed r_5.1] : List AV) (ac (rfl : ([] : List BoxSt) = []) (ac (column_Decode_ok F r_5.1 r_6 h_11 : TripleG prog 14 [] [] [e_T_api_Packed r_5.1] [] (.tuple [.sl false 3 (Mp e_T_api_Value r_6.1), Ii r_6.2])) an))) ?_
 refine sq ?_
 refine aw_mid (mk [(6, .bool ((r_4.2 == (0 : Int)) && ((r_5.2 == (0 : Int)) && (decide ((lN (r_4.1.Bytes)) > (0 : Int)) && (decide ((lN (r_5.1.Bytes)) ≤ o_3) && ((r_6.2 == (0 : Int)) && ((lN (r_6.1)) == (lN (o_1)))))))))] [] 0) ?_ ?_
 ·rcases bft (r_4.2 == (0 : Int)) with gg_5 | gg_5
  ·rcases bft (r_5.2 == (0 : Int)) with gg_6 | gg_6
   ·rcases bft (decide ((lN (r_4.1.Bytes)) > (0 : Int))) with gg_7 | gg_7
    ·rcases bft (decide ((lN (r_5.1.Bytes)) ≤ o_3)) with gg_8 | gg_8
     ·rcases bft (r_6.2 == (0 : Int)) with gg_9 | gg_9
      ·refine rg [(5, Ht), (9, { n := (r_4.1.Bytes).length }), (11, Ht), (15, { n := (r_5.1.Bytes).length }), (18, Ht), (22, Ht), (25, { n := (r_6.1).length }), (27, { n := (o_1).length }), (29, Ht)] [6] [] 2 [.bool ((lN (r_6.1)) == (lN (o_1)))] [] hmix (ac gg_5 (ac gg_5 (ac gg_5 (ac gg_6 (ac gg_6 (ac gg_6 (ac (vc_len _ : ((Mb r_4.1.Bytes)).length = (r_4.1.Bytes).length) (ac gg_6 (ac gg_6 (ac gg_7 (ac gg_7 (ac gg_7 (ac (vc_len _ : ((Mb r_5.1.Bytes)).length = (r_5.1.Bytes).length) (ac gg_7 (ac gg_7 (ac gg_7 (ac gg_8 (ac gg_8 (ac gg_8 (ac gg_9 (ac gg_9 (ac (vc_len _ : ((Mp e_T_api_Value r_6.1)).length = (r_6.1).length) (ac gg_9 (ac gg_9 (ac (vc_len _ : ((Mp e_T_api_Value o_1)).length = (o_1).length) (ac gg_9 (ac gg_9 an))))))))))))))))))))))))))) ?_
       exact ⟨rfl, (sw [] [] [.a 6 (.bool ((r_4.2 == (0 : Int)) && ((r_5.2 == (0 : Int)) && (decide ((lN (r_4.1.Bytes)) > (0 : Int)) && (decide ((lN (r_5.1.Bytes)) ≤ o_3) && ((r_6.2 == (0 : Int)) && ((lN (r_6.1)) == (lN (o_1)))))))))] [] (ac (congrArg AV.bool (andt gg_5 (andt gg_6 (andt gg_7 (andt gg_8 (andt gg_9 rfl))))) : (.bool ((lN (r_6.1)) == (lN (o_1))) : AV) = .bool ((r_4.2 == (0 : Int)) && ((r_5.2 == (0 : Int)) && (decide ((lN (r_4.1.Bytes)) > (0 : Int)) && (decide ((lN (r_5.1.Bytes)) ≤ o_3) && ((r_6.2 == (0 : Int)) && ((lN (r_6.1)) == (lN (o_1))))))))) an))⟩
      ·refine rg [(5, Ht), (9, { n := (r_4.1.Bytes).length }), (11, Ht), (15, { n := (r_5.1.Bytes).length }), (18, Ht), (22, Ht), (24, Hg), (25, Hg), (26, Hg), (27, Hg), (28, Hg), (29, Hf)] [6] [] 2 [.bool false] [] hmix (ac gg_5 (ac gg_5 (ac gg_5 (ac gg_6 (ac gg_6 (ac gg_6 (ac (vc_len _ : ((Mb r_4.1.Bytes)).length = (r_4.1.Bytes).length) (ac gg_6 (ac gg_6 (ac gg_7 (ac gg_7 (ac gg_7 (ac (vc_len _ : ((Mb r_5.1.Bytes)).length = (r_5.1.Bytes).length) (ac gg_7 (ac gg_7 (ac gg_7 (ac gg_8 (ac gg_8 (ac gg_8 (ac gg_9 (ac gg_9 (ac gg_9 (ac gg_9 (ac gg_9 (ac gg_9 an))))))))))))))))))))))))) ?_
       exact ⟨rfl, (sw [] [] [.a 6 (.bool ((r_4.2 == (0 : Int)) && ((r_5.2 == (0 : Int)) && (decide ((lN (r_4.1.Bytes)) > (0 : Int)) && (decide ((lN (r_5.1.Bytes)) ≤ o_3) && ((r_6.2 == (0 : Int)) && ((lN (r_6.1)) == (lN (o_1)))))))))] [] (ac (congrArg AV.bool (andt gg_5 (andt gg_6 (andt gg_7 (andt gg_8 (andf gg_9))))) : (.bool false : AV) = .bool ((r_4.2 == (0 : Int)) && ((r_5.2 == (0 : Int)) && (decide ((lN (r_4.1.Bytes)) > (0 : Int)) && (decide ((lN (r_5.1.Bytes)) ≤ o_3) && ((r_6.2 == (0 : Int)) && ((lN (r_6.1)) == (lN (o_1))))))))) an))⟩
     ·refine rg [(5, Ht), (9, { n := (r_4.1.Bytes).length }), (11, Ht), (15, { n := (r_5.1.Bytes).length }), (18, Ht), (20, Hg), (21, Hg), (22, Hf), (24, Hg), (25, Hg), (26, Hg), (27, Hg), (28, Hg), (29, Hf)] [6] [] 2 [.bool false] [] hmix (ac gg_5 (ac gg_5 (ac gg_5 (ac gg_6 (ac gg_6 (ac gg_6 (ac (vc_len _ : ((Mb r_4.1.Bytes)).length = (r_4.1.Bytes).length) (ac gg_6 (ac gg_6 (ac gg_7 (ac gg_7 (ac gg_7 (ac (vc_len _ : ((Mb r_5.1.Bytes)).length = (r_5.1.Bytes).length) (ac gg_7 (ac gg_7 (ac gg_7 (ac gg_8 (ac gg_8 (ac gg_8 (ac (rfl : false = !true) (ac (rfl : false = !true) (ac (rfl : false = !true) (ac (rfl : false = !true) (ac (rfl : false = !true) (ar false an))))))))))))))))))))))))) ?_
      exact ⟨rfl, (sw [] [] [.a 6 (.bool ((r_4.2 == (0 : Int)) && ((r_5.2 == (0 : Int)) && (decide ((lN (r_4.1.Bytes)) > (0 : Int)) && (decide ((lN (r_5.1.Bytes)) ≤ o_3) && ((r_6.2 == (0 : Int)) && ((lN (r_6.1)) == (lN (o_1)))))))))] [] (ac (congrArg AV.bool (andt gg_5 (andt gg_6 (andt gg_7 (andf gg_8)))) : (.bool false : AV) = .bool ((r_4.2 == (0 : Int)) && ((r_5.2 == (0 : Int)) && (decide ((lN (r_4.1.Bytes)) > (0 : Int)) && (decide ((lN (r_5.1.Bytes)) ≤ o_3) && ((r_6.2 == (0 : Int)) && ((lN (r_6.1)) == (lN (o_1))))))))) an))⟩
    ·refine rg [(5, Ht), (9, { n := (r_4.1.Bytes).length }), (11, Ht), (13, Hg), (14, Hg), (15, Hg), (16, Hg), (17, Hg), (18, Hf), (20, Hg), (21, Hg), (22, Hf), (24, Hg), (25, Hg), (26, Hg), (27, Hg), (28, Hg), (29, Hf)] [6] [] 2 [.bool false] [] hmix (ac gg_5 (ac gg_5 (ac gg_5 (ac gg_6 (ac gg_6 (ac gg_6 (ac (vc_len _ : ((Mb r_4.1.Bytes)).length = (r_4.1.Bytes).length) (ac gg_6 (ac gg_6 (ac gg_7 (ac gg_7 (ac gg_7 (ac gg_7 (ac gg_7 (ac gg_7 (ac (rfl : false = !true) (ac (rfl : false = !true) (ar false (ac (rfl : false = !true) (ac (rfl : false = !true) (ac (rfl : false = !true) (ac (rfl : false = !true) (ac (rfl : false = !true) (ar false an)))))))))))))))))))))))) ?_
     exact ⟨rfl, (sw [] [] [.a 6 (.bool ((r_4.2 == (0 : Int)) && ((r_5.2 == (0 : Int)) && (decide ((lN (r_4.1.Bytes)) > (0 : Int)) && (decide ((lN (r_5.1.Bytes)) ≤ o_3) && ((r_6.2 == (0 : Int)) && ((lN (r_6.1)) == (lN (o_1)))))))))] [] (ac (congrArg AV.bool (andt gg_5 (andt gg_6 (andf gg_7))) : (.bool false : AV) = .bool ((r_4.2 == (0 : Int)) && ((r_5.2 == (0 : Int)) && (decide ((lN (r_4.1.Bytes)) > (0 : Int)) && (decide ((lN (r_5.1.Bytes)) ≤ o_3) && ((r_6.2 == (0 : Int)) && ((lN (r_6.1)) == (lN (o_1))))))))) an))⟩
   ·refine rg [(5, Ht), (7, Hg), (8, Hg), (9, Hg), (10, Hg), (11, Hf), (13, Hg), (14, Hg), (15, Hg), (16, Hg), (17, Hg), (18, Hf), (20, Hg), (21, Hg), (22, Hf), (24, Hg), (25, Hg), (26, Hg), (27, Hg), (28, Hg), (29, Hf)] [6] [] 2 [.bool false] [] hmix (ac gg_5 (ac gg_5 (ac gg_5 (ac gg_6 (ac gg_6 (ac gg_6 (ac gg_6 (ac gg_6 (ac (rfl : false = !true) (ac (rfl : false = !true) (ac (rfl : false = !true) (ac (rfl : false = !true) (ac (rfl : false = !true) (ar false (ac (rfl : false = !true) (ac (rfl : false = !true) (ar false (ac (rfl : false = !true) (ac (rfl : false = !true) (ac (rfl : false = !true) (ac (rfl : false = !true) (ac (rfl : false = !true) (ar false an))))))))))))))))))))))) ?_
    exact ⟨rfl, (sw [] [] [.a 6 (.bool ((r_4.2 == (0 : Int)) && ((r_5.2 == (0 : Int)) && (decide ((lN (r_4.1.Bytes)) > (0 : Int)) && (decide ((lN (r_5.1.Bytes)) ≤ o_3) && ((r_6.2 == (0 : Int)) && ((lN (r_6.1)) == (lN (o_1)))))))))] [] (ac (congrArg AV.bool (andt gg_5 (andf gg_6)) : (.bool false : AV) = .bool ((r_4.2 == (0 : Int)) && ((r_5.2 == (0 : Int)) && (decide ((lN (r_4.1.Bytes)) > (0 : Int)) && (decide ((lN (r_5.1.Bytes)) ≤ o_3) && ((r_6.2 == (0 : Int)) && ((lN (r_6.1)) == (lN (o_1))))))))) an))⟩
  ·refine rg [(3, Hg), (4, Hg), (5, Hf), (7, Hg), (8, Hg), (9, Hg), (10, Hg), (11, Hf), (13, Hg), (14, Hg), (15, Hg), (16, Hg), (17, Hg), (18, Hf), (20, Hg), (21, Hg), (22, Hf), (24, Hg), (25, Hg), (26, Hg), (27, Hg), (28, Hg), (29, Hf)] [6] [] 2 [.bool false] [] hmix (ac gg_5 (ac gg_5 (ac gg_5 (ac (rfl : false = !true) (ac (rfl : false = !true) (ac (rfl : false = !true) (ac (rfl : false = !true) (ar false (ac (rfl : false = !true) (ac (rfl : false = !true) (ac (rfl : false = !true) (ac (rfl : false = !true) (ac (rfl : false = !true) (ar false (ac (rfl : false = !true) (ac (rfl : false = !true) (ar false (ac (rfl : false = !true) (ac (rfl : false = !true) (ac (rfl : false = !true) (ac (rfl : false = !true) (ac (rfl : false = !true) (ar false an))))))))))))))))))))))) ?_
   exact ⟨rfl, (sw [] [] [.a 6 (.bool ((r_4.2 == (0 : Int)) && ((r_5.2 == (0 : Int)) && (decide ((lN (r_4.1.Bytes)) > (0 : Int)) && (decide ((lN (r_5.1.Bytes)) ≤ o_3) && ((r_6.2 == (0 : Int)) && ((lN (r_6.1)) == (lN (o_1)))))))))] [] (ac (congrArg AV.bool (andf gg_5) : (.bool false : AV) = .bool ((r_4.2 == (0 : Int)) && ((r_5.2 == (0 : Int)) && (decide ((lN (r_4.1.Bytes)) > (0 : Int)) && (decide ((lN (r_5.1.Bytes)) ≤ o_3) && ((r_6.2 == (0 : Int)) && ((lN (r_6.1)) == (lN (o_1))))))))) an))⟩
 refine rt ?_
 cases h
 exact ⟨.inr rfl, Nat.le_of_ble_eq_true rfl, by kernel_rfl⟩

end Go.Ab
