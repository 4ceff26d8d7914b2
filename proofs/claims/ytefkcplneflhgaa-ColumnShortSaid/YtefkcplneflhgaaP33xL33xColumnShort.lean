/- Printed: the typed Lean functions of the Go functions, or the proofs that the Go functions meet them. No conditions but those that the theorems name. -/
import Derived.Test.YtefkcplneflhgaaP33x2
namespace Go.Ab
open Go
set_option linter.unusedVariables false
theorem L33_ColumnShort_ok (F : Nat) (k_1 : Int) (l_1 : List (T_api_Value)) (r : Bool) (h : L33_ColumnShort F k_1 l_1 = some r) : TripleG prog 6 [] [] [Ii k_1, .sl false 3 (Mp e_T_api_Value l_1)] [] (.bool r) := by
 refine triple_intro (fn := Go.Proofs.Try.f6) (code := codeOf Go.Proofs.Try.f6) (by kernel_rfl) (by kernel_rfl) (Nat.le_of_ble_eq_true (by kernel_rfl)) ?_
 unfold L33_ColumnShort at h
 refine sr [] [0, 1] [] 0 [Ii k_1, .sl false 3 (Mp e_T_api_Value l_1)] [] hmix an ?_
 refine sq ?_
 refine sq ?_
 obtain ⟨p_1, h_3, h⟩ := bind_some h
 refine aw_mid (mk [(0, Ii k_1), (1, .sl false 3 (Mp e_T_api_Value l_1)), (15, .bool p_1)] [] 0) ?_ ?_
 ·replace h := h_3
  obtain ⟨r_1, h_1, h⟩ := bind_some h
  rcases bft (!r_1) with gg_1 | gg_1
  ·replace h := cond_t gg_1 h
   refine rg [(0, { av := .bool r_1, l := [] }), (3, Hg), (4, Hg), (5, Hg), (6, Ht)] [0, 1, 15] [] 0 [Ii k_1, .sl false 3 (Mp e_T_api_Value l_1), .bool true] [] hmix (ar ([] : List AV) (ac (rfl : ([] : List BoxSt) = []) (ac (L33_awake_ok F r_1 h_1 : TripleG prog 10 [] [] [] [] (.bool r_1)) (ac gg_1 (ac gg_1 (ac gg_1 (ac gg_1 an))))))) ?_
   cases h
   exact ⟨rfl, (sw [] [] [.s 0, .s 1, .s 15] [] an)⟩
  ·replace h := cond_f gg_1 h
   obtain ⟨r_2, h_2, h⟩ := bind_some h
   refine rg [(0, { av := .bool r_1, l := [] }), (4, { av := .bool r_2, l := [.sl false 3 (Mp e_T_api_Value l_1)] }), (6, Hf)] [0, 1, 15] [] 0 [Ii k_1, .sl false 3 (Mp e_T_api_Value l_1), .bool (!r_2)] [] hmix (ar ([] : List AV) (ac (rfl : ([] : List BoxSt) = []) (ac (L33_awake_ok F r_1 h_1 : TripleG prog 10 [] [] [] [] (.bool r_1)) (ac gg_1 (ac gg_1 (ar ([.sl false 3 (Mp e_T_api_Value l_1)] : List AV) (ac (rfl : ([] : List BoxSt) = []) (ac (L33_few_ok F l_1 r_2 h_2 : TripleG prog 11 [] [] [.sl false 3 (Mp e_T_api_Value l_1)] [] (.bool r_2)) (ac gg_1 (ac gg_1 an)))))))))) ?_
   cases h
   exact ⟨rfl, (sw [] [] [.s 0, .s 1, .s 15] [] an)⟩
 refine cd 15 p_1 ?_ ?_
 ·intro g_1; replace h := cond_t g_1 h
  refine sq ?_
  obtain ⟨r_3, h_4, h⟩ := bind_some h
  refine rg [(0, { av := .bool r_3, l := [] })] [4] [] 0 [.bool r_3] [] hmix (ar ([] : List AV) (ac (rfl : ([] : List BoxSt) = []) (ac (L33_awake_ok F r_3 h_4 : TripleG prog 10 [] [] [] [] (.bool r_3)) an))) ?_
  refine rt ?_
  cases h
  exact ⟨.inr rfl, Nat.le_of_ble_eq_true rfl, by kernel_rfl⟩
 intro g_1; replace h := cond_f g_1 h
 refine sk ?_
 refine sq ?_
 obtain ⟨r_4, h_5, h⟩ := bind_some h
 refine rg [(2, { av := .tuple [e_T_api_Packed r_4.1, Ii r_4.2], l := [Ii k_1, .sl false 3 (Mp e_T_api_Value l_1)] }), (6, { id := 0 })] [1, 5, 6] [0] 1 [.sl false 3 (Mp e_T_api_Value l_1), Pp 0, Ii r_4.2] [Vb 33 (v_T_api_Packed r_4.1)] hmix (ar ([Ii k_1, .sl false 3 (Mp e_T_api_Value l_1)] : List AV) (ac (rfl : ([] : List BoxSt) = []) (ac (column_Encode_ok F k_1 l_1 r_4 h_5 : TripleG prog 12 [] [] [Ii k_1, .sl false 3 (Mp e_T_api_Value l_1)] [] (.tuple [e_T_api_Packed r_4.1, Ii r_4.2])) an))) ?_
 refine sq ?_
 refine sr [] [1, 5, 24] [0] 1 [.sl false 3 (Mp e_T_api_Value l_1), Pp 0, .bool (r_4.2 != (0 : Int))] [Vb 33 (v_T_api_Packed r_4.1)] hmix an ?_
 refine cd 24 (r_4.2 != (0 : Int)) ?_ ?_
 ·intro g_2; replace h := cond_t g_2 h
  refine sr [] [4] [] 1 [.bool true] [] hmix an ?_
  refine rt ?_
  cases h
  exact ⟨.inr rfl, Nat.le_of_ble_eq_true rfl, by kernel_rfl⟩
 intro g_2; replace h := cond_f g_2 h
 refine sk ?_
 refine sr [] [1, 5, 7] [0] 1 [.sl false 3 (Mp e_T_api_Value l_1), Pp 0, Ii 1] [Vb 33 (v_T_api_Packed r_4.1)] hmix an ?_
 refine sq ?_
 refine sr [] [1, 5, 7, 8] [0] 1 [.sl false 3 (Mp e_T_api_Value l_1), Pp 0, Ii 1, Ii 0] [Vb 33 (v_T_api_Packed r_4.1)] hmix an ?_
 obtain ⟨o_1, h_6, h⟩ := bind_some h
 refine aw_mid (mk [(5, Pp 0), (7, Ii o_1)] [(0, Vb 33 (v_T_api_Packed r_4.1))] 1) ?_ ?_
 ·replace h := h_6
  refine aw_block (id := 0) (by kernel_rfl) ?_
  refine wk [0] [] [.s 1, .s 5, .s 7, .s 8] [.s 0] [(1, .sl false 3 (Mp e_T_api_Value l_1)), (5, Pp 0), (7, Ii 1), (8, Ii 0)] [(0, Vb 33 (v_T_api_Packed r_4.1))] an ?_
  refine aw_loopF (fun n st => ∃ (sum_1 : Int), ∃ (i_1 : Int), st = mk [(1, .sl false 3 (Mp e_T_api_Value l_1)), (5, Pp 0), (7, Ii sum_1), (8, Ii i_1)] [(0, Vb 33 (v_T_api_Packed r_4.1))] 1 ∧ L33_ColumnShort_L1 F l_1 n sum_1 i_1 = some o_1) F (by kernel_rfl) ⟨_, _, rfl, h⟩ ?_ ?_
  ·rintro _ ⟨_, _, _, h⟩; exact none_ne (h : (none : Option Int) = some o_1)
  rintro n_1 _ ⟨sum_1, i_1, rfl, h⟩
  replace h : L33_ColumnShort_L1_body F l_1 (L33_ColumnShort_L1 F l_1 n_1) sum_1 i_1 = some o_1 := h
  unfold L33_ColumnShort_L1_body at h
  refine sq ?_
  refine sr [(2, { n := (l_1).length })] [1, 5, 7, 8, 28] [0] 1 [.sl false 3 (Mp e_T_api_Value l_1), Pp 0, Ii sum_1, Ii i_1, .bool (decide (i_1 < (lN (l_1))))] [Vb 33 (v_T_api_Packed r_4.1)] hmix (ac (vc_len _ : ((Mp e_T_api_Value l_1)).length = (l_1).length) an) ?_
  refine cd 28 (decide (i_1 < (lN (l_1)))) ?_ ?_
  rotate_left
  ·intro g_3; replace h := cond_f g_3 h
   refine aw_exit (id := 0) (by kernel_rfl) ?_
   cases h
   exact ⟨rfl, (sw [0] [] [.s 5, .s 7] [.s 0] an)⟩
  intro g_3; replace h := cond_t g_3 h
  refine sk ?_
  refine sq ?_
  obtain ⟨o_2, h_7, h⟩ := bind_some h
  refine aw_mid (mk [(1, .sl false 3 (Mp e_T_api_Value l_1)), (5, Pp 0), (7, Ii o_2), (8, Ii i_1)] [(0, Vb 33 (v_T_api_Packed r_4.1))] 1) ?_ ?_
  ·replace h := h_7
   refine aw_block (id := 1) (by kernel_rfl) ?_
   refine sr [] [1, 5, 7, 8] [0] 1 [.sl false 3 (Mp e_T_api_Value l_1), Pp 0, Ii (w_i64 (sum_1 + (1 : Int))), Ii i_1] [Vb 33 (v_T_api_Packed r_4.1)] hmix an ?_
   refine sq ?_
   refine sq ?_
   obtain ⟨x_1, h_8, h⟩ := bind_some h
   refine rg [(2, { av := e_T_api_Value x_1 })] [1, 5, 7, 8, 38] [0] 1 [.sl false 3 (Mp e_T_api_Value l_1), Pp 0, Ii (w_i64 (sum_1 + (1 : Int))), Ii i_1, .bool (x_1.Kind == (3 : Int))] [Vb 33 (v_T_api_Packed r_4.1)] hmix (ac (vc_idx h_8 : idxA (Mp e_T_api_Value l_1) i_1 = some (e_T_api_Value x_1)) an) ?_
   obtain ⟨o_3, h_9, h⟩ := bind_some h
   refine aw_mid (mk [(1, .sl false 3 (Mp e_T_api_Value l_1)), (5, Pp 0), (7, Ii o_3), (8, Ii i_1)] [(0, Vb 33 (v_T_api_Packed r_4.1))] 1) ?_ ?_
   ·replace h := h_9
    refine cd 38 (x_1.Kind == (3 : Int)) ?_ ?_
    rotate_left
    ·intro g_4; replace h := cond_f g_4 h
     refine sk ?_
     cases h
     exact ⟨rfl, (sw [0] [] [.s 1, .s 5, .s 7, .s 8] [.s 0] an)⟩
    intro g_4; replace h := cond_t g_4 h
    obtain ⟨x_2, h_10, h⟩ := bind_some h
    refine rg [(4, { av := e_T_api_Value x_2 })] [1, 5, 7, 8] [0] 1 [.sl false 3 (Mp e_T_api_Value l_1), Pp 0, Ii (w_i64 ((w_i64 ((w_i64 (sum_1 + (1 : Int))) + (2 : Int))) + (lN (x_2.S)))), Ii i_1] [Vb 33 (v_T_api_Packed r_4.1)] hmix (ac (vc_idx h_10 : idxA (Mp e_T_api_Value l_1) i_1 = some (e_T_api_Value x_2)) an) ?_
    cases h
    exact ⟨rfl, (sw [0] [] [.s 1, .s 5, .s 7, .s 8] [.s 0] an)⟩
   refine sq ?_
   obtain ⟨p_2, h_13, h⟩ := bind_some h
   refine aw_mid (mk [(1, .sl false 3 (Mp e_T_api_Value l_1)), (5, Pp 0), (7, Ii o_3), (8, Ii i_1), (61, .bool p_2)] [(0, Vb 33 (v_T_api_Packed r_4.1))] 1) ?_ ?_
   ·replace h := h_13
    obtain ⟨x_3, h_11, h⟩ := bind_some h
    rcases bft (x_3.Kind == (1 : Int)) with gg_6 | gg_6
    ·replace h := cond_t gg_6 h
     refine rg [(2, { av := e_T_api_Value x_3 }), (7, Hg), (8, Hg), (9, Hg), (10, Hg), (11, Hg), (12, Hg), (13, Ht)] [1, 5, 7, 8, 55, 56, 57, 58, 59, 60, 61] [0] 1 [.sl false 3 (Mp e_T_api_Value l_1), Pp 0, Ii o_3, Ii i_1, .tuple [], .tuple [], .tuple [], .tuple [], .tuple [], .tuple [], .bool true] [Vb 33 (v_T_api_Packed r_4.1)] hmix (ac (vc_idx h_11 : idxA (Mp e_T_api_Value l_1) i_1 = some (e_T_api_Value x_3)) (ac gg_6 (ac gg_6 (ac gg_6 (ac gg_6 (ac gg_6 (ac gg_6 (ac gg_6 an)))))))) ?_
     cases h
     exact ⟨rfl, (sw [0] [] [.s 1, .s 5, .s 7, .s 8, .s 61] [.s 0] an)⟩
    ·replace h := cond_f gg_6 h
     obtain ⟨x_4, h_12, h⟩ := bind_some h
     refine rg [(2, { av := e_T_api_Value x_3 }), (9, { av := e_T_api_Value x_4 }), (13, Hf)] [1, 5, 7, 8, 55, 56, 57, 58, 59, 60, 61] [0] 1 [.sl false 3 (Mp e_T_api_Value l_1), Pp 0, Ii o_3, Ii i_1, .sl false 3 (Mp e_T_api_Value l_1), Ii i_1, .ref (e_T_api_Value x_4), .ref (Ii x_4.Kind), Ii x_4.Kind, .bool (x_4.Kind == (2 : Int)), .bool (x_4.Kind == (2 : Int))] [Vb 33 (v_T_api_Packed r_4.1)] hmix (ac (vc_idx h_11 : idxA (Mp e_T_api_Value l_1) i_1 = some (e_T_api_Value x_3)) (ac gg_6 (ac gg_6 (ac gg_6 (ac (vc_idx h_12 : idxA (Mp e_T_api_Value l_1) i_1 = some (e_T_api_Value x_4)) (ac gg_6 (ac gg_6 (ac gg_6 (ac gg_6 an))))))))) ?_
     cases h
     exact ⟨rfl, (sw [0] [] [.s 1, .s 5, .s 7, .s 8, .s 61] [.s 0] an)⟩
   refine cd 61 p_2 ?_ ?_
   ·intro g_5; replace h := cond_t g_5 h
    refine rg [] [1, 5, 7, 8] [0] 1 [.sl false 3 (Mp e_T_api_Value l_1), Pp 0, Ii (w_i64 (o_3 + (10 : Int))), Ii i_1] [Vb 33 (v_T_api_Packed r_4.1)] hmix an ?_
    cases h
    exact ⟨rfl, (sw [0] [] [.s 1, .s 5, .s 7, .s 8] [.s 0] an)⟩
   intro g_5; replace h := cond_f g_5 h
   refine sk ?_
   cases h
   exact ⟨rfl, (sw [0] [] [.s 1, .s 5, .s 7, .s 8] [.s 0] an)⟩
  refine rg [] [1, 5, 7, 8] [0] 1 [.sl false 3 (Mp e_T_api_Value l_1), Pp 0, Ii o_2, Ii (w_i64 (i_1 + (1 : Int)))] [Vb 33 (v_T_api_Packed r_4.1)] hmix an ?_
  exact ⟨_, (sw [0] [] [.s 1, .s 5, .s 7, .s 8] [.s 0] an), _, _, rfl, h⟩
 refine sr [(2, { n := (r_4.1.Bytes).length })] [4] [] 1 [.bool (decide ((lN (r_4.1.Bytes)) ≤ o_1))] [] hmix (ac (vc_len _ : ((Mb r_4.1.Bytes)).length = (r_4.1.Bytes).length) an) ?_
 refine rt ?_
 cases h
 exact ⟨.inr rfl, Nat.le_of_ble_eq_true rfl, by kernel_rfl⟩

end Go.Ab
