/- Printed: the typed Lean functions of the Go functions, or the proofs that the Go functions meet them. No conditions but those that the theorems name. -/
import Derived.Test.YtpdbjocgoheapaaP12x3
namespace Go.Ab
open Go
set_option linter.unusedVariables false
theorem L12_DrainOrder_ok (F : Nat) (a_1 : List (T_api_Packet)) (b_1 : List (T_api_Packet)) (r : Bool) (h : L12_DrainOrder F a_1 b_1 = some r) : TripleG prog 7 [] [] [.sl false 4 (Mp e_T_api_Packet a_1), .sl false 4 (Mp e_T_api_Packet b_1)] [] (.bool r) := by
 refine triple_intro (fn := Go.Proofs.Try.f7) (code := codeOf Go.Proofs.Try.f7) (by kernel_rfl) (by kernel_rfl) (Nat.le_of_ble_eq_true (by kernel_rfl)) ?_
 unfold L12_DrainOrder at h
 refine sr [] [0, 1] [] 0 [.sl false 4 (Mp e_T_api_Packet a_1), .sl false 4 (Mp e_T_api_Packet b_1)] [] hmix an ?_
 refine sq ?_
 refine sq ?_
 obtain ⟨p_1, h_3, h⟩ := bind_some h
 refine aw_mid (mk [(0, .sl false 4 (Mp e_T_api_Packet a_1)), (1, .sl false 4 (Mp e_T_api_Packet b_1)), (27, .bool p_1)] [] 0) ?_ ?_
 ·replace h := h_3
  obtain ⟨r_1, h_1, h⟩ := bind_some h
  rcases bft (!r_1) with gg_1 | gg_1
  ·replace h := cond_t gg_1 h
   refine rg [(1, { av := .bool r_1, l := [.sl false 4 (Mp e_T_api_Packet a_1)] }), (4, Hg), (5, Hg), (6, Hg), (7, Ht)] [0, 1, 27] [] 0 [.sl false 4 (Mp e_T_api_Packet a_1), .sl false 4 (Mp e_T_api_Packet b_1), .bool true] [] hmix (ar ([.sl false 4 (Mp e_T_api_Packet a_1)] : List AV) (ac (rfl : ([] : List BoxSt) = []) (ac (L12_small_ok F a_1 r_1 h_1 : TripleG prog 21 [] [] [.sl false 4 (Mp e_T_api_Packet a_1)] [] (.bool r_1)) (ac gg_1 (ac gg_1 (ac gg_1 (ac gg_1 an))))))) ?_
   cases h
   exact ⟨rfl, (sw [] [] [.s 0, .s 1, .s 27] [] an)⟩
  ·replace h := cond_f gg_1 h
   obtain ⟨r_2, h_2, h⟩ := bind_some h
   refine rg [(1, { av := .bool r_1, l := [.sl false 4 (Mp e_T_api_Packet a_1)] }), (5, { av := .bool r_2, l := [.sl false 4 (Mp e_T_api_Packet b_1)] }), (7, Hf)] [0, 1, 27] [] 0 [.sl false 4 (Mp e_T_api_Packet a_1), .sl false 4 (Mp e_T_api_Packet b_1), .bool (!r_2)] [] hmix (ar ([.sl false 4 (Mp e_T_api_Packet a_1)] : List AV) (ac (rfl : ([] : List BoxSt) = []) (ac (L12_small_ok F a_1 r_1 h_1 : TripleG prog 21 [] [] [.sl false 4 (Mp e_T_api_Packet a_1)] [] (.bool r_1)) (ac gg_1 (ac gg_1 (ar ([.sl false 4 (Mp e_T_api_Packet b_1)] : List AV) (ac (rfl : ([] : List BoxSt) = []) (ac (L12_small_ok F b_1 r_2 h_2 : TripleG prog 21 [] [] [.sl false 4 (Mp e_T_api_Packet b_1)] [] (.bool r_2)) (ac gg_1 (ac gg_1 an)))))))))) ?_
   cases h
   exact ⟨rfl, (sw [] [] [.s 0, .s 1, .s 27] [] an)⟩
 refine cd 27 p_1 ?_ ?_
 ·intro g_1; replace h := cond_t g_1 h
  refine sq ?_
  obtain ⟨r_3, h_4, h⟩ := bind_some h
  refine rg [(0, { av := .bool r_3, l := [] })] [4] [] 0 [.bool r_3] [] hmix (ar ([] : List AV) (ac (rfl : ([] : List BoxSt) = []) (ac (L12_awake_ok F r_3 h_4 : TripleG prog 9 [] [] [] [] (.bool r_3)) an))) ?_
  refine rt ?_
  cases h
  exact ⟨.inr rfl, Nat.le_of_ble_eq_true rfl, by kernel_rfl⟩
 intro g_1; replace h := cond_f g_1 h
 refine sk ?_
 refine sq ?_
 obtain ⟨r_4, h_5, h⟩ := bind_some h
 obtain ⟨r_5, h_6, h⟩ := bind_some h
 refine rg [(0, { av := .own 0 ((r_4).length), ids := [0], l := [], post := [(.row 60 3 (Mp e_T_api_Thread r_4))] }), (1, { av := .tuple [e_T_api_Service r_5.1, Ii r_5.2], frz := [0], l := [.sl false 3 (Mp e_T_api_Thread r_4)] }), (5, { id := 1 })] [0, 1, 5] [1] 2 [.sl false 4 (Mp e_T_api_Packet a_1), .sl false 4 (Mp e_T_api_Packet b_1), Pp 1] [Vb 27 (v_T_api_Service r_5.1)] hmix (ar ([] : List AV) (ac (rfl : ([] : List BoxSt) = []) (ac (L12_two_ok r_4 h_5 : TripleG prog 24 [] [] [] [(.row 60 3 (Mp e_T_api_Thread r_4))] (.own 0 ((r_4).length))) (ac (by first | (simp; done) | (simp; omega) : (r_4).length = ((List.map e_T_api_Thread r_4)).length) (ar ([.sl false 3 (Mp e_T_api_Thread r_4)] : List AV) (ac (rfl : ([] : List BoxSt) = []) (ac (drain_New_ok F r_4 r_5 h_6 : TripleG prog 10 [] [] [.sl false 3 (Mp e_T_api_Thread r_4)] [] (.tuple [e_T_api_Service r_5.1, Ii r_5.2])) an))))))) ?_
 refine sq ?_
 obtain ⟨r_6, h_7, h⟩ := bind_some h
 obtain ⟨r_7, h_8, h⟩ := bind_some h
 refine rg [(0, { av := .own 0 ((r_6).length), ids := [2], l := [], post := [(.row 60 3 (Mp e_T_api_Thread r_6))] }), (1, { av := .tuple [e_T_api_Service r_7.1, Ii r_7.2], frz := [2], l := [.sl false 3 (Mp e_T_api_Thread r_6)] }), (5, { id := 3 })] [0, 1, 5, 7] [1, 3] 4 [.sl false 4 (Mp e_T_api_Packet a_1), .sl false 4 (Mp e_T_api_Packet b_1), Pp 1, Pp 3] [Vb 27 (v_T_api_Service r_5.1), Vb 27 (v_T_api_Service r_7.1)] hmix (ar ([] : List AV) (ac (rfl : ([] : List BoxSt) = []) (ac (L12_two_ok r_6 h_7 : TripleG prog 24 [] [] [] [(.row 60 3 (Mp e_T_api_Thread r_6))] (.own 0 ((r_6).length))) (ac (by first | (simp; done) | (simp; omega) : (r_6).length = ((List.map e_T_api_Thread r_6)).length) (ar ([.sl false 3 (Mp e_T_api_Thread r_6)] : List AV) (ac (rfl : ([] : List BoxSt) = []) (ac (drain_New_ok F r_6 r_7 h_8 : TripleG prog 10 [] [] [.sl false 3 (Mp e_T_api_Thread r_6)] [] (.tuple [e_T_api_Service r_7.1, Ii r_7.2])) an))))))) ?_
 refine sq ?_
 obtain ⟨r_8, h_9, h⟩ := bind_some h
 obtain ⟨r_9, h_10, h⟩ := bind_some h
 refine rg [(0, { av := .own 0 ((r_8).length), ids := [4], l := [], post := [(.row 60 3 (Mp e_T_api_Thread r_8))] }), (1, { av := .tuple [e_T_api_Service r_9.1, Ii r_9.2], frz := [4], l := [.sl false 3 (Mp e_T_api_Thread r_8)] }), (5, { id := 5 })] [0, 1, 5, 7, 9] [1, 3, 5] 6 [.sl false 4 (Mp e_T_api_Packet a_1), .sl false 4 (Mp e_T_api_Packet b_1), Pp 1, Pp 3, Pp 5] [Vb 27 (v_T_api_Service r_5.1), Vb 27 (v_T_api_Service r_7.1), Vb 27 (v_T_api_Service r_9.1)] hmix (ar ([] : List AV) (ac (rfl : ([] : List BoxSt) = []) (ac (L12_two_ok r_8 h_9 : TripleG prog 24 [] [] [] [(.row 60 3 (Mp e_T_api_Thread r_8))] (.own 0 ((r_8).length))) (ac (by first | (simp; done) | (simp; omega) : (r_8).length = ((List.map e_T_api_Thread r_8)).length) (ar ([.sl false 3 (Mp e_T_api_Thread r_8)] : List AV) (ac (rfl : ([] : List BoxSt) = []) (ac (drain_New_ok F r_8 r_9 h_10 : TripleG prog 10 [] [] [.sl false 3 (Mp e_T_api_Thread r_8)] [] (.tuple [e_T_api_Service r_9.1, Ii r_9.2])) an))))))) ?_
 refine sq ?_
 refine sr [] [0, 1, 5, 7, 9, 11] [1, 3, 5] 6 [.sl false 4 (Mp e_T_api_Packet a_1), .sl false 4 (Mp e_T_api_Packet b_1), Pp 1, Pp 3, Pp 5, Ii 0] [Vb 27 (v_T_api_Service r_5.1), Vb 27 (v_T_api_Service r_7.1), Vb 27 (v_T_api_Service r_9.1)] hmix an ?_
 obtain ⟨o_1, h_11, h⟩ := bind_some h
 refine aw_mid (mk [(0, .sl false 4 (Mp e_T_api_Packet a_1)), (1, .sl false 4 (Mp e_T_api_Packet b_1)), (5, Pp 0), (7, Pp 1), (9, Pp 2)] [(0, Vb 27 [.sl false 3 (Mp e_T_api_Thread o_1.1), .sl false 1 (Mi o_1.2.1), .sl false 4 (Mp e_T_api_Packet o_1.2.2.1)]), (1, Vb 27 [.sl false 3 (Mp e_T_api_Thread o_1.2.2.2.1), .sl false 1 (Mi o_1.2.2.2.2.1), .sl false 4 (Mp e_T_api_Packet o_1.2.2.2.2.2.1)]), (2, Vb 27 [.sl false 3 (Mp e_T_api_Thread o_1.2.2.2.2.2.2.1), .sl false 1 (Mi o_1.2.2.2.2.2.2.2.1), .sl false 4 (Mp e_T_api_Packet o_1.2.2.2.2.2.2.2.2)])] 3) ?_ ?_
 ·replace h := h_11
  refine aw_block (id := 0) (by kernel_rfl) ?_
  refine wk [1, 3, 5] [] [.s 0, .s 1, .s 5, .s 7, .s 9, .s 11] [.s 0, .s 1, .s 2] [(0, .sl false 4 (Mp e_T_api_Packet a_1)), (1, .sl false 4 (Mp e_T_api_Packet b_1)), (5, Pp 0), (7, Pp 1), (9, Pp 2), (11, Ii 0)] [(0, Vb 27 (v_T_api_Service r_5.1)), (1, Vb 27 (v_T_api_Service r_7.1)), (2, Vb 27 (v_T_api_Service r_9.1))] an ?_
  refine aw_loopF (fun n st => ∃ (i_1 : Int), ∃ (c_1 : List T_api_Thread), ∃ (c_2 : List Int), ∃ (c_3 : List T_api_Packet), ∃ (c_4 : List T_api_Thread), ∃ (c_5 : List Int), ∃ (c_6 : List T_api_Packet), ∃ (c_7 : List T_api_Thread), ∃ (c_8 : List Int), ∃ (c_9 : List T_api_Packet), st = mk [(0, .sl false 4 (Mp e_T_api_Packet a_1)), (1, .sl false 4 (Mp e_T_api_Packet b_1)), (5, Pp 0), (7, Pp 1), (9, Pp 2), (11, Ii i_1)] [(0, Vb 27 [.sl false 3 (Mp e_T_api_Thread c_1), .sl false 1 (Mi c_2), .sl false 4 (Mp e_T_api_Packet c_3)]), (1, Vb 27 [.sl false 3 (Mp e_T_api_Thread c_4), .sl false 1 (Mi c_5), .sl false 4 (Mp e_T_api_Packet c_6)]), (2, Vb 27 [.sl false 3 (Mp e_T_api_Thread c_7), .sl false 1 (Mi c_8), .sl false 4 (Mp e_T_api_Packet c_9)])] 3 ∧ L12_DrainOrder_L1 F a_1 b_1 n i_1 c_1 c_2 c_3 c_4 c_5 c_6 c_7 c_8 c_9 = some o_1) F (by kernel_rfl) ⟨_, _, _, _, _, _, _, _, _, _, rfl, h⟩ ?_ ?_
  ·rintro _ ⟨_, _, _, _, _, _, _, _, _, _, _, h⟩; exact none_ne (h : (none : Option ((List T_api_Thread) × (List Int) × (List T_api_Packet) × (List T_api_Thread) × (List Int) × (List T_api_Packet) × (List T_api_Thread) × (List Int) × (List T_api_Packet))) = some o_1)
  rintro n_1 _ ⟨i_1, c_1, c_2, c_3, c_4, c_5, c_6, c_7, c_8, c_9, rfl, h⟩
  replace h : L12_DrainOrder_L1_body F a_1 b_1 (L12_DrainOrder_L1 F a_1 b_1 n_1) i_1 c_1 c_2 c_3 c_4 c_5 c_6 c_7 c_8 c_9 = some o_1 := h
  unfold L12_DrainOrder_L1_body at h
  refine sq ?_
  refine sr [(2, { n := (a_1).length }), (4, { n := (b_1).length })] [0, 1, 5, 7, 9, 11, 50] [0, 1, 2] 3 [.sl false 4 (Mp e_T_api_Packet a_1), .sl false 4 (Mp e_T_api_Packet b_1), Pp 0, Pp 1, Pp 2, Ii i_1, .bool (decide (i_1 < (imax (lN (a_1)) (lN (b_1)))))] [Vb 27 [.sl false 3 (Mp e_T_api_Thread c_1), .sl false 1 (Mi c_2), .sl false 4 (Mp e_T_api_Packet c_3)], Vb 27 [.sl false 3 (Mp e_T_api_Thread c_4), .sl false 1 (Mi c_5), .sl false 4 (Mp e_T_api_Packet c_6)], Vb 27 [.sl false 3 (Mp e_T_api_Thread c_7), .sl false 1 (Mi c_8), .sl false 4 (Mp e_T_api_Packet c_9)]] hmix (ac (vc_len _ : ((Mp e_T_api_Packet a_1)).length = (a_1).length) (ac (vc_len _ : ((Mp e_T_api_Packet b_1)).length = (b_1).length) an)) ?_
  refine cd 50 (decide (i_1 < (imax (lN (a_1)) (lN (b_1))))) ?_ ?_
  rotate_left
  ·intro g_2; replace h := cond_f g_2 h
   refine aw_exit (id := 0) (by kernel_rfl) ?_
   cases h
   exact ⟨rfl, (sw [0, 1, 2] [] [.s 0, .s 1, .s 5, .s 7, .s 9] [.s 0, .s 1, .s 2] an)⟩
  intro g_2; replace h := cond_t g_2 h
  refine sk ?_
  refine sq ?_
  obtain ⟨o_2, h_12, h⟩ := bind_some h
  refine aw_mid (mk [(0, .sl false 4 (Mp e_T_api_Packet a_1)), (1, .sl false 4 (Mp e_T_api_Packet b_1)), (5, Pp 0), (7, Pp 1), (9, Pp 2), (11, Ii i_1)] [(0, Vb 27 [.sl false 3 (Mp e_T_api_Thread o_2.1), .sl false 1 (Mi o_2.2.1), .sl false 4 (Mp e_T_api_Packet o_2.2.2.1)]), (1, Vb 27 [.sl false 3 (Mp e_T_api_Thread o_2.2.2.2.1), .sl false 1 (Mi o_2.2.2.2.2.1), .sl false 4 (Mp e_T_api_Packet o_2.2.2.2.2.2.1)]), (2, Vb 27 [.sl false 3 (Mp e_T_api_Thread o_2.2.2.2.2.2.2.1), .sl false 1 (Mi o_2.2.2.2.2.2.2.2.1), .sl false 4 (Mp e_T_api_Packet o_2.2.2.2.2.2.2.2.2)])] 3) ?_ ?_
  ·replace h := h_12
   refine aw_block (id := 1) (by kernel_rfl) ?_
   refine sq ?_
   refine sr [(2, { n := (a_1).length })] [0, 1, 5, 7, 9, 11, 56] [0, 1, 2] 3 [.sl false 4 (Mp e_T_api_Packet a_1), .sl false 4 (Mp e_T_api_Packet b_1), Pp 0, Pp 1, Pp 2, Ii i_1, .bool (decide (i_1 < (lN (a_1))))] [Vb 27 [.sl false 3 (Mp e_T_api_Thread c_1), .sl false 1 (Mi c_2), .sl false 4 (Mp e_T_api_Packet c_3)], Vb 27 [.sl false 3 (Mp e_T_api_Thread c_4), .sl false 1 (Mi c_5), .sl false 4 (Mp e_T_api_Packet c_6)], Vb 27 [.sl false 3 (Mp e_T_api_Thread c_7), .sl false 1 (Mi c_8), .sl false 4 (Mp e_T_api_Packet c_9)]] hmix (ac (vc_len _ : ((Mp e_T_api_Packet a_1)).length = (a_1).length) an) ?_
   obtain ⟨o_3, h_13, h⟩ := bind_some h
   refine aw_mid (mk [(0, .sl false 4 (Mp e_T_api_Packet a_1)), (1, .sl false 4 (Mp e_T_api_Packet b_1)), (5, Pp 0), (7, Pp 1), (9, Pp 2), (11, Ii i_1)] [(0, Vb 27 [.sl false 3 (Mp e_T_api_Thread o_3.1), .sl false 1 (Mi o_3.2.1), .sl false 4 (Mp e_T_api_Packet o_3.2.2.1)]), (1, Vb 27 [.sl false 3 (Mp e_T_api_Thread c_4), .sl false 1 (Mi c_5), .sl false 4 (Mp e_T_api_Packet c_6)]), (2, Vb 27 [.sl false 3 (Mp e_T_api_Thread o_3.2.2.2.1), .sl false 1 (Mi o_3.2.2.2.2.1), .sl false 4 (Mp e_T_api_Packet o_3.2.2.2.2.2)])] 3) ?_ ?_
   ·replace h := h_13
    refine cd 56 (decide (i_1 < (lN (a_1)))) ?_ ?_
    rotate_left
    ·intro g_3; replace h := cond_f g_3 h
     refine sk ?_
     cases h
     exact ⟨rfl, (sw [0, 1, 2] [] [.s 0, .s 1, .s 5, .s 7, .s 9, .s 11] [.s 0, .s 1, .s 2] an)⟩
    intro g_3; replace h := cond_t g_3 h
    refine sq ?_
    obtain ⟨x_1, h_14, h⟩ := bind_some h
    obtain ⟨r_10, h_15, h⟩ := bind_some h
    refine rg [(3, { av := e_T_api_Packet x_1 }), (5, { av := e_T_api_Service r_10, l := [.agg [.sl false 3 (Mp e_T_api_Thread c_1), .sl false 1 (Mi c_2), .sl false 4 (Mp e_T_api_Packet c_3)], e_T_api_Packet x_1, Ii 1] })] [0, 1, 5, 7, 9, 11] [0, 1, 2] 3 [.sl false 4 (Mp e_T_api_Packet a_1), .sl false 4 (Mp e_T_api_Packet b_1), Pp 0, Pp 1, Pp 2, Ii i_1] [Vb 27 (v_T_api_Service r_10), Vb 27 [.sl false 3 (Mp e_T_api_Thread c_4), .sl false 1 (Mi c_5), .sl false 4 (Mp e_T_api_Packet c_6)], Vb 27 [.sl false 3 (Mp e_T_api_Thread c_7), .sl false 1 (Mi c_8), .sl false 4 (Mp e_T_api_Packet c_9)]] hmix (ac (vc_idx h_14 : idxA (Mp e_T_api_Packet a_1) i_1 = some (e_T_api_Packet x_1)) (ar ([.agg [.sl false 3 (Mp e_T_api_Thread c_1), .sl false 1 (Mi c_2), .sl false 4 (Mp e_T_api_Packet c_3)], e_T_api_Packet x_1, Ii 1] : List AV) (ac (rfl : ([] : List BoxSt) = []) (ac (triple_lo (args' := [e_T_api_Service (⟨c_1, c_2, c_3⟩ : T_api_Service), e_T_api_Packet x_1, Ii 1]) (L12_after_ok F (⟨c_1, c_2, c_3⟩ : T_api_Service) x_1 (1 : Int) r_10 h_15) rfl ⟨rfl, rfl, rfl, rfl, rfl, rfl, rfl, rfl, rfl, rfl, rfl, rfl, rfl, rfl, rfl, rfl, trivial⟩ : TripleG prog 25 [] [] [.agg [.sl false 3 (Mp e_T_api_Thread c_1), .sl false 1 (Mi c_2), .sl false 4 (Mp e_T_api_Packet c_3)], e_T_api_Packet x_1, Ii 1] [] (e_T_api_Service r_10)) an)))) ?_
    obtain ⟨x_2, h_16, h⟩ := bind_some h
    obtain ⟨r_11, h_17, h⟩ := bind_some h
    refine rg [(3, { av := e_T_api_Packet x_2 }), (5, { av := e_T_api_Service r_11, l := [.agg [.sl false 3 (Mp e_T_api_Thread c_7), .sl false 1 (Mi c_8), .sl false 4 (Mp e_T_api_Packet c_9)], e_T_api_Packet x_2, Ii 1] })] [0, 1, 5, 7, 9, 11] [0, 1, 2] 3 [.sl false 4 (Mp e_T_api_Packet a_1), .sl false 4 (Mp e_T_api_Packet b_1), Pp 0, Pp 1, Pp 2, Ii i_1] [Vb 27 (v_T_api_Service r_10), Vb 27 [.sl false 3 (Mp e_T_api_Thread c_4), .sl false 1 (Mi c_5), .sl false 4 (Mp e_T_api_Packet c_6)], Vb 27 (v_T_api_Service r_11)] hmix (ac (vc_idx h_16 : idxA (Mp e_T_api_Packet a_1) i_1 = some (e_T_api_Packet x_2)) (ar ([.agg [.sl false 3 (Mp e_T_api_Thread c_7), .sl false 1 (Mi c_8), .sl false 4 (Mp e_T_api_Packet c_9)], e_T_api_Packet x_2, Ii 1] : List AV) (ac (rfl : ([] : List BoxSt) = []) (ac (triple_lo (args' := [e_T_api_Service (⟨c_7, c_8, c_9⟩ : T_api_Service), e_T_api_Packet x_2, Ii 1]) (L12_after_ok F (⟨c_7, c_8, c_9⟩ : T_api_Service) x_2 (1 : Int) r_11 h_17) rfl ⟨rfl, rfl, rfl, rfl, rfl, rfl, rfl, rfl, rfl, rfl, rfl, rfl, rfl, rfl, rfl, rfl, trivial⟩ : TripleG prog 25 [] [] [.agg [.sl false 3 (Mp e_T_api_Thread c_7), .sl false 1 (Mi c_8), .sl false 4 (Mp e_T_api_Packet c_9)], e_T_api_Packet x_2, Ii 1] [] (e_T_api_Service r_11)) an)))) ?_
    cases h
    exact ⟨rfl, (sw [0, 1, 2] [] [.s 0, .s 1, .s 5, .s 7, .s 9, .s 11] [.s 0, .s 1, .s 2] an)⟩
   refine sr [(2, { n := (b_1).length })] [0, 1, 5, 7, 9, 11, 72] [0, 1, 2] 3 [.sl false 4 (Mp e_T_api_Packet a_1), .sl false 4 (Mp e_T_api_Packet b_1), Pp 0, Pp 1, Pp 2, Ii i_1, .bool (decide (i_1 < (lN (b_1))))] [Vb 27 [.sl false 3 (Mp e_T_api_Thread o_3.1), .sl false 1 (Mi o_3.2.1), .sl false 4 (Mp e_T_api_Packet o_3.2.2.1)], Vb 27 [.sl false 3 (Mp e_T_api_Thread c_4), .sl false 1 (Mi c_5), .sl false 4 (Mp e_T_api_Packet c_6)], Vb 27 [.sl false 3 (Mp e_T_api_Thread o_3.2.2.2.1), .sl false 1 (Mi o_3.2.2.2.2.1), .sl false 4 (Mp e_T_api_Packet o_3.2.2.2.2.2)]] hmix (ac (vc_len _ : ((Mp e_T_api_Packet b_1)).length = (b_1).length) an) ?_
   refine cd 72 (decide (i_1 < (lN (b_1)))) ?_ ?_
   rotate_left
   ·intro g_4; replace h := cond_f g_4 h
    refine sk ?_
    cases h
    exact ⟨rfl, (sw [0, 1, 2] [] [.s 0, .s 1, .s 5, .s 7, .s 9, .s 11] [.s 0, .s 1, .s 2] an)⟩
   intro g_4; replace h := cond_t g_4 h
   refine sq ?_
   obtain ⟨x_3, h_18, h⟩ := bind_some h
   obtain ⟨r_12, h_19, h⟩ := bind_some h
   refine rg [(3, { av := e_T_api_Packet x_3 }), (5, { av := e_T_api_Service r_12, l := [.agg [.sl false 3 (Mp e_T_api_Thread c_4), .sl false 1 (Mi c_5), .sl false 4 (Mp e_T_api_Packet c_6)], e_T_api_Packet x_3, Ii 2] })] [0, 1, 5, 7, 9, 11] [0, 1, 2] 3 [.sl false 4 (Mp e_T_api_Packet a_1), .sl false 4 (Mp e_T_api_Packet b_1), Pp 0, Pp 1, Pp 2, Ii i_1] [Vb 27 [.sl false 3 (Mp e_T_api_Thread o_3.1), .sl false 1 (Mi o_3.2.1), .sl false 4 (Mp e_T_api_Packet o_3.2.2.1)], Vb 27 (v_T_api_Service r_12), Vb 27 [.sl false 3 (Mp e_T_api_Thread o_3.2.2.2.1), .sl false 1 (Mi o_3.2.2.2.2.1), .sl false 4 (Mp e_T_api_Packet o_3.2.2.2.2.2)]] hmix (ac (vc_idx h_18 : idxA (Mp e_T_api_Packet b_1) i_1 = some (e_T_api_Packet x_3)) (ar ([.agg [.sl false 3 (Mp e_T_api_Thread c_4), .sl false 1 (Mi c_5), .sl false 4 (Mp e_T_api_Packet c_6)], e_T_api_Packet x_3, Ii 2] : List AV) (ac (rfl : ([] : List BoxSt) = []) (ac (triple_lo (args' := [e_T_api_Service (⟨c_4, c_5, c_6⟩ : T_api_Service), e_T_api_Packet x_3, Ii 2]) (L12_after_ok F (⟨c_4, c_5, c_6⟩ : T_api_Service) x_3 (2 : Int) r_12 h_19) rfl ⟨rfl, rfl, rfl, rfl, rfl, rfl, rfl, rfl, rfl, rfl, rfl, rfl, rfl, rfl, rfl, rfl, trivial⟩ : TripleG prog 25 [] [] [.agg [.sl false 3 (Mp e_T_api_Thread c_4), .sl false 1 (Mi c_5), .sl false 4 (Mp e_T_api_Packet c_6)], e_T_api_Packet x_3, Ii 2] [] (e_T_api_Service r_12)) an)))) ?_
   obtain ⟨x_4, h_20, h⟩ := bind_some h
   obtain ⟨r_13, h_21, h⟩ := bind_some h
   refine rg [(3, { av := e_T_api_Packet x_4 }), (5, { av := e_T_api_Service r_13, l := [.agg [.sl false 3 (Mp e_T_api_Thread o_3.2.2.2.1), .sl false 1 (Mi o_3.2.2.2.2.1), .sl false 4 (Mp e_T_api_Packet o_3.2.2.2.2.2)], e_T_api_Packet x_4, Ii 2] })] [0, 1, 5, 7, 9, 11] [0, 1, 2] 3 [.sl false 4 (Mp e_T_api_Packet a_1), .sl false 4 (Mp e_T_api_Packet b_1), Pp 0, Pp 1, Pp 2, Ii i_1] [Vb 27 [.sl false 3 (Mp e_T_api_Thread o_3.1), .sl false 1 (Mi o_3.2.1), .sl false 4 (Mp e_T_api_Packet o_3.2.2.1)], Vb 27 (v_T_api_Service r_12), Vb 27 (v_T_api_Service r_13)] hmix (ac (vc_idx h_20 : idxA (Mp e_T_api_Packet b_1) i_1 = some (e_T_api_Packet x_4)) (ar ([.agg [.sl false 3 (Mp e_T_api_Thread o_3.2.2.2.1), .sl false 1 (Mi o_3.2.2.2.2.1), .sl false 4 (Mp e_T_api_Packet o_3.2.2.2.2.2)], e_T_api_Packet x_4, Ii 2] : List AV) (ac (rfl : ([] : List BoxSt) = []) (ac (triple_lo (args' := [e_T_api_Service (⟨o_3.2.2.2.1, o_3.2.2.2.2.1, o_3.2.2.2.2.2⟩ : T_api_Service), e_T_api_Packet x_4, Ii 2]) (L12_after_ok F (⟨o_3.2.2.2.1, o_3.2.2.2.2.1, o_3.2.2.2.2.2⟩ : T_api_Service) x_4 (2 : Int) r_13 h_21) rfl ⟨rfl, rfl, rfl, rfl, rfl, rfl, rfl, rfl, rfl, rfl, rfl, rfl, rfl, rfl, rfl, rfl, trivial⟩ : TripleG prog 25 [] [] [.agg [.sl false 3 (Mp e_T_api_Thread o_3.2.2.2.1), .sl false 1 (Mi o_3.2.2.2.2.1), .sl false 4 (Mp e_T_api_Packet o_3.2.2.2.2.2)], e_T_api_Packet x_4, Ii 2] [] (e_T_api_Service r_13)) an)))) ?_
   cases h
   exact ⟨rfl, (sw [0, 1, 2] [] [.s 0, .s 1, .s 5, .s 7, .s 9, .s 11] [.s 0, .s 1, .s 2] an)⟩
  refine rg [] [0, 1, 5, 7, 9, 11] [0, 1, 2] 3 [.sl false 4 (Mp e_T_api_Packet a_1), .sl false 4 (Mp e_T_api_Packet b_1), Pp 0, Pp 1, Pp 2, Ii (w_i64 (i_1 + (1 : Int)))] [Vb 27 [.sl false 3 (Mp e_T_api_Thread o_2.1), .sl false 1 (Mi o_2.2.1), .sl false 4 (Mp e_T_api_Packet o_2.2.2.1)], Vb 27 [.sl false 3 (Mp e_T_api_Thread o_2.2.2.2.1), .sl false 1 (Mi o_2.2.2.2.2.1), .sl false 4 (Mp e_T_api_Packet o_2.2.2.2.2.2.1)], Vb 27 [.sl false 3 (Mp e_T_api_Thread o_2.2.2.2.2.2.2.1), .sl false 1 (Mi o_2.2.2.2.2.2.2.2.1), .sl false 4 (Mp e_T_api_Packet o_2.2.2.2.2.2.2.2.2)]] hmix an ?_
  exact ⟨_, (sw [0, 1, 2] [] [.s 0, .s 1, .s 5, .s 7, .s 9, .s 11] [.s 0, .s 1, .s 2] an), _, _, _, _, _, _, _, _, _, _, rfl, h⟩
 refine sq ?_
 refine sr [] [0, 1, 5, 7, 9, 12] [0, 1, 2] 3 [.sl false 4 (Mp e_T_api_Packet a_1), .sl false 4 (Mp e_T_api_Packet b_1), Pp 0, Pp 1, Pp 2, Ii 0] [Vb 27 [.sl false 3 (Mp e_T_api_Thread o_1.1), .sl false 1 (Mi o_1.2.1), .sl false 4 (Mp e_T_api_Packet o_1.2.2.1)], Vb 27 [.sl false 3 (Mp e_T_api_Thread o_1.2.2.2.1), .sl false 1 (Mi o_1.2.2.2.2.1), .sl false 4 (Mp e_T_api_Packet o_1.2.2.2.2.2.1)], Vb 27 [.sl false 3 (Mp e_T_api_Thread o_1.2.2.2.2.2.2.1), .sl false 1 (Mi o_1.2.2.2.2.2.2.2.1), .sl false 4 (Mp e_T_api_Packet o_1.2.2.2.2.2.2.2.2)]] hmix an ?_
 obtain ⟨o_4, h_22, h⟩ := bind_some h
 refine aw_mid (mk [(0, .sl false 4 (Mp e_T_api_Packet a_1)), (5, Pp 0), (7, Pp 1), (9, Pp 2)] [(0, Vb 27 [.sl false 3 (Mp e_T_api_Thread o_4.1), .sl false 1 (Mi o_4.2.1), .sl false 4 (Mp e_T_api_Packet o_4.2.2)]), (1, Vb 27 [.sl false 3 (Mp e_T_api_Thread o_1.2.2.2.1), .sl false 1 (Mi o_1.2.2.2.2.1), .sl false 4 (Mp e_T_api_Packet o_1.2.2.2.2.2.1)]), (2, Vb 27 [.sl false 3 (Mp e_T_api_Thread o_1.2.2.2.2.2.2.1), .sl false 1 (Mi o_1.2.2.2.2.2.2.2.1), .sl false 4 (Mp e_T_api_Packet o_1.2.2.2.2.2.2.2.2)])] 3) ?_ ?_
 ·replace h := h_22
  refine aw_block (id := 2) (by kernel_rfl) ?_
  refine wk [0, 1, 2] [] [.s 0, .s 1, .s 5, .s 7, .s 9, .s 12] [.s 0, .s 1, .s 2] [(0, .sl false 4 (Mp e_T_api_Packet a_1)), (1, .sl false 4 (Mp e_T_api_Packet b_1)), (5, Pp 0), (7, Pp 1), (9, Pp 2), (12, Ii 0)] [(0, Vb 27 [.sl false 3 (Mp e_T_api_Thread o_1.1), .sl false 1 (Mi o_1.2.1), .sl false 4 (Mp e_T_api_Packet o_1.2.2.1)]), (1, Vb 27 [.sl false 3 (Mp e_T_api_Thread o_1.2.2.2.1), .sl false 1 (Mi o_1.2.2.2.2.1), .sl false 4 (Mp e_T_api_Packet o_1.2.2.2.2.2.1)]), (2, Vb 27 [.sl false 3 (Mp e_T_api_Thread o_1.2.2.2.2.2.2.1), .sl false 1 (Mi o_1.2.2.2.2.2.2.2.1), .sl false 4 (Mp e_T_api_Packet o_1.2.2.2.2.2.2.2.2)])] an ?_
  refine aw_loopF (fun n st => ∃ (i_2 : Int), ∃ (c_10 : List T_api_Thread), ∃ (c_11 : List Int), ∃ (c_12 : List T_api_Packet), st = mk [(0, .sl false 4 (Mp e_T_api_Packet a_1)), (1, .sl false 4 (Mp e_T_api_Packet b_1)), (5, Pp 0), (7, Pp 1), (9, Pp 2), (12, Ii i_2)] [(0, Vb 27 [.sl false 3 (Mp e_T_api_Thread c_10), .sl false 1 (Mi c_11), .sl false 4 (Mp e_T_api_Packet c_12)]), (1, Vb 27 [.sl false 3 (Mp e_T_api_Thread o_1.2.2.2.1), .sl false 1 (Mi o_1.2.2.2.2.1), .sl false 4 (Mp e_T_api_Packet o_1.2.2.2.2.2.1)]), (2, Vb 27 [.sl false 3 (Mp e_T_api_Thread o_1.2.2.2.2.2.2.1), .sl false 1 (Mi o_1.2.2.2.2.2.2.2.1), .sl false 4 (Mp e_T_api_Packet o_1.2.2.2.2.2.2.2.2)])] 3 ∧ L12_DrainOrder_L2 F b_1 n i_2 c_10 c_11 c_12 = some o_4) F (by kernel_rfl) ⟨_, _, _, _, rfl, h⟩ ?_ ?_
  ·rintro _ ⟨_, _, _, _, _, h⟩; exact none_ne (h : (none : Option ((List T_api_Thread) × (List Int) × (List T_api_Packet))) = some o_4)
  rintro n_2 _ ⟨i_2, c_10, c_11, c_12, rfl, h⟩
  replace h : L12_DrainOrder_L2_body F b_1 (L12_DrainOrder_L2 F b_1 n_2) i_2 c_10 c_11 c_12 = some o_4 := h
  unfold L12_DrainOrder_L2_body at h
  refine sq ?_
  refine sr [(2, { n := (b_1).length })] [0, 1, 5, 7, 9, 12, 88] [0, 1, 2] 3 [.sl false 4 (Mp e_T_api_Packet a_1), .sl false 4 (Mp e_T_api_Packet b_1), Pp 0, Pp 1, Pp 2, Ii i_2, .bool (decide (i_2 < (lN (b_1))))] [Vb 27 [.sl false 3 (Mp e_T_api_Thread c_10), .sl false 1 (Mi c_11), .sl false 4 (Mp e_T_api_Packet c_12)], Vb 27 [.sl false 3 (Mp e_T_api_Thread o_1.2.2.2.1), .sl false 1 (Mi o_1.2.2.2.2.1), .sl false 4 (Mp e_T_api_Packet o_1.2.2.2.2.2.1)], Vb 27 [.sl false 3 (Mp e_T_api_Thread o_1.2.2.2.2.2.2.1), .sl false 1 (Mi o_1.2.2.2.2.2.2.2.1), .sl false 4 (Mp e_T_api_Packet o_1.2.2.2.2.2.2.2.2)]] hmix (ac (vc_len _ : ((Mp e_T_api_Packet b_1)).length = (b_1).length) an) ?_
  refine cd 88 (decide (i_2 < (lN (b_1)))) ?_ ?_
  rotate_left
  ·intro g_5; replace h := cond_f g_5 h
   refine aw_exit (id := 2) (by kernel_rfl) ?_
   cases h
   exact ⟨rfl, (sw [0, 1, 2] [] [.s 0, .s 5, .s 7, .s 9] [.s 0, .s 1, .s 2] an)⟩
  intro g_5; replace h := cond_t g_5 h
  refine sk ?_
  refine sq ?_
  refine aw_block (id := 3) (by kernel_rfl) ?_
  obtain ⟨x_5, h_23, h⟩ := bind_some h
  obtain ⟨r_14, h_24, h⟩ := bind_some h
  refine rg [(3, { av := e_T_api_Packet x_5 }), (5, { av := e_T_api_Service r_14, l := [.agg [.sl false 3 (Mp e_T_api_Thread c_10), .sl false 1 (Mi c_11), .sl false 4 (Mp e_T_api_Packet c_12)], e_T_api_Packet x_5, Ii 2] })] [0, 1, 5, 7, 9, 12] [0, 1, 2] 3 [.sl false 4 (Mp e_T_api_Packet a_1), .sl false 4 (Mp e_T_api_Packet b_1), Pp 0, Pp 1, Pp 2, Ii i_2] [Vb 27 (v_T_api_Service r_14), Vb 27 [.sl false 3 (Mp e_T_api_Thread o_1.2.2.2.1), .sl false 1 (Mi o_1.2.2.2.2.1), .sl false 4 (Mp e_T_api_Packet o_1.2.2.2.2.2.1)], Vb 27 [.sl false 3 (Mp e_T_api_Thread o_1.2.2.2.2.2.2.1), .sl false 1 (Mi o_1.2.2.2.2.2.2.2.1), .sl false 4 (Mp e_T_api_Packet o_1.2.2.2.2.2.2.2.2)]] hmix (ac (vc_idx h_23 : idxA (Mp e_T_api_Packet b_1) i_2 = some (e_T_api_Packet x_5)) (ar ([.agg [.sl false 3 (Mp e_T_api_Thread c_10), .sl false 1 (Mi c_11), .sl false 4 (Mp e_T_api_Packet c_12)], e_T_api_Packet x_5, Ii 2] : List AV) (ac (rfl : ([] : List BoxSt) = []) (ac (triple_lo (args' := [e_T_api_Service (⟨c_10, c_11, c_12⟩ : T_api_Service), e_T_api_Packet x_5, Ii 2]) (L12_after_ok F (⟨c_10, c_11, c_12⟩ : T_api_Service) x_5 (2 : Int) r_14 h_24) rfl ⟨rfl, rfl, rfl, rfl, rfl, rfl, rfl, rfl, rfl, rfl, rfl, rfl, rfl, rfl, rfl, rfl, trivial⟩ : TripleG prog 25 [] [] [.agg [.sl false 3 (Mp e_T_api_Thread c_10), .sl false 1 (Mi c_11), .sl false 4 (Mp e_T_api_Packet c_12)], e_T_api_Packet x_5, Ii 2] [] (e_T_api_Service r_14)) an)))) ?_
  refine rg [] [0, 1, 5, 7, 9, 12] [0, 1, 2] 3 [.sl false 4 (Mp e_T_api_Packet a_1), .sl false 4 (Mp e_T_api_Packet b_1), Pp 0, Pp 1, Pp 2, Ii (w_i64 (i_2 + (1 : Int)))] [Vb 27 (v_T_api_Service r_14), Vb 27 [.sl false 3 (Mp e_T_api_Thread o_1.2.2.2.1), .sl false 1 (Mi o_1.2.2.2.2.1), .sl false 4 (Mp e_T_api_Packet o_1.2.2.2.2.2.1)], Vb 27 [.sl false 3 (Mp e_T_api_Thread o_1.2.2.2.2.2.2.1), .sl false 1 (Mi o_1.2.2.2.2.2.2.2.1), .sl false 4 (Mp e_T_api_Packet o_1.2.2.2.2.2.2.2.2)]] hmix an ?_
  exact ⟨_, (sw [0, 1, 2] [] [.s 0, .s 1, .s 5, .s 7, .s 9, .s 12] [.s 0, .s 1, .s 2] an), _, _, _, _, rfl, h⟩
 refine sq ?_
 refine sr [] [0, 5, 7, 9, 13] [0, 1, 2] 3 [.sl false 4 (Mp e_T_api_Packet a_1), Pp 0, Pp 1, Pp 2, Ii 0] [Vb 27 [.sl false 3 (Mp e_T_api_Thread o_4.1), .sl false 1 (Mi o_4.2.1), .sl false 4 (Mp e_T_api_Packet o_4.2.2)], Vb 27 [.sl false 3 (Mp e_T_api_Thread o_1.2.2.2.1), .sl false 1 (Mi o_1.2.2.2.2.1), .sl false 4 (Mp e_T_api_Packet o_1.2.2.2.2.2.1)], Vb 27 [.sl false 3 (Mp e_T_api_Thread o_1.2.2.2.2.2.2.1), .sl false 1 (Mi o_1.2.2.2.2.2.2.2.1), .sl false 4 (Mp e_T_api_Packet o_1.2.2.2.2.2.2.2.2)]] hmix an ?_
 obtain ⟨o_5, h_25, h⟩ := bind_some h
 refine aw_mid (mk [(5, Pp 0), (7, Pp 1), (9, Pp 2)] [(0, Vb 27 [.sl false 3 (Mp e_T_api_Thread o_4.1), .sl false 1 (Mi o_4.2.1), .sl false 4 (Mp e_T_api_Packet o_4.2.2)]), (1, Vb 27 [.sl false 3 (Mp e_T_api_Thread o_5.1), .sl false 1 (Mi o_5.2.1), .sl false 4 (Mp e_T_api_Packet o_5.2.2)]), (2, Vb 27 [.sl false 3 (Mp e_T_api_Thread o_1.2.2.2.2.2.2.1), .sl false 1 (Mi o_1.2.2.2.2.2.2.2.1), .sl false 4 (Mp e_T_api_Packet o_1.2.2.2.2.2.2.2.2)])] 3) ?_ ?_
 ·replace h := h_25
  refine aw_block (id := 4) (by kernel_rfl) ?_
  refine wk [0, 1, 2] [] [.s 0, .s 5, .s 7, .s 9, .s 13] [.s 0, .s 1, .s 2] [(0, .sl false 4 (Mp e_T_api_Packet a_1)), (5, Pp 0), (7, Pp 1), (9, Pp 2), (13, Ii 0)] [(0, Vb 27 [.sl false 3 (Mp e_T_api_Thread o_4.1), .sl false 1 (Mi o_4.2.1), .sl false 4 (Mp e_T_api_Packet o_4.2.2)]), (1, Vb 27 [.sl false 3 (Mp e_T_api_Thread o_1.2.2.2.1), .sl false 1 (Mi o_1.2.2.2.2.1), .sl false 4 (Mp e_T_api_Packet o_1.2.2.2.2.2.1)]), (2, Vb 27 [.sl false 3 (Mp e_T_api_Thread o_1.2.2.2.2.2.2.1), .sl false 1 (Mi o_1.2.2.2.2.2.2.2.1), .sl false 4 (Mp e_T_api_Packet o_1.2.2.2.2.2.2.2.2)])] an ?_
  refine aw_loopF (fun n st => ∃ (i_3 : Int), ∃ (c_13 : List T_api_Thread), ∃ (c_14 : List Int), ∃ (c_15 : List T_api_Packet), st = mk [(0, .sl false 4 (Mp e_T_api_Packet a_1)), (5, Pp 0), (7, Pp 1), (9, Pp 2), (13, Ii i_3)] [(0, Vb 27 [.sl false 3 (Mp e_T_api_Thread o_4.1), .sl false 1 (Mi o_4.2.1), .sl false 4 (Mp e_T_api_Packet o_4.2.2)]), (1, Vb 27 [.sl false 3 (Mp e_T_api_Thread c_13), .sl false 1 (Mi c_14), .sl false 4 (Mp e_T_api_Packet c_15)]), (2, Vb 27 [.sl false 3 (Mp e_T_api_Thread o_1.2.2.2.2.2.2.1), .sl false 1 (Mi o_1.2.2.2.2.2.2.2.1), .sl false 4 (Mp e_T_api_Packet o_1.2.2.2.2.2.2.2.2)])] 3 ∧ L12_DrainOrder_L3 F a_1 n i_3 c_13 c_14 c_15 = some o_5) F (by kernel_rfl) ⟨_, _, _, _, rfl, h⟩ ?_ ?_
  ·rintro _ ⟨_, _, _, _, _, h⟩; exact none_ne (h : (none : Option ((List T_api_Thread) × (List Int) × (List T_api_Packet))) = some o_5)
  rintro n_3 _ ⟨i_3, c_13, c_14, c_15, rfl, h⟩
  replace h : L12_DrainOrder_L3_body F a_1 (L12_DrainOrder_L3 F a_1 n_3) i_3 c_13 c_14 c_15 = some o_5 := h
  unfold L12_DrainOrder_L3_body at h
  refine sq ?_
  refine sr [(2, { n := (a_1).length })] [0, 5, 7, 9, 13, 100] [0, 1, 2] 3 [.sl false 4 (Mp e_T_api_Packet a_1), Pp 0, Pp 1, Pp 2, Ii i_3, .bool (decide (i_3 < (lN (a_1))))] [Vb 27 [.sl false 3 (Mp e_T_api_Thread o_4.1), .sl false 1 (Mi o_4.2.1), .sl false 4 (Mp e_T_api_Packet o_4.2.2)], Vb 27 [.sl false 3 (Mp e_T_api_Thread c_13), .sl false 1 (Mi c_14), .sl false 4 (Mp e_T_api_Packet c_15)], Vb 27 [.sl false 3 (Mp e_T_api_Thread o_1.2.2.2.2.2.2.1), .sl false 1 (Mi o_1.2.2.2.2.2.2.2.1), .sl false 4 (Mp e_T_api_Packet o_1.2.2.2.2.2.2.2.2)]] hmix (ac (vc_len _ : ((Mp e_T_api_Packet a_1)).length = (a_1).length) an) ?_
  refine cd 100 (decide (i_3 < (lN (a_1)))) ?_ ?_
  rotate_left
  ·intro g_6; replace h := cond_f g_6 h
   refine aw_exit (id := 4) (by kernel_rfl) ?_
   cases h
   exact ⟨rfl, (sw [0, 1, 2] [] [.s 5, .s 7, .s 9] [.s 0, .s 1, .s 2] an)⟩
  intro g_6; replace h := cond_t g_6 h
  refine sk ?_
  refine sq ?_
  refine aw_block (id := 5) (by kernel_rfl) ?_
  obtain ⟨x_6, h_26, h⟩ := bind_some h
  obtain ⟨r_15, h_27, h⟩ := bind_some h
  refine rg [(3, { av := e_T_api_Packet x_6 }), (5, { av := e_T_api_Service r_15, l := [.agg [.sl false 3 (Mp e_T_api_Thread c_13), .sl false 1 (Mi c_14), .sl false 4 (Mp e_T_api_Packet c_15)], e_T_api_Packet x_6, Ii 1] })] [0, 5, 7, 9, 13] [0, 1, 2] 3 [.sl false 4 (Mp e_T_api_Packet a_1), Pp 0, Pp 1, Pp 2, Ii i_3] [Vb 27 [.sl false 3 (Mp e_T_api_Thread o_4.1), .sl false 1 (Mi o_4.2.1), .sl false 4 (Mp e_T_api_Packet o_4.2.2)], Vb 27 (v_T_api_Service r_15), Vb 27 [.sl false 3 (Mp e_T_api_Thread o_1.2.2.2.2.2.2.1), .sl false 1 (Mi o_1.2.2.2.2.2.2.2.1), .sl false 4 (Mp e_T_api_Packet o_1.2.2.2.2.2.2.2.2)]] hmix (ac (vc_idx h_26 : idxA (Mp e_T_api_Packet a_1) i_3 = some (e_T_api_Packet x_6)) (ar ([.agg [.sl false 3 (Mp e_T_api_Thread c_13), .sl false 1 (Mi c_14), .sl false 4 (Mp e_T_api_Packet c_15)], e_T_api_Packet x_6, Ii 1] : List AV) (ac (rfl : ([] : List BoxSt) = []) (ac (triple_lo (args' := [e_T_api_Service (⟨c_13, c_14, c_15⟩ : T_api_Service), e_T_api_Packet x_6, Ii 1]) (L12_after_ok F (⟨c_13, c_14, c_15⟩ : T_api_Service) x_6 (1 : Int) r_15 h_27) rfl ⟨rfl, rfl, rfl, rfl, rfl, rfl, rfl, rfl, rfl, rfl, rfl, rfl, rfl, rfl, rfl, rfl, trivial⟩ : TripleG prog 25 [] [] [.agg [.sl false 3 (Mp e_T_api_Thread c_13), .sl false 1 (Mi c_14), .sl false 4 (Mp e_T_api_Packet c_15)], e_T_api_Packet x_6, Ii 1] [] (e_T_api_Service r_15)) an)))) ?_
  refine rg [] [0, 5, 7, 9, 13] [0, 1, 2] 3 [.sl false 4 (Mp e_T_api_Packet a_1), Pp 0, Pp 1, Pp 2, Ii (w_i64 (i_3 + (1 : Int)))] [Vb 27 [.sl false 3 (Mp e_T_api_Thread o_4.1), .sl false 1 (Mi o_4.2.1), .sl false 4 (Mp e_T_api_Packet o_4.2.2)], Vb 27 (v_T_api_Service r_15), Vb 27 [.sl false 3 (Mp e_T_api_Thread o_1.2.2.2.2.2.2.1), .sl false 1 (Mi o_1.2.2.2.2.2.2.2.1), .sl false 4 (Mp e_T_api_Packet o_1.2.2.2.2.2.2.2.2)]] hmix an ?_
  exact ⟨_, (sw [0, 1, 2] [] [.s 0, .s 5, .s 7, .s 9, .s 13] [.s 0, .s 1, .s 2] an), _, _, _, _, rfl, h⟩
 refine sq ?_
 obtain ⟨r_16, h_28, h⟩ := bind_some h
 refine rg [(1, { av := .tuple [.own 0 ((r_16.1).length), e_T_api_Service r_16.2], ids := [3], l := [.agg [.sl false 3 (Mp e_T_api_Thread o_4.1), .sl false 1 (Mi o_4.2.1), .sl false 4 (Mp e_T_api_Packet o_4.2.2)]], post := [(.row 43 4 (Mp e_T_api_Packet r_16.1))] }), (5, { id := 4 })] [7, 9, 14] [1, 2, 3] 5 [Pp 1, Pp 2, .own 3 ((r_16.1).length)] [Vb 27 [.sl false 3 (Mp e_T_api_Thread o_5.1), .sl false 1 (Mi o_5.2.1), .sl false 4 (Mp e_T_api_Packet o_5.2.2)], Vb 27 [.sl false 3 (Mp e_T_api_Thread o_1.2.2.2.2.2.2.1), .sl false 1 (Mi o_1.2.2.2.2.2.2.2.1), .sl false 4 (Mp e_T_api_Packet o_1.2.2.2.2.2.2.2.2)], Rb 43 4 (Mp e_T_api_Packet r_16.1)] hmix (ar ([.agg [.sl false 3 (Mp e_T_api_Thread o_4.1), .sl false 1 (Mi o_4.2.1), .sl false 4 (Mp e_T_api_Packet o_4.2.2)]] : List AV) (ac (rfl : ([] : List BoxSt) = []) (ac (triple_lo (args' := [e_T_api_Service (⟨o_4.1, o_4.2.1, o_4.2.2⟩ : T_api_Service)]) (drain_Flush_ok F (⟨o_4.1, o_4.2.1, o_4.2.2⟩ : T_api_Service) r_16 h_28) rfl ⟨rfl, rfl, rfl, rfl, rfl, rfl, rfl, rfl, rfl, trivial⟩ : TripleG prog 17 [] [] [.agg [.sl false 3 (Mp e_T_api_Thread o_4.1), .sl false 1 (Mi o_4.2.1), .sl false 4 (Mp e_T_api_Packet o_4.2.2)]] [(.row 43 4 (Mp e_T_api_Packet r_16.1))] (.tuple [.own 0 ((r_16.1).length), e_T_api_Service r_16.2])) an))) ?_
 refine sq ?_
 obtain ⟨r_17, h_29, h⟩ := bind_some h
 refine rg [(1, { av := .tuple [.own 0 ((r_17.1).length), e_T_api_Service r_17.2], ids := [5], l := [.agg [.sl false 3 (Mp e_T_api_Thread o_5.1), .sl false 1 (Mi o_5.2.1), .sl false 4 (Mp e_T_api_Packet o_5.2.2)]], post := [(.row 43 4 (Mp e_T_api_Packet r_17.1))] }), (5, { id := 6 })] [9, 14, 16] [2, 3, 5] 7 [Pp 2, .own 3 ((r_16.1).length), .own 5 ((r_17.1).length)] [Vb 27 [.sl false 3 (Mp e_T_api_Thread o_1.2.2.2.2.2.2.1), .sl false 1 (Mi o_1.2.2.2.2.2.2.2.1), .sl false 4 (Mp e_T_api_Packet o_1.2.2.2.2.2.2.2.2)], Rb 43 4 (Mp e_T_api_Packet r_16.1), Rb 43 4 (Mp e_T_api_Packet r_17.1)] hmix (ar ([.agg [.sl false 3 (Mp e_T_api_Thread o_5.1), .sl false 1 (Mi o_5.2.1), .sl false 4 (Mp e_T_api_Packet o_5.2.2)]] : List AV) (ac (rfl : ([] : List BoxSt) = []) (ac (triple_lo (args' := [e_T_api_Service (⟨o_5.1, o_5.2.1, o_5.2.2⟩ : T_api_Service)]) (drain_Flush_ok F (⟨o_5.1, o_5.2.1, o_5.2.2⟩ : T_api_Service) r_17 h_29) rfl ⟨rfl, rfl, rfl, rfl, rfl, rfl, rfl, rfl, rfl, trivial⟩ : TripleG prog 17 [] [] [.agg [.sl false 3 (Mp e_T_api_Thread o_5.1), .sl false 1 (Mi o_5.2.1), .sl false 4 (Mp e_T_api_Packet o_5.2.2)]] [(.row 43 4 (Mp e_T_api_Packet r_17.1))] (.tuple [.own 0 ((r_17.1).length), e_T_api_Service r_17.2])) an))) ?_
 refine sq ?_
 obtain ⟨r_18, h_30, h⟩ := bind_some h
 refine rg [(1, { av := .tuple [.own 0 ((r_18.1).length), e_T_api_Service r_18.2], ids := [7], l := [.agg [.sl false 3 (Mp e_T_api_Thread o_1.2.2.2.2.2.2.1), .sl false 1 (Mi o_1.2.2.2.2.2.2.2.1), .sl false 4 (Mp e_T_api_Packet o_1.2.2.2.2.2.2.2.2)]], post := [(.row 43 4 (Mp e_T_api_Packet r_18.1))] }), (5, { id := 8 })] [14, 16, 18] [3, 5, 7] 9 [.own 3 ((r_16.1).length), .own 5 ((r_17.1).length), .own 7 ((r_18.1).length)] [Rb 43 4 (Mp e_T_api_Packet r_16.1), Rb 43 4 (Mp e_T_api_Packet r_17.1), Rb 43 4 (Mp e_T_api_Packet r_18.1)] hmix (ar ([.agg [.sl false 3 (Mp e_T_api_Thread o_1.2.2.2.2.2.2.1), .sl false 1 (Mi o_1.2.2.2.2.2.2.2.1), .sl false 4 (Mp e_T_api_Packet o_1.2.2.2.2.2.2.2.2)]] : List AV) (ac (rfl : ([] : List BoxSt) = []) (ac (triple_lo (args' := [e_T_api_Service (⟨o_1.2.2.2.2.2.2.1, o_1.2.2.2.2.2.2.2.1, o_1.2.2.2.2.2.2.2.2⟩ : T_api_Service)]) (drain_Flush_ok F (⟨o_1.2.2.2.2.2.2.1, o_1.2.2.2.2.2.2.2.1, o_1.2.2.2.2.2.2.2.2⟩ : T_api_Service) r_18 h_30) rfl ⟨rfl, rfl, rfl, rfl, rfl, rfl, rfl, rfl, rfl, trivial⟩ : TripleG prog 17 [] [] [.agg [.sl false 3 (Mp e_T_api_Thread o_1.2.2.2.2.2.2.1), .sl false 1 (Mi o_1.2.2.2.2.2.2.2.1), .sl false 4 (Mp e_T_api_Packet o_1.2.2.2.2.2.2.2.2)]] [(.row 43 4 (Mp e_T_api_Packet r_18.1))] (.tuple [.own 0 ((r_18.1).length), e_T_api_Service r_18.2])) an))) ?_
 refine sq ?_
 obtain ⟨p_2, h_34, h⟩ := bind_some h
 refine aw_mid (mk [(4, .bool p_2)] [] 0) ?_ ?_
 ·replace h := h_34
  obtain ⟨r_19, h_31, h⟩ := bind_some h
  rcases Bool.eq_false_or_eq_true r_19 with gg_2 | gg_2
  ·replace h := cond_t gg_2 h
   obtain ⟨r_20, h_32, h⟩ := bind_some h
   rcases Bool.eq_false_or_eq_true r_20 with gg_3 | gg_3
   ·replace h := cond_t gg_3 h
    obtain ⟨r_21, h_33, h⟩ := bind_some h
    refine rg [(2, { av := .bool r_19, frz := [5], l := [.sl false 4 (Mp e_T_api_Packet r_16.1), .sl false 4 (Mp e_T_api_Packet r_17.1)], lend := [3] }), (6, { av := .bool r_20, frz := [3, 7], l := [.sl false 4 (Mp e_T_api_Packet r_16.1), .sl false 4 (Mp e_T_api_Packet r_18.1)] }), (7, Ht), (9, { av := .bool r_21, l := [] }), (10, Ht)] [4] [] 9 [.bool r_21] [] hmix (ac (by first | (simp; done) | (simp; omega) : (r_17.1).length = ((List.map e_T_api_Packet r_17.1)).length) (ac (by first | (simp; done) | (simp; omega) : (r_16.1).length = ((List.map e_T_api_Packet r_16.1)).length) (ar ([.sl false 4 (Mp e_T_api_Packet r_16.1), .sl false 4 (Mp e_T_api_Packet r_17.1)] : List AV) (ac (rfl : ([] : List BoxSt) = []) (ac (R12_SamePackets_ok F r_16.1 r_17.1 r_19 h_31 : TripleG prog 20 [] [] [.sl false 4 (Mp e_T_api_Packet r_16.1), .sl false 4 (Mp e_T_api_Packet r_17.1)] [] (.bool r_19)) (ac gg_2 (ac gg_2 (ac gg_2 (ac (by first | (simp; done) | (simp; omega) : (r_16.1).length = ((List.map e_T_api_Packet r_16.1)).length) (ac (by first | (simp; done) | (simp; omega) : (r_18.1).length = ((List.map e_T_api_Packet r_18.1)).length) (ar ([.sl false 4 (Mp e_T_api_Packet r_16.1), .sl false 4 (Mp e_T_api_Packet r_18.1)] : List AV) (ac (rfl : ([] : List BoxSt) = []) (ac (R12_SamePackets_ok F r_16.1 r_18.1 r_20 h_32 : TripleG prog 20 [] [] [.sl false 4 (Mp e_T_api_Packet r_16.1), .sl false 4 (Mp e_T_api_Packet r_18.1)] [] (.bool r_20)) (ac gg_2 (ac gg_3 (ar ([] : List AV) (ac (rfl : ([] : List BoxSt) = []) (ac (L12_awake_ok F r_21 h_33 : TripleG prog 9 [] [] [] [] (.bool r_21)) (ac gg_3 an))))))))))))))))))) ?_
    cases h
    exact ⟨rfl, (sw [] [] [.s 4] [] an)⟩
   ·replace h := cond_f gg_3 h
    refine rg [(2, { av := .bool r_19, frz := [5], l := [.sl false 4 (Mp e_T_api_Packet r_16.1), .sl false 4 (Mp e_T_api_Packet r_17.1)], lend := [3] }), (6, { av := .bool r_20, frz := [3, 7], l := [.sl false 4 (Mp e_T_api_Packet r_16.1), .sl false 4 (Mp e_T_api_Packet r_18.1)] }), (7, Ht), (9, Hg), (10, Hf)] [4] [] 9 [.bool false] [] hmix (ac (by first | (simp; done) | (simp; omega) : (r_17.1).length = ((List.map e_T_api_Packet r_17.1)).length) (ac (by first | (simp; done) | (simp; omega) : (r_16.1).length = ((List.map e_T_api_Packet r_16.1)).length) (ar ([.sl false 4 (Mp e_T_api_Packet r_16.1), .sl false 4 (Mp e_T_api_Packet r_17.1)] : List AV) (ac (rfl : ([] : List BoxSt) = []) (ac (R12_SamePackets_ok F r_16.1 r_17.1 r_19 h_31 : TripleG prog 20 [] [] [.sl false 4 (Mp e_T_api_Packet r_16.1), .sl false 4 (Mp e_T_api_Packet r_17.1)] [] (.bool r_19)) (ac gg_2 (ac gg_2 (ac gg_2 (ac (by first | (simp; done) | (simp; omega) : (r_16.1).length = ((List.map e_T_api_Packet r_16.1)).length) (ac (by first | (simp; done) | (simp; omega) : (r_18.1).length = ((List.map e_T_api_Packet r_18.1)).length) (ar ([.sl false 4 (Mp e_T_api_Packet r_16.1), .sl false 4 (Mp e_T_api_Packet r_18.1)] : List AV) (ac (rfl : ([] : List BoxSt) = []) (ac (R12_SamePackets_ok F r_16.1 r_18.1 r_20 h_32 : TripleG prog 20 [] [] [.sl false 4 (Mp e_T_api_Packet r_16.1), .sl false 4 (Mp e_T_api_Packet r_18.1)] [] (.bool r_20)) (ac gg_2 (ac gg_3 (ac gg_3 an)))))))))))))))) ?_
    cases h
    exact ⟨rfl, (sw [] [] [.s 4] [] an)⟩
  ·replace h := cond_f gg_2 h
   refine rg [(2, { av := .bool r_19, frz := [5], l := [.sl false 4 (Mp e_T_api_Packet r_16.1), .sl false 4 (Mp e_T_api_Packet r_17.1)], lend := [3] }), (4, Hg), (5, Hg), (6, Hg), (7, Hf), (9, Hg), (10, Hf)] [4] [] 9 [.bool false] [] hmix (ac (by first | (simp; done) | (simp; omega) : (r_17.1).length = ((List.map e_T_api_Packet r_17.1)).length) (ac (by first | (simp; done) | (simp; omega) : (r_16.1).length = ((List.map e_T_api_Packet r_16.1)).length) (ar ([.sl false 4 (Mp e_T_api_Packet r_16.1), .sl false 4 (Mp e_T_api_Packet r_17.1)] : List AV) (ac (rfl : ([] : List BoxSt) = []) (ac (R12_SamePackets_ok F r_16.1 r_17.1 r_19 h_31 : TripleG prog 20 [] [] [.sl false 4 (Mp e_T_api_Packet r_16.1), .sl false 4 (Mp e_T_api_Packet r_17.1)] [] (.bool r_19)) (ac gg_2 (ac gg_2 (ac gg_2 (ac gg_2 (ac (rfl : false = !true) (ar false an))))))))))) ?_
   cases h
   exact ⟨rfl, (sw [] [] [.s 4] [] an)⟩
 refine rt ?_
 cases h
 exact ⟨.inr rfl, Nat.le_of_ble_eq_true rfl, by kernel_rfl⟩

end Go.Ab
