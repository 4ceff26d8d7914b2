/- Printed: the typed Lean functions of the Go functions, or the proofs that the Go functions meet them. No conditions but those that the theorems name. -/
import Derived.Test.YtpdbjocgoheapaaP12x3
namespace Go.Ab
open Go
set_option linter.unusedVariables false
theorem L12_DrainKeeps_ok (F : Nat) (threads_1 : List (T_api_Thread)) (l_1 : List (T_api_Packet)) (r : Bool) (h : L12_DrainKeeps F threads_1 l_1 = some r) : TripleG prog 8 [] [] [.sl false 3 (Mp e_T_api_Thread threads_1), .sl false 4 (Mp e_T_api_Packet l_1)] [] (.bool r) := by
 refine triple_intro (fn := Go.Proofs.Try.f8) (code := codeOf Go.Proofs.Try.f8) (by kernel_rfl) (by kernel_rfl) (Nat.le_of_ble_eq_true (by kernel_rfl)) ?_
 unfold L12_DrainKeeps at h
 refine sr [] [0, 1] [] 0 [.sl false 3 (Mp e_T_api_Thread threads_1), .sl false 4 (Mp e_T_api_Packet l_1)] [] hmix an ?_
 refine sq ?_
 refine sq ?_
 obtain ⟨p_1, h_2, h⟩ := bind_some h
 refine aw_mid (mk [(0, .sl false 3 (Mp e_T_api_Thread threads_1)), (1, .sl false 4 (Mp e_T_api_Packet l_1)), (27, .bool p_1)] [] 0) ?_ ?_
 ·replace h := h_2
  rcases bft (decide ((lN (threads_1)) > (70 : Int))) with gg_1 | gg_1
  ·replace h := cond_t gg_1 h
   refine rg [(1, { n := (threads_1).length }), (4, Hg), (5, Hg), (6, Hg), (7, Ht)] [0, 1, 27] [] 0 [.sl false 3 (Mp e_T_api_Thread threads_1), .sl false 4 (Mp e_T_api_Packet l_1), .bool true] [] hmix (ac (vc_len _ : ((Mp e_T_api_Thread threads_1)).length = (threads_1).length) (ac gg_1 (ac gg_1 (ac gg_1 (ac gg_1 an))))) ?_
   cases h
   exact ⟨rfl, (sw [] [] [.s 0, .s 1, .s 27] [] an)⟩
  ·replace h := cond_f gg_1 h
   obtain ⟨r_1, h_1, h⟩ := bind_some h
   refine rg [(1, { n := (threads_1).length }), (5, { av := .bool r_1, l := [.sl false 4 (Mp e_T_api_Packet l_1)] }), (7, Hf)] [0, 1, 27] [] 0 [.sl false 3 (Mp e_T_api_Thread threads_1), .sl false 4 (Mp e_T_api_Packet l_1), .bool (!r_1)] [] hmix (ac (vc_len _ : ((Mp e_T_api_Thread threads_1)).length = (threads_1).length) (ac gg_1 (ac gg_1 (ar ([.sl false 4 (Mp e_T_api_Packet l_1)] : List AV) (ac (rfl : ([] : List BoxSt) = []) (ac (L12_small_ok F l_1 r_1 h_1 : TripleG prog 21 [] [] [.sl false 4 (Mp e_T_api_Packet l_1)] [] (.bool r_1)) (ac gg_1 (ac gg_1 an)))))))) ?_
   cases h
   exact ⟨rfl, (sw [] [] [.s 0, .s 1, .s 27] [] an)⟩
 refine cd 27 p_1 ?_ ?_
 ·intro g_1; replace h := cond_t g_1 h
  refine sq ?_
  obtain ⟨r_2, h_3, h⟩ := bind_some h
  refine rg [(0, { av := .bool r_2, l := [] })] [4] [] 0 [.bool r_2] [] hmix (ar ([] : List AV) (ac (rfl : ([] : List BoxSt) = []) (ac (L12_awake_ok F r_2 h_3 : TripleG prog 9 [] [] [] [] (.bool r_2)) an))) ?_
  refine rt ?_
  cases h
  exact ⟨.inr rfl, Nat.le_of_ble_eq_true rfl, by kernel_rfl⟩
 intro g_1; replace h := cond_f g_1 h
 refine sk ?_
 refine sq ?_
 obtain ⟨r_3, h_4, h⟩ := bind_some h
 refine rg [(1, { av := .tuple [e_T_api_Service r_3.1, Ii r_3.2], l := [.sl false 3 (Mp e_T_api_Thread threads_1)] }), (5, { id := 0 })] [1, 5, 6] [0] 1 [.sl false 4 (Mp e_T_api_Packet l_1), Pp 0, Ii r_3.2] [Vb 27 (v_T_api_Service r_3.1)] hmix (ar ([.sl false 3 (Mp e_T_api_Thread threads_1)] : List AV) (ac (rfl : ([] : List BoxSt) = []) (ac (drain_New_ok F threads_1 r_3 h_4 : TripleG prog 10 [] [] [.sl false 3 (Mp e_T_api_Thread threads_1)] [] (.tuple [e_T_api_Service r_3.1, Ii r_3.2])) an))) ?_
 refine sq ?_
 refine sr [] [1, 5, 35] [0] 1 [.sl false 4 (Mp e_T_api_Packet l_1), Pp 0, .bool (r_3.2 != (0 : Int))] [Vb 27 (v_T_api_Service r_3.1)] hmix an ?_
 refine cd 35 (r_3.2 != (0 : Int)) ?_ ?_
 ·intro g_2; replace h := cond_t g_2 h
  refine sq ?_
  obtain ⟨r_4, h_5, h⟩ := bind_some h
  refine rg [(0, { av := .bool r_4, l := [] })] [4] [] 1 [.bool r_4] [] hmix (ar ([] : List AV) (ac (rfl : ([] : List BoxSt) = []) (ac (L12_awake_ok F r_4 h_5 : TripleG prog 9 [] [] [] [] (.bool r_4)) an))) ?_
  refine rt ?_
  cases h
  exact ⟨.inr rfl, Nat.le_of_ble_eq_true rfl, by kernel_rfl⟩
 intro g_2; replace h := cond_f g_2 h
 refine sk ?_
 refine sr [(0, { id := 1, m := 1 })] [1, 5, 7] [0, 1] 2 [.sl false 4 (Mp e_T_api_Packet l_1), Pp 0, .own 1 0] [Vb 27 (v_T_api_Service r_3.1), Rb 43 4 []] hmix an ?_
 refine sq ?_
 refine sr [] [1, 5, 7, 8] [0, 1] 2 [.sl false 4 (Mp e_T_api_Packet l_1), Pp 0, .own 1 0, Ii 0] [Vb 27 (v_T_api_Service r_3.1), Rb 43 4 []] hmix an ?_
 obtain ⟨o_1, h_6, h⟩ := bind_some h
 refine aw_mid (mk [(5, Pp 0), (7, .own 1 ((o_1.2.2.2).length))] [(0, Vb 27 [.sl false 3 (Mp e_T_api_Thread o_1.1), .sl false 1 (Mi o_1.2.1), .sl false 4 (Mp e_T_api_Packet o_1.2.2.1)]), (1, Rb 43 4 (Mp e_T_api_Packet o_1.2.2.2))] 2) ?_ ?_
 ·replace h := h_6
  refine aw_block (id := 0) (by kernel_rfl) ?_
  refine wk [0, 1] [] [.s 1, .s 5, .s 7, .s 8] [.s 0, .s 1] [(1, .sl false 4 (Mp e_T_api_Packet l_1)), (5, Pp 0), (7, .own 1 0), (8, Ii 0)] [(0, Vb 27 (v_T_api_Service r_3.1)), (1, Rb 43 4 [])] an ?_
  refine aw_loopF (fun n st => ∃ (i_1 : Int), ∃ (c_1 : List T_api_Thread), ∃ (c_2 : List Int), ∃ (c_3 : List T_api_Packet), ∃ (row_1 : List T_api_Packet), st = mk [(1, .sl false 4 (Mp e_T_api_Packet l_1)), (5, Pp 0), (7, .own 1 ((row_1).length)), (8, Ii i_1)] [(0, Vb 27 [.sl false 3 (Mp e_T_api_Thread c_1), .sl false 1 (Mi c_2), .sl false 4 (Mp e_T_api_Packet c_3)]), (1, Rb 43 4 (Mp e_T_api_Packet row_1))] 2 ∧ L12_DrainKeeps_L1 F l_1 n i_1 c_1 c_2 c_3 row_1 = some o_1) F (by kernel_rfl) ⟨_, _, _, _, _, rfl, h⟩ ?_ ?_
  ·rintro _ ⟨_, _, _, _, _, _, h⟩; exact none_ne (h : (none : Option ((List T_api_Thread) × (List Int) × (List T_api_Packet) × (List T_api_Packet))) = some o_1)
  rintro n_1 _ ⟨i_1, c_1, c_2, c_3, row_1, rfl, h⟩
  replace h : L12_DrainKeeps_L1_body F l_1 (L12_DrainKeeps_L1 F l_1 n_1) i_1 c_1 c_2 c_3 row_1 = some o_1 := h
  unfold L12_DrainKeeps_L1_body at h
  refine sq ?_
  refine sr [(2, { n := (l_1).length })] [1, 5, 7, 8, 40] [0, 1] 2 [.sl false 4 (Mp e_T_api_Packet l_1), Pp 0, .own 1 ((row_1).length), Ii i_1, .bool (decide (i_1 < (lN (l_1))))] [Vb 27 [.sl false 3 (Mp e_T_api_Thread c_1), .sl false 1 (Mi c_2), .sl false 4 (Mp e_T_api_Packet c_3)], Rb 43 4 (Mp e_T_api_Packet row_1)] hmix (ac (vc_len _ : ((Mp e_T_api_Packet l_1)).length = (l_1).length) an) ?_
  refine cd 40 (decide (i_1 < (lN (l_1)))) ?_ ?_
  rotate_left
  ·intro g_3; replace h := cond_f g_3 h
   refine aw_exit (id := 0) (by kernel_rfl) ?_
   cases h
   exact ⟨rfl, (sw [0, 1] [] [.s 5, .s 7] [.s 0, .s 1] an)⟩
  intro g_3; replace h := cond_t g_3 h
  refine sk ?_
  refine sq ?_
  obtain ⟨o_2, h_7, h⟩ := bind_some h
  refine aw_mid (mk [(1, .sl false 4 (Mp e_T_api_Packet l_1)), (5, Pp 0), (7, .own 1 ((o_2.2.2.2).length)), (8, Ii i_1)] [(0, Vb 27 [.sl false 3 (Mp e_T_api_Thread o_2.1), .sl false 1 (Mi o_2.2.1), .sl false 4 (Mp e_T_api_Packet o_2.2.2.1)]), (1, Rb 43 4 (Mp e_T_api_Packet o_2.2.2.2))] 2) ?_ ?_
  ·replace h := h_7
   refine aw_block (id := 1) (by kernel_rfl) ?_
   refine sq ?_
   obtain ⟨x_1, h_8, h⟩ := bind_some h
   obtain ⟨r_5, h_9, h⟩ := bind_some h
   refine rg [(3, { av := e_T_api_Packet x_1 }), (5, { av := .tuple [e_T_api_Service r_5.1, Ii r_5.2], l := [.agg [.sl false 3 (Mp e_T_api_Thread c_1), .sl false 1 (Mi c_2), .sl false 4 (Mp e_T_api_Packet c_3)], e_T_api_Packet x_1] }), (9, { id := 2 })] [1, 5, 7, 8, 9, 10] [0, 1, 2] 3 [.sl false 4 (Mp e_T_api_Packet l_1), Pp 0, .own 1 ((row_1).length), Ii i_1, Pp 2, Ii r_5.2] [Vb 27 [.sl false 3 (Mp e_T_api_Thread c_1), .sl false 1 (Mi c_2), .sl false 4 (Mp e_T_api_Packet c_3)], Rb 43 4 (Mp e_T_api_Packet row_1), Vb 27 (v_T_api_Service r_5.1)] hmix (ac (vc_idx h_8 : idxA (Mp e_T_api_Packet l_1) i_1 = some (e_T_api_Packet x_1)) (ar ([.agg [.sl false 3 (Mp e_T_api_Thread c_1), .sl false 1 (Mi c_2), .sl false 4 (Mp e_T_api_Packet c_3)], e_T_api_Packet x_1] : List AV) (ac (rfl : ([] : List BoxSt) = []) (ac (triple_lo (args' := [e_T_api_Service (⟨c_1, c_2, c_3⟩ : T_api_Service), e_T_api_Packet x_1]) (drain_Collect_ok F (⟨c_1, c_2, c_3⟩ : T_api_Service) x_1 r_5 h_9) rfl ⟨rfl, rfl, rfl, rfl, rfl, rfl, rfl, rfl, rfl, rfl, rfl, rfl, rfl, rfl, rfl, trivial⟩ : TripleG prog 22 [] [] [.agg [.sl false 3 (Mp e_T_api_Thread c_1), .sl false 1 (Mi c_2), .sl false 4 (Mp e_T_api_Packet c_3)], e_T_api_Packet x_1] [] (.tuple [e_T_api_Service r_5.1, Ii r_5.2])) an)))) ?_
   refine sr [] [1, 5, 7, 8, 9, 53] [0, 1, 2] 3 [.sl false 4 (Mp e_T_api_Packet l_1), Pp 0, .own 1 ((row_1).length), Ii i_1, Pp 2, .bool (r_5.2 == (0 : Int))] [Vb 27 [.sl false 3 (Mp e_T_api_Thread c_1), .sl false 1 (Mi c_2), .sl false 4 (Mp e_T_api_Packet c_3)], Rb 43 4 (Mp e_T_api_Packet row_1), Vb 27 (v_T_api_Service r_5.1)] hmix an ?_
   refine cd 53 (r_5.2 == (0 : Int)) ?_ ?_
   rotate_left
   ·intro g_4; replace h := cond_f g_4 h
    refine sk ?_
    cases h
    exact ⟨rfl, (sw [0, 1] [] [.s 1, .s 5, .s 7, .s 8] [.s 0, .s 1] an)⟩
   intro g_4; replace h := cond_t g_4 h
   refine sq ?_
   obtain ⟨x_2, h_10, h⟩ := bind_some h
   obtain ⟨_, h_11, h⟩ := bind_some h; replace h_11 := need_some h_11
   refine rg [(3, { av := e_T_api_Packet x_2 }), (5, { id := 3 }), (6, { id := 4, l := (Mp e_T_api_Packet (row_1 ++ ([x_2] : List T_api_Packet))), n := ((row_1 ++ ([x_2] : List T_api_Packet))).length })] [1, 5, 7, 8, 9] [0, 2, 4] 5 [.sl false 4 (Mp e_T_api_Packet l_1), Pp 0, .own 4 (((row_1 ++ ([x_2] : List T_api_Packet))).length), Ii i_1, Pp 2] [Vb 27 [.sl false 3 (Mp e_T_api_Thread c_1), .sl false 1 (Mi c_2), .sl false 4 (Mp e_T_api_Packet c_3)], Vb 27 (v_T_api_Service r_5.1), Rb 43 4 (Mp e_T_api_Packet (row_1 ++ ([x_2] : List T_api_Packet)))] hmix (ac (vc_idx h_10 : idxA (Mp e_T_api_Packet l_1) i_1 = some (e_T_api_Packet x_2)) (ac (by first | (simp; done) | (simp; omega) : (row_1).length = ((List.map e_T_api_Packet row_1)).length) (ac (by first | (simp; done) | (simp; omega) : 1 = ((List.map e_T_api_Packet ([x_2] : List T_api_Packet))).length) (ac (vc_app _ _ : (Mp e_T_api_Packet (row_1 ++ ([x_2] : List T_api_Packet))) = (Mp e_T_api_Packet row_1) ++ (Mp e_T_api_Packet ([x_2] : List T_api_Packet))) (ac (by simp : ((row_1 ++ ([x_2] : List T_api_Packet))).length = ((List.map e_T_api_Packet (row_1 ++ ([x_2] : List T_api_Packet)))).length) (ac (by first | (simp; done) | simpa using h_11 : (((List.map e_T_api_Packet row_1) : List AV).length + ((List.map e_T_api_Packet ([x_2] : List T_api_Packet)) : List AV).length) * 48 ≤ 140737488355328) an)))))) ?_
   refine rg [] [1, 5, 7, 8] [0, 4] 5 [.sl false 4 (Mp e_T_api_Packet l_1), Pp 0, .own 4 (((row_1 ++ ([x_2] : List T_api_Packet))).length), Ii i_1] [Vb 27 (v_T_api_Service r_5.1), Rb 43 4 (Mp e_T_api_Packet (row_1 ++ ([x_2] : List T_api_Packet)))] hmix an ?_
   cases h
   exact ⟨rfl, (sw [0, 4] [] [.s 1, .s 5, .s 7, .s 8] [.s 0, .s 1] an)⟩
  refine rg [] [1, 5, 7, 8] [0, 1] 2 [.sl false 4 (Mp e_T_api_Packet l_1), Pp 0, .own 1 ((o_2.2.2.2).length), Ii (w_i64 (i_1 + (1 : Int)))] [Vb 27 [.sl false 3 (Mp e_T_api_Thread o_2.1), .sl false 1 (Mi o_2.2.1), .sl false 4 (Mp e_T_api_Packet o_2.2.2.1)], Rb 43 4 (Mp e_T_api_Packet o_2.2.2.2)] hmix an ?_
  exact ⟨_, (sw [0, 1] [] [.s 1, .s 5, .s 7, .s 8] [.s 0, .s 1] an), _, _, _, _, _, rfl, h⟩
 refine sq ?_
 obtain ⟨r_6, h_12, h⟩ := bind_some h
 refine rg [(1, { av := .tuple [.own 0 ((r_6.1).length), e_T_api_Service r_6.2], ids := [2], l := [.agg [.sl false 3 (Mp e_T_api_Thread o_1.1), .sl false 1 (Mi o_1.2.1), .sl false 4 (Mp e_T_api_Packet o_1.2.2.1)]], post := [(.row 43 4 (Mp e_T_api_Packet r_6.1))] }), (5, { id := 3 })] [7, 11, 12] [1, 2, 3] 4 [.own 1 ((o_1.2.2.2).length), .own 2 ((r_6.1).length), Pp 3] [Rb 43 4 (Mp e_T_api_Packet o_1.2.2.2), Rb 43 4 (Mp e_T_api_Packet r_6.1), Vb 27 (v_T_api_Service r_6.2)] hmix (ar ([.agg [.sl false 3 (Mp e_T_api_Thread o_1.1), .sl false 1 (Mi o_1.2.1), .sl false 4 (Mp e_T_api_Packet o_1.2.2.1)]] : List AV) (ac (rfl : ([] : List BoxSt) = []) (ac (triple_lo (args' := [e_T_api_Service (⟨o_1.1, o_1.2.1, o_1.2.2.1⟩ : T_api_Service)]) (drain_Flush_ok F (⟨o_1.1, o_1.2.1, o_1.2.2.1⟩ : T_api_Service) r_6 h_12) rfl ⟨rfl, rfl, rfl, rfl, rfl, rfl, rfl, rfl, rfl, trivial⟩ : TripleG prog 17 [] [] [.agg [.sl false 3 (Mp e_T_api_Thread o_1.1), .sl false 1 (Mi o_1.2.1), .sl false 4 (Mp e_T_api_Packet o_1.2.2.1)]] [(.row 43 4 (Mp e_T_api_Packet r_6.1))] (.tuple [.own 0 ((r_6.1).length), e_T_api_Service r_6.2])) an))) ?_
 refine sq ?_
 obtain ⟨r_7, h_13, h⟩ := bind_some h
 refine rg [(1, { av := .tuple [.own 0 ((r_7.1).length), e_T_api_Service r_7.2], ids := [4], l := [e_T_api_Service r_6.2], post := [(.row 43 4 (Mp e_T_api_Packet r_7.1))] }), (5, { id := 5 })] [7, 11, 12, 13] [1, 2, 3, 4] 6 [.own 1 ((o_1.2.2.2).length), .own 2 ((r_6.1).length), Pp 3, .own 4 ((r_7.1).length)] [Rb 43 4 (Mp e_T_api_Packet o_1.2.2.2), Rb 43 4 (Mp e_T_api_Packet r_6.1), Vb 27 (v_T_api_Service r_6.2), Rb 43 4 (Mp e_T_api_Packet r_7.1)] hmix (ar ([e_T_api_Service r_6.2] : List AV) (ac (rfl : ([] : List BoxSt) = []) (ac (drain_Flush_ok F r_6.2 r_7 h_13 : TripleG prog 17 [] [] [e_T_api_Service r_6.2] [(.row 43 4 (Mp e_T_api_Packet r_7.1))] (.tuple [.own 0 ((r_7.1).length), e_T_api_Service r_7.2])) an))) ?_
 refine sq ?_
 refine sq ?_
 obtain ⟨p_2, h_19, h⟩ := bind_some h
 refine aw_mid (mk [(7, .own 0 ((o_1.2.2.2).length)), (11, .own 1 ((r_6.1).length)), (93, .bool p_2)] [(0, Rb 43 4 (Mp e_T_api_Packet o_1.2.2.2)), (1, Rb 43 4 (Mp e_T_api_Packet r_6.1))] 2) ?_ ?_
 ·replace h := h_19
  rcases bft ((lN (r_7.1)) != (0 : Int)) with gg_2 | gg_2
  ·replace h := cond_t gg_2 h
   refine rg [(4, Hg), (5, Hg), (6, Hg), (7, Ht), (9, Hg), (10, Hg), (11, Hg), (12, Hg), (13, Hg), (14, Ht), (16, Hg), (17, Hg), (18, Hg), (19, Hg), (20, Hg), (21, Ht)] [7, 11, 93] [1, 2] 6 [.own 1 ((o_1.2.2.2).length), .own 2 ((r_6.1).length), .bool true] [Rb 43 4 (Mp e_T_api_Packet o_1.2.2.2), Rb 43 4 (Mp e_T_api_Packet r_6.1)] hmix (ac gg_2 (ac gg_2 (ac gg_2 (ac gg_2 (ax (ax (ax (ax (ax (ar true (ax (ax (ax (ax (ax (ar true an)))))))))))))))) ?_
   cases h
   exact ⟨rfl, (sw [1, 2] [] [.s 7, .s 11, .s 93] [.s 0, .s 1] an)⟩
  ·replace h := cond_f gg_2 h
   obtain ⟨r_8, h_14, h⟩ := bind_some h
   rcases bft (r_8 != (0 : Int)) with gg_3 | gg_3
   ·replace h := cond_t gg_3 h
    refine rg [(5, { av := Ii r_8, l := [e_T_api_Service r_6.2] }), (7, Hf), (9, Hg), (10, Hg), (11, Hg), (12, Hg), (13, Hg), (14, Ht), (16, Hg), (17, Hg), (18, Hg), (19, Hg), (20, Hg), (21, Ht)] [7, 11, 93] [1, 2] 6 [.own 1 ((o_1.2.2.2).length), .own 2 ((r_6.1).length), .bool true] [Rb 43 4 (Mp e_T_api_Packet o_1.2.2.2), Rb 43 4 (Mp e_T_api_Packet r_6.1)] hmix (ac gg_2 (ac gg_2 (ar ([e_T_api_Service r_6.2] : List AV) (ac (rfl : ([] : List BoxSt) = []) (ac (drain_Check_ok F r_6.2 r_8 h_14 : TripleG prog 13 [] [] [e_T_api_Service r_6.2] [] (Ii r_8)) (ac gg_2 (ac gg_2 (ac gg_3 (ac gg_3 (ac gg_3 (ac gg_3 (ac gg_3 (ac gg_3 (ax (ax (ax (ax (ax (ar true an))))))))))))))))))) ?_
    cases h
    exact ⟨rfl, (sw [1, 2] [] [.s 7, .s 11, .s 93] [.s 0, .s 1] an)⟩
   ·replace h := cond_f gg_3 h
    obtain ⟨r_9, h_15, h⟩ := bind_some h
    obtain ⟨r_10, h_16, h⟩ := bind_some h
    rcases bft (r_9 != r_10) with gg_4 | gg_4
    ·replace h := cond_t gg_4 h
     refine rg [(5, { av := Ii r_8, l := [e_T_api_Service r_6.2] }), (7, Hf), (10, { av := Ii r_9, l := [.sl false 4 (Mp e_T_api_Packet r_6.1)], lend := [2] }), (12, { av := Ii r_10, l := [.sl false 4 (Mp e_T_api_Packet o_1.2.2.2)], lend := [1] }), (14, Hf), (16, Hg), (17, Hg), (18, Hg), (19, Hg), (20, Hg), (21, Ht)] [7, 11, 93] [1, 2] 6 [.own 1 ((o_1.2.2.2).length), .own 2 ((r_6.1).length), .bool true] [Rb 43 4 (Mp e_T_api_Packet o_1.2.2.2), Rb 43 4 (Mp e_T_api_Packet r_6.1)] hmix (ac gg_2 (ac gg_2 (ar ([e_T_api_Service r_6.2] : List AV) (ac (rfl : ([] : List BoxSt) = []) (ac (drain_Check_ok F r_6.2 r_8 h_14 : TripleG prog 13 [] [] [e_T_api_Service r_6.2] [] (Ii r_8)) (ac gg_2 (ac gg_2 (ac gg_3 (ac gg_3 (ac (by first | (simp; done) | (simp; omega) : (r_6.1).length = ((List.map e_T_api_Packet r_6.1)).length) (ar ([.sl false 4 (Mp e_T_api_Packet r_6.1)] : List AV) (ac (rfl : ([] : List BoxSt) = []) (ac (L12_lost_ok F r_6.1 r_9 h_15 : TripleG prog 26 [] [] [.sl false 4 (Mp e_T_api_Packet r_6.1)] [] (Ii r_9)) (ac gg_3 (ac gg_3 (ac (by first | (simp; done) | (simp; omega) : (o_1.2.2.2).length = ((List.map e_T_api_Packet o_1.2.2.2)).length) (ar ([.sl false 4 (Mp e_T_api_Packet o_1.2.2.2)] : List AV) (ac (rfl : ([] : List BoxSt) = []) (ac (L12_lost_ok F o_1.2.2.2 r_10 h_16 : TripleG prog 26 [] [] [.sl false 4 (Mp e_T_api_Packet o_1.2.2.2)] [] (Ii r_10)) (ac gg_3 (ac gg_3 (ac gg_4 (ac gg_4 (ac gg_4 (ac gg_4 (ac gg_4 (ac gg_4 an))))))))))))))))))))))))))) ?_
     cases h
     exact ⟨rfl, (sw [1, 2] [] [.s 7, .s 11, .s 93] [.s 0, .s 1] an)⟩
    ·replace h := cond_f gg_4 h
     obtain ⟨r_11, h_17, h⟩ := bind_some h
     obtain ⟨r_12, h_18, h⟩ := bind_some h
     refine rg [(5, { av := Ii r_8, l := [e_T_api_Service r_6.2] }), (7, Hf), (10, { av := Ii r_9, l := [.sl false 4 (Mp e_T_api_Packet r_6.1)], lend := [2] }), (12, { av := Ii r_10, l := [.sl false 4 (Mp e_T_api_Packet o_1.2.2.2)], lend := [1] }), (14, Hf), (17, { av := Ii r_11, l := [.sl false 4 (Mp e_T_api_Packet r_6.1)], lend := [2] }), (19, { av := Ii r_12, l := [.sl false 4 (Mp e_T_api_Packet o_1.2.2.2)], lend := [1] }), (21, Hf)] [7, 11, 93] [1, 2] 6 [.own 1 ((o_1.2.2.2).length), .own 2 ((r_6.1).length), .bool (r_11 != r_12)] [Rb 43 4 (Mp e_T_api_Packet o_1.2.2.2), Rb 43 4 (Mp e_T_api_Packet r_6.1)] hmix (ac gg_2 (ac gg_2 (ar ([e_T_api_Service r_6.2] : List AV) (ac (rfl : ([] : List BoxSt) = []) (ac (drain_Check_ok F r_6.2 r_8 h_14 : TripleG prog 13 [] [] [e_T_api_Service r_6.2] [] (Ii r_8)) (ac gg_2 (ac gg_2 (ac gg_3 (ac gg_3 (ac (by first | (simp; done) | (simp; omega) : (r_6.1).length = ((List.map e_T_api_Packet r_6.1)).length) (ar ([.sl false 4 (Mp e_T_api_Packet r_6.1)] : List AV) (ac (rfl : ([] : List BoxSt) = []) (ac (L12_lost_ok F r_6.1 r_9 h_15 : TripleG prog 26 [] [] [.sl false 4 (Mp e_T_api_Packet r_6.1)] [] (Ii r_9)) (ac gg_3 (ac gg_3 (ac (by first | (simp; done) | (simp; omega) : (o_1.2.2.2).length = ((List.map e_T_api_Packet o_1.2.2.2)).length) (ar ([.sl false 4 (Mp e_T_api_Packet o_1.2.2.2)] : List AV) (ac (rfl : ([] : List BoxSt) = []) (ac (L12_lost_ok F o_1.2.2.2 r_10 h_16 : TripleG prog 26 [] [] [.sl false 4 (Mp e_T_api_Packet o_1.2.2.2)] [] (Ii r_10)) (ac gg_3 (ac gg_3 (ac gg_4 (ac gg_4 (ac (by first | (simp; done) | (simp; omega) : (r_6.1).length = ((List.map e_T_api_Packet r_6.1)).length) (ar ([.sl false 4 (Mp e_T_api_Packet r_6.1)] : List AV) (ac (rfl : ([] : List BoxSt) = []) (ac (L12_events_ok F r_6.1 r_11 h_17 : TripleG prog 27 [] [] [.sl false 4 (Mp e_T_api_Packet r_6.1)] [] (Ii r_11)) (ac gg_4 (ac gg_4 (ac (by first | (simp; done) | (simp; omega) : (o_1.2.2.2).length = ((List.map e_T_api_Packet o_1.2.2.2)).length) (ar ([.sl false 4 (Mp e_T_api_Packet o_1.2.2.2)] : List AV) (ac (rfl : ([] : List BoxSt) = []) (ac (L12_events_ok F o_1.2.2.2 r_12 h_18 : TripleG prog 27 [] [] [.sl false 4 (Mp e_T_api_Packet o_1.2.2.2)] [] (Ii r_12)) (ac gg_4 (ac gg_4 an))))))))))))))))))))))))))))))))))) ?_
     cases h
     exact ⟨rfl, (sw [1, 2] [] [.s 7, .s 11, .s 93] [.s 0, .s 1] an)⟩
 refine cd 93 p_2 ?_ ?_
 ·intro g_5; replace h := cond_t g_5 h
  refine sr [] [4] [] 2 [.bool false] [] hmix an ?_
  refine rt ?_
  cases h
  exact ⟨.inr rfl, Nat.le_of_ble_eq_true rfl, by kernel_rfl⟩
 intro g_5; replace h := cond_f g_5 h
 refine sk ?_
 refine sq ?_
 refine sr [] [7, 11, 15] [0, 1] 2 [.own 0 ((o_1.2.2.2).length), .own 1 ((r_6.1).length), Ii 0] [Rb 43 4 (Mp e_T_api_Packet o_1.2.2.2), Rb 43 4 (Mp e_T_api_Packet r_6.1)] hmix an ?_
 obtain ⟨o_3, h_20, h⟩ := bind_some h
 refine aw_conv (K1 := (fun e st' => match o_3 with | (.inl q0) => e = .normal ∧ Sub 0 st' (mk [(11, .own 0 ((r_6.1).length))] [(0, Rb 43 4 (Mp e_T_api_Packet r_6.1))] 1) | (.inr q1) => e = .ret ∧ FinR prog Go.Proofs.Try.f8 0 [] (.bool q1) st')) ?_ ?_
 ·replace h := h_20
  refine aw_block (id := 2) (by kernel_rfl) ?_
  refine wk [0, 1] [] [.s 7, .s 11, .s 15] [.s 0, .s 1] [(7, .own 0 ((o_1.2.2.2).length)), (11, .own 1 ((r_6.1).length)), (15, Ii 0)] [(0, Rb 43 4 (Mp e_T_api_Packet o_1.2.2.2)), (1, Rb 43 4 (Mp e_T_api_Packet r_6.1))] an ?_
  refine aw_loopF (fun n st => ∃ (i_2 : Int), st = mk [(7, .own 0 ((o_1.2.2.2).length)), (11, .own 1 ((r_6.1).length)), (15, Ii i_2)] [(0, Rb 43 4 (Mp e_T_api_Packet o_1.2.2.2)), (1, Rb 43 4 (Mp e_T_api_Packet r_6.1))] 2 ∧ L12_DrainKeeps_L2 F o_1 r_6 n i_2 = some o_3) F (by kernel_rfl) ⟨_, rfl, h⟩ ?_ ?_
  ·rintro _ ⟨_, _, h⟩; exact none_ne (h : (none : Option (Unit ⊕ Bool)) = some o_3)
  rintro n_2 _ ⟨i_2, rfl, h⟩
  replace h : L12_DrainKeeps_L2_body F o_1 r_6 (L12_DrainKeeps_L2 F o_1 r_6 n_2) i_2 = some o_3 := h
  unfold L12_DrainKeeps_L2_body at h
  refine sq ?_
  refine sr [] [7, 11, 15, 97] [0, 1] 2 [.own 0 ((o_1.2.2.2).length), .own 1 ((r_6.1).length), Ii i_2, .bool (decide (i_2 < (lN (o_1.2.2.2))))] [Rb 43 4 (Mp e_T_api_Packet o_1.2.2.2), Rb 43 4 (Mp e_T_api_Packet r_6.1)] hmix an ?_
  refine cd 97 (decide (i_2 < (lN (o_1.2.2.2)))) ?_ ?_
  rotate_left
  ·intro g_6; replace h := cond_f g_6 h
   refine aw_exit (id := 2) (by kernel_rfl) ?_
   cases h
   exact ⟨rfl, (sw [1] [] [.s 11] [.s 0] an)⟩
  intro g_6; replace h := cond_t g_6 h
  refine sk ?_
  refine sq ?_
  refine aw_block (id := 3) (by kernel_rfl) ?_
  refine sr [] [7, 11, 15, 16] [0, 1] 2 [.own 0 ((o_1.2.2.2).length), .own 1 ((r_6.1).length), Ii i_2, Ii 0] [Rb 43 4 (Mp e_T_api_Packet o_1.2.2.2), Rb 43 4 (Mp e_T_api_Packet r_6.1)] hmix an ?_
  obtain ⟨o_4, h_21, h⟩ := bind_some h
  refine aw_conv (K1 := (fun e st' => match o_4 with | (.inl q0) => e = .normal ∧ Sub 0 st' (mk [(7, .own 0 ((o_1.2.2.2).length)), (11, .own 1 ((r_6.1).length)), (15, Ii i_2)] [(0, Rb 43 4 (Mp e_T_api_Packet o_1.2.2.2)), (1, Rb 43 4 (Mp e_T_api_Packet r_6.1))] 2) | (.inr q1) => e = .ret ∧ FinR prog Go.Proofs.Try.f8 0 [] (.bool q1) st')) ?_ ?_
  ·replace h := h_21
   refine aw_block (id := 4) (by kernel_rfl) ?_
   refine wk [0, 1] [] [.s 7, .s 11, .s 15, .s 16] [.s 0, .s 1] [(7, .own 0 ((o_1.2.2.2).length)), (11, .own 1 ((r_6.1).length)), (15, Ii i_2), (16, Ii 0)] [(0, Rb 43 4 (Mp e_T_api_Packet o_1.2.2.2)), (1, Rb 43 4 (Mp e_T_api_Packet r_6.1))] an ?_
   refine aw_loopF (fun n st => ∃ (k_1 : Int), st = mk [(7, .own 0 ((o_1.2.2.2).length)), (11, .own 1 ((r_6.1).length)), (15, Ii i_2), (16, Ii k_1)] [(0, Rb 43 4 (Mp e_T_api_Packet o_1.2.2.2)), (1, Rb 43 4 (Mp e_T_api_Packet r_6.1))] 2 ∧ L12_DrainKeeps_L3 F o_1 r_6 i_2 n k_1 = some o_4) F (by kernel_rfl) ⟨_, rfl, h⟩ ?_ ?_
   ·rintro _ ⟨_, _, h⟩; exact none_ne (h : (none : Option (Unit ⊕ Bool)) = some o_4)
   rintro n_3 _ ⟨k_1, rfl, h⟩
   replace h : L12_DrainKeeps_L3_body F o_1 r_6 i_2 (L12_DrainKeeps_L3 F o_1 r_6 i_2 n_3) k_1 = some o_4 := h
   unfold L12_DrainKeeps_L3_body at h
   refine sq ?_
   refine sq ?_
   obtain ⟨x_3, h_22, h⟩ := bind_some h
   refine rg [(5, { av := e_T_api_Packet x_3 }), (6, { n := (x_3.Events).length })] [7, 11, 15, 16, 107] [0, 1] 2 [.own 0 ((o_1.2.2.2).length), .own 1 ((r_6.1).length), Ii i_2, Ii k_1, .bool (decide (k_1 < (lN (x_3.Events))))] [Rb 43 4 (Mp e_T_api_Packet o_1.2.2.2), Rb 43 4 (Mp e_T_api_Packet r_6.1)] hmix (ac (idxL_lo h_22 : (0 : Int) ≤ i_2) (ac (by first | (simp; done) | simpa using idxL_hi h_22 : i_2 < (((o_1.2.2.2).length : Nat) : Int)) (ac (vc_get h_22 : (Mp e_T_api_Packet o_1.2.2.2)[(i_2).toNat]? = some (e_T_api_Packet x_3)) (ac (vc_len _ : ((Mp e_T_api_Event x_3.Events)).length = (x_3.Events).length) an)))) ?_
   refine cd 107 (decide (k_1 < (lN (x_3.Events)))) ?_ ?_
   rotate_left
   ·intro g_7; replace h := cond_f g_7 h
    refine aw_exit (id := 4) (by kernel_rfl) ?_
    cases h
    exact ⟨rfl, (sw [0, 1] [] [.s 7, .s 11, .s 15] [.s 0, .s 1] an)⟩
   intro g_7; replace h := cond_t g_7 h
   refine sk ?_
   refine sq ?_
   refine aw_block (id := 5) (by kernel_rfl) ?_
   refine sq ?_
   obtain ⟨x_4, h_23, h⟩ := bind_some h
   obtain ⟨x_5, h_24, h⟩ := bind_some h
   obtain ⟨x_6, h_25, h⟩ := bind_some h
   obtain ⟨x_7, h_26, h⟩ := bind_some h
   obtain ⟨r_13, h_27, h⟩ := bind_some h
   refine rg [(5, { av := e_T_api_Packet x_4 }), (10, { av := e_T_api_Packet x_5 }), (17, { av := e_T_api_Packet x_6 }), (19, { av := e_T_api_Event x_7 }), (21, { av := .bool r_13, l := [.sl false 4 (Mp e_T_api_Packet r_6.1), Ii x_4.Thread, Ii (w_i64 (x_5.Serial + k_1)), e_T_api_Event x_7], lend := [1] })] [7, 11, 15, 16, 132] [0, 1] 2 [.own 0 ((o_1.2.2.2).length), .own 1 ((r_6.1).length), Ii i_2, Ii k_1, .bool (!r_13)] [Rb 43 4 (Mp e_T_api_Packet o_1.2.2.2), Rb 43 4 (Mp e_T_api_Packet r_6.1)] hmix (ac (idxL_lo h_23 : (0 : Int) ≤ i_2) (ac (by first | (simp; done) | simpa using idxL_hi h_23 : i_2 < (((o_1.2.2.2).length : Nat) : Int)) (ac (vc_get h_23 : (Mp e_T_api_Packet o_1.2.2.2)[(i_2).toNat]? = some (e_T_api_Packet x_4)) (ac (idxL_lo h_24 : (0 : Int) ≤ i_2) (ac (by first | (simp; done) | simpa using idxL_hi h_24 : i_2 < (((o_1.2.2.2).length : Nat) : Int)) (ac (vc_get h_24 : (Mp e_T_api_Packet o_1.2.2.2)[(i_2).toNat]? = some (e_T_api_Packet x_5)) (ac (idxL_lo h_25 : (0 : Int) ≤ i_2) (ac (by first | (simp; done) | simpa using idxL_hi h_25 : i_2 < (((o_1.2.2.2).length : Nat) : Int)) (ac (vc_get h_25 : (Mp e_T_api_Packet o_1.2.2.2)[(i_2).toNat]? = some (e_T_api_Packet x_6)) (ac (vc_idx h_26 : idxA (Mp e_T_api_Event x_6.Events) k_1 = some (e_T_api_Event x_7)) (ac (by first | (simp; done) | (simp; omega) : (r_6.1).length = ((List.map e_T_api_Packet r_6.1)).length) (ar ([.sl false 4 (Mp e_T_api_Packet r_6.1), Ii x_4.Thread, Ii (w_i64 (x_5.Serial + k_1)), e_T_api_Event x_7] : List AV) (ac (rfl : ([] : List BoxSt) = []) (ac (L12_holds_ok F r_6.1 x_4.Thread (w_i64 (x_5.Serial + k_1)) x_7 r_13 h_27 : TripleG prog 28 [] [] [.sl false 4 (Mp e_T_api_Packet r_6.1), Ii x_4.Thread, Ii (w_i64 (x_5.Serial + k_1)), e_T_api_Event x_7] [] (.bool r_13)) an)))))))))))))) ?_
   refine cd 132 (!r_13) ?_ ?_
   rotate_left
   ·intro g_8; replace h := cond_f g_8 h
    refine sk ?_
    refine rg [] [7, 11, 15, 16] [0, 1] 2 [.own 0 ((o_1.2.2.2).length), .own 1 ((r_6.1).length), Ii i_2, Ii (w_i64 (k_1 + (1 : Int)))] [Rb 43 4 (Mp e_T_api_Packet o_1.2.2.2), Rb 43 4 (Mp e_T_api_Packet r_6.1)] hmix an ?_
    exact ⟨_, (sw [0, 1] [] [.s 7, .s 11, .s 15, .s 16] [.s 0, .s 1] an), _, rfl, h⟩
   intro g_8; replace h := cond_t g_8 h
   refine sr [] [4] [] 2 [.bool false] [] hmix an ?_
   refine rt ?_
   cases h
   exact ⟨rfl, Nat.le_of_ble_eq_true rfl, by kernel_rfl⟩
  intro e st1 hk
  rcases o_4 with q_1 | q_2
  rotate_left
  ·obtain ⟨rfl, hf⟩ := hk
   cases h
   exact ⟨_, Sub.refl _ _, rfl, hf⟩
  obtain ⟨rfl, hs⟩ := hk
  refine ⟨_, hs, ?_⟩
  refine rg [] [7, 11, 15] [0, 1] 2 [.own 0 ((o_1.2.2.2).length), .own 1 ((r_6.1).length), Ii (w_i64 (i_2 + (1 : Int)))] [Rb 43 4 (Mp e_T_api_Packet o_1.2.2.2), Rb 43 4 (Mp e_T_api_Packet r_6.1)] hmix an ?_
  exact ⟨_, (sw [0, 1] [] [.s 7, .s 11, .s 15] [.s 0, .s 1] an), _, rfl, h⟩
 intro e st1 hk
 rcases o_3 with q_3 | q_4
 rotate_left
 ·obtain ⟨rfl, hf⟩ := hk
  cases h
  exact ⟨st1, Sub.refl _ _, .inr rfl, hf⟩
 obtain ⟨rfl, hs⟩ := hk
 refine ⟨_, hs, ?_⟩
 refine sq ?_
 refine sr [] [11, 17] [0] 1 [.own 0 ((r_6.1).length), Ii 1] [Rb 43 4 (Mp e_T_api_Packet r_6.1)] hmix an ?_
 obtain ⟨o_5, h_28, h⟩ := bind_some h
 refine aw_conv (K1 := (fun e st' => match o_5 with | (.inl q0) => e = .normal ∧ Sub 0 st' (mk [] [] 0) | (.inr q1) => e = .ret ∧ FinR prog Go.Proofs.Try.f8 0 [] (.bool q1) st')) ?_ ?_
 ·replace h := h_28
  refine aw_block (id := 6) (by kernel_rfl) ?_
  refine wk [0] [] [.s 11, .s 17] [.s 0] [(11, .own 0 ((r_6.1).length)), (17, Ii 1)] [(0, Rb 43 4 (Mp e_T_api_Packet r_6.1))] an ?_
  refine aw_loopF (fun n st => ∃ (i_3 : Int), st = mk [(11, .own 0 ((r_6.1).length)), (17, Ii i_3)] [(0, Rb 43 4 (Mp e_T_api_Packet r_6.1))] 1 ∧ L12_DrainKeeps_L4 F r_6 n i_3 = some o_5) F (by kernel_rfl) ⟨_, rfl, h⟩ ?_ ?_
  ·rintro _ ⟨_, _, h⟩; exact none_ne (h : (none : Option (Unit ⊕ Bool)) = some o_5)
  rintro n_4 _ ⟨i_3, rfl, h⟩
  replace h : L12_DrainKeeps_L4_body F r_6 (L12_DrainKeeps_L4 F r_6 n_4) i_3 = some o_5 := h
  unfold L12_DrainKeeps_L4_body at h
  refine sq ?_
  refine sr [] [11, 17, 136] [0] 1 [.own 0 ((r_6.1).length), Ii i_3, .bool (decide (i_3 < (lN (r_6.1))))] [Rb 43 4 (Mp e_T_api_Packet r_6.1)] hmix an ?_
  refine cd 136 (decide (i_3 < (lN (r_6.1)))) ?_ ?_
  rotate_left
  ·intro g_9; replace h := cond_f g_9 h
   refine aw_exit (id := 6) (by kernel_rfl) ?_
   cases h
   exact ⟨rfl, (sw [] [] [] [] an)⟩
  intro g_9; replace h := cond_t g_9 h
  refine sk ?_
  refine sq ?_
  refine aw_block (id := 7) (by kernel_rfl) ?_
  refine sq ?_
  obtain ⟨x_8, h_29, h⟩ := bind_some h
  obtain ⟨x_9, h_30, h⟩ := bind_some h
  obtain ⟨r_14, h_31, h⟩ := bind_some h
  refine rg [(4, { av := e_T_api_Packet x_8 }), (8, { av := e_T_api_Packet x_9 }), (9, { av := .tuple [e_T_api_Packet r_14.1, .bool r_14.2], l := [e_T_api_Packet x_8, e_T_api_Packet x_9] }), (13, { id := 1 })] [11, 17, 19] [0] 2 [.own 0 ((r_6.1).length), Ii i_3, .bool r_14.2] [Rb 43 4 (Mp e_T_api_Packet r_6.1)] hmix (ac (idxL_lo h_29 : (0 : Int) ≤ (w_i64 (i_3 - (1 : Int)))) (ac (by first | (simp; done) | simpa using idxL_hi h_29 : (w_i64 (i_3 - (1 : Int))) < (((r_6.1).length : Nat) : Int)) (ac (vc_get h_29 : (Mp e_T_api_Packet r_6.1)[(w_i64 (i_3 - (1 : Int))).toNat]? = some (e_T_api_Packet x_8)) (ac (idxL_lo h_30 : (0 : Int) ≤ i_3) (ac (by first | (simp; done) | simpa using idxL_hi h_30 : i_3 < (((r_6.1).length : Nat) : Int)) (ac (vc_get h_30 : (Mp e_T_api_Packet r_6.1)[(i_3).toNat]? = some (e_T_api_Packet x_9)) (ar ([e_T_api_Packet x_8, e_T_api_Packet x_9] : List AV) (ac (rfl : ([] : List BoxSt) = []) (ac (packet_Join_ok F x_8 x_9 r_14 h_31 : TripleG prog 29 [] [] [e_T_api_Packet x_8, e_T_api_Packet x_9] [] (.tuple [e_T_api_Packet r_14.1, .bool r_14.2])) an))))))))) ?_
  refine sr [] [11, 17, 152] [0] 2 [.own 0 ((r_6.1).length), Ii i_3, .bool r_14.2] [Rb 43 4 (Mp e_T_api_Packet r_6.1)] hmix an ?_
  refine cd 152 r_14.2 ?_ ?_
  rotate_left
  ·intro g_10; replace h := cond_f g_10 h
   refine sk ?_
   refine rg [] [11, 17] [0] 2 [.own 0 ((r_6.1).length), Ii (w_i64 (i_3 + (1 : Int)))] [Rb 43 4 (Mp e_T_api_Packet r_6.1)] hmix an ?_
   exact ⟨_, (sw [0] [] [.s 11, .s 17] [.s 0] an), _, rfl, h⟩
  intro g_10; replace h := cond_t g_10 h
  refine sr [] [4] [] 2 [.bool false] [] hmix an ?_
  refine rt ?_
  cases h
  exact ⟨rfl, Nat.le_of_ble_eq_true rfl, by kernel_rfl⟩
 intro e st1 hk
 rcases o_5 with q_5 | q_6
 rotate_left
 ·obtain ⟨rfl, hf⟩ := hk
  cases h
  exact ⟨st1, Sub.refl _ _, .inr rfl, hf⟩
 obtain ⟨rfl, hs⟩ := hk
 refine ⟨_, hs, ?_⟩
 refine sq ?_
 obtain ⟨r_15, h_32, h⟩ := bind_some h
 refine rg [(0, { av := .bool r_15, l := [] })] [4] [] 0 [.bool r_15] [] hmix (ar ([] : List AV) (ac (rfl : ([] : List BoxSt) = []) (ac (L12_awake_ok F r_15 h_32 : TripleG prog 9 [] [] [] [] (.bool r_15)) an))) ?_
 refine rt ?_
 cases h
 exact ⟨.inr rfl, Nat.le_of_ble_eq_true rfl, by kernel_rfl⟩

end Go.Ab
