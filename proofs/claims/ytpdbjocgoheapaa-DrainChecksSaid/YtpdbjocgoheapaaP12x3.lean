/- Printed: the typed Lean functions of the Go functions, or the proofs that the Go functions meet them. No conditions but those that the theorems name. -/
import Derived.Test.YtpdbjocgoheapaaP12x2
namespace Go.Ab
open Go
set_option linter.unusedVariables false
theorem R12_Flush_ok (F : Nat) (s_1 : T_api_Service) (r : (List (T_api_Packet)) × T_api_Service) (h : R12_Flush F s_1 = some r) : TripleG prog 18 [] [] [e_T_api_Service s_1] [.row 43 4 (Mp e_T_api_Packet r.1)] (.tuple [.own 0 ((r.1).length), e_T_api_Service r.2]) := by
 refine triple_intro (fn := Go.Proofs.Try.f18) (code := codeOf Go.Proofs.Try.f18) (by kernel_rfl) (by kernel_rfl) (Nat.le_of_ble_eq_true (by kernel_rfl)) ?_
 unfold R12_Flush at h
 refine sr [(0, { id := 0 }), (1, { id := 1, m := 1 }), (2, { id := 2 })] [1, 3] [0, 2] 3 [Pp 0, Pp 2] [Vb 27 (v_T_api_Service s_1), Vb 27 [.nilsl, .nilsl, .nilsl]] hmix an ?_
 refine sq ?_
 refine sq ?_
 obtain ⟨r_1, h_1, h⟩ := bind_some h
 refine rg [(1, { av := Ii r_1, l := [e_T_api_Service s_1] })] [1, 3, 13] [0, 2] 3 [Pp 0, Pp 2, .bool (r_1 != (0 : Int))] [Vb 27 (v_T_api_Service s_1), Vb 27 [.nilsl, .nilsl, .nilsl]] hmix (ar ([e_T_api_Service s_1] : List AV) (ac (rfl : ([] : List BoxSt) = []) (ac (R12_Check_ok F s_1 r_1 h_1 : TripleG prog 19 [] [] [e_T_api_Service s_1] [] (Ii r_1)) an))) ?_
 refine cd 13 (r_1 != (0 : Int)) ?_ ?_
 ·intro g_1; replace h := cond_t g_1 h
  refine sr [(1, { id := 3, m := 1 })] [2, 3] [2, 3] 4 [.own 3 0, Pp 2] [Vb 27 (v_T_api_Service s_1), Rb 43 4 []] hmix an ?_
  refine wk [3, 2] [] [.a 2 (.own 0 ((([] : List T_api_Packet)).length)), .s 3] [.s 0, .s 1] [(2, .own 0 ((([] : List T_api_Packet)).length)), (3, Pp 1)] [(0, Rb 43 4 []), (1, Vb 27 (v_T_api_Service s_1))] (ac (congrArg (AV.own _) (by first | (simp; done) | (simp; omega)) : (.own 3 0 : AV) = .own 3 ((([] : List T_api_Packet)).length)) an) ?_
  refine rt ?_
  cases h
  exact ⟨.inr rfl, Nat.le_of_ble_eq_true rfl, by kernel_rfl⟩
 intro g_1; replace h := cond_f g_1 h
 refine sk ?_
 refine sr [(0, { id := 3, m := 1 })] [1, 3, 4] [0, 2, 3] 4 [Pp 0, Pp 2, .own 3 0] [Vb 27 (v_T_api_Service s_1), Vb 27 [.nilsl, .nilsl, .nilsl], Rb 43 4 []] hmix an ?_
 refine sq ?_
 refine sr [] [1, 3, 4, 5] [0, 2, 3] 4 [Pp 0, Pp 2, .own 3 0, Ii 0] [Vb 27 (v_T_api_Service s_1), Vb 27 [.nilsl, .nilsl, .nilsl], Rb 43 4 []] hmix an ?_
 obtain ⟨o_1, h_2, h⟩ := bind_some h
 refine aw_mid (mk [(1, Pp 0), (3, Pp 1), (4, .own 2 ((o_1).length))] [(0, Vb 27 (v_T_api_Service s_1)), (1, Vb 27 [.nilsl, .nilsl, .nilsl]), (2, Rb 43 4 (Mp e_T_api_Packet o_1))] 3) ?_ ?_
 ·replace h := h_2
  refine aw_block (id := 0) (by kernel_rfl) ?_
  refine wk [0, 2, 3] [] [.s 1, .s 3, .s 4, .s 5] [.s 0, .s 1, .s 2] [(1, Pp 0), (3, Pp 1), (4, .own 2 0), (5, Ii 0)] [(0, Vb 27 (v_T_api_Service s_1)), (1, Vb 27 [.nilsl, .nilsl, .nilsl]), (2, Rb 43 4 [])] an ?_
  refine aw_loopF (fun n st => ∃ (i_1 : Int), ∃ (row_1 : List T_api_Packet), st = mk [(1, Pp 0), (3, Pp 1), (4, .own 2 ((row_1).length)), (5, Ii i_1)] [(0, Vb 27 (v_T_api_Service s_1)), (1, Vb 27 [.nilsl, .nilsl, .nilsl]), (2, Rb 43 4 (Mp e_T_api_Packet row_1))] 3 ∧ R12_Flush_L1 F s_1 n i_1 row_1 = some o_1) F (by kernel_rfl) ⟨_, _, rfl, h⟩ ?_ ?_
  ·rintro _ ⟨_, _, _, h⟩; exact none_ne (h : (none : Option (List T_api_Packet)) = some o_1)
  rintro n_1 _ ⟨i_1, row_1, rfl, h⟩
  replace h : R12_Flush_L1_body F s_1 (R12_Flush_L1 F s_1 n_1) i_1 row_1 = some o_1 := h
  unfold R12_Flush_L1_body at h
  refine sq ?_
  refine sr [(3, { n := (s_1.Threads).length })] [1, 3, 4, 5, 19] [0, 1, 2] 3 [Pp 0, Pp 1, .own 2 ((row_1).length), Ii i_1, .bool (decide (i_1 < (lN (s_1.Threads))))] [Vb 27 (v_T_api_Service s_1), Vb 27 [.nilsl, .nilsl, .nilsl], Rb 43 4 (Mp e_T_api_Packet row_1)] hmix (ac (vc_len _ : ((Mp e_T_api_Thread s_1.Threads)).length = (s_1.Threads).length) an) ?_
  refine cd 19 (decide (i_1 < (lN (s_1.Threads)))) ?_ ?_
  rotate_left
  ·intro g_2; replace h := cond_f g_2 h
   refine aw_exit (id := 0) (by kernel_rfl) ?_
   cases h
   exact ⟨rfl, (sw [0, 1, 2] [] [.s 1, .s 3, .s 4] [.s 0, .s 1, .s 2] an)⟩
  intro g_2; replace h := cond_t g_2 h
  refine sk ?_
  refine sq ?_
  refine aw_block (id := 1) (by kernel_rfl) ?_
  refine sq ?_
  obtain ⟨x_1, h_3, h⟩ := bind_some h
  obtain ⟨r_2, h_4, h⟩ := bind_some h
  refine rg [(5, { av := e_T_api_Thread x_1 }), (8, { av := .own 0 ((r_2).length), ids := [3], l := [.sl false 4 (Mp e_T_api_Packet s_1.Queue), Ii x_1.Id], post := [(.row 43 4 (Mp e_T_api_Packet r_2))] })] [1, 3, 4, 5, 6] [0, 1, 2, 3] 4 [Pp 0, Pp 1, .own 2 ((row_1).length), Ii i_1, .own 3 ((r_2).length)] [Vb 27 (v_T_api_Service s_1), Vb 27 [.nilsl, .nilsl, .nilsl], Rb 43 4 (Mp e_T_api_Packet row_1), Rb 43 4 (Mp e_T_api_Packet r_2)] hmix (ac (vc_idx h_3 : idxA (Mp e_T_api_Thread s_1.Threads) i_1 = some (e_T_api_Thread x_1)) (ar ([.sl false 4 (Mp e_T_api_Packet s_1.Queue), Ii x_1.Id] : List AV) (ac (rfl : ([] : List BoxSt) = []) (ac (R12_of_ok F s_1.Queue x_1.Id r_2 h_4 : TripleG prog 40 [] [] [.sl false 4 (Mp e_T_api_Packet s_1.Queue), Ii x_1.Id] [(.row 43 4 (Mp e_T_api_Packet r_2))] (.own 0 ((r_2).length))) an)))) ?_
  refine sr [] [1, 3, 4, 5, 6, 7] [0, 1, 2, 3] 4 [Pp 0, Pp 1, .own 2 ((row_1).length), Ii i_1, .own 3 ((r_2).length), Ii 0] [Vb 27 (v_T_api_Service s_1), Vb 27 [.nilsl, .nilsl, .nilsl], Rb 43 4 (Mp e_T_api_Packet row_1), Rb 43 4 (Mp e_T_api_Packet r_2)] hmix an ?_
  obtain ⟨o_2, h_5, h⟩ := bind_some h
  refine aw_mid (mk [(1, Pp 0), (3, Pp 1), (4, .own 2 ((o_2).length)), (5, Ii i_1)] [(0, Vb 27 (v_T_api_Service s_1)), (1, Vb 27 [.nilsl, .nilsl, .nilsl]), (2, Rb 43 4 (Mp e_T_api_Packet o_2))] 3) ?_ ?_
  ·replace h := h_5
   refine aw_block (id := 2) (by kernel_rfl) ?_
   refine wk [0, 1, 2, 3] [] [.s 1, .s 3, .s 4, .s 5, .s 6, .s 7] [.s 0, .s 1, .s 2, .s 3] [(1, Pp 0), (3, Pp 1), (4, .own 2 ((row_1).length)), (5, Ii i_1), (6, .own 3 ((r_2).length)), (7, Ii 0)] [(0, Vb 27 (v_T_api_Service s_1)), (1, Vb 27 [.nilsl, .nilsl, .nilsl]), (2, Rb 43 4 (Mp e_T_api_Packet row_1)), (3, Rb 43 4 (Mp e_T_api_Packet r_2))] an ?_
   refine aw_loopF (fun n st => ∃ (k_1 : Int), ∃ (row_2 : List T_api_Packet), st = mk [(1, Pp 0), (3, Pp 1), (4, .own 2 ((row_2).length)), (5, Ii i_1), (6, .own 3 ((r_2).length)), (7, Ii k_1)] [(0, Vb 27 (v_T_api_Service s_1)), (1, Vb 27 [.nilsl, .nilsl, .nilsl]), (2, Rb 43 4 (Mp e_T_api_Packet row_2)), (3, Rb 43 4 (Mp e_T_api_Packet r_2))] 4 ∧ R12_Flush_L2 F r_2 n k_1 row_2 = some o_2) F (by kernel_rfl) ⟨_, _, rfl, h⟩ ?_ ?_
   ·rintro _ ⟨_, _, _, h⟩; exact none_ne (h : (none : Option (List T_api_Packet)) = some o_2)
   rintro n_2 _ ⟨k_1, row_2, rfl, h⟩
   replace h : R12_Flush_L2_body F r_2 (R12_Flush_L2 F r_2 n_2) k_1 row_2 = some o_2 := h
   unfold R12_Flush_L2_body at h
   refine sq ?_
   refine sr [] [1, 3, 4, 5, 6, 7, 34] [0, 1, 2, 3] 4 [Pp 0, Pp 1, .own 2 ((row_2).length), Ii i_1, .own 3 ((r_2).length), Ii k_1, .bool (decide (k_1 < (lN (r_2))))] [Vb 27 (v_T_api_Service s_1), Vb 27 [.nilsl, .nilsl, .nilsl], Rb 43 4 (Mp e_T_api_Packet row_2), Rb 43 4 (Mp e_T_api_Packet r_2)] hmix an ?_
   refine cd 34 (decide (k_1 < (lN (r_2)))) ?_ ?_
   rotate_left
   ·intro g_3; replace h := cond_f g_3 h
    refine aw_exit (id := 2) (by kernel_rfl) ?_
    cases h
    exact ⟨rfl, (sw [0, 1, 2] [] [.s 1, .s 3, .s 4, .s 5] [.s 0, .s 1, .s 2] an)⟩
   intro g_3; replace h := cond_t g_3 h
   refine sk ?_
   refine sq ?_
   obtain ⟨o_3, h_6, h⟩ := bind_some h
   refine aw_mid (mk [(1, Pp 0), (3, Pp 1), (4, .own 2 ((o_3).length)), (5, Ii i_1), (6, .own 3 ((r_2).length)), (7, Ii k_1)] [(0, Vb 27 (v_T_api_Service s_1)), (1, Vb 27 [.nilsl, .nilsl, .nilsl]), (2, Rb 43 4 (Mp e_T_api_Packet o_3)), (3, Rb 43 4 (Mp e_T_api_Packet r_2))] 4) ?_ ?_
   ·replace h := h_6
    refine aw_block (id := 3) (by kernel_rfl) ?_
    refine sr [] [1, 3, 4, 5, 6, 7, 8] [0, 1, 2, 3] 4 [Pp 0, Pp 1, .own 2 ((row_2).length), Ii i_1, .own 3 ((r_2).length), Ii k_1, .bool false] [Vb 27 (v_T_api_Service s_1), Vb 27 [.nilsl, .nilsl, .nilsl], Rb 43 4 (Mp e_T_api_Packet row_2), Rb 43 4 (Mp e_T_api_Packet r_2)] hmix an ?_
    refine sq ?_
    refine sr [] [1, 3, 4, 5, 6, 7, 8, 38] [0, 1, 2, 3] 4 [Pp 0, Pp 1, .own 2 ((row_2).length), Ii i_1, .own 3 ((r_2).length), Ii k_1, .bool false, .bool (decide (k_1 > (0 : Int)))] [Vb 27 (v_T_api_Service s_1), Vb 27 [.nilsl, .nilsl, .nilsl], Rb 43 4 (Mp e_T_api_Packet row_2), Rb 43 4 (Mp e_T_api_Packet r_2)] hmix an ?_
    obtain ⟨o_4, h_7, h⟩ := bind_some h
    refine aw_mid (mk [(1, Pp 0), (3, Pp 1), (4, .own 2 ((o_4.2).length)), (5, Ii i_1), (6, .own 3 ((r_2).length)), (7, Ii k_1), (8, .bool o_4.1)] [(0, Vb 27 (v_T_api_Service s_1)), (1, Vb 27 [.nilsl, .nilsl, .nilsl]), (2, Rb 43 4 (Mp e_T_api_Packet o_4.2)), (3, Rb 43 4 (Mp e_T_api_Packet r_2))] 4) ?_ ?_
    ·replace h := h_7
     refine cd 38 (decide (k_1 > (0 : Int))) ?_ ?_
     rotate_left
     ·intro g_4; replace h := cond_f g_4 h
      refine sk ?_
      cases h
      exact ⟨rfl, (sw [0, 1, 2, 3] [] [.s 1, .s 3, .s 4, .s 5, .s 6, .s 7, .s 8] [.s 0, .s 1, .s 2, .s 3] an)⟩
     intro g_4; replace h := cond_t g_4 h
     refine sq ?_
     obtain ⟨x_2, h_8, h⟩ := bind_some h
     obtain ⟨x_3, h_9, h⟩ := bind_some h
     obtain ⟨r_3, h_10, h⟩ := bind_some h
     refine rg [(5, { av := e_T_api_Packet x_2 }), (9, { av := e_T_api_Packet x_3 }), (10, { av := .tuple [e_T_api_Packet r_3.1, .bool r_3.2], l := [e_T_api_Packet x_2, e_T_api_Packet x_3] }), (14, { id := 4 })] [1, 3, 4, 5, 6, 7, 8, 9, 10] [0, 1, 2, 3, 4] 5 [Pp 0, Pp 1, .own 2 ((row_2).length), Ii i_1, .own 3 ((r_2).length), Ii k_1, .bool false, Pp 4, .bool r_3.2] [Vb 27 (v_T_api_Service s_1), Vb 27 [.nilsl, .nilsl, .nilsl], Rb 43 4 (Mp e_T_api_Packet row_2), Rb 43 4 (Mp e_T_api_Packet r_2), Vb 43 (v_T_api_Packet r_3.1)] hmix (ac (idxL_lo h_8 : (0 : Int) ≤ (w_i64 ((lN (row_2)) - (1 : Int)))) (ac (by first | (simp; done) | simpa using idxL_hi h_8 : (w_i64 ((((row_2).length : Nat) : Int) - (1 : Int))) < (((row_2).length : Nat) : Int)) (ac (vc_get h_8 : (Mp e_T_api_Packet row_2)[(w_i64 ((lN (row_2)) - (1 : Int))).toNat]? = some (e_T_api_Packet x_2)) (ac (idxL_lo h_9 : (0 : Int) ≤ k_1) (ac (by first | (simp; done) | simpa using idxL_hi h_9 : k_1 < (((r_2).length : Nat) : Int)) (ac (vc_get h_9 : (Mp e_T_api_Packet r_2)[(k_1).toNat]? = some (e_T_api_Packet x_3)) (ar ([e_T_api_Packet x_2, e_T_api_Packet x_3] : List AV) (ac (rfl : ([] : List BoxSt) = []) (ac (R11_Join_ok F x_2 x_3 r_3 h_10 : TripleG prog 41 [] [] [e_T_api_Packet x_2, e_T_api_Packet x_3] [] (.tuple [e_T_api_Packet r_3.1, .bool r_3.2])) an))))))))) ?_
     refine sr [] [1, 3, 4, 5, 6, 7, 8, 9, 53] [0, 1, 2, 3, 4] 5 [Pp 0, Pp 1, .own 2 ((row_2).length), Ii i_1, .own 3 ((r_2).length), Ii k_1, .bool false, Pp 4, .bool r_3.2] [Vb 27 (v_T_api_Service s_1), Vb 27 [.nilsl, .nilsl, .nilsl], Rb 43 4 (Mp e_T_api_Packet row_2), Rb 43 4 (Mp e_T_api_Packet r_2), Vb 43 (v_T_api_Packet r_3.1)] hmix an ?_
     refine cd 53 r_3.2 ?_ ?_
     rotate_left
     ·intro g_5; replace h := cond_f g_5 h
      refine sk ?_
      cases h
      exact ⟨rfl, (sw [0, 1, 2, 3] [] [.s 1, .s 3, .s 4, .s 5, .s 6, .s 7, .s 8] [.s 0, .s 1, .s 2, .s 3] an)⟩
     intro g_5; replace h := cond_t g_5 h
     refine sq ?_
     obtain ⟨x_4, h_11, h⟩ := bind_some h
     refine rg [(6, { av := e_T_api_Packet x_4, l := (Mp e_T_api_Packet ((row_2).set ((w_i64 ((lN (row_2)) - (1 : Int))).toNat) r_3.1)) })] [1, 3, 4, 5, 6, 7] [0, 1, 2, 3] 5 [Pp 0, Pp 1, .own 2 ((row_2).length), Ii i_1, .own 3 ((r_2).length), Ii k_1] [Vb 27 (v_T_api_Service s_1), Vb 27 [.nilsl, .nilsl, .nilsl], Rb 43 4 (Mp e_T_api_Packet ((row_2).set ((w_i64 ((lN (row_2)) - (1 : Int))).toNat) r_3.1)), Rb 43 4 (Mp e_T_api_Packet r_2)] hmix (ac (idxL_lo h_11 : (0 : Int) ≤ (w_i64 ((lN (row_2)) - (1 : Int)))) (ac (by first | (simp; done) | simpa using idxL_hi h_11 : (w_i64 ((((row_2).length : Nat) : Int) - (1 : Int))) < (((row_2).length : Nat) : Int)) (ac (vc_get h_11 : (Mp e_T_api_Packet row_2)[(w_i64 ((lN (row_2)) - (1 : Int))).toNat]? = some (e_T_api_Packet x_4)) (ac (vc_set _ _ _ : (Mp e_T_api_Packet ((row_2).set ((w_i64 ((lN (row_2)) - (1 : Int))).toNat) r_3.1)) = List.set (Mp e_T_api_Packet row_2) ((w_i64 ((lN (row_2)) - (1 : Int))).toNat) (setElem (e_T_api_Packet x_4) 0 [Ii r_3.1.Thread, Ii r_3.1.Serial, Ii r_3.1.Lost, .sl false 6 (Mp e_T_api_Event r_3.1.Events)])) an)))) ?_
     refine rg [] [1, 3, 4, 5, 6, 7, 8] [0, 1, 2, 3] 5 [Pp 0, Pp 1, .own 2 ((row_2).length), Ii i_1, .own 3 ((r_2).length), Ii k_1, .bool true] [Vb 27 (v_T_api_Service s_1), Vb 27 [.nilsl, .nilsl, .nilsl], Rb 43 4 (Mp e_T_api_Packet ((row_2).set ((w_i64 ((lN (row_2)) - (1 : Int))).toNat) r_3.1)), Rb 43 4 (Mp e_T_api_Packet r_2)] hmix an ?_
     cases h
     exact ⟨rfl, (sw [0, 1, 2, 3] [] [.s 1, .s 3, .a 4 (.own 2 (((row_2).set ((w_i64 ((lN (row_2)) - (1 : Int))).toNat) r_3.1).length)), .s 5, .s 6, .s 7, .s 8] [.s 0, .s 1, .s 2, .s 3] (ac (congrArg (AV.own _) (by first | (simp; done) | (simp; omega)) : (.own 2 ((row_2).length) : AV) = .own 2 (((row_2).set ((w_i64 ((lN (row_2)) - (1 : Int))).toNat) r_3.1).length)) an))⟩
    refine sr [] [1, 3, 4, 5, 6, 7, 61] [0, 1, 2, 3] 4 [Pp 0, Pp 1, .own 2 ((o_4.2).length), Ii i_1, .own 3 ((r_2).length), Ii k_1, .bool (!o_4.1)] [Vb 27 (v_T_api_Service s_1), Vb 27 [.nilsl, .nilsl, .nilsl], Rb 43 4 (Mp e_T_api_Packet o_4.2), Rb 43 4 (Mp e_T_api_Packet r_2)] hmix an ?_
    refine cd 61 (!o_4.1) ?_ ?_
    rotate_left
    ·intro g_6; replace h := cond_f g_6 h
     refine sk ?_
     cases h
     exact ⟨rfl, (sw [0, 1, 2, 3] [] [.s 1, .s 3, .s 4, .s 5, .s 6, .s 7] [.s 0, .s 1, .s 2, .s 3] an)⟩
    intro g_6; replace h := cond_t g_6 h
    obtain ⟨x_5, h_12, h⟩ := bind_some h
    obtain ⟨_, h_13, h⟩ := bind_some h; replace h_13 := need_some h_13
    refine rg [(4, { av := e_T_api_Packet x_5 }), (5, { id := 4 }), (6, { id := 5, l := (Mp e_T_api_Packet (o_4.2 ++ ([x_5] : List T_api_Packet))), n := ((o_4.2 ++ ([x_5] : List T_api_Packet))).length })] [1, 3, 4, 5, 6, 7] [0, 1, 3, 5] 6 [Pp 0, Pp 1, .own 5 (((o_4.2 ++ ([x_5] : List T_api_Packet))).length), Ii i_1, .own 3 ((r_2).length), Ii k_1] [Vb 27 (v_T_api_Service s_1), Vb 27 [.nilsl, .nilsl, .nilsl], Rb 43 4 (Mp e_T_api_Packet r_2), Rb 43 4 (Mp e_T_api_Packet (o_4.2 ++ ([x_5] : List T_api_Packet)))] hmix (ac (idxL_lo h_12 : (0 : Int) ≤ k_1) (ac (by first | (simp; done) | simpa using idxL_hi h_12 : k_1 < (((r_2).length : Nat) : Int)) (ac (vc_get h_12 : (Mp e_T_api_Packet r_2)[(k_1).toNat]? = some (e_T_api_Packet x_5)) (ac (by first | (simp; done) | (simp; omega) : (o_4.2).length = ((List.map e_T_api_Packet o_4.2)).length) (ac (by first | (simp; done) | (simp; omega) : 1 = ((List.map e_T_api_Packet ([x_5] : List T_api_Packet))).length) (ac (vc_app _ _ : (Mp e_T_api_Packet (o_4.2 ++ ([x_5] : List T_api_Packet))) = (Mp e_T_api_Packet o_4.2) ++ (Mp e_T_api_Packet ([x_5] : List T_api_Packet))) (ac (by simp : ((o_4.2 ++ ([x_5] : List T_api_Packet))).length = ((List.map e_T_api_Packet (o_4.2 ++ ([x_5] : List T_api_Packet)))).length) (ac (by first | (simp; done) | simpa using h_13 : (((List.map e_T_api_Packet o_4.2) : List AV).length + ((List.map e_T_api_Packet ([x_5] : List T_api_Packet)) : List AV).length) * 48 ≤ 140737488355328) an)))))))) ?_
    cases h
    exact ⟨rfl, (sw [0, 1, 5, 3] [] [.s 1, .s 3, .s 4, .s 5, .s 6, .s 7] [.s 0, .s 1, .s 2, .s 3] an)⟩
   refine rg [] [1, 3, 4, 5, 6, 7] [0, 1, 2, 3] 4 [Pp 0, Pp 1, .own 2 ((o_3).length), Ii i_1, .own 3 ((r_2).length), Ii (w_i64 (k_1 + (1 : Int)))] [Vb 27 (v_T_api_Service s_1), Vb 27 [.nilsl, .nilsl, .nilsl], Rb 43 4 (Mp e_T_api_Packet o_3), Rb 43 4 (Mp e_T_api_Packet r_2)] hmix an ?_
   exact ⟨_, (sw [0, 1, 2, 3] [] [.s 1, .s 3, .s 4, .s 5, .s 6, .s 7] [.s 0, .s 1, .s 2, .s 3] an), _, _, rfl, h⟩
  refine rg [] [1, 3, 4, 5] [0, 1, 2] 3 [Pp 0, Pp 1, .own 2 ((o_2).length), Ii (w_i64 (i_1 + (1 : Int)))] [Vb 27 (v_T_api_Service s_1), Vb 27 [.nilsl, .nilsl, .nilsl], Rb 43 4 (Mp e_T_api_Packet o_2)] hmix an ?_
  exact ⟨_, (sw [0, 1, 2] [] [.s 1, .s 3, .s 4, .s 5] [.s 0, .s 1, .s 2] an), _, _, rfl, h⟩
 refine sr [] [2, 3] [1, 2] 3 [.own 2 ((o_1).length), Pp 1] [Vb 27 [.sl false 3 (Mp e_T_api_Thread s_1.Threads), .sl false 1 (Mi s_1.Next), .nilsl], Rb 43 4 (Mp e_T_api_Packet o_1)] hmix an ?_
 refine wk [2, 1] [] [.s 2, .s 3] [.s 0, .a 1 (Vb 27 (v_T_api_Service (⟨s_1.Threads, s_1.Next, []⟩ : T_api_Service)))] [(2, .own 0 ((o_1).length)), (3, Pp 1)] [(0, Rb 43 4 (Mp e_T_api_Packet o_1)), (1, Vb 27 (v_T_api_Service (⟨s_1.Threads, s_1.Next, []⟩ : T_api_Service)))] (ar 27 (ac (rfl : ones [.sl false 3 (Mp e_T_api_Thread ((⟨s_1.Threads, s_1.Next, []⟩ : T_api_Service).Threads)), .sl false 1 (Mi ((⟨s_1.Threads, s_1.Next, []⟩ : T_api_Service).Next)), .sl false 4 (Mp e_T_api_Packet ((⟨s_1.Threads, s_1.Next, []⟩ : T_api_Service).Queue))] = true) (ar 3 (ac (rfl : ((Mp e_T_api_Thread s_1.Threads) : List AV) = (Mp e_T_api_Thread ((⟨s_1.Threads, s_1.Next, []⟩ : T_api_Service).Threads))) (ac (rfl : (!false || false) = true) (ar 1 (ac (rfl : ((Mi s_1.Next) : List AV) = (Mi ((⟨s_1.Threads, s_1.Next, []⟩ : T_api_Service).Next))) (ac (rfl : (!false || false) = true) (ac (rfl : ((Mp e_T_api_Packet ((⟨s_1.Threads, s_1.Next, []⟩ : T_api_Service).Queue)) : List AV) = []) an))))))))) ?_
 refine rt ?_
 cases h
 exact ⟨.inr rfl, Nat.le_of_ble_eq_true rfl, by kernel_rfl⟩

end Go.Ab
