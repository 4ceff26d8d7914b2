/- Printed: the typed Lean functions of the Go functions, or the proofs that the Go functions meet them. No conditions but those that the theorems name. -/
import Derived.Test.YtpdbjocgoheapaaP12x2
namespace Go.Ab
open Go
set_option linter.unusedVariables false
theorem R12_Flush_ok (F : Nat) (s_1 : T_api_Service) (r : (List (T_api_Packet)) × T_api_Service) (h : R12_Flush F s_1 = some r) : TripleG prog 18 [] [] [e_T_api_Service s_1] [.row 43 4 (Mp e_T_api_Packet r.1)] (.tuple [.own 0 ((r.1).length), e_T_api_Service r.2]) := by
 refine triple_intro (fn := Go.Proofs.Try.f18) (code := codeOf Go.Proofs.Try.f18) (by kernel_rfl) (by kernel_rfl) (Nat.le_of_ble_eq_true (by kernel_rfl)) ?_
 unfold R12_Flush at h
 refine sr [(0, { id := 0 }), (1, { id := 1, m := 1 }), (2, { id := 2 })] [1, 3] [0, 2] 3 [Pp 0, Pp 2] [Vb 27 (v_T_api_Service s_1), Vb 27 [.nilsl, .nilsl, .nilsl]] hmix an ?_
 refine sq ?_
 refine sq ?_
 obtain ⟨r_1, h_1, h⟩ := bind_some h
 refine rg [(1, { av := Ii r_1, l := [e_T_api_Service s_1] })] [1, 3, 13] [0, 2] 3 [Pp 0, Pp 2, .bool (r_1 != (0 : Int))] [Vb 27 (v_T_api_Service s_1), Vb 27 [.nilsl, .nilsl, .nilsl]] hmix (ar ([e_T_api_Service s_1] : List AV) (ac (rfl : ([] : List BoxSt) = []) (ac (R12_Check_ok F s_1 r_1 h_1 : TripleG prog 19 [] [] [e_T_api_Service s_1] [] (Ii r_1)) an))) ?_
 refine cd 13 (r_1 != (0 : Int)) ?_ ?_
 ·intro g_1; replace h := cond_t g_1 h
  refine sr [(1, { id := 3, m := 1 })] [2, 3] [2, 3] 4 [.own 3 0, Pp 2] [Vb 27 (v_T_api_Service s_1), Rb 43 4 []] hmix an ?_
  refine wk [3, 2] [] [.a 2 (.own 0 ((([] : List T_api_Packet)).length)), .s 3] [.s 0, .s 1] [(2, .own 0 ((([] : List T_api_Packet)).length)), (3, Pp 1)] [(0, Rb 43 4 []), (1, Vb 27 (v_T_api_Service s_1))] (ac (congrArg (AV.own _) (by first | (simp; done) | (simp; omega)) : (.own 3 0 : AV) = .own 3 ((([] : List T_api_Packet)).length)) an) ?_
  refine rt ?_
  cases h
  exact ⟨.inr rfl, Nat.le_of_ble_eq_true rfl, by kernel_rfl⟩
 intro g_1; replace h := cond_f g_1 h
 refine sk ?_
 refine sr [(0, { id := 3, m := 1 })] [1, 3, 4] [0, 2, 3] 4 [Pp 0, Pp 2, .own 3 0] [Vb 27 (v_T_api_Service s_1), Vb 27 [.nilsl, .nilsl, .nilsl], Rb 43 4 []] hmix an ?_
 refine sq ?_
 refine sr [] [1, 3, 4, 5] [0, 2, 3] 4 [Pp 0, Pp 2, .own 3 0, Ii 0] [Vb 27 (v_T_api_Service s_1), Vb 27 [.nilsl, .nilsl, .nilsl], Rb 43 4 []] hmix an ?_
 obtain ⟨o_1, h_2, h⟩ := bind_some h
 refine aw_mid (mk [(1, Pp 0), (3, Pp 1), (4, .own 2 ((o_1).length))] [(0, Vb 27 (v_T_api_Service s_1)), (1, Vb 27 [.nilsl, .nilsl, .nilsl]), (2, Rb 43 4 (Mp e_T_api_Packet o_1))] 3) ?_ ?_
 ·replace h := h_2
  refine aw_block (id := 0) (by kernel_rfl) ?_
  refine wk [0, 2, 3] [] [.s 1, .s 3, .s 4, .s 5] [.s 0, .s 1, .s 2] [(1, Pp 0), (3, Pp 1), (4, .own 2 0), (5, Ii 0)] [(0, Vb 27 (v_T_api_Service s_1)), (1, Vb 27 [.nilsl, .nilsl, .nilsl]), (2, Rb 43 4 [])] an ?_
  refine aw_loopF (fun n st => ∃ (i_1 : Int), ∃ (row_1 : List T_api_Packet), st = mk [(1, Pp 0), (3, Pp 1), (4, .own 2 ((row_1).length)), (5, Ii i_1)] [(0, Vb 27 (v_T_api_Service s_1)), (1, Vb 27 [.nilsl, .nilsl, .nilsl]), (2, Rb 43 4 (Mp e_T_api_Packet row_1))] 3 ∧ R12_Flush_L1 F s_1 n i_1 row_1 = some o_1) F (by kernel_rfl) ⟨_, _, rfl, h⟩ ?_ ?_
  ·rintro _ ⟨_, _, _, h⟩; exact none_ne (h : (none : Option (List T_api_Packet)) = some o_1)
  rintro n_1 _ ⟨i_1, row_1, rfl, h⟩
  replace h : R12_Flush_L1_body F s_1 (R12_Flush_L1 F s_1 n_1) i_1 row_1 = some o_1 := h
  unfold R12_Flush_L1_body at h
  refine sq ?_
  refine sr [(3, { n := (s_1.Threads).length })] [1, 3, 4, 5, 19] [0, 1, 2] 3 [Pp 0, Pp 1, .own 2 ((row_1).length), Ii i_1, .bool (decide (i_1 < (lN (s_1.Threads))))] [Vb 27 (v_T_api_Service s_1), Vb 27 [.nilsl, .nilsl, .nilsl], Rb 43 4 (Mp e_T_api_Packet row_1)] hmix (ac (vc_len _ : ((Mp e_T_api_Thread s_1.Threads)).length = (s_1.Threads).length) an) ?_
  refine cd 19 (decide (i_1 < (lN (s_1.Threads)))) ?_ ?_
  rotate_left
  ·intro g_2; replace h := cond_f g_2 h
   refine aw_exit (id := 0) (by kernel_rfl) ?_
   cases h
   exact ⟨rfl, (sw [0, 1, 2] [] [.s 1, .s 3, .s 4] [.s 0, .s 1, .s 2] an)⟩
  intro g_2; replace h := cond_t g_2 h
  refine sk ?_
  refine sq ?_
  refine aw_block (id := 1) (by kernel_rfl) ?_
  refine sq ?_
  obtain ⟨x_1, h_3, h⟩ := bind_some h
  obtain ⟨r_2, h_4, h⟩ := bind_some h
  refine rg [(5, { av := e_T_api_Thread x_1 }), (8, { av := .own 0 ((r_2).length), ids := [3], l := [.sl false 4 (Mp e_T_api_Packet s_1.Queue), Ii x_1.Id], post := [(.row 43 4 (Mp e_T_api_Packet r_2))] })] [1, 3, 4, 5, 6] [0, 1, 2, 3] 4 [Pp 0, Pp 1, .own 2 ((row_1).length), Ii i_1, .own 3 ((r_2).length)] [Vb 27 (v_T_api_Service s_1), Vb 27 [.nilsl, .nilsl, .nilsl], Rb 43 4 (Mp e_T_api_Packet row_1), Rb 43 4 (Mp e_T_api_Packet r_2)] hmix (ac (vc_idx h_3 : idxA (Mp e_T_api_Thread s_1.Threads) i_1 = some (e_T_api_Thread x_1)) (ar ([.sl false 4 (Mp e_T_api_Packet s_1.Queue), Ii x_1.Id] : List AV) (ac (rfl : ([] : List BoxSt) = []) (ac (R12_of_ok F s_1.Queue x_1.Id r_2 h_4 : TripleG prog 40 [] [] [.sl false 4 (Mp e_T_api_Packet s_1.Queue), Ii x_1.Id] [(.row 43 4 (Mp e_T_api_Packet r_2))] (.own 0 ((r_2).length))) an)))) ?_
  refine sr [] [1, 3, 4, 5, 6, 7] [0, 1, 2, 3] 4 [Pp 0, Pp 1, .own 2 ((row_1).length), Ii i_1, .own 3 ((r_2).length), Ii 0] [Vb 27 (v_T_api_Service s_1), Vb 27 [.nilsl, .nilsl, .nilsl], Rb 43 4 (Mp e_T_api_Packet row_1), Rb 43 4 (Mp e_T_api_Packet r_2)] hmix an ?_
  obtain ⟨o_2, h_5, h⟩ := bind_some h
  refine aw_mid (mk [(1, Pp 0), (3, Pp 1), (4, .own 2 ((o_2).length)), (5, Ii i_1)] [(0, Vb 27 (v_T_api_Service s_1)), (1, Vb 27 [.nilsl, .nilsl, .nilsl]), (2, Rb 43 4 (Mp e_T_api_Packet o_2))] 3) ?_ ?_
  ·replace h := h_5
   refine aw_block (id := 2) (by kernel_rfl) ?_
   refine wk [0, 1, 2, 3] [] [.s 1, .s 3, .s 4, .s 5, .s 6, .s 7] [.s 0, .s 1, .s 2, .s 3] [(1, Pp 0), (3, Pp 1), (4, .own 2 ((row_1).length)), (5, Ii i_1), (6, .own 3 ((r_2).length)), (7, Ii 0)] [(0, Vb 27 (v_T_api_Service s_1)), (1, Vb 27 [.nilsl, .nilsl, .nilsl]), (2, Rb 43 4 (Mp e_T_api_Packet row_1)), (3, Rb 43 4 (Mp e_T_api_Packet r_2))] an ?_
   refine aw_loopF (fun n st => ∃ (k_1 : Int), ∃ (row_2 : List T_api_Packet), st = mk [(1, Pp 0), (3, Pp 1), (4, .own 2 ((row_2).length)), (5, Ii i_1), (6, .own 3 ((r_2).length)), (7, Ii k_1)] [(0, Vb 27 (v_T_api_Service s_1)), (1, Vb 27 [.nilsl, .nilsl, .nilsl]), (2, Rb 43 4 (Mp e_T_api_Packet row_2)), (3, Rb 43 4 (Mp e_T_api_Packet r_2))] 4 ∧ R12_Flush_L2 F r_2 n k_1 row_2 = some o_2) F (by kernel_rfl) ⟨_, _, rfl, h⟩ ?_ ?_
   ·rintro _ ⟨_, _, _, h⟩; exact none_ne (h : (none : Option (List T_api_Packet)) = some o_2)
   rintro n_2 _ ⟨k_1, row_2, rfl, h⟩
   replace h : R12_Flush_L2_body F r_2 (R12_Flush_L2 F r_2 n_2) k_1 row_2 = some o_2 := h
   unfold R12_Flush_L2_body at h
   refine sq ?_
   refine sr [] [1, 3, 4, 5, 6, 7, 34] [0, 1, 2, 3] 4 [Pp 0, Pp 1, .own 2 ((row_2).length), Ii i_1, .own 3 ((r_2).length), Ii k_1, .bool (decide (k_1 < (lN (r_2))))] [Vb 27 (v_T_api_Service s_1), Vb 27 [.nilsl, .nilsl, .nilsl], Rb 43 4 (Mp e_T_api_Packet row_2), Rb 43 4 (Mp e_T_api_Packet r_2)] hmix an ?_
   refine cd 34 (decide (k_1 < (lN (r_2)))) ?_ ?_
   rotate_left
   ·intro g_3; replace h := cond_f g_3 h
    refine aw_exit (id := 2) (by kernel_rfl) ?_
    cases h
    exact ⟨rfl, (sw [0, 1, 2] [] [.s 1, .s 3, .s 4, .s 5] [.s 0, .s 1, .s 2] an)⟩
   intro g_3; replace h := cond_t g_3 h
   refine sk ?_
   refine sq ?_
   obtain ⟨o_3, h_6, h⟩ := bind_some h
   refine aw_mid (mk [(1, Pp 0), (3, Pp 1), (4, .own 2 ((o_3).length)), (5, Ii i_1), (6, .own 3 ((r_2).length)), (7, Ii k_1)] [(0, Vb 27 (v_T_api_Service s_1)), (1, Vb 27 [.nilsl, .nilsl, .nilsl]), (2, Rb 43 4 (Mp e_T_api_Packet o_3)), (3, Rb 43 4 (Mp e_T_api_Packet r_2))] 4) ?_ ?_
   ·replace h := h_6
    refine aw_block (id := 3) (by kernel_rfl) ?_
    refine sr [] [1, 3, 4, 5, 6, 7, 8] [0, 1, 2, 3] 4 [Pp 0, Pp 1, .own 2 ((row_2).length), Ii i_1, .own 3 ((r_2).length), Ii k_1, .bool false] [Vb 27 (v_T_api_Service s_1), Vb 27 [.nilsl, .nilsl, .nilsl], Rb 43 4 (Mp e_T_api_Packet row_2), Rb 43 4 (Mp e_T_api_Packet r_2)] hmix an ?_
    refine sq ?_
    refine sr [] [1, 3, 4, 5, 6, 7, 8, 38] [0, 1, 2, 3] 4 [Pp 0, Pp 1, .own 2 ((row_2).length), Ii i_1, .own 3 ((r_2).length), Ii k_1, .bool false, .bool (decide (k_1 > (0 : Int)))] [Vb 27 (v_T_api_Service s_1), Vb 27 [.nilsl, .nilsl, .nilsl], Rb 43 4 (Mp e_T_api_Packet row_2), Rb 43 4 (Mp e_T_api_Packet r_2)] hmix an ?_
    obtain ⟨o_4, h_7, h⟩ := bind_some h
    refine aw_mid (mk [(1, Pp 0), (3, Pp 1), (4, .own 2 ((o_4.2).length)), (5, Ii i_1), (6, .own 3 ((r_2).length)), (7, Ii k_1), (8, .bool o_4.1)] [(0, Vb 27 (v_T_api_Service s_1)), (1, Vb 27 [.nilsl, .nilsl, .nilsl]), (2, Rb 43 4 (Mp e_T_api_Packet o_4.2)), (3, Rb 43 4 (Mp e_T_api_Packet r_2))] 4) ?_ ?_
    ·replace h := h_7
     refine cd 38 (decide (k_1 > (0 : Int))) ?_ ?_
     rotate_left
     ·intro g_4; replace h := cond_f g_4 h
      refine sk ?_
      cases h
      exact ⟨rfl, (sw [0, 1, 2, 3] [] [.s 1, .s 3, .s 4, .s 5, .s 6, .s 7, .s 8] [.s 0, .s 1, .s 2, .s 3] an)⟩
     intro g_4; replace h := cond_t g_4 h
     refine sq ?_
     obtain ⟨x_2, h_8, h⟩ := bind_some h
     obtain ⟨x_3, h_9, h⟩ := bind_some h
     obtain ⟨r_3, h_10, h⟩ := bind_some h
     refine rg [(5, { av := e_T_api_Packet x_2 }), (9, { av := e_T_api_Packet x_3 }), (10, { av := .tuple [e_T_api_Packet r_3.1, .bool r_3.2], l := [e_T_api_Packet x_2, e_T_api_Packet x_3] }), (14, { id := 4 })] [1, 3, 4, 5, 6, 7, 8, 9, 10] [0, 1, 2, 3, 4] 5 [Pp 0, Pp 1, .own 2 ((row_2).length), Ii i_1, .own 3 ((r_2).length), Ii k_1, .bool false, Pp 4, .bool r_3.2] [Vb 27 (v_T_api_Service s_1), Vb 27 [.nilsl, .nilsl, .nilsl], Rb 43 4 (Mp e_T_api_Packet row_2), Rb 43 4 (Mp e_T_api_Packet r_2), Vb 43 (v_T_api_Packet r_3.1)] hmix (ac (idxL_lo h_8 : (0 : Int) ≤ (w_i64 ((lN (row_2)) - (1 : Int)))) (ac (by first | (simp; done) | simpa using idxL_hi h_8 : (w_i64 ((((row_2).length : Nat) : Int) - (1 : Int))) < (((row_2).length : Nat) : Int)) (ac (vc_get h_8 : (Mp e_T_api_Packet row_2)[(w_i64 ((lN (row_2)) - (1 : Int))).toNat]? = some (e_T_api_Packet x_2)) (ac (idxL_lo h_9 : (0 : Int) ≤ k_1) (ac (by first | (simp; done) | simpa using idxL_hi h_9 : k_1 < (((r_2).length : Nat) : Int)) (ac (vc_get h_9 : (Mp e_T_api_Packet r_2)[(k_1).toNat]? = some (e_T_api_Packet x_3)) (ar ([e_T_api_Packet x_2, e_T_api_Packet x_3] : List AV) (ac (rfl : ([] : List BoxSt) = []) (ac (R11_Join_ok F x_2 x_3 r_3 h_10 : TripleG prog 41 [] [] [e_T_api_Packet x_2, e_T_api_Packet x_3] [] (.tuple [e_T_api_Packet r_3.1, .bool r_3.2])) an))))))))) ?_
     refine sr [] [1, 3, 4, 5, 6, 7, 8, 9, 53] [0, 1, 2, 3, 4] 5 [Pp 0, Pp 1, .own 2 ((row_2).length), Ii i_1, .own 3 ((r_2).length), Ii k_1, .bool false, Pp 4, .bool r_3.2] [Vb 27 (v_T_api_Service s_1), Vb 27 [.nilsl, .nilsl, .nilsl], Rb 43 4 (Mp e_T_api_Packet row_2), Rb 43 4 (Mp e_T_api_Packet r_2), Vb 43 (v_T_api_Packet r_3.1)] hmix an ?_
     refine cd 53 r_3.2 ?_ ?_
     rotate_left
     ·intro g_5; replace h := cond_f g_5 h
      refine sk ?_
      cases h
      exact ⟨rfl, (sw [0, 1, 2, 3] [] [.s 1, .s 3, .s 4, .s 5, .s 6, .s 7, .s 8] [.s 0, .s 1, .s 2, .s 3] an)⟩
     intro g_5; replace h := cond_t g_5 h
     refine sq ?_
     obtain ⟨x_4, h_11, h⟩ := bind_some h
     refine rg [(6, { av := e_T_api_Packet x_4, l := (Mp e_T_api_Packet ((row_2).set ((w_i64 ((lN (row_2)) - (1 : Int))).toNat) r_3.1)) })] [1, 3, 4, 5, 6, 7] [0, 1, 2, 3] 5 [Pp 0, Pp 1, .own 2 ((row_2).length), Ii i_1, .own 3 ((r_2).length), Ii k_1] [Vb 27 (v_T_api_Service s_1), Vb 27 [.nilsl, .nilsl, .nilsl], Rb 43 4 (Mp e_T_api_Packet ((row_2).set ((w_i64 ((lN (row_2)) - (1 : Int))).toNat) r_3.1)), Rb 43 4 (Mp e_T_api_Packet r_2)] hmix (ac (idxL_lo h_11 : (0 : Int) ≤ (w_i64 ((lN (row_2)) - (1 : Int)))) (ac (by first | (simp; done) | simpa using idxL_hi h_11 : (w_i64 ((((row_2).length : Nat) : Int) - (1 : Int))) < (((row_2).length : Nat) : Int)) (ac (vc_get h_11 : (Mp e_T_api_Packet row_2)[(w_i64 ((lN (row_2)) - (1 : Int))).toNat]? = some (e_T_api_Packet x_4)) (ac (vc_set _ _ _ : (Mp e_T_api_Packet ((row_2).set ((w_i64 ((lN (row_2)) - (1 : Int))).toNat) r_3.1)) = List.set (Mp e_T_api_Packet row_2) ((w_i64 ((lN (row_2)) - (1 : Int))).toNat) (setElem (e_T_api_Packet x_4) 0 [Ii r_3.1.Thread, Ii r_3.1.Serial, Ii r_3.1.Lost, .sl false 6 (Mp e_T_api_Event r_3.1.Events)])) an)))) ?_
     refine rg [] [1, 3, 4, 5, 6, 7, 8] [0, 1, 2, 3] 5 [Pp 0, Pp 1, .own 2 ((row_2).length), Ii i_1, .own 3 ((r_2).length), Ii k_1, .bool true] [Vb 27 (v_T_api_Service s_1), Vb 27 [.nilsl, .nilsl, .nilsl], Rb 43 4 (Mp e_T_api_Packet ((row_2).set ((w_i64 ((lN (row_2)) - (1 : Int))).toNat) r_3.1)), Rb 43 4 (Mp e_T_api_Packet r_2)] hmix an ?_
     cases h
     exact ⟨rfl, (sw [0, 1, 2, 3] [] [.s 1, .s 3, .a 4 (.own 2 (((row_2).set ((w_i64 ((lN (row_2)) - (1 : Int))).toNat) r_3.1).length)), .s 5, .s 6, .s 7, .s 8] [.s 0, .s 1, .s 2, .s 3] (ac (congrArg (AV.own _) (by first | (simp; done) | (simp; omega)) : (.own 2 ((row_2).length) : AV) = .own 2 (((row_2).set ((w_i64 ((lN (row_2)) - (1 : Int))).toNat) r_3.1).length)) an))⟩
    refine sr [] [1, 3, 4, 5, 6, 7, 61] [0, 1, 2, 3] 4 [Pp 0, Pp 1, .own 2 ((o_4.2).length), Ii i_1, .own 3 ((r_2).length), Ii k_1, .bool (!o_4.1)] [Vb 27 (v_T_api_Service s_1), Vb 27 [.nilsl, .nilsl, .nilsl], Rb 43 4 (Mp e_T_api_Packet o_4.2), Rb 43 4 (Mp e_T_api_Packet r_2)] hmix an ?_
    refine cd 61 (!o_4.1) ?_ ?_
    rotate_left
    ·intro g_6; replace h := cond_f g_6 h
     refine sk ?_
     cases h
     exact ⟨rfl, (sw [0, 1, 2, 3] [] [.s 1, .s 3, .s 4, .s 5, .s 6, .s 7] [.s 0, .s 1, .s 2, .s 3] an)⟩
    intro g_6; replace h := cond_t g_6 h
    obtain ⟨x_5, h_12, h⟩ := bind_some h
    obtain ⟨_, h_13, h⟩ := bind_some h; replace h_13 := need_some h_13
    refine rg [(4, { av := e_T_api_Packet x_5 }), (5, { id := 4 }), (6, { id := 5, l := (Mp e_T_api_Packet (o_4.2 ++ ([x_5] : List T_api_Packet))), n := ((o_4.2 ++ ([x_5] : List T_api_Packet))).length })] [1, 3, 4, 5, 6, 7] [0, 1, 3, 5] 6 [Pp 0, Pp 1, .own 5 (((o_4.2 ++ ([x_5] : List T_api_Packet))).length), Ii i_1, .own 3 ((r_2).length), Ii k_1] [Vb 27 (v_T_api_Service s_1), Vb 27 [.nilsl, .nilsl, .nilsl], Rb 43 4 (Mp e_T_api_Packet r_2), Rb 43 4 (Mp e_T_api_Packet (o_4.2 ++ ([x_5] : List T_api_Packet)))] hmix (ac (idxL_lo h_12 : (0 : Int) ≤ k_1) (ac (by first | (simp; done) | simpa using idxL_hi h_12 : k_1 < (((r_2).length : Nat) : Int)) (ac (vc_get h_12 : (Mp e_T_api_Packet r_2)[(k_1).toNat]? = some (e_T_api_Packet x_5)) (ac (by first | (simp; done) | (simp; omega) : (o_4.2).length = ((List.map e_T_api_Packet o_4.2)).length) (ac (by first | (simp; done) | (simp; omega) : 1 = ((List.map e_T_api_Packet ([x_5] : List T_api_Packet))).length) (ac (vc_app _ _ : (Mp e_T_api_Packet (o_4.2 ++ ([x_5] : List T_api_Packet))) = (Mp e_T_api_Packet o_4.2) ++ (Mp e_T_api_Packet ([x_5] : List T_api_Packet))) (ac (by simp : ((o_4.2 ++ ([x_5] : List T_api_Packet))).length = ((List.map e_T_api_Packet (o_4.2 ++ ([x_5] : List T_api_Packet)))).length) (ac (by first | (simp; done) | simpa using h_13 : (((List.map e_T_api_Packet o_4.2) : List AV).length + ((List.map e_T_api_Packet ([x_5] : List T_api_Packet)) : List AV).length) * 48 ≤ 140737488355328) an)))))))) ?_
    cases h
    exact ⟨rfl, (sw [0, 1, 5, 3] [] [.s 1, .s 3, .s 4, .s 5, .s 6, .s 7] [.s 0, .s 1, .s 2, .s 3] an)⟩
   refine rg [] [1, 3, 4, 5, 6, 7] [0, 1, 2, 3] 4 [Pp 0, Pp 1, .own 2 ((o_3).length), Ii i_1, .own 3 ((r_2).length), Ii (w_i64 (k_1 + (1 : Int)))] [Vb 27 (v_T_api_Service s_1), Vb 27 [.nilsl, .nilsl, .nilsl], Rb 43 4 (Mp e_T_api_Packet o_3), Rb 43 4 (Mp e_T_api_Packet r_2)] hmix an ?_
   exact ⟨_, (sw [0, 1, 2, 3] [] [.s 1, .s 3, .s 4, .s 5, .s 6, .s 7] [.s 0, .s 1, .s 2, .s 3] an), _, _, rfl, h⟩
  refine rg [] [1, 3, 4, 5] [0, 1, 2] 3 [Pp 0, Pp 1, .own 2 ((o_2).length), Ii (w_i64 (i_1 + (1 : Int)))] [Vb 27 (v_T_api_Service s_1), Vb 27 [.nilsl, .nilsl, .nilsl], Rb 43 4 (Mp e_T_api_Packet o_2)] hmix an ?_
  exact ⟨_, (sw [0, 1, 2] [] [.s 1, .s 3, .s 4, .s 5] [.s 0, .s 1, .s 2] an), _, _, rfl, h⟩
 refine sr [] [2, 3] [1, 2] 3 [.own 2 ((o_1).length), Pp 1] [Vb 27 [.sl false 3 (Mp e_T_api_Thread s_1.Threads), .sl false 1 (Mi s_1.Next), .nilsl], Rb 43 4 (Mp e_T_api_Packet o_1)] hmix an ?_
 refine wk [2, 1] [] [.s 2, .s 3] [.s 0, .a 1 (Vb 27 (v_T_api_Service (⟨s_1.Threads, s_1.Next, []⟩ : T_api_Service)))] [(2, .own 0 ((o_1).length)), (3, Pp 1)] [(0, Rb 43 4 (Mp e_T_api_Packet o_1)), (1, Vb 27 (v_T_api_Service (⟨s_1.Threads, s_1.Next, []⟩ : T_api_Service)))] (ar 27 (ac (rfl : ones [.sl false 3 (Mp e_T_api_Thread ((⟨s_1.Threads, s_1.Next, []⟩ : T_api_Service).Threads)), .sl false 1 (Mi ((⟨s_1.Threads, s_1.Next, []⟩ : T_api_Service).Next)), .sl false 4 (Mp e_T_api_Packet ((⟨s_1.Threads, s_1.Next, []⟩ : T_api_Service).Queue))] = true) (ar 3 (ac (rfl : ((Mp e_T_api_Thread s_1.Threads) : List AV) = (Mp e_T_api_Thread ((⟨s_1.Threads, s_1.Next, []⟩ : T_api_Service).Threads))) (ac (rfl : (!false || false) = true) (ar 1 (ac (rfl : ((Mi s_1.Next) : List AV) = (Mi ((⟨s_1.Threads, s_1.Next, []⟩ : T_api_Service).Next))) (ac (rfl : (!false || false) = true) (ac (rfl : ((Mp e_T_api_Packet ((⟨s_1.Threads, s_1.Next, []⟩ : T_api_Service).Queue)) : List AV) = []) an))))))))) ?_
 refine rt ?_
 cases h
 exact ⟨.inr rfl, Nat.le_of_ble_eq_true rfl, by kernel_rfl⟩

theorem R12_Events_ok (F : Nat) (l_1 : List (T_api_Packet)) (r : Int) (h : R12_Events F l_1 = some r) : TripleG prog 48 [] [] [.sl false 4 (Mp e_T_api_Packet l_1)] [] (Ii r) := by
 refine triple_intro (fn := Go.Proofs.Try.f48) (code := codeOf Go.Proofs.Try.f48) (by kernel_rfl) (by kernel_rfl) (Nat.le_of_ble_eq_true (by kernel_rfl)) ?_
 unfold R12_Events at h
 refine sr [] [0] [] 0 [.sl false 4 (Mp e_T_api_Packet l_1)] [] hmix an ?_
 refine sr [] [0, 3] [] 0 [.sl false 4 (Mp e_T_api_Packet l_1), Ii 0] [] hmix an ?_
 refine sq ?_
 refine sr [] [0, 3, 4] [] 0 [.sl false 4 (Mp e_T_api_Packet l_1), Ii 0, Ii 0] [] hmix an ?_
 obtain ⟨o_1, h_1, h⟩ := bind_some h
 refine aw_mid (mk [(3, Ii o_1)] [] 0) ?_ ?_
 ·replace h := h_1
  refine aw_block (id := 0) (by kernel_rfl) ?_
  refine wk [] [] [.s 0, .s 3, .s 4] [] [(0, .sl false 4 (Mp e_T_api_Packet l_1)), (3, Ii 0), (4, Ii 0)] [] an ?_
  refine aw_loopF (fun n st => ∃ (n_1 : Int), ∃ (i_1 : Int), st = mk [(0, .sl false 4 (Mp e_T_api_Packet l_1)), (3, Ii n_1), (4, Ii i_1)] [] 0 ∧ R12_Events_L1 F l_1 n n_1 i_1 = some o_1) F (by kernel_rfl) ⟨_, _, rfl, h⟩ ?_ ?_
  ·rintro _ ⟨_, _, _, h⟩; exact none_ne (h : (none : Option Int) = some o_1)
  rintro n_2 _ ⟨n_1, i_1, rfl, h⟩
  replace h : R12_Events_L1_body F l_1 (R12_Events_L1 F l_1 n_2) n_1 i_1 = some o_1 := h
  unfold R12_Events_L1_body at h
  refine sq ?_
  refine sr [(2, { n := (l_1).length })] [0, 3, 4, 8] [] 0 [.sl false 4 (Mp e_T_api_Packet l_1), Ii n_1, Ii i_1, .bool (decide (i_1 < (lN (l_1))))] [] hmix (ac (vc_len _ : ((Mp e_T_api_Packet l_1)).length = (l_1).length) an) ?_
  refine cd 8 (decide (i_1 < (lN (l_1)))) ?_ ?_
  rotate_left
  ·intro g_1; replace h := cond_f g_1 h
   refine aw_exit (id := 0) (by kernel_rfl) ?_
   cases h
   exact ⟨rfl, (sw [] [] [.s 3] [] an)⟩
  intro g_1; replace h := cond_t g_1 h
  refine sk ?_
  refine sq ?_
  refine aw_block (id := 1) (by kernel_rfl) ?_
  obtain ⟨x_1, h_2, h⟩ := bind_some h
  refine rg [(3, { av := e_T_api_Packet x_1 }), (6, { n := (x_1.Events).length })] [0, 3, 4] [] 0 [.sl false 4 (Mp e_T_api_Packet l_1), Ii (w_i64 (n_1 + (lN (x_1.Events)))), Ii i_1] [] hmix (ac (vc_idx h_2 : idxA (Mp e_T_api_Packet l_1) i_1 = some (e_T_api_Packet x_1)) (ac (vc_len _ : ((Mp e_T_api_Event x_1.Events)).length = (x_1.Events).length) an)) ?_
  refine rg [] [0, 3, 4] [] 0 [.sl false 4 (Mp e_T_api_Packet l_1), Ii (w_i64 (n_1 + (lN (x_1.Events)))), Ii (w_i64 (i_1 + (1 : Int)))] [] hmix an ?_
  exact ⟨_, (sw [] [] [.s 0, .s 3, .s 4] [] an), _, _, rfl, h⟩
 refine sr [] [2] [] 0 [Ii o_1] [] hmix an ?_
 refine rt ?_
 cases h
 exact ⟨.inr rfl, Nat.le_of_ble_eq_true rfl, by kernel_rfl⟩

theorem R12_Collect_ok (F : Nat) (s_1 : T_api_Service) (p_1 : T_api_Packet) (r : T_api_Service × Int) (h : R12_Collect F s_1 p_1 = some r) : TripleG prog 23 [] [] [e_T_api_Service s_1, e_T_api_Packet p_1] [] (.tuple [e_T_api_Service r.1, Ii r.2]) := by
 refine triple_intro (fn := Go.Proofs.Try.f23) (code := codeOf Go.Proofs.Try.f23) (by kernel_rfl) (by kernel_rfl) (Nat.le_of_ble_eq_true (by kernel_rfl)) ?_
 unfold R12_Collect at h
 refine sr [(0, { id := 0 }), (1, { id := 1 }), (2, { id := 2 })] [2, 3, 4] [0, 1, 2] 3 [Pp 0, Pp 1, Pp 2] [Vb 27 (v_T_api_Service s_1), Vb 43 (v_T_api_Packet p_1), Vb 27 [.nilsl, .nilsl, .nilsl]] hmix an ?_
 refine sq ?_
 obtain ⟨r_1, h_1, h⟩ := bind_some h
 refine rg [(1, { av := Ii r_1, l := [e_T_api_Service s_1] })] [2, 3, 4, 6] [0, 1, 2] 3 [Pp 0, Pp 1, Pp 2, Ii r_1] [Vb 27 (v_T_api_Service s_1), Vb 43 (v_T_api_Packet p_1), Vb 27 [.nilsl, .nilsl, .nilsl]] hmix (ar ([e_T_api_Service s_1] : List AV) (ac (rfl : ([] : List BoxSt) = []) (ac (R12_Check_ok F s_1 r_1 h_1 : TripleG prog 19 [] [] [e_T_api_Service s_1] [] (Ii r_1)) an))) ?_
 refine sq ?_
 refine sr [] [2, 3, 4, 6, 13] [0, 1, 2] 3 [Pp 0, Pp 1, Pp 2, Ii r_1, .bool (r_1 != (0 : Int))] [Vb 27 (v_T_api_Service s_1), Vb 43 (v_T_api_Packet p_1), Vb 27 [.nilsl, .nilsl, .nilsl]] hmix an ?_
 refine cd 13 (r_1 != (0 : Int)) ?_ ?_
 ·intro g_1; replace h := cond_t g_1 h
  refine sr [] [4, 5] [2] 3 [Pp 2, Ii r_1] [Vb 27 (v_T_api_Service s_1)] hmix an ?_
  refine wk [2] [] [.s 4, .s 5] [.s 0] [(4, Pp 0), (5, Ii r_1)] [(0, Vb 27 (v_T_api_Service s_1))] an ?_
  refine rt ?_
  cases h
  exact ⟨.inr rfl, Nat.le_of_ble_eq_true rfl, by kernel_rfl⟩
 intro g_1; replace h := cond_f g_1 h
 refine sk ?_
 refine sq ?_
 obtain ⟨r_2, h_2, h⟩ := bind_some h
 refine rg [(1, { av := Ii r_2, l := [e_T_api_Packet p_1] })] [2, 3, 4, 6] [0, 1, 2] 3 [Pp 0, Pp 1, Pp 2, Ii r_2] [Vb 27 (v_T_api_Service s_1), Vb 43 (v_T_api_Packet p_1), Vb 27 [.nilsl, .nilsl, .nilsl]] hmix (ar ([e_T_api_Packet p_1] : List AV) (ac (rfl : ([] : List BoxSt) = []) (ac (R11_Check_ok F p_1 r_2 h_2 : TripleG prog 42 [] [] [e_T_api_Packet p_1] [] (Ii r_2)) an))) ?_
 refine sq ?_
 refine sr [] [2, 3, 4, 6, 19] [0, 1, 2] 3 [Pp 0, Pp 1, Pp 2, Ii r_2, .bool (r_2 != (0 : Int))] [Vb 27 (v_T_api_Service s_1), Vb 43 (v_T_api_Packet p_1), Vb 27 [.nilsl, .nilsl, .nilsl]] hmix an ?_
 refine cd 19 (r_2 != (0 : Int)) ?_ ?_
 ·intro g_2; replace h := cond_t g_2 h
  refine sr [] [4, 5] [2] 3 [Pp 2, Ii r_2] [Vb 27 (v_T_api_Service s_1)] hmix an ?_
  refine wk [2] [] [.s 4, .s 5] [.s 0] [(4, Pp 0), (5, Ii r_2)] [(0, Vb 27 (v_T_api_Service s_1))] an ?_
  refine rt ?_
  cases h
  exact ⟨.inr rfl, Nat.le_of_ble_eq_true rfl, by kernel_rfl⟩
 intro g_2; replace h := cond_f g_2 h
 refine sk ?_
 refine sq ?_
 obtain ⟨r_3, h_3, h⟩ := bind_some h
 refine rg [(4, { av := Ii r_3, l := [.sl false 3 (Mp e_T_api_Thread s_1.Threads), Ii p_1.Thread] })] [2, 3, 4, 7] [0, 1, 2] 3 [Pp 0, Pp 1, Pp 2, Ii r_3] [Vb 27 (v_T_api_Service s_1), Vb 43 (v_T_api_Packet p_1), Vb 27 [.nilsl, .nilsl, .nilsl]] hmix (ar ([.sl false 3 (Mp e_T_api_Thread s_1.Threads), Ii p_1.Thread] : List AV) (ac (rfl : ([] : List BoxSt) = []) (ac (R12_index_ok F s_1.Threads p_1.Thread r_3 h_3 : TripleG prog 39 [] [] [.sl false 3 (Mp e_T_api_Thread s_1.Threads), Ii p_1.Thread] [] (Ii r_3)) an))) ?_
 refine sq ?_
 refine sr [] [2, 3, 4, 7, 28] [0, 1, 2] 3 [Pp 0, Pp 1, Pp 2, Ii r_3, .bool (decide (r_3 < (0 : Int)))] [Vb 27 (v_T_api_Service s_1), Vb 43 (v_T_api_Packet p_1), Vb 27 [.nilsl, .nilsl, .nilsl]] hmix an ?_
 refine cd 28 (decide (r_3 < (0 : Int))) ?_ ?_
 ·intro g_3; replace h := cond_t g_3 h
  refine sr [] [4, 5] [2] 3 [Pp 2, Ii 5] [Vb 27 (v_T_api_Service s_1)] hmix an ?_
  refine wk [2] [] [.s 4, .s 5] [.s 0] [(4, Pp 0), (5, Ii 5)] [(0, Vb 27 (v_T_api_Service s_1))] an ?_
  refine rt ?_
  cases h
  exact ⟨.inr rfl, Nat.le_of_ble_eq_true rfl, by kernel_rfl⟩
 intro g_3; replace h := cond_f g_3 h
 refine sk ?_
 refine sq ?_
 refine sq ?_
 obtain ⟨x_1, h_4, h⟩ := bind_some h
 refine rg [(5, { av := Ii x_1 })] [2, 3, 4, 7, 37] [0, 1, 2] 3 [Pp 0, Pp 1, Pp 2, Ii r_3, .bool (decide (p_1.Serial < x_1))] [Vb 27 (v_T_api_Service s_1), Vb 43 (v_T_api_Packet p_1), Vb 27 [.nilsl, .nilsl, .nilsl]] hmix (ac (vc_idx h_4 : idxA (Mi s_1.Next) r_3 = some (Ii x_1)) an) ?_
 refine cd 37 (decide (p_1.Serial < x_1)) ?_ ?_
 ·intro g_4; replace h := cond_t g_4 h
  refine sr [] [4, 5] [2] 3 [Pp 2, Ii 4] [Vb 27 (v_T_api_Service s_1)] hmix an ?_
  refine wk [2] [] [.s 4, .s 5] [.s 0] [(4, Pp 0), (5, Ii 4)] [(0, Vb 27 (v_T_api_Service s_1))] an ?_
  refine rt ?_
  cases h
  exact ⟨.inr rfl, Nat.le_of_ble_eq_true rfl, by kernel_rfl⟩
 intro g_4; replace h := cond_f g_4 h
 refine sk ?_
 refine sq ?_
 refine sq ?_
 obtain ⟨x_2, h_5, h⟩ := bind_some h
 refine rg [(5, { av := Ii x_2 })] [2, 3, 4, 7, 49] [0, 1, 2] 3 [Pp 0, Pp 1, Pp 2, Ii r_3, .bool (p_1.Serial != (w_i64 (x_2 + p_1.Lost)))] [Vb 27 (v_T_api_Service s_1), Vb 43 (v_T_api_Packet p_1), Vb 27 [.nilsl, .nilsl, .nilsl]] hmix (ac (vc_idx h_5 : idxA (Mi s_1.Next) r_3 = some (Ii x_2)) an) ?_
 refine cd 49 (p_1.Serial != (w_i64 (x_2 + p_1.Lost))) ?_ ?_
 ·intro g_5; replace h := cond_t g_5 h
  refine sr [] [4, 5] [2] 3 [Pp 2, Ii 11] [Vb 27 (v_T_api_Service s_1)] hmix an ?_
  refine wk [2] [] [.s 4, .s 5] [.s 0] [(4, Pp 0), (5, Ii 11)] [(0, Vb 27 (v_T_api_Service s_1))] an ?_
  refine rt ?_
  cases h
  exact ⟨.inr rfl, Nat.le_of_ble_eq_true rfl, by kernel_rfl⟩
 intro g_5; replace h := cond_f g_5 h
 refine sk ?_
 refine sq ?_
 refine sq ?_
 obtain ⟨r_4, h_6, h⟩ := bind_some h
 refine rg [(2, { av := Ii r_4, l := [.sl false 4 (Mp e_T_api_Packet s_1.Queue)] }), (5, { n := (p_1.Events).length })] [2, 3, 4, 7, 58] [0, 1, 2] 3 [Pp 0, Pp 1, Pp 2, Ii r_3, .bool (decide ((w_i64 (r_4 + (lN (p_1.Events)))) > (20000 : Int)))] [Vb 27 (v_T_api_Service s_1), Vb 43 (v_T_api_Packet p_1), Vb 27 [.nilsl, .nilsl, .nilsl]] hmix (ar ([.sl false 4 (Mp e_T_api_Packet s_1.Queue)] : List AV) (ac (rfl : ([] : List BoxSt) = []) (ac (R12_Events_ok F s_1.Queue r_4 h_6 : TripleG prog 48 [] [] [.sl false 4 (Mp e_T_api_Packet s_1.Queue)] [] (Ii r_4)) (ac (vc_len _ : ((Mp e_T_api_Event p_1.Events)).length = (p_1.Events).length) an)))) ?_
 refine cd 58 (decide ((w_i64 (r_4 + (lN (p_1.Events)))) > (20000 : Int))) ?_ ?_
 ·intro g_6; replace h := cond_t g_6 h
  refine sr [] [4, 5] [2] 3 [Pp 2, Ii 6] [Vb 27 (v_T_api_Service s_1)] hmix an ?_
  refine wk [2] [] [.s 4, .s 5] [.s 0] [(4, Pp 0), (5, Ii 6)] [(0, Vb 27 (v_T_api_Service s_1))] an ?_
  refine rt ?_
  cases h
  exact ⟨.inr rfl, Nat.le_of_ble_eq_true rfl, by kernel_rfl⟩
 intro g_6; replace h := cond_f g_6 h
 refine sk ?_
 refine sq ?_
 obtain ⟨_, h_7, h⟩ := bind_some h; replace h_7 := need_some h_7
 refine rg [(0, { id := 3 }), (3, { id := 4, l := (Mi ([] ++ s_1.Next)), n := (([] ++ s_1.Next)).length })] [2, 3, 4, 7, 8] [0, 1, 2, 4] 5 [Pp 0, Pp 1, Pp 2, Ii r_3, .own 4 ((([] ++ s_1.Next)).length)] [Vb 27 (v_T_api_Service s_1), Vb 43 (v_T_api_Packet p_1), Vb 27 [.nilsl, .nilsl, .nilsl], Rb 3 1 (Mi ([] ++ s_1.Next))] hmix (ac (by first | (simp; done) | (simp; omega) : 0 = (([] : List AV)).length) (ac (trivial : True) (ac (by simp : (List.map (AV.int .i64) ([] ++ s_1.Next)) = [] ++ (List.map (AV.int .i64) s_1.Next)) (ac (by simp : (([] ++ s_1.Next)).length = ((List.map (AV.int .i64) ([] ++ s_1.Next))).length) (ac (by first | (simp; done) | simpa using h_7 : (([] : List AV).length + ((List.map (AV.int .i64) s_1.Next) : List AV).length) * 8 ≤ 140737488355328) an))))) ?_
 refine sq ?_
 obtain ⟨r_5, h_8, h⟩ := bind_some h
 obtain ⟨x_3, h_9, h⟩ := bind_some h
 refine rg [(3, { av := Ii r_5, l := [e_T_api_Packet p_1] }), (5, { av := Ii x_3, l := (Mi ((([] ++ s_1.Next)).set ((r_3).toNat) r_5)) })] [2, 3, 4, 8] [0, 1, 2, 4] 5 [Pp 0, Pp 1, Pp 2, .own 4 ((([] ++ s_1.Next)).length)] [Vb 27 (v_T_api_Service s_1), Vb 43 (v_T_api_Packet p_1), Vb 27 [.nilsl, .nilsl, .nilsl], Rb 3 1 (Mi ((([] ++ s_1.Next)).set ((r_3).toNat) r_5))] hmix (ar ([e_T_api_Packet p_1] : List AV) (ac (rfl : ([] : List BoxSt) = []) (ac (R12_end_ok p_1 r_5 h_8 : TripleG prog 49 [] [] [e_T_api_Packet p_1] [] (Ii r_5)) (ac (idxL_lo h_9 : (0 : Int) ≤ r_3) (ac (by first | (simp; done) | simpa using idxL_hi h_9 : r_3 < (((([] ++ s_1.Next)).length : Nat) : Int)) (ac (vc_get h_9 : (Mi ([] ++ s_1.Next))[(r_3).toNat]? = some (Ii x_3)) (ac (vc_set _ _ _ : (Mi ((([] ++ s_1.Next)).set ((r_3).toNat) r_5)) = List.set (Mi ([] ++ s_1.Next)) ((r_3).toNat) (setElem (Ii x_3) 0 [Ii r_5])) an))))))) ?_
 refine sq ?_
 obtain ⟨_, h_10, h⟩ := bind_some h; replace h_10 := need_some h_10
 refine rg [(0, { id := 5 }), (3, { id := 6, l := (Mp e_T_api_Packet ([] ++ s_1.Queue)), n := (([] ++ s_1.Queue)).length })] [2, 3, 4, 8, 9] [0, 1, 2, 4, 6] 7 [Pp 0, Pp 1, Pp 2, .own 4 ((([] ++ s_1.Next)).length), .own 6 ((([] ++ s_1.Queue)).length)] [Vb 27 (v_T_api_Service s_1), Vb 43 (v_T_api_Packet p_1), Vb 27 [.nilsl, .nilsl, .nilsl], Rb 3 1 (Mi ((([] ++ s_1.Next)).set ((r_3).toNat) r_5)), Rb 43 4 (Mp e_T_api_Packet ([] ++ s_1.Queue))] hmix (ac (by first | (simp; done) | (simp; omega) : 0 = (([] : List AV)).length) (ac (trivial : True) (ac (by simp : (List.map e_T_api_Packet ([] ++ s_1.Queue)) = [] ++ (List.map e_T_api_Packet s_1.Queue)) (ac (by simp : (([] ++ s_1.Queue)).length = ((List.map e_T_api_Packet ([] ++ s_1.Queue))).length) (ac (by first | (simp; done) | simpa using h_10 : (([] : List AV).length + ((List.map e_T_api_Packet s_1.Queue) : List AV).length) * 48 ≤ 140737488355328) an))))) ?_
 refine sq ?_
 obtain ⟨_, h_11, h⟩ := bind_some h; replace h_11 := need_some h_11
 refine rg [(5, { id := 7 }), (6, { id := 8, l := (Mp e_T_api_Packet (([] ++ s_1.Queue) ++ ([p_1] : List T_api_Packet))), n := ((([] ++ s_1.Queue) ++ ([p_1] : List T_api_Packet))).length })] [4, 5] [2, 4, 8] 9 [Pp 2, Ii 0] [Vb 27 [.sl false 3 (Mp e_T_api_Thread s_1.Threads), .own 4 ((([] ++ s_1.Next)).length), .own 8 (((([] ++ s_1.Queue) ++ ([p_1] : List T_api_Packet))).length)], Rb 3 1 (Mi ((([] ++ s_1.Next)).set ((r_3).toNat) r_5)), Rb 43 4 (Mp e_T_api_Packet (([] ++ s_1.Queue) ++ ([p_1] : List T_api_Packet)))] hmix (ac (by first | (simp; done) | (simp; omega) : (([] ++ s_1.Queue)).length = ((List.map e_T_api_Packet ([] ++ s_1.Queue))).length) (ac (by first | (simp; done) | (simp; omega) : 1 = ((List.map e_T_api_Packet ([p_1] : List T_api_Packet))).length) (ac (vc_app _ _ : (Mp e_T_api_Packet (([] ++ s_1.Queue) ++ ([p_1] : List T_api_Packet))) = (Mp e_T_api_Packet ([] ++ s_1.Queue)) ++ (Mp e_T_api_Packet ([p_1] : List T_api_Packet))) (ac (by simp : ((([] ++ s_1.Queue) ++ ([p_1] : List T_api_Packet))).length = ((List.map e_T_api_Packet (([] ++ s_1.Queue) ++ ([p_1] : List T_api_Packet)))).length) (ac (by first | (simp; done) | simpa using h_11 : (((List.map e_T_api_Packet ([] ++ s_1.Queue)) : List AV).length + ((List.map e_T_api_Packet ([p_1] : List T_api_Packet)) : List AV).length) * 48 ≤ 140737488355328) an))))) ?_
 refine wk [2] [4, 8] [.s 4, .s 5] [.a 0 (Vb 27 (v_T_api_Service (⟨s_1.Threads, (([] ++ s_1.Next)).set ((r_3).toNat) r_5, (([] ++ s_1.Queue) ++ ([p_1] : List T_api_Packet))⟩ : T_api_Service)))] [(4, Pp 0), (5, Ii 0)] [(0, Vb 27 (v_T_api_Service (⟨s_1.Threads, (([] ++ s_1.Next)).set ((r_3).toNat) r_5, (([] ++ s_1.Queue) ++ ([p_1] : List T_api_Packet))⟩ : T_api_Service)))] (ar 27 (ac (rfl : ones [.sl false 3 (Mp e_T_api_Thread ((⟨s_1.Threads, (([] ++ s_1.Next)).set ((r_3).toNat) r_5, (([] ++ s_1.Queue) ++ ([p_1] : List T_api_Packet))⟩ : T_api_Service).Threads)), .sl false 1 (Mi ((⟨s_1.Threads, (([] ++ s_1.Next)).set ((r_3).toNat) r_5, (([] ++ s_1.Queue) ++ ([p_1] : List T_api_Packet))⟩ : T_api_Service).Next)), .sl false 4 (Mp e_T_api_Packet ((⟨s_1.Threads, (([] ++ s_1.Next)).set ((r_3).toNat) r_5, (([] ++ s_1.Queue) ++ ([p_1] : List T_api_Packet))⟩ : T_api_Service).Queue))] = true) (ac (by first | (simp; done) | (simp; omega) : (([] ++ s_1.Next)).length = ((List.map (AV.int .i64) ((([] ++ s_1.Next)).set ((r_3).toNat) r_5))).length) (ac (by first | (simp; done) | (simp; omega) : ((([] ++ s_1.Queue) ++ ([p_1] : List T_api_Packet))).length = ((List.map e_T_api_Packet (([] ++ s_1.Queue) ++ ([p_1] : List T_api_Packet)))).length) (ar 3 (ac (rfl : ((Mp e_T_api_Thread s_1.Threads) : List AV) = (Mp e_T_api_Thread ((⟨s_1.Threads, (([] ++ s_1.Next)).set ((r_3).toNat) r_5, (([] ++ s_1.Queue) ++ ([p_1] : List T_api_Packet))⟩ : T_api_Service).Threads))) (ac (rfl : (!false || false) = true) (ar 1 (ac (rfl : ((Mi ((([] ++ s_1.Next)).set ((r_3).toNat) r_5)) : List AV) = (Mi ((⟨s_1.Threads, (([] ++ s_1.Next)).set ((r_3).toNat) r_5, (([] ++ s_1.Queue) ++ ([p_1] : List T_api_Packet))⟩ : T_api_Service).Next))) (ac (rfl : (!false || false) = true) (ar 4 (ac (rfl : ((Mp e_T_api_Packet (([] ++ s_1.Queue) ++ ([p_1] : List T_api_Packet))) : List AV) = (Mp e_T_api_Packet ((⟨s_1.Threads, (([] ++ s_1.Next)).set ((r_3).toNat) r_5, (([] ++ s_1.Queue) ++ ([p_1] : List T_api_Packet))⟩ : T_api_Service).Queue))) (ac (rfl : (!false || false) = true) an))))))))))))) ?_
 refine rt ?_
 cases h
 exact ⟨.inr rfl, Nat.le_of_ble_eq_true rfl, by kernel_rfl⟩

theorem L12_after_ok (F : Nat) (s_1 : T_api_Service) (p_1 : T_api_Packet) (thread_1 : Int) (r : T_api_Service) (h : L12_after F s_1 p_1 thread_1 = some r) : TripleG prog 25 [] [] [e_T_api_Service s_1, e_T_api_Packet p_1, Ii thread_1] [] (e_T_api_Service r) := by
 refine triple_intro (fn := Go.Proofs.Try.f25) (code := codeOf Go.Proofs.Try.f25) (by kernel_rfl) (by kernel_rfl) (Nat.le_of_ble_eq_true (by kernel_rfl)) ?_
 unfold L12_after at h
 refine sr [(0, { id := 0 }), (1, { id := 1 }), (2, { id := 2 })] [2, 3, 4, 6] [0, 1, 2] 3 [Ii thread_1, Pp 0, Pp 1, Pp 2] [Vb 27 (v_T_api_Service s_1), Vb 43 (v_T_api_Packet p_1), Vb 27 [.nilsl, .nilsl, .nilsl]] hmix an ?_
 refine sr [] [3, 4, 6] [0, 1, 2] 3 [Pp 0, Pp 1, Pp 2] [Vb 27 (v_T_api_Service s_1), Vb 43 [Ii thread_1, Ii p_1.Serial, Ii p_1.Lost, .sl false 6 (Mp e_T_api_Event p_1.Events)], Vb 27 [.nilsl, .nilsl, .nilsl]] hmix an ?_
 refine sq ?_
 obtain ⟨r_1, h_1, h⟩ := bind_some h
 refine rg [(2, { av := .tuple [e_T_api_Service r_1.1, Ii r_1.2], l := [e_T_api_Service s_1, .agg [Ii thread_1, Ii p_1.Serial, Ii p_1.Lost, .sl false 6 (Mp e_T_api_Event p_1.Events)]] }), (6, { id := 3 })] [3, 6, 7, 8] [0, 2, 3] 4 [Pp 0, Pp 2, Pp 3, Ii r_1.2] [Vb 27 (v_T_api_Service s_1), Vb 27 [.nilsl, .nilsl, .nilsl], Vb 27 (v_T_api_Service r_1.1)] hmix (ar ([e_T_api_Service s_1, .agg [Ii thread_1, Ii p_1.Serial, Ii p_1.Lost, .sl false 6 (Mp e_T_api_Event p_1.Events)]] : List AV) (ac (rfl : ([] : List BoxSt) = []) (ac (triple_lo (args' := [e_T_api_Service s_1, e_T_api_Packet (⟨thread_1, p_1.Serial, p_1.Lost, p_1.Events⟩ : T_api_Packet)]) (drain_Collect_ok F s_1 (⟨thread_1, p_1.Serial, p_1.Lost, p_1.Events⟩ : T_api_Packet) r_1 h_1) rfl ⟨rfl, rfl, rfl, rfl, rfl, rfl, rfl, rfl, rfl, rfl, rfl, rfl, rfl, rfl, rfl, trivial⟩ : TripleG prog 22 [] [] [e_T_api_Service s_1, .agg [Ii thread_1, Ii p_1.Serial, Ii p_1.Lost, .sl false 6 (Mp e_T_api_Event p_1.Events)]] [] (.tuple [e_T_api_Service r_1.1, Ii r_1.2])) an))) ?_
 refine sq ?_
 refine sr [] [3, 6, 7, 18] [0, 2, 3] 4 [Pp 0, Pp 2, Pp 3, .bool (r_1.2 != (0 : Int))] [Vb 27 (v_T_api_Service s_1), Vb 27 [.nilsl, .nilsl, .nilsl], Vb 27 (v_T_api_Service r_1.1)] hmix an ?_
 refine cd 18 (r_1.2 != (0 : Int)) ?_ ?_
 ·intro g_1; replace h := cond_t g_1 h
  refine sr [] [6] [2] 4 [Pp 2] [Vb 27 (v_T_api_Service s_1)] hmix an ?_
  refine wk [2] [] [.s 6] [.s 0] [(6, Pp 0)] [(0, Vb 27 (v_T_api_Service s_1))] an ?_
  refine rt ?_
  cases h
  exact ⟨.inr rfl, Nat.le_of_ble_eq_true rfl, by kernel_rfl⟩
 intro g_1; replace h := cond_f g_1 h
 refine sk ?_
 refine sr [] [6] [2] 4 [Pp 2] [Vb 27 (v_T_api_Service r_1.1)] hmix an ?_
 refine wk [2] [] [.s 6] [.s 0] [(6, Pp 0)] [(0, Vb 27 (v_T_api_Service r_1.1))] an ?_
 refine rt ?_
 cases h
 exact ⟨.inr rfl, Nat.le_of_ble_eq_true rfl, by kernel_rfl⟩

theorem L12_lost_ok (F : Nat) (l_1 : List (T_api_Packet)) (r : Int) (h : L12_lost F l_1 = some r) : TripleG prog 26 [] [] [.sl false 4 (Mp e_T_api_Packet l_1)] [] (Ii r) := by
 refine triple_intro (fn := Go.Proofs.Try.f26) (code := codeOf Go.Proofs.Try.f26) (by kernel_rfl) (by kernel_rfl) (Nat.le_of_ble_eq_true (by kernel_rfl)) ?_
 unfold L12_lost at h
 refine sr [] [0] [] 0 [.sl false 4 (Mp e_T_api_Packet l_1)] [] hmix an ?_
 refine sr [] [0, 3] [] 0 [.sl false 4 (Mp e_T_api_Packet l_1), Ii 0] [] hmix an ?_
 refine sq ?_
 refine sr [] [0, 3, 4] [] 0 [.sl false 4 (Mp e_T_api_Packet l_1), Ii 0, Ii 0] [] hmix an ?_
 obtain ⟨o_1, h_1, h⟩ := bind_some h
 refine aw_mid (mk [(3, Ii o_1)] [] 0) ?_ ?_
 ·replace h := h_1
  refine aw_block (id := 0) (by kernel_rfl) ?_
  refine wk [] [] [.s 0, .s 3, .s 4] [] [(0, .sl false 4 (Mp e_T_api_Packet l_1)), (3, Ii 0), (4, Ii 0)] [] an ?_
  refine aw_loopF (fun n st => ∃ (n_1 : Int), ∃ (i_1 : Int), st = mk [(0, .sl false 4 (Mp e_T_api_Packet l_1)), (3, Ii n_1), (4, Ii i_1)] [] 0 ∧ L12_lost_L1 F l_1 n n_1 i_1 = some o_1) F (by kernel_rfl) ⟨_, _, rfl, h⟩ ?_ ?_
  ·rintro _ ⟨_, _, _, h⟩; exact none_ne (h : (none : Option Int) = some o_1)
  rintro n_2 _ ⟨n_1, i_1, rfl, h⟩
  replace h : L12_lost_L1_body F l_1 (L12_lost_L1 F l_1 n_2) n_1 i_1 = some o_1 := h
  unfold L12_lost_L1_body at h
  refine sq ?_
  refine sr [(2, { n := (l_1).length })] [0, 3, 4, 8] [] 0 [.sl false 4 (Mp e_T_api_Packet l_1), Ii n_1, Ii i_1, .bool (decide (i_1 < (lN (l_1))))] [] hmix (ac (vc_len _ : ((Mp e_T_api_Packet l_1)).length = (l_1).length) an) ?_
  refine cd 8 (decide (i_1 < (lN (l_1)))) ?_ ?_
  rotate_left
  ·intro g_1; replace h := cond_f g_1 h
   refine aw_exit (id := 0) (by kernel_rfl) ?_
   cases h
   exact ⟨rfl, (sw [] [] [.s 3] [] an)⟩
  intro g_1; replace h := cond_t g_1 h
  refine sk ?_
  refine sq ?_
  refine aw_block (id := 1) (by kernel_rfl) ?_
  obtain ⟨x_1, h_2, h⟩ := bind_some h
  refine rg [(3, { av := e_T_api_Packet x_1 })] [0, 3, 4] [] 0 [.sl false 4 (Mp e_T_api_Packet l_1), Ii (w_i64 (n_1 + x_1.Lost)), Ii i_1] [] hmix (ac (vc_idx h_2 : idxA (Mp e_T_api_Packet l_1) i_1 = some (e_T_api_Packet x_1)) an) ?_
  refine rg [] [0, 3, 4] [] 0 [.sl false 4 (Mp e_T_api_Packet l_1), Ii (w_i64 (n_1 + x_1.Lost)), Ii (w_i64 (i_1 + (1 : Int)))] [] hmix an ?_
  exact ⟨_, (sw [] [] [.s 0, .s 3, .s 4] [] an), _, _, rfl, h⟩
 refine sr [] [2] [] 0 [Ii o_1] [] hmix an ?_
 refine rt ?_
 cases h
 exact ⟨.inr rfl, Nat.le_of_ble_eq_true rfl, by kernel_rfl⟩

theorem L12_events_ok (F : Nat) (l_1 : List (T_api_Packet)) (r : Int) (h : L12_events F l_1 = some r) : TripleG prog 27 [] [] [.sl false 4 (Mp e_T_api_Packet l_1)] [] (Ii r) := by
 refine triple_intro (fn := Go.Proofs.Try.f27) (code := codeOf Go.Proofs.Try.f27) (by kernel_rfl) (by kernel_rfl) (Nat.le_of_ble_eq_true (by kernel_rfl)) ?_
 unfold L12_events at h
 refine sr [] [0] [] 0 [.sl false 4 (Mp e_T_api_Packet l_1)] [] hmix an ?_
 refine sr [] [0, 3] [] 0 [.sl false 4 (Mp e_T_api_Packet l_1), Ii 0] [] hmix an ?_
 refine sq ?_
 refine sr [] [0, 3, 4] [] 0 [.sl false 4 (Mp e_T_api_Packet l_1), Ii 0, Ii 0] [] hmix an ?_
 obtain ⟨o_1, h_1, h⟩ := bind_some h
 refine aw_mid (mk [(3, Ii o_1)] [] 0) ?_ ?_
 ·replace h := h_1
  refine aw_block (id := 0) (by kernel_rfl) ?_
  refine wk [] [] [.s 0, .s 3, .s 4] [] [(0, .sl false 4 (Mp e_T_api_Packet l_1)), (3, Ii 0), (4, Ii 0)] [] an ?_
  refine aw_loopF (fun n st => ∃ (n_1 : Int), ∃ (i_1 : Int), st = mk [(0, .sl false 4 (Mp e_T_api_Packet l_1)), (3, Ii n_1), (4, Ii i_1)] [] 0 ∧ L12_events_L1 F l_1 n n_1 i_1 = some o_1) F (by kernel_rfl) ⟨_, _, rfl, h⟩ ?_ ?_
  ·rintro _ ⟨_, _, _, h⟩; exact none_ne (h : (none : Option Int) = some o_1)
  rintro n_2 _ ⟨n_1, i_1, rfl, h⟩
  replace h : L12_events_L1_body F l_1 (L12_events_L1 F l_1 n_2) n_1 i_1 = some o_1 := h
  unfold L12_events_L1_body at h
  refine sq ?_
  refine sr [(2, { n := (l_1).length })] [0, 3, 4, 8] [] 0 [.sl false 4 (Mp e_T_api_Packet l_1), Ii n_1, Ii i_1, .bool (decide (i_1 < (lN (l_1))))] [] hmix (ac (vc_len _ : ((Mp e_T_api_Packet l_1)).length = (l_1).length) an) ?_
  refine cd 8 (decide (i_1 < (lN (l_1)))) ?_ ?_
  rotate_left
  ·intro g_1; replace h := cond_f g_1 h
   refine aw_exit (id := 0) (by kernel_rfl) ?_
   cases h
   exact ⟨rfl, (sw [] [] [.s 3] [] an)⟩
  intro g_1; replace h := cond_t g_1 h
  refine sk ?_
  refine sq ?_
  refine aw_block (id := 1) (by kernel_rfl) ?_
  obtain ⟨x_1, h_2, h⟩ := bind_some h
  refine rg [(3, { av := e_T_api_Packet x_1 }), (6, { n := (x_1.Events).length })] [0, 3, 4] [] 0 [.sl false 4 (Mp e_T_api_Packet l_1), Ii (w_i64 (n_1 + (lN (x_1.Events)))), Ii i_1] [] hmix (ac (vc_idx h_2 : idxA (Mp e_T_api_Packet l_1) i_1 = some (e_T_api_Packet x_1)) (ac (vc_len _ : ((Mp e_T_api_Event x_1.Events)).length = (x_1.Events).length) an)) ?_
  refine rg [] [0, 3, 4] [] 0 [.sl false 4 (Mp e_T_api_Packet l_1), Ii (w_i64 (n_1 + (lN (x_1.Events)))), Ii (w_i64 (i_1 + (1 : Int)))] [] hmix an ?_
  exact ⟨_, (sw [] [] [.s 0, .s 3, .s 4] [] an), _, _, rfl, h⟩
 refine sr [] [2] [] 0 [Ii o_1] [] hmix an ?_
 refine rt ?_
 cases h
 exact ⟨.inr rfl, Nat.le_of_ble_eq_true rfl, by kernel_rfl⟩

theorem slices_Equal_string_string_ok (F : Nat) (s1_1 : List (List Int)) (s2_1 : List (List Int)) (r : Bool) (h : slices_Equal_string_string F s1_1 s2_1 = some r) : TripleG prog 63 [] [] [.sl false 1 (Ms s1_1), .sl false 1 (Ms s2_1)] [] (.bool r) := by
 refine triple_intro (fn := Go.Proofs.Try.f63) (code := codeOf Go.Proofs.Try.f63) (by kernel_rfl) (by kernel_rfl) (Nat.le_of_ble_eq_true (by kernel_rfl)) ?_
 unfold slices_Equal_string_string at h
 refine sr [] [0, 1] [] 0 [.sl false 1 (Ms s1_1), .sl false 1 (Ms s2_1)] [] hmix an ?_
 refine sq ?_
 refine sr [(1, { n := (s1_1).length }), (3, { n := (s2_1).length })] [0, 1, 10] [] 0 [.sl false 1 (Ms s1_1), .sl false 1 (Ms s2_1), .bool ((lN (s1_1)) != (lN (s2_1)))] [] hmix (ac (vc_len _ : ((Ms s1_1)).length = (s1_1).length) (ac (vc_len _ : ((Ms s2_1)).length = (s2_1).length) an)) ?_
 refine cd 10 ((lN (s1_1)) != (lN (s2_1))) ?_ ?_
 ·intro g_1; replace h := cond_t g_1 h
  refine sr [] [4] [] 0 [.bool false] [] hmix an ?_
  refine rt ?_
  cases h
  exact ⟨.inr rfl, Nat.le_of_ble_eq_true rfl, by kernel_rfl⟩
 intro g_1; replace h := cond_f g_1 h
 refine sk ?_
 refine sq ?_
 refine sr [(1, { n := (s1_1).length })] [0, 1, 12, 13] [] 0 [.sl false 1 (Ms s1_1), .sl false 1 (Ms s2_1), Ii (lN (s1_1)), Ii 0] [] hmix (ac (vc_len _ : ((Ms s1_1)).length = (s1_1).length) an) ?_
 obtain ⟨o_1, h_1, h⟩ := bind_some h
 refine aw_conv (K1 := (fun e st' => match o_1 with | (.inl q0) => e = .normal ∧ Sub 0 st' (mk [] [] 0) | (.inr q1) => e = .ret ∧ FinR prog Go.Proofs.Try.f63 0 [] (.bool q1) st')) ?_ ?_
 ·replace h := h_1
  refine aw_block (id := 0) (by kernel_rfl) ?_
  refine wk [] [] [.s 0, .s 1, .s 12, .s 13] [] [(0, .sl false 1 (Ms s1_1)), (1, .sl false 1 (Ms s2_1)), (12, Ii (lN (s1_1))), (13, Ii 0)] [] an ?_
  refine aw_loopF (fun n st => ∃ (v_1 : Int), st = mk [(0, .sl false 1 (Ms s1_1)), (1, .sl false 1 (Ms s2_1)), (12, Ii (lN (s1_1))), (13, Ii v_1)] [] 0 ∧ slices_Equal_string_string_L1 F s1_1 s2_1 n v_1 = some o_1) F (by kernel_rfl) ⟨_, rfl, h⟩ ?_ ?_
  ·rintro _ ⟨_, _, h⟩; exact none_ne (h : (none : Option (Unit ⊕ Bool)) = some o_1)
  rintro n_1 _ ⟨v_1, rfl, h⟩
  replace h : slices_Equal_string_string_L1_body F s1_1 s2_1 (slices_Equal_string_string_L1 F s1_1 s2_1 n_1) v_1 = some o_1 := h
  unfold slices_Equal_string_string_L1_body at h
  refine sr [] [0, 1, 12, 13, 14] [] 0 [.sl false 1 (Ms s1_1), .sl false 1 (Ms s2_1), Ii (lN (s1_1)), Ii v_1, .bool (decide (v_1 < (lN (s1_1))))] [] hmix an ?_
  refine sq ?_
  refine cd 14 (decide (v_1 < (lN (s1_1)))) ?_ ?_
  rotate_left
  ·intro g_2; replace h := cond_f g_2 h
   refine aw_exit (id := 0) (by kernel_rfl) ?_
   cases h
   exact ⟨rfl, (sw [] [] [] [] an)⟩
  intro g_2; replace h := cond_t g_2 h
  refine sk ?_
  refine sq ?_
  refine aw_block (id := 1) (by kernel_rfl) ?_
  refine sr [] [0, 1, 5, 12, 13] [] 0 [.sl false 1 (Ms s1_1), .sl false 1 (Ms s2_1), Ii v_1, Ii (lN (s1_1)), Ii v_1] [] hmix an ?_
  refine sq ?_
  obtain ⟨x_1, h_2, h⟩ := bind_some h
  obtain ⟨x_2, h_3, h⟩ := bind_some h
  refine rg [(2, { av := .str x_1 }), (6, { av := .str x_2 })] [0, 1, 12, 13, 24] [] 0 [.sl false 1 (Ms s1_1), .sl false 1 (Ms s2_1), Ii (lN (s1_1)), Ii v_1, .bool (!(x_1 == x_2))] [] hmix (ac (vc_idx h_2 : idxA (Ms s1_1) v_1 = some (.str x_1)) (ac (vc_idx h_3 : idxA (Ms s2_1) v_1 = some (.str x_2)) an)) ?_
  refine cd 24 (!(x_1 == x_2)) ?_ ?_
  rotate_left
  ·intro g_3; replace h := cond_f g_3 h
   refine sk ?_
   refine rg [] [0, 1, 12, 13] [] 0 [.sl false 1 (Ms s1_1), .sl false 1 (Ms s2_1), Ii (lN (s1_1)), Ii (w_i64 (v_1 + (1 : Int)))] [] hmix an ?_
   exact ⟨_, (sw [] [] [.s 0, .s 1, .s 12, .s 13] [] an), _, rfl, h⟩
  intro g_3; replace h := cond_t g_3 h
  refine sr [] [4] [] 0 [.bool false] [] hmix an ?_
  refine rt ?_
  cases h
  exact ⟨rfl, Nat.le_of_ble_eq_true rfl, by kernel_rfl⟩
 intro e st1 hk
 rcases o_1 with q_1 | q_2
 rotate_left
 ·obtain ⟨rfl, hf⟩ := hk
  cases h
  exact ⟨st1, Sub.refl _ _, .inr rfl, hf⟩
 obtain ⟨rfl, hs⟩ := hk
 refine ⟨_, hs, ?_⟩
 refine sr [] [4] [] 0 [.bool true] [] hmix an ?_
 refine rt ?_
 cases h
 exact ⟨.inr rfl, Nat.le_of_ble_eq_true rfl, by kernel_rfl⟩

theorem event_Same_ok (F : Nat) (a_1 : T_api_Event) (b_1 : T_api_Event) (r : Bool) (h : event_Same F a_1 b_1 = some r) : TripleG prog 50 [] [] [e_T_api_Event a_1, e_T_api_Event b_1] [] (.bool r) := by
 refine triple_intro (fn := Go.Proofs.Try.f50) (code := codeOf Go.Proofs.Try.f50) (by kernel_rfl) (by kernel_rfl) (Nat.le_of_ble_eq_true (by kernel_rfl)) ?_
 unfold event_Same at h
 refine sr [(0, { id := 0 }), (1, { id := 1 })] [2, 3] [0, 1] 2 [Pp 0, Pp 1] [Vb 54 (v_T_api_Event a_1), Vb 54 (v_T_api_Event b_1)] hmix an ?_
 refine sq ?_
 obtain ⟨p_1, h_2, h⟩ := bind_some h
 refine aw_mid (mk [(4, .bool p_1)] [] 0) ?_ ?_
 ·replace h := h_2
  rcases bft (a_1.At == b_1.At) with gg_1 | gg_1
  ·replace h := cond_t gg_1 h
   rcases bft (a_1.Kind == b_1.Kind) with gg_2 | gg_2
   ·replace h := cond_t gg_2 h
    rcases bft (a_1.Name == b_1.Name) with gg_3 | gg_3
    ·replace h := cond_t gg_3 h
     rcases bft (a_1.N == b_1.N) with gg_4 | gg_4
     ·replace h := cond_t gg_4 h
      rcases bft (a_1.M == b_1.M) with gg_5 | gg_5
      ·replace h := cond_t gg_5 h
       obtain ⟨r_1, h_1, h⟩ := bind_some h
       refine rg [(11, Ht), (18, Ht), (25, Ht), (32, Ht), (38, { av := .bool r_1, l := [.sl false 1 (Ms a_1.Stack), .sl false 1 (Ms b_1.Stack)] }), (39, Ht)] [4] [] 2 [.bool r_1] [] hmix (ac gg_1 (ac gg_1 (ac gg_1 (ac gg_1 (ac gg_1 (ac gg_1 (ac gg_2 (ac gg_2 (ac gg_2 (ac gg_2 (ac gg_2 (ac gg_2 (ac gg_3 (ac gg_3 (ac gg_3 (ac gg_3 (ac gg_3 (ac gg_3 (ac gg_4 (ac gg_4 (ac gg_4 (ac gg_4 (ac gg_4 (ac gg_4 (ac gg_5 (ac gg_5 (ac gg_5 (ac gg_5 (ac gg_5 (ar ([.sl false 1 (Ms a_1.Stack), .sl false 1 (Ms b_1.Stack)] : List AV) (ac (rfl : ([] : List BoxSt) = []) (ac (slices_Equal_string_string_ok F a_1.Stack b_1.Stack r_1 h_1 : TripleG prog 63 [] [] [.sl false 1 (Ms a_1.Stack), .sl false 1 (Ms b_1.Stack)] [] (.bool r_1)) (ac gg_5 an))))))))))))))))))))))))))))))))) ?_
       cases h
       exact ⟨rfl, (sw [] [] [.s 4] [] an)⟩
      ·replace h := cond_f gg_5 h
       refine rg [(11, Ht), (18, Ht), (25, Ht), (32, Ht), (34, Hg), (35, Hg), (36, Hg), (37, Hg), (38, Hg), (39, Hf)] [4] [] 2 [.bool false] [] hmix (ac gg_1 (ac gg_1 (ac gg_1 (ac gg_1 (ac gg_1 (ac gg_1 (ac gg_2 (ac gg_2 (ac gg_2 (ac gg_2 (ac gg_2 (ac gg_2 (ac gg_3 (ac gg_3 (ac gg_3 (ac gg_3 (ac gg_3 (ac gg_3 (ac gg_4 (ac gg_4 (ac gg_4 (ac gg_4 (ac gg_4 (ac gg_4 (ac gg_5 (ac gg_5 (ac gg_5 (ac gg_5 (ac gg_5 (ac gg_5 an)))))))))))))))))))))))))))))) ?_
       cases h
       exact ⟨rfl, (sw [] [] [.s 4] [] an)⟩
     ·replace h := cond_f gg_4 h
      refine rg [(11, Ht), (18, Ht), (25, Ht), (27, Hg), (28, Hg), (29, Hg), (30, Hg), (31, Hg), (32, Hf), (34, Hg), (35, Hg), (36, Hg), (37, Hg), (38, Hg), (39, Hf)] [4] [] 2 [.bool false] [] hmix (ac gg_1 (ac gg_1 (ac gg_1 (ac gg_1 (ac gg_1 (ac gg_1 (ac gg_2 (ac gg_2 (ac gg_2 (ac gg_2 (ac gg_2 (ac gg_2 (ac gg_3 (ac gg_3 (ac gg_3 (ac gg_3 (ac gg_3 (ac gg_3 (ac gg_4 (ac gg_4 (ac gg_4 (ac gg_4 (ac gg_4 (ac gg_4 (ac (rfl : false = !true) (ac (rfl : false = !true) (ac (rfl : false = !true) (ac (rfl : false = !true) (ac (rfl : false = !true) (ar false an)))))))))))))))))))))))))))))) ?_
      cases h
      exact ⟨rfl, (sw [] [] [.s 4] [] an)⟩
    ·replace h := cond_f gg_3 h
     refine rg [(11, Ht), (18, Ht), (20, Hg), (21, Hg), (22, Hg), (23, Hg), (24, Hg), (25, Hf), (27, Hg), (28, Hg), (29, Hg), (30, Hg), (31, Hg), (32, Hf), (34, Hg), (35, Hg), (36, Hg), (37, Hg), (38, Hg), (39, Hf)] [4] [] 2 [.bool false] [] hmix (ac gg_1 (ac gg_1 (ac gg_1 (ac gg_1 (ac gg_1 (ac gg_1 (ac gg_2 (ac gg_2 (ac gg_2 (ac gg_2 (ac gg_2 (ac gg_2 (ac gg_3 (ac gg_3 (ac gg_3 (ac gg_3 (ac gg_3 (ac gg_3 (ac (rfl : false = !true) (ac (rfl : false = !true) (ac (rfl : false = !true) (ac (rfl : false = !true) (ac (rfl : false = !true) (ar false (ac (rfl : false = !true) (ac (rfl : false = !true) (ac (rfl : false = !true) (ac (rfl : false = !true) (ac (rfl : false = !true) (ar false an)))))))))))))))))))))))))))))) ?_
     cases h
     exact ⟨rfl, (sw [] [] [.s 4] [] an)⟩
   ·replace h := cond_f gg_2 h
    refine rg [(11, Ht), (13, Hg), (14, Hg), (15, Hg), (16, Hg), (17, Hg), (18, Hf), (20, Hg), (21, Hg), (22, Hg), (23, Hg), (24, Hg), (25, Hf), (27, Hg), (28, Hg), (29, Hg), (30, Hg), (31, Hg), (32, Hf), (34, Hg), (35, Hg), (36, Hg), (37, Hg), (38, Hg), (39, Hf)] [4] [] 2 [.bool false] [] hmix (ac gg_1 (ac gg_1 (ac gg_1 (ac gg_1 (ac gg_1 (ac gg_1 (ac gg_2 (ac gg_2 (ac gg_2 (ac gg_2 (ac gg_2 (ac gg_2 (ac (rfl : false = !true) (ac (rfl : false = !true) (ac (rfl : false = !true) (ac (rfl : false = !true) (ac (rfl : false = !true) (ar false (ac (rfl : false = !true) (ac (rfl : false = !true) (ac (rfl : false = !true) (ac (rfl : false = !true) (ac (rfl : false = !true) (ar false (ac (rfl : false = !true) (ac (rfl : false = !true) (ac (rfl : false = !true) (ac (rfl : false = !true) (ac (rfl : false = !true) (ar false an)))))))))))))))))))))))))))))) ?_
    cases h
    exact ⟨rfl, (sw [] [] [.s 4] [] an)⟩
  ·replace h := cond_f gg_1 h
   refine rg [(6, Hg), (7, Hg), (8, Hg), (9, Hg), (10, Hg), (11, Hf), (13, Hg), (14, Hg), (15, Hg), (16, Hg), (17, Hg), (18, Hf), (20, Hg), (21, Hg), (22, Hg), (23, Hg), (24, Hg), (25, Hf), (27, Hg), (28, Hg), (29, Hg), (30, Hg), (31, Hg), (32, Hf), (34, Hg), (35, Hg), (36, Hg), (37, Hg), (38, Hg), (39, Hf)] [4] [] 2 [.bool false] [] hmix (ac gg_1 (ac gg_1 (ac gg_1 (ac gg_1 (ac gg_1 (ac gg_1 (ac (rfl : false = !true) (ac (rfl : false = !true) (ac (rfl : false = !true) (ac (rfl : false = !true) (ac (rfl : false = !true) (ar false (ac (rfl : false = !true) (ac (rfl : false = !true) (ac (rfl : false = !true) (ac (rfl : false = !true) (ac (rfl : false = !true) (ar false (ac (rfl : false = !true) (ac (rfl : false = !true) (ac (rfl : false = !true) (ac (rfl : false = !true) (ac (rfl : false = !true) (ar false (ac (rfl : false = !true) (ac (rfl : false = !true) (ac (rfl : false = !true) (ac (rfl : false = !true) (ac (rfl : false = !true) (ar false an)))))))))))))))))))))))))))))) ?_
   cases h
   exact ⟨rfl, (sw [] [] [.s 4] [] an)⟩
 refine rt ?_
 cases h
 exact ⟨.inr rfl, Nat.le_of_ble_eq_true rfl, by kernel_rfl⟩

theorem L12_holds_ok (F : Nat) (l_1 : List (T_api_Packet)) (thread_1 : Int) (serial_1 : Int) (e_1 : T_api_Event) (r : Bool) (h : L12_holds F l_1 thread_1 serial_1 e_1 = some r) : TripleG prog 28 [] [] [.sl false 4 (Mp e_T_api_Packet l_1), Ii thread_1, Ii serial_1, e_T_api_Event e_1] [] (.bool r) := by
 refine triple_intro (fn := Go.Proofs.Try.f28) (code := codeOf Go.Proofs.Try.f28) (by kernel_rfl) (by kernel_rfl) (Nat.le_of_ble_eq_true (by kernel_rfl)) ?_
 unfold L12_holds at h
 refine sr [(0, { id := 0 })] [0, 1, 2, 7] [0] 1 [.sl false 4 (Mp e_T_api_Packet l_1), Ii thread_1, Ii serial_1, Pp 0] [Vb 54 (v_T_api_Event e_1)] hmix an ?_
 refine sq ?_
 refine sr [] [0, 1, 2, 7, 9] [0] 1 [.sl false 4 (Mp e_T_api_Packet l_1), Ii thread_1, Ii serial_1, Pp 0, Ii 0] [Vb 54 (v_T_api_Event e_1)] hmix an ?_
 obtain ⟨o_1, h_1, h⟩ := bind_some h
 refine aw_conv (K1 := (fun e st' => match o_1 with | (.inl q0) => e = .normal ∧ Sub 0 st' (mk [] [] 0) | (.inr q1) => e = .ret ∧ FinR prog Go.Proofs.Try.f28 0 [] (.bool q1) st')) ?_ ?_
 ·replace h := h_1
  refine aw_block (id := 0) (by kernel_rfl) ?_
  refine wk [0] [] [.s 0, .s 1, .s 2, .s 7, .s 9] [.s 0] [(0, .sl false 4 (Mp e_T_api_Packet l_1)), (1, Ii thread_1), (2, Ii serial_1), (7, Pp 0), (9, Ii 0)] [(0, Vb 54 (v_T_api_Event e_1))] an ?_
  refine aw_loopF (fun n st => ∃ (i_1 : Int), st = mk [(0, .sl false 4 (Mp e_T_api_Packet l_1)), (1, Ii thread_1), (2, Ii serial_1), (7, Pp 0), (9, Ii i_1)] [(0, Vb 54 (v_T_api_Event e_1))] 1 ∧ L12_holds_L1 F l_1 thread_1 serial_1 e_1 n i_1 = some o_1) F (by kernel_rfl) ⟨_, rfl, h⟩ ?_ ?_
  ·rintro _ ⟨_, _, h⟩; exact none_ne (h : (none : Option (Unit ⊕ Bool)) = some o_1)
  rintro n_1 _ ⟨i_1, rfl, h⟩
  replace h : L12_holds_L1_body F l_1 thread_1 serial_1 e_1 (L12_holds_L1 F l_1 thread_1 serial_1 e_1 n_1) i_1 = some o_1 := h
  unfold L12_holds_L1_body at h
  refine sq ?_
  refine sr [(2, { n := (l_1).length })] [0, 1, 2, 7, 9, 14] [0] 1 [.sl false 4 (Mp e_T_api_Packet l_1), Ii thread_1, Ii serial_1, Pp 0, Ii i_1, .bool (decide (i_1 < (lN (l_1))))] [Vb 54 (v_T_api_Event e_1)] hmix (ac (vc_len _ : ((Mp e_T_api_Packet l_1)).length = (l_1).length) an) ?_
  refine cd 14 (decide (i_1 < (lN (l_1)))) ?_ ?_
  rotate_left
  ·intro g_1; replace h := cond_f g_1 h
   refine aw_exit (id := 0) (by kernel_rfl) ?_
   cases h
   exact ⟨rfl, (sw [] [] [] [] an)⟩
  intro g_1; replace h := cond_t g_1 h
  refine sk ?_
  refine sq ?_
  refine aw_block (id := 1) (by kernel_rfl) ?_
  refine sq ?_
  obtain ⟨x_1, h_2, h⟩ := bind_some h
  refine rg [(3, { av := e_T_api_Packet x_1 })] [0, 1, 2, 7, 9, 10] [0] 1 [.sl false 4 (Mp e_T_api_Packet l_1), Ii thread_1, Ii serial_1, Pp 0, Ii i_1, Ii (w_i64 (serial_1 - x_1.Serial))] [Vb 54 (v_T_api_Event e_1)] hmix (ac (vc_idx h_2 : idxA (Mp e_T_api_Packet l_1) i_1 = some (e_T_api_Packet x_1)) an) ?_
  refine sq ?_
  obtain ⟨p_1, h_8, h⟩ := bind_some h
  refine aw_mid (mk [(0, .sl false 4 (Mp e_T_api_Packet l_1)), (1, Ii thread_1), (2, Ii serial_1), (7, Pp 0), (9, Ii i_1), (56, .bool p_1)] [(0, Vb 54 (v_T_api_Event e_1))] 1) ?_ ?_
  ·replace h := h_8
   obtain ⟨x_2, h_3, h⟩ := bind_some h
   rcases bft (x_2.Thread == thread_1) with gg_10 | gg_10
   ·replace h := cond_t gg_10 h
    rcases bft (decide ((w_i64 (serial_1 - x_1.Serial)) ≥ (0 : Int))) with gg_11 | gg_11
    ·replace h := cond_t gg_11 h
     obtain ⟨x_3, h_4, h⟩ := bind_some h
     rcases bft (decide ((w_i64 (serial_1 - x_1.Serial)) < (lN (x_3.Events)))) with gg_12 | gg_12
     ·replace h := cond_t gg_12 h
      obtain ⟨x_4, h_5, h⟩ := bind_some h
      obtain ⟨x_5, h_6, h⟩ := bind_some h
      obtain ⟨r_1, h_7, h⟩ := bind_some h
      refine rg [(2, { av := e_T_api_Packet x_2 }), (10, Ht), (15, { av := e_T_api_Packet x_3 }), (18, { n := (x_3.Events).length }), (20, Ht), (24, { av := e_T_api_Packet x_4 }), (28, { av := e_T_api_Event x_5 }), (31, { av := .bool r_1, l := [e_T_api_Event x_5, e_T_api_Event e_1] }), (32, Ht)] [0, 1, 2, 7, 9, 32, 33, 36, 37, 38, 39, 40, 41, 42, 43, 46, 47, 48, 49, 50, 51, 52, 53, 54, 55, 56] [0] 1 [.sl false 4 (Mp e_T_api_Packet l_1), Ii thread_1, Ii serial_1, Pp 0, Ii i_1, Ii (w_i64 (serial_1 - x_1.Serial)), .bool (decide ((w_i64 (serial_1 - x_1.Serial)) ≥ (0 : Int))), Ii (w_i64 (serial_1 - x_1.Serial)), .sl false 4 (Mp e_T_api_Packet l_1), Ii i_1, .ref (e_T_api_Packet x_3), .ref (.sl false 6 (Mp e_T_api_Event x_3.Events)), .sl false 6 (Mp e_T_api_Event x_3.Events), Ii (lN (x_3.Events)), .bool (decide ((w_i64 (serial_1 - x_1.Serial)) < (lN (x_3.Events)))), .sl false 4 (Mp e_T_api_Packet l_1), Ii i_1, .ref (e_T_api_Packet x_4), .ref (.sl false 6 (Mp e_T_api_Event x_4.Events)), .sl false 6 (Mp e_T_api_Event x_4.Events), Ii (w_i64 (serial_1 - x_1.Serial)), .ref (e_T_api_Event x_5), e_T_api_Event x_5, e_T_api_Event e_1, .bool r_1, .bool r_1] [Vb 54 (v_T_api_Event e_1)] hmix (ac (vc_idx h_3 : idxA (Mp e_T_api_Packet l_1) i_1 = some (e_T_api_Packet x_2)) (ac gg_10 (ac gg_10 (ac gg_10 (ac gg_11 (ac gg_11 (ac gg_11 (ac gg_11 (ac (vc_idx h_4 : idxA (Mp e_T_api_Packet l_1) i_1 = some (e_T_api_Packet x_3)) (ac gg_11 (ac gg_11 (ac gg_11 (ac (vc_len _ : ((Mp e_T_api_Event x_3.Events)).length = (x_3.Events).length) (ac gg_11 (ac gg_11 (ac gg_12 (ac gg_12 (ac gg_12 (ac (vc_idx h_5 : idxA (Mp e_T_api_Packet l_1) i_1 = some (e_T_api_Packet x_4)) (ac gg_12 (ac gg_12 (ac gg_12 (ac gg_12 (ac (vc_idx h_6 : idxA (Mp e_T_api_Event x_4.Events) (w_i64 (serial_1 - x_1.Serial)) = some (e_T_api_Event x_5)) (ac gg_12 (ac gg_12 (ac gg_12 (ar ([e_T_api_Event x_5, e_T_api_Event e_1] : List AV) (ac (rfl : ([] : List BoxSt) = []) (ac (event_Same_ok F x_5 e_1 r_1 h_7 : TripleG prog 50 [] [] [e_T_api_Event x_5, e_T_api_Event e_1] [] (.bool r_1)) (ac gg_12 an))))))))))))))))))))))))))))))) ?_
      cases h
      exact ⟨rfl, (sw [0] [] [.s 0, .s 1, .s 2, .s 7, .s 9, .s 56] [.s 0] an)⟩
     ·replace h := cond_f gg_12 h
      refine rg [(2, { av := e_T_api_Packet x_2 }), (10, Ht), (15, { av := e_T_api_Packet x_3 }), (18, { n := (x_3.Events).length }), (20, Ht), (22, Hg), (23, Hg), (24, Hg), (25, Hg), (26, Hg), (27, Hg), (28, Hg), (29, Hg), (30, Hg), (31, Hg), (32, Hf)] [0, 1, 2, 7, 9, 32, 33, 36, 37, 38, 39, 40, 41, 42, 43, 46, 47, 48, 49, 50, 51, 52, 53, 54, 55, 56] [0] 1 [.sl false 4 (Mp e_T_api_Packet l_1), Ii thread_1, Ii serial_1, Pp 0, Ii i_1, Ii (w_i64 (serial_1 - x_1.Serial)), .bool (decide ((w_i64 (serial_1 - x_1.Serial)) ≥ (0 : Int))), Ii (w_i64 (serial_1 - x_1.Serial)), .sl false 4 (Mp e_T_api_Packet l_1), Ii i_1, .ref (e_T_api_Packet x_3), .ref (.sl false 6 (Mp e_T_api_Event x_3.Events)), .sl false 6 (Mp e_T_api_Event x_3.Events), Ii (lN (x_3.Events)), .bool (decide ((w_i64 (serial_1 - x_1.Serial)) < (lN (x_3.Events)))), .tuple [], .tuple [], .tuple [], .tuple [], .tuple [], .tuple [], .tuple [], .tuple [], .tuple [], .tuple [], .bool false] [Vb 54 (v_T_api_Event e_1)] hmix (ac (vc_idx h_3 : idxA (Mp e_T_api_Packet l_1) i_1 = some (e_T_api_Packet x_2)) (ac gg_10 (ac gg_10 (ac gg_10 (ac gg_11 (ac gg_11 (ac gg_11 (ac gg_11 (ac (vc_idx h_4 : idxA (Mp e_T_api_Packet l_1) i_1 = some (e_T_api_Packet x_3)) (ac gg_11 (ac gg_11 (ac gg_11 (ac (vc_len _ : ((Mp e_T_api_Event x_3.Events)).length = (x_3.Events).length) (ac gg_11 (ac gg_11 (ac gg_12 (ac gg_12 (ac gg_12 (ac gg_12 (ac gg_12 (ac gg_12 (ac gg_12 (ac gg_12 (ac gg_12 (ac gg_12 (ac gg_12 an)))))))))))))))))))))))))) ?_
      cases h
      exact ⟨rfl, (sw [0] [] [.s 0, .s 1, .s 2, .s 7, .s 9, .s 56] [.s 0] an)⟩
    ·replace h := cond_f gg_11 h
     refine rg [(2, { av := e_T_api_Packet x_2 }), (10, Ht), (12, Hg), (13, Hg), (14, Hg), (15, Hg), (16, Hg), (17, Hg), (18, Hg), (19, Hg), (20, Hf), (22, Hg), (23, Hg), (24, Hg), (25, Hg), (26, Hg), (27, Hg), (28, Hg), (29, Hg), (30, Hg), (31, Hg), (32, Hf)] [0, 1, 2, 7, 9, 32, 33, 36, 37, 38, 39, 40, 41, 42, 43, 46, 47, 48, 49, 50, 51, 52, 53, 54, 55, 56] [0] 1 [.sl false 4 (Mp e_T_api_Packet l_1), Ii thread_1, Ii serial_1, Pp 0, Ii i_1, Ii (w_i64 (serial_1 - x_1.Serial)), .bool (decide ((w_i64 (serial_1 - x_1.Serial)) ≥ (0 : Int))), .tuple [], .tuple [], .tuple [], .tuple [], .tuple [], .tuple [], .tuple [], .tuple [], .tuple [], .tuple [], .tuple [], .tuple [], .tuple [], .tuple [], .tuple [], .tuple [], .tuple [], .tuple [], .bool false] [Vb 54 (v_T_api_Event e_1)] hmix (ac (vc_idx h_3 : idxA (Mp e_T_api_Packet l_1) i_1 = some (e_T_api_Packet x_2)) (ac gg_10 (ac gg_10 (ac gg_10 (ac gg_11 (ac gg_11 (ac gg_11 (ac gg_11 (ac gg_11 (ac gg_11 (ac gg_11 (ac gg_11 (ac gg_11 (ac (rfl : false = !true) (ac (rfl : false = !true) (ac (rfl : false = !true) (ac (rfl : false = !true) (ac (rfl : false = !true) (ac (rfl : false = !true) (ac (rfl : false = !true) (ac (rfl : false = !true) (ac (rfl : false = !true) (ac (rfl : false = !true) (ar false an)))))))))))))))))))))))) ?_
     cases h
     exact ⟨rfl, (sw [0] [] [.s 0, .s 1, .s 2, .s 7, .s 9, .s 56] [.s 0] an)⟩
   ·replace h := cond_f gg_10 h
    refine rg [(2, { av := e_T_api_Packet x_2 }), (8, Hg), (9, Hg), (10, Hf), (12, Hg), (13, Hg), (14, Hg), (15, Hg), (16, Hg), (17, Hg), (18, Hg), (19, Hg), (20, Hf), (22, Hg), (23, Hg), (24, Hg), (25, Hg), (26, Hg), (27, Hg), (28, Hg), (29, Hg), (30, Hg), (31, Hg), (32, Hf)] [0, 1, 2, 7, 9, 32, 33, 36, 37, 38, 39, 40, 41, 42, 43, 46, 47, 48, 49, 50, 51, 52, 53, 54, 55, 56] [0] 1 [.sl false 4 (Mp e_T_api_Packet l_1), Ii thread_1, Ii serial_1, Pp 0, Ii i_1, .tuple [], .tuple [], .tuple [], .tuple [], .tuple [], .tuple [], .tuple [], .tuple [], .tuple [], .tuple [], .tuple [], .tuple [], .tuple [], .tuple [], .tuple [], .tuple [], .tuple [], .tuple [], .tuple [], .tuple [], .bool false] [Vb 54 (v_T_api_Event e_1)] hmix (ac (vc_idx h_3 : idxA (Mp e_T_api_Packet l_1) i_1 = some (e_T_api_Packet x_2)) (ac gg_10 (ac gg_10 (ac gg_10 (ac (rfl : false = !true) (ac (rfl : false = !true) (ac (rfl : false = !true) (ac (rfl : false = !true) (ac (rfl : false = !true) (ac (rfl : false = !true) (ac (rfl : false = !true) (ac (rfl : false = !true) (ar false (ac (rfl : false = !true) (ac (rfl : false = !true) (ac (rfl : false = !true) (ac (rfl : false = !true) (ac (rfl : false = !true) (ac (rfl : false = !true) (ac (rfl : false = !true) (ac (rfl : false = !true) (ac (rfl : false = !true) (ac (rfl : false = !true) (ar false an)))))))))))))))))))))))) ?_
    cases h
    exact ⟨rfl, (sw [0] [] [.s 0, .s 1, .s 2, .s 7, .s 9, .s 56] [.s 0] an)⟩
  refine cd 56 p_1 ?_ ?_
  rotate_left
  ·intro g_2; replace h := cond_f g_2 h
   refine sk ?_
   refine rg [] [0, 1, 2, 7, 9] [0] 1 [.sl false 4 (Mp e_T_api_Packet l_1), Ii thread_1, Ii serial_1, Pp 0, Ii (w_i64 (i_1 + (1 : Int)))] [Vb 54 (v_T_api_Event e_1)] hmix an ?_
   exact ⟨_, (sw [0] [] [.s 0, .s 1, .s 2, .s 7, .s 9] [.s 0] an), _, rfl, h⟩
  intro g_2; replace h := cond_t g_2 h
  refine sr [] [8] [] 1 [.bool true] [] hmix an ?_
  refine rt ?_
  cases h
  exact ⟨rfl, Nat.le_of_ble_eq_true rfl, by kernel_rfl⟩
 intro e st1 hk
 rcases o_1 with q_1 | q_2
 rotate_left
 ·obtain ⟨rfl, hf⟩ := hk
  cases h
  exact ⟨st1, Sub.refl _ _, .inr rfl, hf⟩
 obtain ⟨rfl, hs⟩ := hk
 refine ⟨_, hs, ?_⟩
 refine sr [] [8] [] 0 [.bool false] [] hmix an ?_
 refine rt ?_
 cases h
 exact ⟨.inr rfl, Nat.le_of_ble_eq_true rfl, by kernel_rfl⟩

end Go.Ab
