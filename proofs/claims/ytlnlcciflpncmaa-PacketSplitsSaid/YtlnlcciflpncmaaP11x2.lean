/- Printed: the typed Lean functions of the Go functions, or the proofs that the Go functions meet them. No conditions but those that the theorems name. -/
import Derived.Test.YtlnlcciflpncmaaP11x1
namespace Go.Ab
open Go
set_option linter.unusedVariables false
theorem packet_Encode_ok (F : Nat) (p_1 : T_api_Packet) (r : (List (Int)) × Int) (h : packet_Encode F p_1 = some r) : TripleG prog 17 [] [] [e_T_api_Packet p_1] [.row 5 1 (Mb r.1)] (.tuple [.own 0 ((r.1).length), Ii r.2]) := by
 refine triple_intro (fn := Go.Proofs.Try.f17) (code := codeOf Go.Proofs.Try.f17) (by kernel_rfl) (by kernel_rfl) (Nat.le_of_ble_eq_true (by kernel_rfl)) ?_
 unfold packet_Encode at h
 refine sr [(0, { id := 0 }), (1, { id := 1, m := 1 })] [1] [0] 2 [Pp 0] [Vb 24 (v_T_api_Packet p_1)] hmix an ?_
 refine sq ?_
 refine sq ?_
 obtain ⟨r_1, h_1, h⟩ := bind_some h
 refine rg [(1, { av := Ii r_1, l := [e_T_api_Packet p_1] })] [1, 4] [0] 2 [Pp 0, Ii r_1] [Vb 24 (v_T_api_Packet p_1)] hmix (ar ([e_T_api_Packet p_1] : List AV) (ac (rfl : ([] : List BoxSt) = []) (ac (packet_Check_ok F p_1 r_1 h_1 : TripleG prog 13 [] [] [e_T_api_Packet p_1] [] (Ii r_1)) an))) ?_
 refine sr [] [1, 4, 22] [0] 2 [Pp 0, Ii r_1, .bool (r_1 != (0 : Int))] [Vb 24 (v_T_api_Packet p_1)] hmix an ?_
 refine cd 22 (r_1 != (0 : Int)) ?_ ?_
 ·intro g_1; replace h := cond_t g_1 h
  refine sr [(1, { id := 2, m := 1 })] [2, 3] [2] 3 [.own 2 0, Ii r_1] [Rb 5 1 []] hmix an ?_
  refine wk [2] [] [.a 2 (.own 0 ((([] : List Int)).length)), .s 3] [.s 0] [(2, .own 0 ((([] : List Int)).length)), (3, Ii r_1)] [(0, Rb 5 1 [])] (ac (congrArg (AV.own _) (by first | (simp; done) | (simp; omega)) : (.own 2 0 : AV) = .own 2 ((([] : List Int)).length)) an) ?_
  refine rt ?_
  cases h
  exact ⟨.inr rfl, Nat.le_of_ble_eq_true rfl, by kernel_rfl⟩
 intro g_1; replace h := cond_f g_1 h
 refine sk ?_
 refine sr [] [1, 5] [0] 2 [Pp 0, .nilsl] [Vb 24 (v_T_api_Packet p_1)] hmix an ?_
 refine sr [] [1, 5, 6] [0] 2 [Pp 0, .nilsl, .nilsl] [Vb 24 (v_T_api_Packet p_1)] hmix an ?_
 refine sr [(0, { id := 2, m := 1 })] [1, 5, 6, 7] [0, 2] 3 [Pp 0, .nilsl, .nilsl, .own 2 0] [Vb 24 (v_T_api_Packet p_1), Rb 5 1 []] hmix an ?_
 refine sq ?_
 refine sr [(2, { n := (p_1.Events).length })] [1, 5, 6, 7, 25, 26, 27] [0, 2] 3 [Pp 0, .nilsl, .nilsl, .own 2 0, .sl false 6 (Mp e_T_api_Event p_1.Events), Ii (lN (p_1.Events)), Ii 0] [Vb 24 (v_T_api_Packet p_1), Rb 5 1 []] hmix (ac (vc_len _ : ((Mp e_T_api_Event p_1.Events)).length = (p_1.Events).length) an) ?_
 obtain ⟨o_1, h_2, h⟩ := bind_some h
 refine aw_conv (K1 := (fun e st' => match o_1 with | (.inl q0) => e = .normal ∧ Sub 0 st' (mk [(1, Pp 0), (5, .sl false 1 (Ms q0.1)), (6, .sl false 2 (Mp e_Arr2_Int q0.2.1)), (7, .own 1 ((q0.2.2).length))] [(0, Vb 24 (v_T_api_Packet p_1)), (1, Rb 5 1 (Mb q0.2.2))] 2) | (.inr q1) => e = .ret ∧ FinR prog Go.Proofs.Try.f17 0 [.row 5 1 (Mb q1.1)] (.tuple [.own 0 ((q1.1).length), Ii q1.2]) st')) ?_ ?_
 ·replace h := h_2
  refine aw_block (id := 0) (by kernel_rfl) ?_
  refine wk [0, 2] [] [.s 1, .a 5 (.sl false 1 []), .a 6 (.sl false 2 []), .s 7, .s 25, .s 26, .s 27] [.s 0, .s 1] [(1, Pp 0), (5, .sl false 1 []), (6, .sl false 2 []), (7, .own 1 0), (25, .sl false 6 (Mp e_T_api_Event p_1.Events)), (26, Ii (lN (p_1.Events))), (27, Ii 0)] [(0, Vb 24 (v_T_api_Packet p_1)), (1, Rb 5 1 [])] (ar ([] : List AV) (ar ([] : List AV) an)) ?_
  refine aw_loopF (fun n st => ∃ (names_1 : List (List Int)), ∃ (stacks_1 : List Arr2_Int), ∃ (v_1 : Int), ∃ (row_1 : List Int), st = mk [(1, Pp 0), (5, .sl false 1 (Ms names_1)), (6, .sl false 2 (Mp e_Arr2_Int stacks_1)), (7, .own 1 ((row_1).length)), (25, .sl false 6 (Mp e_T_api_Event p_1.Events)), (26, Ii (lN (p_1.Events))), (27, Ii v_1)] [(0, Vb 24 (v_T_api_Packet p_1)), (1, Rb 5 1 (Mb row_1))] 2 ∧ packet_Encode_L1 F p_1 n names_1 stacks_1 v_1 row_1 = some o_1) F (by kernel_rfl) ⟨_, _, _, _, rfl, h⟩ ?_ ?_
  ·rintro _ ⟨_, _, _, _, _, h⟩; exact none_ne (h : (none : Option (((List (List Int)) × (List Arr2_Int) × (List Int)) ⊕ ((List (Int)) × Int))) = some o_1)
  rintro n_1 _ ⟨names_1, stacks_1, v_1, row_1, rfl, h⟩
  replace h : packet_Encode_L1_body F p_1 (packet_Encode_L1 F p_1 n_1) names_1 stacks_1 v_1 row_1 = some o_1 := h
  unfold packet_Encode_L1_body at h
  refine sr [] [1, 5, 6, 7, 25, 26, 27, 28] [0, 1] 2 [Pp 0, .sl false 1 (Ms names_1), .sl false 2 (Mp e_Arr2_Int stacks_1), .own 1 ((row_1).length), .sl false 6 (Mp e_T_api_Event p_1.Events), Ii (lN (p_1.Events)), Ii v_1, .bool (decide (v_1 < (lN (p_1.Events))))] [Vb 24 (v_T_api_Packet p_1), Rb 5 1 (Mb row_1)] hmix an ?_
  refine sq ?_
  refine cd 28 (decide (v_1 < (lN (p_1.Events)))) ?_ ?_
  rotate_left
  ·intro g_2; replace h := cond_f g_2 h
   refine aw_exit (id := 0) (by kernel_rfl) ?_
   cases h
   exact ⟨rfl, (sw [0, 1] [] [.s 1, .s 5, .s 6, .s 7] [.s 0, .s 1] an)⟩
  intro g_2; replace h := cond_t g_2 h
  refine sk ?_
  refine sq ?_
  refine aw_block (id := 1) (by kernel_rfl) ?_
  refine sq ?_
  obtain ⟨x_1, h_3, h⟩ := bind_some h
  refine rg [(0, { av := e_T_api_Event x_1 }), (2, { id := 2 })] [1, 5, 6, 7, 9, 25, 26, 27] [0, 1, 2] 3 [Pp 0, .sl false 1 (Ms names_1), .sl false 2 (Mp e_Arr2_Int stacks_1), .own 1 ((row_1).length), Pp 2, .sl false 6 (Mp e_T_api_Event p_1.Events), Ii (lN (p_1.Events)), Ii v_1] [Vb 24 (v_T_api_Packet p_1), Rb 5 1 (Mb row_1), Vb 33 (v_T_api_Event x_1)] hmix (ac (vc_idx h_3 : idxA (Mp e_T_api_Event p_1.Events) v_1 = some (e_T_api_Event x_1)) an) ?_
  refine sq ?_
  obtain ⟨r_2, h_4, h⟩ := bind_some h
  refine rg [(3, { av := .tuple [.own 0 ((r_2.1).length), .sl false 1 (Ms r_2.2.1), .sl false 2 (Mp e_Arr2_Int r_2.2.2.1), Ii r_2.2.2.2], ids := [3], l := [.sl false 1 (Ms names_1), .sl false 2 (Mp e_Arr2_Int stacks_1), e_T_api_Event x_1], post := [(.row 5 1 (Mb r_2.1))] })] [1, 7, 10, 11, 12, 13, 25, 26, 27] [0, 1, 3] 4 [Pp 0, .own 1 ((row_1).length), .own 3 ((r_2.1).length), .sl false 1 (Ms r_2.2.1), .sl false 2 (Mp e_Arr2_Int r_2.2.2.1), Ii r_2.2.2.2, .sl false 6 (Mp e_T_api_Event p_1.Events), Ii (lN (p_1.Events)), Ii v_1] [Vb 24 (v_T_api_Packet p_1), Rb 5 1 (Mb row_1), Rb 5 1 (Mb r_2.1)] hmix (ar ([.sl false 1 (Ms names_1), .sl false 2 (Mp e_Arr2_Int stacks_1), e_T_api_Event x_1] : List AV) (ac (rfl : ([] : List BoxSt) = []) (ac (record_Encode_ok F names_1 stacks_1 x_1 r_2 h_4 : TripleG prog 31 [] [] [.sl false 1 (Ms names_1), .sl false 2 (Mp e_Arr2_Int stacks_1), e_T_api_Event x_1] [(.row 5 1 (Mb r_2.1))] (.tuple [.own 0 ((r_2.1).length), .sl false 1 (Ms r_2.2.1), .sl false 2 (Mp e_Arr2_Int r_2.2.2.1), Ii r_2.2.2.2])) an))) ?_
  refine sq ?_
  refine sr [] [1, 7, 10, 11, 12, 13, 25, 26, 27, 41] [0, 1, 3] 4 [Pp 0, .own 1 ((row_1).length), .own 3 ((r_2.1).length), .sl false 1 (Ms r_2.2.1), .sl false 2 (Mp e_Arr2_Int r_2.2.2.1), Ii r_2.2.2.2, .sl false 6 (Mp e_T_api_Event p_1.Events), Ii (lN (p_1.Events)), Ii v_1, .bool (r_2.2.2.2 != (0 : Int))] [Vb 24 (v_T_api_Packet p_1), Rb 5 1 (Mb row_1), Rb 5 1 (Mb r_2.1)] hmix an ?_
  refine cd 41 (r_2.2.2.2 != (0 : Int)) ?_ ?_
  ·intro g_3; replace h := cond_t g_3 h
   refine sr [(1, { id := 4, m := 1 })] [2, 3] [4] 5 [.own 4 0, Ii r_2.2.2.2] [Rb 5 1 []] hmix an ?_
   refine wk [4] [] [.a 2 (.own 0 ((([] : List Int)).length)), .s 3] [.s 0] [(2, .own 0 ((([] : List Int)).length)), (3, Ii r_2.2.2.2)] [(0, Rb 5 1 [])] (ac (congrArg (AV.own _) (by first | (simp; done) | (simp; omega)) : (.own 4 0 : AV) = .own 4 ((([] : List Int)).length)) an) ?_
   refine rt ?_
   cases h
   exact ⟨rfl, Nat.le_of_ble_eq_true rfl, by kernel_rfl⟩
  intro g_3; replace h := cond_f g_3 h
  refine sk ?_
  refine sr [] [1, 5, 6, 7, 10, 25, 26, 27] [0, 1, 3] 4 [Pp 0, .sl false 1 (Ms r_2.2.1), .sl false 2 (Mp e_Arr2_Int r_2.2.2.1), .own 1 ((row_1).length), .own 3 ((r_2.1).length), .sl false 6 (Mp e_T_api_Event p_1.Events), Ii (lN (p_1.Events)), Ii v_1] [Vb 24 (v_T_api_Packet p_1), Rb 5 1 (Mb row_1), Rb 5 1 (Mb r_2.1)] hmix an ?_
  obtain ⟨_, h_5, h⟩ := bind_some h; replace h_5 := need_some h_5
  refine rg [(2, { id := 4, l := (Mb (row_1 ++ r_2.1)), n := ((row_1 ++ r_2.1)).length })] [1, 5, 6, 7, 25, 26, 27] [0, 4] 5 [Pp 0, .sl false 1 (Ms r_2.2.1), .sl false 2 (Mp e_Arr2_Int r_2.2.2.1), .own 4 (((row_1 ++ r_2.1)).length), .sl false 6 (Mp e_T_api_Event p_1.Events), Ii (lN (p_1.Events)), Ii v_1] [Vb 24 (v_T_api_Packet p_1), Rb 5 1 (Mb (row_1 ++ r_2.1))] hmix (ac (by first | (simp; done) | (simp; omega) : (row_1).length = ((List.map (AV.int .u8) row_1)).length) (ac (by first | (simp; done) | (simp; omega) : (r_2.1).length = ((List.map (AV.int .u8) r_2.1)).length) (ac (vc_app _ _ : (Mb (row_1 ++ r_2.1)) = (Mb row_1) ++ (Mb r_2.1)) (ac (by simp : ((row_1 ++ r_2.1)).length = ((List.map (AV.int .u8) (row_1 ++ r_2.1))).length) (ac (by first | (simp; done) | simpa using h_5 : (((List.map (AV.int .u8) row_1) : List AV).length + ((List.map (AV.int .u8) r_2.1) : List AV).length) * 1 ≤ 140737488355328) an))))) ?_
  refine rg [] [1, 5, 6, 7, 25, 26, 27] [0, 4] 5 [Pp 0, .sl false 1 (Ms r_2.2.1), .sl false 2 (Mp e_Arr2_Int r_2.2.2.1), .own 4 (((row_1 ++ r_2.1)).length), .sl false 6 (Mp e_T_api_Event p_1.Events), Ii (lN (p_1.Events)), Ii (w_i64 (v_1 + (1 : Int)))] [Vb 24 (v_T_api_Packet p_1), Rb 5 1 (Mb (row_1 ++ r_2.1))] hmix an ?_
  exact ⟨_, (sw [0, 4] [] [.s 1, .s 5, .s 6, .s 7, .s 25, .s 26, .s 27] [.s 0, .s 1] an), _, _, _, _, rfl, h⟩
 intro e st1 hk
 rcases o_1 with q_1 | q_2
 rotate_left
 ·obtain ⟨rfl, hf⟩ := hk
  cases h
  exact ⟨st1, Sub.refl _ _, .inr rfl, hf⟩
 obtain ⟨rfl, hs⟩ := hk
 refine ⟨_, hs, ?_⟩
 refine sq ?_
 obtain ⟨r_3, h_6, h⟩ := bind_some h
 refine rg [(7, { n := (q_1.1).length }), (8, { id := 2 }), (9, { av := .own 0 ((r_3).length), frz := [2], ids := [3], l := [.nilsl, .sl false 1 (Mi ([p_1.Thread, p_1.Serial, p_1.Lost, (lN (q_1.1))] : List Int))], post := [(.row 5 1 (Mb r_3))] })] [1, 5, 6, 7, 14] [0, 1, 3] 4 [Pp 0, .sl false 1 (Ms q_1.1), .sl false 2 (Mp e_Arr2_Int q_1.2.1), .own 1 ((q_1.2.2).length), .own 3 ((r_3).length)] [Vb 24 (v_T_api_Packet p_1), Rb 5 1 (Mb q_1.2.2), Rb 5 1 (Mb r_3)] hmix (ac (vc_len _ : ((Ms q_1.1)).length = (q_1.1).length) (ac (by first | (simp; done) | (simp; omega) : 4 = ((List.map (AV.int .i64) ([p_1.Thread, p_1.Serial, p_1.Lost, (((q_1.1).length : Nat) : Int)] : List Int))).length) (ar ([.nilsl, .sl false 1 (Mi ([p_1.Thread, p_1.Serial, p_1.Lost, (lN (q_1.1))] : List Int))] : List AV) (ac (rfl : ([] : List BoxSt) = []) (ac (packet_puts_v2_ok F ([p_1.Thread, p_1.Serial, p_1.Lost, (lN (q_1.1))] : List Int) r_3 h_6 : TripleG prog 32 [] [] [.nilsl, .sl false 1 (Mi ([p_1.Thread, p_1.Serial, p_1.Lost, (lN (q_1.1))] : List Int))] [(.row 5 1 (Mb r_3))] (.own 0 ((r_3).length))) an))))) ?_
 refine sq ?_
 refine sr [(1, { n := (q_1.1).length })] [1, 6, 7, 14, 59, 60, 61] [0, 1, 3] 4 [Pp 0, .sl false 2 (Mp e_Arr2_Int q_1.2.1), .own 1 ((q_1.2.2).length), .own 3 ((r_3).length), .sl false 1 (Ms q_1.1), Ii (lN (q_1.1)), Ii 0] [Vb 24 (v_T_api_Packet p_1), Rb 5 1 (Mb q_1.2.2), Rb 5 1 (Mb r_3)] hmix (ac (vc_len _ : ((Ms q_1.1)).length = (q_1.1).length) an) ?_
 obtain ⟨o_2, h_7, h⟩ := bind_some h
 refine aw_mid (mk [(1, Pp 0), (6, .sl false 2 (Mp e_Arr2_Int q_1.2.1)), (7, .own 1 ((q_1.2.2).length)), (14, .own 2 ((o_2).length))] [(0, Vb 24 (v_T_api_Packet p_1)), (1, Rb 5 1 (Mb q_1.2.2)), (2, Rb 5 1 (Mb o_2))] 3) ?_ ?_
 ·replace h := h_7
  refine aw_block (id := 2) (by kernel_rfl) ?_
  refine wk [0, 1, 3] [] [.s 1, .s 6, .s 7, .s 14, .s 59, .s 60, .s 61] [.s 0, .s 1, .s 2] [(1, Pp 0), (6, .sl false 2 (Mp e_Arr2_Int q_1.2.1)), (7, .own 1 ((q_1.2.2).length)), (14, .own 2 ((r_3).length)), (59, .sl false 1 (Ms q_1.1)), (60, Ii (lN (q_1.1))), (61, Ii 0)] [(0, Vb 24 (v_T_api_Packet p_1)), (1, Rb 5 1 (Mb q_1.2.2)), (2, Rb 5 1 (Mb r_3))] an ?_
  refine aw_loopF (fun n st => ∃ (v_2 : Int), ∃ (row_2 : List Int), st = mk [(1, Pp 0), (6, .sl false 2 (Mp e_Arr2_Int q_1.2.1)), (7, .own 1 ((q_1.2.2).length)), (14, .own 2 ((row_2).length)), (59, .sl false 1 (Ms q_1.1)), (60, Ii (lN (q_1.1))), (61, Ii v_2)] [(0, Vb 24 (v_T_api_Packet p_1)), (1, Rb 5 1 (Mb q_1.2.2)), (2, Rb 5 1 (Mb row_2))] 3 ∧ packet_Encode_L2 F q_1 n v_2 row_2 = some o_2) F (by kernel_rfl) ⟨_, _, rfl, h⟩ ?_ ?_
  ·rintro _ ⟨_, _, _, h⟩; exact none_ne (h : (none : Option (List Int)) = some o_2)
  rintro n_2 _ ⟨v_2, row_2, rfl, h⟩
  replace h : packet_Encode_L2_body F q_1 (packet_Encode_L2 F q_1 n_2) v_2 row_2 = some o_2 := h
  unfold packet_Encode_L2_body at h
  refine sr [] [1, 6, 7, 14, 59, 60, 61, 62] [0, 1, 2] 3 [Pp 0, .sl false 2 (Mp e_Arr2_Int q_1.2.1), .own 1 ((q_1.2.2).length), .own 2 ((row_2).length), .sl false 1 (Ms q_1.1), Ii (lN (q_1.1)), Ii v_2, .bool (decide (v_2 < (lN (q_1.1))))] [Vb 24 (v_T_api_Packet p_1), Rb 5 1 (Mb q_1.2.2), Rb 5 1 (Mb row_2)] hmix an ?_
  refine sq ?_
  refine cd 62 (decide (v_2 < (lN (q_1.1)))) ?_ ?_
  rotate_left
  ·intro g_4; replace h := cond_f g_4 h
   refine aw_exit (id := 2) (by kernel_rfl) ?_
   cases h
   exact ⟨rfl, (sw [0, 1, 2] [] [.s 1, .s 6, .s 7, .s 14] [.s 0, .s 1, .s 2] an)⟩
  intro g_4; replace h := cond_t g_4 h
  refine sk ?_
  refine sq ?_
  refine aw_block (id := 3) (by kernel_rfl) ?_
  refine sq ?_
  obtain ⟨x_2, h_8, h⟩ := bind_some h
  refine rg [(0, { av := .str x_2 })] [1, 6, 7, 14, 16, 59, 60, 61] [0, 1, 2] 3 [Pp 0, .sl false 2 (Mp e_Arr2_Int q_1.2.1), .own 1 ((q_1.2.2).length), .own 2 ((row_2).length), .str x_2, .sl false 1 (Ms q_1.1), Ii (lN (q_1.1)), Ii v_2] [Vb 24 (v_T_api_Packet p_1), Rb 5 1 (Mb q_1.2.2), Rb 5 1 (Mb row_2)] hmix (ac (vc_idx h_8 : idxA (Ms q_1.1) v_2 = some (.str x_2)) an) ?_
  obtain ⟨r_4, h_9, h⟩ := bind_some h
  refine rg [(2, { av := .own 0 ((r_4).length), frz := [2], ids := [3], l := [.sl false 1 (Mb row_2), .str x_2], post := [(.row 5 1 (Mb r_4))] })] [1, 6, 7, 14, 59, 60, 61] [0, 1, 3] 4 [Pp 0, .sl false 2 (Mp e_Arr2_Int q_1.2.1), .own 1 ((q_1.2.2).length), .own 3 ((r_4).length), .sl false 1 (Ms q_1.1), Ii (lN (q_1.1)), Ii v_2] [Vb 24 (v_T_api_Packet p_1), Rb 5 1 (Mb q_1.2.2), Rb 5 1 (Mb r_4)] hmix (ac (by first | (simp; done) | (simp; omega) : (row_2).length = ((List.map (AV.int .u8) row_2)).length) (ar ([.sl false 1 (Mb row_2), .str x_2] : List AV) (ac (rfl : ([] : List BoxSt) = []) (ac (codec_PutText_ok F row_2 x_2 r_4 h_9 : TripleG prog 33 [] [] [.sl false 1 (Mb row_2), .str x_2] [(.row 5 1 (Mb r_4))] (.own 0 ((r_4).length))) an)))) ?_
  refine rg [] [1, 6, 7, 14, 59, 60, 61] [0, 1, 3] 4 [Pp 0, .sl false 2 (Mp e_Arr2_Int q_1.2.1), .own 1 ((q_1.2.2).length), .own 3 ((r_4).length), .sl false 1 (Ms q_1.1), Ii (lN (q_1.1)), Ii (w_i64 (v_2 + (1 : Int)))] [Vb 24 (v_T_api_Packet p_1), Rb 5 1 (Mb q_1.2.2), Rb 5 1 (Mb r_4)] hmix an ?_
  exact ⟨_, (sw [0, 1, 3] [] [.s 1, .s 6, .s 7, .s 14, .s 59, .s 60, .s 61] [.s 0, .s 1, .s 2] an), _, _, rfl, h⟩
 refine sq ?_
 obtain ⟨r_5, h_10, h⟩ := bind_some h
 refine rg [(2, { n := (q_1.2.1).length }), (3, { id := 3 }), (4, { av := .own 0 ((r_5).length), frz := [3], gids := [2], giv := [(.row 5 1 (Mb o_2))], ids := [4], l := [.own 0 ((o_2).length), .sl false 1 (Mi ([(lN (q_1.2.1))] : List Int))], post := [(.row 5 1 (Mb r_5))] })] [1, 6, 7, 14] [0, 1, 4] 5 [Pp 0, .sl false 2 (Mp e_Arr2_Int q_1.2.1), .own 1 ((q_1.2.2).length), .own 4 ((r_5).length)] [Vb 24 (v_T_api_Packet p_1), Rb 5 1 (Mb q_1.2.2), Rb 5 1 (Mb r_5)] hmix (ac (vc_len _ : ((Mp e_Arr2_Int q_1.2.1)).length = (q_1.2.1).length) (ac (by first | (simp; done) | (simp; omega) : 1 = ((List.map (AV.int .i64) ([(((q_1.2.1).length : Nat) : Int)] : List Int))).length) (ar ([.own 2 ((o_2).length), .sl false 1 (Mi ([(lN (q_1.2.1))] : List Int))] : List AV) (ac (rfl : ([Rb 5 1 (Mb o_2)] : List BoxSt) = [Rb 5 1 (Mb o_2)]) (ac (packet_puts_v3_ok F o_2 ([(lN (q_1.2.1))] : List Int) r_5 h_10 : TripleG prog 32 [] [(.row 5 1 (Mb o_2))] [.own 0 ((o_2).length), .sl false 1 (Mi ([(lN (q_1.2.1))] : List Int))] [(.row 5 1 (Mb r_5))] (.own 0 ((r_5).length))) an))))) ?_
 refine sq ?_
 refine sr [(1, { n := (q_1.2.1).length })] [1, 7, 14, 74, 75, 76] [0, 1, 4] 5 [Pp 0, .own 1 ((q_1.2.2).length), .own 4 ((r_5).length), .sl false 2 (Mp e_Arr2_Int q_1.2.1), Ii (lN (q_1.2.1)), Ii 0] [Vb 24 (v_T_api_Packet p_1), Rb 5 1 (Mb q_1.2.2), Rb 5 1 (Mb r_5)] hmix (ac (vc_len _ : ((Mp e_Arr2_Int q_1.2.1)).length = (q_1.2.1).length) an) ?_
 obtain ⟨o_3, h_11, h⟩ := bind_some h
 refine aw_mid (mk [(1, Pp 0), (7, .own 1 ((q_1.2.2).length)), (14, .own 2 ((o_3).length))] [(0, Vb 24 (v_T_api_Packet p_1)), (1, Rb 5 1 (Mb q_1.2.2)), (2, Rb 5 1 (Mb o_3))] 3) ?_ ?_
 ·replace h := h_11
  refine aw_block (id := 4) (by kernel_rfl) ?_
  refine wk [0, 1, 4] [] [.s 1, .s 7, .s 14, .s 74, .s 75, .s 76] [.s 0, .s 1, .s 2] [(1, Pp 0), (7, .own 1 ((q_1.2.2).length)), (14, .own 2 ((r_5).length)), (74, .sl false 2 (Mp e_Arr2_Int q_1.2.1)), (75, Ii (lN (q_1.2.1))), (76, Ii 0)] [(0, Vb 24 (v_T_api_Packet p_1)), (1, Rb 5 1 (Mb q_1.2.2)), (2, Rb 5 1 (Mb r_5))] an ?_
  refine aw_loopF (fun n st => ∃ (v_3 : Int), ∃ (row_3 : List Int), st = mk [(1, Pp 0), (7, .own 1 ((q_1.2.2).length)), (14, .own 2 ((row_3).length)), (74, .sl false 2 (Mp e_Arr2_Int q_1.2.1)), (75, Ii (lN (q_1.2.1))), (76, Ii v_3)] [(0, Vb 24 (v_T_api_Packet p_1)), (1, Rb 5 1 (Mb q_1.2.2)), (2, Rb 5 1 (Mb row_3))] 3 ∧ packet_Encode_L3 F q_1 n v_3 row_3 = some o_3) F (by kernel_rfl) ⟨_, _, rfl, h⟩ ?_ ?_
  ·rintro _ ⟨_, _, _, h⟩; exact none_ne (h : (none : Option (List Int)) = some o_3)
  rintro n_3 _ ⟨v_3, row_3, rfl, h⟩
  replace h : packet_Encode_L3_body F q_1 (packet_Encode_L3 F q_1 n_3) v_3 row_3 = some o_3 := h
  unfold packet_Encode_L3_body at h
  refine sr [] [1, 7, 14, 74, 75, 76, 77] [0, 1, 2] 3 [Pp 0, .own 1 ((q_1.2.2).length), .own 2 ((row_3).length), .sl false 2 (Mp e_Arr2_Int q_1.2.1), Ii (lN (q_1.2.1)), Ii v_3, .bool (decide (v_3 < (lN (q_1.2.1))))] [Vb 24 (v_T_api_Packet p_1), Rb 5 1 (Mb q_1.2.2), Rb 5 1 (Mb row_3)] hmix an ?_
  refine sq ?_
  refine cd 77 (decide (v_3 < (lN (q_1.2.1)))) ?_ ?_
  rotate_left
  ·intro g_5; replace h := cond_f g_5 h
   refine aw_exit (id := 4) (by kernel_rfl) ?_
   cases h
   exact ⟨rfl, (sw [0, 1, 2] [] [.s 1, .s 7, .s 14] [.s 0, .s 1, .s 2] an)⟩
  intro g_5; replace h := cond_t g_5 h
  refine sk ?_
  refine sq ?_
  refine aw_block (id := 5) (by kernel_rfl) ?_
  refine sq ?_
  obtain ⟨x_3, h_12, h⟩ := bind_some h
  refine rg [(0, { av := .agg [Ii x_3.c0, Ii x_3.c1] }), (2, { id := 3 })] [1, 7, 14, 18, 74, 75, 76] [0, 1, 2, 3] 4 [Pp 0, .own 1 ((q_1.2.2).length), .own 2 ((row_3).length), Pp 3, .sl false 2 (Mp e_Arr2_Int q_1.2.1), Ii (lN (q_1.2.1)), Ii v_3] [Vb 24 (v_T_api_Packet p_1), Rb 5 1 (Mb q_1.2.2), Rb 5 1 (Mb row_3), Vb 57 [Ii x_3.c0, Ii x_3.c1]] hmix (ac (vc_idx h_12 : idxA (Mp e_Arr2_Int q_1.2.1) v_3 = some (.agg [Ii x_3.c0, Ii x_3.c1])) an) ?_
  obtain ⟨r_6, h_13, h⟩ := bind_some h
  refine rg [(5, { id := 4 }), (6, { av := .own 0 ((r_6).length), frz := [4], gids := [2], giv := [(.row 5 1 (Mb row_3))], ids := [5], l := [.own 0 ((row_3).length), .sl false 1 (Mi ([x_3.c0, x_3.c1] : List Int))], post := [(.row 5 1 (Mb r_6))] })] [1, 7, 14, 74, 75, 76] [0, 1, 5] 6 [Pp 0, .own 1 ((q_1.2.2).length), .own 5 ((r_6).length), .sl false 2 (Mp e_Arr2_Int q_1.2.1), Ii (lN (q_1.2.1)), Ii v_3] [Vb 24 (v_T_api_Packet p_1), Rb 5 1 (Mb q_1.2.2), Rb 5 1 (Mb r_6)] hmix (ac (by decide : (0 : Int) ≤ (0 : Int)) (ac (by decide : (0 : Int) < ((2 : Nat) : Int)) (ac (by decide : (0 : Int) ≤ (1 : Int)) (ac (by decide : (1 : Int) < ((2 : Nat) : Int)) (ac (by first | (simp; done) | (simp; omega) : 2 = ((List.map (AV.int .i64) ([x_3.c0, x_3.c1] : List Int))).length) (ar ([.own 2 ((row_3).length), .sl false 1 (Mi ([x_3.c0, x_3.c1] : List Int))] : List AV) (ac (rfl : ([Rb 5 1 (Mb row_3)] : List BoxSt) = [Rb 5 1 (Mb row_3)]) (ac (packet_puts_v3_ok F row_3 ([x_3.c0, x_3.c1] : List Int) r_6 h_13 : TripleG prog 32 [] [(.row 5 1 (Mb row_3))] [.own 0 ((row_3).length), .sl false 1 (Mi ([x_3.c0, x_3.c1] : List Int))] [(.row 5 1 (Mb r_6))] (.own 0 ((r_6).length))) an)))))))) ?_
  refine rg [] [1, 7, 14, 74, 75, 76] [0, 1, 5] 6 [Pp 0, .own 1 ((q_1.2.2).length), .own 5 ((r_6).length), .sl false 2 (Mp e_Arr2_Int q_1.2.1), Ii (lN (q_1.2.1)), Ii (w_i64 (v_3 + (1 : Int)))] [Vb 24 (v_T_api_Packet p_1), Rb 5 1 (Mb q_1.2.2), Rb 5 1 (Mb r_6)] hmix an ?_
  exact ⟨_, (sw [0, 1, 5] [] [.s 1, .s 7, .s 14, .s 74, .s 75, .s 76] [.s 0, .s 1, .s 2] an), _, _, rfl, h⟩
 refine sq ?_
 obtain ⟨r_7, h_14, h⟩ := bind_some h
 obtain ⟨_, h_15, h⟩ := bind_some h; replace h_15 := need_some h_15
 refine rg [(3, { n := (p_1.Events).length }), (4, { id := 3 }), (5, { av := .own 0 ((r_7).length), frz := [3], gids := [2], giv := [(.row 5 1 (Mb o_3))], ids := [4], l := [.own 0 ((o_3).length), .sl false 1 (Mi ([(lN (p_1.Events))] : List Int))], post := [(.row 5 1 (Mb r_7))] }), (7, { id := 5, l := (Mb (r_7 ++ q_1.2.2)), n := ((r_7 ++ q_1.2.2)).length })] [2, 3] [5] 6 [.own 5 (((r_7 ++ q_1.2.2)).length), Ii 0] [Rb 5 1 (Mb (r_7 ++ q_1.2.2))] hmix (ac (vc_len _ : ((Mp e_T_api_Event p_1.Events)).length = (p_1.Events).length) (ac (by first | (simp; done) | (simp; omega) : 1 = ((List.map (AV.int .i64) ([(((p_1.Events).length : Nat) : Int)] : List Int))).length) (ar ([.own 2 ((o_3).length), .sl false 1 (Mi ([(lN (p_1.Events))] : List Int))] : List AV) (ac (rfl : ([Rb 5 1 (Mb o_3)] : List BoxSt) = [Rb 5 1 (Mb o_3)]) (ac (packet_puts_v3_ok F o_3 ([(lN (p_1.Events))] : List Int) r_7 h_14 : TripleG prog 32 [] [(.row 5 1 (Mb o_3))] [.own 0 ((o_3).length), .sl false 1 (Mi ([(lN (p_1.Events))] : List Int))] [(.row 5 1 (Mb r_7))] (.own 0 ((r_7).length))) (ac (by first | (simp; done) | (simp; omega) : (r_7).length = ((List.map (AV.int .u8) r_7)).length) (ac (by first | (simp; done) | (simp; omega) : (q_1.2.2).length = ((List.map (AV.int .u8) q_1.2.2)).length) (ac (vc_app _ _ : (Mb (r_7 ++ q_1.2.2)) = (Mb r_7) ++ (Mb q_1.2.2)) (ac (by simp : ((r_7 ++ q_1.2.2)).length = ((List.map (AV.int .u8) (r_7 ++ q_1.2.2))).length) (ac (by first | (simp; done) | simpa using h_15 : (((List.map (AV.int .u8) r_7) : List AV).length + ((List.map (AV.int .u8) q_1.2.2) : List AV).length) * 1 ≤ 140737488355328) an)))))))))) ?_
 refine wk [5] [] [.s 2, .s 3] [.s 0] [(2, .own 0 (((r_7 ++ q_1.2.2)).length)), (3, Ii 0)] [(0, Rb 5 1 (Mb (r_7 ++ q_1.2.2)))] an ?_
 refine rt ?_
 cases h
 exact ⟨.inr rfl, Nat.le_of_ble_eq_true rfl, by kernel_rfl⟩

theorem codec_integer_ok (u_1 : Int) (r : Int) (h : codec_integer u_1 = some r) : TripleG prog 87 [] [] [.int .u64 u_1] [] (Ii r) := by
 refine triple_intro (fn := Go.Proofs.Try.f87) (code := codeOf Go.Proofs.Try.f87) (by kernel_rfl) (by kernel_rfl) (Nat.le_of_ble_eq_true (by kernel_rfl)) ?_
 unfold codec_integer at h
 refine sr [] [0] [] 0 [.int .u64 u_1] [] hmix an ?_
 refine sr [] [2] [] 0 [Ii (ixor .i64 (w_i64 (ishr .u64 u_1 (1 : Int))) (w_i64 (0 - (w_i64 (iand .u64 u_1 (1 : Int))))))] [] hmix (ac (by decide : (0 : Int) ≤ (1 : Int)) an) ?_
 refine rt ?_
 cases h
 exact ⟨.inr rfl, Nat.le_of_ble_eq_true rfl, by kernel_rfl⟩

theorem codec_Int_ok (F : Nat) (b_1 : List (Int)) (r : Int × Int × Int) (h : codec_Int F b_1 = some r) : TripleG prog 61 [] [] [.sl false 1 (Mb b_1)] [] (.tuple [Ii r.1, Ii r.2.1, Ii r.2.2]) := by
 refine triple_intro (fn := Go.Proofs.Try.f61) (code := codeOf Go.Proofs.Try.f61) (by kernel_rfl) (by kernel_rfl) (Nat.le_of_ble_eq_true (by kernel_rfl)) ?_
 unfold codec_Int at h
 refine sr [] [0] [] 0 [.sl false 1 (Mb b_1)] [] hmix an ?_
 refine sr [] [0, 5] [] 0 [.sl false 1 (Mb b_1), .int .u64 (0 : Int)] [] hmix an ?_
 refine sq ?_
 refine sr [(1, { n := (b_1).length })] [5, 8, 9, 10] [] 0 [.int .u64 (0 : Int), .sl false 1 (Mb b_1), Ii (lN (b_1)), Ii 0] [] hmix (ac (vc_len _ : ((Mb b_1)).length = (b_1).length) an) ?_
 obtain ⟨o_1, h_1, h⟩ := bind_some h
 refine aw_conv (K1 := (fun e st' => match o_1 with | (.inl q0) => e = .normal ∧ Sub 0 st' (mk [] [] 0) | (.inr q1) => e = .ret ∧ FinR prog Go.Proofs.Try.f61 0 [] (.tuple [Ii q1.1, Ii q1.2.1, Ii q1.2.2]) st')) ?_ ?_
 ·replace h := h_1
  refine aw_block (id := 0) (by kernel_rfl) ?_
  refine wk [] [] [.s 5, .s 8, .s 9, .s 10] [] [(5, .int .u64 (0 : Int)), (8, .sl false 1 (Mb b_1)), (9, Ii (lN (b_1))), (10, Ii 0)] [] an ?_
  refine aw_loopF (fun n st => ∃ (u_1 : Int), ∃ (v_1 : Int), st = mk [(5, .int .u64 u_1), (8, .sl false 1 (Mb b_1)), (9, Ii (lN (b_1))), (10, Ii v_1)] [] 0 ∧ codec_Int_L1 F b_1 n u_1 v_1 = some o_1) F (by kernel_rfl) ⟨_, _, rfl, h⟩ ?_ ?_
  ·rintro _ ⟨_, _, _, h⟩; exact none_ne (h : (none : Option (Unit ⊕ (Int × Int × Int))) = some o_1)
  rintro n_1 _ ⟨u_1, v_1, rfl, h⟩
  replace h : codec_Int_L1_body F b_1 (codec_Int_L1 F b_1 n_1) u_1 v_1 = some o_1 := h
  unfold codec_Int_L1_body at h
  refine sr [] [5, 8, 9, 10, 11] [] 0 [.int .u64 u_1, .sl false 1 (Mb b_1), Ii (lN (b_1)), Ii v_1, .bool (decide (v_1 < (lN (b_1))))] [] hmix an ?_
  refine sq ?_
  refine cd 11 (decide (v_1 < (lN (b_1)))) ?_ ?_
  rotate_left
  ·intro g_1; replace h := cond_f g_1 h
   refine aw_exit (id := 0) (by kernel_rfl) ?_
   cases h
   exact ⟨rfl, (sw [] [] [] [] an)⟩
  intro g_1; replace h := cond_t g_1 h
  refine sk ?_
  refine sq ?_
  refine aw_block (id := 1) (by kernel_rfl) ?_
  refine sq ?_
  obtain ⟨x_1, h_2, h⟩ := bind_some h
  refine rg [(1, { av := Iu x_1 })] [5, 6, 7, 8, 9, 10] [] 0 [.int .u64 u_1, Ii v_1, Iu x_1, .sl false 1 (Mb b_1), Ii (lN (b_1)), Ii v_1] [] hmix (ac (vc_idx h_2 : idxA (Mb b_1) v_1 = some (Iu x_1)) an) ?_
  refine sq ?_
  refine sq ?_
  refine aw_mid (mk [(5, .int .u64 u_1), (6, Ii v_1), (7, Iu x_1), (8, .sl false 1 (Mb b_1)), (9, Ii (lN (b_1))), (10, Ii v_1), (20, .bool ((v_1 == (9 : Int)) && decide (x_1 > (1 : Int))))] [] 0) ?_ ?_
  ·rcases bft (v_1 == (9 : Int)) with gg_7 | gg_7
   ·refine rg [(5, Ht)] [5, 6, 7, 8, 9, 10, 18, 19, 20] [] 0 [.int .u64 u_1, Ii v_1, Iu x_1, .sl false 1 (Mb b_1), Ii (lN (b_1)), Ii v_1, Iu x_1, .bool (decide (x_1 > (1 : Int))), .bool (decide (x_1 > (1 : Int)))] [] hmix (ac gg_7 (ac gg_7 (ac gg_7 an))) ?_
    exact ⟨rfl, (sw [] [] [.s 5, .s 6, .s 7, .s 8, .s 9, .s 10, .a 20 (.bool ((v_1 == (9 : Int)) && decide (x_1 > (1 : Int))))] [] (ac (congrArg AV.bool (andt gg_7 rfl) : (.bool (decide (x_1 > (1 : Int))) : AV) = .bool ((v_1 == (9 : Int)) && decide (x_1 > (1 : Int)))) an))⟩
   ·refine rg [(3, Hg), (4, Hg), (5, Hf)] [5, 6, 7, 8, 9, 10, 18, 19, 20] [] 0 [.int .u64 u_1, Ii v_1, Iu x_1, .sl false 1 (Mb b_1), Ii (lN (b_1)), Ii v_1, .tuple [], .tuple [], .bool false] [] hmix (ac gg_7 (ac gg_7 (ac gg_7 an))) ?_
    exact ⟨rfl, (sw [] [] [.s 5, .s 6, .s 7, .s 8, .s 9, .s 10, .a 20 (.bool ((v_1 == (9 : Int)) && decide (x_1 > (1 : Int))))] [] (ac (congrArg AV.bool (andf gg_7) : (.bool false : AV) = .bool ((v_1 == (9 : Int)) && decide (x_1 > (1 : Int)))) an))⟩
  refine cd 20 ((v_1 == (9 : Int)) && decide (x_1 > (1 : Int))) ?_ ?_
  ·intro g_2; replace h := cond_t g_2 h
   refine sr [] [2, 3, 4] [] 0 [Ii 0, Ii 0, Ii 10] [] hmix an ?_
   refine rt ?_
   cases h
   exact ⟨rfl, Nat.le_of_ble_eq_true rfl, by kernel_rfl⟩
  intro g_2; replace h := cond_f g_2 h
  refine sk ?_
  refine sq ?_
  obtain ⟨_, h_3, h⟩ := bind_some h; replace h_3 := need_some h_3
  refine rg [] [5, 6, 7, 8, 9, 10] [] 0 [.int .u64 (ior .u64 u_1 (ishl .u64 (w_u64 (iand .u8 x_1 (127 : Int))) (w_i64 ((7 : Int) * v_1)))), Ii v_1, Iu x_1, .sl false 1 (Mb b_1), Ii (lN (b_1)), Ii v_1] [] hmix (ac h_3 an) ?_
  refine sq ?_
  refine sr [] [5, 6, 7, 8, 9, 10, 30] [] 0 [.int .u64 (ior .u64 u_1 (ishl .u64 (w_u64 (iand .u8 x_1 (127 : Int))) (w_i64 ((7 : Int) * v_1)))), Ii v_1, Iu x_1, .sl false 1 (Mb b_1), Ii (lN (b_1)), Ii v_1, .bool (decide (x_1 ≥ (128 : Int)))] [] hmix an ?_
  refine cd 30 (decide (x_1 ≥ (128 : Int))) ?_ ?_
  ·intro g_3; replace h := cond_t g_3 h
   refine aw_exit (id := 1) (by kernel_rfl) ?_
   refine rg [] [5, 8, 9, 10] [] 0 [.int .u64 (ior .u64 u_1 (ishl .u64 (w_u64 (iand .u8 x_1 (127 : Int))) (w_i64 ((7 : Int) * v_1)))), .sl false 1 (Mb b_1), Ii (lN (b_1)), Ii (w_i64 (v_1 + (1 : Int)))] [] hmix an ?_
   exact ⟨_, (sw [] [] [.s 5, .s 8, .s 9, .s 10] [] an), _, _, rfl, h⟩
  intro g_3; replace h := cond_f g_3 h
  refine sk ?_
  refine sq ?_
  refine sq ?_
  refine aw_mid (mk [(5, .int .u64 (ior .u64 u_1 (ishl .u64 (w_u64 (iand .u8 x_1 (127 : Int))) (w_i64 ((7 : Int) * v_1))))), (6, Ii v_1), (36, .bool ((x_1 == (0 : Int)) && decide (v_1 > (0 : Int))))] [] 0) ?_ ?_
  ·rcases bft (x_1 == (0 : Int)) with gg_8 | gg_8
   ·refine rg [(5, Ht)] [5, 6, 36] [] 0 [.int .u64 (ior .u64 u_1 (ishl .u64 (w_u64 (iand .u8 x_1 (127 : Int))) (w_i64 ((7 : Int) * v_1)))), Ii v_1, .bool (decide (v_1 > (0 : Int)))] [] hmix (ac gg_8 (ac gg_8 (ac gg_8 an))) ?_
    exact ⟨rfl, (sw [] [] [.s 5, .s 6, .a 36 (.bool ((x_1 == (0 : Int)) && decide (v_1 > (0 : Int))))] [] (ac (congrArg AV.bool (andt gg_8 rfl) : (.bool (decide (v_1 > (0 : Int))) : AV) = .bool ((x_1 == (0 : Int)) && decide (v_1 > (0 : Int)))) an))⟩
   ·refine rg [(3, Hg), (4, Hg), (5, Hf)] [5, 6, 36] [] 0 [.int .u64 (ior .u64 u_1 (ishl .u64 (w_u64 (iand .u8 x_1 (127 : Int))) (w_i64 ((7 : Int) * v_1)))), Ii v_1, .bool false] [] hmix (ac gg_8 (ac gg_8 (ac gg_8 an))) ?_
    exact ⟨rfl, (sw [] [] [.s 5, .s 6, .a 36 (.bool ((x_1 == (0 : Int)) && decide (v_1 > (0 : Int))))] [] (ac (congrArg AV.bool (andf gg_8) : (.bool false : AV) = .bool ((x_1 == (0 : Int)) && decide (v_1 > (0 : Int)))) an))⟩
  refine cd 36 ((x_1 == (0 : Int)) && decide (v_1 > (0 : Int))) ?_ ?_
  ·intro g_4; replace h := cond_t g_4 h
   refine sr [] [2, 3, 4] [] 0 [Ii 0, Ii 0, Ii 10] [] hmix an ?_
   refine rt ?_
   cases h
   exact ⟨rfl, Nat.le_of_ble_eq_true rfl, by kernel_rfl⟩
  intro g_4; replace h := cond_f g_4 h
  refine sk ?_
  refine sq ?_
  obtain ⟨r_1, h_4, h⟩ := bind_some h
  refine rg [(1, { av := Ii r_1, l := [.int .u64 (ior .u64 u_1 (ishl .u64 (w_u64 (iand .u8 x_1 (127 : Int))) (w_i64 ((7 : Int) * v_1))))] })] [2, 3, 4] [] 0 [Ii r_1, Ii (w_i64 (v_1 + (1 : Int))), Ii 0] [] hmix (ar ([.int .u64 (ior .u64 u_1 (ishl .u64 (w_u64 (iand .u8 x_1 (127 : Int))) (w_i64 ((7 : Int) * v_1))))] : List AV) (ac (rfl : ([] : List BoxSt) = []) (ac (codec_integer_ok (ior .u64 u_1 (ishl .u64 (w_u64 (iand .u8 x_1 (127 : Int))) (w_i64 ((7 : Int) * v_1)))) r_1 h_4 : TripleG prog 87 [] [] [.int .u64 (ior .u64 u_1 (ishl .u64 (w_u64 (iand .u8 x_1 (127 : Int))) (w_i64 ((7 : Int) * v_1))))] [] (Ii r_1)) an))) ?_
  refine rt ?_
  cases h
  exact ⟨rfl, Nat.le_of_ble_eq_true rfl, by kernel_rfl⟩
 intro e st1 hk
 rcases o_1 with q_1 | q_2
 rotate_left
 ·obtain ⟨rfl, hf⟩ := hk
  cases h
  exact ⟨st1, Sub.refl _ _, .inr rfl, hf⟩
 obtain ⟨rfl, hs⟩ := hk
 refine ⟨_, hs, ?_⟩
 refine sr [] [2, 3, 4] [] 0 [Ii 0, Ii 0, Ii 8] [] hmix an ?_
 refine rt ?_
 cases h
 exact ⟨.inr rfl, Nat.le_of_ble_eq_true rfl, by kernel_rfl⟩

theorem packet_input_num_ok (F : Nat) (x_1 : T_packet_input) (r : Int × T_packet_input) (h : packet_input_num F x_1 = some r) : TripleG prog 37 [(.var 61 (v_T_packet_input x_1))] [] [Pp 0] [(.var 61 (v_T_packet_input r.2))] (Ii r.1) := by
 refine triple_intro (fn := Go.Proofs.Try.f37) (code := codeOf Go.Proofs.Try.f37) (by kernel_rfl) (by kernel_rfl) (Nat.le_of_ble_eq_true (by kernel_rfl)) ?_
 unfold packet_input_num at h
 refine sr [] [0] [0] 1 [Pp 0] [Vb 61 (v_T_packet_input x_1)] hmix an ?_
 refine sq ?_
 refine sr [] [0, 10] [0] 1 [Pp 0, .bool (x_1.fault != (0 : Int))] [Vb 61 (v_T_packet_input x_1)] hmix an ?_
 refine cd 10 (x_1.fault != (0 : Int)) ?_ ?_
 ·intro g_1; replace h := cond_t g_1 h
  refine sr [] [2] [0] 1 [Ii 0] [Vb 61 (v_T_packet_input x_1)] hmix an ?_
  refine wk [0] [] [.s 2] [.s 0] [(2, Ii 0)] [(0, Vb 61 (v_T_packet_input x_1))] an ?_
  refine rt ?_
  cases h
  exact ⟨.inr rfl, Nat.le_of_ble_eq_true rfl, by kernel_rfl⟩
 intro g_1; replace h := cond_f g_1 h
 refine sk ?_
 refine sq ?_
 obtain ⟨_, h_1, h⟩ := bind_some h; replace h_1 := need_some h_1
 obtain ⟨r_1, h_2, h⟩ := bind_some h
 refine rg [(8, { l := (Mb (sub x_1.b x_1.used (lN (x_1.b)))) }), (9, { av := .tuple [Ii r_1.1, Ii r_1.2.1, Ii r_1.2.2], l := [.sl false 1 (Mb (sub x_1.b x_1.used (lN (x_1.b))))] })] [0, 3, 4, 5] [0] 1 [Pp 0, Ii r_1.1, Ii r_1.2.1, Ii r_1.2.2] [Vb 61 (v_T_packet_input x_1)] hmix (ac h_1.1 (ac (vc_lenle h_1.2 : x_1.used ≤ (lN ((Mb x_1.b)))) (ac (Int.le_refl _ : (lN ((Mb x_1.b))) ≤ (lN ((Mb x_1.b)))) (ac (vc_subn _ _ : (Mb (sub x_1.b x_1.used (lN (x_1.b)))) = (((Mb x_1.b)).take ((lN ((Mb x_1.b)))).toNat).drop (x_1.used).toNat) (ar ([.sl false 1 (Mb (sub x_1.b x_1.used (lN (x_1.b))))] : List AV) (ac (rfl : ([] : List BoxSt) = []) (ac (codec_Int_ok F (sub x_1.b x_1.used (lN (x_1.b))) r_1 h_2 : TripleG prog 61 [] [] [.sl false 1 (Mb (sub x_1.b x_1.used (lN (x_1.b))))] [] (.tuple [Ii r_1.1, Ii r_1.2.1, Ii r_1.2.2])) an))))))) ?_
 refine sr [] [3] [0] 1 [Ii r_1.1] [Vb 61 [.sl false 1 (Mb x_1.b), Ii (w_i64 (x_1.used + r_1.2.1)), Ii r_1.2.2]] hmix an ?_
 refine sr [] [2] [0] 1 [Ii r_1.1] [Vb 61 [.sl false 1 (Mb x_1.b), Ii (w_i64 (x_1.used + r_1.2.1)), Ii r_1.2.2]] hmix an ?_
 refine wk [0] [] [.s 2] [.a 0 (Vb 61 (v_T_packet_input (⟨x_1.b, w_i64 (x_1.used + r_1.2.1), r_1.2.2⟩ : T_packet_input)))] [(2, Ii r_1.1)] [(0, Vb 61 (v_T_packet_input (⟨x_1.b, w_i64 (x_1.used + r_1.2.1), r_1.2.2⟩ : T_packet_input)))] (ar 61 (ac (rfl : ones [.sl false 1 (Mb ((⟨x_1.b, w_i64 (x_1.used + r_1.2.1), r_1.2.2⟩ : T_packet_input).b)), Ii ((⟨x_1.b, w_i64 (x_1.used + r_1.2.1), r_1.2.2⟩ : T_packet_input).used), Ii ((⟨x_1.b, w_i64 (x_1.used + r_1.2.1), r_1.2.2⟩ : T_packet_input).fault)] = true) (ar 1 (ac (rfl : ((Mb x_1.b) : List AV) = (Mb ((⟨x_1.b, w_i64 (x_1.used + r_1.2.1), r_1.2.2⟩ : T_packet_input).b))) (ac (rfl : (!false || false) = true) (ac (rfl : (Ii (w_i64 (x_1.used + r_1.2.1)) : AV) = Ii ((⟨x_1.b, w_i64 (x_1.used + r_1.2.1), r_1.2.2⟩ : T_packet_input).used)) (ac (rfl : (Ii r_1.2.2 : AV) = Ii ((⟨x_1.b, w_i64 (x_1.used + r_1.2.1), r_1.2.2⟩ : T_packet_input).fault)) an))))))) ?_
 refine rt ?_
 cases h
 exact ⟨.inr rfl, Nat.le_of_ble_eq_true rfl, by kernel_rfl⟩

theorem packet_input_count_ok (F : Nat) (x_1 : T_packet_input) (most_1 : Int) (r : Int × T_packet_input) (h : packet_input_count F x_1 most_1 = some r) : TripleG prog 38 [(.var 61 (v_T_packet_input x_1))] [] [Pp 0, Ii most_1] [(.var 61 (v_T_packet_input r.2))] (Ii r.1) := by
 refine triple_intro (fn := Go.Proofs.Try.f38) (code := codeOf Go.Proofs.Try.f38) (by kernel_rfl) (by kernel_rfl) (Nat.le_of_ble_eq_true (by kernel_rfl)) ?_
 unfold packet_input_count at h
 refine sr [] [0, 1] [0] 1 [Pp 0, Ii most_1] [Vb 61 (v_T_packet_input x_1)] hmix an ?_
 refine sq ?_
 obtain ⟨r_1, h_1, h⟩ := bind_some h
 refine rg [(1, { av := Ii r_1.1, ids := [0], l := [Pp 0], post := [(.var 61 (v_T_packet_input r_1.2))], pre := [(.var 61 (v_T_packet_input x_1))] })] [0, 1, 5] [0] 1 [Pp 0, Ii most_1, Ii r_1.1] [Vb 61 (v_T_packet_input r_1.2)] hmix (ar ([Pp 0] : List AV) (ac (rfl : ([Vb 61 (v_T_packet_input x_1)] : List BoxSt) = [Vb 61 (v_T_packet_input x_1)]) (ac (packet_input_num_ok F x_1 r_1 h_1 : TripleG prog 37 [(.var 61 (v_T_packet_input x_1))] [] [Pp 0] [(.var 61 (v_T_packet_input r_1.2))] (Ii r_1.1)) an))) ?_
 refine sq ?_
 refine aw_block (id := 0) (by kernel_rfl) ?_
 refine sr [] [0, 1, 5, 8] [0] 1 [Pp 0, Ii most_1, Ii r_1.1, .bool (r_1.2.fault != (0 : Int))] [Vb 61 (v_T_packet_input r_1.2)] hmix an ?_
 refine cd 8 (r_1.2.fault != (0 : Int)) ?_ ?_
 ·intro g_1; replace h := cond_t g_1 h
  refine sr [] [4] [0] 1 [Ii 0] [Vb 61 (v_T_packet_input r_1.2)] hmix an ?_
  refine wk [0] [] [.s 4] [.s 0] [(4, Ii 0)] [(0, Vb 61 (v_T_packet_input r_1.2))] an ?_
  refine rt ?_
  cases h
  exact ⟨.inr rfl, Nat.le_of_ble_eq_true rfl, by kernel_rfl⟩
 intro g_1; replace h := cond_f g_1 h
 refine sr [] [0, 1, 5, 14] [0] 1 [Pp 0, Ii most_1, Ii r_1.1, .bool (decide (r_1.1 < (0 : Int)))] [Vb 61 (v_T_packet_input r_1.2)] hmix an ?_
 refine cd 14 (decide (r_1.1 < (0 : Int))) ?_ ?_
 ·intro g_2; replace h := cond_t g_2 h
  refine sr [] [] [0] 1 [] [Vb 61 [.sl false 1 (Mb r_1.2.b), Ii r_1.2.used, Ii 10]] hmix an ?_
  refine sr [] [4] [0] 1 [Ii 0] [Vb 61 [.sl false 1 (Mb r_1.2.b), Ii r_1.2.used, Ii 10]] hmix an ?_
  refine wk [0] [] [.s 4] [.a 0 (Vb 61 (v_T_packet_input (⟨r_1.2.b, r_1.2.used, (10 : Int)⟩ : T_packet_input)))] [(4, Ii 0)] [(0, Vb 61 (v_T_packet_input (⟨r_1.2.b, r_1.2.used, (10 : Int)⟩ : T_packet_input)))] (ar 61 (ac (rfl : ones [.sl false 1 (Mb ((⟨r_1.2.b, r_1.2.used, (10 : Int)⟩ : T_packet_input).b)), Ii ((⟨r_1.2.b, r_1.2.used, (10 : Int)⟩ : T_packet_input).used), Ii ((⟨r_1.2.b, r_1.2.used, (10 : Int)⟩ : T_packet_input).fault)] = true) (ar 1 (ac (rfl : ((Mb r_1.2.b) : List AV) = (Mb ((⟨r_1.2.b, r_1.2.used, (10 : Int)⟩ : T_packet_input).b))) (ac (rfl : (!false || false) = true) (ac (rfl : (Ii r_1.2.used : AV) = Ii ((⟨r_1.2.b, r_1.2.used, (10 : Int)⟩ : T_packet_input).used)) (ac (rfl : (Ii 10 : AV) = Ii ((⟨r_1.2.b, r_1.2.used, (10 : Int)⟩ : T_packet_input).fault)) an))))))) ?_
  refine rt ?_
  cases h
  exact ⟨.inr rfl, Nat.le_of_ble_eq_true rfl, by kernel_rfl⟩
 intro g_2; replace h := cond_f g_2 h
 refine sr [] [0, 5, 20] [0] 1 [Pp 0, Ii r_1.1, .bool (decide (r_1.1 > most_1))] [Vb 61 (v_T_packet_input r_1.2)] hmix an ?_
 refine cd 20 (decide (r_1.1 > most_1)) ?_ ?_
 rotate_left
 ·intro g_3; replace h := cond_f g_3 h
  refine sk ?_
  refine sr [] [4] [0] 1 [Ii r_1.1] [Vb 61 (v_T_packet_input r_1.2)] hmix an ?_
  refine wk [0] [] [.s 4] [.s 0] [(4, Ii r_1.1)] [(0, Vb 61 (v_T_packet_input r_1.2))] an ?_
  refine rt ?_
  cases h
  exact ⟨.inr rfl, Nat.le_of_ble_eq_true rfl, by kernel_rfl⟩
 intro g_3; replace h := cond_t g_3 h
 refine sr [] [] [0] 1 [] [Vb 61 [.sl false 1 (Mb r_1.2.b), Ii r_1.2.used, Ii 7]] hmix an ?_
 refine sr [] [4] [0] 1 [Ii 0] [Vb 61 [.sl false 1 (Mb r_1.2.b), Ii r_1.2.used, Ii 7]] hmix an ?_
 refine wk [0] [] [.s 4] [.a 0 (Vb 61 (v_T_packet_input (⟨r_1.2.b, r_1.2.used, (7 : Int)⟩ : T_packet_input)))] [(4, Ii 0)] [(0, Vb 61 (v_T_packet_input (⟨r_1.2.b, r_1.2.used, (7 : Int)⟩ : T_packet_input)))] (ar 61 (ac (rfl : ones [.sl false 1 (Mb ((⟨r_1.2.b, r_1.2.used, (7 : Int)⟩ : T_packet_input).b)), Ii ((⟨r_1.2.b, r_1.2.used, (7 : Int)⟩ : T_packet_input).used), Ii ((⟨r_1.2.b, r_1.2.used, (7 : Int)⟩ : T_packet_input).fault)] = true) (ar 1 (ac (rfl : ((Mb r_1.2.b) : List AV) = (Mb ((⟨r_1.2.b, r_1.2.used, (7 : Int)⟩ : T_packet_input).b))) (ac (rfl : (!false || false) = true) (ac (rfl : (Ii r_1.2.used : AV) = Ii ((⟨r_1.2.b, r_1.2.used, (7 : Int)⟩ : T_packet_input).used)) (ac (rfl : (Ii 7 : AV) = Ii ((⟨r_1.2.b, r_1.2.used, (7 : Int)⟩ : T_packet_input).fault)) an))))))) ?_
 refine rt ?_
 cases h
 exact ⟨.inr rfl, Nat.le_of_ble_eq_true rfl, by kernel_rfl⟩

theorem codec_Text_ok (F : Nat) (b_1 : List (Int)) (most_1 : Int) (r : (List Int) × Int × Int) (h : codec_Text F b_1 most_1 = some r) : TripleG prog 62 [] [] [.sl false 1 (Mb b_1), Ii most_1] [] (.tuple [.str r.1, Ii r.2.1, Ii r.2.2]) := by
 refine triple_intro (fn := Go.Proofs.Try.f62) (code := codeOf Go.Proofs.Try.f62) (by kernel_rfl) (by kernel_rfl) (Nat.le_of_ble_eq_true (by kernel_rfl)) ?_
 unfold codec_Text at h
 refine sr [] [0, 1] [] 0 [.sl false 1 (Mb b_1), Ii most_1] [] hmix an ?_
 refine sq ?_
 obtain ⟨r_1, h_1, h⟩ := bind_some h
 refine rg [(1, { av := .tuple [Ii r_1.1, Ii r_1.2.1, Ii r_1.2.2], l := [.sl false 1 (Mb b_1)] })] [0, 1, 7, 8, 9] [] 0 [.sl false 1 (Mb b_1), Ii most_1, Ii r_1.1, Ii r_1.2.1, Ii r_1.2.2] [] hmix (ar ([.sl false 1 (Mb b_1)] : List AV) (ac (rfl : ([] : List BoxSt) = []) (ac (codec_Int_ok F b_1 r_1 h_1 : TripleG prog 61 [] [] [.sl false 1 (Mb b_1)] [] (.tuple [Ii r_1.1, Ii r_1.2.1, Ii r_1.2.2])) an))) ?_
 refine sq ?_
 refine aw_block (id := 0) (by kernel_rfl) ?_
 refine sr [] [0, 1, 7, 8, 9, 16] [] 0 [.sl false 1 (Mb b_1), Ii most_1, Ii r_1.1, Ii r_1.2.1, Ii r_1.2.2, .bool (r_1.2.2 != (0 : Int))] [] hmix an ?_
 refine cd 16 (r_1.2.2 != (0 : Int)) ?_ ?_
 ·intro g_1; replace h := cond_t g_1 h
  refine sr [] [4, 5, 6] [] 0 [.str ([] : List Int), Ii 0, Ii r_1.2.2] [] hmix an ?_
  refine rt ?_
  cases h
  exact ⟨.inr rfl, Nat.le_of_ble_eq_true rfl, by kernel_rfl⟩
 intro g_1; replace h := cond_f g_1 h
 refine sr [] [0, 1, 7, 8, 20] [] 0 [.sl false 1 (Mb b_1), Ii most_1, Ii r_1.1, Ii r_1.2.1, .bool (decide (r_1.1 < (0 : Int)))] [] hmix an ?_
 refine cd 20 (decide (r_1.1 < (0 : Int))) ?_ ?_
 ·intro g_2; replace h := cond_t g_2 h
  refine sr [] [4, 5, 6] [] 0 [.str ([] : List Int), Ii 0, Ii 10] [] hmix an ?_
  refine rt ?_
  cases h
  exact ⟨.inr rfl, Nat.le_of_ble_eq_true rfl, by kernel_rfl⟩
 intro g_2; replace h := cond_f g_2 h
 refine sr [] [0, 7, 8, 23] [] 0 [.sl false 1 (Mb b_1), Ii r_1.1, Ii r_1.2.1, .bool (decide (r_1.1 > most_1))] [] hmix an ?_
 refine cd 23 (decide (r_1.1 > most_1)) ?_ ?_
 ·intro g_3; replace h := cond_t g_3 h
  refine sr [] [4, 5, 6] [] 0 [.str ([] : List Int), Ii 0, Ii 7] [] hmix an ?_
  refine rt ?_
  cases h
  exact ⟨.inr rfl, Nat.le_of_ble_eq_true rfl, by kernel_rfl⟩
 intro g_3; replace h := cond_f g_3 h
 refine sr [(2, { n := (b_1).length })] [0, 7, 8, 27] [] 0 [.sl false 1 (Mb b_1), Ii r_1.1, Ii r_1.2.1, .bool (decide (r_1.1 > (w_i64 ((lN (b_1)) - r_1.2.1))))] [] hmix (ac (vc_len _ : ((Mb b_1)).length = (b_1).length) an) ?_
 refine cd 27 (decide (r_1.1 > (w_i64 ((lN (b_1)) - r_1.2.1)))) ?_ ?_
 ·intro g_4; replace h := cond_t g_4 h
  refine sr [] [4, 5, 6] [] 0 [.str ([] : List Int), Ii 0, Ii 8] [] hmix an ?_
  refine rt ?_
  cases h
  exact ⟨.inr rfl, Nat.le_of_ble_eq_true rfl, by kernel_rfl⟩
 intro g_4; replace h := cond_f g_4 h
 refine sk ?_
 refine sq ?_
 obtain ⟨_, h_2, h⟩ := bind_some h; replace h_2 := need_some h_2
 refine rg [(5, { l := (Mb (sub b_1 r_1.2.1 (w_i64 (r_1.2.1 + r_1.1)))) }), (6, { s := sub b_1 r_1.2.1 (w_i64 (r_1.2.1 + r_1.1)) })] [4, 5, 6] [] 0 [.str (sub b_1 r_1.2.1 (w_i64 (r_1.2.1 + r_1.1))), Ii (w_i64 (r_1.2.1 + r_1.1)), Ii 0] [] hmix (ac h_2.1 (ac h_2.2.1 (ac (vc_lenle h_2.2.2 : (w_i64 (r_1.2.1 + r_1.1)) ≤ (lN ((Mb b_1)))) (ac (vc_sub _ _ _ : (Mb (sub b_1 r_1.2.1 (w_i64 (r_1.2.1 + r_1.1)))) = (((Mb b_1)).take (w_i64 (r_1.2.1 + r_1.1)).toNat).drop (r_1.2.1).toNat) (ac (rfl : (Mb (sub b_1 r_1.2.1 (w_i64 (r_1.2.1 + r_1.1)))) = List.map (AV.int .u8) (sub b_1 r_1.2.1 (w_i64 (r_1.2.1 + r_1.1)))) an))))) ?_
 refine rt ?_
 cases h
 exact ⟨.inr rfl, Nat.le_of_ble_eq_true rfl, by kernel_rfl⟩

theorem packet_input_text_ok (F : Nat) (x_1 : T_packet_input) (r : (List Int) × T_packet_input) (h : packet_input_text F x_1 = some r) : TripleG prog 39 [(.var 61 (v_T_packet_input x_1))] [] [Pp 0] [(.var 61 (v_T_packet_input r.2))] (.str r.1) := by
 refine triple_intro (fn := Go.Proofs.Try.f39) (code := codeOf Go.Proofs.Try.f39) (by kernel_rfl) (by kernel_rfl) (Nat.le_of_ble_eq_true (by kernel_rfl)) ?_
 unfold packet_input_text at h
 refine sr [] [0] [0] 1 [Pp 0] [Vb 61 (v_T_packet_input x_1)] hmix an ?_
 refine sq ?_
 refine sr [] [0, 10] [0] 1 [Pp 0, .bool (x_1.fault != (0 : Int))] [Vb 61 (v_T_packet_input x_1)] hmix an ?_
 refine cd 10 (x_1.fault != (0 : Int)) ?_ ?_
 ·intro g_1; replace h := cond_t g_1 h
  refine sr [] [2] [0] 1 [.str ([] : List Int)] [Vb 61 (v_T_packet_input x_1)] hmix an ?_
  refine wk [0] [] [.s 2] [.s 0] [(2, .str ([] : List Int))] [(0, Vb 61 (v_T_packet_input x_1))] an ?_
  refine rt ?_
  cases h
  exact ⟨.inr rfl, Nat.le_of_ble_eq_true rfl, by kernel_rfl⟩
 intro g_1; replace h := cond_f g_1 h
 refine sk ?_
 refine sq ?_
 obtain ⟨_, h_1, h⟩ := bind_some h; replace h_1 := need_some h_1
 obtain ⟨r_1, h_2, h⟩ := bind_some h
 refine rg [(8, { l := (Mb (sub x_1.b x_1.used (lN (x_1.b)))) }), (9, { av := .tuple [.str r_1.1, Ii r_1.2.1, Ii r_1.2.2], l := [.sl false 1 (Mb (sub x_1.b x_1.used (lN (x_1.b)))), Ii 40] })] [0, 3, 4, 5] [0] 1 [Pp 0, .str r_1.1, Ii r_1.2.1, Ii r_1.2.2] [Vb 61 (v_T_packet_input x_1)] hmix (ac h_1.1 (ac (vc_lenle h_1.2 : x_1.used ≤ (lN ((Mb x_1.b)))) (ac (Int.le_refl _ : (lN ((Mb x_1.b))) ≤ (lN ((Mb x_1.b)))) (ac (vc_subn _ _ : (Mb (sub x_1.b x_1.used (lN (x_1.b)))) = (((Mb x_1.b)).take ((lN ((Mb x_1.b)))).toNat).drop (x_1.used).toNat) (ar ([.sl false 1 (Mb (sub x_1.b x_1.used (lN (x_1.b)))), Ii 40] : List AV) (ac (rfl : ([] : List BoxSt) = []) (ac (codec_Text_ok F (sub x_1.b x_1.used (lN (x_1.b))) (40 : Int) r_1 h_2 : TripleG prog 62 [] [] [.sl false 1 (Mb (sub x_1.b x_1.used (lN (x_1.b)))), Ii 40] [] (.tuple [.str r_1.1, Ii r_1.2.1, Ii r_1.2.2])) an))))))) ?_
 refine sr [] [3] [0] 1 [.str r_1.1] [Vb 61 [.sl false 1 (Mb x_1.b), Ii (w_i64 (x_1.used + r_1.2.1)), Ii r_1.2.2]] hmix an ?_
 refine sr [] [2] [0] 1 [.str r_1.1] [Vb 61 [.sl false 1 (Mb x_1.b), Ii (w_i64 (x_1.used + r_1.2.1)), Ii r_1.2.2]] hmix an ?_
 refine wk [0] [] [.s 2] [.a 0 (Vb 61 (v_T_packet_input (⟨x_1.b, w_i64 (x_1.used + r_1.2.1), r_1.2.2⟩ : T_packet_input)))] [(2, .str r_1.1)] [(0, Vb 61 (v_T_packet_input (⟨x_1.b, w_i64 (x_1.used + r_1.2.1), r_1.2.2⟩ : T_packet_input)))] (ar 61 (ac (rfl : ones [.sl false 1 (Mb ((⟨x_1.b, w_i64 (x_1.used + r_1.2.1), r_1.2.2⟩ : T_packet_input).b)), Ii ((⟨x_1.b, w_i64 (x_1.used + r_1.2.1), r_1.2.2⟩ : T_packet_input).used), Ii ((⟨x_1.b, w_i64 (x_1.used + r_1.2.1), r_1.2.2⟩ : T_packet_input).fault)] = true) (ar 1 (ac (rfl : ((Mb x_1.b) : List AV) = (Mb ((⟨x_1.b, w_i64 (x_1.used + r_1.2.1), r_1.2.2⟩ : T_packet_input).b))) (ac (rfl : (!false || false) = true) (ac (rfl : (Ii (w_i64 (x_1.used + r_1.2.1)) : AV) = Ii ((⟨x_1.b, w_i64 (x_1.used + r_1.2.1), r_1.2.2⟩ : T_packet_input).used)) (ac (rfl : (Ii r_1.2.2 : AV) = Ii ((⟨x_1.b, w_i64 (x_1.used + r_1.2.1), r_1.2.2⟩ : T_packet_input).fault)) an))))))) ?_
 refine rt ?_
 cases h
 exact ⟨.inr rfl, Nat.le_of_ble_eq_true rfl, by kernel_rfl⟩

theorem record_input_num_ok (F : Nat) (x_1 : T_record_input) (r : Int × T_record_input) (h : record_input_num F x_1 = some r) : TripleG prog 64 [(.var 95 (v_T_record_input x_1))] [] [Pp 0] [(.var 95 (v_T_record_input r.2))] (Ii r.1) := by
 refine triple_intro (fn := Go.Proofs.Try.f64) (code := codeOf Go.Proofs.Try.f64) (by kernel_rfl) (by kernel_rfl) (Nat.le_of_ble_eq_true (by kernel_rfl)) ?_
 unfold record_input_num at h
 refine sr [] [0] [0] 1 [Pp 0] [Vb 95 (v_T_record_input x_1)] hmix an ?_
 refine sq ?_
 refine sr [] [0, 10] [0] 1 [Pp 0, .bool (x_1.fault != (0 : Int))] [Vb 95 (v_T_record_input x_1)] hmix an ?_
 refine cd 10 (x_1.fault != (0 : Int)) ?_ ?_
 ·intro g_1; replace h := cond_t g_1 h
  refine sr [] [2] [0] 1 [Ii 0] [Vb 95 (v_T_record_input x_1)] hmix an ?_
  refine wk [0] [] [.s 2] [.s 0] [(2, Ii 0)] [(0, Vb 95 (v_T_record_input x_1))] an ?_
  refine rt ?_
  cases h
  exact ⟨.inr rfl, Nat.le_of_ble_eq_true rfl, by kernel_rfl⟩
 intro g_1; replace h := cond_f g_1 h
 refine sk ?_
 refine sq ?_
 obtain ⟨_, h_1, h⟩ := bind_some h; replace h_1 := need_some h_1
 obtain ⟨r_1, h_2, h⟩ := bind_some h
 refine rg [(8, { l := (Mb (sub x_1.b x_1.used (lN (x_1.b)))) }), (9, { av := .tuple [Ii r_1.1, Ii r_1.2.1, Ii r_1.2.2], l := [.sl false 1 (Mb (sub x_1.b x_1.used (lN (x_1.b))))] })] [0, 3, 4, 5] [0] 1 [Pp 0, Ii r_1.1, Ii r_1.2.1, Ii r_1.2.2] [Vb 95 (v_T_record_input x_1)] hmix (ac h_1.1 (ac (vc_lenle h_1.2 : x_1.used ≤ (lN ((Mb x_1.b)))) (ac (Int.le_refl _ : (lN ((Mb x_1.b))) ≤ (lN ((Mb x_1.b)))) (ac (vc_subn _ _ : (Mb (sub x_1.b x_1.used (lN (x_1.b)))) = (((Mb x_1.b)).take ((lN ((Mb x_1.b)))).toNat).drop (x_1.used).toNat) (ar ([.sl false 1 (Mb (sub x_1.b x_1.used (lN (x_1.b))))] : List AV) (ac (rfl : ([] : List BoxSt) = []) (ac (codec_Int_ok F (sub x_1.b x_1.used (lN (x_1.b))) r_1 h_2 : TripleG prog 61 [] [] [.sl false 1 (Mb (sub x_1.b x_1.used (lN (x_1.b))))] [] (.tuple [Ii r_1.1, Ii r_1.2.1, Ii r_1.2.2])) an))))))) ?_
 refine sr [] [0, 3, 4] [0] 1 [Pp 0, Ii r_1.1, Ii r_1.2.1] [Vb 95 [.sl false 1 (Mb x_1.b), Ii x_1.used, Ii r_1.2.2]] hmix an ?_
 refine sr [] [3] [0] 1 [Ii r_1.1] [Vb 95 [.sl false 1 (Mb x_1.b), Ii (w_i64 (x_1.used + r_1.2.1)), Ii r_1.2.2]] hmix an ?_
 refine sr [] [2] [0] 1 [Ii r_1.1] [Vb 95 [.sl false 1 (Mb x_1.b), Ii (w_i64 (x_1.used + r_1.2.1)), Ii r_1.2.2]] hmix an ?_
 refine wk [0] [] [.s 2] [.a 0 (Vb 95 (v_T_record_input (⟨x_1.b, w_i64 (x_1.used + r_1.2.1), r_1.2.2⟩ : T_record_input)))] [(2, Ii r_1.1)] [(0, Vb 95 (v_T_record_input (⟨x_1.b, w_i64 (x_1.used + r_1.2.1), r_1.2.2⟩ : T_record_input)))] (ar 95 (ac (rfl : ones [.sl false 1 (Mb ((⟨x_1.b, w_i64 (x_1.used + r_1.2.1), r_1.2.2⟩ : T_record_input).b)), Ii ((⟨x_1.b, w_i64 (x_1.used + r_1.2.1), r_1.2.2⟩ : T_record_input).used), Ii ((⟨x_1.b, w_i64 (x_1.used + r_1.2.1), r_1.2.2⟩ : T_record_input).fault)] = true) (ar 1 (ac (rfl : ((Mb x_1.b) : List AV) = (Mb ((⟨x_1.b, w_i64 (x_1.used + r_1.2.1), r_1.2.2⟩ : T_record_input).b))) (ac (rfl : (!false || false) = true) (ac (rfl : (Ii (w_i64 (x_1.used + r_1.2.1)) : AV) = Ii ((⟨x_1.b, w_i64 (x_1.used + r_1.2.1), r_1.2.2⟩ : T_record_input).used)) (ac (rfl : (Ii r_1.2.2 : AV) = Ii ((⟨x_1.b, w_i64 (x_1.used + r_1.2.1), r_1.2.2⟩ : T_record_input).fault)) an))))))) ?_
 refine rt ?_
 cases h
 exact ⟨.inr rfl, Nat.le_of_ble_eq_true rfl, by kernel_rfl⟩

theorem slices_Reverse_string_string_ok (F : Nat) (s_1 : List (List Int)) (r : (List (List Int))) (h : slices_Reverse_string_string F s_1 = some r) : TripleG prog 88 [(.row 9 1 (Ms s_1))] [] [.own 0 ((s_1).length)] [(.row 9 1 (Ms r))] (.tuple []) := by
 refine triple_intro (fn := Go.Proofs.Try.f88) (code := codeOf Go.Proofs.Try.f88) (by kernel_rfl) (by kernel_rfl) (Nat.le_of_ble_eq_true (by kernel_rfl)) ?_
 unfold slices_Reverse_string_string at h
 refine sr [] [0, 2, 3] [0] 1 [.own 0 ((s_1).length), Ii 0, Ii (w_i64 ((lN (s_1)) - (1 : Int)))] [Rb 9 1 (Ms s_1)] hmix an ?_
 obtain ⟨o_1, h_1, h⟩ := bind_some h
 refine aw_mid (mk [] [(0, Rb 9 1 (Ms o_1))] 1) ?_ ?_
 ·replace h := h_1
  refine aw_block (id := 0) (by kernel_rfl) ?_
  refine wk [0] [] [.s 0, .s 2, .s 3] [.s 0] [(0, .own 0 ((s_1).length)), (2, Ii 0), (3, Ii (w_i64 ((lN (s_1)) - (1 : Int))))] [(0, Rb 9 1 (Ms s_1))] an ?_
  refine aw_loopF (fun n st => ∃ (i_1 : Int), ∃ (j_1 : Int), ∃ (row_1 : List (List Int)), st = mk [(0, .own 0 ((row_1).length)), (2, Ii i_1), (3, Ii j_1)] [(0, Rb 9 1 (Ms row_1))] 1 ∧ slices_Reverse_string_string_L1 F n i_1 j_1 row_1 = some o_1) F (by kernel_rfl) ⟨_, _, _, rfl, h⟩ ?_ ?_
  ·rintro _ ⟨_, _, _, _, h⟩; exact none_ne (h : (none : Option (List (List Int))) = some o_1)
  rintro n_1 _ ⟨i_1, j_1, row_1, rfl, h⟩
  replace h : slices_Reverse_string_string_L1_body F (slices_Reverse_string_string_L1 F n_1) i_1 j_1 row_1 = some o_1 := h
  unfold slices_Reverse_string_string_L1_body at h
  refine sq ?_
  refine sr [] [0, 2, 3, 9] [0] 1 [.own 0 ((row_1).length), Ii i_1, Ii j_1, .bool (decide (i_1 < j_1))] [Rb 9 1 (Ms row_1)] hmix an ?_
  refine cd 9 (decide (i_1 < j_1)) ?_ ?_
  rotate_left
  ·intro g_1; replace h := cond_f g_1 h
   refine aw_exit (id := 0) (by kernel_rfl) ?_
   cases h
   exact ⟨rfl, (sw [0] [] [] [.s 0] an)⟩
  intro g_1; replace h := cond_t g_1 h
  refine sk ?_
  refine sq ?_
  refine aw_block (id := 1) (by kernel_rfl) ?_
  obtain ⟨x_1, h_2, h⟩ := bind_some h
  obtain ⟨x_2, h_3, h⟩ := bind_some h
  obtain ⟨x_3, h_4, h⟩ := bind_some h
  obtain ⟨x_4, h_5, h⟩ := bind_some h
  refine rg [(7, { av := .str x_1 }), (11, { av := .str x_2 }), (13, { av := .str x_3, l := (Ms ((row_1).set ((i_1).toNat) x_1)) }), (15, { av := .str x_4, l := (Ms (((row_1).set ((i_1).toNat) x_1).set ((j_1).toNat) x_2)) })] [0, 2, 3] [0] 1 [.own 0 ((row_1).length), Ii i_1, Ii j_1] [Rb 9 1 (Ms (((row_1).set ((i_1).toNat) x_1).set ((j_1).toNat) x_2))] hmix (ac (idxL_lo h_2 : (0 : Int) ≤ j_1) (ac (by first | (simp; done) | simpa using idxL_hi h_2 : j_1 < (((row_1).length : Nat) : Int)) (ac (vc_get h_2 : (Ms row_1)[(j_1).toNat]? = some (.str x_1)) (ac (idxL_lo h_3 : (0 : Int) ≤ i_1) (ac (by first | (simp; done) | simpa using idxL_hi h_3 : i_1 < (((row_1).length : Nat) : Int)) (ac (vc_get h_3 : (Ms row_1)[(i_1).toNat]? = some (.str x_2)) (ac (idxL_lo h_4 : (0 : Int) ≤ i_1) (ac (by first | (simp; done) | simpa using idxL_hi h_4 : i_1 < (((row_1).length : Nat) : Int)) (ac (vc_get h_4 : (Ms row_1)[(i_1).toNat]? = some (.str x_3)) (ac (vc_set _ _ _ : (Ms ((row_1).set ((i_1).toNat) x_1)) = List.set (Ms row_1) ((i_1).toNat) (setElem (.str x_3) 0 [.str x_1])) (ac (idxL_lo h_5 : (0 : Int) ≤ j_1) (ac (by first | (simp; done) | simpa using idxL_hi h_5 : j_1 < (((row_1).length : Nat) : Int)) (ac (vc_get h_5 : (Ms ((row_1).set ((i_1).toNat) x_1))[(j_1).toNat]? = some (.str x_4)) (ac (vc_set _ _ _ : (Ms (((row_1).set ((i_1).toNat) x_1).set ((j_1).toNat) x_2)) = List.set (Ms ((row_1).set ((i_1).toNat) x_1)) ((j_1).toNat) (setElem (.str x_4) 0 [.str x_2])) an)))))))))))))) ?_
  refine rg [] [0, 2, 3] [0] 1 [.own 0 ((row_1).length), Ii (w_i64 (i_1 + (1 : Int))), Ii (w_i64 (j_1 - (1 : Int)))] [Rb 9 1 (Ms (((row_1).set ((i_1).toNat) x_1).set ((j_1).toNat) x_2))] hmix an ?_
  exact ⟨_, (sw [0] [] [.a 0 (.own 0 ((((row_1).set ((i_1).toNat) x_1).set ((j_1).toNat) x_2).length)), .s 2, .s 3] [.s 0] (ac (congrArg (AV.own _) (by first | (simp; done) | (simp; omega)) : (.own 0 ((row_1).length) : AV) = .own 0 ((((row_1).set ((i_1).toNat) x_1).set ((j_1).toNat) x_2).length)) an)), _, _, _, rfl, h⟩
 cases h
 exact ⟨.inl rfl, Nat.le_of_ble_eq_true rfl, by kernel_rfl⟩

theorem intern_Stack_ok (F : Nat) (names_1 : List (List Int)) (stacks_1 : List (Arr2_Int)) (i_1 : Int) (r : (List (List Int)) × Int) (h : intern_Stack F names_1 stacks_1 i_1 = some r) : TripleG prog 65 [] [] [.sl false 1 (Ms names_1), .sl false 2 (Mp e_Arr2_Int stacks_1), Ii i_1] [.row 9 1 (Ms r.1)] (.tuple [.own 0 ((r.1).length), Ii r.2]) := by
 refine triple_intro (fn := Go.Proofs.Try.f65) (code := codeOf Go.Proofs.Try.f65) (by kernel_rfl) (by kernel_rfl) (Nat.le_of_ble_eq_true (by kernel_rfl)) ?_
 unfold intern_Stack at h
 refine sr [(0, { id := 0, m := 1 })] [0, 1, 2] [] 1 [.sl false 1 (Ms names_1), .sl false 2 (Mp e_Arr2_Int stacks_1), Ii i_1] [] hmix an ?_
 refine sq ?_
 refine aw_block (id := 0) (by kernel_rfl) ?_
 refine sq ?_
 obtain ⟨r_1, h_1, h⟩ := bind_some h
 refine rg [(2, { av := Ii r_1, l := [.sl false 1 (Ms names_1), .sl false 2 (Mp e_Arr2_Int stacks_1)] })] [0, 1, 2, 9] [] 1 [.sl false 1 (Ms names_1), .sl false 2 (Mp e_Arr2_Int stacks_1), Ii i_1, .bool (r_1 != (0 : Int))] [] hmix (ar ([.sl false 1 (Ms names_1), .sl false 2 (Mp e_Arr2_Int stacks_1)] : List AV) (ac (rfl : ([] : List BoxSt) = []) (ac (intern_Check_ok F names_1 stacks_1 r_1 h_1 : TripleG prog 40 [] [] [.sl false 1 (Ms names_1), .sl false 2 (Mp e_Arr2_Int stacks_1)] [] (Ii r_1)) an))) ?_
 refine cd 9 (r_1 != (0 : Int)) ?_ ?_
 ·intro g_1; replace h := cond_t g_1 h
  refine sr [(0, { id := 1, m := 1 })] [6, 7] [1] 2 [.own 1 0, Ii 1] [Rb 9 1 []] hmix an ?_
  refine wk [1] [] [.a 6 (.own 0 ((([] : List (List Int))).length)), .s 7] [.s 0] [(6, .own 0 ((([] : List (List Int))).length)), (7, Ii 1)] [(0, Rb 9 1 [])] (ac (congrArg (AV.own _) (by first | (simp; done) | (simp; omega)) : (.own 1 0 : AV) = .own 1 ((([] : List (List Int))).length)) an) ?_
  refine rt ?_
  cases h
  exact ⟨.inr rfl, Nat.le_of_ble_eq_true rfl, by kernel_rfl⟩
 intro g_1; replace h := cond_f g_1 h
 refine sq ?_
 refine aw_mid (mk [(0, .sl false 1 (Ms names_1)), (1, .sl false 2 (Mp e_Arr2_Int stacks_1)), (2, Ii i_1), (14, .bool (decide (i_1 < (-1 : Int)) || decide (i_1 ≥ (lN (stacks_1)))))] [] 0) ?_ ?_
 ·rcases bft (decide (i_1 < (-1 : Int))) with gg_2 | gg_2
  ·refine rg [(3, Hg), (4, Hg), (5, Hg), (6, Hg), (7, Ht)] [0, 1, 2, 14] [] 1 [.sl false 1 (Ms names_1), .sl false 2 (Mp e_Arr2_Int stacks_1), Ii i_1, .bool true] [] hmix (ac gg_2 (ac gg_2 (ac gg_2 (ac gg_2 (ac gg_2 an))))) ?_
   exact ⟨rfl, (sw [] [] [.s 0, .s 1, .s 2, .a 14 (.bool (decide (i_1 < (-1 : Int)) || decide (i_1 ≥ (lN (stacks_1)))))] [] (ac (congrArg AV.bool (ort gg_2) : (.bool true : AV) = .bool (decide (i_1 < (-1 : Int)) || decide (i_1 ≥ (lN (stacks_1))))) an))⟩
  ·refine rg [(5, { n := (stacks_1).length }), (7, Hf)] [0, 1, 2, 14] [] 1 [.sl false 1 (Ms names_1), .sl false 2 (Mp e_Arr2_Int stacks_1), Ii i_1, .bool (decide (i_1 ≥ (lN (stacks_1))))] [] hmix (ac gg_2 (ac gg_2 (ac gg_2 (ac (vc_len _ : ((Mp e_Arr2_Int stacks_1)).length = (stacks_1).length) (ac gg_2 (ac gg_2 an)))))) ?_
   exact ⟨rfl, (sw [] [] [.s 0, .s 1, .s 2, .a 14 (.bool (decide (i_1 < (-1 : Int)) || decide (i_1 ≥ (lN (stacks_1)))))] [] (ac (congrArg AV.bool (orf gg_2 rfl) : (.bool (decide (i_1 ≥ (lN (stacks_1)))) : AV) = .bool (decide (i_1 < (-1 : Int)) || decide (i_1 ≥ (lN (stacks_1))))) an))⟩
 refine cd 14 (decide (i_1 < (-1 : Int)) || decide (i_1 ≥ (lN (stacks_1)))) ?_ ?_
 ·intro g_2; replace h := cond_t g_2 h
  refine sr [(0, { id := 0, m := 1 })] [6, 7] [0] 1 [.own 0 0, Ii 2] [Rb 9 1 []] hmix an ?_
  refine wk [0] [] [.a 6 (.own 0 ((([] : List (List Int))).length)), .s 7] [.s 0] [(6, .own 0 ((([] : List (List Int))).length)), (7, Ii 2)] [(0, Rb 9 1 [])] (ac (congrArg (AV.own _) (by first | (simp; done) | (simp; omega)) : (.own 0 0 : AV) = .own 0 ((([] : List (List Int))).length)) an) ?_
  refine rt ?_
  cases h
  exact ⟨.inr rfl, Nat.le_of_ble_eq_true rfl, by kernel_rfl⟩
 intro g_2; replace h := cond_f g_2 h
 refine sk ?_
 refine sr [(0, { id := 0, m := 1 })] [0, 1, 2, 8] [0] 1 [.sl false 1 (Ms names_1), .sl false 2 (Mp e_Arr2_Int stacks_1), Ii i_1, .own 0 0] [Rb 9 1 []] hmix an ?_
 refine sq ?_
 obtain ⟨o_1, h_2, h⟩ := bind_some h
 refine aw_mid (mk [(8, .own 0 ((o_1).length))] [(0, Rb 9 1 (Ms o_1))] 1) ?_ ?_
 ·replace h := h_2
  refine aw_block (id := 1) (by kernel_rfl) ?_
  refine wk [0] [] [.s 0, .s 1, .s 2, .s 8] [.s 0] [(0, .sl false 1 (Ms names_1)), (1, .sl false 2 (Mp e_Arr2_Int stacks_1)), (2, Ii i_1), (8, .own 0 0)] [(0, Rb 9 1 [])] an ?_
  refine aw_loopF (fun n st => ∃ (i_2 : Int), ∃ (row_1 : List (List Int)), st = mk [(0, .sl false 1 (Ms names_1)), (1, .sl false 2 (Mp e_Arr2_Int stacks_1)), (2, Ii i_2), (8, .own 0 ((row_1).length))] [(0, Rb 9 1 (Ms row_1))] 1 ∧ intern_Stack_L1 F names_1 stacks_1 n i_2 row_1 = some o_1) F (by kernel_rfl) ⟨_, _, rfl, h⟩ ?_ ?_
  ·rintro _ ⟨_, _, _, h⟩; exact none_ne (h : (none : Option (List (List Int))) = some o_1)
  rintro n_1 _ ⟨i_2, row_1, rfl, h⟩
  replace h : intern_Stack_L1_body F names_1 stacks_1 (intern_Stack_L1 F names_1 stacks_1 n_1) i_2 row_1 = some o_1 := h
  unfold intern_Stack_L1_body at h
  refine sq ?_
  refine sr [] [0, 1, 2, 8, 24] [0] 1 [.sl false 1 (Ms names_1), .sl false 2 (Mp e_Arr2_Int stacks_1), Ii i_2, .own 0 ((row_1).length), .bool (i_2 != (-1 : Int))] [Rb 9 1 (Ms row_1)] hmix an ?_
  refine cd 24 (i_2 != (-1 : Int)) ?_ ?_
  rotate_left
  ·intro g_3; replace h := cond_f g_3 h
   refine aw_exit (id := 1) (by kernel_rfl) ?_
   cases h
   exact ⟨rfl, (sw [0] [] [.s 8] [.s 0] an)⟩
  intro g_3; replace h := cond_t g_3 h
  refine sk ?_
  refine sq ?_
  refine aw_block (id := 2) (by kernel_rfl) ?_
  obtain ⟨x_1, h_3, h⟩ := bind_some h
  obtain ⟨x_2, h_4, h⟩ := bind_some h
  obtain ⟨_, h_5, h⟩ := bind_some h; replace h_5 := need_some h_5
  refine rg [(4, { av := .agg [Ii x_1.c0, Ii x_1.c1] }), (7, { av := .str x_2 }), (9, { id := 1 }), (10, { id := 2, l := (Ms (row_1 ++ ([x_2] : List (List Int)))), n := ((row_1 ++ ([x_2] : List (List Int)))).length })] [0, 1, 2, 8] [2] 3 [.sl false 1 (Ms names_1), .sl false 2 (Mp e_Arr2_Int stacks_1), Ii i_2, .own 2 (((row_1 ++ ([x_2] : List (List Int)))).length)] [Rb 9 1 (Ms (row_1 ++ ([x_2] : List (List Int))))] hmix (ac (vc_idx h_3 : idxA (Mp e_Arr2_Int stacks_1) i_2 = some (.agg [Ii x_1.c0, Ii x_1.c1])) (ac (by decide : (0 : Int) ≤ (1 : Int)) (ac (by decide : (1 : Int) < ((2 : Nat) : Int)) (ac (vc_idx h_4 : idxA (Ms names_1) x_1.c1 = some (.str x_2)) (ac (by first | (simp; done) | (simp; omega) : (row_1).length = ((List.map AV.str row_1)).length) (ac (by first | (simp; done) | (simp; omega) : 1 = ((List.map AV.str ([x_2] : List (List Int)))).length) (ac (vc_app _ _ : (Ms (row_1 ++ ([x_2] : List (List Int)))) = (Ms row_1) ++ (Ms ([x_2] : List (List Int)))) (ac (by simp : ((row_1 ++ ([x_2] : List (List Int)))).length = ((List.map AV.str (row_1 ++ ([x_2] : List (List Int))))).length) (ac (by first | (simp; done) | simpa using h_5 : (((List.map AV.str row_1) : List AV).length + ((List.map AV.str ([x_2] : List (List Int))) : List AV).length) * 16 ≤ 140737488355328) an))))))))) ?_
  obtain ⟨x_3, h_6, h⟩ := bind_some h
  refine rg [(2, { av := .agg [Ii x_3.c0, Ii x_3.c1] })] [0, 1, 2, 8] [2] 3 [.sl false 1 (Ms names_1), .sl false 2 (Mp e_Arr2_Int stacks_1), Ii x_3.c0, .own 2 (((row_1 ++ ([x_2] : List (List Int)))).length)] [Rb 9 1 (Ms (row_1 ++ ([x_2] : List (List Int))))] hmix (ac (vc_idx h_6 : idxA (Mp e_Arr2_Int stacks_1) i_2 = some (.agg [Ii x_3.c0, Ii x_3.c1])) (ac (by decide : (0 : Int) ≤ (0 : Int)) (ac (by decide : (0 : Int) < ((2 : Nat) : Int)) an))) ?_
  exact ⟨_, (sw [2] [] [.s 0, .s 1, .s 2, .s 8] [.s 0] an), _, _, rfl, h⟩
 refine sq ?_
 obtain ⟨r_2, h_7, h⟩ := bind_some h
 obtain ⟨_, h_8, h⟩ := bind_some h; replace h_8 := need_some h_8
 refine rg [(1, { av := .tuple [], ids := [0], l := [.own 0 ((o_1).length)], post := [(.row 9 1 (Ms r_2))], pre := [(.row 9 1 (Ms o_1))] })] [8] [0] 1 [.own 0 ((o_1).length)] [Rb 9 1 (Ms r_2)] hmix (ar ([.own 0 ((o_1).length)] : List AV) (ac (rfl : ([Rb 9 1 (Ms o_1)] : List BoxSt) = [Rb 9 1 (Ms o_1)]) (ac (slices_Reverse_string_string_ok F o_1 r_2 h_7 : TripleG prog 88 [(.row 9 1 (Ms o_1))] [] [.own 0 ((o_1).length)] [(.row 9 1 (Ms r_2))] (.tuple [])) an))) ?_
 refine sr [] [6, 7] [0] 1 [.own 0 ((o_1).length), Ii 0] [Rb 9 1 (Ms r_2)] hmix an ?_
 refine wk [0] [] [.a 6 (.own 0 ((r_2).length)), .s 7] [.s 0] [(6, .own 0 ((r_2).length)), (7, Ii 0)] [(0, Rb 9 1 (Ms r_2))] (ac (congrArg (AV.own _) h_8.symm : (.own 0 ((o_1).length) : AV) = .own 0 ((r_2).length)) an) ?_
 refine rt ?_
 cases h
 exact ⟨.inr rfl, Nat.le_of_ble_eq_true rfl, by kernel_rfl⟩

theorem record_Decode_ok (F : Nat) (names_1 : List (List Int)) (stacks_1 : List (Arr2_Int)) (b_1 : List (Int)) (r : T_api_Event × Int × Int) (h : record_Decode F names_1 stacks_1 b_1 = some r) : TripleG prog 41 [] [] [.sl false 1 (Ms names_1), .sl false 2 (Mp e_Arr2_Int stacks_1), .sl false 1 (Mb b_1)] [] (.tuple [e_T_api_Event r.1, Ii r.2.1, Ii r.2.2]) := by
 refine triple_intro (fn := Go.Proofs.Try.f41) (code := codeOf Go.Proofs.Try.f41) (by kernel_rfl) (by kernel_rfl) (Nat.le_of_ble_eq_true (by kernel_rfl)) ?_
 unfold record_Decode at h
 refine sr [(0, { id := 0 })] [0, 1, 2, 6] [0] 1 [.sl false 1 (Ms names_1), .sl false 2 (Mp e_Arr2_Int stacks_1), .sl false 1 (Mb b_1), Pp 0] [Vb 33 [Ii 0, Ii 0, .str ([] : List Int), Ii 0, Ii 0, .nilsl]] hmix an ?_
 refine sq ?_
 refine sq ?_
 obtain ⟨r_1, h_1, h⟩ := bind_some h
 refine rg [(2, { av := Ii r_1, l := [.sl false 1 (Ms names_1), .sl false 2 (Mp e_Arr2_Int stacks_1)] })] [0, 1, 2, 6, 21] [0] 1 [.sl false 1 (Ms names_1), .sl false 2 (Mp e_Arr2_Int stacks_1), .sl false 1 (Mb b_1), Pp 0, .bool (r_1 != (0 : Int))] [Vb 33 [Ii 0, Ii 0, .str ([] : List Int), Ii 0, Ii 0, .nilsl]] hmix (ar ([.sl false 1 (Ms names_1), .sl false 2 (Mp e_Arr2_Int stacks_1)] : List AV) (ac (rfl : ([] : List BoxSt) = []) (ac (intern_Check_ok F names_1 stacks_1 r_1 h_1 : TripleG prog 40 [] [] [.sl false 1 (Ms names_1), .sl false 2 (Mp e_Arr2_Int stacks_1)] [] (Ii r_1)) an))) ?_
 refine cd 21 (r_1 != (0 : Int)) ?_ ?_
 ·intro g_1; replace h := cond_t g_1 h
  refine sr [] [6, 7, 8] [0] 1 [Pp 0, Ii 0, Ii 1] [Vb 33 [Ii 0, Ii 0, .str ([] : List Int), Ii 0, Ii 0, .nilsl]] hmix an ?_
  refine wk [0] [] [.s 6, .s 7, .s 8] [.a 0 (Vb 33 (v_T_api_Event (⟨(0 : Int), (0 : Int), ([] : List Int), (0 : Int), (0 : Int), []⟩ : T_api_Event)))] [(6, Pp 0), (7, Ii 0), (8, Ii 1)] [(0, Vb 33 (v_T_api_Event (⟨(0 : Int), (0 : Int), ([] : List Int), (0 : Int), (0 : Int), []⟩ : T_api_Event)))] (ar 33 (ac (rfl : ones [Ii ((⟨(0 : Int), (0 : Int), ([] : List Int), (0 : Int), (0 : Int), []⟩ : T_api_Event).At), Ii ((⟨(0 : Int), (0 : Int), ([] : List Int), (0 : Int), (0 : Int), []⟩ : T_api_Event).Kind), .str ((⟨(0 : Int), (0 : Int), ([] : List Int), (0 : Int), (0 : Int), []⟩ : T_api_Event).Name), Ii ((⟨(0 : Int), (0 : Int), ([] : List Int), (0 : Int), (0 : Int), []⟩ : T_api_Event).N), Ii ((⟨(0 : Int), (0 : Int), ([] : List Int), (0 : Int), (0 : Int), []⟩ : T_api_Event).M), .sl false 1 (Ms ((⟨(0 : Int), (0 : Int), ([] : List Int), (0 : Int), (0 : Int), []⟩ : T_api_Event).Stack))] = true) (ac (rfl : (Ii 0 : AV) = Ii ((⟨(0 : Int), (0 : Int), ([] : List Int), (0 : Int), (0 : Int), []⟩ : T_api_Event).At)) (ac (rfl : (Ii 0 : AV) = Ii ((⟨(0 : Int), (0 : Int), ([] : List Int), (0 : Int), (0 : Int), []⟩ : T_api_Event).Kind)) (ac (rfl : (.str ([] : List Int) : AV) = .str ((⟨(0 : Int), (0 : Int), ([] : List Int), (0 : Int), (0 : Int), []⟩ : T_api_Event).Name)) (ac (rfl : (Ii 0 : AV) = Ii ((⟨(0 : Int), (0 : Int), ([] : List Int), (0 : Int), (0 : Int), []⟩ : T_api_Event).N)) (ac (rfl : (Ii 0 : AV) = Ii ((⟨(0 : Int), (0 : Int), ([] : List Int), (0 : Int), (0 : Int), []⟩ : T_api_Event).M)) (ac (rfl : ((Ms ((⟨(0 : Int), (0 : Int), ([] : List Int), (0 : Int), (0 : Int), []⟩ : T_api_Event).Stack)) : List AV) = []) an)))))))) ?_
  refine rt ?_
  cases h
  exact ⟨.inr rfl, Nat.le_of_ble_eq_true rfl, by kernel_rfl⟩
 intro g_1; replace h := cond_f g_1 h
 refine sk ?_
 refine sr [(2, { id := 1 })] [0, 1, 6, 9] [0, 1] 2 [.sl false 1 (Ms names_1), .sl false 2 (Mp e_Arr2_Int stacks_1), Pp 0, Pp 1] [Vb 33 [Ii 0, Ii 0, .str ([] : List Int), Ii 0, Ii 0, .nilsl], Vb 95 [.sl false 1 (Mb b_1), Ii 0, Ii 0]] hmix an ?_
 refine sq ?_
 obtain ⟨r_2, h_2, h⟩ := bind_some h
 refine rg [(1, { av := Ii r_2.1, ids := [1], l := [Pp 0], post := [(.var 95 (v_T_record_input r_2.2))], pre := [(.var 95 [.sl false 1 (Mb b_1), Ii 0, Ii 0])] })] [0, 1, 6, 9, 10] [0, 1] 2 [.sl false 1 (Ms names_1), .sl false 2 (Mp e_Arr2_Int stacks_1), Pp 0, Pp 1, Ii r_2.1] [Vb 33 [Ii 0, Ii 0, .str ([] : List Int), Ii 0, Ii 0, .nilsl], Vb 95 (v_T_record_input r_2.2)] hmix (ar ([Pp 1] : List AV) (ac (rfl : ([Vb 95 [.sl false 1 (Mb b_1), Ii 0, Ii 0]] : List BoxSt) = [Vb 95 [.sl false 1 (Mb b_1), Ii 0, Ii 0]]) (ac (record_input_num_ok F (⟨b_1, (0 : Int), (0 : Int)⟩ : T_record_input) r_2 h_2 : TripleG prog 64 [(.var 95 [.sl false 1 (Mb b_1), Ii 0, Ii 0])] [] [Pp 0] [(.var 95 (v_T_record_input r_2.2))] (Ii r_2.1)) an))) ?_
 refine sq ?_
 obtain ⟨r_3, h_3, h⟩ := bind_some h
 refine rg [(2, { av := Ii r_3.1, ids := [1], l := [Pp 0], post := [(.var 95 (v_T_record_input r_3.2))], pre := [(.var 95 (v_T_record_input r_2.2))] }), (4, { id := 2 })] [0, 1, 6, 9, 10, 11] [0, 1, 2] 3 [.sl false 1 (Ms names_1), .sl false 2 (Mp e_Arr2_Int stacks_1), Pp 0, Pp 1, Ii r_2.1, Pp 2] [Vb 33 [Ii 0, Ii 0, .str ([] : List Int), Ii 0, Ii 0, .nilsl], Vb 95 (v_T_record_input r_3.2), Vb 33 [Ii r_3.1, Ii r_2.1, .str ([] : List Int), Ii 0, Ii 0, .nilsl]] hmix (ar ([Pp 1] : List AV) (ac (rfl : ([Vb 95 (v_T_record_input r_2.2)] : List BoxSt) = [Vb 95 (v_T_record_input r_2.2)]) (ac (record_input_num_ok F r_2.2 r_3 h_3 : TripleG prog 64 [(.var 95 (v_T_record_input r_2.2))] [] [Pp 0] [(.var 95 (v_T_record_input r_3.2))] (Ii r_3.1)) an))) ?_
 refine sq ?_
 refine sq ?_
 refine aw_mid (mk [(0, .sl false 1 (Ms names_1)), (1, .sl false 2 (Mp e_Arr2_Int stacks_1)), (6, Pp 0), (9, Pp 1), (11, Pp 2), (44, .bool ((r_3.2.fault == (0 : Int)) && (decide (r_2.1 < (1 : Int)) || decide (r_2.1 > (12 : Int)))))] [(0, Vb 33 [Ii 0, Ii 0, .str ([] : List Int), Ii 0, Ii 0, .nilsl]), (1, Vb 95 (v_T_record_input r_3.2)), (2, Vb 33 [Ii r_3.1, Ii r_2.1, .str ([] : List Int), Ii 0, Ii 0, .nilsl])] 3) ?_ ?_
 ·rcases bft (r_3.2.fault == (0 : Int)) with gg_1 | gg_1
  ·rcases bft (decide (r_2.1 < (1 : Int))) with gg_2 | gg_2
   ·refine rg [(9, Hg), (10, Hg), (11, Ht), (12, Ht)] [0, 1, 6, 9, 11, 44] [0, 1, 2] 3 [.sl false 1 (Ms names_1), .sl false 2 (Mp e_Arr2_Int stacks_1), Pp 0, Pp 1, Pp 2, .bool true] [Vb 33 [Ii 0, Ii 0, .str ([] : List Int), Ii 0, Ii 0, .nilsl], Vb 95 (v_T_record_input r_3.2), Vb 33 [Ii r_3.1, Ii r_2.1, .str ([] : List Int), Ii 0, Ii 0, .nilsl]] hmix (ac gg_1 (ac gg_1 (ac gg_1 (ac gg_2 (ac gg_2 (ac gg_1 (ac gg_2 (ac gg_1 an)))))))) ?_
    exact ⟨rfl, (sw [0, 1, 2] [] [.s 0, .s 1, .s 6, .s 9, .s 11, .a 44 (.bool ((r_3.2.fault == (0 : Int)) && (decide (r_2.1 < (1 : Int)) || decide (r_2.1 > (12 : Int)))))] [.s 0, .s 1, .s 2] (ac (congrArg AV.bool (andt gg_1 (ort gg_2)) : (.bool true : AV) = .bool ((r_3.2.fault == (0 : Int)) && (decide (r_2.1 < (1 : Int)) || decide (r_2.1 > (12 : Int))))) an))⟩
   ·refine rg [(11, Hf), (12, Ht)] [0, 1, 6, 9, 11, 44] [0, 1, 2] 3 [.sl false 1 (Ms names_1), .sl false 2 (Mp e_Arr2_Int stacks_1), Pp 0, Pp 1, Pp 2, .bool (decide (r_2.1 > (12 : Int)))] [Vb 33 [Ii 0, Ii 0, .str ([] : List Int), Ii 0, Ii 0, .nilsl], Vb 95 (v_T_record_input r_3.2), Vb 33 [Ii r_3.1, Ii r_2.1, .str ([] : List Int), Ii 0, Ii 0, .nilsl]] hmix (ac gg_1 (ac gg_1 (ac gg_1 (ac gg_2 (ac gg_2 (ac gg_1 (ac gg_2 (ac gg_1 an)))))))) ?_
    exact ⟨rfl, (sw [0, 1, 2] [] [.s 0, .s 1, .s 6, .s 9, .s 11, .a 44 (.bool ((r_3.2.fault == (0 : Int)) && (decide (r_2.1 < (1 : Int)) || decide (r_2.1 > (12 : Int)))))] [.s 0, .s 1, .s 2] (ac (congrArg AV.bool (andt gg_1 (orf gg_2 rfl)) : (.bool (decide (r_2.1 > (12 : Int))) : AV) = .bool ((r_3.2.fault == (0 : Int)) && (decide (r_2.1 < (1 : Int)) || decide (r_2.1 > (12 : Int))))) an))⟩
  ·refine rg [(6, Hg), (7, Hg), (8, Hg), (11, Hg), (12, Hf)] [0, 1, 6, 9, 11, 44] [0, 1, 2] 3 [.sl false 1 (Ms names_1), .sl false 2 (Mp e_Arr2_Int stacks_1), Pp 0, Pp 1, Pp 2, .bool false] [Vb 33 [Ii 0, Ii 0, .str ([] : List Int), Ii 0, Ii 0, .nilsl], Vb 95 (v_T_record_input r_3.2), Vb 33 [Ii r_3.1, Ii r_2.1, .str ([] : List Int), Ii 0, Ii 0, .nilsl]] hmix (ac gg_1 (ac gg_1 (ac gg_1 (ac gg_1 (ac gg_1 an))))) ?_
   exact ⟨rfl, (sw [0, 1, 2] [] [.s 0, .s 1, .s 6, .s 9, .s 11, .a 44 (.bool ((r_3.2.fault == (0 : Int)) && (decide (r_2.1 < (1 : Int)) || decide (r_2.1 > (12 : Int)))))] [.s 0, .s 1, .s 2] (ac (congrArg AV.bool (andf gg_1) : (.bool false : AV) = .bool ((r_3.2.fault == (0 : Int)) && (decide (r_2.1 < (1 : Int)) || decide (r_2.1 > (12 : Int))))) an))⟩
 obtain ⟨o_1, h_4, h⟩ := bind_some h
 refine aw_mid (mk [(0, .sl false 1 (Ms names_1)), (1, .sl false 2 (Mp e_Arr2_Int stacks_1)), (6, Pp 0), (9, Pp 1), (11, Pp 2)] [(0, Vb 33 [Ii 0, Ii 0, .str ([] : List Int), Ii 0, Ii 0, .nilsl]), (1, Vb 95 [.sl false 1 (Mb r_3.2.b), Ii r_3.2.used, Ii o_1]), (2, Vb 33 [Ii r_3.1, Ii r_2.1, .str ([] : List Int), Ii 0, Ii 0, .nilsl])] 3) ?_ ?_
 ·replace h := h_4
  refine cd 44 ((r_3.2.fault == (0 : Int)) && (decide (r_2.1 < (1 : Int)) || decide (r_2.1 > (12 : Int)))) ?_ ?_
  ·intro g_2; replace h := cond_t g_2 h
   refine rg [] [0, 1, 6, 9, 11] [0, 1, 2] 3 [.sl false 1 (Ms names_1), .sl false 2 (Mp e_Arr2_Int stacks_1), Pp 0, Pp 1, Pp 2] [Vb 33 [Ii 0, Ii 0, .str ([] : List Int), Ii 0, Ii 0, .nilsl], Vb 95 [.sl false 1 (Mb r_3.2.b), Ii r_3.2.used, Ii 10], Vb 33 [Ii r_3.1, Ii r_2.1, .str ([] : List Int), Ii 0, Ii 0, .nilsl]] hmix an ?_
   cases h
   exact ⟨rfl, (sw [0, 1, 2] [] [.s 0, .s 1, .s 6, .s 9, .s 11] [.s 0, .s 1, .s 2] an)⟩
  intro g_2; replace h := cond_f g_2 h
  refine sk ?_
  cases h
  exact ⟨rfl, (sw [0, 1, 2] [] [.s 0, .s 1, .s 6, .s 9, .s 11] [.s 0, .s 1, .s 2] an)⟩
 refine sq ?_
 obtain ⟨r_4, h_5, h⟩ := bind_some h
 refine rg [(2, { av := .tuple [.bool r_4.1, .bool r_4.2.1, .bool r_4.2.2.1, .bool r_4.2.2.2], l := [Ii r_2.1] })] [0, 1, 6, 9, 11, 12, 13, 14, 15] [0, 1, 2] 3 [.sl false 1 (Ms names_1), .sl false 2 (Mp e_Arr2_Int stacks_1), Pp 0, Pp 1, Pp 2, .bool r_4.1, .bool r_4.2.1, .bool r_4.2.2.1, .bool r_4.2.2.2] [Vb 33 [Ii 0, Ii 0, .str ([] : List Int), Ii 0, Ii 0, .nilsl], Vb 95 [.sl false 1 (Mb r_3.2.b), Ii r_3.2.used, Ii o_1], Vb 33 [Ii r_3.1, Ii r_2.1, .str ([] : List Int), Ii 0, Ii 0, .nilsl]] hmix (ar ([Ii r_2.1] : List AV) (ac (rfl : ([] : List BoxSt) = []) (ac (record_uses_ok r_2.1 r_4 h_5 : TripleG prog 51 [] [] [Ii r_2.1] [] (.tuple [.bool r_4.1, .bool r_4.2.1, .bool r_4.2.2.1, .bool r_4.2.2.2])) an))) ?_
 refine sr [] [0, 1, 6, 9, 11, 12, 13, 14, 15, 16, 17] [0, 1, 2] 3 [.sl false 1 (Ms names_1), .sl false 2 (Mp e_Arr2_Int stacks_1), Pp 0, Pp 1, Pp 2, .bool r_4.1, .bool r_4.2.1, .bool r_4.2.2.1, .bool r_4.2.2.2, Ii 0, Ii (-1)] [Vb 33 [Ii 0, Ii 0, .str ([] : List Int), Ii 0, Ii 0, .nilsl], Vb 95 [.sl false 1 (Mb r_3.2.b), Ii r_3.2.used, Ii o_1], Vb 33 [Ii r_3.1, Ii r_2.1, .str ([] : List Int), Ii 0, Ii 0, .nilsl]] hmix an ?_
 refine sq ?_
 refine sr [] [0, 1, 6, 9, 11, 12, 13, 14, 15, 16, 17, 56] [0, 1, 2] 3 [.sl false 1 (Ms names_1), .sl false 2 (Mp e_Arr2_Int stacks_1), Pp 0, Pp 1, Pp 2, .bool r_4.1, .bool r_4.2.1, .bool r_4.2.2.1, .bool r_4.2.2.2, Ii 0, Ii (-1), .bool r_4.1] [Vb 33 [Ii 0, Ii 0, .str ([] : List Int), Ii 0, Ii 0, .nilsl], Vb 95 [.sl false 1 (Mb r_3.2.b), Ii r_3.2.used, Ii o_1], Vb 33 [Ii r_3.1, Ii r_2.1, .str ([] : List Int), Ii 0, Ii 0, .nilsl]] hmix an ?_
 obtain ⟨o_2, h_6, h⟩ := bind_some h
 refine aw_mid (mk [(0, .sl false 1 (Ms names_1)), (1, .sl false 2 (Mp e_Arr2_Int stacks_1)), (6, Pp 0), (9, Pp 1), (11, Pp 2), (12, .bool r_4.1), (13, .bool r_4.2.1), (14, .bool r_4.2.2.1), (15, .bool r_4.2.2.2), (16, Ii o_2.1), (17, Ii (-1))] [(0, Vb 33 [Ii 0, Ii 0, .str ([] : List Int), Ii 0, Ii 0, .nilsl]), (1, Vb 95 [.sl false 1 (Mb o_2.2.1), Ii o_2.2.2.1, Ii o_2.2.2.2]), (2, Vb 33 [Ii r_3.1, Ii r_2.1, .str ([] : List Int), Ii 0, Ii 0, .nilsl])] 3) ?_ ?_
 ·replace h := h_6
  refine cd 56 r_4.1 ?_ ?_
  rotate_left
  ·intro g_3; replace h := cond_f g_3 h
   refine sk ?_
   cases h
   exact ⟨rfl, (sw [0, 1, 2] [] [.s 0, .s 1, .s 6, .s 9, .s 11, .s 12, .s 13, .s 14, .s 15, .s 16, .s 17] [.s 0, .s 1, .s 2] an)⟩
  intro g_3; replace h := cond_t g_3 h
  obtain ⟨r_5, h_7, h⟩ := bind_some h
  refine rg [(1, { av := Ii r_5.1, ids := [1], l := [Pp 0], post := [(.var 95 (v_T_record_input r_5.2))], pre := [(.var 95 [.sl false 1 (Mb r_3.2.b), Ii r_3.2.used, Ii o_1])] })] [0, 1, 6, 9, 11, 12, 13, 14, 15, 16, 17] [0, 1, 2] 3 [.sl false 1 (Ms names_1), .sl false 2 (Mp e_Arr2_Int stacks_1), Pp 0, Pp 1, Pp 2, .bool r_4.1, .bool r_4.2.1, .bool r_4.2.2.1, .bool r_4.2.2.2, Ii r_5.1, Ii (-1)] [Vb 33 [Ii 0, Ii 0, .str ([] : List Int), Ii 0, Ii 0, .nilsl], Vb 95 (v_T_record_input r_5.2), Vb 33 [Ii r_3.1, Ii r_2.1, .str ([] : List Int), Ii 0, Ii 0, .nilsl]] hmix (ar ([Pp 1] : List AV) (ac (rfl : ([Vb 95 [.sl false 1 (Mb r_3.2.b), Ii r_3.2.used, Ii o_1]] : List BoxSt) = [Vb 95 [.sl false 1 (Mb r_3.2.b), Ii r_3.2.used, Ii o_1]]) (ac (record_input_num_ok F (⟨r_3.2.b, r_3.2.used, o_1⟩ : T_record_input) r_5 h_7 : TripleG prog 64 [(.var 95 [.sl false 1 (Mb r_3.2.b), Ii r_3.2.used, Ii o_1])] [] [Pp 0] [(.var 95 (v_T_record_input r_5.2))] (Ii r_5.1)) an))) ?_
  cases h
  exact ⟨rfl, (sw [0, 1, 2] [] [.s 0, .s 1, .s 6, .s 9, .s 11, .s 12, .s 13, .s 14, .s 15, .s 16, .s 17] [.s 0, .s 1, .s 2] an)⟩
 refine sq ?_
 refine sr [] [0, 1, 6, 9, 11, 12, 14, 15, 16, 17, 59] [0, 1, 2] 3 [.sl false 1 (Ms names_1), .sl false 2 (Mp e_Arr2_Int stacks_1), Pp 0, Pp 1, Pp 2, .bool r_4.1, .bool r_4.2.2.1, .bool r_4.2.2.2, Ii o_2.1, Ii (-1), .bool r_4.2.1] [Vb 33 [Ii 0, Ii 0, .str ([] : List Int), Ii 0, Ii 0, .nilsl], Vb 95 [.sl false 1 (Mb o_2.2.1), Ii o_2.2.2.1, Ii o_2.2.2.2], Vb 33 [Ii r_3.1, Ii r_2.1, .str ([] : List Int), Ii 0, Ii 0, .nilsl]] hmix an ?_
 obtain ⟨o_3, h_8, h⟩ := bind_some h
 refine aw_mid (mk [(0, .sl false 1 (Ms names_1)), (1, .sl false 2 (Mp e_Arr2_Int stacks_1)), (6, Pp 0), (9, Pp 1), (11, Pp 2), (12, .bool r_4.1), (14, .bool r_4.2.2.1), (15, .bool r_4.2.2.2), (16, Ii o_2.1), (17, Ii (-1))] [(0, Vb 33 [Ii 0, Ii 0, .str ([] : List Int), Ii 0, Ii 0, .nilsl]), (1, Vb 95 [.sl false 1 (Mb o_3.1), Ii o_3.2.1, Ii o_3.2.2.1]), (2, Vb 33 [Ii r_3.1, Ii r_2.1, .str ([] : List Int), Ii o_3.2.2.2, Ii 0, .nilsl])] 3) ?_ ?_
 ·replace h := h_8
  refine cd 59 r_4.2.1 ?_ ?_
  rotate_left
  ·intro g_4; replace h := cond_f g_4 h
   refine sk ?_
   cases h
   exact ⟨rfl, (sw [0, 1, 2] [] [.s 0, .s 1, .s 6, .s 9, .s 11, .s 12, .s 14, .s 15, .s 16, .s 17] [.s 0, .s 1, .s 2] an)⟩
  intro g_4; replace h := cond_t g_4 h
  obtain ⟨r_6, h_9, h⟩ := bind_some h
  refine rg [(1, { av := Ii r_6.1, ids := [1], l := [Pp 0], post := [(.var 95 (v_T_record_input r_6.2))], pre := [(.var 95 [.sl false 1 (Mb o_2.2.1), Ii o_2.2.2.1, Ii o_2.2.2.2])] })] [0, 1, 6, 9, 11, 12, 14, 15, 16, 17] [0, 1, 2] 3 [.sl false 1 (Ms names_1), .sl false 2 (Mp e_Arr2_Int stacks_1), Pp 0, Pp 1, Pp 2, .bool r_4.1, .bool r_4.2.2.1, .bool r_4.2.2.2, Ii o_2.1, Ii (-1)] [Vb 33 [Ii 0, Ii 0, .str ([] : List Int), Ii 0, Ii 0, .nilsl], Vb 95 (v_T_record_input r_6.2), Vb 33 [Ii r_3.1, Ii r_2.1, .str ([] : List Int), Ii r_6.1, Ii 0, .nilsl]] hmix (ar ([Pp 1] : List AV) (ac (rfl : ([Vb 95 [.sl false 1 (Mb o_2.2.1), Ii o_2.2.2.1, Ii o_2.2.2.2]] : List BoxSt) = [Vb 95 [.sl false 1 (Mb o_2.2.1), Ii o_2.2.2.1, Ii o_2.2.2.2]]) (ac (record_input_num_ok F (⟨o_2.2.1, o_2.2.2.1, o_2.2.2.2⟩ : T_record_input) r_6 h_9 : TripleG prog 64 [(.var 95 [.sl false 1 (Mb o_2.2.1), Ii o_2.2.2.1, Ii o_2.2.2.2])] [] [Pp 0] [(.var 95 (v_T_record_input r_6.2))] (Ii r_6.1)) an))) ?_
  cases h
  exact ⟨rfl, (sw [0, 1, 2] [] [.s 0, .s 1, .s 6, .s 9, .s 11, .s 12, .s 14, .s 15, .s 16, .s 17] [.s 0, .s 1, .s 2] an)⟩
 refine sq ?_
 refine sr [] [0, 1, 6, 9, 11, 12, 15, 16, 17, 63] [0, 1, 2] 3 [.sl false 1 (Ms names_1), .sl false 2 (Mp e_Arr2_Int stacks_1), Pp 0, Pp 1, Pp 2, .bool r_4.1, .bool r_4.2.2.2, Ii o_2.1, Ii (-1), .bool r_4.2.2.1] [Vb 33 [Ii 0, Ii 0, .str ([] : List Int), Ii 0, Ii 0, .nilsl], Vb 95 [.sl false 1 (Mb o_3.1), Ii o_3.2.1, Ii o_3.2.2.1], Vb 33 [Ii r_3.1, Ii r_2.1, .str ([] : List Int), Ii o_3.2.2.2, Ii 0, .nilsl]] hmix an ?_
 obtain ⟨o_4, h_10, h⟩ := bind_some h
 refine aw_mid (mk [(0, .sl false 1 (Ms names_1)), (1, .sl false 2 (Mp e_Arr2_Int stacks_1)), (6, Pp 0), (9, Pp 1), (11, Pp 2), (12, .bool r_4.1), (15, .bool r_4.2.2.2), (16, Ii o_2.1), (17, Ii (-1))] [(0, Vb 33 [Ii 0, Ii 0, .str ([] : List Int), Ii 0, Ii 0, .nilsl]), (1, Vb 95 [.sl false 1 (Mb o_4.1), Ii o_4.2.1, Ii o_4.2.2.1]), (2, Vb 33 [Ii r_3.1, Ii r_2.1, .str ([] : List Int), Ii o_3.2.2.2, Ii o_4.2.2.2, .nilsl])] 3) ?_ ?_
 ·replace h := h_10
  refine cd 63 r_4.2.2.1 ?_ ?_
  rotate_left
  ·intro g_5; replace h := cond_f g_5 h
   refine sk ?_
   cases h
   exact ⟨rfl, (sw [0, 1, 2] [] [.s 0, .s 1, .s 6, .s 9, .s 11, .s 12, .s 15, .s 16, .s 17] [.s 0, .s 1, .s 2] an)⟩
  intro g_5; replace h := cond_t g_5 h
  obtain ⟨r_7, h_11, h⟩ := bind_some h
  refine rg [(1, { av := Ii r_7.1, ids := [1], l := [Pp 0], post := [(.var 95 (v_T_record_input r_7.2))], pre := [(.var 95 [.sl false 1 (Mb o_3.1), Ii o_3.2.1, Ii o_3.2.2.1])] })] [0, 1, 6, 9, 11, 12, 15, 16, 17] [0, 1, 2] 3 [.sl false 1 (Ms names_1), .sl false 2 (Mp e_Arr2_Int stacks_1), Pp 0, Pp 1, Pp 2, .bool r_4.1, .bool r_4.2.2.2, Ii o_2.1, Ii (-1)] [Vb 33 [Ii 0, Ii 0, .str ([] : List Int), Ii 0, Ii 0, .nilsl], Vb 95 (v_T_record_input r_7.2), Vb 33 [Ii r_3.1, Ii r_2.1, .str ([] : List Int), Ii o_3.2.2.2, Ii r_7.1, .nilsl]] hmix (ar ([Pp 1] : List AV) (ac (rfl : ([Vb 95 [.sl false 1 (Mb o_3.1), Ii o_3.2.1, Ii o_3.2.2.1]] : List BoxSt) = [Vb 95 [.sl false 1 (Mb o_3.1), Ii o_3.2.1, Ii o_3.2.2.1]]) (ac (record_input_num_ok F (⟨o_3.1, o_3.2.1, o_3.2.2.1⟩ : T_record_input) r_7 h_11 : TripleG prog 64 [(.var 95 [.sl false 1 (Mb o_3.1), Ii o_3.2.1, Ii o_3.2.2.1])] [] [Pp 0] [(.var 95 (v_T_record_input r_7.2))] (Ii r_7.1)) an))) ?_
  cases h
  exact ⟨rfl, (sw [0, 1, 2] [] [.s 0, .s 1, .s 6, .s 9, .s 11, .s 12, .s 15, .s 16, .s 17] [.s 0, .s 1, .s 2] an)⟩
 refine sq ?_
 refine sr [] [0, 1, 6, 9, 11, 12, 16, 17, 67] [0, 1, 2] 3 [.sl false 1 (Ms names_1), .sl false 2 (Mp e_Arr2_Int stacks_1), Pp 0, Pp 1, Pp 2, .bool r_4.1, Ii o_2.1, Ii (-1), .bool r_4.2.2.2] [Vb 33 [Ii 0, Ii 0, .str ([] : List Int), Ii 0, Ii 0, .nilsl], Vb 95 [.sl false 1 (Mb o_4.1), Ii o_4.2.1, Ii o_4.2.2.1], Vb 33 [Ii r_3.1, Ii r_2.1, .str ([] : List Int), Ii o_3.2.2.2, Ii o_4.2.2.2, .nilsl]] hmix an ?_
 obtain ⟨o_5, h_12, h⟩ := bind_some h
 refine aw_mid (mk [(0, .sl false 1 (Ms names_1)), (1, .sl false 2 (Mp e_Arr2_Int stacks_1)), (6, Pp 0), (9, Pp 1), (11, Pp 2), (12, .bool r_4.1), (16, Ii o_2.1), (17, Ii o_5.1)] [(0, Vb 33 [Ii 0, Ii 0, .str ([] : List Int), Ii 0, Ii 0, .nilsl]), (1, Vb 95 [.sl false 1 (Mb o_5.2.1), Ii o_5.2.2.1, Ii o_5.2.2.2]), (2, Vb 33 [Ii r_3.1, Ii r_2.1, .str ([] : List Int), Ii o_3.2.2.2, Ii o_4.2.2.2, .nilsl])] 3) ?_ ?_
 ·replace h := h_12
  refine cd 67 r_4.2.2.2 ?_ ?_
  rotate_left
  ·intro g_6; replace h := cond_f g_6 h
   refine sk ?_
   cases h
   exact ⟨rfl, (sw [0, 1, 2] [] [.s 0, .s 1, .s 6, .s 9, .s 11, .s 12, .s 16, .s 17] [.s 0, .s 1, .s 2] an)⟩
  intro g_6; replace h := cond_t g_6 h
  obtain ⟨r_8, h_13, h⟩ := bind_some h
  refine rg [(1, { av := Ii r_8.1, ids := [1], l := [Pp 0], post := [(.var 95 (v_T_record_input r_8.2))], pre := [(.var 95 [.sl false 1 (Mb o_4.1), Ii o_4.2.1, Ii o_4.2.2.1])] })] [0, 1, 6, 9, 11, 12, 16, 17] [0, 1, 2] 3 [.sl false 1 (Ms names_1), .sl false 2 (Mp e_Arr2_Int stacks_1), Pp 0, Pp 1, Pp 2, .bool r_4.1, Ii o_2.1, Ii r_8.1] [Vb 33 [Ii 0, Ii 0, .str ([] : List Int), Ii 0, Ii 0, .nilsl], Vb 95 (v_T_record_input r_8.2), Vb 33 [Ii r_3.1, Ii r_2.1, .str ([] : List Int), Ii o_3.2.2.2, Ii o_4.2.2.2, .nilsl]] hmix (ar ([Pp 1] : List AV) (ac (rfl : ([Vb 95 [.sl false 1 (Mb o_4.1), Ii o_4.2.1, Ii o_4.2.2.1]] : List BoxSt) = [Vb 95 [.sl false 1 (Mb o_4.1), Ii o_4.2.1, Ii o_4.2.2.1]]) (ac (record_input_num_ok F (⟨o_4.1, o_4.2.1, o_4.2.2.1⟩ : T_record_input) r_8 h_13 : TripleG prog 64 [(.var 95 [.sl false 1 (Mb o_4.1), Ii o_4.2.1, Ii o_4.2.2.1])] [] [Pp 0] [(.var 95 (v_T_record_input r_8.2))] (Ii r_8.1)) an))) ?_
  cases h
  exact ⟨rfl, (sw [0, 1, 2] [] [.s 0, .s 1, .s 6, .s 9, .s 11, .s 12, .s 16, .s 17] [.s 0, .s 1, .s 2] an)⟩
 refine sq ?_
 obtain ⟨o_6, h_14, h⟩ := bind_some h
 refine aw_conv (K1 := (fun e st' => match o_6 with | (.inl q0) => e = .normal ∧ Sub 0 st' (mk [(0, .sl false 1 (Ms names_1)), (1, .sl false 2 (Mp e_Arr2_Int stacks_1)), (6, Pp 0), (9, Pp 1), (11, Pp 2), (12, .bool r_4.1), (16, Ii o_2.1), (17, Ii o_5.1)] [(0, Vb 33 [Ii 0, Ii 0, .str ([] : List Int), Ii 0, Ii 0, .nilsl]), (1, Vb 95 [.sl false 1 (Mb o_5.2.1), Ii o_5.2.2.1, Ii o_5.2.2.2]), (2, Vb 33 [Ii r_3.1, Ii r_2.1, .str ([] : List Int), Ii o_3.2.2.2, Ii o_4.2.2.2, .nilsl])] 3) | (.inr q1) => e = .ret ∧ FinR prog Go.Proofs.Try.f41 0 [] (.tuple [e_T_api_Event q1.1, Ii q1.2.1, Ii q1.2.2]) st')) ?_ ?_
 ·replace h := h_14
  refine aw_block (id := 0) (by kernel_rfl) ?_
  refine sr [] [0, 1, 6, 9, 11, 12, 16, 17, 70] [0, 1, 2] 3 [.sl false 1 (Ms names_1), .sl false 2 (Mp e_Arr2_Int stacks_1), Pp 0, Pp 1, Pp 2, .bool r_4.1, Ii o_2.1, Ii o_5.1, .bool (o_5.2.2.2 != (0 : Int))] [Vb 33 [Ii 0, Ii 0, .str ([] : List Int), Ii 0, Ii 0, .nilsl], Vb 95 [.sl false 1 (Mb o_5.2.1), Ii o_5.2.2.1, Ii o_5.2.2.2], Vb 33 [Ii r_3.1, Ii r_2.1, .str ([] : List Int), Ii o_3.2.2.2, Ii o_4.2.2.2, .nilsl]] hmix an ?_
  refine cd 70 (o_5.2.2.2 != (0 : Int)) ?_ ?_
  ·intro g_7; replace h := cond_t g_7 h
   refine sr [] [6, 7, 8] [0] 3 [Pp 0, Ii 0, Ii o_5.2.2.2] [Vb 33 [Ii 0, Ii 0, .str ([] : List Int), Ii 0, Ii 0, .nilsl]] hmix an ?_
   refine wk [0] [] [.s 6, .s 7, .s 8] [.a 0 (Vb 33 (v_T_api_Event (⟨(0 : Int), (0 : Int), ([] : List Int), (0 : Int), (0 : Int), []⟩ : T_api_Event)))] [(6, Pp 0), (7, Ii 0), (8, Ii o_5.2.2.2)] [(0, Vb 33 (v_T_api_Event (⟨(0 : Int), (0 : Int), ([] : List Int), (0 : Int), (0 : Int), []⟩ : T_api_Event)))] (ar 33 (ac (rfl : ones [Ii ((⟨(0 : Int), (0 : Int), ([] : List Int), (0 : Int), (0 : Int), []⟩ : T_api_Event).At), Ii ((⟨(0 : Int), (0 : Int), ([] : List Int), (0 : Int), (0 : Int), []⟩ : T_api_Event).Kind), .str ((⟨(0 : Int), (0 : Int), ([] : List Int), (0 : Int), (0 : Int), []⟩ : T_api_Event).Name), Ii ((⟨(0 : Int), (0 : Int), ([] : List Int), (0 : Int), (0 : Int), []⟩ : T_api_Event).N), Ii ((⟨(0 : Int), (0 : Int), ([] : List Int), (0 : Int), (0 : Int), []⟩ : T_api_Event).M), .sl false 1 (Ms ((⟨(0 : Int), (0 : Int), ([] : List Int), (0 : Int), (0 : Int), []⟩ : T_api_Event).Stack))] = true) (ac (rfl : (Ii 0 : AV) = Ii ((⟨(0 : Int), (0 : Int), ([] : List Int), (0 : Int), (0 : Int), []⟩ : T_api_Event).At)) (ac (rfl : (Ii 0 : AV) = Ii ((⟨(0 : Int), (0 : Int), ([] : List Int), (0 : Int), (0 : Int), []⟩ : T_api_Event).Kind)) (ac (rfl : (.str ([] : List Int) : AV) = .str ((⟨(0 : Int), (0 : Int), ([] : List Int), (0 : Int), (0 : Int), []⟩ : T_api_Event).Name)) (ac (rfl : (Ii 0 : AV) = Ii ((⟨(0 : Int), (0 : Int), ([] : List Int), (0 : Int), (0 : Int), []⟩ : T_api_Event).N)) (ac (rfl : (Ii 0 : AV) = Ii ((⟨(0 : Int), (0 : Int), ([] : List Int), (0 : Int), (0 : Int), []⟩ : T_api_Event).M)) (ac (rfl : ((Ms ((⟨(0 : Int), (0 : Int), ([] : List Int), (0 : Int), (0 : Int), []⟩ : T_api_Event).Stack)) : List AV) = []) an)))))))) ?_
   refine rt ?_
   cases h
   exact ⟨rfl, Nat.le_of_ble_eq_true rfl, by kernel_rfl⟩
  intro g_7; replace h := cond_f g_7 h
  refine sq ?_
  refine sq ?_
  refine aw_mid (mk [(0, .sl false 1 (Ms names_1)), (1, .sl false 2 (Mp e_Arr2_Int stacks_1)), (6, Pp 0), (9, Pp 1), (11, Pp 2), (12, .bool r_4.1), (16, Ii o_2.1), (17, Ii o_5.1), (81, .bool (r_4.1 && (decide (o_2.1 < (0 : Int)) || decide (o_2.1 ≥ (lN (names_1))))))] [(0, Vb 33 [Ii 0, Ii 0, .str ([] : List Int), Ii 0, Ii 0, .nilsl]), (1, Vb 95 [.sl false 1 (Mb o_5.2.1), Ii o_5.2.2.1, Ii o_5.2.2.2]), (2, Vb 33 [Ii r_3.1, Ii r_2.1, .str ([] : List Int), Ii o_3.2.2.2, Ii o_4.2.2.2, .nilsl])] 3) ?_ ?_
  ·rcases Bool.eq_false_or_eq_true r_4.1 with gg_6 | gg_6
   ·rcases bft (decide (o_2.1 < (0 : Int))) with gg_7 | gg_7
    ·refine rg [(5, Hg), (6, Hg), (7, Hg), (8, Hg), (9, Ht), (10, Ht)] [0, 1, 6, 9, 11, 12, 16, 17, 81] [0, 1, 2] 3 [.sl false 1 (Ms names_1), .sl false 2 (Mp e_Arr2_Int stacks_1), Pp 0, Pp 1, Pp 2, .bool r_4.1, Ii o_2.1, Ii o_5.1, .bool true] [Vb 33 [Ii 0, Ii 0, .str ([] : List Int), Ii 0, Ii 0, .nilsl], Vb 95 [.sl false 1 (Mb o_5.2.1), Ii o_5.2.2.1, Ii o_5.2.2.2], Vb 33 [Ii r_3.1, Ii r_2.1, .str ([] : List Int), Ii o_3.2.2.2, Ii o_4.2.2.2, .nilsl]] hmix (ac gg_6 (ac gg_6 (ac gg_6 (ac gg_7 (ac gg_7 (ac gg_7 (ac gg_7 (ac gg_6 (ac gg_7 (ac gg_6 an)))))))))) ?_
     exact ⟨rfl, (sw [0, 1, 2] [] [.s 0, .s 1, .s 6, .s 9, .s 11, .s 12, .s 16, .s 17, .a 81 (.bool (r_4.1 && (decide (o_2.1 < (0 : Int)) || decide (o_2.1 ≥ (lN (names_1))))))] [.s 0, .s 1, .s 2] (ac (congrArg AV.bool (andt gg_6 (ort gg_7)) : (.bool true : AV) = .bool (r_4.1 && (decide (o_2.1 < (0 : Int)) || decide (o_2.1 ≥ (lN (names_1)))))) an))⟩
    ·refine rg [(7, { n := (names_1).length }), (9, Hf), (10, Ht)] [0, 1, 6, 9, 11, 12, 16, 17, 81] [0, 1, 2] 3 [.sl false 1 (Ms names_1), .sl false 2 (Mp e_Arr2_Int stacks_1), Pp 0, Pp 1, Pp 2, .bool r_4.1, Ii o_2.1, Ii o_5.1, .bool (decide (o_2.1 ≥ (lN (names_1))))] [Vb 33 [Ii 0, Ii 0, .str ([] : List Int), Ii 0, Ii 0, .nilsl], Vb 95 [.sl false 1 (Mb o_5.2.1), Ii o_5.2.2.1, Ii o_5.2.2.2], Vb 33 [Ii r_3.1, Ii r_2.1, .str ([] : List Int), Ii o_3.2.2.2, Ii o_4.2.2.2, .nilsl]] hmix (ac gg_6 (ac gg_6 (ac gg_6 (ac gg_7 (ac gg_7 (ac gg_7 (ac (vc_len _ : ((Ms names_1)).length = (names_1).length) (ac gg_7 (ac gg_6 (ac gg_7 (ac gg_6 an))))))))))) ?_
     exact ⟨rfl, (sw [0, 1, 2] [] [.s 0, .s 1, .s 6, .s 9, .s 11, .s 12, .s 16, .s 17, .a 81 (.bool (r_4.1 && (decide (o_2.1 < (0 : Int)) || decide (o_2.1 ≥ (lN (names_1))))))] [.s 0, .s 1, .s 2] (ac (congrArg AV.bool (andt gg_6 (orf gg_7 rfl)) : (.bool (decide (o_2.1 ≥ (lN (names_1)))) : AV) = .bool (r_4.1 && (decide (o_2.1 < (0 : Int)) || decide (o_2.1 ≥ (lN (names_1)))))) an))⟩
   ·refine rg [(2, Hg), (3, Hg), (4, Hg), (9, Hg), (10, Hf)] [0, 1, 6, 9, 11, 12, 16, 17, 81] [0, 1, 2] 3 [.sl false 1 (Ms names_1), .sl false 2 (Mp e_Arr2_Int stacks_1), Pp 0, Pp 1, Pp 2, .bool r_4.1, Ii o_2.1, Ii o_5.1, .bool false] [Vb 33 [Ii 0, Ii 0, .str ([] : List Int), Ii 0, Ii 0, .nilsl], Vb 95 [.sl false 1 (Mb o_5.2.1), Ii o_5.2.2.1, Ii o_5.2.2.2], Vb 33 [Ii r_3.1, Ii r_2.1, .str ([] : List Int), Ii o_3.2.2.2, Ii o_4.2.2.2, .nilsl]] hmix (ac gg_6 (ac gg_6 (ac gg_6 (ac gg_6 (ac gg_6 an))))) ?_
    exact ⟨rfl, (sw [0, 1, 2] [] [.s 0, .s 1, .s 6, .s 9, .s 11, .s 12, .s 16, .s 17, .a 81 (.bool (r_4.1 && (decide (o_2.1 < (0 : Int)) || decide (o_2.1 ≥ (lN (names_1))))))] [.s 0, .s 1, .s 2] (ac (congrArg AV.bool (andf gg_6) : (.bool false : AV) = .bool (r_4.1 && (decide (o_2.1 < (0 : Int)) || decide (o_2.1 ≥ (lN (names_1)))))) an))⟩
  refine cd 81 (r_4.1 && (decide (o_2.1 < (0 : Int)) || decide (o_2.1 ≥ (lN (names_1))))) ?_ ?_
  ·intro g_8; replace h := cond_t g_8 h
   refine sk ?_
   refine cd 81 (r_4.1 && (decide (o_2.1 < (0 : Int)) || decide (o_2.1 ≥ (lN (names_1))))) ?_ ?_
   rotate_left
   ·intro hg; exact Bool.noConfusion ((g_8).symm.trans hg)
   intro _
   refine sr [] [6, 7, 8] [0] 3 [Pp 0, Ii 0, Ii 2] [Vb 33 [Ii 0, Ii 0, .str ([] : List Int), Ii 0, Ii 0, .nilsl]] hmix an ?_
   refine wk [0] [] [.s 6, .s 7, .s 8] [.a 0 (Vb 33 (v_T_api_Event (⟨(0 : Int), (0 : Int), ([] : List Int), (0 : Int), (0 : Int), []⟩ : T_api_Event)))] [(6, Pp 0), (7, Ii 0), (8, Ii 2)] [(0, Vb 33 (v_T_api_Event (⟨(0 : Int), (0 : Int), ([] : List Int), (0 : Int), (0 : Int), []⟩ : T_api_Event)))] (ar 33 (ac (rfl : ones [Ii ((⟨(0 : Int), (0 : Int), ([] : List Int), (0 : Int), (0 : Int), []⟩ : T_api_Event).At), Ii ((⟨(0 : Int), (0 : Int), ([] : List Int), (0 : Int), (0 : Int), []⟩ : T_api_Event).Kind), .str ((⟨(0 : Int), (0 : Int), ([] : List Int), (0 : Int), (0 : Int), []⟩ : T_api_Event).Name), Ii ((⟨(0 : Int), (0 : Int), ([] : List Int), (0 : Int), (0 : Int), []⟩ : T_api_Event).N), Ii ((⟨(0 : Int), (0 : Int), ([] : List Int), (0 : Int), (0 : Int), []⟩ : T_api_Event).M), .sl false 1 (Ms ((⟨(0 : Int), (0 : Int), ([] : List Int), (0 : Int), (0 : Int), []⟩ : T_api_Event).Stack))] = true) (ac (rfl : (Ii 0 : AV) = Ii ((⟨(0 : Int), (0 : Int), ([] : List Int), (0 : Int), (0 : Int), []⟩ : T_api_Event).At)) (ac (rfl : (Ii 0 : AV) = Ii ((⟨(0 : Int), (0 : Int), ([] : List Int), (0 : Int), (0 : Int), []⟩ : T_api_Event).Kind)) (ac (rfl : (.str ([] : List Int) : AV) = .str ((⟨(0 : Int), (0 : Int), ([] : List Int), (0 : Int), (0 : Int), []⟩ : T_api_Event).Name)) (ac (rfl : (Ii 0 : AV) = Ii ((⟨(0 : Int), (0 : Int), ([] : List Int), (0 : Int), (0 : Int), []⟩ : T_api_Event).N)) (ac (rfl : (Ii 0 : AV) = Ii ((⟨(0 : Int), (0 : Int), ([] : List Int), (0 : Int), (0 : Int), []⟩ : T_api_Event).M)) (ac (rfl : ((Ms ((⟨(0 : Int), (0 : Int), ([] : List Int), (0 : Int), (0 : Int), []⟩ : T_api_Event).Stack)) : List AV) = []) an)))))))) ?_
   refine rt ?_
   cases h
   exact ⟨rfl, Nat.le_of_ble_eq_true rfl, by kernel_rfl⟩
  intro g_8; replace h := cond_f g_8 h
  refine aw_mid (mk [(0, .sl false 1 (Ms names_1)), (1, .sl false 2 (Mp e_Arr2_Int stacks_1)), (6, Pp 0), (9, Pp 1), (11, Pp 2), (12, .bool r_4.1), (16, Ii o_2.1), (17, Ii o_5.1), (81, .bool (decide (o_5.1 < (-1 : Int)) || decide (o_5.1 ≥ (lN (stacks_1)))))] [(0, Vb 33 [Ii 0, Ii 0, .str ([] : List Int), Ii 0, Ii 0, .nilsl]), (1, Vb 95 [.sl false 1 (Mb o_5.2.1), Ii o_5.2.2.1, Ii o_5.2.2.2]), (2, Vb 33 [Ii r_3.1, Ii r_2.1, .str ([] : List Int), Ii o_3.2.2.2, Ii o_4.2.2.2, .nilsl])] 3) ?_ ?_
  ·rcases bft (decide (o_5.1 < (-1 : Int))) with gg_8 | gg_8
   ·refine rg [(3, Hg), (4, Hg), (5, Hg), (6, Hg), (7, Ht)] [0, 1, 6, 9, 11, 12, 16, 17, 81] [0, 1, 2] 3 [.sl false 1 (Ms names_1), .sl false 2 (Mp e_Arr2_Int stacks_1), Pp 0, Pp 1, Pp 2, .bool r_4.1, Ii o_2.1, Ii o_5.1, .bool true] [Vb 33 [Ii 0, Ii 0, .str ([] : List Int), Ii 0, Ii 0, .nilsl], Vb 95 [.sl false 1 (Mb o_5.2.1), Ii o_5.2.2.1, Ii o_5.2.2.2], Vb 33 [Ii r_3.1, Ii r_2.1, .str ([] : List Int), Ii o_3.2.2.2, Ii o_4.2.2.2, .nilsl]] hmix (ac gg_8 (ac gg_8 (ac gg_8 (ac gg_8 (ac gg_8 an))))) ?_
    exact ⟨rfl, (sw [0, 1, 2] [] [.s 0, .s 1, .s 6, .s 9, .s 11, .s 12, .s 16, .s 17, .a 81 (.bool (decide (o_5.1 < (-1 : Int)) || decide (o_5.1 ≥ (lN (stacks_1)))))] [.s 0, .s 1, .s 2] (ac (congrArg AV.bool (ort gg_8) : (.bool true : AV) = .bool (decide (o_5.1 < (-1 : Int)) || decide (o_5.1 ≥ (lN (stacks_1))))) an))⟩
   ·refine rg [(5, { n := (stacks_1).length }), (7, Hf)] [0, 1, 6, 9, 11, 12, 16, 17, 81] [0, 1, 2] 3 [.sl false 1 (Ms names_1), .sl false 2 (Mp e_Arr2_Int stacks_1), Pp 0, Pp 1, Pp 2, .bool r_4.1, Ii o_2.1, Ii o_5.1, .bool (decide (o_5.1 ≥ (lN (stacks_1))))] [Vb 33 [Ii 0, Ii 0, .str ([] : List Int), Ii 0, Ii 0, .nilsl], Vb 95 [.sl false 1 (Mb o_5.2.1), Ii o_5.2.2.1, Ii o_5.2.2.2], Vb 33 [Ii r_3.1, Ii r_2.1, .str ([] : List Int), Ii o_3.2.2.2, Ii o_4.2.2.2, .nilsl]] hmix (ac gg_8 (ac gg_8 (ac gg_8 (ac (vc_len _ : ((Mp e_Arr2_Int stacks_1)).length = (stacks_1).length) (ac gg_8 (ac gg_8 an)))))) ?_
    exact ⟨rfl, (sw [0, 1, 2] [] [.s 0, .s 1, .s 6, .s 9, .s 11, .s 12, .s 16, .s 17, .a 81 (.bool (decide (o_5.1 < (-1 : Int)) || decide (o_5.1 ≥ (lN (stacks_1)))))] [.s 0, .s 1, .s 2] (ac (congrArg AV.bool (orf gg_8 rfl) : (.bool (decide (o_5.1 ≥ (lN (stacks_1)))) : AV) = .bool (decide (o_5.1 < (-1 : Int)) || decide (o_5.1 ≥ (lN (stacks_1))))) an))⟩
  refine cd 81 (decide (o_5.1 < (-1 : Int)) || decide (o_5.1 ≥ (lN (stacks_1)))) ?_ ?_
  rotate_left
  ·intro g_9; replace h := cond_f g_9 h
   refine sk ?_
   cases h
   exact ⟨rfl, (sw [0, 1, 2] [] [.s 0, .s 1, .s 6, .s 9, .s 11, .s 12, .s 16, .s 17] [.s 0, .s 1, .s 2] an)⟩
  intro g_9; replace h := cond_t g_9 h
  refine sr [] [6, 7, 8] [0] 3 [Pp 0, Ii 0, Ii 2] [Vb 33 [Ii 0, Ii 0, .str ([] : List Int), Ii 0, Ii 0, .nilsl]] hmix an ?_
  refine wk [0] [] [.s 6, .s 7, .s 8] [.a 0 (Vb 33 (v_T_api_Event (⟨(0 : Int), (0 : Int), ([] : List Int), (0 : Int), (0 : Int), []⟩ : T_api_Event)))] [(6, Pp 0), (7, Ii 0), (8, Ii 2)] [(0, Vb 33 (v_T_api_Event (⟨(0 : Int), (0 : Int), ([] : List Int), (0 : Int), (0 : Int), []⟩ : T_api_Event)))] (ar 33 (ac (rfl : ones [Ii ((⟨(0 : Int), (0 : Int), ([] : List Int), (0 : Int), (0 : Int), []⟩ : T_api_Event).At), Ii ((⟨(0 : Int), (0 : Int), ([] : List Int), (0 : Int), (0 : Int), []⟩ : T_api_Event).Kind), .str ((⟨(0 : Int), (0 : Int), ([] : List Int), (0 : Int), (0 : Int), []⟩ : T_api_Event).Name), Ii ((⟨(0 : Int), (0 : Int), ([] : List Int), (0 : Int), (0 : Int), []⟩ : T_api_Event).N), Ii ((⟨(0 : Int), (0 : Int), ([] : List Int), (0 : Int), (0 : Int), []⟩ : T_api_Event).M), .sl false 1 (Ms ((⟨(0 : Int), (0 : Int), ([] : List Int), (0 : Int), (0 : Int), []⟩ : T_api_Event).Stack))] = true) (ac (rfl : (Ii 0 : AV) = Ii ((⟨(0 : Int), (0 : Int), ([] : List Int), (0 : Int), (0 : Int), []⟩ : T_api_Event).At)) (ac (rfl : (Ii 0 : AV) = Ii ((⟨(0 : Int), (0 : Int), ([] : List Int), (0 : Int), (0 : Int), []⟩ : T_api_Event).Kind)) (ac (rfl : (.str ([] : List Int) : AV) = .str ((⟨(0 : Int), (0 : Int), ([] : List Int), (0 : Int), (0 : Int), []⟩ : T_api_Event).Name)) (ac (rfl : (Ii 0 : AV) = Ii ((⟨(0 : Int), (0 : Int), ([] : List Int), (0 : Int), (0 : Int), []⟩ : T_api_Event).N)) (ac (rfl : (Ii 0 : AV) = Ii ((⟨(0 : Int), (0 : Int), ([] : List Int), (0 : Int), (0 : Int), []⟩ : T_api_Event).M)) (ac (rfl : ((Ms ((⟨(0 : Int), (0 : Int), ([] : List Int), (0 : Int), (0 : Int), []⟩ : T_api_Event).Stack)) : List AV) = []) an)))))))) ?_
  refine rt ?_
  cases h
  exact ⟨rfl, Nat.le_of_ble_eq_true rfl, by kernel_rfl⟩
 intro e st1 hk
 rcases o_6 with q_1 | q_2
 rotate_left
 ·obtain ⟨rfl, hf⟩ := hk
  cases h
  exact ⟨st1, Sub.refl _ _, .inr rfl, hf⟩
 obtain ⟨rfl, hs⟩ := hk
 refine ⟨_, hs, ?_⟩
 refine sq ?_
 refine sr [] [0, 1, 6, 9, 11, 16, 17, 102] [0, 1, 2] 3 [.sl false 1 (Ms names_1), .sl false 2 (Mp e_Arr2_Int stacks_1), Pp 0, Pp 1, Pp 2, Ii o_2.1, Ii o_5.1, .bool r_4.1] [Vb 33 [Ii 0, Ii 0, .str ([] : List Int), Ii 0, Ii 0, .nilsl], Vb 95 [.sl false 1 (Mb o_5.2.1), Ii o_5.2.2.1, Ii o_5.2.2.2], Vb 33 [Ii r_3.1, Ii r_2.1, .str ([] : List Int), Ii o_3.2.2.2, Ii o_4.2.2.2, .nilsl]] hmix an ?_
 obtain ⟨o_7, h_15, h⟩ := bind_some h
 refine aw_mid (mk [(0, .sl false 1 (Ms names_1)), (1, .sl false 2 (Mp e_Arr2_Int stacks_1)), (6, Pp 0), (9, Pp 1), (11, Pp 2), (17, Ii o_5.1)] [(0, Vb 33 [Ii 0, Ii 0, .str ([] : List Int), Ii 0, Ii 0, .nilsl]), (1, Vb 95 [.sl false 1 (Mb o_5.2.1), Ii o_5.2.2.1, Ii o_5.2.2.2]), (2, Vb 33 [Ii r_3.1, Ii r_2.1, .str o_7, Ii o_3.2.2.2, Ii o_4.2.2.2, .nilsl])] 3) ?_ ?_
 ·replace h := h_15
  refine cd 102 r_4.1 ?_ ?_
  rotate_left
  ·intro g_10; replace h := cond_f g_10 h
   refine sk ?_
   cases h
   exact ⟨rfl, (sw [0, 1, 2] [] [.s 0, .s 1, .s 6, .s 9, .s 11, .s 17] [.s 0, .s 1, .s 2] an)⟩
  intro g_10; replace h := cond_t g_10 h
  obtain ⟨x_1, h_16, h⟩ := bind_some h
  refine rg [(2, { av := .str x_1 })] [0, 1, 6, 9, 11, 17] [0, 1, 2] 3 [.sl false 1 (Ms names_1), .sl false 2 (Mp e_Arr2_Int stacks_1), Pp 0, Pp 1, Pp 2, Ii o_5.1] [Vb 33 [Ii 0, Ii 0, .str ([] : List Int), Ii 0, Ii 0, .nilsl], Vb 95 [.sl false 1 (Mb o_5.2.1), Ii o_5.2.2.1, Ii o_5.2.2.2], Vb 33 [Ii r_3.1, Ii r_2.1, .str x_1, Ii o_3.2.2.2, Ii o_4.2.2.2, .nilsl]] hmix (ac (vc_idx h_16 : idxA (Ms names_1) o_2.1 = some (.str x_1)) an) ?_
  cases h
  exact ⟨rfl, (sw [0, 1, 2] [] [.s 0, .s 1, .s 6, .s 9, .s 11, .s 17] [.s 0, .s 1, .s 2] an)⟩
 refine sq ?_
 obtain ⟨r_9, h_17, h⟩ := bind_some h
 refine rg [(3, { av := .tuple [.own 0 ((r_9.1).length), Ii r_9.2], ids := [3], l := [.sl false 1 (Ms names_1), .sl false 2 (Mp e_Arr2_Int stacks_1), Ii o_5.1], post := [(.row 9 1 (Ms r_9.1))] })] [6, 9, 11] [0, 1, 2, 3] 4 [Pp 0, Pp 1, Pp 2] [Vb 33 [Ii 0, Ii 0, .str ([] : List Int), Ii 0, Ii 0, .nilsl], Vb 95 [.sl false 1 (Mb o_5.2.1), Ii o_5.2.2.1, Ii o_5.2.2.2], Vb 33 [Ii r_3.1, Ii r_2.1, .str o_7, Ii o_3.2.2.2, Ii o_4.2.2.2, .own 3 ((r_9.1).length)], Rb 9 1 (Ms r_9.1)] hmix (ar ([.sl false 1 (Ms names_1), .sl false 2 (Mp e_Arr2_Int stacks_1), Ii o_5.1] : List AV) (ac (rfl : ([] : List BoxSt) = []) (ac (intern_Stack_ok F names_1 stacks_1 o_5.1 r_9 h_17 : TripleG prog 65 [] [] [.sl false 1 (Ms names_1), .sl false 2 (Mp e_Arr2_Int stacks_1), Ii o_5.1] [(.row 9 1 (Ms r_9.1))] (.tuple [.own 0 ((r_9.1).length), Ii r_9.2])) an))) ?_
 refine sq ?_
 refine sq ?_
 obtain ⟨r_10, h_18, h⟩ := bind_some h
 refine rg [(1, { av := Ii r_10, l := [.agg [Ii r_3.1, Ii r_2.1, .str o_7, Ii o_3.2.2.2, Ii o_4.2.2.2, .sl false 1 (Ms r_9.1)]], lend := [3] })] [6, 9, 11, 118] [0, 1, 2, 3] 4 [Pp 0, Pp 1, Pp 2, .bool (r_10 != (0 : Int))] [Vb 33 [Ii 0, Ii 0, .str ([] : List Int), Ii 0, Ii 0, .nilsl], Vb 95 [.sl false 1 (Mb o_5.2.1), Ii o_5.2.2.1, Ii o_5.2.2.2], Vb 33 [Ii r_3.1, Ii r_2.1, .str o_7, Ii o_3.2.2.2, Ii o_4.2.2.2, .own 3 ((r_9.1).length)], Rb 9 1 (Ms r_9.1)] hmix (ac (by first | (simp; done) | (simp; omega) : (r_9.1).length = ((List.map AV.str r_9.1)).length) (ar ([.agg [Ii r_3.1, Ii r_2.1, .str o_7, Ii o_3.2.2.2, Ii o_4.2.2.2, .sl false 1 (Ms r_9.1)]] : List AV) (ac (rfl : ([] : List BoxSt) = []) (ac (triple_lo (args' := [e_T_api_Event (⟨r_3.1, r_2.1, o_7, o_3.2.2.2, o_4.2.2.2, r_9.1⟩ : T_api_Event)]) (event_Check_ok F (⟨r_3.1, r_2.1, o_7, o_3.2.2.2, o_4.2.2.2, r_9.1⟩ : T_api_Event) r_10 h_18) rfl ⟨rfl, rfl, rfl, rfl, rfl, rfl, rfl, rfl, trivial⟩ : TripleG prog 48 [] [] [.agg [Ii r_3.1, Ii r_2.1, .str o_7, Ii o_3.2.2.2, Ii o_4.2.2.2, .sl false 1 (Ms r_9.1)]] [] (Ii r_10)) an)))) ?_
 refine cd 118 (r_10 != (0 : Int)) ?_ ?_
 ·intro g_11; replace h := cond_t g_11 h
  refine sr [] [6, 7, 8] [0] 4 [Pp 0, Ii 0, Ii 10] [Vb 33 [Ii 0, Ii 0, .str ([] : List Int), Ii 0, Ii 0, .nilsl]] hmix an ?_
  refine wk [0] [] [.s 6, .s 7, .s 8] [.a 0 (Vb 33 (v_T_api_Event (⟨(0 : Int), (0 : Int), ([] : List Int), (0 : Int), (0 : Int), []⟩ : T_api_Event)))] [(6, Pp 0), (7, Ii 0), (8, Ii 10)] [(0, Vb 33 (v_T_api_Event (⟨(0 : Int), (0 : Int), ([] : List Int), (0 : Int), (0 : Int), []⟩ : T_api_Event)))] (ar 33 (ac (rfl : ones [Ii ((⟨(0 : Int), (0 : Int), ([] : List Int), (0 : Int), (0 : Int), []⟩ : T_api_Event).At), Ii ((⟨(0 : Int), (0 : Int), ([] : List Int), (0 : Int), (0 : Int), []⟩ : T_api_Event).Kind), .str ((⟨(0 : Int), (0 : Int), ([] : List Int), (0 : Int), (0 : Int), []⟩ : T_api_Event).Name), Ii ((⟨(0 : Int), (0 : Int), ([] : List Int), (0 : Int), (0 : Int), []⟩ : T_api_Event).N), Ii ((⟨(0 : Int), (0 : Int), ([] : List Int), (0 : Int), (0 : Int), []⟩ : T_api_Event).M), .sl false 1 (Ms ((⟨(0 : Int), (0 : Int), ([] : List Int), (0 : Int), (0 : Int), []⟩ : T_api_Event).Stack))] = true) (ac (rfl : (Ii 0 : AV) = Ii ((⟨(0 : Int), (0 : Int), ([] : List Int), (0 : Int), (0 : Int), []⟩ : T_api_Event).At)) (ac (rfl : (Ii 0 : AV) = Ii ((⟨(0 : Int), (0 : Int), ([] : List Int), (0 : Int), (0 : Int), []⟩ : T_api_Event).Kind)) (ac (rfl : (.str ([] : List Int) : AV) = .str ((⟨(0 : Int), (0 : Int), ([] : List Int), (0 : Int), (0 : Int), []⟩ : T_api_Event).Name)) (ac (rfl : (Ii 0 : AV) = Ii ((⟨(0 : Int), (0 : Int), ([] : List Int), (0 : Int), (0 : Int), []⟩ : T_api_Event).N)) (ac (rfl : (Ii 0 : AV) = Ii ((⟨(0 : Int), (0 : Int), ([] : List Int), (0 : Int), (0 : Int), []⟩ : T_api_Event).M)) (ac (rfl : ((Ms ((⟨(0 : Int), (0 : Int), ([] : List Int), (0 : Int), (0 : Int), []⟩ : T_api_Event).Stack)) : List AV) = []) an)))))))) ?_
  refine rt ?_
  cases h
  exact ⟨.inr rfl, Nat.le_of_ble_eq_true rfl, by kernel_rfl⟩
 intro g_11; replace h := cond_f g_11 h
 refine sk ?_
 refine sr [] [6, 7, 8] [0, 3] 4 [Pp 0, Ii o_5.2.2.1, Ii 0] [Vb 33 [Ii r_3.1, Ii r_2.1, .str o_7, Ii o_3.2.2.2, Ii o_4.2.2.2, .own 3 ((r_9.1).length)], Rb 9 1 (Ms r_9.1)] hmix an ?_
 refine wk [0] [3] [.s 6, .s 7, .s 8] [.a 0 (Vb 33 (v_T_api_Event (⟨r_3.1, r_2.1, o_7, o_3.2.2.2, o_4.2.2.2, r_9.1⟩ : T_api_Event)))] [(6, Pp 0), (7, Ii o_5.2.2.1), (8, Ii 0)] [(0, Vb 33 (v_T_api_Event (⟨r_3.1, r_2.1, o_7, o_3.2.2.2, o_4.2.2.2, r_9.1⟩ : T_api_Event)))] (ar 33 (ac (rfl : ones [Ii ((⟨r_3.1, r_2.1, o_7, o_3.2.2.2, o_4.2.2.2, r_9.1⟩ : T_api_Event).At), Ii ((⟨r_3.1, r_2.1, o_7, o_3.2.2.2, o_4.2.2.2, r_9.1⟩ : T_api_Event).Kind), .str ((⟨r_3.1, r_2.1, o_7, o_3.2.2.2, o_4.2.2.2, r_9.1⟩ : T_api_Event).Name), Ii ((⟨r_3.1, r_2.1, o_7, o_3.2.2.2, o_4.2.2.2, r_9.1⟩ : T_api_Event).N), Ii ((⟨r_3.1, r_2.1, o_7, o_3.2.2.2, o_4.2.2.2, r_9.1⟩ : T_api_Event).M), .sl false 1 (Ms ((⟨r_3.1, r_2.1, o_7, o_3.2.2.2, o_4.2.2.2, r_9.1⟩ : T_api_Event).Stack))] = true) (ac (by first | (simp; done) | (simp; omega) : (r_9.1).length = ((List.map AV.str r_9.1)).length) (ac (rfl : (Ii r_3.1 : AV) = Ii ((⟨r_3.1, r_2.1, o_7, o_3.2.2.2, o_4.2.2.2, r_9.1⟩ : T_api_Event).At)) (ac (rfl : (Ii r_2.1 : AV) = Ii ((⟨r_3.1, r_2.1, o_7, o_3.2.2.2, o_4.2.2.2, r_9.1⟩ : T_api_Event).Kind)) (ac (rfl : (.str o_7 : AV) = .str ((⟨r_3.1, r_2.1, o_7, o_3.2.2.2, o_4.2.2.2, r_9.1⟩ : T_api_Event).Name)) (ac (rfl : (Ii o_3.2.2.2 : AV) = Ii ((⟨r_3.1, r_2.1, o_7, o_3.2.2.2, o_4.2.2.2, r_9.1⟩ : T_api_Event).N)) (ac (rfl : (Ii o_4.2.2.2 : AV) = Ii ((⟨r_3.1, r_2.1, o_7, o_3.2.2.2, o_4.2.2.2, r_9.1⟩ : T_api_Event).M)) (ar 1 (ac (rfl : ((Ms r_9.1) : List AV) = (Ms ((⟨r_3.1, r_2.1, o_7, o_3.2.2.2, o_4.2.2.2, r_9.1⟩ : T_api_Event).Stack))) (ac (rfl : (!false || false) = true) an))))))))))) ?_
 refine rt ?_
 cases h
 exact ⟨.inr rfl, Nat.le_of_ble_eq_true rfl, by kernel_rfl⟩

theorem bytes_Equal_ok (a_1 : List (Int)) (b_1 : List (Int)) (r : Bool) (h : bytes_Equal a_1 b_1 = some r) : TripleG prog 42 [] [] [.sl false 1 (Mb a_1), .sl false 1 (Mb b_1)] [] (.bool r) := by
 refine triple_intro (fn := Go.Proofs.Try.f42) (code := codeOf Go.Proofs.Try.f42) (by kernel_rfl) (by kernel_rfl) (Nat.le_of_ble_eq_true (by kernel_rfl)) ?_
 unfold bytes_Equal at h
 refine sr [] [0, 1] [] 0 [.sl false 1 (Mb a_1), .sl false 1 (Mb b_1)] [] hmix an ?_
 refine sr [(1, { s := a_1 }), (3, { s := b_1 })] [4] [] 0 [.bool (a_1 == b_1)] [] hmix (ac (rfl : (Mb a_1) = List.map (AV.int .u8) a_1) (ac (rfl : (Mb b_1) = List.map (AV.int .u8) b_1) an)) ?_
 refine rt ?_
 cases h
 exact ⟨.inr rfl, Nat.le_of_ble_eq_true rfl, by kernel_rfl⟩

theorem packet_Decode_ok (F : Nat) (b_1 : List (Int)) (r : T_api_Packet × Int × Int) (h : packet_Decode F b_1 = some r) : TripleG prog 19 [] [] [.sl false 1 (Mb b_1)] [] (.tuple [e_T_api_Packet r.1, Ii r.2.1, Ii r.2.2]) := by
 refine triple_intro (fn := Go.Proofs.Try.f19) (code := codeOf Go.Proofs.Try.f19) (by kernel_rfl) (by kernel_rfl) (Nat.le_of_ble_eq_true (by kernel_rfl)) ?_
 unfold packet_Decode at h
 refine sr [(0, { id := 0 })] [0, 2] [0] 1 [.sl false 1 (Mb b_1), Pp 0] [Vb 24 [Ii 0, Ii 0, Ii 0, .nilsl]] hmix an ?_
 refine aw_sub (sub_adoptB 0 3 1 33 6 (by kernel_rfl)) ?_
 refine wk [0, 1] [] [.s 0, .s 2] [.s 0, .s 1] [(0, .sl false 1 (Mb b_1)), (2, Pp 0)] [(0, Vb 24 [Ii 0, Ii 0, Ii 0, .own 1 0]), (1, Rb 33 6 [])] an ?_
 refine sr [(2, { id := 2 })] [0, 2, 5] [0, 1, 2] 3 [.sl false 1 (Mb b_1), Pp 0, Pp 2] [Vb 24 [Ii 0, Ii 0, Ii 0, .own 1 0], Rb 33 6 [], Vb 61 [.sl false 1 (Mb b_1), Ii 0, Ii 0]] hmix an ?_
 refine sq ?_
 obtain ⟨r_1, h_1, h⟩ := bind_some h
 refine rg [(1, { av := Ii r_1.1, ids := [2], l := [Pp 0], post := [(.var 61 (v_T_packet_input r_1.2))], pre := [(.var 61 [.sl false 1 (Mb b_1), Ii 0, Ii 0])] }), (3, { id := 3 })] [0, 2, 5, 6] [0, 1, 2, 3] 4 [.sl false 1 (Mb b_1), Pp 0, Pp 2, Pp 3] [Vb 24 [Ii 0, Ii 0, Ii 0, .own 1 0], Rb 33 6 [], Vb 61 (v_T_packet_input r_1.2), Vb 24 [Ii r_1.1, Ii 0, Ii 0, .nilsl]] hmix (ar ([Pp 2] : List AV) (ac (rfl : ([Vb 61 [.sl false 1 (Mb b_1), Ii 0, Ii 0]] : List BoxSt) = [Vb 61 [.sl false 1 (Mb b_1), Ii 0, Ii 0]]) (ac (packet_input_num_ok F (⟨b_1, (0 : Int), (0 : Int)⟩ : T_packet_input) r_1 h_1 : TripleG prog 37 [(.var 61 [.sl false 1 (Mb b_1), Ii 0, Ii 0])] [] [Pp 0] [(.var 61 (v_T_packet_input r_1.2))] (Ii r_1.1)) an))) ?_
 refine aw_sub (sub_adoptB 3 3 4 33 6 (by kernel_rfl)) ?_
 refine wk [0, 1, 2, 3, 4] [] [.s 0, .s 2, .s 5, .s 6] [.s 0, .s 1, .s 2, .s 3, .s 4] [(0, .sl false 1 (Mb b_1)), (2, Pp 0), (5, Pp 2), (6, Pp 3)] [(0, Vb 24 [Ii 0, Ii 0, Ii 0, .own 1 0]), (1, Rb 33 6 []), (2, Vb 61 (v_T_packet_input r_1.2)), (3, Vb 24 [Ii r_1.1, Ii 0, Ii 0, .own 4 0]), (4, Rb 33 6 [])] an ?_
 refine sq ?_
 obtain ⟨r_2, h_2, h⟩ := bind_some h
 refine rg [(1, { av := Ii r_2.1, ids := [2], l := [Pp 0], post := [(.var 61 (v_T_packet_input r_2.2))], pre := [(.var 61 (v_T_packet_input r_1.2))] })] [0, 2, 5, 6] [0, 1, 2, 3, 4] 5 [.sl false 1 (Mb b_1), Pp 0, Pp 2, Pp 3] [Vb 24 [Ii 0, Ii 0, Ii 0, .own 1 0], Rb 33 6 [], Vb 61 (v_T_packet_input r_2.2), Vb 24 [Ii r_1.1, Ii r_2.1, Ii 0, .own 4 0], Rb 33 6 []] hmix (ar ([Pp 2] : List AV) (ac (rfl : ([Vb 61 (v_T_packet_input r_1.2)] : List BoxSt) = [Vb 61 (v_T_packet_input r_1.2)]) (ac (packet_input_num_ok F r_1.2 r_2 h_2 : TripleG prog 37 [(.var 61 (v_T_packet_input r_1.2))] [] [Pp 0] [(.var 61 (v_T_packet_input r_2.2))] (Ii r_2.1)) an))) ?_
 refine sq ?_
 obtain ⟨r_3, h_3, h⟩ := bind_some h
 refine rg [(1, { av := Ii r_3.1, ids := [2], l := [Pp 0], post := [(.var 61 (v_T_packet_input r_3.2))], pre := [(.var 61 (v_T_packet_input r_2.2))] })] [0, 2, 5, 6] [0, 1, 2, 3, 4] 5 [.sl false 1 (Mb b_1), Pp 0, Pp 2, Pp 3] [Vb 24 [Ii 0, Ii 0, Ii 0, .own 1 0], Rb 33 6 [], Vb 61 (v_T_packet_input r_3.2), Vb 24 [Ii r_1.1, Ii r_2.1, Ii r_3.1, .own 4 0], Rb 33 6 []] hmix (ar ([Pp 2] : List AV) (ac (rfl : ([Vb 61 (v_T_packet_input r_2.2)] : List BoxSt) = [Vb 61 (v_T_packet_input r_2.2)]) (ac (packet_input_num_ok F r_2.2 r_3 h_3 : TripleG prog 37 [(.var 61 (v_T_packet_input r_2.2))] [] [Pp 0] [(.var 61 (v_T_packet_input r_3.2))] (Ii r_3.1)) an))) ?_
 refine sr [(0, { id := 5, m := 1 })] [0, 2, 5, 6, 7] [0, 1, 2, 3, 4, 5] 6 [.sl false 1 (Mb b_1), Pp 0, Pp 2, Pp 3, .own 5 0] [Vb 24 [Ii 0, Ii 0, Ii 0, .own 1 0], Rb 33 6 [], Vb 61 (v_T_packet_input r_3.2), Vb 24 [Ii r_1.1, Ii r_2.1, Ii r_3.1, .own 4 0], Rb 33 6 [], Rb 9 1 []] hmix an ?_
 refine sq ?_
 refine sq ?_
 obtain ⟨r_4, h_4, h⟩ := bind_some h
 refine rg [(1, { av := Ii r_4.1, ids := [2], l := [Pp 0, Ii 1000], post := [(.var 61 (v_T_packet_input r_4.2))], pre := [(.var 61 (v_T_packet_input r_3.2))] })] [0, 2, 5, 6, 7, 8] [0, 1, 2, 3, 4, 5] 6 [.sl false 1 (Mb b_1), Pp 0, Pp 2, Pp 3, .own 5 0, Ii r_4.1] [Vb 24 [Ii 0, Ii 0, Ii 0, .own 1 0], Rb 33 6 [], Vb 61 (v_T_packet_input r_4.2), Vb 24 [Ii r_1.1, Ii r_2.1, Ii r_3.1, .own 4 0], Rb 33 6 [], Rb 9 1 []] hmix (ar ([Pp 2, Ii 1000] : List AV) (ac (rfl : ([Vb 61 (v_T_packet_input r_3.2)] : List BoxSt) = [Vb 61 (v_T_packet_input r_3.2)]) (ac (packet_input_count_ok F r_3.2 (1000 : Int) r_4 h_4 : TripleG prog 38 [(.var 61 (v_T_packet_input r_3.2))] [] [Pp 0, Ii 1000] [(.var 61 (v_T_packet_input r_4.2))] (Ii r_4.1)) an))) ?_
 obtain ⟨o_1, h_5, h⟩ := bind_some h
 refine aw_mid (mk [(0, .sl false 1 (Mb b_1)), (2, Pp 0), (5, Pp 2), (6, Pp 3), (7, .own 5 ((o_1.2.2.2).length))] [(0, Vb 24 [Ii 0, Ii 0, Ii 0, .own 1 0]), (1, Rb 33 6 []), (2, Vb 61 [.sl false 1 (Mb o_1.1), Ii o_1.2.1, Ii o_1.2.2.1]), (3, Vb 24 [Ii r_1.1, Ii r_2.1, Ii r_3.1, .own 4 0]), (4, Rb 33 6 []), (5, Rb 9 1 (Ms o_1.2.2.2))] 6) ?_ ?_
 ·replace h := h_5
  refine aw_block (id := 0) (by kernel_rfl) ?_
  refine wk [0, 1, 2, 3, 4, 5] [] [.s 0, .s 2, .s 5, .s 6, .s 7, .s 8] [.s 0, .s 1, .s 2, .s 3, .s 4, .s 5] [(0, .sl false 1 (Mb b_1)), (2, Pp 0), (5, Pp 2), (6, Pp 3), (7, .own 5 0), (8, Ii r_4.1)] [(0, Vb 24 [Ii 0, Ii 0, Ii 0, .own 1 0]), (1, Rb 33 6 []), (2, Vb 61 (v_T_packet_input r_4.2)), (3, Vb 24 [Ii r_1.1, Ii r_2.1, Ii r_3.1, .own 4 0]), (4, Rb 33 6 []), (5, Rb 9 1 [])] an ?_
  refine aw_loopF (fun n st => ∃ (n_1 : Int), ∃ (c_1 : List Int), ∃ (c_2 : Int), ∃ (c_3 : Int), ∃ (row_1 : List (List Int)), st = mk [(0, .sl false 1 (Mb b_1)), (2, Pp 0), (5, Pp 2), (6, Pp 3), (7, .own 5 ((row_1).length)), (8, Ii n_1)] [(0, Vb 24 [Ii 0, Ii 0, Ii 0, .own 1 0]), (1, Rb 33 6 []), (2, Vb 61 [.sl false 1 (Mb c_1), Ii c_2, Ii c_3]), (3, Vb 24 [Ii r_1.1, Ii r_2.1, Ii r_3.1, .own 4 0]), (4, Rb 33 6 []), (5, Rb 9 1 (Ms row_1))] 6 ∧ packet_Decode_L1 F n n_1 c_1 c_2 c_3 row_1 = some o_1) F (by kernel_rfl) ⟨_, _, _, _, _, rfl, h⟩ ?_ ?_
  ·rintro _ ⟨_, _, _, _, _, _, h⟩; exact none_ne (h : (none : Option ((List Int) × Int × Int × (List (List Int)))) = some o_1)
  rintro n_2 _ ⟨n_1, c_1, c_2, c_3, row_1, rfl, h⟩
  replace h : packet_Decode_L1_body F (packet_Decode_L1 F n_2) n_1 c_1 c_2 c_3 row_1 = some o_1 := h
  unfold packet_Decode_L1_body at h
  refine sq ?_
  refine sq ?_
  refine aw_mid (mk [(0, .sl false 1 (Mb b_1)), (2, Pp 0), (5, Pp 2), (6, Pp 3), (7, .own 5 ((row_1).length)), (8, Ii n_1), (40, .bool (decide (n_1 > (0 : Int)) && (c_3 == (0 : Int))))] [(0, Vb 24 [Ii 0, Ii 0, Ii 0, .own 1 0]), (1, Rb 33 6 []), (2, Vb 61 [.sl false 1 (Mb c_1), Ii c_2, Ii c_3]), (3, Vb 24 [Ii r_1.1, Ii r_2.1, Ii r_3.1, .own 4 0]), (4, Rb 33 6 []), (5, Rb 9 1 (Ms row_1))] 6) ?_ ?_
  ·rcases bft (decide (n_1 > (0 : Int))) with gg_4 | gg_4
   ·refine rg [(8, Ht)] [0, 2, 5, 6, 7, 8, 35, 36, 37, 38, 39, 40] [0, 1, 2, 3, 4, 5] 6 [.sl false 1 (Mb b_1), Pp 0, Pp 2, Pp 3, .own 5 ((row_1).length), Ii n_1, Pp 2, Pp 2, .ptr 2 0 0 2, Ii c_3, .bool (c_3 == (0 : Int)), .bool (c_3 == (0 : Int))] [Vb 24 [Ii 0, Ii 0, Ii 0, .own 1 0], Rb 33 6 [], Vb 61 [.sl false 1 (Mb c_1), Ii c_2, Ii c_3], Vb 24 [Ii r_1.1, Ii r_2.1, Ii r_3.1, .own 4 0], Rb 33 6 [], Rb 9 1 (Ms row_1)] hmix (ac gg_4 (ac gg_4 (ac gg_4 (ac gg_4 (ac gg_4 (ac gg_4 an)))))) ?_
    exact ⟨rfl, (sw [0, 1, 2, 3, 4, 5] [] [.s 0, .s 2, .s 5, .s 6, .s 7, .s 8, .a 40 (.bool (decide (n_1 > (0 : Int)) && (c_3 == (0 : Int))))] [.s 0, .s 1, .s 2, .s 3, .s 4, .s 5] (ac (congrArg AV.bool (andt gg_4 rfl) : (.bool (c_3 == (0 : Int)) : AV) = .bool (decide (n_1 > (0 : Int)) && (c_3 == (0 : Int)))) an))⟩
   ·refine rg [(3, Hg), (4, Hg), (5, Hg), (6, Hg), (7, Hg), (8, Hf)] [0, 2, 5, 6, 7, 8, 35, 36, 37, 38, 39, 40] [0, 1, 2, 3, 4, 5] 6 [.sl false 1 (Mb b_1), Pp 0, Pp 2, Pp 3, .own 5 ((row_1).length), Ii n_1, .tuple [], .tuple [], .tuple [], .tuple [], .tuple [], .bool false] [Vb 24 [Ii 0, Ii 0, Ii 0, .own 1 0], Rb 33 6 [], Vb 61 [.sl false 1 (Mb c_1), Ii c_2, Ii c_3], Vb 24 [Ii r_1.1, Ii r_2.1, Ii r_3.1, .own 4 0], Rb 33 6 [], Rb 9 1 (Ms row_1)] hmix (ac gg_4 (ac gg_4 (ac gg_4 (ac gg_4 (ac gg_4 (ac gg_4 an)))))) ?_
    exact ⟨rfl, (sw [0, 1, 2, 3, 4, 5] [] [.s 0, .s 2, .s 5, .s 6, .s 7, .s 8, .a 40 (.bool (decide (n_1 > (0 : Int)) && (c_3 == (0 : Int))))] [.s 0, .s 1, .s 2, .s 3, .s 4, .s 5] (ac (congrArg AV.bool (andf gg_4) : (.bool false : AV) = .bool (decide (n_1 > (0 : Int)) && (c_3 == (0 : Int)))) an))⟩
  refine cd 40 (decide (n_1 > (0 : Int)) && (c_3 == (0 : Int))) ?_ ?_
  rotate_left
  ·intro g_1; replace h := cond_f g_1 h
   refine aw_exit (id := 0) (by kernel_rfl) ?_
   cases h
   exact ⟨rfl, (sw [0, 1, 2, 3, 4, 5] [] [.s 0, .s 2, .s 5, .s 6, .s 7] [.s 0, .s 1, .s 2, .s 3, .s 4, .s 5] an)⟩
  intro g_1; replace h := cond_t g_1 h
  refine sk ?_
  refine sq ?_
  refine aw_block (id := 1) (by kernel_rfl) ?_
  obtain ⟨r_5, h_6, h⟩ := bind_some h
  obtain ⟨_, h_7, h⟩ := bind_some h; replace h_7 := need_some h_7
  refine rg [(2, { av := .str r_5.1, ids := [2], l := [Pp 0], post := [(.var 61 (v_T_packet_input r_5.2))], pre := [(.var 61 [.sl false 1 (Mb c_1), Ii c_2, Ii c_3])] }), (3, { id := 6 }), (4, { id := 7, l := (Ms (row_1 ++ ([r_5.1] : List (List Int)))), n := ((row_1 ++ ([r_5.1] : List (List Int)))).length })] [0, 2, 5, 6, 7, 8] [0, 1, 2, 3, 4, 7] 8 [.sl false 1 (Mb b_1), Pp 0, Pp 2, Pp 3, .own 7 (((row_1 ++ ([r_5.1] : List (List Int)))).length), Ii n_1] [Vb 24 [Ii 0, Ii 0, Ii 0, .own 1 0], Rb 33 6 [], Vb 61 (v_T_packet_input r_5.2), Vb 24 [Ii r_1.1, Ii r_2.1, Ii r_3.1, .own 4 0], Rb 33 6 [], Rb 9 1 (Ms (row_1 ++ ([r_5.1] : List (List Int))))] hmix (ar ([Pp 2] : List AV) (ac (rfl : ([Vb 61 [.sl false 1 (Mb c_1), Ii c_2, Ii c_3]] : List BoxSt) = [Vb 61 [.sl false 1 (Mb c_1), Ii c_2, Ii c_3]]) (ac (packet_input_text_ok F (⟨c_1, c_2, c_3⟩ : T_packet_input) r_5 h_6 : TripleG prog 39 [(.var 61 [.sl false 1 (Mb c_1), Ii c_2, Ii c_3])] [] [Pp 0] [(.var 61 (v_T_packet_input r_5.2))] (.str r_5.1)) (ac (by first | (simp; done) | (simp; omega) : (row_1).length = ((List.map AV.str row_1)).length) (ac (by first | (simp; done) | (simp; omega) : 1 = ((List.map AV.str ([r_5.1] : List (List Int)))).length) (ac (vc_app _ _ : (Ms (row_1 ++ ([r_5.1] : List (List Int)))) = (Ms row_1) ++ (Ms ([r_5.1] : List (List Int)))) (ac (by simp : ((row_1 ++ ([r_5.1] : List (List Int)))).length = ((List.map AV.str (row_1 ++ ([r_5.1] : List (List Int))))).length) (ac (by first | (simp; done) | simpa using h_7 : (((List.map AV.str row_1) : List AV).length + ((List.map AV.str ([r_5.1] : List (List Int))) : List AV).length) * 16 ≤ 140737488355328) an)))))))) ?_
  refine rg [] [0, 2, 5, 6, 7, 8] [0, 1, 2, 3, 4, 7] 8 [.sl false 1 (Mb b_1), Pp 0, Pp 2, Pp 3, .own 7 (((row_1 ++ ([r_5.1] : List (List Int)))).length), Ii (w_i64 (n_1 - (1 : Int)))] [Vb 24 [Ii 0, Ii 0, Ii 0, .own 1 0], Rb 33 6 [], Vb 61 (v_T_packet_input r_5.2), Vb 24 [Ii r_1.1, Ii r_2.1, Ii r_3.1, .own 4 0], Rb 33 6 [], Rb 9 1 (Ms (row_1 ++ ([r_5.1] : List (List Int))))] hmix an ?_
  exact ⟨_, (sw [0, 1, 2, 3, 4, 7] [] [.s 0, .s 2, .s 5, .s 6, .s 7, .s 8] [.s 0, .s 1, .s 2, .s 3, .s 4, .s 5] an), _, _, _, _, _, rfl, h⟩
 refine sr [(0, { id := 6, m := 1 })] [0, 2, 5, 6, 7, 9] [0, 1, 2, 3, 4, 5, 6] 7 [.sl false 1 (Mb b_1), Pp 0, Pp 2, Pp 3, .own 5 ((o_1.2.2.2).length), .own 6 0] [Vb 24 [Ii 0, Ii 0, Ii 0, .own 1 0], Rb 33 6 [], Vb 61 [.sl false 1 (Mb o_1.1), Ii o_1.2.1, Ii o_1.2.2.1], Vb 24 [Ii r_1.1, Ii r_2.1, Ii r_3.1, .own 4 0], Rb 33 6 [], Rb 9 1 (Ms o_1.2.2.2), Rb 57 2 []] hmix an ?_
 refine sq ?_
 refine sq ?_
 obtain ⟨r_6, h_8, h⟩ := bind_some h
 refine rg [(1, { av := Ii r_6.1, ids := [2], l := [Pp 0, Ii 1000], post := [(.var 61 (v_T_packet_input r_6.2))], pre := [(.var 61 [.sl false 1 (Mb o_1.1), Ii o_1.2.1, Ii o_1.2.2.1])] })] [0, 2, 5, 6, 7, 9, 10] [0, 1, 2, 3, 4, 5, 6] 7 [.sl false 1 (Mb b_1), Pp 0, Pp 2, Pp 3, .own 5 ((o_1.2.2.2).length), .own 6 0, Ii r_6.1] [Vb 24 [Ii 0, Ii 0, Ii 0, .own 1 0], Rb 33 6 [], Vb 61 (v_T_packet_input r_6.2), Vb 24 [Ii r_1.1, Ii r_2.1, Ii r_3.1, .own 4 0], Rb 33 6 [], Rb 9 1 (Ms o_1.2.2.2), Rb 57 2 []] hmix (ar ([Pp 2, Ii 1000] : List AV) (ac (rfl : ([Vb 61 [.sl false 1 (Mb o_1.1), Ii o_1.2.1, Ii o_1.2.2.1]] : List BoxSt) = [Vb 61 [.sl false 1 (Mb o_1.1), Ii o_1.2.1, Ii o_1.2.2.1]]) (ac (packet_input_count_ok F (⟨o_1.1, o_1.2.1, o_1.2.2.1⟩ : T_packet_input) (1000 : Int) r_6 h_8 : TripleG prog 38 [(.var 61 [.sl false 1 (Mb o_1.1), Ii o_1.2.1, Ii o_1.2.2.1])] [] [Pp 0, Ii 1000] [(.var 61 (v_T_packet_input r_6.2))] (Ii r_6.1)) an))) ?_
 obtain ⟨o_2, h_9, h⟩ := bind_some h
 refine aw_mid (mk [(0, .sl false 1 (Mb b_1)), (2, Pp 0), (5, Pp 2), (6, Pp 3), (7, .own 5 ((o_1.2.2.2).length)), (9, .own 6 ((o_2.2.2.2).length))] [(0, Vb 24 [Ii 0, Ii 0, Ii 0, .own 1 0]), (1, Rb 33 6 []), (2, Vb 61 [.sl false 1 (Mb o_2.1), Ii o_2.2.1, Ii o_2.2.2.1]), (3, Vb 24 [Ii r_1.1, Ii r_2.1, Ii r_3.1, .own 4 0]), (4, Rb 33 6 []), (5, Rb 9 1 (Ms o_1.2.2.2)), (6, Rb 57 2 (Mp e_Arr2_Int o_2.2.2.2))] 7) ?_ ?_
 ·replace h := h_9
  refine aw_block (id := 2) (by kernel_rfl) ?_
  refine wk [0, 1, 2, 3, 4, 5, 6] [] [.s 0, .s 2, .s 5, .s 6, .s 7, .s 9, .s 10] [.s 0, .s 1, .s 2, .s 3, .s 4, .s 5, .s 6] [(0, .sl false 1 (Mb b_1)), (2, Pp 0), (5, Pp 2), (6, Pp 3), (7, .own 5 ((o_1.2.2.2).length)), (9, .own 6 0), (10, Ii r_6.1)] [(0, Vb 24 [Ii 0, Ii 0, Ii 0, .own 1 0]), (1, Rb 33 6 []), (2, Vb 61 (v_T_packet_input r_6.2)), (3, Vb 24 [Ii r_1.1, Ii r_2.1, Ii r_3.1, .own 4 0]), (4, Rb 33 6 []), (5, Rb 9 1 (Ms o_1.2.2.2)), (6, Rb 57 2 [])] an ?_
  refine aw_loopF (fun n st => ∃ (n_3 : Int), ∃ (c_4 : List Int), ∃ (c_5 : Int), ∃ (c_6 : Int), ∃ (row_2 : List Arr2_Int), st = mk [(0, .sl false 1 (Mb b_1)), (2, Pp 0), (5, Pp 2), (6, Pp 3), (7, .own 5 ((o_1.2.2.2).length)), (9, .own 6 ((row_2).length)), (10, Ii n_3)] [(0, Vb 24 [Ii 0, Ii 0, Ii 0, .own 1 0]), (1, Rb 33 6 []), (2, Vb 61 [.sl false 1 (Mb c_4), Ii c_5, Ii c_6]), (3, Vb 24 [Ii r_1.1, Ii r_2.1, Ii r_3.1, .own 4 0]), (4, Rb 33 6 []), (5, Rb 9 1 (Ms o_1.2.2.2)), (6, Rb 57 2 (Mp e_Arr2_Int row_2))] 7 ∧ packet_Decode_L2 F n n_3 c_4 c_5 c_6 row_2 = some o_2) F (by kernel_rfl) ⟨_, _, _, _, _, rfl, h⟩ ?_ ?_
  ·rintro _ ⟨_, _, _, _, _, _, h⟩; exact none_ne (h : (none : Option ((List Int) × Int × Int × (List Arr2_Int))) = some o_2)
  rintro n_4 _ ⟨n_3, c_4, c_5, c_6, row_2, rfl, h⟩
  replace h : packet_Decode_L2_body F (packet_Decode_L2 F n_4) n_3 c_4 c_5 c_6 row_2 = some o_2 := h
  unfold packet_Decode_L2_body at h
  refine sq ?_
  refine sq ?_
  refine aw_mid (mk [(0, .sl false 1 (Mb b_1)), (2, Pp 0), (5, Pp 2), (6, Pp 3), (7, .own 5 ((o_1.2.2.2).length)), (9, .own 6 ((row_2).length)), (10, Ii n_3), (58, .bool (decide (n_3 > (0 : Int)) && (c_6 == (0 : Int))))] [(0, Vb 24 [Ii 0, Ii 0, Ii 0, .own 1 0]), (1, Rb 33 6 []), (2, Vb 61 [.sl false 1 (Mb c_4), Ii c_5, Ii c_6]), (3, Vb 24 [Ii r_1.1, Ii r_2.1, Ii r_3.1, .own 4 0]), (4, Rb 33 6 []), (5, Rb 9 1 (Ms o_1.2.2.2)), (6, Rb 57 2 (Mp e_Arr2_Int row_2))] 7) ?_ ?_
  ·rcases bft (decide (n_3 > (0 : Int))) with gg_8 | gg_8
   ·refine rg [(8, Ht)] [0, 2, 5, 6, 7, 9, 10, 53, 54, 55, 56, 57, 58] [0, 1, 2, 3, 4, 5, 6] 7 [.sl false 1 (Mb b_1), Pp 0, Pp 2, Pp 3, .own 5 ((o_1.2.2.2).length), .own 6 ((row_2).length), Ii n_3, Pp 2, Pp 2, .ptr 2 0 0 2, Ii c_6, .bool (c_6 == (0 : Int)), .bool (c_6 == (0 : Int))] [Vb 24 [Ii 0, Ii 0, Ii 0, .own 1 0], Rb 33 6 [], Vb 61 [.sl false 1 (Mb c_4), Ii c_5, Ii c_6], Vb 24 [Ii r_1.1, Ii r_2.1, Ii r_3.1, .own 4 0], Rb 33 6 [], Rb 9 1 (Ms o_1.2.2.2), Rb 57 2 (Mp e_Arr2_Int row_2)] hmix (ac gg_8 (ac gg_8 (ac gg_8 (ac gg_8 (ac gg_8 (ac gg_8 an)))))) ?_
    exact ⟨rfl, (sw [0, 1, 2, 3, 4, 5, 6] [] [.s 0, .s 2, .s 5, .s 6, .s 7, .s 9, .s 10, .a 58 (.bool (decide (n_3 > (0 : Int)) && (c_6 == (0 : Int))))] [.s 0, .s 1, .s 2, .s 3, .s 4, .s 5, .s 6] (ac (congrArg AV.bool (andt gg_8 rfl) : (.bool (c_6 == (0 : Int)) : AV) = .bool (decide (n_3 > (0 : Int)) && (c_6 == (0 : Int)))) an))⟩
   ·refine rg [(3, Hg), (4, Hg), (5, Hg), (6, Hg), (7, Hg), (8, Hf)] [0, 2, 5, 6, 7, 9, 10, 53, 54, 55, 56, 57, 58] [0, 1, 2, 3, 4, 5, 6] 7 [.sl false 1 (Mb b_1), Pp 0, Pp 2, Pp 3, .own 5 ((o_1.2.2.2).length), .own 6 ((row_2).length), Ii n_3, .tuple [], .tuple [], .tuple [], .tuple [], .tuple [], .bool false] [Vb 24 [Ii 0, Ii 0, Ii 0, .own 1 0], Rb 33 6 [], Vb 61 [.sl false 1 (Mb c_4), Ii c_5, Ii c_6], Vb 24 [Ii r_1.1, Ii r_2.1, Ii r_3.1, .own 4 0], Rb 33 6 [], Rb 9 1 (Ms o_1.2.2.2), Rb 57 2 (Mp e_Arr2_Int row_2)] hmix (ac gg_8 (ac gg_8 (ac gg_8 (ac gg_8 (ac gg_8 (ac gg_8 an)))))) ?_
    exact ⟨rfl, (sw [0, 1, 2, 3, 4, 5, 6] [] [.s 0, .s 2, .s 5, .s 6, .s 7, .s 9, .s 10, .a 58 (.bool (decide (n_3 > (0 : Int)) && (c_6 == (0 : Int))))] [.s 0, .s 1, .s 2, .s 3, .s 4, .s 5, .s 6] (ac (congrArg AV.bool (andf gg_8) : (.bool false : AV) = .bool (decide (n_3 > (0 : Int)) && (c_6 == (0 : Int)))) an))⟩
  refine cd 58 (decide (n_3 > (0 : Int)) && (c_6 == (0 : Int))) ?_ ?_
  rotate_left
  ·intro g_2; replace h := cond_f g_2 h
   refine aw_exit (id := 2) (by kernel_rfl) ?_
   cases h
   exact ⟨rfl, (sw [0, 1, 2, 3, 4, 5, 6] [] [.s 0, .s 2, .s 5, .s 6, .s 7, .s 9] [.s 0, .s 1, .s 2, .s 3, .s 4, .s 5, .s 6] an)⟩
  intro g_2; replace h := cond_t g_2 h
  refine sk ?_
  refine sq ?_
  refine aw_block (id := 3) (by kernel_rfl) ?_
  refine sq ?_
  obtain ⟨r_7, h_10, h⟩ := bind_some h
  refine rg [(1, { av := Ii r_7.1, ids := [2], l := [Pp 0], post := [(.var 61 (v_T_packet_input r_7.2))], pre := [(.var 61 [.sl false 1 (Mb c_4), Ii c_5, Ii c_6])] })] [0, 2, 5, 6, 7, 9, 10, 11] [0, 1, 2, 3, 4, 5, 6] 7 [.sl false 1 (Mb b_1), Pp 0, Pp 2, Pp 3, .own 5 ((o_1.2.2.2).length), .own 6 ((row_2).length), Ii n_3, Ii r_7.1] [Vb 24 [Ii 0, Ii 0, Ii 0, .own 1 0], Rb 33 6 [], Vb 61 (v_T_packet_input r_7.2), Vb 24 [Ii r_1.1, Ii r_2.1, Ii r_3.1, .own 4 0], Rb 33 6 [], Rb 9 1 (Ms o_1.2.2.2), Rb 57 2 (Mp e_Arr2_Int row_2)] hmix (ar ([Pp 2] : List AV) (ac (rfl : ([Vb 61 [.sl false 1 (Mb c_4), Ii c_5, Ii c_6]] : List BoxSt) = [Vb 61 [.sl false 1 (Mb c_4), Ii c_5, Ii c_6]]) (ac (packet_input_num_ok F (⟨c_4, c_5, c_6⟩ : T_packet_input) r_7 h_10 : TripleG prog 37 [(.var 61 [.sl false 1 (Mb c_4), Ii c_5, Ii c_6])] [] [Pp 0] [(.var 61 (v_T_packet_input r_7.2))] (Ii r_7.1)) an))) ?_
  obtain ⟨r_8, h_11, h⟩ := bind_some h
  obtain ⟨_, h_12, h⟩ := bind_some h; replace h_12 := need_some h_12
  refine rg [(3, { av := Ii r_8.1, ids := [2], l := [Pp 0], post := [(.var 61 (v_T_packet_input r_8.2))], pre := [(.var 61 (v_T_packet_input r_7.2))] }), (5, { id := 7 }), (6, { id := 8, l := (Mp e_Arr2_Int (row_2 ++ ([(⟨r_7.1, r_8.1⟩ : Arr2_Int)] : List Arr2_Int))), n := ((row_2 ++ ([(⟨r_7.1, r_8.1⟩ : Arr2_Int)] : List Arr2_Int))).length })] [0, 2, 5, 6, 7, 9, 10] [0, 1, 2, 3, 4, 5, 8] 9 [.sl false 1 (Mb b_1), Pp 0, Pp 2, Pp 3, .own 5 ((o_1.2.2.2).length), .own 8 (((row_2 ++ ([(⟨r_7.1, r_8.1⟩ : Arr2_Int)] : List Arr2_Int))).length), Ii n_3] [Vb 24 [Ii 0, Ii 0, Ii 0, .own 1 0], Rb 33 6 [], Vb 61 (v_T_packet_input r_8.2), Vb 24 [Ii r_1.1, Ii r_2.1, Ii r_3.1, .own 4 0], Rb 33 6 [], Rb 9 1 (Ms o_1.2.2.2), Rb 57 2 (Mp e_Arr2_Int (row_2 ++ ([(⟨r_7.1, r_8.1⟩ : Arr2_Int)] : List Arr2_Int)))] hmix (ar ([Pp 2] : List AV) (ac (rfl : ([Vb 61 (v_T_packet_input r_7.2)] : List BoxSt) = [Vb 61 (v_T_packet_input r_7.2)]) (ac (packet_input_num_ok F r_7.2 r_8 h_11 : TripleG prog 37 [(.var 61 (v_T_packet_input r_7.2))] [] [Pp 0] [(.var 61 (v_T_packet_input r_8.2))] (Ii r_8.1)) (ac (by first | (simp; done) | (simp; omega) : (row_2).length = ((List.map e_Arr2_Int row_2)).length) (ac (by first | (simp; done) | (simp; omega) : 1 = ((List.map e_Arr2_Int ([(⟨r_7.1, r_8.1⟩ : Arr2_Int)] : List Arr2_Int))).length) (ac (vc_app _ _ : (Mp e_Arr2_Int (row_2 ++ ([(⟨r_7.1, r_8.1⟩ : Arr2_Int)] : List Arr2_Int))) = (Mp e_Arr2_Int row_2) ++ (Mp e_Arr2_Int ([(⟨r_7.1, r_8.1⟩ : Arr2_Int)] : List Arr2_Int))) (ac (by simp : ((row_2 ++ ([(⟨r_7.1, r_8.1⟩ : Arr2_Int)] : List Arr2_Int))).length = ((List.map e_Arr2_Int (row_2 ++ ([(⟨r_7.1, r_8.1⟩ : Arr2_Int)] : List Arr2_Int)))).length) (ac (by first | (simp; done) | simpa using h_12 : (((List.map e_Arr2_Int row_2) : List AV).length + ((List.map e_Arr2_Int ([(⟨r_7.1, r_8.1⟩ : Arr2_Int)] : List Arr2_Int)) : List AV).length) * 16 ≤ 140737488355328) an)))))))) ?_
  refine rg [] [0, 2, 5, 6, 7, 9, 10] [0, 1, 2, 3, 4, 5, 8] 9 [.sl false 1 (Mb b_1), Pp 0, Pp 2, Pp 3, .own 5 ((o_1.2.2.2).length), .own 8 (((row_2 ++ ([(⟨r_7.1, r_8.1⟩ : Arr2_Int)] : List Arr2_Int))).length), Ii (w_i64 (n_3 - (1 : Int)))] [Vb 24 [Ii 0, Ii 0, Ii 0, .own 1 0], Rb 33 6 [], Vb 61 (v_T_packet_input r_8.2), Vb 24 [Ii r_1.1, Ii r_2.1, Ii r_3.1, .own 4 0], Rb 33 6 [], Rb 9 1 (Ms o_1.2.2.2), Rb 57 2 (Mp e_Arr2_Int (row_2 ++ ([(⟨r_7.1, r_8.1⟩ : Arr2_Int)] : List Arr2_Int)))] hmix an ?_
  exact ⟨_, (sw [0, 1, 2, 3, 4, 5, 8] [] [.s 0, .s 2, .s 5, .s 6, .s 7, .s 9, .s 10] [.s 0, .s 1, .s 2, .s 3, .s 4, .s 5, .s 6] an), _, _, _, _, _, rfl, h⟩
 refine sq ?_
 refine sr [] [0, 2, 5, 6, 7, 9, 74] [0, 1, 2, 3, 4, 5, 6] 7 [.sl false 1 (Mb b_1), Pp 0, Pp 2, Pp 3, .own 5 ((o_1.2.2.2).length), .own 6 ((o_2.2.2.2).length), .bool (o_2.2.2.1 == (0 : Int))] [Vb 24 [Ii 0, Ii 0, Ii 0, .own 1 0], Rb 33 6 [], Vb 61 [.sl false 1 (Mb o_2.1), Ii o_2.2.1, Ii o_2.2.2.1], Vb 24 [Ii r_1.1, Ii r_2.1, Ii r_3.1, .own 4 0], Rb 33 6 [], Rb 9 1 (Ms o_1.2.2.2), Rb 57 2 (Mp e_Arr2_Int o_2.2.2.2)] hmix an ?_
 obtain ⟨o_3, h_13, h⟩ := bind_some h
 refine aw_mid (mk [(0, .sl false 1 (Mb b_1)), (2, Pp 0), (5, Pp 2), (6, Pp 3), (7, .own 5 ((o_1.2.2.2).length)), (9, .own 6 ((o_2.2.2.2).length))] [(0, Vb 24 [Ii 0, Ii 0, Ii 0, .own 1 0]), (1, Rb 33 6 []), (2, Vb 61 [.sl false 1 (Mb o_2.1), Ii o_2.2.1, Ii o_3]), (3, Vb 24 [Ii r_1.1, Ii r_2.1, Ii r_3.1, .own 4 0]), (4, Rb 33 6 []), (5, Rb 9 1 (Ms o_1.2.2.2)), (6, Rb 57 2 (Mp e_Arr2_Int o_2.2.2.2))] 7) ?_ ?_
 ·replace h := h_13
  refine cd 74 (o_2.2.2.1 == (0 : Int)) ?_ ?_
  rotate_left
  ·intro g_3; replace h := cond_f g_3 h
   refine sk ?_
   cases h
   exact ⟨rfl, (sw [0, 1, 2, 3, 4, 5, 6] [] [.s 0, .s 2, .s 5, .s 6, .s 7, .s 9] [.s 0, .s 1, .s 2, .s 3, .s 4, .s 5, .s 6] an)⟩
  intro g_3; replace h := cond_t g_3 h
  obtain ⟨r_9, h_14, h⟩ := bind_some h
  refine rg [(3, { av := Ii r_9, l := [.sl false 1 (Ms o_1.2.2.2), .sl false 2 (Mp e_Arr2_Int o_2.2.2.2)], lend := [5, 6] })] [0, 2, 5, 6, 7, 9] [0, 1, 2, 3, 4, 5, 6] 7 [.sl false 1 (Mb b_1), Pp 0, Pp 2, Pp 3, .own 5 ((o_1.2.2.2).length), .own 6 ((o_2.2.2.2).length)] [Vb 24 [Ii 0, Ii 0, Ii 0, .own 1 0], Rb 33 6 [], Vb 61 [.sl false 1 (Mb o_2.1), Ii o_2.2.1, Ii r_9], Vb 24 [Ii r_1.1, Ii r_2.1, Ii r_3.1, .own 4 0], Rb 33 6 [], Rb 9 1 (Ms o_1.2.2.2), Rb 57 2 (Mp e_Arr2_Int o_2.2.2.2)] hmix (ac (by first | (simp; done) | (simp; omega) : (o_1.2.2.2).length = ((List.map AV.str o_1.2.2.2)).length) (ac (by first | (simp; done) | (simp; omega) : (o_2.2.2.2).length = ((List.map e_Arr2_Int o_2.2.2.2)).length) (ar ([.sl false 1 (Ms o_1.2.2.2), .sl false 2 (Mp e_Arr2_Int o_2.2.2.2)] : List AV) (ac (rfl : ([] : List BoxSt) = []) (ac (intern_Check_ok F o_1.2.2.2 o_2.2.2.2 r_9 h_14 : TripleG prog 40 [] [] [.sl false 1 (Ms o_1.2.2.2), .sl false 2 (Mp e_Arr2_Int o_2.2.2.2)] [] (Ii r_9)) an))))) ?_
  cases h
  exact ⟨rfl, (sw [0, 1, 2, 3, 4, 5, 6] [] [.s 0, .s 2, .s 5, .s 6, .s 7, .s 9] [.s 0, .s 1, .s 2, .s 3, .s 4, .s 5, .s 6] an)⟩
 refine sq ?_
 refine sq ?_
 obtain ⟨r_10, h_15, h⟩ := bind_some h
 refine rg [(1, { av := Ii r_10.1, ids := [2], l := [Pp 0, Ii 1000], post := [(.var 61 (v_T_packet_input r_10.2))], pre := [(.var 61 [.sl false 1 (Mb o_2.1), Ii o_2.2.1, Ii o_3])] })] [0, 2, 5, 6, 7, 9, 12] [0, 1, 2, 3, 4, 5, 6] 7 [.sl false 1 (Mb b_1), Pp 0, Pp 2, Pp 3, .own 5 ((o_1.2.2.2).length), .own 6 ((o_2.2.2.2).length), Ii r_10.1] [Vb 24 [Ii 0, Ii 0, Ii 0, .own 1 0], Rb 33 6 [], Vb 61 (v_T_packet_input r_10.2), Vb 24 [Ii r_1.1, Ii r_2.1, Ii r_3.1, .own 4 0], Rb 33 6 [], Rb 9 1 (Ms o_1.2.2.2), Rb 57 2 (Mp e_Arr2_Int o_2.2.2.2)] hmix (ar ([Pp 2, Ii 1000] : List AV) (ac (rfl : ([Vb 61 [.sl false 1 (Mb o_2.1), Ii o_2.2.1, Ii o_3]] : List BoxSt) = [Vb 61 [.sl false 1 (Mb o_2.1), Ii o_2.2.1, Ii o_3]]) (ac (packet_input_count_ok F (⟨o_2.1, o_2.2.1, o_3⟩ : T_packet_input) (1000 : Int) r_10 h_15 : TripleG prog 38 [(.var 61 [.sl false 1 (Mb o_2.1), Ii o_2.2.1, Ii o_3])] [] [Pp 0, Ii 1000] [(.var 61 (v_T_packet_input r_10.2))] (Ii r_10.1)) an))) ?_
 obtain ⟨o_4, h_16, h⟩ := bind_some h
 refine aw_mid (mk [(0, .sl false 1 (Mb b_1)), (2, Pp 0), (5, Pp 2), (6, Pp 3)] [(0, Vb 24 [Ii 0, Ii 0, Ii 0, .own 1 0]), (1, Rb 33 6 []), (2, Vb 61 [.sl false 1 (Mb r_10.2.b), Ii o_4.1, Ii o_4.2.1]), (3, Vb 24 [Ii r_1.1, Ii r_2.1, Ii r_3.1, .own 4 ((o_4.2.2).length)]), (4, Rb 33 6 (Mp e_T_api_Event o_4.2.2))] 5) ?_ ?_
 ·replace h := h_16
  refine aw_block (id := 4) (by kernel_rfl) ?_
  refine wk [0, 1, 2, 3, 4] [5, 6] [.s 0, .s 2, .s 5, .s 6, .a 7 (.sl false 1 (Ms o_1.2.2.2)), .a 9 (.sl false 2 (Mp e_Arr2_Int o_2.2.2.2)), .s 12] [.s 0, .s 1, .s 2, .s 3, .s 4] [(0, .sl false 1 (Mb b_1)), (2, Pp 0), (5, Pp 2), (6, Pp 3), (7, .sl false 1 (Ms o_1.2.2.2)), (9, .sl false 2 (Mp e_Arr2_Int o_2.2.2.2)), (12, Ii r_10.1)] [(0, Vb 24 [Ii 0, Ii 0, Ii 0, .own 1 0]), (1, Rb 33 6 []), (2, Vb 61 (v_T_packet_input r_10.2)), (3, Vb 24 [Ii r_1.1, Ii r_2.1, Ii r_3.1, .own 4 0]), (4, Rb 33 6 [])] (ac (by first | (simp; done) | (simp; omega) : (o_1.2.2.2).length = ((List.map AV.str o_1.2.2.2)).length) (ar 1 (ar ((Ms o_1.2.2.2) : List AV) (ac (rfl : (!false || false) = true) (ac (by first | (simp; done) | (simp; omega) : (o_2.2.2.2).length = ((List.map e_Arr2_Int o_2.2.2.2)).length) (ar 2 (ar ((Mp e_Arr2_Int o_2.2.2.2) : List AV) (ac (rfl : (!false || false) = true) an)))))))) ?_
  refine wk [0, 1, 2, 3, 4] [] [.s 0, .s 2, .s 5, .s 6, .s 7, .s 9, .s 12] [.s 0, .s 1, .s 2, .s 3, .s 4] [(0, .sl false 1 (Mb b_1)), (2, Pp 0), (5, Pp 2), (6, Pp 3), (7, .sl false 1 (Ms o_1.2.2.2)), (9, .sl false 2 (Mp e_Arr2_Int o_2.2.2.2)), (12, Ii r_10.1)] [(0, Vb 24 [Ii 0, Ii 0, Ii 0, .own 1 0]), (1, Rb 33 6 []), (2, Vb 61 (v_T_packet_input r_10.2)), (3, Vb 24 [Ii r_1.1, Ii r_2.1, Ii r_3.1, .own 4 0]), (4, Rb 33 6 [])] an ?_
  refine aw_loopF (fun n st => ∃ (n_5 : Int), ∃ (c_7 : Int), ∃ (c_8 : Int), ∃ (row_3 : List T_api_Event), st = mk [(0, .sl false 1 (Mb b_1)), (2, Pp 0), (5, Pp 2), (6, Pp 3), (7, .sl false 1 (Ms o_1.2.2.2)), (9, .sl false 2 (Mp e_Arr2_Int o_2.2.2.2)), (12, Ii n_5)] [(0, Vb 24 [Ii 0, Ii 0, Ii 0, .own 1 0]), (1, Rb 33 6 []), (2, Vb 61 [.sl false 1 (Mb r_10.2.b), Ii c_7, Ii c_8]), (3, Vb 24 [Ii r_1.1, Ii r_2.1, Ii r_3.1, .own 4 ((row_3).length)]), (4, Rb 33 6 (Mp e_T_api_Event row_3))] 5 ∧ packet_Decode_L3 F b_1 o_1 o_2 n n_5 c_7 c_8 row_3 = some o_4) F (by kernel_rfl) ⟨_, _, _, _, rfl, h⟩ ?_ ?_
  ·rintro _ ⟨_, _, _, _, _, h⟩; exact none_ne (h : (none : Option (Int × Int × (List T_api_Event))) = some o_4)
  rintro n_6 _ ⟨n_5, c_7, c_8, row_3, rfl, h⟩
  replace h : packet_Decode_L3_body F b_1 o_1 o_2 (packet_Decode_L3 F b_1 o_1 o_2 n_6) n_5 c_7 c_8 row_3 = some o_4 := h
  unfold packet_Decode_L3_body at h
  refine sq ?_
  refine sq ?_
  refine aw_mid (mk [(0, .sl false 1 (Mb b_1)), (2, Pp 0), (5, Pp 2), (6, Pp 3), (7, .sl false 1 (Ms o_1.2.2.2)), (9, .sl false 2 (Mp e_Arr2_Int o_2.2.2.2)), (12, Ii n_5), (91, .bool (decide (n_5 > (0 : Int)) && (c_8 == (0 : Int))))] [(0, Vb 24 [Ii 0, Ii 0, Ii 0, .own 1 0]), (1, Rb 33 6 []), (2, Vb 61 [.sl false 1 (Mb r_10.2.b), Ii c_7, Ii c_8]), (3, Vb 24 [Ii r_1.1, Ii r_2.1, Ii r_3.1, .own 4 ((row_3).length)]), (4, Rb 33 6 (Mp e_T_api_Event row_3))] 5) ?_ ?_
  ·rcases bft (decide (n_5 > (0 : Int))) with gg_13 | gg_13
   ·refine rg [(8, Ht)] [0, 2, 5, 6, 7, 9, 12, 86, 87, 88, 89, 90, 91] [0, 1, 2, 3, 4] 5 [.sl false 1 (Mb b_1), Pp 0, Pp 2, Pp 3, .sl false 1 (Ms o_1.2.2.2), .sl false 2 (Mp e_Arr2_Int o_2.2.2.2), Ii n_5, Pp 2, Pp 2, .ptr 2 0 0 2, Ii c_8, .bool (c_8 == (0 : Int)), .bool (c_8 == (0 : Int))] [Vb 24 [Ii 0, Ii 0, Ii 0, .own 1 0], Rb 33 6 [], Vb 61 [.sl false 1 (Mb r_10.2.b), Ii c_7, Ii c_8], Vb 24 [Ii r_1.1, Ii r_2.1, Ii r_3.1, .own 4 ((row_3).length)], Rb 33 6 (Mp e_T_api_Event row_3)] hmix (ac gg_13 (ac gg_13 (ac gg_13 (ac gg_13 (ac gg_13 (ac gg_13 an)))))) ?_
    exact ⟨rfl, (sw [0, 1, 2, 3, 4] [] [.s 0, .s 2, .s 5, .s 6, .s 7, .s 9, .s 12, .a 91 (.bool (decide (n_5 > (0 : Int)) && (c_8 == (0 : Int))))] [.s 0, .s 1, .s 2, .s 3, .s 4] (ac (congrArg AV.bool (andt gg_13 rfl) : (.bool (c_8 == (0 : Int)) : AV) = .bool (decide (n_5 > (0 : Int)) && (c_8 == (0 : Int)))) an))⟩
   ·refine rg [(3, Hg), (4, Hg), (5, Hg), (6, Hg), (7, Hg), (8, Hf)] [0, 2, 5, 6, 7, 9, 12, 86, 87, 88, 89, 90, 91] [0, 1, 2, 3, 4] 5 [.sl false 1 (Mb b_1), Pp 0, Pp 2, Pp 3, .sl false 1 (Ms o_1.2.2.2), .sl false 2 (Mp e_Arr2_Int o_2.2.2.2), Ii n_5, .tuple [], .tuple [], .tuple [], .tuple [], .tuple [], .bool false] [Vb 24 [Ii 0, Ii 0, Ii 0, .own 1 0], Rb 33 6 [], Vb 61 [.sl false 1 (Mb r_10.2.b), Ii c_7, Ii c_8], Vb 24 [Ii r_1.1, Ii r_2.1, Ii r_3.1, .own 4 ((row_3).length)], Rb 33 6 (Mp e_T_api_Event row_3)] hmix (ac gg_13 (ac gg_13 (ac gg_13 (ac gg_13 (ac gg_13 (ac gg_13 an)))))) ?_
    exact ⟨rfl, (sw [0, 1, 2, 3, 4] [] [.s 0, .s 2, .s 5, .s 6, .s 7, .s 9, .s 12, .a 91 (.bool (decide (n_5 > (0 : Int)) && (c_8 == (0 : Int))))] [.s 0, .s 1, .s 2, .s 3, .s 4] (ac (congrArg AV.bool (andf gg_13) : (.bool false : AV) = .bool (decide (n_5 > (0 : Int)) && (c_8 == (0 : Int)))) an))⟩
  refine cd 91 (decide (n_5 > (0 : Int)) && (c_8 == (0 : Int))) ?_ ?_
  rotate_left
  ·intro g_4; replace h := cond_f g_4 h
   refine aw_exit (id := 4) (by kernel_rfl) ?_
   cases h
   exact ⟨rfl, (sw [0, 1, 2, 3, 4] [] [.s 0, .s 2, .s 5, .s 6] [.s 0, .s 1, .s 2, .s 3, .s 4] an)⟩
  intro g_4; replace h := cond_t g_4 h
  refine sk ?_
  refine sq ?_
  refine aw_block (id := 5) (by kernel_rfl) ?_
  refine sq ?_
  obtain ⟨_, h_17, h⟩ := bind_some h; replace h_17 := need_some h_17
  obtain ⟨r_11, h_18, h⟩ := bind_some h
  refine rg [(7, { l := (Mb (sub b_1 c_7 (lN (b_1)))) }), (8, { av := .tuple [e_T_api_Event r_11.1, Ii r_11.2.1, Ii r_11.2.2], l := [.sl false 1 (Ms o_1.2.2.2), .sl false 2 (Mp e_Arr2_Int o_2.2.2.2), .sl false 1 (Mb (sub b_1 c_7 (lN (b_1))))] }), (13, { id := 5 })] [0, 2, 5, 6, 7, 9, 12, 13, 14, 15] [0, 1, 2, 3, 4, 5] 6 [.sl false 1 (Mb b_1), Pp 0, Pp 2, Pp 3, .sl false 1 (Ms o_1.2.2.2), .sl false 2 (Mp e_Arr2_Int o_2.2.2.2), Ii n_5, Pp 5, Ii r_11.2.1, Ii r_11.2.2] [Vb 24 [Ii 0, Ii 0, Ii 0, .own 1 0], Rb 33 6 [], Vb 61 [.sl false 1 (Mb r_10.2.b), Ii c_7, Ii c_8], Vb 24 [Ii r_1.1, Ii r_2.1, Ii r_3.1, .own 4 ((row_3).length)], Rb 33 6 (Mp e_T_api_Event row_3), Vb 33 (v_T_api_Event r_11.1)] hmix (ac h_17.1 (ac (vc_lenle h_17.2 : c_7 ≤ (lN ((Mb b_1)))) (ac (Int.le_refl _ : (lN ((Mb b_1))) ≤ (lN ((Mb b_1)))) (ac (vc_subn _ _ : (Mb (sub b_1 c_7 (lN (b_1)))) = (((Mb b_1)).take ((lN ((Mb b_1)))).toNat).drop (c_7).toNat) (ar ([.sl false 1 (Ms o_1.2.2.2), .sl false 2 (Mp e_Arr2_Int o_2.2.2.2), .sl false 1 (Mb (sub b_1 c_7 (lN (b_1))))] : List AV) (ac (rfl : ([] : List BoxSt) = []) (ac (record_Decode_ok F o_1.2.2.2 o_2.2.2.2 (sub b_1 c_7 (lN (b_1))) r_11 h_18 : TripleG prog 41 [] [] [.sl false 1 (Ms o_1.2.2.2), .sl false 2 (Mp e_Arr2_Int o_2.2.2.2), .sl false 1 (Mb (sub b_1 c_7 (lN (b_1))))] [] (.tuple [e_T_api_Event r_11.1, Ii r_11.2.1, Ii r_11.2.2])) an))))))) ?_
  refine sr [] [0, 2, 5, 6, 7, 9, 12, 13] [0, 1, 2, 3, 4, 5] 6 [.sl false 1 (Mb b_1), Pp 0, Pp 2, Pp 3, .sl false 1 (Ms o_1.2.2.2), .sl false 2 (Mp e_Arr2_Int o_2.2.2.2), Ii n_5, Pp 5] [Vb 24 [Ii 0, Ii 0, Ii 0, .own 1 0], Rb 33 6 [], Vb 61 [.sl false 1 (Mb r_10.2.b), Ii (w_i64 (c_7 + r_11.2.1)), Ii r_11.2.2], Vb 24 [Ii r_1.1, Ii r_2.1, Ii r_3.1, .own 4 ((row_3).length)], Rb 33 6 (Mp e_T_api_Event row_3), Vb 33 (v_T_api_Event r_11.1)] hmix an ?_
  obtain ⟨_, h_19, h⟩ := bind_some h; replace h_19 := need_some h_19
  refine rg [(3, { id := 6 }), (4, { id := 7, l := (Mp e_T_api_Event (row_3 ++ ([r_11.1] : List T_api_Event))), n := ((row_3 ++ ([r_11.1] : List T_api_Event))).length })] [0, 2, 5, 6, 7, 9, 12] [0, 1, 2, 3, 7] 8 [.sl false 1 (Mb b_1), Pp 0, Pp 2, Pp 3, .sl false 1 (Ms o_1.2.2.2), .sl false 2 (Mp e_Arr2_Int o_2.2.2.2), Ii n_5] [Vb 24 [Ii 0, Ii 0, Ii 0, .own 1 0], Rb 33 6 [], Vb 61 [.sl false 1 (Mb r_10.2.b), Ii (w_i64 (c_7 + r_11.2.1)), Ii r_11.2.2], Vb 24 [Ii r_1.1, Ii r_2.1, Ii r_3.1, .own 7 (((row_3 ++ ([r_11.1] : List T_api_Event))).length)], Rb 33 6 (Mp e_T_api_Event (row_3 ++ ([r_11.1] : List T_api_Event)))] hmix (ac (by first | (simp; done) | (simp; omega) : (row_3).length = ((List.map e_T_api_Event row_3)).length) (ac (by first | (simp; done) | (simp; omega) : 1 = ((List.map e_T_api_Event ([r_11.1] : List T_api_Event))).length) (ac (vc_app _ _ : (Mp e_T_api_Event (row_3 ++ ([r_11.1] : List T_api_Event))) = (Mp e_T_api_Event row_3) ++ (Mp e_T_api_Event ([r_11.1] : List T_api_Event))) (ac (by simp : ((row_3 ++ ([r_11.1] : List T_api_Event))).length = ((List.map e_T_api_Event (row_3 ++ ([r_11.1] : List T_api_Event)))).length) (ac (by first | (simp; done) | simpa using h_19 : (((List.map e_T_api_Event row_3) : List AV).length + ((List.map e_T_api_Event ([r_11.1] : List T_api_Event)) : List AV).length) * 72 ≤ 140737488355328) an))))) ?_
  refine rg [] [0, 2, 5, 6, 7, 9, 12] [0, 1, 2, 3, 7] 8 [.sl false 1 (Mb b_1), Pp 0, Pp 2, Pp 3, .sl false 1 (Ms o_1.2.2.2), .sl false 2 (Mp e_Arr2_Int o_2.2.2.2), Ii (w_i64 (n_5 - (1 : Int)))] [Vb 24 [Ii 0, Ii 0, Ii 0, .own 1 0], Rb 33 6 [], Vb 61 [.sl false 1 (Mb r_10.2.b), Ii (w_i64 (c_7 + r_11.2.1)), Ii r_11.2.2], Vb 24 [Ii r_1.1, Ii r_2.1, Ii r_3.1, .own 7 (((row_3 ++ ([r_11.1] : List T_api_Event))).length)], Rb 33 6 (Mp e_T_api_Event (row_3 ++ ([r_11.1] : List T_api_Event)))] hmix an ?_
  exact ⟨_, (sw [0, 1, 2, 3, 7] [] [.s 0, .s 2, .s 5, .s 6, .s 7, .s 9, .s 12] [.s 0, .s 1, .s 2, .s 3, .s 4] an), _, _, _, _, rfl, h⟩
 refine sq ?_
 refine sr [] [0, 2, 5, 6, 130] [0, 1, 2, 3, 4] 5 [.sl false 1 (Mb b_1), Pp 0, Pp 2, Pp 3, .bool (o_4.2.1 == (0 : Int))] [Vb 24 [Ii 0, Ii 0, Ii 0, .own 1 0], Rb 33 6 [], Vb 61 [.sl false 1 (Mb r_10.2.b), Ii o_4.1, Ii o_4.2.1], Vb 24 [Ii r_1.1, Ii r_2.1, Ii r_3.1, .own 4 ((o_4.2.2).length)], Rb 33 6 (Mp e_T_api_Event o_4.2.2)] hmix an ?_
 obtain ⟨o_5, h_20, h⟩ := bind_some h
 refine aw_mid (mk [(0, .sl false 1 (Mb b_1)), (2, Pp 0), (5, Pp 2), (6, Pp 3)] [(0, Vb 24 [Ii 0, Ii 0, Ii 0, .own 1 0]), (1, Rb 33 6 []), (2, Vb 61 [.sl false 1 (Mb r_10.2.b), Ii o_4.1, Ii o_5]), (3, Vb 24 [Ii r_1.1, Ii r_2.1, Ii r_3.1, .own 4 ((o_4.2.2).length)]), (4, Rb 33 6 (Mp e_T_api_Event o_4.2.2))] 5) ?_ ?_
 ·replace h := h_20
  refine cd 130 (o_4.2.1 == (0 : Int)) ?_ ?_
  rotate_left
  ·intro g_5; replace h := cond_f g_5 h
   refine sk ?_
   cases h
   exact ⟨rfl, (sw [0, 1, 2, 3, 4] [] [.s 0, .s 2, .s 5, .s 6] [.s 0, .s 1, .s 2, .s 3, .s 4] an)⟩
  intro g_5; replace h := cond_t g_5 h
  obtain ⟨r_12, h_21, h⟩ := bind_some h
  refine rg [(2, { av := Ii r_12, l := [.agg [Ii r_1.1, Ii r_2.1, Ii r_3.1, .sl false 6 (Mp e_T_api_Event o_4.2.2)]], lend := [4] })] [0, 2, 5, 6] [0, 1, 2, 3, 4] 5 [.sl false 1 (Mb b_1), Pp 0, Pp 2, Pp 3] [Vb 24 [Ii 0, Ii 0, Ii 0, .own 1 0], Rb 33 6 [], Vb 61 [.sl false 1 (Mb r_10.2.b), Ii o_4.1, Ii r_12], Vb 24 [Ii r_1.1, Ii r_2.1, Ii r_3.1, .own 4 ((o_4.2.2).length)], Rb 33 6 (Mp e_T_api_Event o_4.2.2)] hmix (ac (by first | (simp; done) | (simp; omega) : (o_4.2.2).length = ((List.map e_T_api_Event o_4.2.2)).length) (ar ([.agg [Ii r_1.1, Ii r_2.1, Ii r_3.1, .sl false 6 (Mp e_T_api_Event o_4.2.2)]] : List AV) (ac (rfl : ([] : List BoxSt) = []) (ac (triple_lo (args' := [e_T_api_Packet (⟨r_1.1, r_2.1, r_3.1, o_4.2.2⟩ : T_api_Packet)]) (packet_Check_ok F (⟨r_1.1, r_2.1, r_3.1, o_4.2.2⟩ : T_api_Packet) r_12 h_21) rfl ⟨rfl, rfl, rfl, rfl, rfl, rfl, trivial⟩ : TripleG prog 13 [] [] [.agg [Ii r_1.1, Ii r_2.1, Ii r_3.1, .sl false 6 (Mp e_T_api_Event o_4.2.2)]] [] (Ii r_12)) an)))) ?_
  cases h
  exact ⟨rfl, (sw [0, 1, 2, 3, 4] [] [.s 0, .s 2, .s 5, .s 6] [.s 0, .s 1, .s 2, .s 3, .s 4] an)⟩
 refine sq ?_
 refine sr [] [0, 2, 5, 6, 140] [0, 1, 2, 3, 4] 5 [.sl false 1 (Mb b_1), Pp 0, Pp 2, Pp 3, .bool (o_5 != (0 : Int))] [Vb 24 [Ii 0, Ii 0, Ii 0, .own 1 0], Rb 33 6 [], Vb 61 [.sl false 1 (Mb r_10.2.b), Ii o_4.1, Ii o_5], Vb 24 [Ii r_1.1, Ii r_2.1, Ii r_3.1, .own 4 ((o_4.2.2).length)], Rb 33 6 (Mp e_T_api_Event o_4.2.2)] hmix an ?_
 refine cd 140 (o_5 != (0 : Int)) ?_ ?_
 ·intro g_6; replace h := cond_t g_6 h
  refine sr [] [2, 3, 4] [0] 5 [Pp 0, Ii 0, Ii o_5] [Vb 24 [Ii 0, Ii 0, Ii 0, .nilsl]] hmix an ?_
  refine aw_sub (sub_adoptB 0 3 5 33 6 (by kernel_rfl)) ?_
  refine wk [0, 5] [] [.s 2, .s 3, .s 4] [.s 0, .s 1] [(2, Pp 0), (3, Ii 0), (4, Ii o_5)] [(0, Vb 24 [Ii 0, Ii 0, Ii 0, .own 1 0]), (1, Rb 33 6 [])] an ?_
  refine wk [0] [1] [.s 2, .s 3, .s 4] [.a 0 (Vb 24 (v_T_api_Packet (⟨(0 : Int), (0 : Int), (0 : Int), []⟩ : T_api_Packet)))] [(2, Pp 0), (3, Ii 0), (4, Ii o_5)] [(0, Vb 24 (v_T_api_Packet (⟨(0 : Int), (0 : Int), (0 : Int), []⟩ : T_api_Packet)))] (ar 24 (ac (rfl : ones [Ii ((⟨(0 : Int), (0 : Int), (0 : Int), []⟩ : T_api_Packet).Thread), Ii ((⟨(0 : Int), (0 : Int), (0 : Int), []⟩ : T_api_Packet).Serial), Ii ((⟨(0 : Int), (0 : Int), (0 : Int), []⟩ : T_api_Packet).Lost), .sl false 6 (Mp e_T_api_Event ((⟨(0 : Int), (0 : Int), (0 : Int), []⟩ : T_api_Packet).Events))] = true) (ac (by first | (simp; done) | (simp; omega) : 0 = (([] : List AV)).length) (ac (rfl : (Ii 0 : AV) = Ii ((⟨(0 : Int), (0 : Int), (0 : Int), []⟩ : T_api_Packet).Thread)) (ac (rfl : (Ii 0 : AV) = Ii ((⟨(0 : Int), (0 : Int), (0 : Int), []⟩ : T_api_Packet).Serial)) (ac (rfl : (Ii 0 : AV) = Ii ((⟨(0 : Int), (0 : Int), (0 : Int), []⟩ : T_api_Packet).Lost)) (ar 6 (ac (rfl : ([] : List AV) = (Mp e_T_api_Event ((⟨(0 : Int), (0 : Int), (0 : Int), []⟩ : T_api_Packet).Events))) (ac (rfl : (!false || false) = true) an))))))))) ?_
  refine rt ?_
  cases h
  exact ⟨.inr rfl, Nat.le_of_ble_eq_true rfl, by kernel_rfl⟩
 intro g_6; replace h := cond_f g_6 h
 refine sk ?_
 refine sq ?_
 refine sq ?_
 refine wk [0, 1, 2, 3] [4] [.s 0, .s 2, .s 5, .s 6] [.s 0, .s 1, .s 2, .a 3 (Vb 24 [Ii r_1.1, Ii r_2.1, Ii r_3.1, .sl false 6 (Mp e_T_api_Event o_4.2.2)])] [(0, .sl false 1 (Mb b_1)), (2, Pp 0), (5, Pp 2), (6, Pp 3)] [(0, Vb 24 [Ii 0, Ii 0, Ii 0, .own 1 0]), (1, Rb 33 6 []), (2, Vb 61 [.sl false 1 (Mb r_10.2.b), Ii o_4.1, Ii o_5]), (3, Vb 24 [Ii r_1.1, Ii r_2.1, Ii r_3.1, .sl false 6 (Mp e_T_api_Event o_4.2.2)])] (ar 24 (ac (rfl : ones [Ii r_1.1, Ii r_2.1, Ii r_3.1, .sl false 6 (Mp e_T_api_Event o_4.2.2)] = true) (ac (by first | (simp; done) | (simp; omega) : (o_4.2.2).length = ((List.map e_T_api_Event o_4.2.2)).length) (ac (rfl : (Ii r_1.1 : AV) = Ii r_1.1) (ac (rfl : (Ii r_2.1 : AV) = Ii r_2.1) (ac (rfl : (Ii r_3.1 : AV) = Ii r_3.1) (ar 6 (ar ((Mp e_T_api_Event o_4.2.2) : List AV) (ac (rfl : (!false || false) = true) an))))))))) ?_
 obtain ⟨r_13, h_22, h⟩ := bind_some h
 refine rg [(1, { av := .tuple [.own 0 ((r_13.1).length), Ii r_13.2], ids := [4], l := [.agg [Ii r_1.1, Ii r_2.1, Ii r_3.1, .sl false 6 (Mp e_T_api_Event o_4.2.2)]], post := [(.row 5 1 (Mb r_13.1))] })] [0, 2, 5, 6, 16, 17] [0, 1, 2, 3, 4] 5 [.sl false 1 (Mb b_1), Pp 0, Pp 2, Pp 3, .own 4 ((r_13.1).length), Ii r_13.2] [Vb 24 [Ii 0, Ii 0, Ii 0, .own 1 0], Rb 33 6 [], Vb 61 [.sl false 1 (Mb r_10.2.b), Ii o_4.1, Ii o_5], Vb 24 [Ii r_1.1, Ii r_2.1, Ii r_3.1, .sl false 6 (Mp e_T_api_Event o_4.2.2)], Rb 5 1 (Mb r_13.1)] hmix (ar ([.agg [Ii r_1.1, Ii r_2.1, Ii r_3.1, .sl false 6 (Mp e_T_api_Event o_4.2.2)]] : List AV) (ac (rfl : ([] : List BoxSt) = []) (ac (triple_lo (args' := [e_T_api_Packet (⟨r_1.1, r_2.1, r_3.1, o_4.2.2⟩ : T_api_Packet)]) (packet_Encode_ok F (⟨r_1.1, r_2.1, r_3.1, o_4.2.2⟩ : T_api_Packet) r_13 h_22) rfl ⟨rfl, rfl, rfl, rfl, rfl, rfl, trivial⟩ : TripleG prog 17 [] [] [.agg [Ii r_1.1, Ii r_2.1, Ii r_3.1, .sl false 6 (Mp e_T_api_Event o_4.2.2)]] [(.row 5 1 (Mb r_13.1))] (.tuple [.own 0 ((r_13.1).length), Ii r_13.2])) an))) ?_
 refine sq ?_
 obtain ⟨p_1, h_25, h⟩ := bind_some h
 refine aw_mid (mk [(2, Pp 0), (5, Pp 2), (6, Pp 3), (163, .bool p_1)] [(0, Vb 24 [Ii 0, Ii 0, Ii 0, .own 1 0]), (1, Rb 33 6 []), (2, Vb 61 [.sl false 1 (Mb r_10.2.b), Ii o_4.1, Ii o_5]), (3, Vb 24 [Ii r_1.1, Ii r_2.1, Ii r_3.1, .sl false 6 (Mp e_T_api_Event o_4.2.2)])] 4) ?_ ?_
 ·replace h := h_25
  rcases bft (r_13.2 != (0 : Int)) with gg_14 | gg_14
  ·replace h := cond_t gg_14 h
   refine rg [(3, Hg), (4, Hg), (5, Hg), (6, Hg), (7, Hg), (8, Hg), (9, Hg), (10, Hg), (11, Hg), (12, Ht)] [2, 5, 6, 163] [0, 1, 2, 3] 5 [Pp 0, Pp 2, Pp 3, .bool true] [Vb 24 [Ii 0, Ii 0, Ii 0, .own 1 0], Rb 33 6 [], Vb 61 [.sl false 1 (Mb r_10.2.b), Ii o_4.1, Ii o_5], Vb 24 [Ii r_1.1, Ii r_2.1, Ii r_3.1, .sl false 6 (Mp e_T_api_Event o_4.2.2)]] hmix (ac gg_14 (ac gg_14 (ac gg_14 (ac gg_14 (ac gg_14 (ac gg_14 (ac gg_14 (ac gg_14 (ac gg_14 (ac gg_14 an)))))))))) ?_
   cases h
   exact ⟨rfl, (sw [0, 1, 2, 3] [] [.s 2, .s 5, .s 6, .s 163] [.s 0, .s 1, .s 2, .s 3] an)⟩
  ·replace h := cond_f gg_14 h
   obtain ⟨_, h_23, h⟩ := bind_some h; replace h_23 := need_some h_23
   obtain ⟨r_14, h_24, h⟩ := bind_some h
   refine rg [(9, { l := (Mb (sub b_1 (0 : Int) o_4.1)) }), (10, { av := .bool r_14, frz := [4], l := [.sl false 1 (Mb r_13.1), .sl false 1 (Mb (sub b_1 (0 : Int) o_4.1))] }), (12, Hf)] [2, 5, 6, 163] [0, 1, 2, 3] 5 [Pp 0, Pp 2, Pp 3, .bool (!r_14)] [Vb 24 [Ii 0, Ii 0, Ii 0, .own 1 0], Rb 33 6 [], Vb 61 [.sl false 1 (Mb r_10.2.b), Ii o_4.1, Ii o_5], Vb 24 [Ii r_1.1, Ii r_2.1, Ii r_3.1, .sl false 6 (Mp e_T_api_Event o_4.2.2)]] hmix (ac gg_14 (ac gg_14 (ac gg_14 (ac gg_14 (ac gg_14 (ac gg_14 (ac gg_14 (ac (by decide : (0 : Int) ≤ (0 : Int)) (ac h_23.1 (ac (vc_lenle h_23.2 : o_4.1 ≤ (lN ((Mb b_1)))) (ac (vc_sub _ _ _ : (Mb (sub b_1 (0 : Int) o_4.1)) = (((Mb b_1)).take (o_4.1).toNat).drop ((0 : Int)).toNat) (ac gg_14 (ac (by first | (simp; done) | (simp; omega) : (r_13.1).length = ((List.map (AV.int .u8) r_13.1)).length) (ar ([.sl false 1 (Mb r_13.1), .sl false 1 (Mb (sub b_1 (0 : Int) o_4.1))] : List AV) (ac (rfl : ([] : List BoxSt) = []) (ac (bytes_Equal_ok r_13.1 (sub b_1 (0 : Int) o_4.1) r_14 h_24 : TripleG prog 42 [] [] [.sl false 1 (Mb r_13.1), .sl false 1 (Mb (sub b_1 (0 : Int) o_4.1))] [] (.bool r_14)) (ac gg_14 (ac gg_14 an)))))))))))))))))) ?_
   cases h
   exact ⟨rfl, (sw [0, 1, 2, 3] [] [.s 2, .s 5, .s 6, .s 163] [.s 0, .s 1, .s 2, .s 3] an)⟩
 refine cd 163 p_1 ?_ ?_
 rotate_left
 ·intro g_7; replace h := cond_f g_7 h
  refine sk ?_
  refine sr [] [2, 3, 4] [0] 4 [Pp 0, Ii o_4.1, Ii 0] [Vb 24 [Ii r_1.1, Ii r_2.1, Ii r_3.1, .sl false 6 (Mp e_T_api_Event o_4.2.2)]] hmix an ?_
  refine wk [0] [] [.s 2, .s 3, .s 4] [.a 0 (Vb 24 (v_T_api_Packet (⟨r_1.1, r_2.1, r_3.1, o_4.2.2⟩ : T_api_Packet)))] [(2, Pp 0), (3, Ii o_4.1), (4, Ii 0)] [(0, Vb 24 (v_T_api_Packet (⟨r_1.1, r_2.1, r_3.1, o_4.2.2⟩ : T_api_Packet)))] (ar 24 (ac (rfl : ones [Ii ((⟨r_1.1, r_2.1, r_3.1, o_4.2.2⟩ : T_api_Packet).Thread), Ii ((⟨r_1.1, r_2.1, r_3.1, o_4.2.2⟩ : T_api_Packet).Serial), Ii ((⟨r_1.1, r_2.1, r_3.1, o_4.2.2⟩ : T_api_Packet).Lost), .sl false 6 (Mp e_T_api_Event ((⟨r_1.1, r_2.1, r_3.1, o_4.2.2⟩ : T_api_Packet).Events))] = true) (ac (rfl : (Ii r_1.1 : AV) = Ii ((⟨r_1.1, r_2.1, r_3.1, o_4.2.2⟩ : T_api_Packet).Thread)) (ac (rfl : (Ii r_2.1 : AV) = Ii ((⟨r_1.1, r_2.1, r_3.1, o_4.2.2⟩ : T_api_Packet).Serial)) (ac (rfl : (Ii r_3.1 : AV) = Ii ((⟨r_1.1, r_2.1, r_3.1, o_4.2.2⟩ : T_api_Packet).Lost)) (ar 6 (ac (rfl : ((Mp e_T_api_Event o_4.2.2) : List AV) = (Mp e_T_api_Event ((⟨r_1.1, r_2.1, r_3.1, o_4.2.2⟩ : T_api_Packet).Events))) (ac (rfl : (!false || false) = true) an)))))))) ?_
  refine rt ?_
  cases h
  exact ⟨.inr rfl, Nat.le_of_ble_eq_true rfl, by kernel_rfl⟩
 intro g_7; replace h := cond_t g_7 h
 refine sr [] [2, 3, 4] [0] 4 [Pp 0, Ii 0, Ii 10] [Vb 24 [Ii 0, Ii 0, Ii 0, .nilsl]] hmix an ?_
 refine aw_sub (sub_adoptB 0 3 4 33 6 (by kernel_rfl)) ?_
 refine wk [0, 4] [] [.s 2, .s 3, .s 4] [.s 0, .s 1] [(2, Pp 0), (3, Ii 0), (4, Ii 10)] [(0, Vb 24 [Ii 0, Ii 0, Ii 0, .own 1 0]), (1, Rb 33 6 [])] an ?_
 refine wk [0] [1] [.s 2, .s 3, .s 4] [.a 0 (Vb 24 (v_T_api_Packet (⟨(0 : Int), (0 : Int), (0 : Int), []⟩ : T_api_Packet)))] [(2, Pp 0), (3, Ii 0), (4, Ii 10)] [(0, Vb 24 (v_T_api_Packet (⟨(0 : Int), (0 : Int), (0 : Int), []⟩ : T_api_Packet)))] (ar 24 (ac (rfl : ones [Ii ((⟨(0 : Int), (0 : Int), (0 : Int), []⟩ : T_api_Packet).Thread), Ii ((⟨(0 : Int), (0 : Int), (0 : Int), []⟩ : T_api_Packet).Serial), Ii ((⟨(0 : Int), (0 : Int), (0 : Int), []⟩ : T_api_Packet).Lost), .sl false 6 (Mp e_T_api_Event ((⟨(0 : Int), (0 : Int), (0 : Int), []⟩ : T_api_Packet).Events))] = true) (ac (by first | (simp; done) | (simp; omega) : 0 = (([] : List AV)).length) (ac (rfl : (Ii 0 : AV) = Ii ((⟨(0 : Int), (0 : Int), (0 : Int), []⟩ : T_api_Packet).Thread)) (ac (rfl : (Ii 0 : AV) = Ii ((⟨(0 : Int), (0 : Int), (0 : Int), []⟩ : T_api_Packet).Serial)) (ac (rfl : (Ii 0 : AV) = Ii ((⟨(0 : Int), (0 : Int), (0 : Int), []⟩ : T_api_Packet).Lost)) (ar 6 (ac (rfl : ([] : List AV) = (Mp e_T_api_Event ((⟨(0 : Int), (0 : Int), (0 : Int), []⟩ : T_api_Packet).Events))) (ac (rfl : (!false || false) = true) an))))))))) ?_
 refine rt ?_
 cases h
 exact ⟨.inr rfl, Nat.le_of_ble_eq_true rfl, by kernel_rfl⟩

theorem slices_Grow_tracebook_api_Event_tracebook_api_Event_ok (n_1 : Int) (r : (List (T_api_Event))) (h : slices_Grow_tracebook_api_Event_tracebook_api_Event n_1 = some r) : TripleG prog 70 [] [] [.nilsl, Ii n_1] [.row 33 6 (Mp e_T_api_Event r)] (.own 0 ((r).length)) := by
 refine triple_intro (fn := Go.Proofs.Try.f70) (code := codeOf Go.Proofs.Try.f70) (by kernel_rfl) (by kernel_rfl) (Nat.le_of_ble_eq_true (by kernel_rfl)) ?_
 unfold slices_Grow_tracebook_api_Event_tracebook_api_Event at h
 refine sr [(0, { id := 0, m := 1 })] [0, 1] [] 1 [.nilsl, Ii n_1] [] hmix an ?_
 refine sq ?_
 refine sr [] [0, 1, 6] [] 1 [.nilsl, Ii n_1, .bool (decide (n_1 < (0 : Int)))] [] hmix an ?_
 obtain ⟨o_1, h_1, h⟩ := bind_some h
 refine aw_mid (mk [(0, .nilsl), (1, Ii n_1)] [] 0) ?_ ?_
 ·replace h := h_1
  refine cd 6 (decide (n_1 < (0 : Int))) ?_ ?_
  ·intro g_1; replace h := cond_t g_1 h
   exact none_ne h
  intro g_1; replace h := cond_f g_1 h
  refine sk ?_
  cases h
  exact ⟨rfl, (sw [] [] [.s 0, .s 1] [] an)⟩
 refine sq ?_
 refine sr [(2, { x := true }), (4, { n := 0 })] [0, 1] [] 0 [.nilsl, Ii (w_i64 (n_1 - (w_i64 ((0 : Int) - ((0 : Nat) : Int)))))] [] hmix (ac (rfl : ([] : List AV).length = 0) an) ?_
 refine sr [] [0, 1, 16] [] 0 [.nilsl, Ii (w_i64 (n_1 - (w_i64 ((0 : Int) - ((0 : Nat) : Int))))), .bool (decide ((w_i64 (n_1 - (w_i64 ((0 : Int) - ((0 : Nat) : Int))))) > (0 : Int)))] [] hmix an ?_
 refine cd 16 (decide ((w_i64 (n_1 - (w_i64 ((0 : Int) - ((0 : Nat) : Int))))) > (0 : Int))) ?_ ?_
 ·intro g_2; replace h := cond_t g_2 h
  obtain ⟨_, h_2, h⟩ := bind_some h; replace h_2 := need_some h_2
  refine rg [(2, { x := true }), (3, { x := true }), (5, { id := 0, n := (w_i64 (n_1 - (w_i64 ((0 : Int) - ((0 : Nat) : Int))))).toNat, x := true }), (7, { n := 0 }), (8, { l := [], n := 0, x := true })] [0] [0] 1 [.own 0 0] [Rb 33 6 []] hmix (ar (0 : Int) (ac ((Int.toNat_of_nonneg h_2.1).symm : (w_i64 (n_1 - (w_i64 ((0 : Int) - ((0 : Nat) : Int))))) = (((w_i64 (n_1 - (w_i64 ((0 : Int) - ((0 : Nat) : Int))))).toNat : Nat) : Int)) (ac h_2.2.1 (ac h_2.2.2 (ac (rfl : ([] : List AV).length = 0) (ar ((0 : Nat) : Int) (ac (Nat.zero_le _ : 0 ≤ ((w_i64 (n_1 - (w_i64 ((0 : Int) - ((0 : Nat) : Int))))).toNat)) (ac (by simp : [] = ([] : List AV).take 0) an)))))))) ?_
  refine sr [] [4] [0] 1 [.own 0 0] [Rb 33 6 []] hmix an ?_
  refine wk [0] [] [.a 4 (.own 0 ((([] : List T_api_Event)).length))] [.s 0] [(4, .own 0 ((([] : List T_api_Event)).length))] [(0, Rb 33 6 [])] (ac (congrArg (AV.own _) (by first | (simp; done) | (simp; omega)) : (.own 0 0 : AV) = .own 0 ((([] : List T_api_Event)).length)) an) ?_
  refine rt ?_
  cases h
  exact ⟨.inr rfl, Nat.le_of_ble_eq_true rfl, by kernel_rfl⟩
 intro g_2; replace h := cond_f g_2 h
 refine sk ?_
 refine sr [] [4] [] 0 [.nilsl] [] hmix an ?_
 refine aw_sub (sub_adoptS 4 none 0 33 6 (by kernel_rfl)) ?_
 refine wk [0] [] [.a 4 (.own 0 ((([] : List T_api_Event)).length))] [.s 0] [(4, .own 0 ((([] : List T_api_Event)).length))] [(0, Rb 33 6 [])] (ac (congrArg (AV.own _) (by first | (simp; done) | (simp; omega)) : (.own 0 0 : AV) = .own 0 ((([] : List T_api_Event)).length)) an) ?_
 refine rt ?_
 cases h
 exact ⟨.inr rfl, Nat.le_of_ble_eq_true rfl, by kernel_rfl⟩

theorem slices_Concat_tracebook_api_Event_tracebook_api_Event_ok (F : Nat) (slices_1 : List (List (T_api_Event))) (r : (List (T_api_Event))) (h : slices_Concat_tracebook_api_Event_tracebook_api_Event F slices_1 = some r) : TripleG prog 44 [] [] [.sl false 1 (List.map (fun l => AV.sl false 6 (l.map e_T_api_Event)) slices_1)] [.row 33 6 (Mp e_T_api_Event r)] (.own 0 ((r).length)) := by
 refine triple_intro (fn := Go.Proofs.Try.f44) (code := codeOf Go.Proofs.Try.f44) (by kernel_rfl) (by kernel_rfl) (Nat.le_of_ble_eq_true (by kernel_rfl)) ?_
 unfold slices_Concat_tracebook_api_Event_tracebook_api_Event at h
 refine sr [(0, { id := 0, m := 1 })] [0] [] 1 [.sl false 1 (List.map (fun l => AV.sl false 6 (l.map e_T_api_Event)) slices_1)] [] hmix an ?_
 refine sr [] [0, 3] [] 1 [.sl false 1 (List.map (fun l => AV.sl false 6 (l.map e_T_api_Event)) slices_1), Ii 0] [] hmix an ?_
 refine sq ?_
 refine sr [(1, { n := (slices_1).length })] [0, 3, 9, 10, 11] [] 1 [.sl false 1 (List.map (fun l => AV.sl false 6 (l.map e_T_api_Event)) slices_1), Ii 0, .sl false 1 (List.map (fun l => AV.sl false 6 (l.map e_T_api_Event)) slices_1), Ii (lN (slices_1)), Ii 0] [] hmix (ac (vc_len _ : ((List.map (fun l => AV.sl false 6 (l.map e_T_api_Event)) slices_1)).length = (slices_1).length) an) ?_
 obtain ⟨o_1, h_1, h⟩ := bind_some h
 refine aw_mid (mk [(0, .sl false 1 (List.map (fun l => AV.sl false 6 (l.map e_T_api_Event)) slices_1)), (3, Ii o_1)] [] 0) ?_ ?_
 ·replace h := h_1
  refine aw_block (id := 0) (by kernel_rfl) ?_
  refine wk [] [] [.s 0, .s 3, .s 9, .s 10, .s 11] [] [(0, .sl false 1 (List.map (fun l => AV.sl false 6 (l.map e_T_api_Event)) slices_1)), (3, Ii 0), (9, .sl false 1 (List.map (fun l => AV.sl false 6 (l.map e_T_api_Event)) slices_1)), (10, Ii (lN (slices_1))), (11, Ii 0)] [] an ?_
  refine aw_loopF (fun n st => ∃ (size_1 : Int), ∃ (v_1 : Int), st = mk [(0, .sl false 1 (List.map (fun l => AV.sl false 6 (l.map e_T_api_Event)) slices_1)), (3, Ii size_1), (9, .sl false 1 (List.map (fun l => AV.sl false 6 (l.map e_T_api_Event)) slices_1)), (10, Ii (lN (slices_1))), (11, Ii v_1)] [] 0 ∧ slices_Concat_tracebook_api_Event_tracebook_api_Event_L1 F slices_1 n size_1 v_1 = some o_1) F (by kernel_rfl) ⟨_, _, rfl, h⟩ ?_ ?_
  ·rintro _ ⟨_, _, _, h⟩; exact none_ne (h : (none : Option Int) = some o_1)
  rintro n_1 _ ⟨size_1, v_1, rfl, h⟩
  replace h : slices_Concat_tracebook_api_Event_tracebook_api_Event_L1_body F slices_1 (slices_Concat_tracebook_api_Event_tracebook_api_Event_L1 F slices_1 n_1) size_1 v_1 = some o_1 := h
  unfold slices_Concat_tracebook_api_Event_tracebook_api_Event_L1_body at h
  refine sr [] [0, 3, 9, 10, 11, 12] [] 0 [.sl false 1 (List.map (fun l => AV.sl false 6 (l.map e_T_api_Event)) slices_1), Ii size_1, .sl false 1 (List.map (fun l => AV.sl false 6 (l.map e_T_api_Event)) slices_1), Ii (lN (slices_1)), Ii v_1, .bool (decide (v_1 < (lN (slices_1))))] [] hmix an ?_
  refine sq ?_
  refine cd 12 (decide (v_1 < (lN (slices_1)))) ?_ ?_
  rotate_left
  ·intro g_1; replace h := cond_f g_1 h
   refine aw_exit (id := 0) (by kernel_rfl) ?_
   cases h
   exact ⟨rfl, (sw [] [] [.s 0, .s 3] [] an)⟩
  intro g_1; replace h := cond_t g_1 h
  refine sk ?_
  refine sq ?_
  refine aw_block (id := 1) (by kernel_rfl) ?_
  refine sq ?_
  obtain ⟨x_1, h_2, h⟩ := bind_some h
  refine rg [(0, { av := .sl false 6 (Mp e_T_api_Event x_1) })] [0, 3, 5, 9, 10, 11] [] 0 [.sl false 1 (List.map (fun l => AV.sl false 6 (l.map e_T_api_Event)) slices_1), Ii size_1, .sl false 6 (Mp e_T_api_Event x_1), .sl false 1 (List.map (fun l => AV.sl false 6 (l.map e_T_api_Event)) slices_1), Ii (lN (slices_1)), Ii v_1] [] hmix (ac (vc_idx h_2 : idxA (List.map (fun l => AV.sl false 6 (l.map e_T_api_Event)) slices_1) v_1 = some (.sl false 6 (Mp e_T_api_Event x_1))) an) ?_
  refine sr [(2, { n := (x_1).length })] [0, 3, 9, 10, 11] [] 0 [.sl false 1 (List.map (fun l => AV.sl false 6 (l.map e_T_api_Event)) slices_1), Ii (w_i64 (size_1 + (lN (x_1)))), .sl false 1 (List.map (fun l => AV.sl false 6 (l.map e_T_api_Event)) slices_1), Ii (lN (slices_1)), Ii v_1] [] hmix (ac (vc_len _ : ((Mp e_T_api_Event x_1)).length = (x_1).length) an) ?_
  refine sr [] [0, 3, 9, 10, 11, 20] [] 0 [.sl false 1 (List.map (fun l => AV.sl false 6 (l.map e_T_api_Event)) slices_1), Ii (w_i64 (size_1 + (lN (x_1)))), .sl false 1 (List.map (fun l => AV.sl false 6 (l.map e_T_api_Event)) slices_1), Ii (lN (slices_1)), Ii v_1, .bool (decide ((w_i64 (size_1 + (lN (x_1)))) < (0 : Int)))] [] hmix an ?_
  refine cd 20 (decide ((w_i64 (size_1 + (lN (x_1)))) < (0 : Int))) ?_ ?_
  ·intro g_2; replace h := cond_t g_2 h
   exact none_ne h
  intro g_2; replace h := cond_f g_2 h
  refine sk ?_
  refine rg [] [0, 3, 9, 10, 11] [] 0 [.sl false 1 (List.map (fun l => AV.sl false 6 (l.map e_T_api_Event)) slices_1), Ii (w_i64 (size_1 + (lN (x_1)))), .sl false 1 (List.map (fun l => AV.sl false 6 (l.map e_T_api_Event)) slices_1), Ii (lN (slices_1)), Ii (w_i64 (v_1 + (1 : Int)))] [] hmix an ?_
  exact ⟨_, (sw [] [] [.s 0, .s 3, .s 9, .s 10, .s 11] [] an), _, _, rfl, h⟩
 refine sq ?_
 obtain ⟨r_1, h_3, h⟩ := bind_some h
 refine rg [(1, { av := .own 0 ((r_1).length), ids := [0], l := [.nilsl, Ii o_1], post := [(.row 33 6 (Mp e_T_api_Event r_1))] })] [0, 6] [0] 1 [.sl false 1 (List.map (fun l => AV.sl false 6 (l.map e_T_api_Event)) slices_1), .own 0 ((r_1).length)] [Rb 33 6 (Mp e_T_api_Event r_1)] hmix (ar ([.nilsl, Ii o_1] : List AV) (ac (rfl : ([] : List BoxSt) = []) (ac (slices_Grow_tracebook_api_Event_tracebook_api_Event_ok o_1 r_1 h_3 : TripleG prog 70 [] [] [.nilsl, Ii o_1] [(.row 33 6 (Mp e_T_api_Event r_1))] (.own 0 ((r_1).length))) an))) ?_
 refine sq ?_
 refine sr [(1, { n := (slices_1).length })] [6, 25, 26, 27] [0] 1 [.own 0 ((r_1).length), .sl false 1 (List.map (fun l => AV.sl false 6 (l.map e_T_api_Event)) slices_1), Ii (lN (slices_1)), Ii 0] [Rb 33 6 (Mp e_T_api_Event r_1)] hmix (ac (vc_len _ : ((List.map (fun l => AV.sl false 6 (l.map e_T_api_Event)) slices_1)).length = (slices_1).length) an) ?_
 obtain ⟨o_2, h_4, h⟩ := bind_some h
 refine aw_mid (mk [(6, .own 0 ((o_2).length))] [(0, Rb 33 6 (Mp e_T_api_Event o_2))] 1) ?_ ?_
 ·replace h := h_4
  refine aw_block (id := 2) (by kernel_rfl) ?_
  refine wk [0] [] [.s 6, .s 25, .s 26, .s 27] [.s 0] [(6, .own 0 ((r_1).length)), (25, .sl false 1 (List.map (fun l => AV.sl false 6 (l.map e_T_api_Event)) slices_1)), (26, Ii (lN (slices_1))), (27, Ii 0)] [(0, Rb 33 6 (Mp e_T_api_Event r_1))] an ?_
  refine aw_loopF (fun n st => ∃ (v_2 : Int), ∃ (row_1 : List T_api_Event), st = mk [(6, .own 0 ((row_1).length)), (25, .sl false 1 (List.map (fun l => AV.sl false 6 (l.map e_T_api_Event)) slices_1)), (26, Ii (lN (slices_1))), (27, Ii v_2)] [(0, Rb 33 6 (Mp e_T_api_Event row_1))] 1 ∧ slices_Concat_tracebook_api_Event_tracebook_api_Event_L2 F slices_1 n v_2 row_1 = some o_2) F (by kernel_rfl) ⟨_, _, rfl, h⟩ ?_ ?_
  ·rintro _ ⟨_, _, _, h⟩; exact none_ne (h : (none : Option (List T_api_Event)) = some o_2)
  rintro n_2 _ ⟨v_2, row_1, rfl, h⟩
  replace h : slices_Concat_tracebook_api_Event_tracebook_api_Event_L2_body F slices_1 (slices_Concat_tracebook_api_Event_tracebook_api_Event_L2 F slices_1 n_2) v_2 row_1 = some o_2 := h
  unfold slices_Concat_tracebook_api_Event_tracebook_api_Event_L2_body at h
  refine sr [] [6, 25, 26, 27, 28] [0] 1 [.own 0 ((row_1).length), .sl false 1 (List.map (fun l => AV.sl false 6 (l.map e_T_api_Event)) slices_1), Ii (lN (slices_1)), Ii v_2, .bool (decide (v_2 < (lN (slices_1))))] [Rb 33 6 (Mp e_T_api_Event row_1)] hmix an ?_
  refine sq ?_
  refine cd 28 (decide (v_2 < (lN (slices_1)))) ?_ ?_
  rotate_left
  ·intro g_3; replace h := cond_f g_3 h
   refine aw_exit (id := 2) (by kernel_rfl) ?_
   cases h
   exact ⟨rfl, (sw [0] [] [.s 6] [.s 0] an)⟩
  intro g_3; replace h := cond_t g_3 h
  refine sk ?_
  refine sq ?_
  refine aw_block (id := 3) (by kernel_rfl) ?_
  refine sq ?_
  obtain ⟨x_2, h_5, h⟩ := bind_some h
  refine rg [(0, { av := .sl false 6 (Mp e_T_api_Event x_2) })] [6, 8, 25, 26, 27] [0] 1 [.own 0 ((row_1).length), .sl false 6 (Mp e_T_api_Event x_2), .sl false 1 (List.map (fun l => AV.sl false 6 (l.map e_T_api_Event)) slices_1), Ii (lN (slices_1)), Ii v_2] [Rb 33 6 (Mp e_T_api_Event row_1)] hmix (ac (vc_idx h_5 : idxA (List.map (fun l => AV.sl false 6 (l.map e_T_api_Event)) slices_1) v_2 = some (.sl false 6 (Mp e_T_api_Event x_2))) an) ?_
  obtain ⟨_, h_6, h⟩ := bind_some h; replace h_6 := need_some h_6
  refine rg [(2, { id := 1, l := (Mp e_T_api_Event (row_1 ++ x_2)), n := ((row_1 ++ x_2)).length })] [6, 25, 26, 27] [1] 2 [.own 1 (((row_1 ++ x_2)).length), .sl false 1 (List.map (fun l => AV.sl false 6 (l.map e_T_api_Event)) slices_1), Ii (lN (slices_1)), Ii v_2] [Rb 33 6 (Mp e_T_api_Event (row_1 ++ x_2))] hmix (ac (by first | (simp; done) | (simp; omega) : (row_1).length = ((List.map e_T_api_Event row_1)).length) (ac (trivial : True) (ac (vc_app _ _ : (Mp e_T_api_Event (row_1 ++ x_2)) = (Mp e_T_api_Event row_1) ++ (Mp e_T_api_Event x_2)) (ac (by simp : ((row_1 ++ x_2)).length = ((List.map e_T_api_Event (row_1 ++ x_2))).length) (ac (by first | (simp; done) | simpa using h_6 : (((List.map e_T_api_Event row_1) : List AV).length + ((List.map e_T_api_Event x_2) : List AV).length) * 72 ≤ 140737488355328) an))))) ?_
  refine rg [] [6, 25, 26, 27] [1] 2 [.own 1 (((row_1 ++ x_2)).length), .sl false 1 (List.map (fun l => AV.sl false 6 (l.map e_T_api_Event)) slices_1), Ii (lN (slices_1)), Ii (w_i64 (v_2 + (1 : Int)))] [Rb 33 6 (Mp e_T_api_Event (row_1 ++ x_2))] hmix an ?_
  exact ⟨_, (sw [1] [] [.s 6, .s 25, .s 26, .s 27] [.s 0] an), _, _, rfl, h⟩
 refine sr [] [2] [0] 1 [.own 0 ((o_2).length)] [Rb 33 6 (Mp e_T_api_Event o_2)] hmix an ?_
 refine wk [0] [] [.s 2] [.s 0] [(2, .own 0 ((o_2).length))] [(0, Rb 33 6 (Mp e_T_api_Event o_2))] an ?_
 refine rt ?_
 cases h
 exact ⟨.inr rfl, Nat.le_of_ble_eq_true rfl, by kernel_rfl⟩

theorem packet_Join_ok (F : Nat) (a_1 : T_api_Packet) (b_1 : T_api_Packet) (r : T_api_Packet × Bool) (h : packet_Join F a_1 b_1 = some r) : TripleG prog 21 [] [] [e_T_api_Packet a_1, e_T_api_Packet b_1] [] (.tuple [e_T_api_Packet r.1, .bool r.2]) := by
 refine triple_intro (fn := Go.Proofs.Try.f21) (code := codeOf Go.Proofs.Try.f21) (by kernel_rfl) (by kernel_rfl) (Nat.le_of_ble_eq_true (by kernel_rfl)) ?_
 unfold packet_Join at h
 refine sr [(0, { id := 0 }), (1, { id := 1 }), (2, { id := 2 })] [2, 3, 4] [0, 1, 2] 3 [Pp 0, Pp 1, Pp 2] [Vb 24 (v_T_api_Packet a_1), Vb 24 (v_T_api_Packet b_1), Vb 24 [Ii 0, Ii 0, Ii 0, .nilsl]] hmix an ?_
 refine sq ?_
 refine sq ?_
 obtain ⟨p_1, h_3, h⟩ := bind_some h
 refine aw_mid (mk [(2, Pp 0), (3, Pp 1), (4, Pp 2), (37, .bool p_1)] [(0, Vb 24 (v_T_api_Packet a_1)), (1, Vb 24 (v_T_api_Packet b_1)), (2, Vb 24 [Ii 0, Ii 0, Ii 0, .nilsl])] 3) ?_ ?_
 ·replace h := h_3
  obtain ⟨r_1, h_1, h⟩ := bind_some h
  rcases bft (r_1 != (0 : Int)) with gg_1 | gg_1
  ·replace h := cond_t gg_1 h
   refine rg [(1, { av := Ii r_1, l := [e_T_api_Packet a_1] }), (4, Hg), (5, Hg), (6, Hg), (7, Ht), (9, Hg), (10, Hg), (11, Hg), (12, Hg), (13, Hg), (14, Ht), (16, Hg), (17, Hg), (18, Hg), (19, Ht), (21, Hg), (22, Hg), (23, Hg), (24, Hg), (25, Hg), (26, Hg), (27, Hg), (28, Hg), (29, Hg), (30, Ht)] [2, 3, 4, 37] [0, 1, 2] 3 [Pp 0, Pp 1, Pp 2, .bool true] [Vb 24 (v_T_api_Packet a_1), Vb 24 (v_T_api_Packet b_1), Vb 24 [Ii 0, Ii 0, Ii 0, .nilsl]] hmix (ar ([e_T_api_Packet a_1] : List AV) (ac (rfl : ([] : List BoxSt) = []) (ac (packet_Check_ok F a_1 r_1 h_1 : TripleG prog 13 [] [] [e_T_api_Packet a_1] [] (Ii r_1)) (ac gg_1 (ac gg_1 (ac gg_1 (ac gg_1 (ax (ax (ax (ax (ax (ar true (ax (ax (ax (ar true (ax (ax (ax (ax (ax (ax (ax (ax (ax (ar true an))))))))))))))))))))))))))) ?_
   cases h
   exact ⟨rfl, (sw [0, 1, 2] [] [.s 2, .s 3, .s 4, .s 37] [.s 0, .s 1, .s 2] an)⟩
  ·replace h := cond_f gg_1 h
   obtain ⟨r_2, h_2, h⟩ := bind_some h
   rcases bft (r_2 != (0 : Int)) with gg_2 | gg_2
   ·replace h := cond_t gg_2 h
    refine rg [(1, { av := Ii r_1, l := [e_T_api_Packet a_1] }), (5, { av := Ii r_2, l := [e_T_api_Packet b_1] }), (7, Hf), (9, Hg), (10, Hg), (11, Hg), (12, Hg), (13, Hg), (14, Ht), (16, Hg), (17, Hg), (18, Hg), (19, Ht), (21, Hg), (22, Hg), (23, Hg), (24, Hg), (25, Hg), (26, Hg), (27, Hg), (28, Hg), (29, Hg), (30, Ht)] [2, 3, 4, 37] [0, 1, 2] 3 [Pp 0, Pp 1, Pp 2, .bool true] [Vb 24 (v_T_api_Packet a_1), Vb 24 (v_T_api_Packet b_1), Vb 24 [Ii 0, Ii 0, Ii 0, .nilsl]] hmix (ar ([e_T_api_Packet a_1] : List AV) (ac (rfl : ([] : List BoxSt) = []) (ac (packet_Check_ok F a_1 r_1 h_1 : TripleG prog 13 [] [] [e_T_api_Packet a_1] [] (Ii r_1)) (ac gg_1 (ac gg_1 (ar ([e_T_api_Packet b_1] : List AV) (ac (rfl : ([] : List BoxSt) = []) (ac (packet_Check_ok F b_1 r_2 h_2 : TripleG prog 13 [] [] [e_T_api_Packet b_1] [] (Ii r_2)) (ac gg_1 (ac gg_1 (ac gg_2 (ac gg_2 (ac gg_2 (ac gg_2 (ac gg_2 (ac gg_2 (ax (ax (ax (ar true (ax (ax (ax (ax (ax (ax (ax (ax (ax (ar true an)))))))))))))))))))))))))))))) ?_
    cases h
    exact ⟨rfl, (sw [0, 1, 2] [] [.s 2, .s 3, .s 4, .s 37] [.s 0, .s 1, .s 2] an)⟩
   ·replace h := cond_f gg_2 h
    rcases bft (a_1.Thread != b_1.Thread) with gg_3 | gg_3
    ·replace h := cond_t gg_3 h
     refine rg [(1, { av := Ii r_1, l := [e_T_api_Packet a_1] }), (5, { av := Ii r_2, l := [e_T_api_Packet b_1] }), (7, Hf), (14, Hf), (16, Hg), (17, Hg), (18, Hg), (19, Ht), (21, Hg), (22, Hg), (23, Hg), (24, Hg), (25, Hg), (26, Hg), (27, Hg), (28, Hg), (29, Hg), (30, Ht)] [2, 3, 4, 37] [0, 1, 2] 3 [Pp 0, Pp 1, Pp 2, .bool true] [Vb 24 (v_T_api_Packet a_1), Vb 24 (v_T_api_Packet b_1), Vb 24 [Ii 0, Ii 0, Ii 0, .nilsl]] hmix (ar ([e_T_api_Packet a_1] : List AV) (ac (rfl : ([] : List BoxSt) = []) (ac (packet_Check_ok F a_1 r_1 h_1 : TripleG prog 13 [] [] [e_T_api_Packet a_1] [] (Ii r_1)) (ac gg_1 (ac gg_1 (ar ([e_T_api_Packet b_1] : List AV) (ac (rfl : ([] : List BoxSt) = []) (ac (packet_Check_ok F b_1 r_2 h_2 : TripleG prog 13 [] [] [e_T_api_Packet b_1] [] (Ii r_2)) (ac gg_1 (ac gg_1 (ac gg_2 (ac gg_2 (ac gg_2 (ac gg_2 (ac gg_2 (ac gg_2 (ac gg_3 (ac gg_3 (ac gg_3 (ac gg_3 (ax (ax (ax (ax (ax (ax (ax (ax (ax (ar true an)))))))))))))))))))))))))))))) ?_
     cases h
     exact ⟨rfl, (sw [0, 1, 2] [] [.s 2, .s 3, .s 4, .s 37] [.s 0, .s 1, .s 2] an)⟩
    ·replace h := cond_f gg_3 h
     rcases bft (b_1.Lost != (0 : Int)) with gg_4 | gg_4
     ·replace h := cond_t gg_4 h
      refine rg [(1, { av := Ii r_1, l := [e_T_api_Packet a_1] }), (5, { av := Ii r_2, l := [e_T_api_Packet b_1] }), (7, Hf), (14, Hf), (19, Hf), (21, Hg), (22, Hg), (23, Hg), (24, Hg), (25, Hg), (26, Hg), (27, Hg), (28, Hg), (29, Hg), (30, Ht)] [2, 3, 4, 37] [0, 1, 2] 3 [Pp 0, Pp 1, Pp 2, .bool true] [Vb 24 (v_T_api_Packet a_1), Vb 24 (v_T_api_Packet b_1), Vb 24 [Ii 0, Ii 0, Ii 0, .nilsl]] hmix (ar ([e_T_api_Packet a_1] : List AV) (ac (rfl : ([] : List BoxSt) = []) (ac (packet_Check_ok F a_1 r_1 h_1 : TripleG prog 13 [] [] [e_T_api_Packet a_1] [] (Ii r_1)) (ac gg_1 (ac gg_1 (ar ([e_T_api_Packet b_1] : List AV) (ac (rfl : ([] : List BoxSt) = []) (ac (packet_Check_ok F b_1 r_2 h_2 : TripleG prog 13 [] [] [e_T_api_Packet b_1] [] (Ii r_2)) (ac gg_1 (ac gg_1 (ac gg_2 (ac gg_2 (ac gg_2 (ac gg_2 (ac gg_2 (ac gg_2 (ac gg_3 (ac gg_3 (ac gg_3 (ac gg_3 (ac gg_4 (ac gg_4 (ac gg_4 (ac gg_4 (ac gg_4 (ac gg_4 (ac gg_4 (ac gg_4 (ac gg_4 (ac gg_4 an)))))))))))))))))))))))))))))) ?_
      cases h
      exact ⟨rfl, (sw [0, 1, 2] [] [.s 2, .s 3, .s 4, .s 37] [.s 0, .s 1, .s 2] an)⟩
     ·replace h := cond_f gg_4 h
      refine rg [(1, { av := Ii r_1, l := [e_T_api_Packet a_1] }), (5, { av := Ii r_2, l := [e_T_api_Packet b_1] }), (7, Hf), (14, Hf), (19, Hf), (27, { n := (a_1.Events).length }), (30, Hf)] [2, 3, 4, 37] [0, 1, 2] 3 [Pp 0, Pp 1, Pp 2, .bool (b_1.Serial != (w_i64 (a_1.Serial + (lN (a_1.Events)))))] [Vb 24 (v_T_api_Packet a_1), Vb 24 (v_T_api_Packet b_1), Vb 24 [Ii 0, Ii 0, Ii 0, .nilsl]] hmix (ar ([e_T_api_Packet a_1] : List AV) (ac (rfl : ([] : List BoxSt) = []) (ac (packet_Check_ok F a_1 r_1 h_1 : TripleG prog 13 [] [] [e_T_api_Packet a_1] [] (Ii r_1)) (ac gg_1 (ac gg_1 (ar ([e_T_api_Packet b_1] : List AV) (ac (rfl : ([] : List BoxSt) = []) (ac (packet_Check_ok F b_1 r_2 h_2 : TripleG prog 13 [] [] [e_T_api_Packet b_1] [] (Ii r_2)) (ac gg_1 (ac gg_1 (ac gg_2 (ac gg_2 (ac gg_2 (ac gg_2 (ac gg_2 (ac gg_2 (ac gg_3 (ac gg_3 (ac gg_3 (ac gg_3 (ac gg_4 (ac gg_4 (ac gg_4 (ac gg_4 (ac gg_4 (ac gg_4 (ac gg_4 (ac (vc_len _ : ((Mp e_T_api_Event a_1.Events)).length = (a_1.Events).length) (ac gg_4 (ac gg_4 (ac gg_4 an))))))))))))))))))))))))))))))) ?_
      cases h
      exact ⟨rfl, (sw [0, 1, 2] [] [.s 2, .s 3, .s 4, .s 37] [.s 0, .s 1, .s 2] an)⟩
 refine cd 37 p_1 ?_ ?_
 ·intro g_1; replace h := cond_t g_1 h
  refine sr [] [4, 5] [2] 3 [Pp 2, .bool false] [Vb 24 [Ii 0, Ii 0, Ii 0, .nilsl]] hmix an ?_
  refine wk [2] [] [.s 4, .s 5] [.a 0 (Vb 24 (v_T_api_Packet (⟨(0 : Int), (0 : Int), (0 : Int), []⟩ : T_api_Packet)))] [(4, Pp 0), (5, .bool false)] [(0, Vb 24 (v_T_api_Packet (⟨(0 : Int), (0 : Int), (0 : Int), []⟩ : T_api_Packet)))] (ar 24 (ac (rfl : ones [Ii ((⟨(0 : Int), (0 : Int), (0 : Int), []⟩ : T_api_Packet).Thread), Ii ((⟨(0 : Int), (0 : Int), (0 : Int), []⟩ : T_api_Packet).Serial), Ii ((⟨(0 : Int), (0 : Int), (0 : Int), []⟩ : T_api_Packet).Lost), .sl false 6 (Mp e_T_api_Event ((⟨(0 : Int), (0 : Int), (0 : Int), []⟩ : T_api_Packet).Events))] = true) (ac (rfl : (Ii 0 : AV) = Ii ((⟨(0 : Int), (0 : Int), (0 : Int), []⟩ : T_api_Packet).Thread)) (ac (rfl : (Ii 0 : AV) = Ii ((⟨(0 : Int), (0 : Int), (0 : Int), []⟩ : T_api_Packet).Serial)) (ac (rfl : (Ii 0 : AV) = Ii ((⟨(0 : Int), (0 : Int), (0 : Int), []⟩ : T_api_Packet).Lost)) (ac (rfl : ((Mp e_T_api_Event ((⟨(0 : Int), (0 : Int), (0 : Int), []⟩ : T_api_Packet).Events)) : List AV) = []) an)))))) ?_
  refine rt ?_
  cases h
  exact ⟨.inr rfl, Nat.le_of_ble_eq_true rfl, by kernel_rfl⟩
 intro g_1; replace h := cond_f g_1 h
 refine sk ?_
 refine sr [(1, { id := 3 })] [2, 3, 4, 6] [0, 1, 2, 3] 4 [Pp 0, Pp 1, Pp 2, Pp 3] [Vb 24 (v_T_api_Packet a_1), Vb 24 (v_T_api_Packet b_1), Vb 24 [Ii 0, Ii 0, Ii 0, .nilsl], Vb 24 (v_T_api_Packet a_1)] hmix an ?_
 refine sq ?_
 obtain ⟨r_3, h_4, h⟩ := bind_some h
 refine rg [(4, { id := 4 }), (5, { av := .own 0 ((r_3).length), frz := [4], ids := [5], l := [.sl false 1 (List.map (fun l => AV.sl false 6 (l.map e_T_api_Event)) ([a_1.Events, b_1.Events] : List (List (T_api_Event))))], post := [(.row 33 6 (Mp e_T_api_Event r_3))] })] [2, 3, 4, 6] [0, 1, 2, 3, 5] 6 [Pp 0, Pp 1, Pp 2, Pp 3] [Vb 24 (v_T_api_Packet a_1), Vb 24 (v_T_api_Packet b_1), Vb 24 [Ii 0, Ii 0, Ii 0, .nilsl], Vb 24 [Ii a_1.Thread, Ii a_1.Serial, Ii a_1.Lost, .own 5 ((r_3).length)], Rb 33 6 (Mp e_T_api_Event r_3)] hmix (ac (by first | (simp; done) | (simp; omega) : 2 = ((List.map (fun l => AV.sl false 6 (l.map e_T_api_Event)) ([a_1.Events, b_1.Events] : List (List (T_api_Event))))).length) (ar ([.sl false 1 (List.map (fun l => AV.sl false 6 (l.map e_T_api_Event)) ([a_1.Events, b_1.Events] : List (List (T_api_Event))))] : List AV) (ac (rfl : ([] : List BoxSt) = []) (ac (slices_Concat_tracebook_api_Event_tracebook_api_Event_ok F ([a_1.Events, b_1.Events] : List (List (T_api_Event))) r_3 h_4 : TripleG prog 44 [] [] [.sl false 1 (List.map (fun l => AV.sl false 6 (l.map e_T_api_Event)) ([a_1.Events, b_1.Events] : List (List (T_api_Event))))] [(.row 33 6 (Mp e_T_api_Event r_3))] (.own 0 ((r_3).length))) an)))) ?_
 refine sq ?_
 refine sq ?_
 obtain ⟨p_2, h_7, h⟩ := bind_some h
 refine aw_mid (mk [(4, Pp 0), (6, Pp 1), (67, .bool p_2)] [(0, Vb 24 [Ii 0, Ii 0, Ii 0, .nilsl]), (1, Vb 24 [Ii a_1.Thread, Ii a_1.Serial, Ii a_1.Lost, .own 2 ((r_3).length)]), (2, Rb 33 6 (Mp e_T_api_Event r_3))] 3) ?_ ?_
 ·replace h := h_7
  obtain ⟨x_1, h_5, h⟩ := bind_some h
  obtain ⟨x_2, h_6, h⟩ := bind_some h
  rcases bft (decide (x_1.At < x_2.At)) with gg_5 | gg_5
  ·replace h := cond_t gg_5 h
   refine rg [(2, { av := e_T_api_Event x_1 }), (9, { n := (a_1.Events).length }), (11, { av := e_T_api_Event x_2 }), (16, Hg), (17, Hg), (18, Hg), (19, Hg), (20, Ht)] [4, 6, 67] [2, 3, 5] 6 [Pp 2, Pp 3, .bool true] [Vb 24 [Ii 0, Ii 0, Ii 0, .nilsl], Vb 24 [Ii a_1.Thread, Ii a_1.Serial, Ii a_1.Lost, .own 5 ((r_3).length)], Rb 33 6 (Mp e_T_api_Event r_3)] hmix (ac (vc_idx h_5 : idxA (Mp e_T_api_Event b_1.Events) (0 : Int) = some (e_T_api_Event x_1)) (ac (vc_len _ : ((Mp e_T_api_Event a_1.Events)).length = (a_1.Events).length) (ac (vc_idx h_6 : idxA (Mp e_T_api_Event a_1.Events) (w_i64 ((lN (a_1.Events)) - (1 : Int))) = some (e_T_api_Event x_2)) (ac gg_5 (ac gg_5 (ac gg_5 (ac gg_5 (ac gg_5 an)))))))) ?_
   cases h
   exact ⟨rfl, (sw [2, 3, 5] [] [.s 4, .s 6, .s 67] [.s 0, .s 1, .s 2] an)⟩
  ·replace h := cond_f gg_5 h
   refine rg [(2, { av := e_T_api_Event x_1 }), (9, { n := (a_1.Events).length }), (11, { av := e_T_api_Event x_2 }), (20, Hf)] [4, 6, 67] [2, 3, 5] 6 [Pp 2, Pp 3, .bool (decide ((lN (r_3)) > (1000 : Int)))] [Vb 24 [Ii 0, Ii 0, Ii 0, .nilsl], Vb 24 [Ii a_1.Thread, Ii a_1.Serial, Ii a_1.Lost, .own 5 ((r_3).length)], Rb 33 6 (Mp e_T_api_Event r_3)] hmix (ac (vc_idx h_5 : idxA (Mp e_T_api_Event b_1.Events) (0 : Int) = some (e_T_api_Event x_1)) (ac (vc_len _ : ((Mp e_T_api_Event a_1.Events)).length = (a_1.Events).length) (ac (vc_idx h_6 : idxA (Mp e_T_api_Event a_1.Events) (w_i64 ((lN (a_1.Events)) - (1 : Int))) = some (e_T_api_Event x_2)) (ac gg_5 (ac gg_5 (ac gg_5 (ac gg_5 (ac gg_5 an)))))))) ?_
   cases h
   exact ⟨rfl, (sw [2, 3, 5] [] [.s 4, .s 6, .s 67] [.s 0, .s 1, .s 2] an)⟩
 refine cd 67 p_2 ?_ ?_
 ·intro g_2; replace h := cond_t g_2 h
  refine sr [] [4, 5] [0] 3 [Pp 0, .bool false] [Vb 24 [Ii 0, Ii 0, Ii 0, .nilsl]] hmix an ?_
  refine wk [0] [] [.s 4, .s 5] [.a 0 (Vb 24 (v_T_api_Packet (⟨(0 : Int), (0 : Int), (0 : Int), []⟩ : T_api_Packet)))] [(4, Pp 0), (5, .bool false)] [(0, Vb 24 (v_T_api_Packet (⟨(0 : Int), (0 : Int), (0 : Int), []⟩ : T_api_Packet)))] (ar 24 (ac (rfl : ones [Ii ((⟨(0 : Int), (0 : Int), (0 : Int), []⟩ : T_api_Packet).Thread), Ii ((⟨(0 : Int), (0 : Int), (0 : Int), []⟩ : T_api_Packet).Serial), Ii ((⟨(0 : Int), (0 : Int), (0 : Int), []⟩ : T_api_Packet).Lost), .sl false 6 (Mp e_T_api_Event ((⟨(0 : Int), (0 : Int), (0 : Int), []⟩ : T_api_Packet).Events))] = true) (ac (rfl : (Ii 0 : AV) = Ii ((⟨(0 : Int), (0 : Int), (0 : Int), []⟩ : T_api_Packet).Thread)) (ac (rfl : (Ii 0 : AV) = Ii ((⟨(0 : Int), (0 : Int), (0 : Int), []⟩ : T_api_Packet).Serial)) (ac (rfl : (Ii 0 : AV) = Ii ((⟨(0 : Int), (0 : Int), (0 : Int), []⟩ : T_api_Packet).Lost)) (ac (rfl : ((Mp e_T_api_Event ((⟨(0 : Int), (0 : Int), (0 : Int), []⟩ : T_api_Packet).Events)) : List AV) = []) an)))))) ?_
  refine rt ?_
  cases h
  exact ⟨.inr rfl, Nat.le_of_ble_eq_true rfl, by kernel_rfl⟩
 intro g_2; replace h := cond_f g_2 h
 refine sk ?_
 refine sr [] [4, 5] [0, 2] 3 [Pp 0, .bool true] [Vb 24 [Ii a_1.Thread, Ii a_1.Serial, Ii a_1.Lost, .own 2 ((r_3).length)], Rb 33 6 (Mp e_T_api_Event r_3)] hmix an ?_
 refine wk [0] [2] [.s 4, .s 5] [.a 0 (Vb 24 (v_T_api_Packet (⟨a_1.Thread, a_1.Serial, a_1.Lost, r_3⟩ : T_api_Packet)))] [(4, Pp 0), (5, .bool true)] [(0, Vb 24 (v_T_api_Packet (⟨a_1.Thread, a_1.Serial, a_1.Lost, r_3⟩ : T_api_Packet)))] (ar 24 (ac (rfl : ones [Ii ((⟨a_1.Thread, a_1.Serial, a_1.Lost, r_3⟩ : T_api_Packet).Thread), Ii ((⟨a_1.Thread, a_1.Serial, a_1.Lost, r_3⟩ : T_api_Packet).Serial), Ii ((⟨a_1.Thread, a_1.Serial, a_1.Lost, r_3⟩ : T_api_Packet).Lost), .sl false 6 (Mp e_T_api_Event ((⟨a_1.Thread, a_1.Serial, a_1.Lost, r_3⟩ : T_api_Packet).Events))] = true) (ac (by first | (simp; done) | (simp; omega) : (r_3).length = ((List.map e_T_api_Event r_3)).length) (ac (rfl : (Ii a_1.Thread : AV) = Ii ((⟨a_1.Thread, a_1.Serial, a_1.Lost, r_3⟩ : T_api_Packet).Thread)) (ac (rfl : (Ii a_1.Serial : AV) = Ii ((⟨a_1.Thread, a_1.Serial, a_1.Lost, r_3⟩ : T_api_Packet).Serial)) (ac (rfl : (Ii a_1.Lost : AV) = Ii ((⟨a_1.Thread, a_1.Serial, a_1.Lost, r_3⟩ : T_api_Packet).Lost)) (ar 6 (ac (rfl : ((Mp e_T_api_Event r_3) : List AV) = (Mp e_T_api_Event ((⟨a_1.Thread, a_1.Serial, a_1.Lost, r_3⟩ : T_api_Packet).Events))) (ac (rfl : (!false || false) = true) an))))))))) ?_
 refine rt ?_
 cases h
 exact ⟨.inr rfl, Nat.le_of_ble_eq_true rfl, by kernel_rfl⟩

theorem slices_Clone_tracebook_api_Event_tracebook_api_Event_ok (s_1 : List (T_api_Event)) (r : (List (T_api_Event))) (h : slices_Clone_tracebook_api_Event_tracebook_api_Event s_1 = some r) : TripleG prog 46 [] [] [.sl false 6 (Mp e_T_api_Event s_1)] [.row 33 6 (Mp e_T_api_Event r)] (.own 0 ((r).length)) := by
 refine triple_intro (fn := Go.Proofs.Try.f46) (code := codeOf Go.Proofs.Try.f46) (by kernel_rfl) (by kernel_rfl) (Nat.le_of_ble_eq_true (by kernel_rfl)) ?_
 unfold slices_Clone_tracebook_api_Event_tracebook_api_Event at h
 refine sr [(0, { id := 0, m := 1 })] [0] [] 1 [.sl false 6 (Mp e_T_api_Event s_1)] [] hmix an ?_
 refine sq ?_
 refine sr [] [0, 4] [] 1 [.sl false 6 (Mp e_T_api_Event s_1), .nb (Mp e_T_api_Event s_1)] [] hmix an ?_
 refine aw_condN (t := 4) (l := (Mp e_T_api_Event s_1)) (by kernel_rfl) (by kernel_rfl) ?_ ?_
 ·intro h_2; replace h_2 := List.map_eq_nil_iff.1 h_2
  replace h := Eq.trans (show (some []) = ((need (((([] : List T_api_Event)).length + (s_1).length) * 72 ≤ 140737488355328)).bind fun _ =>
 some ([] ++ s_1)) from by simp [h_2, need]) h
  refine sr [(0, { id := 1, m := 1 })] [2] [1] 2 [.own 1 0] [Rb 33 6 []] hmix an ?_
  refine wk [1] [] [.a 2 (.own 0 ((([] : List T_api_Event)).length))] [.s 0] [(2, .own 0 ((([] : List T_api_Event)).length))] [(0, Rb 33 6 [])] (ac (congrArg (AV.own _) (by first | (simp; done) | (simp; omega)) : (.own 1 0 : AV) = .own 1 ((([] : List T_api_Event)).length)) an) ?_
  refine rt ?_
  cases h
  exact ⟨.inr rfl, Nat.le_of_ble_eq_true rfl, by kernel_rfl⟩
 refine sk ?_
 refine sq ?_
 obtain ⟨_, h_1, h⟩ := bind_some h; replace h_1 := need_some h_1
 refine rg [(0, { id := 1 }), (2, { id := 2, l := (Mp e_T_api_Event ([] ++ s_1)), n := (([] ++ s_1)).length })] [2] [2] 3 [.own 2 ((([] ++ s_1)).length)] [Rb 33 6 (Mp e_T_api_Event ([] ++ s_1))] hmix (ac (by first | (simp; done) | (simp; omega) : 0 = (([] : List AV)).length) (ac (trivial : True) (ac (by simp : (List.map e_T_api_Event ([] ++ s_1)) = [] ++ (List.map e_T_api_Event s_1)) (ac (by simp : (([] ++ s_1)).length = ((List.map e_T_api_Event ([] ++ s_1))).length) (ac (by first | (simp; done) | simpa using h_1 : (([] : List AV).length + ((List.map e_T_api_Event s_1) : List AV).length) * 72 ≤ 140737488355328) an))))) ?_
 refine wk [2] [] [.s 2] [.s 0] [(2, .own 0 ((([] ++ s_1)).length))] [(0, Rb 33 6 (Mp e_T_api_Event ([] ++ s_1)))] an ?_
 refine rt ?_
 cases h
 exact ⟨.inr rfl, Nat.le_of_ble_eq_true rfl, by kernel_rfl⟩

theorem packet_Split_ok (F : Nat) (p_1 : T_api_Packet) (n_1 : Int) (r : T_api_Packet × T_api_Packet × Bool) (h : packet_Split F p_1 n_1 = some r) : TripleG prog 23 [] [] [e_T_api_Packet p_1, Ii n_1] [] (.tuple [e_T_api_Packet r.1, e_T_api_Packet r.2.1, .bool r.2.2]) := by
 refine triple_intro (fn := Go.Proofs.Try.f23) (code := codeOf Go.Proofs.Try.f23) (by kernel_rfl) (by kernel_rfl) (Nat.le_of_ble_eq_true (by kernel_rfl)) ?_
 unfold packet_Split at h
 refine sr [(0, { id := 0 }), (1, { id := 1 }), (2, { id := 2 })] [1, 2, 4, 5] [0, 1, 2] 3 [Ii n_1, Pp 0, Pp 1, Pp 2] [Vb 24 (v_T_api_Packet p_1), Vb 24 [Ii 0, Ii 0, Ii 0, .nilsl], Vb 24 [Ii 0, Ii 0, Ii 0, .nilsl]] hmix an ?_
 refine sq ?_
 refine sq ?_
 obtain ⟨p_2, h_2, h⟩ := bind_some h
 refine aw_mid (mk [(1, Ii n_1), (2, Pp 0), (4, Pp 1), (5, Pp 2), (21, .bool p_2)] [(0, Vb 24 (v_T_api_Packet p_1)), (1, Vb 24 [Ii 0, Ii 0, Ii 0, .nilsl]), (2, Vb 24 [Ii 0, Ii 0, Ii 0, .nilsl])] 3) ?_ ?_
 ·replace h := h_2
  obtain ⟨r_1, h_1, h⟩ := bind_some h
  rcases bft (r_1 != (0 : Int)) with gg_1 | gg_1
  ·replace h := cond_t gg_1 h
   refine rg [(1, { av := Ii r_1, l := [e_T_api_Packet p_1] }), (4, Hg), (5, Hg), (6, Ht), (8, Hg), (9, Hg), (10, Hg), (11, Hg), (12, Hg), (13, Ht)] [1, 2, 4, 5, 21] [0, 1, 2] 3 [Ii n_1, Pp 0, Pp 1, Pp 2, .bool true] [Vb 24 (v_T_api_Packet p_1), Vb 24 [Ii 0, Ii 0, Ii 0, .nilsl], Vb 24 [Ii 0, Ii 0, Ii 0, .nilsl]] hmix (ar ([e_T_api_Packet p_1] : List AV) (ac (rfl : ([] : List BoxSt) = []) (ac (packet_Check_ok F p_1 r_1 h_1 : TripleG prog 13 [] [] [e_T_api_Packet p_1] [] (Ii r_1)) (ac gg_1 (ac gg_1 (ac gg_1 (ax (ax (ax (ax (ax (ar true an)))))))))))) ?_
   cases h
   exact ⟨rfl, (sw [0, 1, 2] [] [.s 1, .s 2, .s 4, .s 5, .s 21] [.s 0, .s 1, .s 2] an)⟩
  ·replace h := cond_f gg_1 h
   rcases bft (decide (n_1 < (1 : Int))) with gg_2 | gg_2
   ·replace h := cond_t gg_2 h
    refine rg [(1, { av := Ii r_1, l := [e_T_api_Packet p_1] }), (6, Hf), (8, Hg), (9, Hg), (10, Hg), (11, Hg), (12, Hg), (13, Ht)] [1, 2, 4, 5, 21] [0, 1, 2] 3 [Ii n_1, Pp 0, Pp 1, Pp 2, .bool true] [Vb 24 (v_T_api_Packet p_1), Vb 24 [Ii 0, Ii 0, Ii 0, .nilsl], Vb 24 [Ii 0, Ii 0, Ii 0, .nilsl]] hmix (ar ([e_T_api_Packet p_1] : List AV) (ac (rfl : ([] : List BoxSt) = []) (ac (packet_Check_ok F p_1 r_1 h_1 : TripleG prog 13 [] [] [e_T_api_Packet p_1] [] (Ii r_1)) (ac gg_1 (ac gg_1 (ac gg_1 (ac gg_2 (ac gg_2 (ac gg_2 (ac gg_2 (ac gg_2 (ac gg_2 an)))))))))))) ?_
    cases h
    exact ⟨rfl, (sw [0, 1, 2] [] [.s 1, .s 2, .s 4, .s 5, .s 21] [.s 0, .s 1, .s 2] an)⟩
   ·replace h := cond_f gg_2 h
    refine rg [(1, { av := Ii r_1, l := [e_T_api_Packet p_1] }), (6, Hf), (11, { n := (p_1.Events).length }), (13, Hf)] [1, 2, 4, 5, 21] [0, 1, 2] 3 [Ii n_1, Pp 0, Pp 1, Pp 2, .bool (decide (n_1 ≥ (lN (p_1.Events))))] [Vb 24 (v_T_api_Packet p_1), Vb 24 [Ii 0, Ii 0, Ii 0, .nilsl], Vb 24 [Ii 0, Ii 0, Ii 0, .nilsl]] hmix (ar ([e_T_api_Packet p_1] : List AV) (ac (rfl : ([] : List BoxSt) = []) (ac (packet_Check_ok F p_1 r_1 h_1 : TripleG prog 13 [] [] [e_T_api_Packet p_1] [] (Ii r_1)) (ac gg_1 (ac gg_1 (ac gg_1 (ac gg_2 (ac gg_2 (ac gg_2 (ac gg_2 (ac (vc_len _ : ((Mp e_T_api_Event p_1.Events)).length = (p_1.Events).length) (ac gg_2 (ac gg_2 an))))))))))))) ?_
    cases h
    exact ⟨rfl, (sw [0, 1, 2] [] [.s 1, .s 2, .s 4, .s 5, .s 21] [.s 0, .s 1, .s 2] an)⟩
 refine cd 21 p_2 ?_ ?_
 ·intro g_1; replace h := cond_t g_1 h
  refine sr [] [4, 5, 6] [1, 2] 3 [Pp 1, Pp 2, .bool false] [Vb 24 [Ii 0, Ii 0, Ii 0, .nilsl], Vb 24 [Ii 0, Ii 0, Ii 0, .nilsl]] hmix an ?_
  refine wk [1, 2] [] [.s 4, .s 5, .s 6] [.a 0 (Vb 24 (v_T_api_Packet (⟨(0 : Int), (0 : Int), (0 : Int), []⟩ : T_api_Packet))), .a 1 (Vb 24 (v_T_api_Packet (⟨(0 : Int), (0 : Int), (0 : Int), []⟩ : T_api_Packet)))] [(4, Pp 0), (5, Pp 1), (6, .bool false)] [(0, Vb 24 (v_T_api_Packet (⟨(0 : Int), (0 : Int), (0 : Int), []⟩ : T_api_Packet))), (1, Vb 24 (v_T_api_Packet (⟨(0 : Int), (0 : Int), (0 : Int), []⟩ : T_api_Packet)))] (ar 24 (ac (rfl : ones [Ii ((⟨(0 : Int), (0 : Int), (0 : Int), []⟩ : T_api_Packet).Thread), Ii ((⟨(0 : Int), (0 : Int), (0 : Int), []⟩ : T_api_Packet).Serial), Ii ((⟨(0 : Int), (0 : Int), (0 : Int), []⟩ : T_api_Packet).Lost), .sl false 6 (Mp e_T_api_Event ((⟨(0 : Int), (0 : Int), (0 : Int), []⟩ : T_api_Packet).Events))] = true) (ac (rfl : (Ii 0 : AV) = Ii ((⟨(0 : Int), (0 : Int), (0 : Int), []⟩ : T_api_Packet).Thread)) (ac (rfl : (Ii 0 : AV) = Ii ((⟨(0 : Int), (0 : Int), (0 : Int), []⟩ : T_api_Packet).Serial)) (ac (rfl : (Ii 0 : AV) = Ii ((⟨(0 : Int), (0 : Int), (0 : Int), []⟩ : T_api_Packet).Lost)) (ac (rfl : ((Mp e_T_api_Event ((⟨(0 : Int), (0 : Int), (0 : Int), []⟩ : T_api_Packet).Events)) : List AV) = []) (ar 24 (ac (rfl : ones [Ii ((⟨(0 : Int), (0 : Int), (0 : Int), []⟩ : T_api_Packet).Thread), Ii ((⟨(0 : Int), (0 : Int), (0 : Int), []⟩ : T_api_Packet).Serial), Ii ((⟨(0 : Int), (0 : Int), (0 : Int), []⟩ : T_api_Packet).Lost), .sl false 6 (Mp e_T_api_Event ((⟨(0 : Int), (0 : Int), (0 : Int), []⟩ : T_api_Packet).Events))] = true) (ac (rfl : (Ii 0 : AV) = Ii ((⟨(0 : Int), (0 : Int), (0 : Int), []⟩ : T_api_Packet).Thread)) (ac (rfl : (Ii 0 : AV) = Ii ((⟨(0 : Int), (0 : Int), (0 : Int), []⟩ : T_api_Packet).Serial)) (ac (rfl : (Ii 0 : AV) = Ii ((⟨(0 : Int), (0 : Int), (0 : Int), []⟩ : T_api_Packet).Lost)) (ac (rfl : ((Mp e_T_api_Event ((⟨(0 : Int), (0 : Int), (0 : Int), []⟩ : T_api_Packet).Events)) : List AV) = []) an)))))))))))) ?_
  refine rt ?_
  cases h
  exact ⟨.inr rfl, Nat.le_of_ble_eq_true rfl, by kernel_rfl⟩
 intro g_1; replace h := cond_f g_1 h
 refine sk ?_
 refine sq ?_
 obtain ⟨_, h_3, h⟩ := bind_some h; replace h_3 := need_some h_3
 obtain ⟨r_2, h_4, h⟩ := bind_some h
 refine rg [(9, { l := (Mp e_T_api_Event (sub p_1.Events n_1 (lN (p_1.Events)))) }), (10, { av := .own 0 ((r_2).length), ids := [3], l := [.sl false 6 (Mp e_T_api_Event (sub p_1.Events n_1 (lN (p_1.Events))))], post := [(.row 33 6 (Mp e_T_api_Event r_2))] }), (12, { id := 4 })] [1, 2, 4, 5, 7] [0, 1, 2, 3, 4] 5 [Ii n_1, Pp 0, Pp 1, Pp 2, Pp 4] [Vb 24 (v_T_api_Packet p_1), Vb 24 [Ii 0, Ii 0, Ii 0, .nilsl], Vb 24 [Ii 0, Ii 0, Ii 0, .nilsl], Rb 33 6 (Mp e_T_api_Event r_2), Vb 24 [Ii p_1.Thread, Ii (w_i64 (p_1.Serial + n_1)), Ii 0, .own 3 ((r_2).length)]] hmix (ac h_3.1 (ac (vc_lenle h_3.2 : n_1 ≤ (lN ((Mp e_T_api_Event p_1.Events)))) (ac (Int.le_refl _ : (lN ((Mp e_T_api_Event p_1.Events))) ≤ (lN ((Mp e_T_api_Event p_1.Events)))) (ac (vc_subn _ _ : (Mp e_T_api_Event (sub p_1.Events n_1 (lN (p_1.Events)))) = (((Mp e_T_api_Event p_1.Events)).take ((lN ((Mp e_T_api_Event p_1.Events)))).toNat).drop (n_1).toNat) (ar ([.sl false 6 (Mp e_T_api_Event (sub p_1.Events n_1 (lN (p_1.Events))))] : List AV) (ac (rfl : ([] : List BoxSt) = []) (ac (slices_Clone_tracebook_api_Event_tracebook_api_Event_ok (sub p_1.Events n_1 (lN (p_1.Events))) r_2 h_4 : TripleG prog 46 [] [] [.sl false 6 (Mp e_T_api_Event (sub p_1.Events n_1 (lN (p_1.Events))))] [(.row 33 6 (Mp e_T_api_Event r_2))] (.own 0 ((r_2).length))) an))))))) ?_
 refine sq ?_
 obtain ⟨_, h_5, h⟩ := bind_some h; replace h_5 := need_some h_5
 obtain ⟨r_3, h_6, h⟩ := bind_some h
 refine rg [(3, { l := (Mp e_T_api_Event (sub p_1.Events (0 : Int) n_1)) }), (4, { av := .own 0 ((r_3).length), ids := [5], l := [.sl false 6 (Mp e_T_api_Event (sub p_1.Events (0 : Int) n_1))], post := [(.row 33 6 (Mp e_T_api_Event r_3))] })] [2, 4, 5, 7] [0, 1, 2, 3, 4, 5] 6 [Pp 0, Pp 1, Pp 2, Pp 4] [Vb 24 [Ii p_1.Thread, Ii p_1.Serial, Ii p_1.Lost, .own 5 ((r_3).length)], Vb 24 [Ii 0, Ii 0, Ii 0, .nilsl], Vb 24 [Ii 0, Ii 0, Ii 0, .nilsl], Rb 33 6 (Mp e_T_api_Event r_2), Vb 24 [Ii p_1.Thread, Ii (w_i64 (p_1.Serial + n_1)), Ii 0, .own 3 ((r_2).length)], Rb 33 6 (Mp e_T_api_Event r_3)] hmix (ac (by decide : (0 : Int) ≤ (0 : Int)) (ac h_5.1 (ac (vc_lenle h_5.2 : n_1 ≤ (lN ((Mp e_T_api_Event p_1.Events)))) (ac (vc_sub _ _ _ : (Mp e_T_api_Event (sub p_1.Events (0 : Int) n_1)) = (((Mp e_T_api_Event p_1.Events)).take (n_1).toNat).drop ((0 : Int)).toNat) (ar ([.sl false 6 (Mp e_T_api_Event (sub p_1.Events (0 : Int) n_1))] : List AV) (ac (rfl : ([] : List BoxSt) = []) (ac (slices_Clone_tracebook_api_Event_tracebook_api_Event_ok (sub p_1.Events (0 : Int) n_1) r_3 h_6 : TripleG prog 46 [] [] [.sl false 6 (Mp e_T_api_Event (sub p_1.Events (0 : Int) n_1))] [(.row 33 6 (Mp e_T_api_Event r_3))] (.own 0 ((r_3).length))) an))))))) ?_
 refine sr [] [4, 5, 6] [1, 2, 3, 5] 6 [Pp 1, Pp 2, .bool true] [Vb 24 [Ii p_1.Thread, Ii p_1.Serial, Ii p_1.Lost, .own 5 ((r_3).length)], Vb 24 [Ii p_1.Thread, Ii (w_i64 (p_1.Serial + n_1)), Ii 0, .own 3 ((r_2).length)], Rb 33 6 (Mp e_T_api_Event r_2), Rb 33 6 (Mp e_T_api_Event r_3)] hmix an ?_
 refine wk [1, 2] [5, 3] [.s 4, .s 5, .s 6] [.a 0 (Vb 24 (v_T_api_Packet (⟨p_1.Thread, p_1.Serial, p_1.Lost, r_3⟩ : T_api_Packet))), .a 1 (Vb 24 (v_T_api_Packet (⟨p_1.Thread, w_i64 (p_1.Serial + n_1), (0 : Int), r_2⟩ : T_api_Packet)))] [(4, Pp 0), (5, Pp 1), (6, .bool true)] [(0, Vb 24 (v_T_api_Packet (⟨p_1.Thread, p_1.Serial, p_1.Lost, r_3⟩ : T_api_Packet))), (1, Vb 24 (v_T_api_Packet (⟨p_1.Thread, w_i64 (p_1.Serial + n_1), (0 : Int), r_2⟩ : T_api_Packet)))] (ar 24 (ac (rfl : ones [Ii ((⟨p_1.Thread, p_1.Serial, p_1.Lost, r_3⟩ : T_api_Packet).Thread), Ii ((⟨p_1.Thread, p_1.Serial, p_1.Lost, r_3⟩ : T_api_Packet).Serial), Ii ((⟨p_1.Thread, p_1.Serial, p_1.Lost, r_3⟩ : T_api_Packet).Lost), .sl false 6 (Mp e_T_api_Event ((⟨p_1.Thread, p_1.Serial, p_1.Lost, r_3⟩ : T_api_Packet).Events))] = true) (ac (by first | (simp; done) | (simp; omega) : (r_3).length = ((List.map e_T_api_Event r_3)).length) (ac (rfl : (Ii p_1.Thread : AV) = Ii ((⟨p_1.Thread, p_1.Serial, p_1.Lost, r_3⟩ : T_api_Packet).Thread)) (ac (rfl : (Ii p_1.Serial : AV) = Ii ((⟨p_1.Thread, p_1.Serial, p_1.Lost, r_3⟩ : T_api_Packet).Serial)) (ac (rfl : (Ii p_1.Lost : AV) = Ii ((⟨p_1.Thread, p_1.Serial, p_1.Lost, r_3⟩ : T_api_Packet).Lost)) (ar 6 (ac (rfl : ((Mp e_T_api_Event r_3) : List AV) = (Mp e_T_api_Event ((⟨p_1.Thread, p_1.Serial, p_1.Lost, r_3⟩ : T_api_Packet).Events))) (ac (rfl : (!false || false) = true) (ar 24 (ac (rfl : ones [Ii ((⟨p_1.Thread, w_i64 (p_1.Serial + n_1), (0 : Int), r_2⟩ : T_api_Packet).Thread), Ii ((⟨p_1.Thread, w_i64 (p_1.Serial + n_1), (0 : Int), r_2⟩ : T_api_Packet).Serial), Ii ((⟨p_1.Thread, w_i64 (p_1.Serial + n_1), (0 : Int), r_2⟩ : T_api_Packet).Lost), .sl false 6 (Mp e_T_api_Event ((⟨p_1.Thread, w_i64 (p_1.Serial + n_1), (0 : Int), r_2⟩ : T_api_Packet).Events))] = true) (ac (by first | (simp; done) | (simp; omega) : (r_2).length = ((List.map e_T_api_Event r_2)).length) (ac (rfl : (Ii p_1.Thread : AV) = Ii ((⟨p_1.Thread, w_i64 (p_1.Serial + n_1), (0 : Int), r_2⟩ : T_api_Packet).Thread)) (ac (rfl : (Ii (w_i64 (p_1.Serial + n_1)) : AV) = Ii ((⟨p_1.Thread, w_i64 (p_1.Serial + n_1), (0 : Int), r_2⟩ : T_api_Packet).Serial)) (ac (rfl : (Ii 0 : AV) = Ii ((⟨p_1.Thread, w_i64 (p_1.Serial + n_1), (0 : Int), r_2⟩ : T_api_Packet).Lost)) (ar 6 (ac (rfl : ((Mp e_T_api_Event r_2) : List AV) = (Mp e_T_api_Event ((⟨p_1.Thread, w_i64 (p_1.Serial + n_1), (0 : Int), r_2⟩ : T_api_Packet).Events))) (ac (rfl : (!false || false) = true) an)))))))))))))))))) ?_
 refine rt ?_
 cases h
 exact ⟨.inr rfl, Nat.le_of_ble_eq_true rfl, by kernel_rfl⟩

theorem R07_Texts_ok (F : Nat) (a_1 : List (List Int)) (b_1 : List (List Int)) (r : Bool) (h : R07_Texts F a_1 b_1 = some r) : TripleG prog 50 [] [] [.sl false 1 (Ms a_1), .sl false 1 (Ms b_1)] [] (.bool r) := by
 refine triple_intro (fn := Go.Proofs.Try.f50) (code := codeOf Go.Proofs.Try.f50) (by kernel_rfl) (by kernel_rfl) (Nat.le_of_ble_eq_true (by kernel_rfl)) ?_
 unfold R07_Texts at h
 refine sr [] [0, 1] [] 0 [.sl false 1 (Ms a_1), .sl false 1 (Ms b_1)] [] hmix an ?_
 refine sq ?_
 refine sr [(1, { n := (a_1).length }), (3, { n := (b_1).length })] [0, 1, 10] [] 0 [.sl false 1 (Ms a_1), .sl false 1 (Ms b_1), .bool ((lN (a_1)) != (lN (b_1)))] [] hmix (ac (vc_len _ : ((Ms a_1)).length = (a_1).length) (ac (vc_len _ : ((Ms b_1)).length = (b_1).length) an)) ?_
 refine cd 10 ((lN (a_1)) != (lN (b_1))) ?_ ?_
 ·intro g_1; replace h := cond_t g_1 h
  refine sr [] [4] [] 0 [.bool false] [] hmix an ?_
  refine rt ?_
  cases h
  exact ⟨.inr rfl, Nat.le_of_ble_eq_true rfl, by kernel_rfl⟩
 intro g_1; replace h := cond_f g_1 h
 refine sk ?_
 refine sq ?_
 refine sr [] [0, 1, 5] [] 0 [.sl false 1 (Ms a_1), .sl false 1 (Ms b_1), Ii 0] [] hmix an ?_
 obtain ⟨o_1, h_1, h⟩ := bind_some h
 refine aw_conv (K1 := (fun e st' => match o_1 with | (.inl q0) => e = .normal ∧ Sub 0 st' (mk [] [] 0) | (.inr q1) => e = .ret ∧ FinR prog Go.Proofs.Try.f50 0 [] (.bool q1) st')) ?_ ?_
 ·replace h := h_1
  refine aw_block (id := 0) (by kernel_rfl) ?_
  refine wk [] [] [.s 0, .s 1, .s 5] [] [(0, .sl false 1 (Ms a_1)), (1, .sl false 1 (Ms b_1)), (5, Ii 0)] [] an ?_
  refine aw_loopF (fun n st => ∃ (i_1 : Int), st = mk [(0, .sl false 1 (Ms a_1)), (1, .sl false 1 (Ms b_1)), (5, Ii i_1)] [] 0 ∧ R07_Texts_L1 F a_1 b_1 n i_1 = some o_1) F (by kernel_rfl) ⟨_, rfl, h⟩ ?_ ?_
  ·rintro _ ⟨_, _, h⟩; exact none_ne (h : (none : Option (Unit ⊕ Bool)) = some o_1)
  rintro n_1 _ ⟨i_1, rfl, h⟩
  replace h : R07_Texts_L1_body F a_1 b_1 (R07_Texts_L1 F a_1 b_1 n_1) i_1 = some o_1 := h
  unfold R07_Texts_L1_body at h
  refine sq ?_
  refine sr [(2, { n := (a_1).length })] [0, 1, 5, 14] [] 0 [.sl false 1 (Ms a_1), .sl false 1 (Ms b_1), Ii i_1, .bool (decide (i_1 < (lN (a_1))))] [] hmix (ac (vc_len _ : ((Ms a_1)).length = (a_1).length) an) ?_
  refine cd 14 (decide (i_1 < (lN (a_1)))) ?_ ?_
  rotate_left
  ·intro g_2; replace h := cond_f g_2 h
   refine aw_exit (id := 0) (by kernel_rfl) ?_
   cases h
   exact ⟨rfl, (sw [] [] [] [] an)⟩
  intro g_2; replace h := cond_t g_2 h
  refine sk ?_
  refine sq ?_
  refine aw_block (id := 1) (by kernel_rfl) ?_
  refine sq ?_
  obtain ⟨x_1, h_2, h⟩ := bind_some h
  obtain ⟨x_2, h_3, h⟩ := bind_some h
  refine rg [(2, { av := .str x_1 }), (6, { av := .str x_2 })] [0, 1, 5, 25] [] 0 [.sl false 1 (Ms a_1), .sl false 1 (Ms b_1), Ii i_1, .bool (!(x_1 == x_2))] [] hmix (ac (vc_idx h_2 : idxA (Ms a_1) i_1 = some (.str x_1)) (ac (vc_idx h_3 : idxA (Ms b_1) i_1 = some (.str x_2)) an)) ?_
  refine cd 25 (!(x_1 == x_2)) ?_ ?_
  rotate_left
  ·intro g_3; replace h := cond_f g_3 h
   refine sk ?_
   refine rg [] [0, 1, 5] [] 0 [.sl false 1 (Ms a_1), .sl false 1 (Ms b_1), Ii (w_i64 (i_1 + (1 : Int)))] [] hmix an ?_
   exact ⟨_, (sw [] [] [.s 0, .s 1, .s 5] [] an), _, rfl, h⟩
  intro g_3; replace h := cond_t g_3 h
  refine sr [] [4] [] 0 [.bool false] [] hmix an ?_
  refine rt ?_
  cases h
  exact ⟨rfl, Nat.le_of_ble_eq_true rfl, by kernel_rfl⟩
 intro e st1 hk
 rcases o_1 with q_1 | q_2
 rotate_left
 ·obtain ⟨rfl, hf⟩ := hk
  cases h
  exact ⟨st1, Sub.refl _ _, .inr rfl, hf⟩
 obtain ⟨rfl, hs⟩ := hk
 refine ⟨_, hs, ?_⟩
 refine sr [] [4] [] 0 [.bool true] [] hmix an ?_
 refine rt ?_
 cases h
 exact ⟨.inr rfl, Nat.le_of_ble_eq_true rfl, by kernel_rfl⟩

theorem R07_Same_ok (F : Nat) (a_1 : T_api_Event) (b_1 : T_api_Event) (r : Bool) (h : R07_Same F a_1 b_1 = some r) : TripleG prog 30 [] [] [e_T_api_Event a_1, e_T_api_Event b_1] [] (.bool r) := by
 refine triple_intro (fn := Go.Proofs.Try.f30) (code := codeOf Go.Proofs.Try.f30) (by kernel_rfl) (by kernel_rfl) (Nat.le_of_ble_eq_true (by kernel_rfl)) ?_
 unfold R07_Same at h
 refine sr [(0, { id := 0 }), (1, { id := 1 })] [2, 3] [0, 1] 2 [Pp 0, Pp 1] [Vb 33 (v_T_api_Event a_1), Vb 33 (v_T_api_Event b_1)] hmix an ?_
 refine sq ?_
 obtain ⟨p_1, h_2, h⟩ := bind_some h
 refine aw_mid (mk [(4, .bool p_1)] [] 0) ?_ ?_
 ·replace h := h_2
  rcases bft (a_1.At == b_1.At) with gg_1 | gg_1
  ·replace h := cond_t gg_1 h
   rcases bft (a_1.Kind == b_1.Kind) with gg_2 | gg_2
   ·replace h := cond_t gg_2 h
    rcases bft (a_1.Name == b_1.Name) with gg_3 | gg_3
    ·replace h := cond_t gg_3 h
     rcases bft (a_1.N == b_1.N) with gg_4 | gg_4
     ·replace h := cond_t gg_4 h
      rcases bft (a_1.M == b_1.M) with gg_5 | gg_5
      ·replace h := cond_t gg_5 h
       obtain ⟨r_1, h_1, h⟩ := bind_some h
       refine rg [(11, Ht), (18, Ht), (25, Ht), (32, Ht), (38, { av := .bool r_1, l := [.sl false 1 (Ms a_1.Stack), .sl false 1 (Ms b_1.Stack)] }), (39, Ht)] [4] [] 2 [.bool r_1] [] hmix (ac gg_1 (ac gg_1 (ac gg_1 (ac gg_1 (ac gg_1 (ac gg_1 (ac gg_2 (ac gg_2 (ac gg_2 (ac gg_2 (ac gg_2 (ac gg_2 (ac gg_3 (ac gg_3 (ac gg_3 (ac gg_3 (ac gg_3 (ac gg_3 (ac gg_4 (ac gg_4 (ac gg_4 (ac gg_4 (ac gg_4 (ac gg_4 (ac gg_5 (ac gg_5 (ac gg_5 (ac gg_5 (ac gg_5 (ar ([.sl false 1 (Ms a_1.Stack), .sl false 1 (Ms b_1.Stack)] : List AV) (ac (rfl : ([] : List BoxSt) = []) (ac (R07_Texts_ok F a_1.Stack b_1.Stack r_1 h_1 : TripleG prog 50 [] [] [.sl false 1 (Ms a_1.Stack), .sl false 1 (Ms b_1.Stack)] [] (.bool r_1)) (ac gg_5 an))))))))))))))))))))))))))))))))) ?_
       cases h
       exact ⟨rfl, (sw [] [] [.s 4] [] an)⟩
      ·replace h := cond_f gg_5 h
       refine rg [(11, Ht), (18, Ht), (25, Ht), (32, Ht), (34, Hg), (35, Hg), (36, Hg), (37, Hg), (38, Hg), (39, Hf)] [4] [] 2 [.bool false] [] hmix (ac gg_1 (ac gg_1 (ac gg_1 (ac gg_1 (ac gg_1 (ac gg_1 (ac gg_2 (ac gg_2 (ac gg_2 (ac gg_2 (ac gg_2 (ac gg_2 (ac gg_3 (ac gg_3 (ac gg_3 (ac gg_3 (ac gg_3 (ac gg_3 (ac gg_4 (ac gg_4 (ac gg_4 (ac gg_4 (ac gg_4 (ac gg_4 (ac gg_5 (ac gg_5 (ac gg_5 (ac gg_5 (ac gg_5 (ac gg_5 an)))))))))))))))))))))))))))))) ?_
       cases h
       exact ⟨rfl, (sw [] [] [.s 4] [] an)⟩
     ·replace h := cond_f gg_4 h
      refine rg [(11, Ht), (18, Ht), (25, Ht), (27, Hg), (28, Hg), (29, Hg), (30, Hg), (31, Hg), (32, Hf), (34, Hg), (35, Hg), (36, Hg), (37, Hg), (38, Hg), (39, Hf)] [4] [] 2 [.bool false] [] hmix (ac gg_1 (ac gg_1 (ac gg_1 (ac gg_1 (ac gg_1 (ac gg_1 (ac gg_2 (ac gg_2 (ac gg_2 (ac gg_2 (ac gg_2 (ac gg_2 (ac gg_3 (ac gg_3 (ac gg_3 (ac gg_3 (ac gg_3 (ac gg_3 (ac gg_4 (ac gg_4 (ac gg_4 (ac gg_4 (ac gg_4 (ac gg_4 (ac (rfl : false = !true) (ac (rfl : false = !true) (ac (rfl : false = !true) (ac (rfl : false = !true) (ac (rfl : false = !true) (ar false an)))))))))))))))))))))))))))))) ?_
      cases h
      exact ⟨rfl, (sw [] [] [.s 4] [] an)⟩
    ·replace h := cond_f gg_3 h
     refine rg [(11, Ht), (18, Ht), (20, Hg), (21, Hg), (22, Hg), (23, Hg), (24, Hg), (25, Hf), (27, Hg), (28, Hg), (29, Hg), (30, Hg), (31, Hg), (32, Hf), (34, Hg), (35, Hg), (36, Hg), (37, Hg), (38, Hg), (39, Hf)] [4] [] 2 [.bool false] [] hmix (ac gg_1 (ac gg_1 (ac gg_1 (ac gg_1 (ac gg_1 (ac gg_1 (ac gg_2 (ac gg_2 (ac gg_2 (ac gg_2 (ac gg_2 (ac gg_2 (ac gg_3 (ac gg_3 (ac gg_3 (ac gg_3 (ac gg_3 (ac gg_3 (ac (rfl : false = !true) (ac (rfl : false = !true) (ac (rfl : false = !true) (ac (rfl : false = !true) (ac (rfl : false = !true) (ar false (ac (rfl : false = !true) (ac (rfl : false = !true) (ac (rfl : false = !true) (ac (rfl : false = !true) (ac (rfl : false = !true) (ar false an)))))))))))))))))))))))))))))) ?_
     cases h
     exact ⟨rfl, (sw [] [] [.s 4] [] an)⟩
   ·replace h := cond_f gg_2 h
    refine rg [(11, Ht), (13, Hg), (14, Hg), (15, Hg), (16, Hg), (17, Hg), (18, Hf), (20, Hg), (21, Hg), (22, Hg), (23, Hg), (24, Hg), (25, Hf), (27, Hg), (28, Hg), (29, Hg), (30, Hg), (31, Hg), (32, Hf), (34, Hg), (35, Hg), (36, Hg), (37, Hg), (38, Hg), (39, Hf)] [4] [] 2 [.bool false] [] hmix (ac gg_1 (ac gg_1 (ac gg_1 (ac gg_1 (ac gg_1 (ac gg_1 (ac gg_2 (ac gg_2 (ac gg_2 (ac gg_2 (ac gg_2 (ac gg_2 (ac (rfl : false = !true) (ac (rfl : false = !true) (ac (rfl : false = !true) (ac (rfl : false = !true) (ac (rfl : false = !true) (ar false (ac (rfl : false = !true) (ac (rfl : false = !true) (ac (rfl : false = !true) (ac (rfl : false = !true) (ac (rfl : false = !true) (ar false (ac (rfl : false = !true) (ac (rfl : false = !true) (ac (rfl : false = !true) (ac (rfl : false = !true) (ac (rfl : false = !true) (ar false an)))))))))))))))))))))))))))))) ?_
    cases h
    exact ⟨rfl, (sw [] [] [.s 4] [] an)⟩
  ·replace h := cond_f gg_1 h
   refine rg [(6, Hg), (7, Hg), (8, Hg), (9, Hg), (10, Hg), (11, Hf), (13, Hg), (14, Hg), (15, Hg), (16, Hg), (17, Hg), (18, Hf), (20, Hg), (21, Hg), (22, Hg), (23, Hg), (24, Hg), (25, Hf), (27, Hg), (28, Hg), (29, Hg), (30, Hg), (31, Hg), (32, Hf), (34, Hg), (35, Hg), (36, Hg), (37, Hg), (38, Hg), (39, Hf)] [4] [] 2 [.bool false] [] hmix (ac gg_1 (ac gg_1 (ac gg_1 (ac gg_1 (ac gg_1 (ac gg_1 (ac (rfl : false = !true) (ac (rfl : false = !true) (ac (rfl : false = !true) (ac (rfl : false = !true) (ac (rfl : false = !true) (ar false (ac (rfl : false = !true) (ac (rfl : false = !true) (ac (rfl : false = !true) (ac (rfl : false = !true) (ac (rfl : false = !true) (ar false (ac (rfl : false = !true) (ac (rfl : false = !true) (ac (rfl : false = !true) (ac (rfl : false = !true) (ac (rfl : false = !true) (ar false (ac (rfl : false = !true) (ac (rfl : false = !true) (ac (rfl : false = !true) (ac (rfl : false = !true) (ac (rfl : false = !true) (ar false an)))))))))))))))))))))))))))))) ?_
   cases h
   exact ⟨rfl, (sw [] [] [.s 4] [] an)⟩
 refine rt ?_
 cases h
 exact ⟨.inr rfl, Nat.le_of_ble_eq_true rfl, by kernel_rfl⟩

theorem R11_Same_ok (F : Nat) (a_1 : T_api_Packet) (b_1 : T_api_Packet) (r : Bool) (h : R11_Same F a_1 b_1 = some r) : TripleG prog 16 [] [] [e_T_api_Packet a_1, e_T_api_Packet b_1] [] (.bool r) := by
 refine triple_intro (fn := Go.Proofs.Try.f16) (code := codeOf Go.Proofs.Try.f16) (by kernel_rfl) (by kernel_rfl) (Nat.le_of_ble_eq_true (by kernel_rfl)) ?_
 unfold R11_Same at h
 refine sr [(0, { id := 0 }), (1, { id := 1 })] [2, 3] [0, 1] 2 [Pp 0, Pp 1] [Vb 24 (v_T_api_Packet a_1), Vb 24 (v_T_api_Packet b_1)] hmix an ?_
 refine sq ?_
 refine sq ?_
 refine aw_mid (mk [(2, Pp 0), (3, Pp 1), (33, .bool ((a_1.Thread != b_1.Thread) || ((a_1.Serial != b_1.Serial) || ((a_1.Lost != b_1.Lost) || ((lN (a_1.Events)) != (lN (b_1.Events)))))))] [(0, Vb 24 (v_T_api_Packet a_1)), (1, Vb 24 (v_T_api_Packet b_1))] 2) ?_ ?_
 ·rcases bft (a_1.Thread != b_1.Thread) with gg_1 | gg_1
  ·refine rg [(6, Hg), (7, Hg), (8, Hg), (9, Hg), (10, Hg), (11, Ht), (13, Hg), (14, Hg), (15, Hg), (16, Hg), (17, Hg), (18, Ht), (20, Hg), (21, Hg), (22, Hg), (23, Hg), (24, Hg), (25, Hg), (26, Hg), (27, Ht)] [2, 3, 33] [0, 1] 2 [Pp 0, Pp 1, .bool true] [Vb 24 (v_T_api_Packet a_1), Vb 24 (v_T_api_Packet b_1)] hmix (ac gg_1 (ac gg_1 (ac gg_1 (ac gg_1 (ac gg_1 (ac gg_1 (ax (ax (ax (ax (ax (ar true (ax (ax (ax (ax (ax (ax (ax (ar true an)))))))))))))))))))) ?_
   exact ⟨rfl, (sw [0, 1] [] [.s 2, .s 3, .a 33 (.bool ((a_1.Thread != b_1.Thread) || ((a_1.Serial != b_1.Serial) || ((a_1.Lost != b_1.Lost) || ((lN (a_1.Events)) != (lN (b_1.Events)))))))] [.s 0, .s 1] (ac (congrArg AV.bool (ort gg_1) : (.bool true : AV) = .bool ((a_1.Thread != b_1.Thread) || ((a_1.Serial != b_1.Serial) || ((a_1.Lost != b_1.Lost) || ((lN (a_1.Events)) != (lN (b_1.Events))))))) an))⟩
  ·rcases bft (a_1.Serial != b_1.Serial) with gg_2 | gg_2
   ·refine rg [(11, Hf), (13, Hg), (14, Hg), (15, Hg), (16, Hg), (17, Hg), (18, Ht), (20, Hg), (21, Hg), (22, Hg), (23, Hg), (24, Hg), (25, Hg), (26, Hg), (27, Ht)] [2, 3, 33] [0, 1] 2 [Pp 0, Pp 1, .bool true] [Vb 24 (v_T_api_Packet a_1), Vb 24 (v_T_api_Packet b_1)] hmix (ac gg_1 (ac gg_1 (ac gg_1 (ac gg_1 (ac gg_1 (ac gg_1 (ac gg_2 (ac gg_2 (ac gg_2 (ac gg_2 (ac gg_2 (ac gg_2 (ax (ax (ax (ax (ax (ax (ax (ar true an)))))))))))))))))))) ?_
    exact ⟨rfl, (sw [0, 1] [] [.s 2, .s 3, .a 33 (.bool ((a_1.Thread != b_1.Thread) || ((a_1.Serial != b_1.Serial) || ((a_1.Lost != b_1.Lost) || ((lN (a_1.Events)) != (lN (b_1.Events)))))))] [.s 0, .s 1] (ac (congrArg AV.bool (orf gg_1 (ort gg_2)) : (.bool true : AV) = .bool ((a_1.Thread != b_1.Thread) || ((a_1.Serial != b_1.Serial) || ((a_1.Lost != b_1.Lost) || ((lN (a_1.Events)) != (lN (b_1.Events))))))) an))⟩
   ·rcases bft (a_1.Lost != b_1.Lost) with gg_3 | gg_3
    ·refine rg [(11, Hf), (18, Hf), (20, Hg), (21, Hg), (22, Hg), (23, Hg), (24, Hg), (25, Hg), (26, Hg), (27, Ht)] [2, 3, 33] [0, 1] 2 [Pp 0, Pp 1, .bool true] [Vb 24 (v_T_api_Packet a_1), Vb 24 (v_T_api_Packet b_1)] hmix (ac gg_1 (ac gg_1 (ac gg_1 (ac gg_1 (ac gg_1 (ac gg_1 (ac gg_2 (ac gg_2 (ac gg_2 (ac gg_2 (ac gg_2 (ac gg_2 (ac gg_3 (ac gg_3 (ac gg_3 (ac gg_3 (ac gg_3 (ac gg_3 (ac gg_3 (ac gg_3 an)))))))))))))))))))) ?_
     exact ⟨rfl, (sw [0, 1] [] [.s 2, .s 3, .a 33 (.bool ((a_1.Thread != b_1.Thread) || ((a_1.Serial != b_1.Serial) || ((a_1.Lost != b_1.Lost) || ((lN (a_1.Events)) != (lN (b_1.Events)))))))] [.s 0, .s 1] (ac (congrArg AV.bool (orf gg_1 (orf gg_2 (ort gg_3))) : (.bool true : AV) = .bool ((a_1.Thread != b_1.Thread) || ((a_1.Serial != b_1.Serial) || ((a_1.Lost != b_1.Lost) || ((lN (a_1.Events)) != (lN (b_1.Events))))))) an))⟩
    ·refine rg [(11, Hf), (18, Hf), (22, { n := (a_1.Events).length }), (25, { n := (b_1.Events).length }), (27, Hf)] [2, 3, 33] [0, 1] 2 [Pp 0, Pp 1, .bool ((lN (a_1.Events)) != (lN (b_1.Events)))] [Vb 24 (v_T_api_Packet a_1), Vb 24 (v_T_api_Packet b_1)] hmix (ac gg_1 (ac gg_1 (ac gg_1 (ac gg_1 (ac gg_1 (ac gg_1 (ac gg_2 (ac gg_2 (ac gg_2 (ac gg_2 (ac gg_2 (ac gg_2 (ac gg_3 (ac gg_3 (ac gg_3 (ac (vc_len _ : ((Mp e_T_api_Event a_1.Events)).length = (a_1.Events).length) (ac gg_3 (ac gg_3 (ac gg_3 (ac (vc_len _ : ((Mp e_T_api_Event b_1.Events)).length = (b_1.Events).length) (ac gg_3 (ac gg_3 an)))))))))))))))))))))) ?_
     exact ⟨rfl, (sw [0, 1] [] [.s 2, .s 3, .a 33 (.bool ((a_1.Thread != b_1.Thread) || ((a_1.Serial != b_1.Serial) || ((a_1.Lost != b_1.Lost) || ((lN (a_1.Events)) != (lN (b_1.Events)))))))] [.s 0, .s 1] (ac (congrArg AV.bool (orf gg_1 (orf gg_2 (orf gg_3 rfl))) : (.bool ((lN (a_1.Events)) != (lN (b_1.Events))) : AV) = .bool ((a_1.Thread != b_1.Thread) || ((a_1.Serial != b_1.Serial) || ((a_1.Lost != b_1.Lost) || ((lN (a_1.Events)) != (lN (b_1.Events))))))) an))⟩
 refine cd 33 ((a_1.Thread != b_1.Thread) || ((a_1.Serial != b_1.Serial) || ((a_1.Lost != b_1.Lost) || ((lN (a_1.Events)) != (lN (b_1.Events)))))) ?_ ?_
 ·intro g_1; replace h := cond_t g_1 h
  refine sr [] [4] [] 2 [.bool false] [] hmix an ?_
  refine rt ?_
  cases h
  exact ⟨.inr rfl, Nat.le_of_ble_eq_true rfl, by kernel_rfl⟩
 intro g_1; replace h := cond_f g_1 h
 refine sk ?_
 refine sq ?_
 refine sr [] [2, 3, 5] [0, 1] 2 [Pp 0, Pp 1, Ii 0] [Vb 24 (v_T_api_Packet a_1), Vb 24 (v_T_api_Packet b_1)] hmix an ?_
 obtain ⟨o_1, h_1, h⟩ := bind_some h
 refine aw_conv (K1 := (fun e st' => match o_1 with | (.inl q0) => e = .normal ∧ Sub 0 st' (mk [] [] 0) | (.inr q1) => e = .ret ∧ FinR prog Go.Proofs.Try.f16 0 [] (.bool q1) st')) ?_ ?_
 ·replace h := h_1
  refine aw_block (id := 0) (by kernel_rfl) ?_
  refine wk [0, 1] [] [.s 2, .s 3, .s 5] [.s 0, .s 1] [(2, Pp 0), (3, Pp 1), (5, Ii 0)] [(0, Vb 24 (v_T_api_Packet a_1)), (1, Vb 24 (v_T_api_Packet b_1))] an ?_
  refine aw_loopF (fun n st => ∃ (i_1 : Int), st = mk [(2, Pp 0), (3, Pp 1), (5, Ii i_1)] [(0, Vb 24 (v_T_api_Packet a_1)), (1, Vb 24 (v_T_api_Packet b_1))] 2 ∧ R11_Same_L1 F a_1 b_1 n i_1 = some o_1) F (by kernel_rfl) ⟨_, rfl, h⟩ ?_ ?_
  ·rintro _ ⟨_, _, h⟩; exact none_ne (h : (none : Option (Unit ⊕ Bool)) = some o_1)
  rintro n_1 _ ⟨i_1, rfl, h⟩
  replace h : R11_Same_L1_body F a_1 b_1 (R11_Same_L1 F a_1 b_1 n_1) i_1 = some o_1 := h
  unfold R11_Same_L1_body at h
  refine sq ?_
  refine sr [(3, { n := (a_1.Events).length })] [2, 3, 5, 38] [0, 1] 2 [Pp 0, Pp 1, Ii i_1, .bool (decide (i_1 < (lN (a_1.Events))))] [Vb 24 (v_T_api_Packet a_1), Vb 24 (v_T_api_Packet b_1)] hmix (ac (vc_len _ : ((Mp e_T_api_Event a_1.Events)).length = (a_1.Events).length) an) ?_
  refine cd 38 (decide (i_1 < (lN (a_1.Events)))) ?_ ?_
  rotate_left
  ·intro g_2; replace h := cond_f g_2 h
   refine aw_exit (id := 0) (by kernel_rfl) ?_
   cases h
   exact ⟨rfl, (sw [] [] [] [] an)⟩
  intro g_2; replace h := cond_t g_2 h
  refine sk ?_
  refine sq ?_
  refine aw_block (id := 1) (by kernel_rfl) ?_
  refine sq ?_
  obtain ⟨x_1, h_2, h⟩ := bind_some h
  obtain ⟨x_2, h_3, h⟩ := bind_some h
  obtain ⟨r_1, h_4, h⟩ := bind_some h
  refine rg [(3, { av := e_T_api_Event x_1 }), (8, { av := e_T_api_Event x_2 }), (10, { av := .bool r_1, l := [e_T_api_Event x_1, e_T_api_Event x_2] })] [2, 3, 5, 52] [0, 1] 2 [Pp 0, Pp 1, Ii i_1, .bool (!r_1)] [Vb 24 (v_T_api_Packet a_1), Vb 24 (v_T_api_Packet b_1)] hmix (ac (vc_idx h_2 : idxA (Mp e_T_api_Event a_1.Events) i_1 = some (e_T_api_Event x_1)) (ac (vc_idx h_3 : idxA (Mp e_T_api_Event b_1.Events) i_1 = some (e_T_api_Event x_2)) (ar ([e_T_api_Event x_1, e_T_api_Event x_2] : List AV) (ac (rfl : ([] : List BoxSt) = []) (ac (R07_Same_ok F x_1 x_2 r_1 h_4 : TripleG prog 30 [] [] [e_T_api_Event x_1, e_T_api_Event x_2] [] (.bool r_1)) an))))) ?_
  refine cd 52 (!r_1) ?_ ?_
  rotate_left
  ·intro g_3; replace h := cond_f g_3 h
   refine sk ?_
   refine rg [] [2, 3, 5] [0, 1] 2 [Pp 0, Pp 1, Ii (w_i64 (i_1 + (1 : Int)))] [Vb 24 (v_T_api_Packet a_1), Vb 24 (v_T_api_Packet b_1)] hmix an ?_
   exact ⟨_, (sw [0, 1] [] [.s 2, .s 3, .s 5] [.s 0, .s 1] an), _, rfl, h⟩
  intro g_3; replace h := cond_t g_3 h
  refine sr [] [4] [] 2 [.bool false] [] hmix an ?_
  refine rt ?_
  cases h
  exact ⟨rfl, Nat.le_of_ble_eq_true rfl, by kernel_rfl⟩
 intro e st1 hk
 rcases o_1 with q_1 | q_2
 rotate_left
 ·obtain ⟨rfl, hf⟩ := hk
  cases h
  exact ⟨st1, Sub.refl _ _, .inr rfl, hf⟩
 obtain ⟨rfl, hs⟩ := hk
 refine ⟨_, hs, ?_⟩
 refine sr [] [4] [] 0 [.bool true] [] hmix an ?_
 refine rt ?_
 cases h
 exact ⟨.inr rfl, Nat.le_of_ble_eq_true rfl, by kernel_rfl⟩

theorem slices_Equal_string_string_ok (F : Nat) (s1_1 : List (List Int)) (s2_1 : List (List Int)) (r : Bool) (h : slices_Equal_string_string F s1_1 s2_1 = some r) : TripleG prog 49 [] [] [.sl false 1 (Ms s1_1), .sl false 1 (Ms s2_1)] [] (.bool r) := by
 refine triple_intro (fn := Go.Proofs.Try.f49) (code := codeOf Go.Proofs.Try.f49) (by kernel_rfl) (by kernel_rfl) (Nat.le_of_ble_eq_true (by kernel_rfl)) ?_
 unfold slices_Equal_string_string at h
 refine sr [] [0, 1] [] 0 [.sl false 1 (Ms s1_1), .sl false 1 (Ms s2_1)] [] hmix an ?_
 refine sq ?_
 refine sr [(1, { n := (s1_1).length }), (3, { n := (s2_1).length })] [0, 1, 10] [] 0 [.sl false 1 (Ms s1_1), .sl false 1 (Ms s2_1), .bool ((lN (s1_1)) != (lN (s2_1)))] [] hmix (ac (vc_len _ : ((Ms s1_1)).length = (s1_1).length) (ac (vc_len _ : ((Ms s2_1)).length = (s2_1).length) an)) ?_
 refine cd 10 ((lN (s1_1)) != (lN (s2_1))) ?_ ?_
 ·intro g_1; replace h := cond_t g_1 h
  refine sr [] [4] [] 0 [.bool false] [] hmix an ?_
  refine rt ?_
  cases h
  exact ⟨.inr rfl, Nat.le_of_ble_eq_true rfl, by kernel_rfl⟩
 intro g_1; replace h := cond_f g_1 h
 refine sk ?_
 refine sq ?_
 refine sr [(1, { n := (s1_1).length })] [0, 1, 12, 13] [] 0 [.sl false 1 (Ms s1_1), .sl false 1 (Ms s2_1), Ii (lN (s1_1)), Ii 0] [] hmix (ac (vc_len _ : ((Ms s1_1)).length = (s1_1).length) an) ?_
 obtain ⟨o_1, h_1, h⟩ := bind_some h
 refine aw_conv (K1 := (fun e st' => match o_1 with | (.inl q0) => e = .normal ∧ Sub 0 st' (mk [] [] 0) | (.inr q1) => e = .ret ∧ FinR prog Go.Proofs.Try.f49 0 [] (.bool q1) st')) ?_ ?_
 ·replace h := h_1
  refine aw_block (id := 0) (by kernel_rfl) ?_
  refine wk [] [] [.s 0, .s 1, .s 12, .s 13] [] [(0, .sl false 1 (Ms s1_1)), (1, .sl false 1 (Ms s2_1)), (12, Ii (lN (s1_1))), (13, Ii 0)] [] an ?_
  refine aw_loopF (fun n st => ∃ (v_1 : Int), st = mk [(0, .sl false 1 (Ms s1_1)), (1, .sl false 1 (Ms s2_1)), (12, Ii (lN (s1_1))), (13, Ii v_1)] [] 0 ∧ slices_Equal_string_string_L1 F s1_1 s2_1 n v_1 = some o_1) F (by kernel_rfl) ⟨_, rfl, h⟩ ?_ ?_
  ·rintro _ ⟨_, _, h⟩; exact none_ne (h : (none : Option (Unit ⊕ Bool)) = some o_1)
  rintro n_1 _ ⟨v_1, rfl, h⟩
  replace h : slices_Equal_string_string_L1_body F s1_1 s2_1 (slices_Equal_string_string_L1 F s1_1 s2_1 n_1) v_1 = some o_1 := h
  unfold slices_Equal_string_string_L1_body at h
  refine sr [] [0, 1, 12, 13, 14] [] 0 [.sl false 1 (Ms s1_1), .sl false 1 (Ms s2_1), Ii (lN (s1_1)), Ii v_1, .bool (decide (v_1 < (lN (s1_1))))] [] hmix an ?_
  refine sq ?_
  refine cd 14 (decide (v_1 < (lN (s1_1)))) ?_ ?_
  rotate_left
  ·intro g_2; replace h := cond_f g_2 h
   refine aw_exit (id := 0) (by kernel_rfl) ?_
   cases h
   exact ⟨rfl, (sw [] [] [] [] an)⟩
  intro g_2; replace h := cond_t g_2 h
  refine sk ?_
  refine sq ?_
  refine aw_block (id := 1) (by kernel_rfl) ?_
  refine sr [] [0, 1, 5, 12, 13] [] 0 [.sl false 1 (Ms s1_1), .sl false 1 (Ms s2_1), Ii v_1, Ii (lN (s1_1)), Ii v_1] [] hmix an ?_
  refine sq ?_
  obtain ⟨x_1, h_2, h⟩ := bind_some h
  obtain ⟨x_2, h_3, h⟩ := bind_some h
  refine rg [(2, { av := .str x_1 }), (6, { av := .str x_2 })] [0, 1, 12, 13, 24] [] 0 [.sl false 1 (Ms s1_1), .sl false 1 (Ms s2_1), Ii (lN (s1_1)), Ii v_1, .bool (!(x_1 == x_2))] [] hmix (ac (vc_idx h_2 : idxA (Ms s1_1) v_1 = some (.str x_1)) (ac (vc_idx h_3 : idxA (Ms s2_1) v_1 = some (.str x_2)) an)) ?_
  refine cd 24 (!(x_1 == x_2)) ?_ ?_
  rotate_left
  ·intro g_3; replace h := cond_f g_3 h
   refine sk ?_
   refine rg [] [0, 1, 12, 13] [] 0 [.sl false 1 (Ms s1_1), .sl false 1 (Ms s2_1), Ii (lN (s1_1)), Ii (w_i64 (v_1 + (1 : Int)))] [] hmix an ?_
   exact ⟨_, (sw [] [] [.s 0, .s 1, .s 12, .s 13] [] an), _, rfl, h⟩
  intro g_3; replace h := cond_t g_3 h
  refine sr [] [4] [] 0 [.bool false] [] hmix an ?_
  refine rt ?_
  cases h
  exact ⟨rfl, Nat.le_of_ble_eq_true rfl, by kernel_rfl⟩
 intro e st1 hk
 rcases o_1 with q_1 | q_2
 rotate_left
 ·obtain ⟨rfl, hf⟩ := hk
  cases h
  exact ⟨st1, Sub.refl _ _, .inr rfl, hf⟩
 obtain ⟨rfl, hs⟩ := hk
 refine ⟨_, hs, ?_⟩
 refine sr [] [4] [] 0 [.bool true] [] hmix an ?_
 refine rt ?_
 cases h
 exact ⟨.inr rfl, Nat.le_of_ble_eq_true rfl, by kernel_rfl⟩

theorem event_Same_ok (F : Nat) (a_1 : T_api_Event) (b_1 : T_api_Event) (r : Bool) (h : event_Same F a_1 b_1 = some r) : TripleG prog 29 [] [] [e_T_api_Event a_1, e_T_api_Event b_1] [] (.bool r) := by
 refine triple_intro (fn := Go.Proofs.Try.f29) (code := codeOf Go.Proofs.Try.f29) (by kernel_rfl) (by kernel_rfl) (Nat.le_of_ble_eq_true (by kernel_rfl)) ?_
 unfold event_Same at h
 refine sr [(0, { id := 0 }), (1, { id := 1 })] [2, 3] [0, 1] 2 [Pp 0, Pp 1] [Vb 33 (v_T_api_Event a_1), Vb 33 (v_T_api_Event b_1)] hmix an ?_
 refine sq ?_
 obtain ⟨p_1, h_2, h⟩ := bind_some h
 refine aw_mid (mk [(4, .bool p_1)] [] 0) ?_ ?_
 ·replace h := h_2
  rcases bft (a_1.At == b_1.At) with gg_1 | gg_1
  ·replace h := cond_t gg_1 h
   rcases bft (a_1.Kind == b_1.Kind) with gg_2 | gg_2
   ·replace h := cond_t gg_2 h
    rcases bft (a_1.Name == b_1.Name) with gg_3 | gg_3
    ·replace h := cond_t gg_3 h
     rcases bft (a_1.N == b_1.N) with gg_4 | gg_4
     ·replace h := cond_t gg_4 h
      rcases bft (a_1.M == b_1.M) with gg_5 | gg_5
      ·replace h := cond_t gg_5 h
       obtain ⟨r_1, h_1, h⟩ := bind_some h
       refine rg [(11, Ht), (18, Ht), (25, Ht), (32, Ht), (38, { av := .bool r_1, l := [.sl false 1 (Ms a_1.Stack), .sl false 1 (Ms b_1.Stack)] }), (39, Ht)] [4] [] 2 [.bool r_1] [] hmix (ac gg_1 (ac gg_1 (ac gg_1 (ac gg_1 (ac gg_1 (ac gg_1 (ac gg_2 (ac gg_2 (ac gg_2 (ac gg_2 (ac gg_2 (ac gg_2 (ac gg_3 (ac gg_3 (ac gg_3 (ac gg_3 (ac gg_3 (ac gg_3 (ac gg_4 (ac gg_4 (ac gg_4 (ac gg_4 (ac gg_4 (ac gg_4 (ac gg_5 (ac gg_5 (ac gg_5 (ac gg_5 (ac gg_5 (ar ([.sl false 1 (Ms a_1.Stack), .sl false 1 (Ms b_1.Stack)] : List AV) (ac (rfl : ([] : List BoxSt) = []) (ac (slices_Equal_string_string_ok F a_1.Stack b_1.Stack r_1 h_1 : TripleG prog 49 [] [] [.sl false 1 (Ms a_1.Stack), .sl false 1 (Ms b_1.Stack)] [] (.bool r_1)) (ac gg_5 an))))))))))))))))))))))))))))))))) ?_
       cases h
       exact ⟨rfl, (sw [] [] [.s 4] [] an)⟩
      ·replace h := cond_f gg_5 h
       refine rg [(11, Ht), (18, Ht), (25, Ht), (32, Ht), (34, Hg), (35, Hg), (36, Hg), (37, Hg), (38, Hg), (39, Hf)] [4] [] 2 [.bool false] [] hmix (ac gg_1 (ac gg_1 (ac gg_1 (ac gg_1 (ac gg_1 (ac gg_1 (ac gg_2 (ac gg_2 (ac gg_2 (ac gg_2 (ac gg_2 (ac gg_2 (ac gg_3 (ac gg_3 (ac gg_3 (ac gg_3 (ac gg_3 (ac gg_3 (ac gg_4 (ac gg_4 (ac gg_4 (ac gg_4 (ac gg_4 (ac gg_4 (ac gg_5 (ac gg_5 (ac gg_5 (ac gg_5 (ac gg_5 (ac gg_5 an)))))))))))))))))))))))))))))) ?_
       cases h
       exact ⟨rfl, (sw [] [] [.s 4] [] an)⟩
     ·replace h := cond_f gg_4 h
      refine rg [(11, Ht), (18, Ht), (25, Ht), (27, Hg), (28, Hg), (29, Hg), (30, Hg), (31, Hg), (32, Hf), (34, Hg), (35, Hg), (36, Hg), (37, Hg), (38, Hg), (39, Hf)] [4] [] 2 [.bool false] [] hmix (ac gg_1 (ac gg_1 (ac gg_1 (ac gg_1 (ac gg_1 (ac gg_1 (ac gg_2 (ac gg_2 (ac gg_2 (ac gg_2 (ac gg_2 (ac gg_2 (ac gg_3 (ac gg_3 (ac gg_3 (ac gg_3 (ac gg_3 (ac gg_3 (ac gg_4 (ac gg_4 (ac gg_4 (ac gg_4 (ac gg_4 (ac gg_4 (ac (rfl : false = !true) (ac (rfl : false = !true) (ac (rfl : false = !true) (ac (rfl : false = !true) (ac (rfl : false = !true) (ar false an)))))))))))))))))))))))))))))) ?_
      cases h
      exact ⟨rfl, (sw [] [] [.s 4] [] an)⟩
    ·replace h := cond_f gg_3 h
     refine rg [(11, Ht), (18, Ht), (20, Hg), (21, Hg), (22, Hg), (23, Hg), (24, Hg), (25, Hf), (27, Hg), (28, Hg), (29, Hg), (30, Hg), (31, Hg), (32, Hf), (34, Hg), (35, Hg), (36, Hg), (37, Hg), (38, Hg), (39, Hf)] [4] [] 2 [.bool false] [] hmix (ac gg_1 (ac gg_1 (ac gg_1 (ac gg_1 (ac gg_1 (ac gg_1 (ac gg_2 (ac gg_2 (ac gg_2 (ac gg_2 (ac gg_2 (ac gg_2 (ac gg_3 (ac gg_3 (ac gg_3 (ac gg_3 (ac gg_3 (ac gg_3 (ac (rfl : false = !true) (ac (rfl : false = !true) (ac (rfl : false = !true) (ac (rfl : false = !true) (ac (rfl : false = !true) (ar false (ac (rfl : false = !true) (ac (rfl : false = !true) (ac (rfl : false = !true) (ac (rfl : false = !true) (ac (rfl : false = !true) (ar false an)))))))))))))))))))))))))))))) ?_
     cases h
     exact ⟨rfl, (sw [] [] [.s 4] [] an)⟩
   ·replace h := cond_f gg_2 h
    refine rg [(11, Ht), (13, Hg), (14, Hg), (15, Hg), (16, Hg), (17, Hg), (18, Hf), (20, Hg), (21, Hg), (22, Hg), (23, Hg), (24, Hg), (25, Hf), (27, Hg), (28, Hg), (29, Hg), (30, Hg), (31, Hg), (32, Hf), (34, Hg), (35, Hg), (36, Hg), (37, Hg), (38, Hg), (39, Hf)] [4] [] 2 [.bool false] [] hmix (ac gg_1 (ac gg_1 (ac gg_1 (ac gg_1 (ac gg_1 (ac gg_1 (ac gg_2 (ac gg_2 (ac gg_2 (ac gg_2 (ac gg_2 (ac gg_2 (ac (rfl : false = !true) (ac (rfl : false = !true) (ac (rfl : false = !true) (ac (rfl : false = !true) (ac (rfl : false = !true) (ar false (ac (rfl : false = !true) (ac (rfl : false = !true) (ac (rfl : false = !true) (ac (rfl : false = !true) (ac (rfl : false = !true) (ar false (ac (rfl : false = !true) (ac (rfl : false = !true) (ac (rfl : false = !true) (ac (rfl : false = !true) (ac (rfl : false = !true) (ar false an)))))))))))))))))))))))))))))) ?_
    cases h
    exact ⟨rfl, (sw [] [] [.s 4] [] an)⟩
  ·replace h := cond_f gg_1 h
   refine rg [(6, Hg), (7, Hg), (8, Hg), (9, Hg), (10, Hg), (11, Hf), (13, Hg), (14, Hg), (15, Hg), (16, Hg), (17, Hg), (18, Hf), (20, Hg), (21, Hg), (22, Hg), (23, Hg), (24, Hg), (25, Hf), (27, Hg), (28, Hg), (29, Hg), (30, Hg), (31, Hg), (32, Hf), (34, Hg), (35, Hg), (36, Hg), (37, Hg), (38, Hg), (39, Hf)] [4] [] 2 [.bool false] [] hmix (ac gg_1 (ac gg_1 (ac gg_1 (ac gg_1 (ac gg_1 (ac gg_1 (ac (rfl : false = !true) (ac (rfl : false = !true) (ac (rfl : false = !true) (ac (rfl : false = !true) (ac (rfl : false = !true) (ar false (ac (rfl : false = !true) (ac (rfl : false = !true) (ac (rfl : false = !true) (ac (rfl : false = !true) (ac (rfl : false = !true) (ar false (ac (rfl : false = !true) (ac (rfl : false = !true) (ac (rfl : false = !true) (ac (rfl : false = !true) (ac (rfl : false = !true) (ar false (ac (rfl : false = !true) (ac (rfl : false = !true) (ac (rfl : false = !true) (ac (rfl : false = !true) (ac (rfl : false = !true) (ar false an)))))))))))))))))))))))))))))) ?_
   cases h
   exact ⟨rfl, (sw [] [] [.s 4] [] an)⟩
 refine rt ?_
 cases h
 exact ⟨.inr rfl, Nat.le_of_ble_eq_true rfl, by kernel_rfl⟩

theorem slices_EqualFunc_tracebook_api_Event_tracebook_api_Event_tracebook_api_Event_tracebook_api_Event_ok (F : Nat) (s1_1 : List (T_api_Event)) (s2_1 : List (T_api_Event)) (r : Bool) (h : slices_EqualFunc_tracebook_api_Event_tracebook_api_Event_tracebook_api_Event_tracebook_api_Event F s1_1 s2_1 = some r) : TripleG prog 28 [] [] [.sl false 6 (Mp e_T_api_Event s1_1), .sl false 6 (Mp e_T_api_Event s2_1), .fn 29 []] [] (.bool r) := by
 refine triple_intro (fn := Go.Proofs.Try.f28) (code := codeOf Go.Proofs.Try.f28) (by kernel_rfl) (by kernel_rfl) (Nat.le_of_ble_eq_true (by kernel_rfl)) ?_
 unfold slices_EqualFunc_tracebook_api_Event_tracebook_api_Event_tracebook_api_Event_tracebook_api_Event at h
 refine sr [] [0, 1, 2] [] 0 [.sl false 6 (Mp e_T_api_Event s1_1), .sl false 6 (Mp e_T_api_Event s2_1), .fn 29 []] [] hmix an ?_
 refine sq ?_
 refine sr [(1, { n := (s1_1).length }), (3, { n := (s2_1).length })] [0, 1, 2, 14] [] 0 [.sl false 6 (Mp e_T_api_Event s1_1), .sl false 6 (Mp e_T_api_Event s2_1), .fn 29 [], .bool ((lN (s1_1)) != (lN (s2_1)))] [] hmix (ac (vc_len _ : ((Mp e_T_api_Event s1_1)).length = (s1_1).length) (ac (vc_len _ : ((Mp e_T_api_Event s2_1)).length = (s2_1).length) an)) ?_
 refine cd 14 ((lN (s1_1)) != (lN (s2_1))) ?_ ?_
 ·intro g_1; replace h := cond_t g_1 h
  refine sr [] [6] [] 0 [.bool false] [] hmix an ?_
  refine rt ?_
  cases h
  exact ⟨.inr rfl, Nat.le_of_ble_eq_true rfl, by kernel_rfl⟩
 intro g_1; replace h := cond_f g_1 h
 refine sk ?_
 refine sq ?_
 refine sr [(1, { n := (s1_1).length })] [1, 2, 15, 16, 17] [] 0 [.sl false 6 (Mp e_T_api_Event s2_1), .fn 29 [], .sl false 6 (Mp e_T_api_Event s1_1), Ii (lN (s1_1)), Ii 0] [] hmix (ac (vc_len _ : ((Mp e_T_api_Event s1_1)).length = (s1_1).length) an) ?_
 obtain ⟨o_1, h_1, h⟩ := bind_some h
 refine aw_conv (K1 := (fun e st' => match o_1 with | (.inl q0) => e = .normal ∧ Sub 0 st' (mk [] [] 0) | (.inr q1) => e = .ret ∧ FinR prog Go.Proofs.Try.f28 0 [] (.bool q1) st')) ?_ ?_
 ·replace h := h_1
  refine aw_block (id := 0) (by kernel_rfl) ?_
  refine wk [] [] [.s 1, .s 2, .s 15, .s 16, .s 17] [] [(1, .sl false 6 (Mp e_T_api_Event s2_1)), (2, .fn 29 []), (15, .sl false 6 (Mp e_T_api_Event s1_1)), (16, Ii (lN (s1_1))), (17, Ii 0)] [] an ?_
  refine aw_loopF (fun n st => ∃ (v_1 : Int), st = mk [(1, .sl false 6 (Mp e_T_api_Event s2_1)), (2, .fn 29 []), (15, .sl false 6 (Mp e_T_api_Event s1_1)), (16, Ii (lN (s1_1))), (17, Ii v_1)] [] 0 ∧ slices_EqualFunc_tracebook_api_Event_tracebook_api_Event_tracebook_api_Event_tracebook_api_Event_L1 F s1_1 s2_1 n v_1 = some o_1) F (by kernel_rfl) ⟨_, rfl, h⟩ ?_ ?_
  ·rintro _ ⟨_, _, h⟩; exact none_ne (h : (none : Option (Unit ⊕ Bool)) = some o_1)
  rintro n_1 _ ⟨v_1, rfl, h⟩
  replace h : slices_EqualFunc_tracebook_api_Event_tracebook_api_Event_tracebook_api_Event_tracebook_api_Event_L1_body F s1_1 s2_1 (slices_EqualFunc_tracebook_api_Event_tracebook_api_Event_tracebook_api_Event_tracebook_api_Event_L1 F s1_1 s2_1 n_1) v_1 = some o_1 := h
  unfold slices_EqualFunc_tracebook_api_Event_tracebook_api_Event_tracebook_api_Event_tracebook_api_Event_L1_body at h
  refine sr [] [1, 2, 15, 16, 17, 18] [] 0 [.sl false 6 (Mp e_T_api_Event s2_1), .fn 29 [], .sl false 6 (Mp e_T_api_Event s1_1), Ii (lN (s1_1)), Ii v_1, .bool (decide (v_1 < (lN (s1_1))))] [] hmix an ?_
  refine sq ?_
  refine cd 18 (decide (v_1 < (lN (s1_1)))) ?_ ?_
  rotate_left
  ·intro g_2; replace h := cond_f g_2 h
   refine aw_exit (id := 0) (by kernel_rfl) ?_
   cases h
   exact ⟨rfl, (sw [] [] [] [] an)⟩
  intro g_2; replace h := cond_t g_2 h
  refine sk ?_
  refine sq ?_
  refine aw_block (id := 1) (by kernel_rfl) ?_
  refine sq ?_
  obtain ⟨x_1, h_2, h⟩ := bind_some h
  refine rg [(1, { av := e_T_api_Event x_1 }), (3, { id := 0 })] [1, 2, 7, 8, 15, 16, 17] [0] 1 [.sl false 6 (Mp e_T_api_Event s2_1), .fn 29 [], Ii v_1, Pp 0, .sl false 6 (Mp e_T_api_Event s1_1), Ii (lN (s1_1)), Ii v_1] [Vb 33 (v_T_api_Event x_1)] hmix (ac (vc_idx h_2 : idxA (Mp e_T_api_Event s1_1) v_1 = some (e_T_api_Event x_1)) an) ?_
  refine sq ?_
  obtain ⟨x_2, h_3, h⟩ := bind_some h
  refine rg [(2, { av := e_T_api_Event x_2 }), (4, { id := 1 })] [1, 2, 8, 9, 15, 16, 17] [0, 1] 2 [.sl false 6 (Mp e_T_api_Event s2_1), .fn 29 [], Pp 0, Pp 1, .sl false 6 (Mp e_T_api_Event s1_1), Ii (lN (s1_1)), Ii v_1] [Vb 33 (v_T_api_Event x_1), Vb 33 (v_T_api_Event x_2)] hmix (ac (vc_idx h_3 : idxA (Mp e_T_api_Event s2_1) v_1 = some (e_T_api_Event x_2)) an) ?_
  refine sq ?_
  obtain ⟨r_1, h_4, h⟩ := bind_some h
  refine rg [(3, { av := .bool r_1, l := [e_T_api_Event x_1, e_T_api_Event x_2] })] [1, 2, 15, 16, 17, 30] [] 2 [.sl false 6 (Mp e_T_api_Event s2_1), .fn 29 [], .sl false 6 (Mp e_T_api_Event s1_1), Ii (lN (s1_1)), Ii v_1, .bool (!r_1)] [] hmix (ar ([e_T_api_Event x_1, e_T_api_Event x_2] : List AV) (ac (rfl : ([] : List BoxSt) = []) (ac (event_Same_ok F x_1 x_2 r_1 h_4 : TripleG prog 29 [] [] [e_T_api_Event x_1, e_T_api_Event x_2] [] (.bool r_1)) an))) ?_
  refine cd 30 (!r_1) ?_ ?_
  rotate_left
  ·intro g_3; replace h := cond_f g_3 h
   refine sk ?_
   refine rg [] [1, 2, 15, 16, 17] [] 2 [.sl false 6 (Mp e_T_api_Event s2_1), .fn 29 [], .sl false 6 (Mp e_T_api_Event s1_1), Ii (lN (s1_1)), Ii (w_i64 (v_1 + (1 : Int)))] [] hmix an ?_
   exact ⟨_, (sw [] [] [.s 1, .s 2, .s 15, .s 16, .s 17] [] an), _, rfl, h⟩
  intro g_3; replace h := cond_t g_3 h
  refine sr [] [6] [] 2 [.bool false] [] hmix an ?_
  refine rt ?_
  cases h
  exact ⟨rfl, Nat.le_of_ble_eq_true rfl, by kernel_rfl⟩
 intro e st1 hk
 rcases o_1 with q_1 | q_2
 rotate_left
 ·obtain ⟨rfl, hf⟩ := hk
  cases h
  exact ⟨st1, Sub.refl _ _, .inr rfl, hf⟩
 obtain ⟨rfl, hs⟩ := hk
 refine ⟨_, hs, ?_⟩
 refine sr [] [6] [] 0 [.bool true] [] hmix an ?_
 refine rt ?_
 cases h
 exact ⟨.inr rfl, Nat.le_of_ble_eq_true rfl, by kernel_rfl⟩

theorem packet_Same_ok (F : Nat) (a_1 : T_api_Packet) (b_1 : T_api_Packet) (r : Bool) (h : packet_Same F a_1 b_1 = some r) : TripleG prog 15 [] [] [e_T_api_Packet a_1, e_T_api_Packet b_1] [] (.bool r) := by
 refine triple_intro (fn := Go.Proofs.Try.f15) (code := codeOf Go.Proofs.Try.f15) (by kernel_rfl) (by kernel_rfl) (Nat.le_of_ble_eq_true (by kernel_rfl)) ?_
 unfold packet_Same at h
 refine sr [(0, { id := 0 }), (1, { id := 1 })] [2, 3] [0, 1] 2 [Pp 0, Pp 1] [Vb 24 (v_T_api_Packet a_1), Vb 24 (v_T_api_Packet b_1)] hmix an ?_
 refine sq ?_
 obtain ⟨p_1, h_2, h⟩ := bind_some h
 refine aw_mid (mk [(4, .bool p_1)] [] 0) ?_ ?_
 ·replace h := h_2
  rcases bft (a_1.Thread == b_1.Thread) with gg_1 | gg_1
  ·replace h := cond_t gg_1 h
   rcases bft (a_1.Serial == b_1.Serial) with gg_2 | gg_2
   ·replace h := cond_t gg_2 h
    rcases bft (a_1.Lost == b_1.Lost) with gg_3 | gg_3
    ·replace h := cond_t gg_3 h
     obtain ⟨r_1, h_1, h⟩ := bind_some h
     refine rg [(11, Ht), (18, Ht), (24, { av := .bool r_1, l := [.sl false 6 (Mp e_T_api_Event a_1.Events), .sl false 6 (Mp e_T_api_Event b_1.Events), .fn 29 []] }), (25, Ht)] [4] [] 2 [.bool r_1] [] hmix (ac gg_1 (ac gg_1 (ac gg_1 (ac gg_1 (ac gg_1 (ac gg_1 (ac gg_2 (ac gg_2 (ac gg_2 (ac gg_2 (ac gg_2 (ac gg_2 (ac gg_3 (ac gg_3 (ac gg_3 (ac gg_3 (ac gg_3 (ar ([.sl false 6 (Mp e_T_api_Event a_1.Events), .sl false 6 (Mp e_T_api_Event b_1.Events), .fn 29 []] : List AV) (ac (rfl : ([] : List BoxSt) = []) (ac (slices_EqualFunc_tracebook_api_Event_tracebook_api_Event_tracebook_api_Event_tracebook_api_Event_ok F a_1.Events b_1.Events r_1 h_1 : TripleG prog 28 [] [] [.sl false 6 (Mp e_T_api_Event a_1.Events), .sl false 6 (Mp e_T_api_Event b_1.Events), .fn 29 []] [] (.bool r_1)) (ac gg_3 an))))))))))))))))))))) ?_
     cases h
     exact ⟨rfl, (sw [] [] [.s 4] [] an)⟩
    ·replace h := cond_f gg_3 h
     refine rg [(11, Ht), (18, Ht), (20, Hg), (21, Hg), (22, Hg), (23, Hg), (24, Hg), (25, Hf)] [4] [] 2 [.bool false] [] hmix (ac gg_1 (ac gg_1 (ac gg_1 (ac gg_1 (ac gg_1 (ac gg_1 (ac gg_2 (ac gg_2 (ac gg_2 (ac gg_2 (ac gg_2 (ac gg_2 (ac gg_3 (ac gg_3 (ac gg_3 (ac gg_3 (ac gg_3 (ac gg_3 an)))))))))))))))))) ?_
     cases h
     exact ⟨rfl, (sw [] [] [.s 4] [] an)⟩
   ·replace h := cond_f gg_2 h
    refine rg [(11, Ht), (13, Hg), (14, Hg), (15, Hg), (16, Hg), (17, Hg), (18, Hf), (20, Hg), (21, Hg), (22, Hg), (23, Hg), (24, Hg), (25, Hf)] [4] [] 2 [.bool false] [] hmix (ac gg_1 (ac gg_1 (ac gg_1 (ac gg_1 (ac gg_1 (ac gg_1 (ac gg_2 (ac gg_2 (ac gg_2 (ac gg_2 (ac gg_2 (ac gg_2 (ac (rfl : false = !true) (ac (rfl : false = !true) (ac (rfl : false = !true) (ac (rfl : false = !true) (ac (rfl : false = !true) (ar false an)))))))))))))))))) ?_
    cases h
    exact ⟨rfl, (sw [] [] [.s 4] [] an)⟩
  ·replace h := cond_f gg_1 h
   refine rg [(6, Hg), (7, Hg), (8, Hg), (9, Hg), (10, Hg), (11, Hf), (13, Hg), (14, Hg), (15, Hg), (16, Hg), (17, Hg), (18, Hf), (20, Hg), (21, Hg), (22, Hg), (23, Hg), (24, Hg), (25, Hf)] [4] [] 2 [.bool false] [] hmix (ac gg_1 (ac gg_1 (ac gg_1 (ac gg_1 (ac gg_1 (ac gg_1 (ac (rfl : false = !true) (ac (rfl : false = !true) (ac (rfl : false = !true) (ac (rfl : false = !true) (ac (rfl : false = !true) (ar false (ac (rfl : false = !true) (ac (rfl : false = !true) (ac (rfl : false = !true) (ac (rfl : false = !true) (ac (rfl : false = !true) (ar false an)))))))))))))))))) ?_
   cases h
   exact ⟨rfl, (sw [] [] [.s 4] [] an)⟩
 refine rt ?_
 cases h
 exact ⟨.inr rfl, Nat.le_of_ble_eq_true rfl, by kernel_rfl⟩

end Go.Ab
