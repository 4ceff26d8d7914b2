/- Printed: the typed Lean functions of the Go functions, or the proofs that the Go functions meet them. No conditions but those that the theorems name. -/
import Derived.Test.YtpdbjocgoheapaaP12x2
namespace Go.Ab
open Go
set_option linter.unusedVariables false
theorem R12_Events_ok (F : Nat) (l_1 : List (T_api_Packet)) (r : Int) (h : R12_Events F l_1 = some r) : TripleG prog 48 [] [] [.sl false 4 (Mp e_T_api_Packet l_1)] [] (Ii r) := by
 refine triple_intro (fn := Go.Proofs.Try.f48) (code := codeOf Go.Proofs.Try.f48) (by kernel_rfl) (by kernel_rfl) (Nat.le_of_ble_eq_true (by kernel_rfl)) ?_
 unfold R12_Events at h
 refine sr [] [0] [] 0 [.sl false 4 (Mp e_T_api_Packet l_1)] [] hmix an ?_
 refine sr [] [0, 3] [] 0 [.sl false 4 (Mp e_T_api_Packet l_1), Ii 0] [] hmix an ?_
 refine sq ?_
 refine sr [] [0, 3, 4] [] 0 [.sl false 4 (Mp e_T_api_Packet l_1), Ii 0, Ii 0] [] hmix an ?_
 obtain ⟨o_1, h_1, h⟩ := bind_some h
 refine aw_mid (mk [(3, Ii o_1)] [] 0) ?_ ?_
 ·replace h := h_1
  refine aw_block (id := 0) (by kernel_rfl) ?_
  refine wk [] [] [.s 0, .s 3, .s 4] [] [(0, .sl false 4 (Mp e_T_api_Packet l_1)), (3, Ii 0), (4, Ii 0)] [] an ?_
  refine aw_loopF (fun n st => ∃ (n_1 : Int), ∃ (i_1 : Int), st = mk [(0, .sl false 4 (Mp e_T_api_Packet l_1)), (3, Ii n_1), (4, Ii i_1)] [] 0 ∧ R12_Events_L1 F l_1 n n_1 i_1 = some o_1) F (by kernel_rfl) ⟨_, _, rfl, h⟩ ?_ ?_
  ·rintro _ ⟨_, _, _, h⟩; exact none_ne (h : (none : Option Int) = some o_1)
  rintro n_2 _ ⟨n_1, i_1, rfl, h⟩
  replace h : R12_Events_L1_body F l_1 (R12_Events_L1 F l_1 n_2) n_1 i_1 = some o_1 := h
  unfold R12_Events_L1_body at h
  refine sq ?_
  refine sr [(2, { n := (l_1).length })] [0, 3, 4, 8] [] 0 [.sl false 4 (Mp e_T_api_Packet l_1), Ii n_1, Ii i_1, .bool (decide (i_1 < (lN (l_1))))] [] hmix (ac (vc_len _ : ((Mp e_T_api_Packet l_1)).length = (l_1).length) an) ?_
  refine cd 8 (decide (i_1 < (lN (l_1)))) ?_ ?_
  rotate_left
  ·intro g_1; replace h := cond_f g_1 h
   refine aw_exit (id := 0) (by kernel_rfl) ?_
   cases h
   exact ⟨rfl, (sw [] [] [.s 3] [] an)⟩
  intro g_1; replace h := cond_t g_1 h
  refine sk ?_
  refine sq ?_
  refine aw_block (id := 1) (by kernel_rfl) ?_
  obtain ⟨x_1, h_2, h⟩ := bind_some h
  refine rg [(3, { av := e_T_api_Packet x_1 }), (6, { n := (x_1.Events).length })] [0, 3, 4] [] 0 [.sl false 4 (Mp e_T_api_Packet l_1), Ii (w_i64 (n_1 + (lN (x_1.Events)))), Ii i_1] [] hmix (ac (vc_idx h_2 : idxA (Mp e_T_api_Packet l_1) i_1 = some (e_T_api_Packet x_1)) (ac (vc_len _ : ((Mp e_T_api_Event x_1.Events)).length = (x_1.Events).length) an)) ?_
  refine rg [] [0, 3, 4] [] 0 [.sl false 4 (Mp e_T_api_Packet l_1), Ii (w_i64 (n_1 + (lN (x_1.Events)))), Ii (w_i64 (i_1 + (1 : Int)))] [] hmix an ?_
  exact ⟨_, (sw [] [] [.s 0, .s 3, .s 4] [] an), _, _, rfl, h⟩
 refine sr [] [2] [] 0 [Ii o_1] [] hmix an ?_
 refine rt ?_
 cases h
 exact ⟨.inr rfl, Nat.le_of_ble_eq_true rfl, by kernel_rfl⟩

theorem R12_Collect_ok (F : Nat) (s_1 : T_api_Service) (p_1 : T_api_Packet) (r : T_api_Service × Int) (h : R12_Collect F s_1 p_1 = some r) : TripleG prog 23 [] [] [e_T_api_Service s_1, e_T_api_Packet p_1] [] (.tuple [e_T_api_Service r.1, Ii r.2]) := by
 refine triple_intro (fn := Go.Proofs.Try.f23) (code := codeOf Go.Proofs.Try.f23) (by kernel_rfl) (by kernel_rfl) (Nat.le_of_ble_eq_true (by kernel_rfl)) ?_
 unfold R12_Collect at h
 refine sr [(0, { id := 0 }), (1, { id := 1 }), (2, { id := 2 })] [2, 3, 4] [0, 1, 2] 3 [Pp 0, Pp 1, Pp 2] [Vb 27 (v_T_api_Service s_1), Vb 43 (v_T_api_Packet p_1), Vb 27 [.nilsl, .nilsl, .nilsl]] hmix an ?_
 refine sq ?_
 obtain ⟨r_1, h_1, h⟩ := bind_some h
 refine rg [(1, { av := Ii r_1, l := [e_T_api_Service s_1] })] [2, 3, 4, 6] [0, 1, 2] 3 [Pp 0, Pp 1, Pp 2, Ii r_1] [Vb 27 (v_T_api_Service s_1), Vb 43 (v_T_api_Packet p_1), Vb 27 [.nilsl, .nilsl, .nilsl]] hmix (ar ([e_T_api_Service s_1] : List AV) (ac (rfl : ([] : List BoxSt) = []) (ac (R12_Check_ok F s_1 r_1 h_1 : TripleG prog 19 [] [] [e_T_api_Service s_1] [] (Ii r_1)) an))) ?_
 refine sq ?_
 refine sr [] [2, 3, 4, 6, 13] [0, 1, 2] 3 [Pp 0, Pp 1, Pp 2, Ii r_1, .bool (r_1 != (0 : Int))] [Vb 27 (v_T_api_Service s_1), Vb 43 (v_T_api_Packet p_1), Vb 27 [.nilsl, .nilsl, .nilsl]] hmix an ?_
 refine cd 13 (r_1 != (0 : Int)) ?_ ?_
 ·intro g_1; replace h := cond_t g_1 h
  refine sr [] [4, 5] [2] 3 [Pp 2, Ii r_1] [Vb 27 (v_T_api_Service s_1)] hmix an ?_
  refine wk [2] [] [.s 4, .s 5] [.s 0] [(4, Pp 0), (5, Ii r_1)] [(0, Vb 27 (v_T_api_Service s_1))] an ?_
  refine rt ?_
  cases h
  exact ⟨.inr rfl, Nat.le_of_ble_eq_true rfl, by kernel_rfl⟩
 intro g_1; replace h := cond_f g_1 h
 refine sk ?_
 refine sq ?_
 obtain ⟨r_2, h_2, h⟩ := bind_some h
 refine rg [(1, { av := Ii r_2, l := [e_T_api_Packet p_1] })] [2, 3, 4, 6] [0, 1, 2] 3 [Pp 0, Pp 1, Pp 2, Ii r_2] [Vb 27 (v_T_api_Service s_1), Vb 43 (v_T_api_Packet p_1), Vb 27 [.nilsl, .nilsl, .nilsl]] hmix (ar ([e_T_api_Packet p_1] : List AV) (ac (rfl : ([] : List BoxSt) = []) (ac (R11_Check_ok F p_1 r_2 h_2 : TripleG prog 42 [] [] [e_T_api_Packet p_1] [] (Ii r_2)) an))) ?_
 refine sq ?_
 refine sr [] [2, 3, 4, 6, 19] [0, 1, 2] 3 [Pp 0, Pp 1, Pp 2, Ii r_2, .bool (r_2 != (0 : Int))] [Vb 27 (v_T_api_Service s_1), Vb 43 (v_T_api_Packet p_1), Vb 27 [.nilsl, .nilsl, .nilsl]] hmix an ?_
 refine cd 19 (r_2 != (0 : Int)) ?_ ?_
 ·intro g_2; replace h := cond_t g_2 h
  refine sr [] [4, 5] [2] 3 [Pp 2, Ii r_2] [Vb 27 (v_T_api_Service s_1)] hmix an ?_
  refine wk [2] [] [.s 4, .s 5] [.s 0] [(4, Pp 0), (5, Ii r_2)] [(0, Vb 27 (v_T_api_Service s_1))] an ?_
  refine rt ?_
  cases h
  exact ⟨.inr rfl, Nat.le_of_ble_eq_true rfl, by kernel_rfl⟩
 intro g_2; replace h := cond_f g_2 h
 refine sk ?_
 refine sq ?_
 obtain ⟨r_3, h_3, h⟩ := bind_some h
 refine rg [(4, { av := Ii r_3, l := [.sl false 3 (Mp e_T_api_Thread s_1.Threads), Ii p_1.Thread] })] [2, 3, 4, 7] [0, 1, 2] 3 [Pp 0, Pp 1, Pp 2, Ii r_3] [Vb 27 (v_T_api_Service s_1), Vb 43 (v_T_api_Packet p_1), Vb 27 [.nilsl, .nilsl, .nilsl]] hmix (ar ([.sl false 3 (Mp e_T_api_Thread s_1.Threads), Ii p_1.Thread] : List AV) (ac (rfl : ([] : List BoxSt) = []) (ac (R12_index_ok F s_1.Threads p_1.Thread r_3 h_3 : TripleG prog 39 [] [] [.sl false 3 (Mp e_T_api_Thread s_1.Threads), Ii p_1.Thread] [] (Ii r_3)) an))) ?_
 refine sq ?_
 refine sr [] [2, 3, 4, 7, 28] [0, 1, 2] 3 [Pp 0, Pp 1, Pp 2, Ii r_3, .bool (decide (r_3 < (0 : Int)))] [Vb 27 (v_T_api_Service s_1), Vb 43 (v_T_api_Packet p_1), Vb 27 [.nilsl, .nilsl, .nilsl]] hmix an ?_
 refine cd 28 (decide (r_3 < (0 : Int))) ?_ ?_
 ·intro g_3; replace h := cond_t g_3 h
  refine sr [] [4, 5] [2] 3 [Pp 2, Ii 5] [Vb 27 (v_T_api_Service s_1)] hmix an ?_
  refine wk [2] [] [.s 4, .s 5] [.s 0] [(4, Pp 0), (5, Ii 5)] [(0, Vb 27 (v_T_api_Service s_1))] an ?_
  refine rt ?_
  cases h
  exact ⟨.inr rfl, Nat.le_of_ble_eq_true rfl, by kernel_rfl⟩
 intro g_3; replace h := cond_f g_3 h
 refine sk ?_
 refine sq ?_
 refine sq ?_
 obtain ⟨x_1, h_4, h⟩ := bind_some h
 refine rg [(5, { av := Ii x_1 })] [2, 3, 4, 7, 37] [0, 1, 2] 3 [Pp 0, Pp 1, Pp 2, Ii r_3, .bool (decide (p_1.Serial < x_1))] [Vb 27 (v_T_api_Service s_1), Vb 43 (v_T_api_Packet p_1), Vb 27 [.nilsl, .nilsl, .nilsl]] hmix (ac (vc_idx h_4 : idxA (Mi s_1.Next) r_3 = some (Ii x_1)) an) ?_
 refine cd 37 (decide (p_1.Serial < x_1)) ?_ ?_
 ·intro g_4; replace h := cond_t g_4 h
  refine sr [] [4, 5] [2] 3 [Pp 2, Ii 4] [Vb 27 (v_T_api_Service s_1)] hmix an ?_
  refine wk [2] [] [.s 4, .s 5] [.s 0] [(4, Pp 0), (5, Ii 4)] [(0, Vb 27 (v_T_api_Service s_1))] an ?_
  refine rt ?_
  cases h
  exact ⟨.inr rfl, Nat.le_of_ble_eq_true rfl, by kernel_rfl⟩
 intro g_4; replace h := cond_f g_4 h
 refine sk ?_
 refine sq ?_
 refine sq ?_
 obtain ⟨x_2, h_5, h⟩ := bind_some h
 refine rg [(5, { av := Ii x_2 })] [2, 3, 4, 7, 49] [0, 1, 2] 3 [Pp 0, Pp 1, Pp 2, Ii r_3, .bool (p_1.Serial != (w_i64 (x_2 + p_1.Lost)))] [Vb 27 (v_T_api_Service s_1), Vb 43 (v_T_api_Packet p_1), Vb 27 [.nilsl, .nilsl, .nilsl]] hmix (ac (vc_idx h_5 : idxA (Mi s_1.Next) r_3 = some (Ii x_2)) an) ?_
 refine cd 49 (p_1.Serial != (w_i64 (x_2 + p_1.Lost))) ?_ ?_
 ·intro g_5; replace h := cond_t g_5 h
  refine sr [] [4, 5] [2] 3 [Pp 2, Ii 11] [Vb 27 (v_T_api_Service s_1)] hmix an ?_
  refine wk [2] [] [.s 4, .s 5] [.s 0] [(4, Pp 0), (5, Ii 11)] [(0, Vb 27 (v_T_api_Service s_1))] an ?_
  refine rt ?_
  cases h
  exact ⟨.inr rfl, Nat.le_of_ble_eq_true rfl, by kernel_rfl⟩
 intro g_5; replace h := cond_f g_5 h
 refine sk ?_
 refine sq ?_
 refine sq ?_
 obtain ⟨r_4, h_6, h⟩ := bind_some h
 refine rg [(2, { av := Ii r_4, l := [.sl false 4 (Mp e_T_api_Packet s_1.Queue)] }), (5, { n := (p_1.Events).length })] [2, 3, 4, 7, 58] [0, 1, 2] 3 [Pp 0, Pp 1, Pp 2, Ii r_3, .bool (decide ((w_i64 (r_4 + (lN (p_1.Events)))) > (20000 : Int)))] [Vb 27 (v_T_api_Service s_1), Vb 43 (v_T_api_Packet p_1), Vb 27 [.nilsl, .nilsl, .nilsl]] hmix (ar ([.sl false 4 (Mp e_T_api_Packet s_1.Queue)] : List AV) (ac (rfl : ([] : List BoxSt) = []) (ac (R12_Events_ok F s_1.Queue r_4 h_6 : TripleG prog 48 [] [] [.sl false 4 (Mp e_T_api_Packet s_1.Queue)] [] (Ii r_4)) (ac (vc_len _ : ((Mp e_T_api_Event p_1.Events)).length = (p_1.Events).length) an)))) ?_
 refine cd 58 (decide ((w_i64 (r_4 + (lN (p_1.Events)))) > (20000 : Int))) ?_ ?_
 ·intro g_6; replace h := cond_t g_6 h
  refine sr [] [4, 5] [2] 3 [Pp 2, Ii 6] [Vb 27 (v_T_api_Service s_1)] hmix an ?_
  refine wk [2] [] [.s 4, .s 5] [.s 0] [(4, Pp 0), (5, Ii 6)] [(0, Vb 27 (v_T_api_Service s_1))] an ?_
  refine rt ?_
  cases h
  exact ⟨.inr rfl, Nat.le_of_ble_eq_true rfl, by kernel_rfl⟩
 intro g_6; replace h := cond_f g_6 h
 refine sk ?_
 refine sq ?_
 obtain ⟨_, h_7, h⟩ := bind_some h; replace h_7 := need_some h_7
 refine rg [(0, { id := 3 }), (3, { id := 4, l := (Mi ([] ++ s_1.Next)), n := (([] ++ s_1.Next)).length })] [2, 3, 4, 7, 8] [0, 1, 2, 4] 5 [Pp 0, Pp 1, Pp 2, Ii r_3, .own 4 ((([] ++ s_1.Next)).length)] [Vb 27 (v_T_api_Service s_1), Vb 43 (v_T_api_Packet p_1), Vb 27 [.nilsl, .nilsl, .nilsl], Rb 3 1 (Mi ([] ++ s_1.Next))] hmix (ac (by first | (simp; done) | (simp; omega) : 0 = (([] : List AV)).length) (ac (trivial : True) (ac (by simp : (List.map (AV.int .i64) ([] ++ s_1.Next)) = [] ++ (List.map (AV.int .i64) s_1.Next)) (ac (by simp : (([] ++ s_1.Next)).length = ((List.map (AV.int .i64) ([] ++ s_1.Next))).length) (ac (by first | (simp; done) | simpa using h_7 : (([] : List AV).length + ((List.map (AV.int .i64) s_1.Next) : List AV).length) * 8 ≤ 140737488355328) an))))) ?_
 refine sq ?_
 obtain ⟨r_5, h_8, h⟩ := bind_some h
 obtain ⟨x_3, h_9, h⟩ := bind_some h
 refine rg [(3, { av := Ii r_5, l := [e_T_api_Packet p_1] }), (5, { av := Ii x_3, l := (Mi ((([] ++ s_1.Next)).set ((r_3).toNat) r_5)) })] [2, 3, 4, 8] [0, 1, 2, 4] 5 [Pp 0, Pp 1, Pp 2, .own 4 ((([] ++ s_1.Next)).length)] [Vb 27 (v_T_api_Service s_1), Vb 43 (v_T_api_Packet p_1), Vb 27 [.nilsl, .nilsl, .nilsl], Rb 3 1 (Mi ((([] ++ s_1.Next)).set ((r_3).toNat) r_5))] hmix (ar ([e_T_api_Packet p_1] : List AV) (ac (rfl : ([] : List BoxSt) = []) (ac (R12_end_ok p_1 r_5 h_8 : TripleG prog 49 [] [] [e_T_api_Packet p_1] [] (Ii r_5)) (ac (idxL_lo h_9 : (0 : Int) ≤ r_3) (ac (by first | (simp; done) | simpa using idxL_hi h_9 : r_3 < (((([] ++ s_1.Next)).length : Nat) : Int)) (ac (vc_get h_9 : (Mi ([] ++ s_1.Next))[(r_3).toNat]? = some (Ii x_3)) (ac (vc_set _ _ _ : (Mi ((([] ++ s_1.Next)).set ((r_3).toNat) r_5)) = List.set (Mi ([] ++ s_1.Next)) ((r_3).toNat) (setElem (Ii x_3) 0 [Ii r_5])) an))))))) ?_
 refine sq ?_
 obtain ⟨_, h_10, h⟩ := bind_some h; replace h_10 := need_some h_10
 refine rg [(0, { id := 5 }), (3, { id := 6, l := (Mp e_T_api_Packet ([] ++ s_1.Queue)), n := (([] ++ s_1.Queue)).length })] [2, 3, 4, 8, 9] [0, 1, 2, 4, 6] 7 [Pp 0, Pp 1, Pp 2, .own 4 ((([] ++ s_1.Next)).length), .own 6 ((([] ++ s_1.Queue)).length)] [Vb 27 (v_T_api_Service s_1), Vb 43 (v_T_api_Packet p_1), Vb 27 [.nilsl, .nilsl, .nilsl], Rb 3 1 (Mi ((([] ++ s_1.Next)).set ((r_3).toNat) r_5)), Rb 43 4 (Mp e_T_api_Packet ([] ++ s_1.Queue))] hmix (ac (by first | (simp; done) | (simp; omega) : 0 = (([] : List AV)).length) (ac (trivial : True) (ac (by simp : (List.map e_T_api_Packet ([] ++ s_1.Queue)) = [] ++ (List.map e_T_api_Packet s_1.Queue)) (ac (by simp : (([] ++ s_1.Queue)).length = ((List.map e_T_api_Packet ([] ++ s_1.Queue))).length) (ac (by first | (simp; done) | simpa using h_10 : (([] : List AV).length + ((List.map e_T_api_Packet s_1.Queue) : List AV).length) * 48 ≤ 140737488355328) an))))) ?_
 refine sq ?_
 obtain ⟨_, h_11, h⟩ := bind_some h; replace h_11 := need_some h_11
 refine rg [(5, { id := 7 }), (6, { id := 8, l := (Mp e_T_api_Packet (([] ++ s_1.Queue) ++ ([p_1] : List T_api_Packet))), n := ((([] ++ s_1.Queue) ++ ([p_1] : List T_api_Packet))).length })] [4, 5] [2, 4, 8] 9 [Pp 2, Ii 0] [Vb 27 [.sl false 3 (Mp e_T_api_Thread s_1.Threads), .own 4 ((([] ++ s_1.Next)).length), .own 8 (((([] ++ s_1.Queue) ++ ([p_1] : List T_api_Packet))).length)], Rb 3 1 (Mi ((([] ++ s_1.Next)).set ((r_3).toNat) r_5)), Rb 43 4 (Mp e_T_api_Packet (([] ++ s_1.Queue) ++ ([p_1] : List T_api_Packet)))] hmix (ac (by first | (simp; done) | (simp; omega) : (([] ++ s_1.Queue)).length = ((List.map e_T_api_Packet ([] ++ s_1.Queue))).length) (ac (by first | (simp; done) | (simp; omega) : 1 = ((List.map e_T_api_Packet ([p_1] : List T_api_Packet))).length) (ac (vc_app _ _ : (Mp e_T_api_Packet (([] ++ s_1.Queue) ++ ([p_1] : List T_api_Packet))) = (Mp e_T_api_Packet ([] ++ s_1.Queue)) ++ (Mp e_T_api_Packet ([p_1] : List T_api_Packet))) (ac (by simp : ((([] ++ s_1.Queue) ++ ([p_1] : List T_api_Packet))).length = ((List.map e_T_api_Packet (([] ++ s_1.Queue) ++ ([p_1] : List T_api_Packet)))).length) (ac (by first | (simp; done) | simpa using h_11 : (((List.map e_T_api_Packet ([] ++ s_1.Queue)) : List AV).length + ((List.map e_T_api_Packet ([p_1] : List T_api_Packet)) : List AV).length) * 48 ≤ 140737488355328) an))))) ?_
 refine wk [2] [4, 8] [.s 4, .s 5] [.a 0 (Vb 27 (v_T_api_Service (⟨s_1.Threads, (([] ++ s_1.Next)).set ((r_3).toNat) r_5, (([] ++ s_1.Queue) ++ ([p_1] : List T_api_Packet))⟩ : T_api_Service)))] [(4, Pp 0), (5, Ii 0)] [(0, Vb 27 (v_T_api_Service (⟨s_1.Threads, (([] ++ s_1.Next)).set ((r_3).toNat) r_5, (([] ++ s_1.Queue) ++ ([p_1] : List T_api_Packet))⟩ : T_api_Service)))] (ar 27 (ac (rfl : ones [.sl false 3 (Mp e_T_api_Thread ((⟨s_1.Threads, (([] ++ s_1.Next)).set ((r_3).toNat) r_5, (([] ++ s_1.Queue) ++ ([p_1] : List T_api_Packet))⟩ : T_api_Service).Threads)), .sl false 1 (Mi ((⟨s_1.Threads, (([] ++ s_1.Next)).set ((r_3).toNat) r_5, (([] ++ s_1.Queue) ++ ([p_1] : List T_api_Packet))⟩ : T_api_Service).Next)), .sl false 4 (Mp e_T_api_Packet ((⟨s_1.Threads, (([] ++ s_1.Next)).set ((r_3).toNat) r_5, (([] ++ s_1.Queue) ++ ([p_1] : List T_api_Packet))⟩ : T_api_Service).Queue))] = true) (ac (by first | (simp; done) | (simp; omega) : (([] ++ s_1.Next)).length = ((List.map (AV.int .i64) ((([] ++ s_1.Next)).set ((r_3).toNat) r_5))).length) (ac (by first | (simp; done) | (simp; omega) : ((([] ++ s_1.Queue) ++ ([p_1] : List T_api_Packet))).length = ((List.map e_T_api_Packet (([] ++ s_1.Queue) ++ ([p_1] : List T_api_Packet)))).length) (ar 3 (ac (rfl : ((Mp e_T_api_Thread s_1.Threads) : List AV) = (Mp e_T_api_Thread ((⟨s_1.Threads, (([] ++ s_1.Next)).set ((r_3).toNat) r_5, (([] ++ s_1.Queue) ++ ([p_1] : List T_api_Packet))⟩ : T_api_Service).Threads))) (ac (rfl : (!false || false) = true) (ar 1 (ac (rfl : ((Mi ((([] ++ s_1.Next)).set ((r_3).toNat) r_5)) : List AV) = (Mi ((⟨s_1.Threads, (([] ++ s_1.Next)).set ((r_3).toNat) r_5, (([] ++ s_1.Queue) ++ ([p_1] : List T_api_Packet))⟩ : T_api_Service).Next))) (ac (rfl : (!false || false) = true) (ar 4 (ac (rfl : ((Mp e_T_api_Packet (([] ++ s_1.Queue) ++ ([p_1] : List T_api_Packet))) : List AV) = (Mp e_T_api_Packet ((⟨s_1.Threads, (([] ++ s_1.Next)).set ((r_3).toNat) r_5, (([] ++ s_1.Queue) ++ ([p_1] : List T_api_Packet))⟩ : T_api_Service).Queue))) (ac (rfl : (!false || false) = true) an))))))))))))) ?_
 refine rt ?_
 cases h
 exact ⟨.inr rfl, Nat.le_of_ble_eq_true rfl, by kernel_rfl⟩

end Go.Ab
