/- Printed: the typed Lean functions of the Go functions, or the proofs that the Go functions meet them. No conditions but those that the theorems name. -/
import Derived.Test.YtlnlcciflpncmaaP11x4
namespace Go.Ab
open Go
set_option linter.unusedVariables false
theorem L11_PacketLimits_ok (F : Nat) (n_1 : Int) (serial_1 : Int) (r : Bool) (h : L11_PacketLimits F n_1 serial_1 = some r) : TripleG prog 4 [] [] [Ii n_1, Ii serial_1] [] (.bool r) := by
  refine triple_intro (fn := Go.Proofs.Try.f4) (code := codeOf Go.Proofs.Try.f4) (by kernel_rfl) (by kernel_rfl) (Nat.le_of_ble_eq_true (by kernel_rfl)) ?_
  unfold L11_PacketLimits at h
  refine sr [] [0, 1] [] 0 [Ii n_1, Ii serial_1] [] hmix an ?_
  refine sq ?_
  refine sq ?_
  refine aw_mid (mk [(0, Ii n_1), (1, Ii serial_1), (13, .bool (decide (n_1 < (0 : Int)) || decide (n_1 > (1100 : Int))))] [] 0) ?_ ?_
  · rcases Bool.eq_false_or_eq_true (decide (n_1 < (0 : Int))) with gg_1 | gg_1
    · refine rg [(3, Hg), (4, Hg), (5, Ht)] [0, 1, 13] [] 0 [Ii n_1, Ii serial_1, .bool true] [] hmix (ac gg_1 (ac gg_1 (ac gg_1 an))) ?_
      exact ⟨rfl, (sw [] [] [.s 0, .s 1, .a 13 (.bool (decide (n_1 < (0 : Int)) || decide (n_1 > (1100 : Int))))] [] (ac (congrArg AV.bool (ort gg_1) : (.bool true : AV) = .bool (decide (n_1 < (0 : Int)) || decide (n_1 > (1100 : Int)))) an))⟩
    · refine rg [(5, Hf)] [0, 1, 13] [] 0 [Ii n_1, Ii serial_1, .bool (decide (n_1 > (1100 : Int)))] [] hmix (ac gg_1 (ac gg_1 (ac gg_1 an))) ?_
      exact ⟨rfl, (sw [] [] [.s 0, .s 1, .a 13 (.bool (decide (n_1 < (0 : Int)) || decide (n_1 > (1100 : Int))))] [] (ac (congrArg AV.bool (orf gg_1 rfl) : (.bool (decide (n_1 > (1100 : Int))) : AV) = .bool (decide (n_1 < (0 : Int)) || decide (n_1 > (1100 : Int)))) an))⟩
  refine cd 13 (decide (n_1 < (0 : Int)) || decide (n_1 > (1100 : Int))) ?_ ?_
  · intro g_1; replace h := cond_t g_1 h
    refine sq ?_
    obtain ⟨r_1, h_1, h⟩ := bind_some h
    refine rg [(0, { av := .bool r_1, l := [] })] [4] [] 0 [.bool r_1] [] hmix (ar ([] : List AV) (ac (rfl : ([] : List BoxSt) = []) (ac (L11_lives_ok F r_1 h_1 : TripleG prog 12 [] [] [] [] (.bool r_1)) an))) ?_
    refine aw_ret (by kernel_rfl) ?_
    replace h := Option.some.inj h; subst h
    exact ⟨.inr rfl, Nat.le_of_ble_eq_true rfl, by kernel_rfl⟩
  intro g_1; replace h := cond_f g_1 h
  refine sk ?_
  refine sr [(2, { id := 0 })] [0, 1, 5] [0] 1 [Ii n_1, Ii serial_1, .ptr 0 0 0 0] [Vb 24 [Ii 1, Ii serial_1, Ii 0, .nilsl]] hmix an ?_
  refine aw_sub (sub_adoptB 0 3 1 33 6 (by kernel_rfl)) ?_
  refine wk [0, 1] [] [.s 0, .s 1, .s 5] [.s 0, .s 1] [(0, Ii n_1), (1, Ii serial_1), (5, .ptr 0 0 0 0)] [(0, Vb 24 [Ii 1, Ii serial_1, Ii 0, .own 1 0]), (1, Rb 33 6 [])] an ?_
  refine sq ?_
  refine sr [] [0, 1, 5, 6] [0, 1] 2 [Ii n_1, Ii serial_1, .ptr 0 0 0 0, Ii 0] [Vb 24 [Ii 1, Ii serial_1, Ii 0, .own 1 0], Rb 33 6 []] hmix an ?_
  obtain ⟨o_1, h_2, h⟩ := bind_some h
  refine aw_mid (mk [(0, Ii n_1), (1, Ii serial_1), (5, .ptr 0 0 0 0)] [(0, Vb 24 [Ii 1, Ii serial_1, Ii 0, .own 1 ((o_1).length)]), (1, Rb 33 6 (List.map e_T_api_Event o_1))] 2) ?_ ?_
  · replace h := h_2
    refine aw_block (id := 0) (by kernel_rfl) ?_
    refine wk [0, 1] [] [.s 0, .s 1, .s 5, .s 6] [.s 0, .s 1] [(0, Ii n_1), (1, Ii serial_1), (5, .ptr 0 0 0 0), (6, Ii 0)] [(0, Vb 24 [Ii 1, Ii serial_1, Ii 0, .own 1 0]), (1, Rb 33 6 [])] an ?_
    refine aw_loopF (fun n st => ∃ (i_1 : Int), ∃ (row_1 : List T_api_Event), st = mk [(0, Ii n_1), (1, Ii serial_1), (5, .ptr 0 0 0 0), (6, Ii i_1)] [(0, Vb 24 [Ii 1, Ii serial_1, Ii 0, .own 1 ((row_1).length)]), (1, Rb 33 6 (List.map e_T_api_Event row_1))] 2 ∧ L11_PacketLimits_L1 F n_1 n i_1 row_1 = some o_1) F (by kernel_rfl) ⟨_, _, rfl, h⟩ ?_ ?_
    · rintro _ ⟨_, _, _, h⟩; exact none_ne (h : (none : Option (List T_api_Event)) = some o_1)
    rintro n_2 _ ⟨i_1, row_1, rfl, h⟩
    replace h : L11_PacketLimits_L1_body F n_1 (L11_PacketLimits_L1 F n_1 n_2) i_1 row_1 = some o_1 := h
    unfold L11_PacketLimits_L1_body at h
    refine sq ?_
    refine sr [] [0, 1, 5, 6, 19] [0, 1] 2 [Ii n_1, Ii serial_1, .ptr 0 0 0 0, Ii i_1, .bool (decide (i_1 < n_1))] [Vb 24 [Ii 1, Ii serial_1, Ii 0, .own 1 ((row_1).length)], Rb 33 6 (List.map e_T_api_Event row_1)] hmix an ?_
    refine cd 19 (decide (i_1 < n_1)) ?_ ?_
    rotate_left
    · intro g_2; replace h := cond_f g_2 h
      refine aw_exit (id := 0) (by kernel_rfl) ?_
      replace h := Option.some.inj h; subst h
      exact ⟨rfl, (sw [0, 1] [] [.s 0, .s 1, .s 5] [.s 0, .s 1] an)⟩
    intro g_2; replace h := cond_t g_2 h
    refine sk ?_
    refine sq ?_
    refine aw_block (id := 1) (by kernel_rfl) ?_
    obtain ⟨_, h_3, h⟩ := bind_some h; replace h_3 := need_some h_3
    refine rg [(4, { id := 2, lo := [(25, [0, 0, 0, 0, 0, 1])] }), (5, { id := 3, l := (List.map e_T_api_Event (row_1 ++ ([(⟨i_1, (3 : Int), ([97] : List Int), (0 : Int), (0 : Int), []⟩ : T_api_Event)] : List T_api_Event))), n := ((row_1 ++ ([(⟨i_1, (3 : Int), ([97] : List Int), (0 : Int), (0 : Int), []⟩ : T_api_Event)] : List T_api_Event))).length })] [0, 1, 5, 6] [0, 3] 4 [Ii n_1, Ii serial_1, .ptr 0 0 0 0, Ii i_1] [Vb 24 [Ii 1, Ii serial_1, Ii 0, .own 3 (((row_1 ++ ([(⟨i_1, (3 : Int), ([97] : List Int), (0 : Int), (0 : Int), []⟩ : T_api_Event)] : List T_api_Event))).length)], Rb 33 6 (List.map e_T_api_Event (row_1 ++ ([(⟨i_1, (3 : Int), ([97] : List Int), (0 : Int), (0 : Int), []⟩ : T_api_Event)] : List T_api_Event)))] hmix (ac (by first | (simp; done) | (simp; omega) : (row_1).length = ((List.map e_T_api_Event row_1)).length) (ac (by first | (simp; done) | (simp; omega) : 1 = ((List.map e_T_api_Event ([(⟨i_1, (3 : Int), ([97] : List Int), (0 : Int), (0 : Int), []⟩ : T_api_Event)] : List T_api_Event))).length) (ac (vc_app _ _ : (List.map e_T_api_Event (row_1 ++ ([(⟨i_1, (3 : Int), ([97] : List Int), (0 : Int), (0 : Int), []⟩ : T_api_Event)] : List T_api_Event))) = (List.map e_T_api_Event row_1) ++ (List.map e_T_api_Event ([(⟨i_1, (3 : Int), ([97] : List Int), (0 : Int), (0 : Int), []⟩ : T_api_Event)] : List T_api_Event))) (ac (by simp : ((row_1 ++ ([(⟨i_1, (3 : Int), ([97] : List Int), (0 : Int), (0 : Int), []⟩ : T_api_Event)] : List T_api_Event))).length = ((List.map e_T_api_Event (row_1 ++ ([(⟨i_1, (3 : Int), ([97] : List Int), (0 : Int), (0 : Int), []⟩ : T_api_Event)] : List T_api_Event)))).length) (ac (by first | (simp; done) | simpa using h_3 : (((List.map e_T_api_Event row_1) : List AV).length + ((List.map e_T_api_Event ([(⟨i_1, (3 : Int), ([97] : List Int), (0 : Int), (0 : Int), []⟩ : T_api_Event)] : List T_api_Event)) : List AV).length) * 72 ≤ 140737488355328) an))))) ?_
    refine rg [] [0, 1, 5, 6] [0, 3] 4 [Ii n_1, Ii serial_1, .ptr 0 0 0 0, Ii (w_i64 (i_1 + (1 : Int)))] [Vb 24 [Ii 1, Ii serial_1, Ii 0, .own 3 (((row_1 ++ ([(⟨i_1, (3 : Int), ([97] : List Int), (0 : Int), (0 : Int), []⟩ : T_api_Event)] : List T_api_Event))).length)], Rb 33 6 (List.map e_T_api_Event (row_1 ++ ([(⟨i_1, (3 : Int), ([97] : List Int), (0 : Int), (0 : Int), []⟩ : T_api_Event)] : List T_api_Event)))] hmix an ?_
    exact ⟨_, (sw [0, 3] [] [.s 0, .s 1, .s 5, .s 6] [.s 0, .s 1] an), _, _, rfl, h⟩
  refine sr [] [0, 1, 5, 7] [0, 1] 2 [Ii n_1, Ii serial_1, .ptr 0 0 0 0, Ii 0] [Vb 24 [Ii 1, Ii serial_1, Ii 0, .own 1 ((o_1).length)], Rb 33 6 (List.map e_T_api_Event o_1)] hmix an ?_
  refine sq ?_
  obtain ⟨o_2, h_4, h⟩ := bind_some h
  refine aw_mid (mk [(5, .ptr 0 0 0 0), (7, Ii o_2)] [(0, Vb 24 [Ii 1, Ii serial_1, Ii 0, .own 1 ((o_1).length)]), (1, Rb 33 6 (List.map e_T_api_Event o_1))] 2) ?_ ?_
  · replace h := h_4
    refine aw_block (id := 2) (by kernel_rfl) ?_
    refine sq ?_
    refine aw_mid (mk [(0, Ii n_1), (5, .ptr 0 0 0 0), (7, Ii 0), (29, .bool (decide (serial_1 < (0 : Int)) || decide (serial_1 > (w_i64 ((1000000000000000 : Int) - n_1)))))] [(0, Vb 24 [Ii 1, Ii serial_1, Ii 0, .own 1 ((o_1).length)]), (1, Rb 33 6 (List.map e_T_api_Event o_1))] 2) ?_ ?_
    · rcases Bool.eq_false_or_eq_true (decide (serial_1 < (0 : Int))) with gg_3 | gg_3
      · refine rg [(3, Hg), (4, Hg), (5, Hg), (6, Hg), (7, Ht)] [0, 5, 7, 29] [0, 1] 2 [Ii n_1, .ptr 0 0 0 0, Ii 0, .bool true] [Vb 24 [Ii 1, Ii serial_1, Ii 0, .own 1 ((o_1).length)], Rb 33 6 (List.map e_T_api_Event o_1)] hmix (ac gg_3 (ac gg_3 (ac gg_3 (ac gg_3 (ac gg_3 an))))) ?_
        exact ⟨rfl, (sw [0, 1] [] [.s 0, .s 5, .s 7, .a 29 (.bool (decide (serial_1 < (0 : Int)) || decide (serial_1 > (w_i64 ((1000000000000000 : Int) - n_1)))))] [.s 0, .s 1] (ac (congrArg AV.bool (ort gg_3) : (.bool true : AV) = .bool (decide (serial_1 < (0 : Int)) || decide (serial_1 > (w_i64 ((1000000000000000 : Int) - n_1))))) an))⟩
      · refine rg [(7, Hf)] [0, 5, 7, 29] [0, 1] 2 [Ii n_1, .ptr 0 0 0 0, Ii 0, .bool (decide (serial_1 > (w_i64 ((1000000000000000 : Int) - n_1))))] [Vb 24 [Ii 1, Ii serial_1, Ii 0, .own 1 ((o_1).length)], Rb 33 6 (List.map e_T_api_Event o_1)] hmix (ac gg_3 (ac gg_3 (ac gg_3 (ac gg_3 (ac gg_3 an))))) ?_
        exact ⟨rfl, (sw [0, 1] [] [.s 0, .s 5, .s 7, .a 29 (.bool (decide (serial_1 < (0 : Int)) || decide (serial_1 > (w_i64 ((1000000000000000 : Int) - n_1)))))] [.s 0, .s 1] (ac (congrArg AV.bool (orf gg_3 rfl) : (.bool (decide (serial_1 > (w_i64 ((1000000000000000 : Int) - n_1)))) : AV) = .bool (decide (serial_1 < (0 : Int)) || decide (serial_1 > (w_i64 ((1000000000000000 : Int) - n_1))))) an))⟩
    refine cd 29 (decide (serial_1 < (0 : Int)) || decide (serial_1 > (w_i64 ((1000000000000000 : Int) - n_1)))) ?_ ?_
    · intro g_3; replace h := cond_t g_3 h
      refine rg [] [5, 7] [0, 1] 2 [.ptr 0 0 0 0, Ii 2] [Vb 24 [Ii 1, Ii serial_1, Ii 0, .own 1 ((o_1).length)], Rb 33 6 (List.map e_T_api_Event o_1)] hmix an ?_
      replace h := Option.some.inj h; subst h
      exact ⟨rfl, (sw [0, 1] [] [.s 5, .s 7] [.s 0, .s 1] an)⟩
    intro g_3; replace h := cond_f g_3 h
    refine sr [] [0, 5, 7, 38] [0, 1] 2 [Ii n_1, .ptr 0 0 0 0, Ii 0, .bool (n_1 == (0 : Int))] [Vb 24 [Ii 1, Ii serial_1, Ii 0, .own 1 ((o_1).length)], Rb 33 6 (List.map e_T_api_Event o_1)] hmix an ?_
    refine cd 38 (n_1 == (0 : Int)) ?_ ?_
    · intro g_4; replace h := cond_t g_4 h
      refine rg [] [5, 7] [0, 1] 2 [.ptr 0 0 0 0, Ii 8] [Vb 24 [Ii 1, Ii serial_1, Ii 0, .own 1 ((o_1).length)], Rb 33 6 (List.map e_T_api_Event o_1)] hmix an ?_
      replace h := Option.some.inj h; subst h
      exact ⟨rfl, (sw [0, 1] [] [.s 5, .s 7] [.s 0, .s 1] an)⟩
    intro g_4; replace h := cond_f g_4 h
    refine sr [] [5, 7, 41] [0, 1] 2 [.ptr 0 0 0 0, Ii 0, .bool (decide (n_1 > (1000 : Int)))] [Vb 24 [Ii 1, Ii serial_1, Ii 0, .own 1 ((o_1).length)], Rb 33 6 (List.map e_T_api_Event o_1)] hmix an ?_
    refine cd 41 (decide (n_1 > (1000 : Int))) ?_ ?_
    · intro g_5; replace h := cond_t g_5 h
      refine rg [] [5, 7] [0, 1] 2 [.ptr 0 0 0 0, Ii 7] [Vb 24 [Ii 1, Ii serial_1, Ii 0, .own 1 ((o_1).length)], Rb 33 6 (List.map e_T_api_Event o_1)] hmix an ?_
      replace h := Option.some.inj h; subst h
      exact ⟨rfl, (sw [0, 1] [] [.s 5, .s 7] [.s 0, .s 1] an)⟩
    intro g_5; replace h := cond_f g_5 h
    refine sk ?_
    replace h := Option.some.inj h; subst h
    exact ⟨rfl, (sw [0, 1] [] [.s 5, .s 7] [.s 0, .s 1] an)⟩
  refine sq ?_
  obtain ⟨p_1, h_7, h⟩ := bind_some h
  refine aw_mid (mk [(4, .bool p_1)] [] 0) ?_ ?_
  · replace h := h_7
    obtain ⟨r_2, h_5, h⟩ := bind_some h
    rcases Bool.eq_false_or_eq_true (r_2 == o_2) with gg_4 | gg_4
    · replace h := cond_t gg_4 h
      obtain ⟨r_3, h_6, h⟩ := bind_some h
      refine rg [(1, { av := Ii r_2, l := [.agg [Ii 1, Ii serial_1, Ii 0, .sl false 6 (List.map e_T_api_Event o_1)]], lend := [1] }), (5, { av := .bool r_3, l := [] }), (6, Ht)] [4] [] 2 [.bool r_3] [] hmix (ac (by first | (simp; done) | (simp; omega) : (o_1).length = ((List.map e_T_api_Event o_1)).length) (ar ([.agg [Ii 1, Ii serial_1, Ii 0, .sl false 6 (List.map e_T_api_Event o_1)]] : List AV) (ac (rfl : ([] : List BoxSt) = []) (ac (triple_lo (args' := [e_T_api_Packet (⟨(1 : Int), serial_1, (0 : Int), o_1⟩ : T_api_Packet)]) (packet_Check_ok F (⟨(1 : Int), serial_1, (0 : Int), o_1⟩ : T_api_Packet) r_2 h_5) rfl ⟨rfl, rfl, rfl, rfl, rfl, rfl, trivial⟩ : TripleG prog 13 [] [] [.agg [Ii 1, Ii serial_1, Ii 0, .sl false 6 (List.map e_T_api_Event o_1)]] [] (Ii r_2)) (ac gg_4 (ar ([] : List AV) (ac (rfl : ([] : List BoxSt) = []) (ac (L11_lives_ok F r_3 h_6 : TripleG prog 12 [] [] [] [] (.bool r_3)) (ac gg_4 an))))))))) ?_
      replace h := Option.some.inj h; subst h
      exact ⟨rfl, (sw [] [] [.s 4] [] an)⟩
    · replace h := cond_f gg_4 h
      refine rg [(1, { av := Ii r_2, l := [.agg [Ii 1, Ii serial_1, Ii 0, .sl false 6 (List.map e_T_api_Event o_1)]], lend := [1] }), (5, Hg), (6, Hf)] [4] [] 2 [.bool false] [] hmix (ac (by first | (simp; done) | (simp; omega) : (o_1).length = ((List.map e_T_api_Event o_1)).length) (ar ([.agg [Ii 1, Ii serial_1, Ii 0, .sl false 6 (List.map e_T_api_Event o_1)]] : List AV) (ac (rfl : ([] : List BoxSt) = []) (ac (triple_lo (args' := [e_T_api_Packet (⟨(1 : Int), serial_1, (0 : Int), o_1⟩ : T_api_Packet)]) (packet_Check_ok F (⟨(1 : Int), serial_1, (0 : Int), o_1⟩ : T_api_Packet) r_2 h_5) rfl ⟨rfl, rfl, rfl, rfl, rfl, rfl, trivial⟩ : TripleG prog 13 [] [] [.agg [Ii 1, Ii serial_1, Ii 0, .sl false 6 (List.map e_T_api_Event o_1)]] [] (Ii r_2)) (ac gg_4 (ac gg_4 an)))))) ?_
      replace h := Option.some.inj h; subst h
      exact ⟨rfl, (sw [] [] [.s 4] [] an)⟩
  refine aw_ret (by kernel_rfl) ?_
  replace h := Option.some.inj h; subst h
  exact ⟨.inr rfl, Nat.le_of_ble_eq_true rfl, by kernel_rfl⟩

end Go.Ab
