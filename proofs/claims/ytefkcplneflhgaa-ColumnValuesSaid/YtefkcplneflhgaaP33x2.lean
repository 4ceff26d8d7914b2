/- Printed: the typed Lean functions of the Go functions, or the proofs that the Go functions meet them. No conditions but those that the theorems name. -/
import Derived.Test.YtefkcplneflhgaaP33x1
namespace Go.Ab
open Go
set_option linter.unusedVariables false
theorem column_input_values_ok (F : Nat) (x_1 : T_column_input) (coding_1 : Int) (k_1 : Int) (n_1 : Int) (r : (List (T_api_Value)) × T_column_input) (h : column_input_values F x_1 coding_1 k_1 n_1 = some r) : TripleG prog 31 [(.var 53 (v_T_column_input x_1))] [] [.ptr 0 0 0 0, .int .u8 coding_1, .int .i64 k_1, .int .i64 n_1] [(.var 53 (v_T_column_input r.2)), .row 24 3 (List.map e_T_api_Value r.1)] (.own 1 ((r.1).length)) := by
  refine triple_intro (fn := Go.Proofs.Try.f31) (code := codeOf Go.Proofs.Try.f31) (by kernel_rfl) (by kernel_rfl) (Nat.le_of_ble_eq_true (by kernel_rfl)) ?_
  unfold column_input_values at h
  refine aw_seq (by kernel_rfl) ?_
  refine aw_region [(0, { id := 1, m := 1 })] [0, 1, 2, 3] [0] 2 (vals := [.ptr 0 0 0 0, .int .u8 coding_1, .int .i64 k_1, .int .i64 n_1]) (bxs := [.live (.var 53 (v_T_column_input x_1))]) (by kernel_rfl) hmix an ?_
  refine aw_seq (by kernel_rfl) ?_
  refine aw_region [(0, { id := 2, m := 1 })] [0, 1, 2, 3, 9] [0, 2] 3 (vals := [.ptr 0 0 0 0, .int .u8 coding_1, .int .i64 k_1, .int .i64 n_1, .own 2 0]) (bxs := [.live (.var 53 (v_T_column_input x_1)), .live (.row 24 3 [])]) (by kernel_rfl) hmix an ?_
  refine aw_seq (by kernel_rfl) ?_
  refine aw_seq (by kernel_rfl) ?_
  refine aw_region [] [0, 2, 3, 9, 15] [0, 2] 3 (vals := [.ptr 0 0 0 0, .int .i64 k_1, .int .i64 n_1, .own 2 0, .int .u8 coding_1]) (bxs := [.live (.var 53 (v_T_column_input x_1)), .live (.row 24 3 [])]) (by kernel_rfl) hmix an ?_
  obtain ⟨o_1, h_1, h⟩ := bind_some h
  refine aw_mid (mk [(0, .ptr 0 0 0 0), (9, .own 1 ((o_1.2.2).length))] [(0, .live (.var 53 [.sl false 1 (List.map (AV.int .u8) o_1.1), .bool o_1.2.1])), (1, .live (.row 24 3 (List.map e_T_api_Value o_1.2.2)))] 2) ?_ ?_
  · replace h := h_1
    refine aw_block (id := 0) (by kernel_rfl) ?_
    refine aw_seq (by kernel_rfl) ?_
    refine aw_region [] [0, 2, 3, 9, 15, 19] [0, 2] 3 (vals := [.ptr 0 0 0 0, .int .i64 k_1, .int .i64 n_1, .own 2 0, .int .u8 coding_1, .bool (coding_1 == (0 : Int))]) (bxs := [.live (.var 53 (v_T_column_input x_1)), .live (.row 24 3 [])]) (by kernel_rfl) hmix an ?_
    refine aw_cond (t := 19) (b := (coding_1 == (0 : Int))) (by kernel_rfl) (by kernel_rfl) ?_ ?_
    · intro g_1; replace h := cond_t g_1 h
      obtain ⟨o_2, h_2, h⟩ := bind_some h
      refine aw_mid (mk [(0, .ptr 0 0 0 0), (9, .own 1 ((o_2.2.2).length))] [(0, .live (.var 53 [.sl false 1 (List.map (AV.int .u8) o_2.1), .bool o_2.2.1])), (1, .live (.row 24 3 (List.map e_T_api_Value o_2.2.2)))] 2) ?_ ?_
      · replace h := h_2
        refine aw_block (id := 1) (by kernel_rfl) ?_
        refine aw_sub (sub_wkm [0, 2] [] [.s 0, .s 3, .s 9] [.s 0, .s 1] (sl2 := [(0, .ptr 0 0 0 0), (3, .int .i64 n_1), (9, .own 1 0)]) (bx2 := [(0, .live (.var 53 (v_T_column_input x_1))), (1, .live (.row 24 3 []))]) (by kernel_rfl) an) ?_
        refine aw_loopF (fun n st => ∃ (c_1 : List Int), ∃ (c_2 : Bool), ∃ (row_1 : List T_api_Value), st = mk [(0, .ptr 0 0 0 0), (3, .int .i64 n_1), (9, .own 1 ((row_1).length))] [(0, .live (.var 53 [.sl false 1 (List.map (AV.int .u8) c_1), .bool c_2])), (1, .live (.row 24 3 (List.map e_T_api_Value row_1)))] 2 ∧ column_input_values_L1 F n_1 n c_1 c_2 row_1 = some o_2) F (by kernel_rfl) ⟨_, _, _, rfl, h⟩ ?_ ?_
        · rintro _ ⟨_, _, _, _, h⟩; exact none_ne (h : (none : Option ((List Int) × Bool × (List T_api_Value))) = some o_2)
        rintro n_2 _ ⟨c_1, c_2, row_1, rfl, h⟩
        replace h : column_input_values_L1_body F n_1 (column_input_values_L1 F n_1 n_2) c_1 c_2 row_1 = some o_2 := h
        unfold column_input_values_L1_body at h
        refine aw_seq (by kernel_rfl) ?_
        refine aw_seq (by kernel_rfl) ?_
        refine aw_mid (mk [(0, .ptr 0 0 0 0), (3, .int .i64 n_1), (9, .own 1 ((row_1).length)), (31, .bool (decide ((((row_1).length : Nat) : Int) < n_1) && !c_2))] [(0, .live (.var 53 [.sl false 1 (List.map (AV.int .u8) c_1), .bool c_2])), (1, .live (.row 24 3 (List.map e_T_api_Value row_1)))] 2) ?_ ?_
        · rcases Bool.eq_false_or_eq_true (decide ((((row_1).length : Nat) : Int) < n_1)) with gg_119 | gg_119
          · refine aw_region [(10, { b := true })] [0, 3, 9, 26, 27, 28, 29, 30, 31] [0, 1] 2 (vals := [.ptr 0 0 0 0, .int .i64 n_1, .own 1 ((row_1).length), .ptr 0 0 0 0, .ptr 0 0 0 0, .ptr 0 0 0 1, .bool c_2, .bool (!c_2), .bool (!c_2)]) (bxs := [.live (.var 53 [.sl false 1 (List.map (AV.int .u8) c_1), .bool c_2]), .live (.row 24 3 (List.map e_T_api_Value row_1))]) (by kernel_rfl) hmix (ac gg_119 (ac gg_119 (ac gg_119 (ac gg_119 (ac gg_119 (ac gg_119 an)))))) ?_
            exact ⟨rfl, (sub_wkm [0, 1] [] [.s 0, .s 3, .s 9, .a 31 (.bool (decide ((((row_1).length : Nat) : Int) < n_1) && !c_2))] [.s 0, .s 1] (by kernel_rfl) (ac (congrArg AV.bool (andt gg_119 rfl) : (.bool (!c_2) : AV) = .bool (decide ((((row_1).length : Nat) : Int) < n_1) && !c_2)) an))⟩
          · refine aw_region [(5, { g := false }), (6, { g := false }), (7, { g := false }), (8, { g := false }), (9, { g := false }), (10, { b := false })] [0, 3, 9, 26, 27, 28, 29, 30, 31] [0, 1] 2 (vals := [.ptr 0 0 0 0, .int .i64 n_1, .own 1 ((row_1).length), .tuple [], .tuple [], .tuple [], .tuple [], .tuple [], .bool false]) (bxs := [.live (.var 53 [.sl false 1 (List.map (AV.int .u8) c_1), .bool c_2]), .live (.row 24 3 (List.map e_T_api_Value row_1))]) (by kernel_rfl) hmix (ac gg_119 (ac gg_119 (ac gg_119 (ac gg_119 (ac gg_119 (ac gg_119 an)))))) ?_
            exact ⟨rfl, (sub_wkm [0, 1] [] [.s 0, .s 3, .s 9, .a 31 (.bool (decide ((((row_1).length : Nat) : Int) < n_1) && !c_2))] [.s 0, .s 1] (by kernel_rfl) (ac (congrArg AV.bool (andf gg_119) : (.bool false : AV) = .bool (decide ((((row_1).length : Nat) : Int) < n_1) && !c_2)) an))⟩
        refine aw_cond (t := 31) (b := (decide ((((row_1).length : Nat) : Int) < n_1) && !c_2)) (by kernel_rfl) (by kernel_rfl) ?_ ?_
        rotate_left
        · intro g_2; replace h := cond_f g_2 h
          refine aw_exit (id := 1) (by kernel_rfl) ?_
          replace h := Option.some.inj h; subst h
          exact ⟨rfl, (sub_wkm [0, 1] [] [.s 0, .s 9] [.s 0, .s 1] (by kernel_rfl) an)⟩
        intro g_2; replace h := cond_t g_2 h
        refine aw_skip (by kernel_rfl) ?_
        refine aw_block (id := 2) (by kernel_rfl) ?_
        obtain ⟨r_1, h_3, h⟩ := bind_some h
        obtain ⟨_, h_4, h⟩ := bind_some h; replace h_4 := need_some h_4
        refine aw_region [(2, { av := e_T_api_Value r_1.1, ids := [0], l := [.ptr 0 0 0 0], post := [(.var 53 (v_T_column_input r_1.2))], pre := [(.var 53 [.sl false 1 (List.map (AV.int .u8) c_1), .bool c_2])] }), (3, { id := 2 }), (4, { id := 3, l := (List.map e_T_api_Value (row_1 ++ ([r_1.1] : List T_api_Value))), n := ((row_1 ++ ([r_1.1] : List T_api_Value))).length })] [0, 3, 9] [0, 3] 4 (vals := [.ptr 0 0 0 0, .int .i64 n_1, .own 3 (((row_1 ++ ([r_1.1] : List T_api_Value))).length)]) (bxs := [.live (.var 53 (v_T_column_input r_1.2)), .live (.row 24 3 (List.map e_T_api_Value (row_1 ++ ([r_1.1] : List T_api_Value))))]) (by kernel_rfl) hmix (ac (rfl : ([.ptr 0 0 0 0] : List AV) = [.ptr 0 0 0 0]) (ac (rfl : ([.live (.var 53 [.sl false 1 (List.map (AV.int .u8) c_1), .bool c_2])] : List BoxSt) = [.live (.var 53 [.sl false 1 (List.map (AV.int .u8) c_1), .bool c_2])]) (ac (column_input_value_ok F (⟨c_1, c_2⟩ : T_column_input) r_1 h_3 : TripleG prog 40 [(.var 53 [.sl false 1 (List.map (AV.int .u8) c_1), .bool c_2])] [] [.ptr 0 0 0 0] [(.var 53 (v_T_column_input r_1.2))] (e_T_api_Value r_1.1)) (ac (by first | (simp; done) | (simp; omega) : (row_1).length = ((List.map e_T_api_Value row_1)).length) (ac (by first | (simp; done) | (simp; omega) : 1 = ((List.map e_T_api_Value ([r_1.1] : List T_api_Value))).length) (ac (vc_app _ _ : (List.map e_T_api_Value (row_1 ++ ([r_1.1] : List T_api_Value))) = (List.map e_T_api_Value row_1) ++ (List.map e_T_api_Value ([r_1.1] : List T_api_Value))) (ac (by simp : ((row_1 ++ ([r_1.1] : List T_api_Value))).length = ((List.map e_T_api_Value (row_1 ++ ([r_1.1] : List T_api_Value)))).length) (ac (by first | (simp; done) | simpa using h_4 : (((List.map e_T_api_Value row_1) : List AV).length + ((List.map e_T_api_Value ([r_1.1] : List T_api_Value)) : List AV).length) * 32 ≤ 140737488355328) an)))))))) ?_
        exact ⟨_, (sub_wkm [0, 3] [] [.s 0, .s 3, .s 9] [.s 0, .s 1] (by kernel_rfl) an), _, _, _, rfl, h⟩
      replace h := Option.some.inj h; subst h
      exact ⟨rfl, (sub_wkm [0, 1] [] [.s 0, .s 9] [.s 0, .s 1] (by kernel_rfl) an)⟩
    intro g_1; replace h := cond_f g_1 h
    refine aw_seq (by kernel_rfl) ?_
    refine aw_region [] [0, 2, 3, 9, 15, 37] [0, 2] 3 (vals := [.ptr 0 0 0 0, .int .i64 k_1, .int .i64 n_1, .own 2 0, .int .u8 coding_1, .bool (coding_1 == (1 : Int))]) (bxs := [.live (.var 53 (v_T_column_input x_1)), .live (.row 24 3 [])]) (by kernel_rfl) hmix an ?_
    refine aw_cond (t := 37) (b := (coding_1 == (1 : Int))) (by kernel_rfl) (by kernel_rfl) ?_ ?_
    · intro g_3; replace h := cond_t g_3 h
      obtain ⟨o_3, h_5, h⟩ := bind_some h
      refine aw_mid (mk [(0, .ptr 0 0 0 0), (9, .own 1 ((o_3.2.2).length))] [(0, .live (.var 53 [.sl false 1 (List.map (AV.int .u8) o_3.1), .bool o_3.2.1])), (1, .live (.row 24 3 (List.map e_T_api_Value o_3.2.2)))] 2) ?_ ?_
      · replace h := h_5
        refine aw_block (id := 3) (by kernel_rfl) ?_
        refine aw_sub (sub_wkm [0, 2] [] [.s 0, .s 3, .s 9] [.s 0, .s 1] (sl2 := [(0, .ptr 0 0 0 0), (3, .int .i64 n_1), (9, .own 1 0)]) (bx2 := [(0, .live (.var 53 (v_T_column_input x_1))), (1, .live (.row 24 3 []))]) (by kernel_rfl) an) ?_
        refine aw_loopF (fun n st => ∃ (c_3 : List Int), ∃ (c_4 : Bool), ∃ (row_2 : List T_api_Value), st = mk [(0, .ptr 0 0 0 0), (3, .int .i64 n_1), (9, .own 1 ((row_2).length))] [(0, .live (.var 53 [.sl false 1 (List.map (AV.int .u8) c_3), .bool c_4])), (1, .live (.row 24 3 (List.map e_T_api_Value row_2)))] 2 ∧ column_input_values_L2 F n_1 n c_3 c_4 row_2 = some o_3) F (by kernel_rfl) ⟨_, _, _, rfl, h⟩ ?_ ?_
        · rintro _ ⟨_, _, _, _, h⟩; exact none_ne (h : (none : Option ((List Int) × Bool × (List T_api_Value))) = some o_3)
        rintro n_3 _ ⟨c_3, c_4, row_2, rfl, h⟩
        replace h : column_input_values_L2_body F n_1 (column_input_values_L2 F n_1 n_3) c_3 c_4 row_2 = some o_3 := h
        unfold column_input_values_L2_body at h
        refine aw_seq (by kernel_rfl) ?_
        refine aw_seq (by kernel_rfl) ?_
        refine aw_mid (mk [(0, .ptr 0 0 0 0), (3, .int .i64 n_1), (9, .own 1 ((row_2).length)), (49, .bool (decide ((((row_2).length : Nat) : Int) < n_1) && !c_4))] [(0, .live (.var 53 [.sl false 1 (List.map (AV.int .u8) c_3), .bool c_4])), (1, .live (.row 24 3 (List.map e_T_api_Value row_2)))] 2) ?_ ?_
        · rcases Bool.eq_false_or_eq_true (decide ((((row_2).length : Nat) : Int) < n_1)) with gg_129 | gg_129
          · refine aw_region [(10, { b := true })] [0, 3, 9, 44, 45, 46, 47, 48, 49] [0, 1] 2 (vals := [.ptr 0 0 0 0, .int .i64 n_1, .own 1 ((row_2).length), .ptr 0 0 0 0, .ptr 0 0 0 0, .ptr 0 0 0 1, .bool c_4, .bool (!c_4), .bool (!c_4)]) (bxs := [.live (.var 53 [.sl false 1 (List.map (AV.int .u8) c_3), .bool c_4]), .live (.row 24 3 (List.map e_T_api_Value row_2))]) (by kernel_rfl) hmix (ac gg_129 (ac gg_129 (ac gg_129 (ac gg_129 (ac gg_129 (ac gg_129 an)))))) ?_
            exact ⟨rfl, (sub_wkm [0, 1] [] [.s 0, .s 3, .s 9, .a 49 (.bool (decide ((((row_2).length : Nat) : Int) < n_1) && !c_4))] [.s 0, .s 1] (by kernel_rfl) (ac (congrArg AV.bool (andt gg_129 rfl) : (.bool (!c_4) : AV) = .bool (decide ((((row_2).length : Nat) : Int) < n_1) && !c_4)) an))⟩
          · refine aw_region [(5, { g := false }), (6, { g := false }), (7, { g := false }), (8, { g := false }), (9, { g := false }), (10, { b := false })] [0, 3, 9, 44, 45, 46, 47, 48, 49] [0, 1] 2 (vals := [.ptr 0 0 0 0, .int .i64 n_1, .own 1 ((row_2).length), .tuple [], .tuple [], .tuple [], .tuple [], .tuple [], .bool false]) (bxs := [.live (.var 53 [.sl false 1 (List.map (AV.int .u8) c_3), .bool c_4]), .live (.row 24 3 (List.map e_T_api_Value row_2))]) (by kernel_rfl) hmix (ac gg_129 (ac gg_129 (ac gg_129 (ac gg_129 (ac gg_129 (ac gg_129 an)))))) ?_
            exact ⟨rfl, (sub_wkm [0, 1] [] [.s 0, .s 3, .s 9, .a 49 (.bool (decide ((((row_2).length : Nat) : Int) < n_1) && !c_4))] [.s 0, .s 1] (by kernel_rfl) (ac (congrArg AV.bool (andf gg_129) : (.bool false : AV) = .bool (decide ((((row_2).length : Nat) : Int) < n_1) && !c_4)) an))⟩
        refine aw_cond (t := 49) (b := (decide ((((row_2).length : Nat) : Int) < n_1) && !c_4)) (by kernel_rfl) (by kernel_rfl) ?_ ?_
        rotate_left
        · intro g_4; replace h := cond_f g_4 h
          refine aw_exit (id := 3) (by kernel_rfl) ?_
          replace h := Option.some.inj h; subst h
          exact ⟨rfl, (sub_wkm [0, 1] [] [.s 0, .s 9] [.s 0, .s 1] (by kernel_rfl) an)⟩
        intro g_4; replace h := cond_t g_4 h
        refine aw_skip (by kernel_rfl) ?_
        refine aw_block (id := 4) (by kernel_rfl) ?_
        refine aw_seq (by kernel_rfl) ?_
        obtain ⟨r_2, h_6, h⟩ := bind_some h
        refine aw_region [(1, { av := .int .i64 r_2.1, ids := [0], l := [.ptr 0 0 0 0], post := [(.var 53 (v_T_column_input r_2.2))], pre := [(.var 53 [.sl false 1 (List.map (AV.int .u8) c_3), .bool c_4])] })] [0, 3, 9, 10] [0, 1] 2 (vals := [.ptr 0 0 0 0, .int .i64 n_1, .own 1 ((row_2).length), .int .i64 r_2.1]) (bxs := [.live (.var 53 (v_T_column_input r_2.2)), .live (.row 24 3 (List.map e_T_api_Value row_2))]) (by kernel_rfl) hmix (ac (rfl : ([.ptr 0 0 0 0] : List AV) = [.ptr 0 0 0 0]) (ac (rfl : ([.live (.var 53 [.sl false 1 (List.map (AV.int .u8) c_3), .bool c_4])] : List BoxSt) = [.live (.var 53 [.sl false 1 (List.map (AV.int .u8) c_3), .bool c_4])]) (ac (column_input_num_ok F (⟨c_3, c_4⟩ : T_column_input) r_2 h_6 : TripleG prog 41 [(.var 53 [.sl false 1 (List.map (AV.int .u8) c_3), .bool c_4])] [] [.ptr 0 0 0 0] [(.var 53 (v_T_column_input r_2.2))] (.int .i64 r_2.1)) an))) ?_
        refine aw_seq (by kernel_rfl) ?_
        refine aw_mid (mk [(0, .ptr 0 0 0 0), (3, .int .i64 n_1), (9, .own 1 ((row_2).length)), (10, .int .i64 r_2.1)] [(0, .live (.var 53 [.sl false 1 (List.map (AV.int .u8) r_2.2.b), .bool (r_2.2.bad || (decide (r_2.1 < (1 : Int)) || decide (r_2.1 > (w_i64 (n_1 - (((row_2).length : Nat) : Int))))))])), (1, .live (.row 24 3 (List.map e_T_api_Value row_2)))] 2) ?_ ?_
        · rcases Bool.eq_false_or_eq_true r_2.2.bad with gg_130 | gg_130
          · refine aw_region [(6, { g := false }), (7, { g := false }), (8, { b := true }), (10, { g := false }), (11, { g := false }), (12, { g := false }), (13, { g := false }), (14, { g := false }), (15, { g := false }), (16, { b := true })] [0, 3, 9, 10, 58, 59, 62, 63, 64, 65, 66, 67] [0, 1] 2 (vals := [.ptr 0 0 0 0, .int .i64 n_1, .own 1 ((row_2).length), .int .i64 r_2.1, .tuple [], .tuple [], .tuple [], .tuple [], .tuple [], .tuple [], .tuple [], .tuple []]) (bxs := [.live (.var 53 [.sl false 1 (List.map (AV.int .u8) r_2.2.b), .bool true]), .live (.row 24 3 (List.map e_T_api_Value row_2))]) (by kernel_rfl) hmix (ac gg_130 (ac gg_130 (ac gg_130 (ac (rfl : true = !false) (ac (rfl : true = !false) (ac (rfl : true = !false) (ac (rfl : true = !false) (ac (rfl : true = !false) (ac (rfl : true = !false) (ac (rfl : true = true) an)))))))))) ?_
            exact ⟨rfl, (sub_wkm [0, 1] [] [.s 0, .s 3, .s 9, .s 10] [.a 0 (.live (.var 53 [.sl false 1 (List.map (AV.int .u8) r_2.2.b), .bool (r_2.2.bad || (decide (r_2.1 < (1 : Int)) || decide (r_2.1 > (w_i64 (n_1 - (((row_2).length : Nat) : Int))))))])), .s 1] (by kernel_rfl) (ac (rfl : 53 = 53) (ac (rfl : ones [.sl false 1 (List.map (AV.int .u8) r_2.2.b), .bool (r_2.2.bad || (decide (r_2.1 < (1 : Int)) || decide (r_2.1 > (w_i64 (n_1 - (((row_2).length : Nat) : Int))))))] = true) (ac (rfl : 1 = 1) (ac (rfl : ((List.map (AV.int .u8) r_2.2.b) : List AV) = (List.map (AV.int .u8) r_2.2.b)) (ac (rfl : (!false || false) = true) (ac (congrArg AV.bool (ort gg_130) : (.bool true : AV) = .bool (r_2.2.bad || (decide (r_2.1 < (1 : Int)) || decide (r_2.1 > (w_i64 (n_1 - (((row_2).length : Nat) : Int))))))) an)))))))⟩
          · rcases Bool.eq_false_or_eq_true (decide (r_2.1 < (1 : Int))) with gg_131 | gg_131
            · refine aw_region [(8, { b := false }), (10, { g := false }), (11, { g := false }), (12, { g := false }), (13, { g := false }), (14, { g := false }), (15, { g := false }), (16, { b := true })] [0, 3, 9, 10, 58, 59, 62, 63, 64, 65, 66, 67] [0, 1] 2 (vals := [.ptr 0 0 0 0, .int .i64 n_1, .own 1 ((row_2).length), .int .i64 r_2.1, .int .i64 r_2.1, .bool (decide (r_2.1 < (1 : Int))), .tuple [], .tuple [], .tuple [], .tuple [], .tuple [], .tuple []]) (bxs := [.live (.var 53 [.sl false 1 (List.map (AV.int .u8) r_2.2.b), .bool true]), .live (.row 24 3 (List.map e_T_api_Value row_2))]) (by kernel_rfl) hmix (ac gg_130 (ac gg_130 (ac gg_130 (ac gg_131 (ac gg_131 (ac gg_131 (ac gg_131 (ac gg_131 (ac gg_131 (ac gg_131 an)))))))))) ?_
              exact ⟨rfl, (sub_wkm [0, 1] [] [.s 0, .s 3, .s 9, .s 10] [.a 0 (.live (.var 53 [.sl false 1 (List.map (AV.int .u8) r_2.2.b), .bool (r_2.2.bad || (decide (r_2.1 < (1 : Int)) || decide (r_2.1 > (w_i64 (n_1 - (((row_2).length : Nat) : Int))))))])), .s 1] (by kernel_rfl) (ac (rfl : 53 = 53) (ac (rfl : ones [.sl false 1 (List.map (AV.int .u8) r_2.2.b), .bool (r_2.2.bad || (decide (r_2.1 < (1 : Int)) || decide (r_2.1 > (w_i64 (n_1 - (((row_2).length : Nat) : Int))))))] = true) (ac (rfl : 1 = 1) (ac (rfl : ((List.map (AV.int .u8) r_2.2.b) : List AV) = (List.map (AV.int .u8) r_2.2.b)) (ac (rfl : (!false || false) = true) (ac (congrArg AV.bool (orf gg_130 (ort gg_131)) : (.bool true : AV) = .bool (r_2.2.bad || (decide (r_2.1 < (1 : Int)) || decide (r_2.1 > (w_i64 (n_1 - (((row_2).length : Nat) : Int))))))) an)))))))⟩
            · refine aw_region [(8, { b := false }), (16, { b := false })] [0, 3, 9, 10, 58, 59, 62, 63, 64, 65, 66, 67] [0, 1] 2 (vals := [.ptr 0 0 0 0, .int .i64 n_1, .own 1 ((row_2).length), .int .i64 r_2.1, .int .i64 r_2.1, .bool (decide (r_2.1 < (1 : Int))), .int .i64 r_2.1, .int .i64 n_1, .own 1 ((row_2).length), .int .i64 (((row_2).length : Nat) : Int), .int .i64 (w_i64 (n_1 - (((row_2).length : Nat) : Int))), .bool (decide (r_2.1 > (w_i64 (n_1 - (((row_2).length : Nat) : Int)))))]) (bxs := [.live (.var 53 [.sl false 1 (List.map (AV.int .u8) r_2.2.b), .bool (decide (r_2.1 > (w_i64 (n_1 - (((row_2).length : Nat) : Int)))))]), .live (.row 24 3 (List.map e_T_api_Value row_2))]) (by kernel_rfl) hmix (ac gg_130 (ac gg_130 (ac gg_130 (ac gg_131 (ac gg_131 (ac gg_131 (ac gg_131 (ac gg_131 (ac gg_131 (ac gg_131 an)))))))))) ?_
              exact ⟨rfl, (sub_wkm [0, 1] [] [.s 0, .s 3, .s 9, .s 10] [.a 0 (.live (.var 53 [.sl false 1 (List.map (AV.int .u8) r_2.2.b), .bool (r_2.2.bad || (decide (r_2.1 < (1 : Int)) || decide (r_2.1 > (w_i64 (n_1 - (((row_2).length : Nat) : Int))))))])), .s 1] (by kernel_rfl) (ac (rfl : 53 = 53) (ac (rfl : ones [.sl false 1 (List.map (AV.int .u8) r_2.2.b), .bool (r_2.2.bad || (decide (r_2.1 < (1 : Int)) || decide (r_2.1 > (w_i64 (n_1 - (((row_2).length : Nat) : Int))))))] = true) (ac (rfl : 1 = 1) (ac (rfl : ((List.map (AV.int .u8) r_2.2.b) : List AV) = (List.map (AV.int .u8) r_2.2.b)) (ac (rfl : (!false || false) = true) (ac (congrArg AV.bool (orf gg_130 (orf gg_131 rfl)) : (.bool (decide (r_2.1 > (w_i64 (n_1 - (((row_2).length : Nat) : Int))))) : AV) = .bool (r_2.2.bad || (decide (r_2.1 < (1 : Int)) || decide (r_2.1 > (w_i64 (n_1 - (((row_2).length : Nat) : Int))))))) an)))))))⟩
        refine aw_seq (by kernel_rfl) ?_
        refine aw_region [] [0, 3, 9, 10, 75] [0, 1] 2 (vals := [.ptr 0 0 0 0, .int .i64 n_1, .own 1 ((row_2).length), .int .i64 r_2.1, .bool (!(r_2.2.bad || (decide (r_2.1 < (1 : Int)) || decide (r_2.1 > (w_i64 (n_1 - (((row_2).length : Nat) : Int)))))))]) (bxs := [.live (.var 53 [.sl false 1 (List.map (AV.int .u8) r_2.2.b), .bool (r_2.2.bad || (decide (r_2.1 < (1 : Int)) || decide (r_2.1 > (w_i64 (n_1 - (((row_2).length : Nat) : Int))))))]), .live (.row 24 3 (List.map e_T_api_Value row_2))]) (by kernel_rfl) hmix an ?_
        refine aw_cond (t := 75) (b := (!(r_2.2.bad || (decide (r_2.1 < (1 : Int)) || decide (r_2.1 > (w_i64 (n_1 - (((row_2).length : Nat) : Int)))))))) (by kernel_rfl) (by kernel_rfl) ?_ ?_
        rotate_left
        · intro g_5; replace h := cond_f g_5 h
          refine aw_skip (by kernel_rfl) ?_
          exact ⟨_, (sub_wkm [0, 1] [] [.s 0, .s 3, .s 9] [.s 0, .s 1] (by kernel_rfl) an), _, _, _, rfl, h⟩
        intro g_5; replace h := cond_t g_5 h
        obtain ⟨r_3, h_7, h⟩ := bind_some h
        obtain ⟨r_4, h_8, h⟩ := bind_some h
        obtain ⟨_, h_9, h⟩ := bind_some h; replace h_9 := need_some h_9
        refine aw_region [(2, { av := e_T_api_Value r_3.1, ids := [0], l := [.ptr 0 0 0 0], post := [(.var 53 (v_T_column_input r_3.2))], pre := [(.var 53 [.sl false 1 (List.map (AV.int .u8) r_2.2.b), .bool (r_2.2.bad || (decide (r_2.1 < (1 : Int)) || decide (r_2.1 > (w_i64 (n_1 - (((row_2).length : Nat) : Int))))))])] }), (3, { id := 2 }), (5, { av := .own 0 ((r_4).length), frz := [2], ids := [3], l := [.sl false 3 (List.map e_T_api_Value ([r_3.1] : List T_api_Value)), .int .i64 r_2.1], post := [(.row 24 3 (List.map e_T_api_Value r_4))] }), (6, { id := 4, l := (List.map e_T_api_Value (row_2 ++ r_4)), n := ((row_2 ++ r_4)).length })] [0, 3, 9] [0, 4] 5 (vals := [.ptr 0 0 0 0, .int .i64 n_1, .own 4 (((row_2 ++ r_4)).length)]) (bxs := [.live (.var 53 (v_T_column_input r_3.2)), .live (.row 24 3 (List.map e_T_api_Value (row_2 ++ r_4)))]) (by kernel_rfl) hmix (ac (rfl : ([.ptr 0 0 0 0] : List AV) = [.ptr 0 0 0 0]) (ac (rfl : ([.live (.var 53 [.sl false 1 (List.map (AV.int .u8) r_2.2.b), .bool (r_2.2.bad || (decide (r_2.1 < (1 : Int)) || decide (r_2.1 > (w_i64 (n_1 - (((row_2).length : Nat) : Int))))))])] : List BoxSt) = [.live (.var 53 [.sl false 1 (List.map (AV.int .u8) r_2.2.b), .bool (r_2.2.bad || (decide (r_2.1 < (1 : Int)) || decide (r_2.1 > (w_i64 (n_1 - (((row_2).length : Nat) : Int))))))])]) (ac (column_input_value_ok F (⟨r_2.2.b, (r_2.2.bad || (decide (r_2.1 < (1 : Int)) || decide (r_2.1 > (w_i64 (n_1 - (((row_2).length : Nat) : Int))))))⟩ : T_column_input) r_3 h_7 : TripleG prog 40 [(.var 53 [.sl false 1 (List.map (AV.int .u8) r_2.2.b), .bool (r_2.2.bad || (decide (r_2.1 < (1 : Int)) || decide (r_2.1 > (w_i64 (n_1 - (((row_2).length : Nat) : Int))))))])] [] [.ptr 0 0 0 0] [(.var 53 (v_T_column_input r_3.2))] (e_T_api_Value r_3.1)) (ac (by first | (simp; done) | (simp; omega) : 1 = ((List.map e_T_api_Value ([r_3.1] : List T_api_Value))).length) (ac (rfl : ([.sl false 3 (List.map e_T_api_Value ([r_3.1] : List T_api_Value)), .int .i64 r_2.1] : List AV) = [.sl false 3 (List.map e_T_api_Value ([r_3.1] : List T_api_Value)), .int .i64 r_2.1]) (ac (rfl : ([] : List BoxSt) = []) (ac (slices_Repeat_tracebook_api_Value_tracebook_api_Value_ok F ([r_3.1] : List T_api_Value) r_2.1 r_4 h_8 : TripleG prog 42 [] [] [.sl false 3 (List.map e_T_api_Value ([r_3.1] : List T_api_Value)), .int .i64 r_2.1] [(.row 24 3 (List.map e_T_api_Value r_4))] (.own 0 ((r_4).length))) (ac (by first | (simp; done) | (simp; omega) : (row_2).length = ((List.map e_T_api_Value row_2)).length) (ac (by first | (simp; done) | (simp; omega) : (r_4).length = ((List.map e_T_api_Value r_4)).length) (ac (vc_app _ _ : (List.map e_T_api_Value (row_2 ++ r_4)) = (List.map e_T_api_Value row_2) ++ (List.map e_T_api_Value r_4)) (ac (by simp : ((row_2 ++ r_4)).length = ((List.map e_T_api_Value (row_2 ++ r_4))).length) (ac (by first | (simp; done) | simpa using h_9 : (((List.map e_T_api_Value row_2) : List AV).length + ((List.map e_T_api_Value r_4) : List AV).length) * 32 ≤ 140737488355328) an)))))))))))) ?_
        exact ⟨_, (sub_wkm [0, 4] [] [.s 0, .s 3, .s 9] [.s 0, .s 1] (by kernel_rfl) an), _, _, _, rfl, h⟩
      replace h := Option.some.inj h; subst h
      exact ⟨rfl, (sub_wkm [0, 1] [] [.s 0, .s 9] [.s 0, .s 1] (by kernel_rfl) an)⟩
    intro g_3; replace h := cond_f g_3 h
    refine aw_seq (by kernel_rfl) ?_
    refine aw_region [] [0, 2, 3, 9, 15, 83] [0, 2] 3 (vals := [.ptr 0 0 0 0, .int .i64 k_1, .int .i64 n_1, .own 2 0, .int .u8 coding_1, .bool (coding_1 == (2 : Int))]) (bxs := [.live (.var 53 (v_T_column_input x_1)), .live (.row 24 3 [])]) (by kernel_rfl) hmix an ?_
    refine aw_cond (t := 83) (b := (coding_1 == (2 : Int))) (by kernel_rfl) (by kernel_rfl) ?_ ?_
    · intro g_6; replace h := cond_t g_6 h
      refine aw_seq (by kernel_rfl) ?_
      refine aw_region [] [0, 2, 3, 9, 11] [0, 2] 3 (vals := [.ptr 0 0 0 0, .int .i64 k_1, .int .i64 n_1, .own 2 0, .int .i64 (0 : Int)]) (bxs := [.live (.var 53 (v_T_column_input x_1)), .live (.row 24 3 [])]) (by kernel_rfl) hmix an ?_
      obtain ⟨o_4, h_10, h⟩ := bind_some h
      refine aw_mid (mk [(0, .ptr 0 0 0 0), (9, .own 1 ((o_4.2.2).length))] [(0, .live (.var 53 [.sl false 1 (List.map (AV.int .u8) o_4.1), .bool o_4.2.1])), (1, .live (.row 24 3 (List.map e_T_api_Value o_4.2.2)))] 2) ?_ ?_
      · replace h := h_10
        refine aw_block (id := 5) (by kernel_rfl) ?_
        refine aw_sub (sub_wkm [0, 2] [] [.s 0, .s 2, .s 3, .s 9, .s 11] [.s 0, .s 1] (sl2 := [(0, .ptr 0 0 0 0), (2, .int .i64 k_1), (3, .int .i64 n_1), (9, .own 1 0), (11, .int .i64 (0 : Int))]) (bx2 := [(0, .live (.var 53 (v_T_column_input x_1))), (1, .live (.row 24 3 []))]) (by kernel_rfl) an) ?_
        refine aw_loopF (fun n st => ∃ (last_1 : Int), ∃ (c_5 : List Int), ∃ (c_6 : Bool), ∃ (row_3 : List T_api_Value), st = mk [(0, .ptr 0 0 0 0), (2, .int .i64 k_1), (3, .int .i64 n_1), (9, .own 1 ((row_3).length)), (11, .int .i64 last_1)] [(0, .live (.var 53 [.sl false 1 (List.map (AV.int .u8) c_5), .bool c_6])), (1, .live (.row 24 3 (List.map e_T_api_Value row_3)))] 2 ∧ column_input_values_L3 F k_1 n_1 n last_1 c_5 c_6 row_3 = some o_4) F (by kernel_rfl) ⟨_, _, _, _, rfl, h⟩ ?_ ?_
        · rintro _ ⟨_, _, _, _, _, h⟩; exact none_ne (h : (none : Option ((List Int) × Bool × (List T_api_Value))) = some o_4)
        rintro n_4 _ ⟨last_1, c_5, c_6, row_3, rfl, h⟩
        replace h : column_input_values_L3_body F k_1 n_1 (column_input_values_L3 F k_1 n_1 n_4) last_1 c_5 c_6 row_3 = some o_4 := h
        unfold column_input_values_L3_body at h
        refine aw_seq (by kernel_rfl) ?_
        refine aw_seq (by kernel_rfl) ?_
        refine aw_mid (mk [(0, .ptr 0 0 0 0), (2, .int .i64 k_1), (3, .int .i64 n_1), (9, .own 1 ((row_3).length)), (11, .int .i64 last_1), (95, .bool (decide ((((row_3).length : Nat) : Int) < n_1) && !c_6))] [(0, .live (.var 53 [.sl false 1 (List.map (AV.int .u8) c_5), .bool c_6])), (1, .live (.row 24 3 (List.map e_T_api_Value row_3)))] 2) ?_ ?_
        · rcases Bool.eq_false_or_eq_true (decide ((((row_3).length : Nat) : Int) < n_1)) with gg_135 | gg_135
          · refine aw_region [(10, { b := true })] [0, 2, 3, 9, 11, 90, 91, 92, 93, 94, 95] [0, 1] 2 (vals := [.ptr 0 0 0 0, .int .i64 k_1, .int .i64 n_1, .own 1 ((row_3).length), .int .i64 last_1, .ptr 0 0 0 0, .ptr 0 0 0 0, .ptr 0 0 0 1, .bool c_6, .bool (!c_6), .bool (!c_6)]) (bxs := [.live (.var 53 [.sl false 1 (List.map (AV.int .u8) c_5), .bool c_6]), .live (.row 24 3 (List.map e_T_api_Value row_3))]) (by kernel_rfl) hmix (ac gg_135 (ac gg_135 (ac gg_135 (ac gg_135 (ac gg_135 (ac gg_135 an)))))) ?_
            exact ⟨rfl, (sub_wkm [0, 1] [] [.s 0, .s 2, .s 3, .s 9, .s 11, .a 95 (.bool (decide ((((row_3).length : Nat) : Int) < n_1) && !c_6))] [.s 0, .s 1] (by kernel_rfl) (ac (congrArg AV.bool (andt gg_135 rfl) : (.bool (!c_6) : AV) = .bool (decide ((((row_3).length : Nat) : Int) < n_1) && !c_6)) an))⟩
          · refine aw_region [(5, { g := false }), (6, { g := false }), (7, { g := false }), (8, { g := false }), (9, { g := false }), (10, { b := false })] [0, 2, 3, 9, 11, 90, 91, 92, 93, 94, 95] [0, 1] 2 (vals := [.ptr 0 0 0 0, .int .i64 k_1, .int .i64 n_1, .own 1 ((row_3).length), .int .i64 last_1, .tuple [], .tuple [], .tuple [], .tuple [], .tuple [], .bool false]) (bxs := [.live (.var 53 [.sl false 1 (List.map (AV.int .u8) c_5), .bool c_6]), .live (.row 24 3 (List.map e_T_api_Value row_3))]) (by kernel_rfl) hmix (ac gg_135 (ac gg_135 (ac gg_135 (ac gg_135 (ac gg_135 (ac gg_135 an)))))) ?_
            exact ⟨rfl, (sub_wkm [0, 1] [] [.s 0, .s 2, .s 3, .s 9, .s 11, .a 95 (.bool (decide ((((row_3).length : Nat) : Int) < n_1) && !c_6))] [.s 0, .s 1] (by kernel_rfl) (ac (congrArg AV.bool (andf gg_135) : (.bool false : AV) = .bool (decide ((((row_3).length : Nat) : Int) < n_1) && !c_6)) an))⟩
        refine aw_cond (t := 95) (b := (decide ((((row_3).length : Nat) : Int) < n_1) && !c_6)) (by kernel_rfl) (by kernel_rfl) ?_ ?_
        rotate_left
        · intro g_7; replace h := cond_f g_7 h
          refine aw_exit (id := 5) (by kernel_rfl) ?_
          replace h := Option.some.inj h; subst h
          exact ⟨rfl, (sub_wkm [0, 1] [] [.s 0, .s 9] [.s 0, .s 1] (by kernel_rfl) an)⟩
        intro g_7; replace h := cond_t g_7 h
        refine aw_skip (by kernel_rfl) ?_
        refine aw_block (id := 6) (by kernel_rfl) ?_
        refine aw_seq (by kernel_rfl) ?_
        obtain ⟨r_5, h_11, h⟩ := bind_some h
        refine aw_region [(2, { av := .int .i64 r_5.1, ids := [0], l := [.ptr 0 0 0 0], post := [(.var 53 (v_T_column_input r_5.2))], pre := [(.var 53 [.sl false 1 (List.map (AV.int .u8) c_5), .bool c_6])] })] [0, 2, 3, 9, 11] [0, 1] 2 (vals := [.ptr 0 0 0 0, .int .i64 k_1, .int .i64 n_1, .own 1 ((row_3).length), .int .i64 (w_i64 (last_1 + r_5.1))]) (bxs := [.live (.var 53 (v_T_column_input r_5.2)), .live (.row 24 3 (List.map e_T_api_Value row_3))]) (by kernel_rfl) hmix (ac (rfl : ([.ptr 0 0 0 0] : List AV) = [.ptr 0 0 0 0]) (ac (rfl : ([.live (.var 53 [.sl false 1 (List.map (AV.int .u8) c_5), .bool c_6])] : List BoxSt) = [.live (.var 53 [.sl false 1 (List.map (AV.int .u8) c_5), .bool c_6])]) (ac (column_input_num_ok F (⟨c_5, c_6⟩ : T_column_input) r_5 h_11 : TripleG prog 41 [(.var 53 [.sl false 1 (List.map (AV.int .u8) c_5), .bool c_6])] [] [.ptr 0 0 0 0] [(.var 53 (v_T_column_input r_5.2))] (.int .i64 r_5.1)) an))) ?_
        obtain ⟨_, h_12, h⟩ := bind_some h; replace h_12 := need_some h_12
        refine aw_region [(4, { id := 2 }), (5, { id := 3, l := (List.map e_T_api_Value (row_3 ++ ([(⟨k_1, w_i64 (last_1 + r_5.1), ([] : List Int)⟩ : T_api_Value)] : List T_api_Value))), n := ((row_3 ++ ([(⟨k_1, w_i64 (last_1 + r_5.1), ([] : List Int)⟩ : T_api_Value)] : List T_api_Value))).length })] [0, 2, 3, 9, 11] [0, 3] 4 (vals := [.ptr 0 0 0 0, .int .i64 k_1, .int .i64 n_1, .own 3 (((row_3 ++ ([(⟨k_1, w_i64 (last_1 + r_5.1), ([] : List Int)⟩ : T_api_Value)] : List T_api_Value))).length), .int .i64 (w_i64 (last_1 + r_5.1))]) (bxs := [.live (.var 53 (v_T_column_input r_5.2)), .live (.row 24 3 (List.map e_T_api_Value (row_3 ++ ([(⟨k_1, w_i64 (last_1 + r_5.1), ([] : List Int)⟩ : T_api_Value)] : List T_api_Value))))]) (by kernel_rfl) hmix (ac (by first | (simp; done) | (simp; omega) : (row_3).length = ((List.map e_T_api_Value row_3)).length) (ac (by first | (simp; done) | (simp; omega) : 1 = ((List.map e_T_api_Value ([(⟨k_1, w_i64 (last_1 + r_5.1), ([] : List Int)⟩ : T_api_Value)] : List T_api_Value))).length) (ac (vc_app _ _ : (List.map e_T_api_Value (row_3 ++ ([(⟨k_1, w_i64 (last_1 + r_5.1), ([] : List Int)⟩ : T_api_Value)] : List T_api_Value))) = (List.map e_T_api_Value row_3) ++ (List.map e_T_api_Value ([(⟨k_1, w_i64 (last_1 + r_5.1), ([] : List Int)⟩ : T_api_Value)] : List T_api_Value))) (ac (by simp : ((row_3 ++ ([(⟨k_1, w_i64 (last_1 + r_5.1), ([] : List Int)⟩ : T_api_Value)] : List T_api_Value))).length = ((List.map e_T_api_Value (row_3 ++ ([(⟨k_1, w_i64 (last_1 + r_5.1), ([] : List Int)⟩ : T_api_Value)] : List T_api_Value)))).length) (ac (by first | (simp; done) | simpa using h_12 : (((List.map e_T_api_Value row_3) : List AV).length + ((List.map e_T_api_Value ([(⟨k_1, w_i64 (last_1 + r_5.1), ([] : List Int)⟩ : T_api_Value)] : List T_api_Value)) : List AV).length) * 32 ≤ 140737488355328) an))))) ?_
        exact ⟨_, (sub_wkm [0, 3] [] [.s 0, .s 2, .s 3, .s 9, .s 11] [.s 0, .s 1] (by kernel_rfl) an), _, _, _, _, rfl, h⟩
      replace h := Option.some.inj h; subst h
      exact ⟨rfl, (sub_wkm [0, 1] [] [.s 0, .s 9] [.s 0, .s 1] (by kernel_rfl) an)⟩
    intro g_6; replace h := cond_f g_6 h
    refine aw_seq (by kernel_rfl) ?_
    refine aw_region [] [0, 3, 9, 106] [0, 2] 3 (vals := [.ptr 0 0 0 0, .int .i64 n_1, .own 2 0, .bool (coding_1 == (3 : Int))]) (bxs := [.live (.var 53 (v_T_column_input x_1)), .live (.row 24 3 [])]) (by kernel_rfl) hmix an ?_
    refine aw_cond (t := 106) (b := (coding_1 == (3 : Int))) (by kernel_rfl) (by kernel_rfl) ?_ ?_
    rotate_left
    · intro g_8; replace h := cond_f g_8 h
      refine aw_region [] [0, 9] [0, 2] 3 (vals := [.ptr 0 0 0 0, .own 2 0]) (bxs := [.live (.var 53 [.sl false 1 (List.map (AV.int .u8) x_1.b), .bool true]), .live (.row 24 3 [])]) (by kernel_rfl) hmix an ?_
      replace h := Option.some.inj h; subst h
      exact ⟨rfl, (sub_wkm [0, 2] [] [.s 0, .s 9] [.s 0, .s 1] (by kernel_rfl) an)⟩
    intro g_8; replace h := cond_t g_8 h
    refine aw_seq (by kernel_rfl) ?_
    obtain ⟨r_6, h_13, h⟩ := bind_some h
    refine aw_region [(1, { av := .int .i64 r_6.1, ids := [0], l := [.ptr 0 0 0 0], post := [(.var 53 (v_T_column_input r_6.2))], pre := [(.var 53 (v_T_column_input x_1))] })] [0, 3, 9, 12] [0, 2] 3 (vals := [.ptr 0 0 0 0, .int .i64 n_1, .own 2 0, .int .i64 r_6.1]) (bxs := [.live (.var 53 (v_T_column_input r_6.2)), .live (.row 24 3 [])]) (by kernel_rfl) hmix (ac (rfl : ([.ptr 0 0 0 0] : List AV) = [.ptr 0 0 0 0]) (ac (rfl : ([.live (.var 53 (v_T_column_input x_1))] : List BoxSt) = [.live (.var 53 (v_T_column_input x_1))]) (ac (column_input_num_ok F x_1 r_6 h_13 : TripleG prog 41 [(.var 53 (v_T_column_input x_1))] [] [.ptr 0 0 0 0] [(.var 53 (v_T_column_input r_6.2))] (.int .i64 r_6.1)) an))) ?_
    refine aw_seq (by kernel_rfl) ?_
    refine aw_mid (mk [(0, .ptr 0 0 0 0), (3, .int .i64 n_1), (9, .own 1 0), (12, .int .i64 r_6.1)] [(0, .live (.var 53 [.sl false 1 (List.map (AV.int .u8) r_6.2.b), .bool (r_6.2.bad || (decide (r_6.1 < (0 : Int)) || decide (r_6.1 > n_1)))])), (1, .live (.row 24 3 []))] 2) ?_ ?_
    · rcases Bool.eq_false_or_eq_true r_6.2.bad with gg_136 | gg_136
      · refine aw_region [(6, { g := false }), (7, { g := false }), (8, { b := true }), (10, { g := false }), (11, { g := false }), (12, { g := false }), (13, { b := true })] [0, 3, 9, 12] [0, 2] 3 (vals := [.ptr 0 0 0 0, .int .i64 n_1, .own 2 0, .int .i64 r_6.1]) (bxs := [.live (.var 53 [.sl false 1 (List.map (AV.int .u8) r_6.2.b), .bool true]), .live (.row 24 3 [])]) (by kernel_rfl) hmix (ac gg_136 (ac gg_136 (ac gg_136 (ac (rfl : true = !false) (ac (rfl : true = !false) (ac (rfl : true = !false) (ac (rfl : true = true) an))))))) ?_
        exact ⟨rfl, (sub_wkm [0, 2] [] [.s 0, .s 3, .s 9, .s 12] [.a 0 (.live (.var 53 [.sl false 1 (List.map (AV.int .u8) r_6.2.b), .bool (r_6.2.bad || (decide (r_6.1 < (0 : Int)) || decide (r_6.1 > n_1)))])), .s 1] (by kernel_rfl) (ac (rfl : 53 = 53) (ac (rfl : ones [.sl false 1 (List.map (AV.int .u8) r_6.2.b), .bool (r_6.2.bad || (decide (r_6.1 < (0 : Int)) || decide (r_6.1 > n_1)))] = true) (ac (rfl : 1 = 1) (ac (rfl : ((List.map (AV.int .u8) r_6.2.b) : List AV) = (List.map (AV.int .u8) r_6.2.b)) (ac (rfl : (!false || false) = true) (ac (congrArg AV.bool (ort gg_136) : (.bool true : AV) = .bool (r_6.2.bad || (decide (r_6.1 < (0 : Int)) || decide (r_6.1 > n_1)))) an)))))))⟩
      · rcases Bool.eq_false_or_eq_true (decide (r_6.1 < (0 : Int))) with gg_137 | gg_137
        · refine aw_region [(8, { b := false }), (10, { g := false }), (11, { g := false }), (12, { g := false }), (13, { b := true })] [0, 3, 9, 12] [0, 2] 3 (vals := [.ptr 0 0 0 0, .int .i64 n_1, .own 2 0, .int .i64 r_6.1]) (bxs := [.live (.var 53 [.sl false 1 (List.map (AV.int .u8) r_6.2.b), .bool true]), .live (.row 24 3 [])]) (by kernel_rfl) hmix (ac gg_136 (ac gg_136 (ac gg_136 (ac gg_137 (ac gg_137 (ac gg_137 (ac gg_137 an))))))) ?_
          exact ⟨rfl, (sub_wkm [0, 2] [] [.s 0, .s 3, .s 9, .s 12] [.a 0 (.live (.var 53 [.sl false 1 (List.map (AV.int .u8) r_6.2.b), .bool (r_6.2.bad || (decide (r_6.1 < (0 : Int)) || decide (r_6.1 > n_1)))])), .s 1] (by kernel_rfl) (ac (rfl : 53 = 53) (ac (rfl : ones [.sl false 1 (List.map (AV.int .u8) r_6.2.b), .bool (r_6.2.bad || (decide (r_6.1 < (0 : Int)) || decide (r_6.1 > n_1)))] = true) (ac (rfl : 1 = 1) (ac (rfl : ((List.map (AV.int .u8) r_6.2.b) : List AV) = (List.map (AV.int .u8) r_6.2.b)) (ac (rfl : (!false || false) = true) (ac (congrArg AV.bool (orf gg_136 (ort gg_137)) : (.bool true : AV) = .bool (r_6.2.bad || (decide (r_6.1 < (0 : Int)) || decide (r_6.1 > n_1)))) an)))))))⟩
        · refine aw_region [(8, { b := false }), (13, { b := false })] [0, 3, 9, 12] [0, 2] 3 (vals := [.ptr 0 0 0 0, .int .i64 n_1, .own 2 0, .int .i64 r_6.1]) (bxs := [.live (.var 53 [.sl false 1 (List.map (AV.int .u8) r_6.2.b), .bool (decide (r_6.1 > n_1))]), .live (.row 24 3 [])]) (by kernel_rfl) hmix (ac gg_136 (ac gg_136 (ac gg_136 (ac gg_137 (ac gg_137 (ac gg_137 (ac gg_137 an))))))) ?_
          exact ⟨rfl, (sub_wkm [0, 2] [] [.s 0, .s 3, .s 9, .s 12] [.a 0 (.live (.var 53 [.sl false 1 (List.map (AV.int .u8) r_6.2.b), .bool (r_6.2.bad || (decide (r_6.1 < (0 : Int)) || decide (r_6.1 > n_1)))])), .s 1] (by kernel_rfl) (ac (rfl : 53 = 53) (ac (rfl : ones [.sl false 1 (List.map (AV.int .u8) r_6.2.b), .bool (r_6.2.bad || (decide (r_6.1 < (0 : Int)) || decide (r_6.1 > n_1)))] = true) (ac (rfl : 1 = 1) (ac (rfl : ((List.map (AV.int .u8) r_6.2.b) : List AV) = (List.map (AV.int .u8) r_6.2.b)) (ac (rfl : (!false || false) = true) (ac (congrArg AV.bool (orf gg_136 (orf gg_137 rfl)) : (.bool (decide (r_6.1 > n_1)) : AV) = .bool (r_6.2.bad || (decide (r_6.1 < (0 : Int)) || decide (r_6.1 > n_1)))) an)))))))⟩
    refine aw_seq (by kernel_rfl) ?_
    refine aw_region [(0, { id := 2, m := 1 })] [0, 3, 9, 12, 13] [0, 1, 2] 3 (vals := [.ptr 0 0 0 0, .int .i64 n_1, .own 1 0, .int .i64 r_6.1, .own 2 0]) (bxs := [.live (.var 53 [.sl false 1 (List.map (AV.int .u8) r_6.2.b), .bool (r_6.2.bad || (decide (r_6.1 < (0 : Int)) || decide (r_6.1 > n_1)))]), .live (.row 24 3 []), .live (.row 24 3 [])]) (by kernel_rfl) hmix an ?_
    refine aw_seq (by kernel_rfl) ?_
    obtain ⟨o_5, h_14, h⟩ := bind_some h
    refine aw_mid (mk [(0, .ptr 0 0 0 0), (3, .int .i64 n_1), (9, .own 1 0), (13, .own 2 ((o_5.2.2).length))] [(0, .live (.var 53 [.sl false 1 (List.map (AV.int .u8) o_5.1), .bool o_5.2.1])), (1, .live (.row 24 3 [])), (2, .live (.row 24 3 (List.map e_T_api_Value o_5.2.2)))] 3) ?_ ?_
    · replace h := h_14
      refine aw_block (id := 7) (by kernel_rfl) ?_
      refine aw_sub (sub_wkm [0, 1, 2] [] [.s 0, .s 3, .s 9, .s 12, .s 13] [.s 0, .s 1, .s 2] (sl2 := [(0, .ptr 0 0 0 0), (3, .int .i64 n_1), (9, .own 1 0), (12, .int .i64 r_6.1), (13, .own 2 0)]) (bx2 := [(0, .live (.var 53 [.sl false 1 (List.map (AV.int .u8) r_6.2.b), .bool (r_6.2.bad || (decide (r_6.1 < (0 : Int)) || decide (r_6.1 > n_1)))])), (1, .live (.row 24 3 [])), (2, .live (.row 24 3 []))]) (by kernel_rfl) an) ?_
      refine aw_loopF (fun n st => ∃ (c_7 : List Int), ∃ (c_8 : Bool), ∃ (row_4 : List T_api_Value), st = mk [(0, .ptr 0 0 0 0), (3, .int .i64 n_1), (9, .own 1 0), (12, .int .i64 r_6.1), (13, .own 2 ((row_4).length))] [(0, .live (.var 53 [.sl false 1 (List.map (AV.int .u8) c_7), .bool c_8])), (1, .live (.row 24 3 [])), (2, .live (.row 24 3 (List.map e_T_api_Value row_4)))] 3 ∧ column_input_values_L4 F r_6 n c_7 c_8 row_4 = some o_5) F (by kernel_rfl) ⟨_, _, _, rfl, h⟩ ?_ ?_
      · rintro _ ⟨_, _, _, _, h⟩; exact none_ne (h : (none : Option ((List Int) × Bool × (List T_api_Value))) = some o_5)
      rintro n_5 _ ⟨c_7, c_8, row_4, rfl, h⟩
      replace h : column_input_values_L4_body F r_6 (column_input_values_L4 F r_6 n_5) c_7 c_8 row_4 = some o_5 := h
      unfold column_input_values_L4_body at h
      refine aw_seq (by kernel_rfl) ?_
      refine aw_seq (by kernel_rfl) ?_
      refine aw_mid (mk [(0, .ptr 0 0 0 0), (3, .int .i64 n_1), (9, .own 1 0), (12, .int .i64 r_6.1), (13, .own 2 ((row_4).length)), (136, .bool (decide ((((row_4).length : Nat) : Int) < r_6.1) && !c_8))] [(0, .live (.var 53 [.sl false 1 (List.map (AV.int .u8) c_7), .bool c_8])), (1, .live (.row 24 3 [])), (2, .live (.row 24 3 (List.map e_T_api_Value row_4)))] 3) ?_ ?_
      · rcases Bool.eq_false_or_eq_true (decide ((((row_4).length : Nat) : Int) < r_6.1)) with gg_141 | gg_141
        · refine aw_region [(10, { b := true })] [0, 3, 9, 12, 13, 131, 132, 133, 134, 135, 136] [0, 1, 2] 3 (vals := [.ptr 0 0 0 0, .int .i64 n_1, .own 1 0, .int .i64 r_6.1, .own 2 ((row_4).length), .ptr 0 0 0 0, .ptr 0 0 0 0, .ptr 0 0 0 1, .bool c_8, .bool (!c_8), .bool (!c_8)]) (bxs := [.live (.var 53 [.sl false 1 (List.map (AV.int .u8) c_7), .bool c_8]), .live (.row 24 3 []), .live (.row 24 3 (List.map e_T_api_Value row_4))]) (by kernel_rfl) hmix (ac gg_141 (ac gg_141 (ac gg_141 (ac gg_141 (ac gg_141 (ac gg_141 an)))))) ?_
          exact ⟨rfl, (sub_wkm [0, 1, 2] [] [.s 0, .s 3, .s 9, .s 12, .s 13, .a 136 (.bool (decide ((((row_4).length : Nat) : Int) < r_6.1) && !c_8))] [.s 0, .s 1, .s 2] (by kernel_rfl) (ac (congrArg AV.bool (andt gg_141 rfl) : (.bool (!c_8) : AV) = .bool (decide ((((row_4).length : Nat) : Int) < r_6.1) && !c_8)) an))⟩
        · refine aw_region [(5, { g := false }), (6, { g := false }), (7, { g := false }), (8, { g := false }), (9, { g := false }), (10, { b := false })] [0, 3, 9, 12, 13, 131, 132, 133, 134, 135, 136] [0, 1, 2] 3 (vals := [.ptr 0 0 0 0, .int .i64 n_1, .own 1 0, .int .i64 r_6.1, .own 2 ((row_4).length), .tuple [], .tuple [], .tuple [], .tuple [], .tuple [], .bool false]) (bxs := [.live (.var 53 [.sl false 1 (List.map (AV.int .u8) c_7), .bool c_8]), .live (.row 24 3 []), .live (.row 24 3 (List.map e_T_api_Value row_4))]) (by kernel_rfl) hmix (ac gg_141 (ac gg_141 (ac gg_141 (ac gg_141 (ac gg_141 (ac gg_141 an)))))) ?_
          exact ⟨rfl, (sub_wkm [0, 1, 2] [] [.s 0, .s 3, .s 9, .s 12, .s 13, .a 136 (.bool (decide ((((row_4).length : Nat) : Int) < r_6.1) && !c_8))] [.s 0, .s 1, .s 2] (by kernel_rfl) (ac (congrArg AV.bool (andf gg_141) : (.bool false : AV) = .bool (decide ((((row_4).length : Nat) : Int) < r_6.1) && !c_8)) an))⟩
      refine aw_cond (t := 136) (b := (decide ((((row_4).length : Nat) : Int) < r_6.1) && !c_8)) (by kernel_rfl) (by kernel_rfl) ?_ ?_
      rotate_left
      · intro g_9; replace h := cond_f g_9 h
        refine aw_exit (id := 7) (by kernel_rfl) ?_
        replace h := Option.some.inj h; subst h
        exact ⟨rfl, (sub_wkm [0, 1, 2] [] [.s 0, .s 3, .s 9, .s 13] [.s 0, .s 1, .s 2] (by kernel_rfl) an)⟩
      intro g_9; replace h := cond_t g_9 h
      refine aw_skip (by kernel_rfl) ?_
      refine aw_block (id := 8) (by kernel_rfl) ?_
      obtain ⟨r_7, h_15, h⟩ := bind_some h
      obtain ⟨_, h_16, h⟩ := bind_some h; replace h_16 := need_some h_16
      refine aw_region [(2, { av := e_T_api_Value r_7.1, ids := [0], l := [.ptr 0 0 0 0], post := [(.var 53 (v_T_column_input r_7.2))], pre := [(.var 53 [.sl false 1 (List.map (AV.int .u8) c_7), .bool c_8])] }), (3, { id := 3 }), (4, { id := 4, l := (List.map e_T_api_Value (row_4 ++ ([r_7.1] : List T_api_Value))), n := ((row_4 ++ ([r_7.1] : List T_api_Value))).length })] [0, 3, 9, 12, 13] [0, 1, 4] 5 (vals := [.ptr 0 0 0 0, .int .i64 n_1, .own 1 0, .int .i64 r_6.1, .own 4 (((row_4 ++ ([r_7.1] : List T_api_Value))).length)]) (bxs := [.live (.var 53 (v_T_column_input r_7.2)), .live (.row 24 3 []), .live (.row 24 3 (List.map e_T_api_Value (row_4 ++ ([r_7.1] : List T_api_Value))))]) (by kernel_rfl) hmix (ac (rfl : ([.ptr 0 0 0 0] : List AV) = [.ptr 0 0 0 0]) (ac (rfl : ([.live (.var 53 [.sl false 1 (List.map (AV.int .u8) c_7), .bool c_8])] : List BoxSt) = [.live (.var 53 [.sl false 1 (List.map (AV.int .u8) c_7), .bool c_8])]) (ac (column_input_value_ok F (⟨c_7, c_8⟩ : T_column_input) r_7 h_15 : TripleG prog 40 [(.var 53 [.sl false 1 (List.map (AV.int .u8) c_7), .bool c_8])] [] [.ptr 0 0 0 0] [(.var 53 (v_T_column_input r_7.2))] (e_T_api_Value r_7.1)) (ac (by first | (simp; done) | (simp; omega) : (row_4).length = ((List.map e_T_api_Value row_4)).length) (ac (by first | (simp; done) | (simp; omega) : 1 = ((List.map e_T_api_Value ([r_7.1] : List T_api_Value))).length) (ac (vc_app _ _ : (List.map e_T_api_Value (row_4 ++ ([r_7.1] : List T_api_Value))) = (List.map e_T_api_Value row_4) ++ (List.map e_T_api_Value ([r_7.1] : List T_api_Value))) (ac (by simp : ((row_4 ++ ([r_7.1] : List T_api_Value))).length = ((List.map e_T_api_Value (row_4 ++ ([r_7.1] : List T_api_Value)))).length) (ac (by first | (simp; done) | simpa using h_16 : (((List.map e_T_api_Value row_4) : List AV).length + ((List.map e_T_api_Value ([r_7.1] : List T_api_Value)) : List AV).length) * 32 ≤ 140737488355328) an)))))))) ?_
      exact ⟨_, (sub_wkm [0, 1, 4] [] [.s 0, .s 3, .s 9, .s 12, .s 13] [.s 0, .s 1, .s 2] (by kernel_rfl) an), _, _, _, rfl, h⟩
    obtain ⟨o_6, h_17, h⟩ := bind_some h
    refine aw_mid (mk [(0, .ptr 0 0 0 0), (9, .own 1 ((o_6.2.2).length))] [(0, .live (.var 53 [.sl false 1 (List.map (AV.int .u8) o_6.1), .bool o_6.2.1])), (1, .live (.row 24 3 (List.map e_T_api_Value o_6.2.2)))] 2) ?_ ?_
    · replace h := h_17
      refine aw_block (id := 9) (by kernel_rfl) ?_
      refine aw_sub (sub_wkm [0, 1, 2] [] [.s 0, .s 3, .s 9, .s 13] [.s 0, .s 1, .s 2] (sl2 := [(0, .ptr 0 0 0 0), (3, .int .i64 n_1), (9, .own 1 0), (13, .own 2 ((o_5.2.2).length))]) (bx2 := [(0, .live (.var 53 [.sl false 1 (List.map (AV.int .u8) o_5.1), .bool o_5.2.1])), (1, .live (.row 24 3 [])), (2, .live (.row 24 3 (List.map e_T_api_Value o_5.2.2)))]) (by kernel_rfl) an) ?_
      refine aw_loopF (fun n st => ∃ (c_9 : List Int), ∃ (c_10 : Bool), ∃ (row_5 : List T_api_Value), st = mk [(0, .ptr 0 0 0 0), (3, .int .i64 n_1), (9, .own 1 ((row_5).length)), (13, .own 2 ((o_5.2.2).length))] [(0, .live (.var 53 [.sl false 1 (List.map (AV.int .u8) c_9), .bool c_10])), (1, .live (.row 24 3 (List.map e_T_api_Value row_5))), (2, .live (.row 24 3 (List.map e_T_api_Value o_5.2.2)))] 3 ∧ column_input_values_L5 F n_1 o_5 n c_9 c_10 row_5 = some o_6) F (by kernel_rfl) ⟨_, _, _, rfl, h⟩ ?_ ?_
      · rintro _ ⟨_, _, _, _, h⟩; exact none_ne (h : (none : Option ((List Int) × Bool × (List T_api_Value))) = some o_6)
      rintro n_6 _ ⟨c_9, c_10, row_5, rfl, h⟩
      replace h : column_input_values_L5_body F n_1 o_5 (column_input_values_L5 F n_1 o_5 n_6) c_9 c_10 row_5 = some o_6 := h
      unfold column_input_values_L5_body at h
      refine aw_seq (by kernel_rfl) ?_
      refine aw_seq (by kernel_rfl) ?_
      refine aw_mid (mk [(0, .ptr 0 0 0 0), (3, .int .i64 n_1), (9, .own 1 ((row_5).length)), (13, .own 2 ((o_5.2.2).length)), (152, .bool (decide ((((row_5).length : Nat) : Int) < n_1) && !c_10))] [(0, .live (.var 53 [.sl false 1 (List.map (AV.int .u8) c_9), .bool c_10])), (1, .live (.row 24 3 (List.map e_T_api_Value row_5))), (2, .live (.row 24 3 (List.map e_T_api_Value o_5.2.2)))] 3) ?_ ?_
      · rcases Bool.eq_false_or_eq_true (decide ((((row_5).length : Nat) : Int) < n_1)) with gg_151 | gg_151
        · refine aw_region [(10, { b := true })] [0, 3, 9, 13, 147, 148, 149, 150, 151, 152] [0, 1, 2] 3 (vals := [.ptr 0 0 0 0, .int .i64 n_1, .own 1 ((row_5).length), .own 2 ((o_5.2.2).length), .ptr 0 0 0 0, .ptr 0 0 0 0, .ptr 0 0 0 1, .bool c_10, .bool (!c_10), .bool (!c_10)]) (bxs := [.live (.var 53 [.sl false 1 (List.map (AV.int .u8) c_9), .bool c_10]), .live (.row 24 3 (List.map e_T_api_Value row_5)), .live (.row 24 3 (List.map e_T_api_Value o_5.2.2))]) (by kernel_rfl) hmix (ac gg_151 (ac gg_151 (ac gg_151 (ac gg_151 (ac gg_151 (ac gg_151 an)))))) ?_
          exact ⟨rfl, (sub_wkm [0, 1, 2] [] [.s 0, .s 3, .s 9, .s 13, .a 152 (.bool (decide ((((row_5).length : Nat) : Int) < n_1) && !c_10))] [.s 0, .s 1, .s 2] (by kernel_rfl) (ac (congrArg AV.bool (andt gg_151 rfl) : (.bool (!c_10) : AV) = .bool (decide ((((row_5).length : Nat) : Int) < n_1) && !c_10)) an))⟩
        · refine aw_region [(5, { g := false }), (6, { g := false }), (7, { g := false }), (8, { g := false }), (9, { g := false }), (10, { b := false })] [0, 3, 9, 13, 147, 148, 149, 150, 151, 152] [0, 1, 2] 3 (vals := [.ptr 0 0 0 0, .int .i64 n_1, .own 1 ((row_5).length), .own 2 ((o_5.2.2).length), .tuple [], .tuple [], .tuple [], .tuple [], .tuple [], .bool false]) (bxs := [.live (.var 53 [.sl false 1 (List.map (AV.int .u8) c_9), .bool c_10]), .live (.row 24 3 (List.map e_T_api_Value row_5)), .live (.row 24 3 (List.map e_T_api_Value o_5.2.2))]) (by kernel_rfl) hmix (ac gg_151 (ac gg_151 (ac gg_151 (ac gg_151 (ac gg_151 (ac gg_151 an)))))) ?_
          exact ⟨rfl, (sub_wkm [0, 1, 2] [] [.s 0, .s 3, .s 9, .s 13, .a 152 (.bool (decide ((((row_5).length : Nat) : Int) < n_1) && !c_10))] [.s 0, .s 1, .s 2] (by kernel_rfl) (ac (congrArg AV.bool (andf gg_151) : (.bool false : AV) = .bool (decide ((((row_5).length : Nat) : Int) < n_1) && !c_10)) an))⟩
      refine aw_cond (t := 152) (b := (decide ((((row_5).length : Nat) : Int) < n_1) && !c_10)) (by kernel_rfl) (by kernel_rfl) ?_ ?_
      rotate_left
      · intro g_10; replace h := cond_f g_10 h
        refine aw_exit (id := 9) (by kernel_rfl) ?_
        replace h := Option.some.inj h; subst h
        exact ⟨rfl, (sub_wkm [0, 1] [] [.s 0, .s 9] [.s 0, .s 1] (by kernel_rfl) an)⟩
      intro g_10; replace h := cond_t g_10 h
      refine aw_skip (by kernel_rfl) ?_
      refine aw_block (id := 10) (by kernel_rfl) ?_
      refine aw_seq (by kernel_rfl) ?_
      obtain ⟨r_8, h_18, h⟩ := bind_some h
      refine aw_region [(1, { av := .int .i64 r_8.1, ids := [0], l := [.ptr 0 0 0 0], post := [(.var 53 (v_T_column_input r_8.2))], pre := [(.var 53 [.sl false 1 (List.map (AV.int .u8) c_9), .bool c_10])] })] [0, 3, 9, 13, 14] [0, 1, 2] 3 (vals := [.ptr 0 0 0 0, .int .i64 n_1, .own 1 ((row_5).length), .own 2 ((o_5.2.2).length), .int .i64 r_8.1]) (bxs := [.live (.var 53 (v_T_column_input r_8.2)), .live (.row 24 3 (List.map e_T_api_Value row_5)), .live (.row 24 3 (List.map e_T_api_Value o_5.2.2))]) (by kernel_rfl) hmix (ac (rfl : ([.ptr 0 0 0 0] : List AV) = [.ptr 0 0 0 0]) (ac (rfl : ([.live (.var 53 [.sl false 1 (List.map (AV.int .u8) c_9), .bool c_10])] : List BoxSt) = [.live (.var 53 [.sl false 1 (List.map (AV.int .u8) c_9), .bool c_10])]) (ac (column_input_num_ok F (⟨c_9, c_10⟩ : T_column_input) r_8 h_18 : TripleG prog 41 [(.var 53 [.sl false 1 (List.map (AV.int .u8) c_9), .bool c_10])] [] [.ptr 0 0 0 0] [(.var 53 (v_T_column_input r_8.2))] (.int .i64 r_8.1)) an))) ?_
      refine aw_seq (by kernel_rfl) ?_
      refine aw_mid (mk [(0, .ptr 0 0 0 0), (3, .int .i64 n_1), (9, .own 1 ((row_5).length)), (13, .own 2 ((o_5.2.2).length)), (14, .int .i64 r_8.1)] [(0, .live (.var 53 [.sl false 1 (List.map (AV.int .u8) r_8.2.b), .bool (r_8.2.bad || (decide (r_8.1 < (0 : Int)) || decide (r_8.1 ≥ (((o_5.2.2).length : Nat) : Int))))])), (1, .live (.row 24 3 (List.map e_T_api_Value row_5))), (2, .live (.row 24 3 (List.map e_T_api_Value o_5.2.2)))] 3) ?_ ?_
      · rcases Bool.eq_false_or_eq_true r_8.2.bad with gg_152 | gg_152
        · refine aw_region [(6, { g := false }), (7, { g := false }), (8, { b := true }), (10, { g := false }), (11, { g := false }), (12, { g := false }), (13, { g := false }), (14, { b := true })] [0, 3, 9, 13, 14, 161, 162, 165, 166, 167, 168] [0, 1, 2] 3 (vals := [.ptr 0 0 0 0, .int .i64 n_1, .own 1 ((row_5).length), .own 2 ((o_5.2.2).length), .int .i64 r_8.1, .tuple [], .tuple [], .tuple [], .tuple [], .tuple [], .tuple []]) (bxs := [.live (.var 53 [.sl false 1 (List.map (AV.int .u8) r_8.2.b), .bool true]), .live (.row 24 3 (List.map e_T_api_Value row_5)), .live (.row 24 3 (List.map e_T_api_Value o_5.2.2))]) (by kernel_rfl) hmix (ac gg_152 (ac gg_152 (ac gg_152 (ac (rfl : true = !false) (ac (rfl : true = !false) (ac (rfl : true = !false) (ac (rfl : true = !false) (ac (rfl : true = true) an)))))))) ?_
          exact ⟨rfl, (sub_wkm [0, 1, 2] [] [.s 0, .s 3, .s 9, .s 13, .s 14] [.a 0 (.live (.var 53 [.sl false 1 (List.map (AV.int .u8) r_8.2.b), .bool (r_8.2.bad || (decide (r_8.1 < (0 : Int)) || decide (r_8.1 ≥ (((o_5.2.2).length : Nat) : Int))))])), .s 1, .s 2] (by kernel_rfl) (ac (rfl : 53 = 53) (ac (rfl : ones [.sl false 1 (List.map (AV.int .u8) r_8.2.b), .bool (r_8.2.bad || (decide (r_8.1 < (0 : Int)) || decide (r_8.1 ≥ (((o_5.2.2).length : Nat) : Int))))] = true) (ac (rfl : 1 = 1) (ac (rfl : ((List.map (AV.int .u8) r_8.2.b) : List AV) = (List.map (AV.int .u8) r_8.2.b)) (ac (rfl : (!false || false) = true) (ac (congrArg AV.bool (ort gg_152) : (.bool true : AV) = .bool (r_8.2.bad || (decide (r_8.1 < (0 : Int)) || decide (r_8.1 ≥ (((o_5.2.2).length : Nat) : Int))))) an)))))))⟩
        · rcases Bool.eq_false_or_eq_true (decide (r_8.1 < (0 : Int))) with gg_153 | gg_153
          · refine aw_region [(8, { b := false }), (10, { g := false }), (11, { g := false }), (12, { g := false }), (13, { g := false }), (14, { b := true })] [0, 3, 9, 13, 14, 161, 162, 165, 166, 167, 168] [0, 1, 2] 3 (vals := [.ptr 0 0 0 0, .int .i64 n_1, .own 1 ((row_5).length), .own 2 ((o_5.2.2).length), .int .i64 r_8.1, .int .i64 r_8.1, .bool (decide (r_8.1 < (0 : Int))), .tuple [], .tuple [], .tuple [], .tuple []]) (bxs := [.live (.var 53 [.sl false 1 (List.map (AV.int .u8) r_8.2.b), .bool true]), .live (.row 24 3 (List.map e_T_api_Value row_5)), .live (.row 24 3 (List.map e_T_api_Value o_5.2.2))]) (by kernel_rfl) hmix (ac gg_152 (ac gg_152 (ac gg_152 (ac gg_153 (ac gg_153 (ac gg_153 (ac gg_153 (ac gg_153 an)))))))) ?_
            exact ⟨rfl, (sub_wkm [0, 1, 2] [] [.s 0, .s 3, .s 9, .s 13, .s 14] [.a 0 (.live (.var 53 [.sl false 1 (List.map (AV.int .u8) r_8.2.b), .bool (r_8.2.bad || (decide (r_8.1 < (0 : Int)) || decide (r_8.1 ≥ (((o_5.2.2).length : Nat) : Int))))])), .s 1, .s 2] (by kernel_rfl) (ac (rfl : 53 = 53) (ac (rfl : ones [.sl false 1 (List.map (AV.int .u8) r_8.2.b), .bool (r_8.2.bad || (decide (r_8.1 < (0 : Int)) || decide (r_8.1 ≥ (((o_5.2.2).length : Nat) : Int))))] = true) (ac (rfl : 1 = 1) (ac (rfl : ((List.map (AV.int .u8) r_8.2.b) : List AV) = (List.map (AV.int .u8) r_8.2.b)) (ac (rfl : (!false || false) = true) (ac (congrArg AV.bool (orf gg_152 (ort gg_153)) : (.bool true : AV) = .bool (r_8.2.bad || (decide (r_8.1 < (0 : Int)) || decide (r_8.1 ≥ (((o_5.2.2).length : Nat) : Int))))) an)))))))⟩
          · refine aw_region [(8, { b := false }), (14, { b := false })] [0, 3, 9, 13, 14, 161, 162, 165, 166, 167, 168] [0, 1, 2] 3 (vals := [.ptr 0 0 0 0, .int .i64 n_1, .own 1 ((row_5).length), .own 2 ((o_5.2.2).length), .int .i64 r_8.1, .int .i64 r_8.1, .bool (decide (r_8.1 < (0 : Int))), .int .i64 r_8.1, .own 2 ((o_5.2.2).length), .int .i64 (((o_5.2.2).length : Nat) : Int), .bool (decide (r_8.1 ≥ (((o_5.2.2).length : Nat) : Int)))]) (bxs := [.live (.var 53 [.sl false 1 (List.map (AV.int .u8) r_8.2.b), .bool (decide (r_8.1 ≥ (((o_5.2.2).length : Nat) : Int)))]), .live (.row 24 3 (List.map e_T_api_Value row_5)), .live (.row 24 3 (List.map e_T_api_Value o_5.2.2))]) (by kernel_rfl) hmix (ac gg_152 (ac gg_152 (ac gg_152 (ac gg_153 (ac gg_153 (ac gg_153 (ac gg_153 (ac gg_153 an)))))))) ?_
            exact ⟨rfl, (sub_wkm [0, 1, 2] [] [.s 0, .s 3, .s 9, .s 13, .s 14] [.a 0 (.live (.var 53 [.sl false 1 (List.map (AV.int .u8) r_8.2.b), .bool (r_8.2.bad || (decide (r_8.1 < (0 : Int)) || decide (r_8.1 ≥ (((o_5.2.2).length : Nat) : Int))))])), .s 1, .s 2] (by kernel_rfl) (ac (rfl : 53 = 53) (ac (rfl : ones [.sl false 1 (List.map (AV.int .u8) r_8.2.b), .bool (r_8.2.bad || (decide (r_8.1 < (0 : Int)) || decide (r_8.1 ≥ (((o_5.2.2).length : Nat) : Int))))] = true) (ac (rfl : 1 = 1) (ac (rfl : ((List.map (AV.int .u8) r_8.2.b) : List AV) = (List.map (AV.int .u8) r_8.2.b)) (ac (rfl : (!false || false) = true) (ac (congrArg AV.bool (orf gg_152 (orf gg_153 rfl)) : (.bool (decide (r_8.1 ≥ (((o_5.2.2).length : Nat) : Int))) : AV) = .bool (r_8.2.bad || (decide (r_8.1 < (0 : Int)) || decide (r_8.1 ≥ (((o_5.2.2).length : Nat) : Int))))) an)))))))⟩
      refine aw_seq (by kernel_rfl) ?_
      refine aw_region [] [0, 3, 9, 13, 14, 176] [0, 1, 2] 3 (vals := [.ptr 0 0 0 0, .int .i64 n_1, .own 1 ((row_5).length), .own 2 ((o_5.2.2).length), .int .i64 r_8.1, .bool (!(r_8.2.bad || (decide (r_8.1 < (0 : Int)) || decide (r_8.1 ≥ (((o_5.2.2).length : Nat) : Int)))))]) (bxs := [.live (.var 53 [.sl false 1 (List.map (AV.int .u8) r_8.2.b), .bool (r_8.2.bad || (decide (r_8.1 < (0 : Int)) || decide (r_8.1 ≥ (((o_5.2.2).length : Nat) : Int))))]), .live (.row 24 3 (List.map e_T_api_Value row_5)), .live (.row 24 3 (List.map e_T_api_Value o_5.2.2))]) (by kernel_rfl) hmix an ?_
      refine aw_cond (t := 176) (b := (!(r_8.2.bad || (decide (r_8.1 < (0 : Int)) || decide (r_8.1 ≥ (((o_5.2.2).length : Nat) : Int)))))) (by kernel_rfl) (by kernel_rfl) ?_ ?_
      rotate_left
      · intro g_11; replace h := cond_f g_11 h
        refine aw_skip (by kernel_rfl) ?_
        exact ⟨_, (sub_wkm [0, 1, 2] [] [.s 0, .s 3, .s 9, .s 13] [.s 0, .s 1, .s 2] (by kernel_rfl) an), _, _, _, rfl, h⟩
      intro g_11; replace h := cond_t g_11 h
      obtain ⟨x_2, h_19, h⟩ := bind_some h
      obtain ⟨_, h_20, h⟩ := bind_some h; replace h_20 := need_some h_20
      refine aw_region [(4, { av := e_T_api_Value x_2 }), (5, { id := 3 }), (6, { id := 4, l := (List.map e_T_api_Value (row_5 ++ ([x_2] : List T_api_Value))), n := ((row_5 ++ ([x_2] : List T_api_Value))).length })] [0, 3, 9, 13] [0, 2, 4] 5 (vals := [.ptr 0 0 0 0, .int .i64 n_1, .own 4 (((row_5 ++ ([x_2] : List T_api_Value))).length), .own 2 ((o_5.2.2).length)]) (bxs := [.live (.var 53 [.sl false 1 (List.map (AV.int .u8) r_8.2.b), .bool (r_8.2.bad || (decide (r_8.1 < (0 : Int)) || decide (r_8.1 ≥ (((o_5.2.2).length : Nat) : Int))))]), .live (.row 24 3 (List.map e_T_api_Value o_5.2.2)), .live (.row 24 3 (List.map e_T_api_Value (row_5 ++ ([x_2] : List T_api_Value))))]) (by kernel_rfl) hmix (ac (idxL_lo h_19 : (0 : Int) ≤ r_8.1) (ac (by first | (simp; done) | simpa using idxL_hi h_19 : r_8.1 < (((o_5.2.2).length : Nat) : Int)) (ac (vc_get h_19 : (List.map e_T_api_Value o_5.2.2)[(r_8.1).toNat]? = some (e_T_api_Value x_2)) (ac (by first | (simp; done) | (simp; omega) : (row_5).length = ((List.map e_T_api_Value row_5)).length) (ac (by first | (simp; done) | (simp; omega) : 1 = ((List.map e_T_api_Value ([x_2] : List T_api_Value))).length) (ac (vc_app _ _ : (List.map e_T_api_Value (row_5 ++ ([x_2] : List T_api_Value))) = (List.map e_T_api_Value row_5) ++ (List.map e_T_api_Value ([x_2] : List T_api_Value))) (ac (by simp : ((row_5 ++ ([x_2] : List T_api_Value))).length = ((List.map e_T_api_Value (row_5 ++ ([x_2] : List T_api_Value)))).length) (ac (by first | (simp; done) | simpa using h_20 : (((List.map e_T_api_Value row_5) : List AV).length + ((List.map e_T_api_Value ([x_2] : List T_api_Value)) : List AV).length) * 32 ≤ 140737488355328) an)))))))) ?_
      exact ⟨_, (sub_wkm [0, 4, 2] [] [.s 0, .s 3, .s 9, .s 13] [.s 0, .s 1, .s 2] (by kernel_rfl) an), _, _, _, rfl, h⟩
    replace h := Option.some.inj h; subst h
    exact ⟨rfl, (sub_wkm [0, 1] [] [.s 0, .s 9] [.s 0, .s 1] (by kernel_rfl) an)⟩
  refine aw_seq (by kernel_rfl) ?_
  refine aw_mid (mk [(9, .own 1 ((o_1.2.2).length))] [(0, .live (.var 53 [.sl false 1 (List.map (AV.int .u8) o_1.1), .bool (o_1.2.1 || decide ((((o_1.1).length : Nat) : Int) > (0 : Int)))])), (1, .live (.row 24 3 (List.map e_T_api_Value o_1.2.2)))] 2) ?_ ?_
  · rcases Bool.eq_false_or_eq_true o_1.2.1 with gg_154 | gg_154
    · refine aw_region [(6, { g := false }), (7, { g := false }), (8, { g := false }), (9, { g := false }), (10, { g := false }), (11, { g := false }), (12, { b := true })] [9] [0, 1] 2 (vals := [.own 1 ((o_1.2.2).length)]) (bxs := [.live (.var 53 [.sl false 1 (List.map (AV.int .u8) o_1.1), .bool true]), .live (.row 24 3 (List.map e_T_api_Value o_1.2.2))]) (by kernel_rfl) hmix (ac gg_154 (ac gg_154 (ac gg_154 (ac gg_154 (ac gg_154 (ac gg_154 (ac gg_154 an))))))) ?_
      exact ⟨rfl, (sub_wkm [0, 1] [] [.s 9] [.a 0 (.live (.var 53 [.sl false 1 (List.map (AV.int .u8) o_1.1), .bool (o_1.2.1 || decide ((((o_1.1).length : Nat) : Int) > (0 : Int)))])), .s 1] (by kernel_rfl) (ac (rfl : 53 = 53) (ac (rfl : ones [.sl false 1 (List.map (AV.int .u8) o_1.1), .bool (o_1.2.1 || decide ((((o_1.1).length : Nat) : Int) > (0 : Int)))] = true) (ac (rfl : 1 = 1) (ac (rfl : ((List.map (AV.int .u8) o_1.1) : List AV) = (List.map (AV.int .u8) o_1.1)) (ac (rfl : (!false || false) = true) (ac (congrArg AV.bool (ort gg_154) : (.bool true : AV) = .bool (o_1.2.1 || decide ((((o_1.1).length : Nat) : Int) > (0 : Int)))) an)))))))⟩
    · refine aw_region [(10, { n := (o_1.1).length }), (12, { b := false })] [9] [0, 1] 2 (vals := [.own 1 ((o_1.2.2).length)]) (bxs := [.live (.var 53 [.sl false 1 (List.map (AV.int .u8) o_1.1), .bool (decide ((((o_1.1).length : Nat) : Int) > (0 : Int)))]), .live (.row 24 3 (List.map e_T_api_Value o_1.2.2))]) (by kernel_rfl) hmix (ac gg_154 (ac gg_154 (ac gg_154 (ac gg_154 (ac gg_154 (ac (vc_len _ : ((List.map (AV.int .u8) o_1.1)).length = (o_1.1).length) (ac gg_154 (ac gg_154 an)))))))) ?_
      exact ⟨rfl, (sub_wkm [0, 1] [] [.s 9] [.a 0 (.live (.var 53 [.sl false 1 (List.map (AV.int .u8) o_1.1), .bool (o_1.2.1 || decide ((((o_1.1).length : Nat) : Int) > (0 : Int)))])), .s 1] (by kernel_rfl) (ac (rfl : 53 = 53) (ac (rfl : ones [.sl false 1 (List.map (AV.int .u8) o_1.1), .bool (o_1.2.1 || decide ((((o_1.1).length : Nat) : Int) > (0 : Int)))] = true) (ac (rfl : 1 = 1) (ac (rfl : ((List.map (AV.int .u8) o_1.1) : List AV) = (List.map (AV.int .u8) o_1.1)) (ac (rfl : (!false || false) = true) (ac (congrArg AV.bool (orf gg_154 rfl) : (.bool (decide ((((o_1.1).length : Nat) : Int) > (0 : Int))) : AV) = .bool (o_1.2.1 || decide ((((o_1.1).length : Nat) : Int) > (0 : Int)))) an)))))))⟩
  refine aw_seq (by kernel_rfl) ?_
  refine aw_region [] [8] [0, 1] 2 (vals := [.own 1 ((o_1.2.2).length)]) (bxs := [.live (.var 53 [.sl false 1 (List.map (AV.int .u8) o_1.1), .bool (o_1.2.1 || decide ((((o_1.1).length : Nat) : Int) > (0 : Int)))]), .live (.row 24 3 (List.map e_T_api_Value o_1.2.2))]) (by kernel_rfl) hmix an ?_
  refine aw_sub (sub_wkm [0, 1] [] [.s 8] [.a 0 (.live (.var 53 (v_T_column_input (⟨o_1.1, (o_1.2.1 || decide ((((o_1.1).length : Nat) : Int) > (0 : Int)))⟩ : T_column_input)))), .s 1] (sl2 := [(8, .own 1 ((o_1.2.2).length))]) (bx2 := [(0, .live (.var 53 (v_T_column_input (⟨o_1.1, (o_1.2.1 || decide ((((o_1.1).length : Nat) : Int) > (0 : Int)))⟩ : T_column_input)))), (1, .live (.row 24 3 (List.map e_T_api_Value o_1.2.2)))]) (by kernel_rfl) (ac (rfl : 53 = 53) (ac (rfl : ones [.sl false 1 (List.map (AV.int .u8) ((⟨o_1.1, (o_1.2.1 || decide ((((o_1.1).length : Nat) : Int) > (0 : Int)))⟩ : T_column_input).b)), .bool ((⟨o_1.1, (o_1.2.1 || decide ((((o_1.1).length : Nat) : Int) > (0 : Int)))⟩ : T_column_input).bad)] = true) (ac (rfl : 1 = 1) (ac (rfl : ((List.map (AV.int .u8) o_1.1) : List AV) = (List.map (AV.int .u8) ((⟨o_1.1, (o_1.2.1 || decide ((((o_1.1).length : Nat) : Int) > (0 : Int)))⟩ : T_column_input).b))) (ac (rfl : (!false || false) = true) (ac (rfl : (.bool (o_1.2.1 || decide ((((o_1.1).length : Nat) : Int) > (0 : Int))) : AV) = .bool ((⟨o_1.1, (o_1.2.1 || decide ((((o_1.1).length : Nat) : Int) > (0 : Int)))⟩ : T_column_input).bad)) an))))))) ?_
  refine aw_ret (by kernel_rfl) ?_
  replace h := Option.some.inj h; subst h
  exact ⟨.inr rfl, Nat.le_of_ble_eq_true rfl, by kernel_rfl⟩

theorem bytes_Equal_ok (a_1 : List (Int)) (b_1 : List (Int)) (r : Bool) (h : bytes_Equal a_1 b_1 = some r) : TripleG prog 32 [] [] [.sl false 1 (List.map (AV.int .u8) a_1), .sl false 1 (List.map (AV.int .u8) b_1)] [] (.bool r) := by
  refine triple_intro (fn := Go.Proofs.Try.f32) (code := codeOf Go.Proofs.Try.f32) (by kernel_rfl) (by kernel_rfl) (Nat.le_of_ble_eq_true (by kernel_rfl)) ?_
  unfold bytes_Equal at h
  refine aw_seq (by kernel_rfl) ?_
  refine aw_region [] [0, 1] [] 0 (vals := [.sl false 1 (List.map (AV.int .u8) a_1), .sl false 1 (List.map (AV.int .u8) b_1)]) (bxs := []) (by kernel_rfl) hmix an ?_
  refine aw_seq (by kernel_rfl) ?_
  refine aw_region [(1, { s := a_1 }), (3, { s := b_1 })] [4] [] 0 (vals := [.bool (a_1 == b_1)]) (bxs := []) (by kernel_rfl) hmix (ac (rfl : (List.map (AV.int .u8) a_1) = List.map (AV.int .u8) a_1) (ac (rfl : (List.map (AV.int .u8) b_1) = List.map (AV.int .u8) b_1) an)) ?_
  refine aw_ret (by kernel_rfl) ?_
  replace h := Option.some.inj h; subst h
  exact ⟨.inr rfl, Nat.le_of_ble_eq_true rfl, by kernel_rfl⟩

theorem column_Decode_ok (F : Nat) (p_1 : T_api_Packed) (r : (List (T_api_Value)) × Int) (h : column_Decode F p_1 = some r) : TripleG prog 14 [] [] [e_T_api_Packed p_1] [] (.tuple [.sl false 3 (List.map e_T_api_Value r.1), .int .i64 r.2]) := by
  refine triple_intro (fn := Go.Proofs.Try.f14) (code := codeOf Go.Proofs.Try.f14) (by kernel_rfl) (by kernel_rfl) (Nat.le_of_ble_eq_true (by kernel_rfl)) ?_
  unfold column_Decode at h
  refine aw_seq (by kernel_rfl) ?_
  refine aw_region [(0, { id := 0 })] [1] [0] 1 (vals := [.ptr 0 0 0 0]) (bxs := [.live (.var 33 (v_T_api_Packed p_1))]) (by kernel_rfl) hmix an ?_
  refine aw_seq (by kernel_rfl) ?_
  refine aw_seq (by kernel_rfl) ?_
  obtain ⟨r_1, h_1, h⟩ := bind_some h
  refine aw_region [(2, { av := .int .i64 r_1, l := [.int .i64 p_1.Type_] })] [1, 4] [0] 1 (vals := [.ptr 0 0 0 0, .int .i64 r_1]) (bxs := [.live (.var 33 (v_T_api_Packed p_1))]) (by kernel_rfl) hmix (ac (rfl : ([.int .i64 p_1.Type_] : List AV) = [.int .i64 p_1.Type_]) (ac (rfl : ([] : List BoxSt) = []) (ac (column_known_ok p_1.Type_ r_1 h_1 : TripleG prog 22 [] [] [.int .i64 p_1.Type_] [] (.int .i64 r_1)) an))) ?_
  refine aw_seq (by kernel_rfl) ?_
  refine aw_region [] [1, 4, 13] [0] 1 (vals := [.ptr 0 0 0 0, .int .i64 r_1, .bool (r_1 != (0 : Int))]) (bxs := [.live (.var 33 (v_T_api_Packed p_1))]) (by kernel_rfl) hmix an ?_
  refine aw_cond (t := 13) (b := (r_1 != (0 : Int))) (by kernel_rfl) (by kernel_rfl) ?_ ?_
  · intro g_1; replace h := cond_t g_1 h
    refine aw_seq (by kernel_rfl) ?_
    refine aw_region [] [2, 3] [] 1 (vals := [.nilsl, .int .i64 r_1]) (bxs := []) (by kernel_rfl) hmix an ?_
    refine aw_sub (sub_wkm [] [] [.a 2 (.sl false 3 []), .s 3] [] (sl2 := [(2, .sl false 3 []), (3, .int .i64 r_1)]) (bx2 := []) (by kernel_rfl) (ac (rfl : ([] : List AV) = []) an)) ?_
    refine aw_ret (by kernel_rfl) ?_
    replace h := Option.some.inj h; subst h
    exact ⟨.inr rfl, Nat.le_of_ble_eq_true rfl, by kernel_rfl⟩
  intro g_1; replace h := cond_f g_1 h
  refine aw_skip (by kernel_rfl) ?_
  refine aw_seq (by kernel_rfl) ?_
  refine aw_seq (by kernel_rfl) ?_
  refine aw_region [] [1, 17] [0] 1 (vals := [.ptr 0 0 0 0, .bool (decide (p_1.N > (20000 : Int)))]) (bxs := [.live (.var 33 (v_T_api_Packed p_1))]) (by kernel_rfl) hmix an ?_
  refine aw_cond (t := 17) (b := (decide (p_1.N > (20000 : Int)))) (by kernel_rfl) (by kernel_rfl) ?_ ?_
  · intro g_2; replace h := cond_t g_2 h
    refine aw_seq (by kernel_rfl) ?_
    refine aw_region [] [2, 3] [] 1 (vals := [.nilsl, .int .i64 (7 : Int)]) (bxs := []) (by kernel_rfl) hmix an ?_
    refine aw_sub (sub_wkm [] [] [.a 2 (.sl false 3 []), .s 3] [] (sl2 := [(2, .sl false 3 []), (3, .int .i64 (7 : Int))]) (bx2 := []) (by kernel_rfl) (ac (rfl : ([] : List AV) = []) an)) ?_
    refine aw_ret (by kernel_rfl) ?_
    replace h := Option.some.inj h; subst h
    exact ⟨.inr rfl, Nat.le_of_ble_eq_true rfl, by kernel_rfl⟩
  intro g_2; replace h := cond_f g_2 h
  refine aw_skip (by kernel_rfl) ?_
  refine aw_seq (by kernel_rfl) ?_
  refine aw_seq (by kernel_rfl) ?_
  refine aw_mid (mk [(1, .ptr 0 0 0 0), (26, .bool (decide (p_1.N < (0 : Int)) || ((((p_1.Bytes).length : Nat) : Int) == (0 : Int))))] [(0, .live (.var 33 (v_T_api_Packed p_1)))] 1) ?_ ?_
  · rcases Bool.eq_false_or_eq_true (decide (p_1.N < (0 : Int))) with gg_4 | gg_4
    · refine aw_region [(4, { g := false }), (5, { g := false }), (6, { g := false }), (7, { g := false }), (8, { b := true })] [1, 26] [0] 1 (vals := [.ptr 0 0 0 0, .bool true]) (bxs := [.live (.var 33 (v_T_api_Packed p_1))]) (by kernel_rfl) hmix (ac gg_4 (ac gg_4 (ac gg_4 (ac gg_4 (ac gg_4 an))))) ?_
      exact ⟨rfl, (sub_wkm [0] [] [.s 1, .a 26 (.bool (decide (p_1.N < (0 : Int)) || ((((p_1.Bytes).length : Nat) : Int) == (0 : Int))))] [.s 0] (by kernel_rfl) (ac (congrArg AV.bool (ort gg_4) : (.bool true : AV) = .bool (decide (p_1.N < (0 : Int)) || ((((p_1.Bytes).length : Nat) : Int) == (0 : Int)))) an))⟩
    · refine aw_region [(6, { n := (p_1.Bytes).length }), (8, { b := false })] [1, 26] [0] 1 (vals := [.ptr 0 0 0 0, .bool ((((p_1.Bytes).length : Nat) : Int) == (0 : Int))]) (bxs := [.live (.var 33 (v_T_api_Packed p_1))]) (by kernel_rfl) hmix (ac gg_4 (ac gg_4 (ac gg_4 (ac (vc_len _ : ((List.map (AV.int .u8) p_1.Bytes)).length = (p_1.Bytes).length) (ac gg_4 (ac gg_4 an)))))) ?_
      exact ⟨rfl, (sub_wkm [0] [] [.s 1, .a 26 (.bool (decide (p_1.N < (0 : Int)) || ((((p_1.Bytes).length : Nat) : Int) == (0 : Int))))] [.s 0] (by kernel_rfl) (ac (congrArg AV.bool (orf gg_4 rfl) : (.bool ((((p_1.Bytes).length : Nat) : Int) == (0 : Int)) : AV) = .bool (decide (p_1.N < (0 : Int)) || ((((p_1.Bytes).length : Nat) : Int) == (0 : Int)))) an))⟩
  refine aw_cond (t := 26) (b := (decide (p_1.N < (0 : Int)) || ((((p_1.Bytes).length : Nat) : Int) == (0 : Int)))) (by kernel_rfl) (by kernel_rfl) ?_ ?_
  · intro g_3; replace h := cond_t g_3 h
    refine aw_seq (by kernel_rfl) ?_
    refine aw_region [] [2, 3] [] 1 (vals := [.nilsl, .int .i64 (10 : Int)]) (bxs := []) (by kernel_rfl) hmix an ?_
    refine aw_sub (sub_wkm [] [] [.a 2 (.sl false 3 []), .s 3] [] (sl2 := [(2, .sl false 3 []), (3, .int .i64 (10 : Int))]) (bx2 := []) (by kernel_rfl) (ac (rfl : ([] : List AV) = []) an)) ?_
    refine aw_ret (by kernel_rfl) ?_
    replace h := Option.some.inj h; subst h
    exact ⟨.inr rfl, Nat.le_of_ble_eq_true rfl, by kernel_rfl⟩
  intro g_3; replace h := cond_f g_3 h
  refine aw_skip (by kernel_rfl) ?_
  refine aw_seq (by kernel_rfl) ?_
  obtain ⟨_, h_2, h⟩ := bind_some h; replace h_2 := need_some h_2
  refine aw_region [(2, { l := (List.map (AV.int .u8) (sub p_1.Bytes (1 : Int) (((p_1.Bytes).length : Nat) : Int))) }), (4, { id := 1 })] [1, 5] [0, 1] 2 (vals := [.ptr 0 0 0 0, .ptr 1 0 0 0]) (bxs := [.live (.var 33 (v_T_api_Packed p_1)), .live (.var 53 [.sl false 1 (List.map (AV.int .u8) (sub p_1.Bytes (1 : Int) (((p_1.Bytes).length : Nat) : Int))), .bool false])]) (by kernel_rfl) hmix (ac (by decide : (0 : Int) ≤ (1 : Int)) (ac (vc_lenle h_2 : (1 : Int) ≤ ((((List.map (AV.int .u8) p_1.Bytes)).length : Nat) : Int)) (ac (Int.le_refl _ : ((((List.map (AV.int .u8) p_1.Bytes)).length : Nat) : Int) ≤ ((((List.map (AV.int .u8) p_1.Bytes)).length : Nat) : Int)) (ac (vc_subn _ _ : (List.map (AV.int .u8) (sub p_1.Bytes (1 : Int) (((p_1.Bytes).length : Nat) : Int))) = (((List.map (AV.int .u8) p_1.Bytes)).take (((((List.map (AV.int .u8) p_1.Bytes)).length : Nat) : Int)).toNat).drop ((1 : Int)).toNat) an)))) ?_
  refine aw_seq (by kernel_rfl) ?_
  obtain ⟨x_1, h_3, h⟩ := bind_some h
  obtain ⟨r_2, h_4, h⟩ := bind_some h
  refine aw_region [(3, { av := .int .u8 x_1 }), (9, { av := .own 1 ((r_2.1).length), ids := [1, 2], l := [.ptr 0 0 0 0, .int .u8 x_1, .int .i64 p_1.Type_, .int .i64 p_1.N], post := [(.var 53 (v_T_column_input r_2.2)), (.row 24 3 (List.map e_T_api_Value r_2.1))], pre := [(.var 53 [.sl false 1 (List.map (AV.int .u8) (sub p_1.Bytes (1 : Int) (((p_1.Bytes).length : Nat) : Int))), .bool false])] })] [1, 5, 6] [0, 1, 2] 3 (vals := [.ptr 0 0 0 0, .ptr 1 0 0 0, .own 2 ((r_2.1).length)]) (bxs := [.live (.var 33 (v_T_api_Packed p_1)), .live (.var 53 (v_T_column_input r_2.2)), .live (.row 24 3 (List.map e_T_api_Value r_2.1))]) (by kernel_rfl) hmix (ac (vc_idx h_3 : idxA (List.map (AV.int .u8) p_1.Bytes) (0 : Int) = some (.int .u8 x_1)) (ac (rfl : ([.ptr 1 0 0 0, .int .u8 x_1, .int .i64 p_1.Type_, .int .i64 p_1.N] : List AV) = [.ptr 1 0 0 0, .int .u8 x_1, .int .i64 p_1.Type_, .int .i64 p_1.N]) (ac (rfl : ([.live (.var 53 [.sl false 1 (List.map (AV.int .u8) (sub p_1.Bytes (1 : Int) (((p_1.Bytes).length : Nat) : Int))), .bool false])] : List BoxSt) = [.live (.var 53 [.sl false 1 (List.map (AV.int .u8) (sub p_1.Bytes (1 : Int) (((p_1.Bytes).length : Nat) : Int))), .bool false])]) (ac (column_input_values_ok F (⟨sub p_1.Bytes (1 : Int) (((p_1.Bytes).length : Nat) : Int), false⟩ : T_column_input) x_1 p_1.Type_ p_1.N r_2 h_4 : TripleG prog 31 [(.var 53 [.sl false 1 (List.map (AV.int .u8) (sub p_1.Bytes (1 : Int) (((p_1.Bytes).length : Nat) : Int))), .bool false])] [] [.ptr 0 0 0 0, .int .u8 x_1, .int .i64 p_1.Type_, .int .i64 p_1.N] [(.var 53 (v_T_column_input r_2.2)), (.row 24 3 (List.map e_T_api_Value r_2.1))] (.own 1 ((r_2.1).length))) an)))) ?_
  refine aw_seq (by kernel_rfl) ?_
  refine aw_seq (by kernel_rfl) ?_
  refine aw_region [] [1, 6, 45] [0, 2] 3 (vals := [.ptr 0 0 0 0, .own 2 ((r_2.1).length), .bool r_2.2.bad]) (bxs := [.live (.var 33 (v_T_api_Packed p_1)), .live (.row 24 3 (List.map e_T_api_Value r_2.1))]) (by kernel_rfl) hmix an ?_
  refine aw_cond (t := 45) (b := r_2.2.bad) (by kernel_rfl) (by kernel_rfl) ?_ ?_
  · intro g_4; replace h := cond_t g_4 h
    refine aw_seq (by kernel_rfl) ?_
    refine aw_region [] [2, 3] [] 3 (vals := [.nilsl, .int .i64 (10 : Int)]) (bxs := []) (by kernel_rfl) hmix an ?_
    refine aw_sub (sub_wkm [] [] [.a 2 (.sl false 3 []), .s 3] [] (sl2 := [(2, .sl false 3 []), (3, .int .i64 (10 : Int))]) (bx2 := []) (by kernel_rfl) (ac (rfl : ([] : List AV) = []) an)) ?_
    refine aw_ret (by kernel_rfl) ?_
    replace h := Option.some.inj h; subst h
    exact ⟨.inr rfl, Nat.le_of_ble_eq_true rfl, by kernel_rfl⟩
  intro g_4; replace h := cond_f g_4 h
  refine aw_skip (by kernel_rfl) ?_
  refine aw_seq (by kernel_rfl) ?_
  refine aw_sub (sub_wkm [0] [2] [.s 1, .a 6 (.sl false 3 (List.map e_T_api_Value r_2.1))] [.s 0] (sl2 := [(1, .ptr 0 0 0 0), (6, .sl false 3 (List.map e_T_api_Value r_2.1))]) (bx2 := [(0, .live (.var 33 (v_T_api_Packed p_1)))]) (by kernel_rfl) (ac (by first | (simp; done) | (simp; omega) : (r_2.1).length = ((List.map e_T_api_Value r_2.1)).length) (ac (rfl : 3 = 3) (ac (rfl : ((List.map e_T_api_Value r_2.1) : List AV) = (List.map e_T_api_Value r_2.1)) (ac (rfl : (!false || false) = true) an))))) ?_
  obtain ⟨r_3, h_5, h⟩ := bind_some h
  refine aw_region [(3, { av := .tuple [e_T_api_Packed r_3.1, .int .i64 r_3.2], l := [.int .i64 p_1.Type_, .sl false 3 (List.map e_T_api_Value r_2.1)] }), (7, { id := 1 })] [1, 6, 7, 8] [0, 1] 2 (vals := [.ptr 0 0 0 0, .sl false 3 (List.map e_T_api_Value r_2.1), .ptr 1 0 0 0, .int .i64 r_3.2]) (bxs := [.live (.var 33 (v_T_api_Packed p_1)), .live (.var 33 (v_T_api_Packed r_3.1))]) (by kernel_rfl) hmix (ac (rfl : ([.int .i64 p_1.Type_, .sl false 3 (List.map e_T_api_Value r_2.1)] : List AV) = [.int .i64 p_1.Type_, .sl false 3 (List.map e_T_api_Value r_2.1)]) (ac (rfl : ([] : List BoxSt) = []) (ac (column_Encode_ok F p_1.Type_ r_2.1 r_3 h_5 : TripleG prog 12 [] [] [.int .i64 p_1.Type_, .sl false 3 (List.map e_T_api_Value r_2.1)] [] (.tuple [e_T_api_Packed r_3.1, .int .i64 r_3.2])) an))) ?_
  refine aw_seq (by kernel_rfl) ?_
  refine aw_seq (by kernel_rfl) ?_
  obtain ⟨p_2, h_7, h⟩ := bind_some h
  refine aw_mid (mk [(6, .sl false 3 (List.map e_T_api_Value r_2.1)), (69, .bool p_2)] [] 0) ?_ ?_
  · replace h := h_7
    rcases Bool.eq_false_or_eq_true (r_3.2 != (0 : Int)) with gg_5 | gg_5
    · replace h := cond_t gg_5 h
      refine aw_region [(3, { g := false }), (4, { g := false }), (5, { g := false }), (6, { g := false }), (7, { g := false }), (8, { b := true }), (10, { g := false }), (11, { g := false }), (12, { g := false }), (13, { g := false }), (14, { g := false }), (15, { g := false }), (16, { b := true })] [6, 69] [] 2 (vals := [.sl false 3 (List.map e_T_api_Value r_2.1), .bool true]) (bxs := []) (by kernel_rfl) hmix (ac gg_5 (ac gg_5 (ac gg_5 (ac gg_5 (ac gg_5 (ac gg_5 (ac (rfl : true = !false) (ac (rfl : true = !false) (ac (rfl : true = !false) (ac (rfl : true = !false) (ac (rfl : true = !false) (ac (rfl : true = !false) (ac (rfl : true = true) an))))))))))))) ?_
      replace h := Option.some.inj h; subst h
      exact ⟨rfl, (sub_wkm [] [] [.s 6, .s 69] [] (by kernel_rfl) an)⟩
    · replace h := cond_f gg_5 h
      rcases Bool.eq_false_or_eq_true (r_3.1.N != p_1.N) with gg_6 | gg_6
      · replace h := cond_t gg_6 h
        refine aw_region [(8, { b := false }), (10, { g := false }), (11, { g := false }), (12, { g := false }), (13, { g := false }), (14, { g := false }), (15, { g := false }), (16, { b := true })] [6, 69] [] 2 (vals := [.sl false 3 (List.map e_T_api_Value r_2.1), .bool true]) (bxs := []) (by kernel_rfl) hmix (ac gg_5 (ac gg_5 (ac gg_5 (ac gg_5 (ac gg_5 (ac gg_5 (ac gg_6 (ac gg_6 (ac gg_6 (ac gg_6 (ac gg_6 (ac gg_6 (ac gg_6 an))))))))))))) ?_
        replace h := Option.some.inj h; subst h
        exact ⟨rfl, (sub_wkm [] [] [.s 6, .s 69] [] (by kernel_rfl) an)⟩
      · replace h := cond_f gg_6 h
        obtain ⟨r_4, h_6, h⟩ := bind_some h
        refine aw_region [(8, { b := false }), (14, { av := .bool r_4, l := [.sl false 1 (List.map (AV.int .u8) r_3.1.Bytes), .sl false 1 (List.map (AV.int .u8) p_1.Bytes)] }), (16, { b := false })] [6, 69] [] 2 (vals := [.sl false 3 (List.map e_T_api_Value r_2.1), .bool (!r_4)]) (bxs := []) (by kernel_rfl) hmix (ac gg_5 (ac gg_5 (ac gg_5 (ac gg_5 (ac gg_5 (ac gg_5 (ac gg_6 (ac gg_6 (ac gg_6 (ac gg_6 (ac gg_6 (ac (rfl : ([.sl false 1 (List.map (AV.int .u8) r_3.1.Bytes), .sl false 1 (List.map (AV.int .u8) p_1.Bytes)] : List AV) = [.sl false 1 (List.map (AV.int .u8) r_3.1.Bytes), .sl false 1 (List.map (AV.int .u8) p_1.Bytes)]) (ac (rfl : ([] : List BoxSt) = []) (ac (bytes_Equal_ok r_3.1.Bytes p_1.Bytes r_4 h_6 : TripleG prog 32 [] [] [.sl false 1 (List.map (AV.int .u8) r_3.1.Bytes), .sl false 1 (List.map (AV.int .u8) p_1.Bytes)] [] (.bool r_4)) (ac gg_6 (ac gg_6 an)))))))))))))))) ?_
        replace h := Option.some.inj h; subst h
        exact ⟨rfl, (sub_wkm [] [] [.s 6, .s 69] [] (by kernel_rfl) an)⟩
  refine aw_cond (t := 69) (b := p_2) (by kernel_rfl) (by kernel_rfl) ?_ ?_
  · intro g_5; replace h := cond_t g_5 h
    refine aw_seq (by kernel_rfl) ?_
    refine aw_region [] [2, 3] [] 0 (vals := [.nilsl, .int .i64 (10 : Int)]) (bxs := []) (by kernel_rfl) hmix an ?_
    refine aw_sub (sub_wkm [] [] [.a 2 (.sl false 3 []), .s 3] [] (sl2 := [(2, .sl false 3 []), (3, .int .i64 (10 : Int))]) (bx2 := []) (by kernel_rfl) (ac (rfl : ([] : List AV) = []) an)) ?_
    refine aw_ret (by kernel_rfl) ?_
    replace h := Option.some.inj h; subst h
    exact ⟨.inr rfl, Nat.le_of_ble_eq_true rfl, by kernel_rfl⟩
  intro g_5; replace h := cond_f g_5 h
  refine aw_skip (by kernel_rfl) ?_
  refine aw_seq (by kernel_rfl) ?_
  refine aw_region [] [2, 3] [] 0 (vals := [.sl false 3 (List.map e_T_api_Value r_2.1), .int .i64 (0 : Int)]) (bxs := []) (by kernel_rfl) hmix an ?_
  refine aw_ret (by kernel_rfl) ?_
  replace h := Option.some.inj h; subst h
  exact ⟨.inr rfl, Nat.le_of_ble_eq_true rfl, by kernel_rfl⟩

theorem column_Coding_ok (F : Nat) (p_1 : T_api_Packed) (r : Int × Int) (h : column_Coding F p_1 = some r) : TripleG prog 15 [] [] [e_T_api_Packed p_1] [] (.tuple [.int .i64 r.1, .int .i64 r.2]) := by
  refine triple_intro (fn := Go.Proofs.Try.f15) (code := codeOf Go.Proofs.Try.f15) (by kernel_rfl) (by kernel_rfl) (Nat.le_of_ble_eq_true (by kernel_rfl)) ?_
  unfold column_Coding at h
  refine aw_seq (by kernel_rfl) ?_
  refine aw_region [(0, { id := 0 })] [1] [0] 1 (vals := [.ptr 0 0 0 0]) (bxs := [.live (.var 33 (v_T_api_Packed p_1))]) (by kernel_rfl) hmix an ?_
  refine aw_seq (by kernel_rfl) ?_
  refine aw_seq (by kernel_rfl) ?_
  obtain ⟨r_1, h_1, h⟩ := bind_some h
  refine aw_region [(1, { av := .tuple [.sl false 3 (List.map e_T_api_Value r_1.1), .int .i64 r_1.2], l := [e_T_api_Packed p_1] })] [1, 5] [0] 1 (vals := [.ptr 0 0 0 0, .int .i64 r_1.2]) (bxs := [.live (.var 33 (v_T_api_Packed p_1))]) (by kernel_rfl) hmix (ac (rfl : ([e_T_api_Packed p_1] : List AV) = [e_T_api_Packed p_1]) (ac (rfl : ([] : List BoxSt) = []) (ac (column_Decode_ok F p_1 r_1 h_1 : TripleG prog 14 [] [] [e_T_api_Packed p_1] [] (.tuple [.sl false 3 (List.map e_T_api_Value r_1.1), .int .i64 r_1.2])) an))) ?_
  refine aw_seq (by kernel_rfl) ?_
  refine aw_region [] [1, 5, 12] [0] 1 (vals := [.ptr 0 0 0 0, .int .i64 r_1.2, .bool (r_1.2 != (0 : Int))]) (bxs := [.live (.var 33 (v_T_api_Packed p_1))]) (by kernel_rfl) hmix an ?_
  refine aw_cond (t := 12) (b := (r_1.2 != (0 : Int))) (by kernel_rfl) (by kernel_rfl) ?_ ?_
  · intro g_1; replace h := cond_t g_1 h
    refine aw_seq (by kernel_rfl) ?_
    refine aw_region [] [2, 3] [] 1 (vals := [.int .i64 (0 : Int), .int .i64 r_1.2]) (bxs := []) (by kernel_rfl) hmix an ?_
    refine aw_ret (by kernel_rfl) ?_
    replace h := Option.some.inj h; subst h
    exact ⟨.inr rfl, Nat.le_of_ble_eq_true rfl, by kernel_rfl⟩
  intro g_1; replace h := cond_f g_1 h
  refine aw_skip (by kernel_rfl) ?_
  refine aw_seq (by kernel_rfl) ?_
  obtain ⟨x_1, h_2, h⟩ := bind_some h
  refine aw_region [(2, { av := .int .u8 x_1 })] [2, 3] [] 1 (vals := [.int .i64 (w_i64 x_1), .int .i64 (0 : Int)]) (bxs := []) (by kernel_rfl) hmix (ac (vc_idx h_2 : idxA (List.map (AV.int .u8) p_1.Bytes) (0 : Int) = some (.int .u8 x_1)) an) ?_
  refine aw_ret (by kernel_rfl) ?_
  replace h := Option.some.inj h; subst h
  exact ⟨.inr rfl, Nat.le_of_ble_eq_true rfl, by kernel_rfl⟩

theorem L33_awake_ok (F : Nat) (r : Bool) (h : L33_awake F = some r) : TripleG prog 10 [] [] [] [] (.bool r) := by
  refine triple_intro (fn := Go.Proofs.Try.f10) (code := codeOf Go.Proofs.Try.f10) (by kernel_rfl) (by kernel_rfl) (Nat.le_of_ble_eq_true (by kernel_rfl)) ?_
  unfold L33_awake at h
  refine aw_seq (by kernel_rfl) ?_
  refine aw_region [] [] [] 0 (vals := []) (bxs := []) (by kernel_rfl) hmix an ?_
  refine aw_seq (by kernel_rfl) ?_
  obtain ⟨r_1, h_1, h⟩ := bind_some h
  obtain ⟨r_2, h_2, h⟩ := bind_some h
  obtain ⟨r_3, h_3, h⟩ := bind_some h
  obtain ⟨r_4, h_4, h⟩ := bind_some h
  refine aw_region [(0, { av := e_T_api_Value r_1, l := [.int .i64 (5 : Int)] }), (1, { av := e_T_api_Value r_2, l := [.int .i64 (5 : Int)] }), (2, { av := e_T_api_Value r_3, l := [.int .i64 (5 : Int)] }), (3, { id := 0 }), (4, { av := .tuple [e_T_api_Packed r_4.1, .int .i64 r_4.2], frz := [0], l := [.int .i64 (2 : Int), .sl false 3 (List.map e_T_api_Value ([r_1, r_2, r_3] : List T_api_Value))] }), (8, { id := 1 })] [1, 2] [1] 2 (vals := [.ptr 1 0 0 0, .int .i64 r_4.2]) (bxs := [.live (.var 33 (v_T_api_Packed r_4.1))]) (by kernel_rfl) hmix (ac (rfl : ([.int .i64 (5 : Int)] : List AV) = [.int .i64 (5 : Int)]) (ac (rfl : ([] : List BoxSt) = []) (ac (L33_num_ok (5 : Int) r_1 h_1 : TripleG prog 21 [] [] [.int .i64 (5 : Int)] [] (e_T_api_Value r_1)) (ac (rfl : ([.int .i64 (5 : Int)] : List AV) = [.int .i64 (5 : Int)]) (ac (rfl : ([] : List BoxSt) = []) (ac (L33_num_ok (5 : Int) r_2 h_2 : TripleG prog 21 [] [] [.int .i64 (5 : Int)] [] (e_T_api_Value r_2)) (ac (rfl : ([.int .i64 (5 : Int)] : List AV) = [.int .i64 (5 : Int)]) (ac (rfl : ([] : List BoxSt) = []) (ac (L33_num_ok (5 : Int) r_3 h_3 : TripleG prog 21 [] [] [.int .i64 (5 : Int)] [] (e_T_api_Value r_3)) (ac (by first | (simp; done) | (simp; omega) : 3 = ((List.map e_T_api_Value ([r_1, r_2, r_3] : List T_api_Value))).length) (ac (rfl : ([.int .i64 (2 : Int), .sl false 3 (List.map e_T_api_Value ([r_1, r_2, r_3] : List T_api_Value))] : List AV) = [.int .i64 (2 : Int), .sl false 3 (List.map e_T_api_Value ([r_1, r_2, r_3] : List T_api_Value))]) (ac (rfl : ([] : List BoxSt) = []) (ac (column_Encode_ok F (2 : Int) ([r_1, r_2, r_3] : List T_api_Value) r_4 h_4 : TripleG prog 12 [] [] [.int .i64 (2 : Int), .sl false 3 (List.map e_T_api_Value ([r_1, r_2, r_3] : List T_api_Value))] [] (.tuple [e_T_api_Packed r_4.1, .int .i64 r_4.2])) an))))))))))))) ?_
  refine aw_seq (by kernel_rfl) ?_
  obtain ⟨r_5, h_5, h⟩ := bind_some h
  obtain ⟨r_6, h_6, h⟩ := bind_some h
  obtain ⟨r_7, h_7, h⟩ := bind_some h
  obtain ⟨r_8, h_8, h⟩ := bind_some h
  refine aw_region [(0, { av := e_T_api_Value r_5, l := [.int .i64 (1 : Int)] }), (1, { av := e_T_api_Value r_6, l := [.int .i64 (2 : Int)] }), (2, { av := e_T_api_Value r_7, l := [.int .i64 (3 : Int)] }), (3, { id := 2 }), (4, { av := .tuple [e_T_api_Packed r_8.1, .int .i64 r_8.2], frz := [2], l := [.int .i64 (2 : Int), .sl false 3 (List.map e_T_api_Value ([r_5, r_6, r_7] : List T_api_Value))] }), (8, { id := 3 })] [1, 2, 3, 4] [1, 3] 4 (vals := [.ptr 1 0 0 0, .int .i64 r_4.2, .ptr 3 0 0 0, .int .i64 r_8.2]) (bxs := [.live (.var 33 (v_T_api_Packed r_4.1)), .live (.var 33 (v_T_api_Packed r_8.1))]) (by kernel_rfl) hmix (ac (rfl : ([.int .i64 (1 : Int)] : List AV) = [.int .i64 (1 : Int)]) (ac (rfl : ([] : List BoxSt) = []) (ac (L33_num_ok (1 : Int) r_5 h_5 : TripleG prog 21 [] [] [.int .i64 (1 : Int)] [] (e_T_api_Value r_5)) (ac (rfl : ([.int .i64 (2 : Int)] : List AV) = [.int .i64 (2 : Int)]) (ac (rfl : ([] : List BoxSt) = []) (ac (L33_num_ok (2 : Int) r_6 h_6 : TripleG prog 21 [] [] [.int .i64 (2 : Int)] [] (e_T_api_Value r_6)) (ac (rfl : ([.int .i64 (3 : Int)] : List AV) = [.int .i64 (3 : Int)]) (ac (rfl : ([] : List BoxSt) = []) (ac (L33_num_ok (3 : Int) r_7 h_7 : TripleG prog 21 [] [] [.int .i64 (3 : Int)] [] (e_T_api_Value r_7)) (ac (by first | (simp; done) | (simp; omega) : 3 = ((List.map e_T_api_Value ([r_5, r_6, r_7] : List T_api_Value))).length) (ac (rfl : ([.int .i64 (2 : Int), .sl false 3 (List.map e_T_api_Value ([r_5, r_6, r_7] : List T_api_Value))] : List AV) = [.int .i64 (2 : Int), .sl false 3 (List.map e_T_api_Value ([r_5, r_6, r_7] : List T_api_Value))]) (ac (rfl : ([] : List BoxSt) = []) (ac (column_Encode_ok F (2 : Int) ([r_5, r_6, r_7] : List T_api_Value) r_8 h_8 : TripleG prog 12 [] [] [.int .i64 (2 : Int), .sl false 3 (List.map e_T_api_Value ([r_5, r_6, r_7] : List T_api_Value))] [] (.tuple [e_T_api_Packed r_8.1, .int .i64 r_8.2])) an))))))))))))) ?_
  refine aw_seq (by kernel_rfl) ?_
  obtain ⟨r_9, h_9, h⟩ := bind_some h
  refine aw_region [(0, { av := .tuple [e_T_api_Packed r_9.1, .int .i64 r_9.2], l := [.int .i64 (3 : Int), .nilsl] }), (4, { id := 4 })] [1, 2, 3, 4, 5, 6] [1, 3, 4] 5 (vals := [.ptr 1 0 0 0, .int .i64 r_4.2, .ptr 3 0 0 0, .int .i64 r_8.2, .ptr 4 0 0 0, .int .i64 r_9.2]) (bxs := [.live (.var 33 (v_T_api_Packed r_4.1)), .live (.var 33 (v_T_api_Packed r_8.1)), .live (.var 33 (v_T_api_Packed r_9.1))]) (by kernel_rfl) hmix (ac (rfl : ([.int .i64 (3 : Int), .nilsl] : List AV) = [.int .i64 (3 : Int), .nilsl]) (ac (rfl : ([] : List BoxSt) = []) (ac (triple_lo (args' := [.int .i64 (3 : Int), .sl false 3 []]) (column_Encode_ok F (3 : Int) [] r_9 h_9) rfl ⟨rfl, rfl, trivial⟩ : TripleG prog 12 [] [] [.int .i64 (3 : Int), .nilsl] [] (.tuple [e_T_api_Packed r_9.1, .int .i64 r_9.2])) an))) ?_
  refine aw_seq (by kernel_rfl) ?_
  obtain ⟨r_10, h_10, h⟩ := bind_some h
  refine aw_region [(0, { id := 5 }), (2, { av := .tuple [.sl false 3 (List.map e_T_api_Value r_10.1), .int .i64 r_10.2], frz := [5], l := [.agg [.int .i64 (2 : Int), .int .i64 (3 : Int), .sl false 1 (List.map (AV.int .u8) ([(1 : Int), (6 : Int), (2 : Int), (10 : Int)] : List Int))]] })] [1, 2, 3, 4, 5, 6, 7, 8] [1, 3, 4] 6 (vals := [.ptr 1 0 0 0, .int .i64 r_4.2, .ptr 3 0 0 0, .int .i64 r_8.2, .ptr 4 0 0 0, .int .i64 r_9.2, .sl false 3 (List.map e_T_api_Value r_10.1), .int .i64 r_10.2]) (bxs := [.live (.var 33 (v_T_api_Packed r_4.1)), .live (.var 33 (v_T_api_Packed r_8.1)), .live (.var 33 (v_T_api_Packed r_9.1))]) (by kernel_rfl) hmix (ac (by first | (simp; done) | (simp; omega) : 4 = ((List.map (AV.int .u8) ([(1 : Int), (6 : Int), (2 : Int), (10 : Int)] : List Int))).length) (ac (rfl : ([.agg [.int .i64 (2 : Int), .int .i64 (3 : Int), .sl false 1 (List.map (AV.int .u8) ([(1 : Int), (6 : Int), (2 : Int), (10 : Int)] : List Int))]] : List AV) = [.agg [.int .i64 (2 : Int), .int .i64 (3 : Int), .sl false 1 (List.map (AV.int .u8) ([(1 : Int), (6 : Int), (2 : Int), (10 : Int)] : List Int))]]) (ac (rfl : ([] : List BoxSt) = []) (ac (triple_lo (args' := [e_T_api_Packed (⟨(2 : Int), (3 : Int), ([(1 : Int), (6 : Int), (2 : Int), (10 : Int)] : List Int)⟩ : T_api_Packed)]) (column_Decode_ok F (⟨(2 : Int), (3 : Int), ([(1 : Int), (6 : Int), (2 : Int), (10 : Int)] : List Int)⟩ : T_api_Packed) r_10 h_10) rfl ⟨rfl, rfl, rfl, rfl, rfl, trivial⟩ : TripleG prog 14 [] [] [.agg [.int .i64 (2 : Int), .int .i64 (3 : Int), .sl false 1 (List.map (AV.int .u8) ([(1 : Int), (6 : Int), (2 : Int), (10 : Int)] : List Int))]] [] (.tuple [.sl false 3 (List.map e_T_api_Value r_10.1), .int .i64 r_10.2])) an)))) ?_
  refine aw_seq (by kernel_rfl) ?_
  obtain ⟨r_11, h_11, h⟩ := bind_some h
  refine aw_region [(1, { av := .tuple [.int .i64 r_11.1, .int .i64 r_11.2], l := [e_T_api_Packed r_8.1] })] [1, 2, 3, 4, 5, 6, 7, 8, 9, 10] [1, 3, 4] 6 (vals := [.ptr 1 0 0 0, .int .i64 r_4.2, .ptr 3 0 0 0, .int .i64 r_8.2, .ptr 4 0 0 0, .int .i64 r_9.2, .sl false 3 (List.map e_T_api_Value r_10.1), .int .i64 r_10.2, .int .i64 r_11.1, .int .i64 r_11.2]) (bxs := [.live (.var 33 (v_T_api_Packed r_4.1)), .live (.var 33 (v_T_api_Packed r_8.1)), .live (.var 33 (v_T_api_Packed r_9.1))]) (by kernel_rfl) hmix (ac (rfl : ([e_T_api_Packed r_8.1] : List AV) = [e_T_api_Packed r_8.1]) (ac (rfl : ([] : List BoxSt) = []) (ac (column_Coding_ok F r_8.1 r_11 h_11 : TripleG prog 15 [] [] [e_T_api_Packed r_8.1] [] (.tuple [.int .i64 r_11.1, .int .i64 r_11.2])) an))) ?_
  refine aw_seq (by kernel_rfl) ?_
  obtain ⟨p_1, h_17, h⟩ := bind_some h
  refine aw_mid (mk [(0, .bool p_1)] [] 0) ?_ ?_
  · replace h := h_17
    rcases Bool.eq_false_or_eq_true (r_4.2 == (0 : Int)) with gg_1 | gg_1
    · replace h := cond_t gg_1 h
      rcases Bool.eq_false_or_eq_true (r_4.1.N == (3 : Int)) with gg_2 | gg_2
      · replace h := cond_t gg_2 h
        rcases Bool.eq_false_or_eq_true (r_4.1.Bytes == ([1, 6, 2, 10] : List Int)) with gg_3 | gg_3
        · replace h := cond_t gg_3 h
          rcases Bool.eq_false_or_eq_true (r_8.2 == (0 : Int)) with gg_4 | gg_4
          · replace h := cond_t gg_4 h
            rcases Bool.eq_false_or_eq_true (r_8.1.Bytes == ([2, 2, 2, 2] : List Int)) with gg_5 | gg_5
            · replace h := cond_t gg_5 h
              rcases Bool.eq_false_or_eq_true (r_9.2 == (0 : Int)) with gg_6 | gg_6
              · replace h := cond_t gg_6 h
                rcases Bool.eq_false_or_eq_true (r_9.1.Bytes == ([0] : List Int)) with gg_7 | gg_7
                · replace h := cond_t gg_7 h
                  rcases Bool.eq_false_or_eq_true (r_10.2 == (0 : Int)) with gg_8 | gg_8
                  · replace h := cond_t gg_8 h
                    rcases Bool.eq_false_or_eq_true ((((r_10.1).length : Nat) : Int) == (3 : Int)) with gg_9 | gg_9
                    · replace h := cond_t gg_9 h
                      obtain ⟨x_1, h_12, h⟩ := bind_some h
                      obtain ⟨r_12, h_13, h⟩ := bind_some h
                      rcases Bool.eq_false_or_eq_true (decide (x_1 = r_12)) with gg_10 | gg_10
                      · replace h := cond_t gg_10 h
                        rcases Bool.eq_false_or_eq_true (r_11.1 == (2 : Int)) with gg_11 | gg_11
                        · replace h := cond_t gg_11 h
                          rcases Bool.eq_false_or_eq_true (r_11.2 == (0 : Int)) with gg_12 | gg_12
                          · replace h := cond_t gg_12 h
                            obtain ⟨r_13, h_14, h⟩ := bind_some h
                            rcases Bool.eq_false_or_eq_true (r_13 == (0 : Int)) with gg_13 | gg_13
                            · replace h := cond_t gg_13 h
                              obtain ⟨r_14, h_15, h⟩ := bind_some h
                              obtain ⟨r_15, h_16, h⟩ := bind_some h
                              refine aw_region [(6, { b := true }), (10, { s := r_4.1.Bytes }), (12, { b := true }), (16, { b := true }), (20, { s := r_8.1.Bytes }), (22, { b := true }), (26, { b := true }), (30, { s := r_9.1.Bytes }), (32, { b := true }), (36, { b := true }), (39, { n := (r_10.1).length }), (41, { b := true }), (44, { av := e_T_api_Value x_1 }), (46, { av := e_T_api_Value r_12, l := [.int .i64 (5 : Int)] }), (47, { b := (decide (x_1 = r_12)), mks := [.int .i64, .int .i64, .str] }), (48, { b := true }), (52, { b := true }), (56, { b := true }), (59, { av := .int .i64 r_13, l := [.int .i64 (2 : Int), .agg [.int .i64 (0 : Int), .int .i64 (0 : Int), .str ([] : List Int)]] }), (61, { b := true }), (63, { av := e_T_api_Value r_14, l := [.int .i64 (1 : Int)] }), (64, { av := .int .i64 r_15, l := [.int .i64 (1 : Int), e_T_api_Value r_14] }), (66, { b := true })] [0] [] 6 (vals := [.bool (r_15 == (14 : Int))]) (bxs := []) (by kernel_rfl) hmix (ac gg_1 (ac gg_1 (ac gg_1 (ac gg_1 (ac gg_2 (ac gg_2 (ac gg_2 (ac (rfl : (List.map (AV.int .u8) r_4.1.Bytes) = List.map (AV.int .u8) r_4.1.Bytes) (ac gg_2 (ac gg_2 (ac gg_3 (ac gg_3 (ac gg_3 (ac gg_4 (ac gg_4 (ac gg_4 (ac (rfl : (List.map (AV.int .u8) r_8.1.Bytes) = List.map (AV.int .u8) r_8.1.Bytes) (ac gg_4 (ac gg_4 (ac gg_5 (ac gg_5 (ac gg_5 (ac gg_6 (ac gg_6 (ac gg_6 (ac (rfl : (List.map (AV.int .u8) r_9.1.Bytes) = List.map (AV.int .u8) r_9.1.Bytes) (ac gg_6 (ac gg_6 (ac gg_7 (ac gg_7 (ac gg_7 (ac gg_8 (ac gg_8 (ac (vc_len _ : ((List.map e_T_api_Value r_10.1)).length = (r_10.1).length) (ac gg_8 (ac gg_8 (ac gg_9 (ac gg_9 (ac (vc_idx h_12 : idxA (List.map e_T_api_Value r_10.1) (2 : Int) = some (e_T_api_Value x_1)) (ac gg_9 (ac gg_9 (ac (rfl : ([.int .i64 (5 : Int)] : List AV) = [.int .i64 (5 : Int)]) (ac (rfl : ([] : List BoxSt) = []) (ac (L33_num_ok (5 : Int) r_12 h_13 : TripleG prog 21 [] [] [.int .i64 (5 : Int)] [] (e_T_api_Value r_12)) (ac gg_9 (ac (eqOk_24 : EqOk prog 24 [.int .i64, .int .i64, .str]) (ac (vc_eqA (f := e_T_api_Value) inj_T_api_Value x_1 r_12 : ((decide (x_1 = r_12)) = true ↔ AV.agg [.int .i64 x_1.Kind, .int .i64 x_1.N, .str x_1.S] = AV.agg [.int .i64 r_12.Kind, .int .i64 r_12.N, .str r_12.S])) (ac gg_9 (ac gg_10 (ac gg_10 (ac gg_10 (ac gg_11 (ac gg_11 (ac gg_11 (ac gg_12 (ac gg_12 (ac (rfl : ([.int .i64 (2 : Int), .agg [.int .i64 (0 : Int), .int .i64 (0 : Int), .str ([] : List Int)]] : List AV) = [.int .i64 (2 : Int), .agg [.int .i64 (0 : Int), .int .i64 (0 : Int), .str ([] : List Int)]]) (ac (rfl : ([] : List BoxSt) = []) (ac (triple_lo (args' := [.int .i64 (2 : Int), e_T_api_Value (⟨(0 : Int), (0 : Int), ([] : List Int)⟩ : T_api_Value)]) (column_Value_ok (2 : Int) (⟨(0 : Int), (0 : Int), ([] : List Int)⟩ : T_api_Value) r_13 h_14) rfl ⟨rfl, rfl, rfl, rfl, trivial⟩ : TripleG prog 8 [] [] [.int .i64 (2 : Int), .agg [.int .i64 (0 : Int), .int .i64 (0 : Int), .str ([] : List Int)]] [] (.int .i64 r_13)) (ac gg_12 (ac gg_12 (ac gg_13 (ac (rfl : ([.int .i64 (1 : Int)] : List AV) = [.int .i64 (1 : Int)]) (ac (rfl : ([] : List BoxSt) = []) (ac (L33_num_ok (1 : Int) r_14 h_15 : TripleG prog 21 [] [] [.int .i64 (1 : Int)] [] (e_T_api_Value r_14)) (ac gg_13 (ac (rfl : ([.int .i64 (1 : Int), e_T_api_Value r_14] : List AV) = [.int .i64 (1 : Int), e_T_api_Value r_14]) (ac (rfl : ([] : List BoxSt) = []) (ac (column_Value_ok (1 : Int) r_14 r_15 h_16 : TripleG prog 8 [] [] [.int .i64 (1 : Int), e_T_api_Value r_14] [] (.int .i64 r_15)) (ac gg_13 (ac gg_13 an))))))))))))))))))))))))))))))))))))))))))))))))))))))))))))))))))))))) ?_
                              replace h := Option.some.inj h; subst h
                              exact ⟨rfl, (sub_wkm [] [] [.s 0] [] (by kernel_rfl) an)⟩
                            · replace h := cond_f gg_13 h
                              refine aw_region [(6, { b := true }), (10, { s := r_4.1.Bytes }), (12, { b := true }), (16, { b := true }), (20, { s := r_8.1.Bytes }), (22, { b := true }), (26, { b := true }), (30, { s := r_9.1.Bytes }), (32, { b := true }), (36, { b := true }), (39, { n := (r_10.1).length }), (41, { b := true }), (44, { av := e_T_api_Value x_1 }), (46, { av := e_T_api_Value r_12, l := [.int .i64 (5 : Int)] }), (47, { b := (decide (x_1 = r_12)), mks := [.int .i64, .int .i64, .str] }), (48, { b := true }), (52, { b := true }), (56, { b := true }), (59, { av := .int .i64 r_13, l := [.int .i64 (2 : Int), .agg [.int .i64 (0 : Int), .int .i64 (0 : Int), .str ([] : List Int)]] }), (61, { b := true }), (63, { g := false }), (64, { g := false }), (65, { g := false }), (66, { b := false })] [0] [] 6 (vals := [.bool false]) (bxs := []) (by kernel_rfl) hmix (ac gg_1 (ac gg_1 (ac gg_1 (ac gg_1 (ac gg_2 (ac gg_2 (ac gg_2 (ac (rfl : (List.map (AV.int .u8) r_4.1.Bytes) = List.map (AV.int .u8) r_4.1.Bytes) (ac gg_2 (ac gg_2 (ac gg_3 (ac gg_3 (ac gg_3 (ac gg_4 (ac gg_4 (ac gg_4 (ac (rfl : (List.map (AV.int .u8) r_8.1.Bytes) = List.map (AV.int .u8) r_8.1.Bytes) (ac gg_4 (ac gg_4 (ac gg_5 (ac gg_5 (ac gg_5 (ac gg_6 (ac gg_6 (ac gg_6 (ac (rfl : (List.map (AV.int .u8) r_9.1.Bytes) = List.map (AV.int .u8) r_9.1.Bytes) (ac gg_6 (ac gg_6 (ac gg_7 (ac gg_7 (ac gg_7 (ac gg_8 (ac gg_8 (ac (vc_len _ : ((List.map e_T_api_Value r_10.1)).length = (r_10.1).length) (ac gg_8 (ac gg_8 (ac gg_9 (ac gg_9 (ac (vc_idx h_12 : idxA (List.map e_T_api_Value r_10.1) (2 : Int) = some (e_T_api_Value x_1)) (ac gg_9 (ac gg_9 (ac (rfl : ([.int .i64 (5 : Int)] : List AV) = [.int .i64 (5 : Int)]) (ac (rfl : ([] : List BoxSt) = []) (ac (L33_num_ok (5 : Int) r_12 h_13 : TripleG prog 21 [] [] [.int .i64 (5 : Int)] [] (e_T_api_Value r_12)) (ac gg_9 (ac (eqOk_24 : EqOk prog 24 [.int .i64, .int .i64, .str]) (ac (vc_eqA (f := e_T_api_Value) inj_T_api_Value x_1 r_12 : ((decide (x_1 = r_12)) = true ↔ AV.agg [.int .i64 x_1.Kind, .int .i64 x_1.N, .str x_1.S] = AV.agg [.int .i64 r_12.Kind, .int .i64 r_12.N, .str r_12.S])) (ac gg_9 (ac gg_10 (ac gg_10 (ac gg_10 (ac gg_11 (ac gg_11 (ac gg_11 (ac gg_12 (ac gg_12 (ac (rfl : ([.int .i64 (2 : Int), .agg [.int .i64 (0 : Int), .int .i64 (0 : Int), .str ([] : List Int)]] : List AV) = [.int .i64 (2 : Int), .agg [.int .i64 (0 : Int), .int .i64 (0 : Int), .str ([] : List Int)]]) (ac (rfl : ([] : List BoxSt) = []) (ac (triple_lo (args' := [.int .i64 (2 : Int), e_T_api_Value (⟨(0 : Int), (0 : Int), ([] : List Int)⟩ : T_api_Value)]) (column_Value_ok (2 : Int) (⟨(0 : Int), (0 : Int), ([] : List Int)⟩ : T_api_Value) r_13 h_14) rfl ⟨rfl, rfl, rfl, rfl, trivial⟩ : TripleG prog 8 [] [] [.int .i64 (2 : Int), .agg [.int .i64 (0 : Int), .int .i64 (0 : Int), .str ([] : List Int)]] [] (.int .i64 r_13)) (ac gg_12 (ac gg_12 (ac gg_13 (ac gg_13 (ac gg_13 (ac gg_13 an))))))))))))))))))))))))))))))))))))))))))))))))))))))))))))))))) ?_
                              replace h := Option.some.inj h; subst h
                              exact ⟨rfl, (sub_wkm [] [] [.s 0] [] (by kernel_rfl) an)⟩
                          · replace h := cond_f gg_12 h
                            refine aw_region [(6, { b := true }), (10, { s := r_4.1.Bytes }), (12, { b := true }), (16, { b := true }), (20, { s := r_8.1.Bytes }), (22, { b := true }), (26, { b := true }), (30, { s := r_9.1.Bytes }), (32, { b := true }), (36, { b := true }), (39, { n := (r_10.1).length }), (41, { b := true }), (44, { av := e_T_api_Value x_1 }), (46, { av := e_T_api_Value r_12, l := [.int .i64 (5 : Int)] }), (47, { b := (decide (x_1 = r_12)), mks := [.int .i64, .int .i64, .str] }), (48, { b := true }), (52, { b := true }), (56, { b := true }), (58, { g := false }), (59, { g := false }), (60, { g := false }), (61, { b := false }), (63, { g := false }), (64, { g := false }), (65, { g := false }), (66, { b := false })] [0] [] 6 (vals := [.bool false]) (bxs := []) (by kernel_rfl) hmix (ac gg_1 (ac gg_1 (ac gg_1 (ac gg_1 (ac gg_2 (ac gg_2 (ac gg_2 (ac (rfl : (List.map (AV.int .u8) r_4.1.Bytes) = List.map (AV.int .u8) r_4.1.Bytes) (ac gg_2 (ac gg_2 (ac gg_3 (ac gg_3 (ac gg_3 (ac gg_4 (ac gg_4 (ac gg_4 (ac (rfl : (List.map (AV.int .u8) r_8.1.Bytes) = List.map (AV.int .u8) r_8.1.Bytes) (ac gg_4 (ac gg_4 (ac gg_5 (ac gg_5 (ac gg_5 (ac gg_6 (ac gg_6 (ac gg_6 (ac (rfl : (List.map (AV.int .u8) r_9.1.Bytes) = List.map (AV.int .u8) r_9.1.Bytes) (ac gg_6 (ac gg_6 (ac gg_7 (ac gg_7 (ac gg_7 (ac gg_8 (ac gg_8 (ac (vc_len _ : ((List.map e_T_api_Value r_10.1)).length = (r_10.1).length) (ac gg_8 (ac gg_8 (ac gg_9 (ac gg_9 (ac (vc_idx h_12 : idxA (List.map e_T_api_Value r_10.1) (2 : Int) = some (e_T_api_Value x_1)) (ac gg_9 (ac gg_9 (ac (rfl : ([.int .i64 (5 : Int)] : List AV) = [.int .i64 (5 : Int)]) (ac (rfl : ([] : List BoxSt) = []) (ac (L33_num_ok (5 : Int) r_12 h_13 : TripleG prog 21 [] [] [.int .i64 (5 : Int)] [] (e_T_api_Value r_12)) (ac gg_9 (ac (eqOk_24 : EqOk prog 24 [.int .i64, .int .i64, .str]) (ac (vc_eqA (f := e_T_api_Value) inj_T_api_Value x_1 r_12 : ((decide (x_1 = r_12)) = true ↔ AV.agg [.int .i64 x_1.Kind, .int .i64 x_1.N, .str x_1.S] = AV.agg [.int .i64 r_12.Kind, .int .i64 r_12.N, .str r_12.S])) (ac gg_9 (ac gg_10 (ac gg_10 (ac gg_10 (ac gg_11 (ac gg_11 (ac gg_11 (ac gg_12 (ac gg_12 (ac gg_12 (ac gg_12 (ac (rfl : false = !true) (ac (rfl : false = !true) (ac (rfl : false = !true) (ac (rfl : false = false) an)))))))))))))))))))))))))))))))))))))))))))))))))))))))))))))) ?_
                            replace h := Option.some.inj h; subst h
                            exact ⟨rfl, (sub_wkm [] [] [.s 0] [] (by kernel_rfl) an)⟩
                        · replace h := cond_f gg_11 h
                          refine aw_region [(6, { b := true }), (10, { s := r_4.1.Bytes }), (12, { b := true }), (16, { b := true }), (20, { s := r_8.1.Bytes }), (22, { b := true }), (26, { b := true }), (30, { s := r_9.1.Bytes }), (32, { b := true }), (36, { b := true }), (39, { n := (r_10.1).length }), (41, { b := true }), (44, { av := e_T_api_Value x_1 }), (46, { av := e_T_api_Value r_12, l := [.int .i64 (5 : Int)] }), (47, { b := (decide (x_1 = r_12)), mks := [.int .i64, .int .i64, .str] }), (48, { b := true }), (52, { b := true }), (54, { g := false }), (55, { g := false }), (56, { b := false }), (58, { g := false }), (59, { g := false }), (60, { g := false }), (61, { b := false }), (63, { g := false }), (64, { g := false }), (65, { g := false }), (66, { b := false })] [0] [] 6 (vals := [.bool false]) (bxs := []) (by kernel_rfl) hmix (ac gg_1 (ac gg_1 (ac gg_1 (ac gg_1 (ac gg_2 (ac gg_2 (ac gg_2 (ac (rfl : (List.map (AV.int .u8) r_4.1.Bytes) = List.map (AV.int .u8) r_4.1.Bytes) (ac gg_2 (ac gg_2 (ac gg_3 (ac gg_3 (ac gg_3 (ac gg_4 (ac gg_4 (ac gg_4 (ac (rfl : (List.map (AV.int .u8) r_8.1.Bytes) = List.map (AV.int .u8) r_8.1.Bytes) (ac gg_4 (ac gg_4 (ac gg_5 (ac gg_5 (ac gg_5 (ac gg_6 (ac gg_6 (ac gg_6 (ac (rfl : (List.map (AV.int .u8) r_9.1.Bytes) = List.map (AV.int .u8) r_9.1.Bytes) (ac gg_6 (ac gg_6 (ac gg_7 (ac gg_7 (ac gg_7 (ac gg_8 (ac gg_8 (ac (vc_len _ : ((List.map e_T_api_Value r_10.1)).length = (r_10.1).length) (ac gg_8 (ac gg_8 (ac gg_9 (ac gg_9 (ac (vc_idx h_12 : idxA (List.map e_T_api_Value r_10.1) (2 : Int) = some (e_T_api_Value x_1)) (ac gg_9 (ac gg_9 (ac (rfl : ([.int .i64 (5 : Int)] : List AV) = [.int .i64 (5 : Int)]) (ac (rfl : ([] : List BoxSt) = []) (ac (L33_num_ok (5 : Int) r_12 h_13 : TripleG prog 21 [] [] [.int .i64 (5 : Int)] [] (e_T_api_Value r_12)) (ac gg_9 (ac (eqOk_24 : EqOk prog 24 [.int .i64, .int .i64, .str]) (ac (vc_eqA (f := e_T_api_Value) inj_T_api_Value x_1 r_12 : ((decide (x_1 = r_12)) = true ↔ AV.agg [.int .i64 x_1.Kind, .int .i64 x_1.N, .str x_1.S] = AV.agg [.int .i64 r_12.Kind, .int .i64 r_12.N, .str r_12.S])) (ac gg_9 (ac gg_10 (ac gg_10 (ac gg_10 (ac gg_11 (ac gg_11 (ac gg_11 (ac (rfl : false = !true) (ac (rfl : false = !true) (ac (rfl : false = !true) (ac (rfl : false = false) (ac (rfl : false = !true) (ac (rfl : false = !true) (ac (rfl : false = !true) (ac (rfl : false = false) an)))))))))))))))))))))))))))))))))))))))))))))))))))))))))))))) ?_
                          replace h := Option.some.inj h; subst h
                          exact ⟨rfl, (sub_wkm [] [] [.s 0] [] (by kernel_rfl) an)⟩
                      · replace h := cond_f gg_10 h
                        refine aw_region [(6, { b := true }), (10, { s := r_4.1.Bytes }), (12, { b := true }), (16, { b := true }), (20, { s := r_8.1.Bytes }), (22, { b := true }), (26, { b := true }), (30, { s := r_9.1.Bytes }), (32, { b := true }), (36, { b := true }), (39, { n := (r_10.1).length }), (41, { b := true }), (44, { av := e_T_api_Value x_1 }), (46, { av := e_T_api_Value r_12, l := [.int .i64 (5 : Int)] }), (47, { b := (decide (x_1 = r_12)), mks := [.int .i64, .int .i64, .str] }), (48, { b := true }), (50, { g := false }), (51, { g := false }), (52, { b := false }), (54, { g := false }), (55, { g := false }), (56, { b := false }), (58, { g := false }), (59, { g := false }), (60, { g := false }), (61, { b := false }), (63, { g := false }), (64, { g := false }), (65, { g := false }), (66, { b := false })] [0] [] 6 (vals := [.bool false]) (bxs := []) (by kernel_rfl) hmix (ac gg_1 (ac gg_1 (ac gg_1 (ac gg_1 (ac gg_2 (ac gg_2 (ac gg_2 (ac (rfl : (List.map (AV.int .u8) r_4.1.Bytes) = List.map (AV.int .u8) r_4.1.Bytes) (ac gg_2 (ac gg_2 (ac gg_3 (ac gg_3 (ac gg_3 (ac gg_4 (ac gg_4 (ac gg_4 (ac (rfl : (List.map (AV.int .u8) r_8.1.Bytes) = List.map (AV.int .u8) r_8.1.Bytes) (ac gg_4 (ac gg_4 (ac gg_5 (ac gg_5 (ac gg_5 (ac gg_6 (ac gg_6 (ac gg_6 (ac (rfl : (List.map (AV.int .u8) r_9.1.Bytes) = List.map (AV.int .u8) r_9.1.Bytes) (ac gg_6 (ac gg_6 (ac gg_7 (ac gg_7 (ac gg_7 (ac gg_8 (ac gg_8 (ac (vc_len _ : ((List.map e_T_api_Value r_10.1)).length = (r_10.1).length) (ac gg_8 (ac gg_8 (ac gg_9 (ac gg_9 (ac (vc_idx h_12 : idxA (List.map e_T_api_Value r_10.1) (2 : Int) = some (e_T_api_Value x_1)) (ac gg_9 (ac gg_9 (ac (rfl : ([.int .i64 (5 : Int)] : List AV) = [.int .i64 (5 : Int)]) (ac (rfl : ([] : List BoxSt) = []) (ac (L33_num_ok (5 : Int) r_12 h_13 : TripleG prog 21 [] [] [.int .i64 (5 : Int)] [] (e_T_api_Value r_12)) (ac gg_9 (ac (eqOk_24 : EqOk prog 24 [.int .i64, .int .i64, .str]) (ac (vc_eqA (f := e_T_api_Value) inj_T_api_Value x_1 r_12 : ((decide (x_1 = r_12)) = true ↔ AV.agg [.int .i64 x_1.Kind, .int .i64 x_1.N, .str x_1.S] = AV.agg [.int .i64 r_12.Kind, .int .i64 r_12.N, .str r_12.S])) (ac gg_9 (ac gg_10 (ac gg_10 (ac gg_10 (ac (rfl : false = !true) (ac (rfl : false = !true) (ac (rfl : false = false) (ac (rfl : false = !true) (ac (rfl : false = !true) (ac (rfl : false = !true) (ac (rfl : false = false) (ac (rfl : false = !true) (ac (rfl : false = !true) (ac (rfl : false = !true) (ac (rfl : false = false) an)))))))))))))))))))))))))))))))))))))))))))))))))))))))))))))) ?_
                        replace h := Option.some.inj h; subst h
                        exact ⟨rfl, (sub_wkm [] [] [.s 0] [] (by kernel_rfl) an)⟩
                    · replace h := cond_f gg_9 h
                      refine aw_region [(6, { b := true }), (10, { s := r_4.1.Bytes }), (12, { b := true }), (16, { b := true }), (20, { s := r_8.1.Bytes }), (22, { b := true }), (26, { b := true }), (30, { s := r_9.1.Bytes }), (32, { b := true }), (36, { b := true }), (39, { n := (r_10.1).length }), (41, { b := true }), (43, { g := false }), (44, { g := false }), (45, { g := false }), (46, { g := false }), (47, { g := false }), (48, { b := false }), (50, { g := false }), (51, { g := false }), (52, { b := false }), (54, { g := false }), (55, { g := false }), (56, { b := false }), (58, { g := false }), (59, { g := false }), (60, { g := false }), (61, { b := false }), (63, { g := false }), (64, { g := false }), (65, { g := false }), (66, { b := false })] [0] [] 6 (vals := [.bool false]) (bxs := []) (by kernel_rfl) hmix (ac gg_1 (ac gg_1 (ac gg_1 (ac gg_1 (ac gg_2 (ac gg_2 (ac gg_2 (ac (rfl : (List.map (AV.int .u8) r_4.1.Bytes) = List.map (AV.int .u8) r_4.1.Bytes) (ac gg_2 (ac gg_2 (ac gg_3 (ac gg_3 (ac gg_3 (ac gg_4 (ac gg_4 (ac gg_4 (ac (rfl : (List.map (AV.int .u8) r_8.1.Bytes) = List.map (AV.int .u8) r_8.1.Bytes) (ac gg_4 (ac gg_4 (ac gg_5 (ac gg_5 (ac gg_5 (ac gg_6 (ac gg_6 (ac gg_6 (ac (rfl : (List.map (AV.int .u8) r_9.1.Bytes) = List.map (AV.int .u8) r_9.1.Bytes) (ac gg_6 (ac gg_6 (ac gg_7 (ac gg_7 (ac gg_7 (ac gg_8 (ac gg_8 (ac (vc_len _ : ((List.map e_T_api_Value r_10.1)).length = (r_10.1).length) (ac gg_8 (ac gg_8 (ac gg_9 (ac gg_9 (ac gg_9 (ac gg_9 (ac gg_9 (ac gg_9 (ac (rfl : false = !true) (ac (rfl : false = !true) (ac (rfl : false = false) (ac (rfl : false = !true) (ac (rfl : false = !true) (ac (rfl : false = false) (ac (rfl : false = !true) (ac (rfl : false = !true) (ac (rfl : false = !true) (ac (rfl : false = false) (ac (rfl : false = !true) (ac (rfl : false = !true) (ac (rfl : false = !true) (ac (rfl : false = false) an)))))))))))))))))))))))))))))))))))))))))))))))))))))))) ?_
                      replace h := Option.some.inj h; subst h
                      exact ⟨rfl, (sub_wkm [] [] [.s 0] [] (by kernel_rfl) an)⟩
                  · replace h := cond_f gg_8 h
                    refine aw_region [(6, { b := true }), (10, { s := r_4.1.Bytes }), (12, { b := true }), (16, { b := true }), (20, { s := r_8.1.Bytes }), (22, { b := true }), (26, { b := true }), (30, { s := r_9.1.Bytes }), (32, { b := true }), (36, { b := true }), (38, { g := false }), (39, { g := false }), (40, { g := false }), (41, { b := false }), (43, { g := false }), (44, { g := false }), (45, { g := false }), (46, { g := false }), (47, { g := false }), (48, { b := false }), (50, { g := false }), (51, { g := false }), (52, { b := false }), (54, { g := false }), (55, { g := false }), (56, { b := false }), (58, { g := false }), (59, { g := false }), (60, { g := false }), (61, { b := false }), (63, { g := false }), (64, { g := false }), (65, { g := false }), (66, { b := false })] [0] [] 6 (vals := [.bool false]) (bxs := []) (by kernel_rfl) hmix (ac gg_1 (ac gg_1 (ac gg_1 (ac gg_1 (ac gg_2 (ac gg_2 (ac gg_2 (ac (rfl : (List.map (AV.int .u8) r_4.1.Bytes) = List.map (AV.int .u8) r_4.1.Bytes) (ac gg_2 (ac gg_2 (ac gg_3 (ac gg_3 (ac gg_3 (ac gg_4 (ac gg_4 (ac gg_4 (ac (rfl : (List.map (AV.int .u8) r_8.1.Bytes) = List.map (AV.int .u8) r_8.1.Bytes) (ac gg_4 (ac gg_4 (ac gg_5 (ac gg_5 (ac gg_5 (ac gg_6 (ac gg_6 (ac gg_6 (ac (rfl : (List.map (AV.int .u8) r_9.1.Bytes) = List.map (AV.int .u8) r_9.1.Bytes) (ac gg_6 (ac gg_6 (ac gg_7 (ac gg_7 (ac gg_7 (ac gg_8 (ac gg_8 (ac gg_8 (ac gg_8 (ac (rfl : false = !true) (ac (rfl : false = !true) (ac (rfl : false = !true) (ac (rfl : false = !true) (ac (rfl : false = !true) (ac (rfl : false = false) (ac (rfl : false = !true) (ac (rfl : false = !true) (ac (rfl : false = false) (ac (rfl : false = !true) (ac (rfl : false = !true) (ac (rfl : false = false) (ac (rfl : false = !true) (ac (rfl : false = !true) (ac (rfl : false = !true) (ac (rfl : false = false) (ac (rfl : false = !true) (ac (rfl : false = !true) (ac (rfl : false = !true) (ac (rfl : false = false) an))))))))))))))))))))))))))))))))))))))))))))))))))))))) ?_
                    replace h := Option.some.inj h; subst h
                    exact ⟨rfl, (sub_wkm [] [] [.s 0] [] (by kernel_rfl) an)⟩
                · replace h := cond_f gg_7 h
                  refine aw_region [(6, { b := true }), (10, { s := r_4.1.Bytes }), (12, { b := true }), (16, { b := true }), (20, { s := r_8.1.Bytes }), (22, { b := true }), (26, { b := true }), (30, { s := r_9.1.Bytes }), (32, { b := true }), (34, { g := false }), (35, { g := false }), (36, { b := false }), (38, { g := false }), (39, { g := false }), (40, { g := false }), (41, { b := false }), (43, { g := false }), (44, { g := false }), (45, { g := false }), (46, { g := false }), (47, { g := false }), (48, { b := false }), (50, { g := false }), (51, { g := false }), (52, { b := false }), (54, { g := false }), (55, { g := false }), (56, { b := false }), (58, { g := false }), (59, { g := false }), (60, { g := false }), (61, { b := false }), (63, { g := false }), (64, { g := false }), (65, { g := false }), (66, { b := false })] [0] [] 6 (vals := [.bool false]) (bxs := []) (by kernel_rfl) hmix (ac gg_1 (ac gg_1 (ac gg_1 (ac gg_1 (ac gg_2 (ac gg_2 (ac gg_2 (ac (rfl : (List.map (AV.int .u8) r_4.1.Bytes) = List.map (AV.int .u8) r_4.1.Bytes) (ac gg_2 (ac gg_2 (ac gg_3 (ac gg_3 (ac gg_3 (ac gg_4 (ac gg_4 (ac gg_4 (ac (rfl : (List.map (AV.int .u8) r_8.1.Bytes) = List.map (AV.int .u8) r_8.1.Bytes) (ac gg_4 (ac gg_4 (ac gg_5 (ac gg_5 (ac gg_5 (ac gg_6 (ac gg_6 (ac gg_6 (ac (rfl : (List.map (AV.int .u8) r_9.1.Bytes) = List.map (AV.int .u8) r_9.1.Bytes) (ac gg_6 (ac gg_6 (ac gg_7 (ac gg_7 (ac gg_7 (ac (rfl : false = !true) (ac (rfl : false = !true) (ac (rfl : false = !true) (ac (rfl : false = false) (ac (rfl : false = !true) (ac (rfl : false = !true) (ac (rfl : false = !true) (ac (rfl : false = !true) (ac (rfl : false = !true) (ac (rfl : false = false) (ac (rfl : false = !true) (ac (rfl : false = !true) (ac (rfl : false = false) (ac (rfl : false = !true) (ac (rfl : false = !true) (ac (rfl : false = false) (ac (rfl : false = !true) (ac (rfl : false = !true) (ac (rfl : false = !true) (ac (rfl : false = false) (ac (rfl : false = !true) (ac (rfl : false = !true) (ac (rfl : false = !true) (ac (rfl : false = false) an))))))))))))))))))))))))))))))))))))))))))))))))))))))) ?_
                  replace h := Option.some.inj h; subst h
                  exact ⟨rfl, (sub_wkm [] [] [.s 0] [] (by kernel_rfl) an)⟩
              · replace h := cond_f gg_6 h
                refine aw_region [(6, { b := true }), (10, { s := r_4.1.Bytes }), (12, { b := true }), (16, { b := true }), (20, { s := r_8.1.Bytes }), (22, { b := true }), (26, { b := true }), (28, { g := false }), (29, { g := false }), (30, { g := false }), (31, { g := false }), (32, { b := false }), (34, { g := false }), (35, { g := false }), (36, { b := false }), (38, { g := false }), (39, { g := false }), (40, { g := false }), (41, { b := false }), (43, { g := false }), (44, { g := false }), (45, { g := false }), (46, { g := false }), (47, { g := false }), (48, { b := false }), (50, { g := false }), (51, { g := false }), (52, { b := false }), (54, { g := false }), (55, { g := false }), (56, { b := false }), (58, { g := false }), (59, { g := false }), (60, { g := false }), (61, { b := false }), (63, { g := false }), (64, { g := false }), (65, { g := false }), (66, { b := false })] [0] [] 6 (vals := [.bool false]) (bxs := []) (by kernel_rfl) hmix (ac gg_1 (ac gg_1 (ac gg_1 (ac gg_1 (ac gg_2 (ac gg_2 (ac gg_2 (ac (rfl : (List.map (AV.int .u8) r_4.1.Bytes) = List.map (AV.int .u8) r_4.1.Bytes) (ac gg_2 (ac gg_2 (ac gg_3 (ac gg_3 (ac gg_3 (ac gg_4 (ac gg_4 (ac gg_4 (ac (rfl : (List.map (AV.int .u8) r_8.1.Bytes) = List.map (AV.int .u8) r_8.1.Bytes) (ac gg_4 (ac gg_4 (ac gg_5 (ac gg_5 (ac gg_5 (ac gg_6 (ac gg_6 (ac gg_6 (ac gg_6 (ac gg_6 (ac (rfl : false = !true) (ac (rfl : false = !true) (ac (rfl : false = false) (ac (rfl : false = !true) (ac (rfl : false = !true) (ac (rfl : false = !true) (ac (rfl : false = false) (ac (rfl : false = !true) (ac (rfl : false = !true) (ac (rfl : false = !true) (ac (rfl : false = !true) (ac (rfl : false = !true) (ac (rfl : false = false) (ac (rfl : false = !true) (ac (rfl : false = !true) (ac (rfl : false = false) (ac (rfl : false = !true) (ac (rfl : false = !true) (ac (rfl : false = false) (ac (rfl : false = !true) (ac (rfl : false = !true) (ac (rfl : false = !true) (ac (rfl : false = false) (ac (rfl : false = !true) (ac (rfl : false = !true) (ac (rfl : false = !true) (ac (rfl : false = false) an)))))))))))))))))))))))))))))))))))))))))))))))))))))) ?_
                replace h := Option.some.inj h; subst h
                exact ⟨rfl, (sub_wkm [] [] [.s 0] [] (by kernel_rfl) an)⟩
            · replace h := cond_f gg_5 h
              refine aw_region [(6, { b := true }), (10, { s := r_4.1.Bytes }), (12, { b := true }), (16, { b := true }), (20, { s := r_8.1.Bytes }), (22, { b := true }), (24, { g := false }), (25, { g := false }), (26, { b := false }), (28, { g := false }), (29, { g := false }), (30, { g := false }), (31, { g := false }), (32, { b := false }), (34, { g := false }), (35, { g := false }), (36, { b := false }), (38, { g := false }), (39, { g := false }), (40, { g := false }), (41, { b := false }), (43, { g := false }), (44, { g := false }), (45, { g := false }), (46, { g := false }), (47, { g := false }), (48, { b := false }), (50, { g := false }), (51, { g := false }), (52, { b := false }), (54, { g := false }), (55, { g := false }), (56, { b := false }), (58, { g := false }), (59, { g := false }), (60, { g := false }), (61, { b := false }), (63, { g := false }), (64, { g := false }), (65, { g := false }), (66, { b := false })] [0] [] 6 (vals := [.bool false]) (bxs := []) (by kernel_rfl) hmix (ac gg_1 (ac gg_1 (ac gg_1 (ac gg_1 (ac gg_2 (ac gg_2 (ac gg_2 (ac (rfl : (List.map (AV.int .u8) r_4.1.Bytes) = List.map (AV.int .u8) r_4.1.Bytes) (ac gg_2 (ac gg_2 (ac gg_3 (ac gg_3 (ac gg_3 (ac gg_4 (ac gg_4 (ac gg_4 (ac (rfl : (List.map (AV.int .u8) r_8.1.Bytes) = List.map (AV.int .u8) r_8.1.Bytes) (ac gg_4 (ac gg_4 (ac gg_5 (ac gg_5 (ac gg_5 (ac (rfl : false = !true) (ac (rfl : false = !true) (ac (rfl : false = !true) (ac (rfl : false = !true) (ac (rfl : false = false) (ac (rfl : false = !true) (ac (rfl : false = !true) (ac (rfl : false = false) (ac (rfl : false = !true) (ac (rfl : false = !true) (ac (rfl : false = !true) (ac (rfl : false = false) (ac (rfl : false = !true) (ac (rfl : false = !true) (ac (rfl : false = !true) (ac (rfl : false = !true) (ac (rfl : false = !true) (ac (rfl : false = false) (ac (rfl : false = !true) (ac (rfl : false = !true) (ac (rfl : false = false) (ac (rfl : false = !true) (ac (rfl : false = !true) (ac (rfl : false = false) (ac (rfl : false = !true) (ac (rfl : false = !true) (ac (rfl : false = !true) (ac (rfl : false = false) (ac (rfl : false = !true) (ac (rfl : false = !true) (ac (rfl : false = !true) (ac (rfl : false = false) an)))))))))))))))))))))))))))))))))))))))))))))))))))))) ?_
              replace h := Option.some.inj h; subst h
              exact ⟨rfl, (sub_wkm [] [] [.s 0] [] (by kernel_rfl) an)⟩
          · replace h := cond_f gg_4 h
            refine aw_region [(6, { b := true }), (10, { s := r_4.1.Bytes }), (12, { b := true }), (16, { b := true }), (18, { g := false }), (19, { g := false }), (20, { g := false }), (21, { g := false }), (22, { b := false }), (24, { g := false }), (25, { g := false }), (26, { b := false }), (28, { g := false }), (29, { g := false }), (30, { g := false }), (31, { g := false }), (32, { b := false }), (34, { g := false }), (35, { g := false }), (36, { b := false }), (38, { g := false }), (39, { g := false }), (40, { g := false }), (41, { b := false }), (43, { g := false }), (44, { g := false }), (45, { g := false }), (46, { g := false }), (47, { g := false }), (48, { b := false }), (50, { g := false }), (51, { g := false }), (52, { b := false }), (54, { g := false }), (55, { g := false }), (56, { b := false }), (58, { g := false }), (59, { g := false }), (60, { g := false }), (61, { b := false }), (63, { g := false }), (64, { g := false }), (65, { g := false }), (66, { b := false })] [0] [] 6 (vals := [.bool false]) (bxs := []) (by kernel_rfl) hmix (ac gg_1 (ac gg_1 (ac gg_1 (ac gg_1 (ac gg_2 (ac gg_2 (ac gg_2 (ac (rfl : (List.map (AV.int .u8) r_4.1.Bytes) = List.map (AV.int .u8) r_4.1.Bytes) (ac gg_2 (ac gg_2 (ac gg_3 (ac gg_3 (ac gg_3 (ac gg_4 (ac gg_4 (ac gg_4 (ac gg_4 (ac gg_4 (ac (rfl : false = !true) (ac (rfl : false = !true) (ac (rfl : false = false) (ac (rfl : false = !true) (ac (rfl : false = !true) (ac (rfl : false = !true) (ac (rfl : false = !true) (ac (rfl : false = false) (ac (rfl : false = !true) (ac (rfl : false = !true) (ac (rfl : false = false) (ac (rfl : false = !true) (ac (rfl : false = !true) (ac (rfl : false = !true) (ac (rfl : false = false) (ac (rfl : false = !true) (ac (rfl : false = !true) (ac (rfl : false = !true) (ac (rfl : false = !true) (ac (rfl : false = !true) (ac (rfl : false = false) (ac (rfl : false = !true) (ac (rfl : false = !true) (ac (rfl : false = false) (ac (rfl : false = !true) (ac (rfl : false = !true) (ac (rfl : false = false) (ac (rfl : false = !true) (ac (rfl : false = !true) (ac (rfl : false = !true) (ac (rfl : false = false) (ac (rfl : false = !true) (ac (rfl : false = !true) (ac (rfl : false = !true) (ac (rfl : false = false) an))))))))))))))))))))))))))))))))))))))))))))))))))))) ?_
            replace h := Option.some.inj h; subst h
            exact ⟨rfl, (sub_wkm [] [] [.s 0] [] (by kernel_rfl) an)⟩
        · replace h := cond_f gg_3 h
          refine aw_region [(6, { b := true }), (10, { s := r_4.1.Bytes }), (12, { b := true }), (14, { g := false }), (15, { g := false }), (16, { b := false }), (18, { g := false }), (19, { g := false }), (20, { g := false }), (21, { g := false }), (22, { b := false }), (24, { g := false }), (25, { g := false }), (26, { b := false }), (28, { g := false }), (29, { g := false }), (30, { g := false }), (31, { g := false }), (32, { b := false }), (34, { g := false }), (35, { g := false }), (36, { b := false }), (38, { g := false }), (39, { g := false }), (40, { g := false }), (41, { b := false }), (43, { g := false }), (44, { g := false }), (45, { g := false }), (46, { g := false }), (47, { g := false }), (48, { b := false }), (50, { g := false }), (51, { g := false }), (52, { b := false }), (54, { g := false }), (55, { g := false }), (56, { b := false }), (58, { g := false }), (59, { g := false }), (60, { g := false }), (61, { b := false }), (63, { g := false }), (64, { g := false }), (65, { g := false }), (66, { b := false })] [0] [] 6 (vals := [.bool false]) (bxs := []) (by kernel_rfl) hmix (ac gg_1 (ac gg_1 (ac gg_1 (ac gg_1 (ac gg_2 (ac gg_2 (ac gg_2 (ac (rfl : (List.map (AV.int .u8) r_4.1.Bytes) = List.map (AV.int .u8) r_4.1.Bytes) (ac gg_2 (ac gg_2 (ac gg_3 (ac gg_3 (ac gg_3 (ac (rfl : false = !true) (ac (rfl : false = !true) (ac (rfl : false = !true) (ac (rfl : false = !true) (ac (rfl : false = false) (ac (rfl : false = !true) (ac (rfl : false = !true) (ac (rfl : false = false) (ac (rfl : false = !true) (ac (rfl : false = !true) (ac (rfl : false = !true) (ac (rfl : false = !true) (ac (rfl : false = false) (ac (rfl : false = !true) (ac (rfl : false = !true) (ac (rfl : false = false) (ac (rfl : false = !true) (ac (rfl : false = !true) (ac (rfl : false = !true) (ac (rfl : false = false) (ac (rfl : false = !true) (ac (rfl : false = !true) (ac (rfl : false = !true) (ac (rfl : false = !true) (ac (rfl : false = !true) (ac (rfl : false = false) (ac (rfl : false = !true) (ac (rfl : false = !true) (ac (rfl : false = false) (ac (rfl : false = !true) (ac (rfl : false = !true) (ac (rfl : false = false) (ac (rfl : false = !true) (ac (rfl : false = !true) (ac (rfl : false = !true) (ac (rfl : false = false) (ac (rfl : false = !true) (ac (rfl : false = !true) (ac (rfl : false = !true) (ac (rfl : false = false) an))))))))))))))))))))))))))))))))))))))))))))))))))))) ?_
          replace h := Option.some.inj h; subst h
          exact ⟨rfl, (sub_wkm [] [] [.s 0] [] (by kernel_rfl) an)⟩
      · replace h := cond_f gg_2 h
        refine aw_region [(6, { b := true }), (8, { g := false }), (9, { g := false }), (10, { g := false }), (11, { g := false }), (12, { b := false }), (14, { g := false }), (15, { g := false }), (16, { b := false }), (18, { g := false }), (19, { g := false }), (20, { g := false }), (21, { g := false }), (22, { b := false }), (24, { g := false }), (25, { g := false }), (26, { b := false }), (28, { g := false }), (29, { g := false }), (30, { g := false }), (31, { g := false }), (32, { b := false }), (34, { g := false }), (35, { g := false }), (36, { b := false }), (38, { g := false }), (39, { g := false }), (40, { g := false }), (41, { b := false }), (43, { g := false }), (44, { g := false }), (45, { g := false }), (46, { g := false }), (47, { g := false }), (48, { b := false }), (50, { g := false }), (51, { g := false }), (52, { b := false }), (54, { g := false }), (55, { g := false }), (56, { b := false }), (58, { g := false }), (59, { g := false }), (60, { g := false }), (61, { b := false }), (63, { g := false }), (64, { g := false }), (65, { g := false }), (66, { b := false })] [0] [] 6 (vals := [.bool false]) (bxs := []) (by kernel_rfl) hmix (ac gg_1 (ac gg_1 (ac gg_1 (ac gg_1 (ac gg_2 (ac gg_2 (ac gg_2 (ac gg_2 (ac gg_2 (ac (rfl : false = !true) (ac (rfl : false = !true) (ac (rfl : false = false) (ac (rfl : false = !true) (ac (rfl : false = !true) (ac (rfl : false = !true) (ac (rfl : false = !true) (ac (rfl : false = false) (ac (rfl : false = !true) (ac (rfl : false = !true) (ac (rfl : false = false) (ac (rfl : false = !true) (ac (rfl : false = !true) (ac (rfl : false = !true) (ac (rfl : false = !true) (ac (rfl : false = false) (ac (rfl : false = !true) (ac (rfl : false = !true) (ac (rfl : false = false) (ac (rfl : false = !true) (ac (rfl : false = !true) (ac (rfl : false = !true) (ac (rfl : false = false) (ac (rfl : false = !true) (ac (rfl : false = !true) (ac (rfl : false = !true) (ac (rfl : false = !true) (ac (rfl : false = !true) (ac (rfl : false = false) (ac (rfl : false = !true) (ac (rfl : false = !true) (ac (rfl : false = false) (ac (rfl : false = !true) (ac (rfl : false = !true) (ac (rfl : false = false) (ac (rfl : false = !true) (ac (rfl : false = !true) (ac (rfl : false = !true) (ac (rfl : false = false) (ac (rfl : false = !true) (ac (rfl : false = !true) (ac (rfl : false = !true) (ac (rfl : false = false) an)))))))))))))))))))))))))))))))))))))))))))))))))))) ?_
        replace h := Option.some.inj h; subst h
        exact ⟨rfl, (sub_wkm [] [] [.s 0] [] (by kernel_rfl) an)⟩
    · replace h := cond_f gg_1 h
      refine aw_region [(3, { g := false }), (4, { g := false }), (5, { g := false }), (6, { b := false }), (8, { g := false }), (9, { g := false }), (10, { g := false }), (11, { g := false }), (12, { b := false }), (14, { g := false }), (15, { g := false }), (16, { b := false }), (18, { g := false }), (19, { g := false }), (20, { g := false }), (21, { g := false }), (22, { b := false }), (24, { g := false }), (25, { g := false }), (26, { b := false }), (28, { g := false }), (29, { g := false }), (30, { g := false }), (31, { g := false }), (32, { b := false }), (34, { g := false }), (35, { g := false }), (36, { b := false }), (38, { g := false }), (39, { g := false }), (40, { g := false }), (41, { b := false }), (43, { g := false }), (44, { g := false }), (45, { g := false }), (46, { g := false }), (47, { g := false }), (48, { b := false }), (50, { g := false }), (51, { g := false }), (52, { b := false }), (54, { g := false }), (55, { g := false }), (56, { b := false }), (58, { g := false }), (59, { g := false }), (60, { g := false }), (61, { b := false }), (63, { g := false }), (64, { g := false }), (65, { g := false }), (66, { b := false })] [0] [] 6 (vals := [.bool false]) (bxs := []) (by kernel_rfl) hmix (ac gg_1 (ac gg_1 (ac gg_1 (ac gg_1 (ac (rfl : false = !true) (ac (rfl : false = !true) (ac (rfl : false = !true) (ac (rfl : false = !true) (ac (rfl : false = false) (ac (rfl : false = !true) (ac (rfl : false = !true) (ac (rfl : false = false) (ac (rfl : false = !true) (ac (rfl : false = !true) (ac (rfl : false = !true) (ac (rfl : false = !true) (ac (rfl : false = false) (ac (rfl : false = !true) (ac (rfl : false = !true) (ac (rfl : false = false) (ac (rfl : false = !true) (ac (rfl : false = !true) (ac (rfl : false = !true) (ac (rfl : false = !true) (ac (rfl : false = false) (ac (rfl : false = !true) (ac (rfl : false = !true) (ac (rfl : false = false) (ac (rfl : false = !true) (ac (rfl : false = !true) (ac (rfl : false = !true) (ac (rfl : false = false) (ac (rfl : false = !true) (ac (rfl : false = !true) (ac (rfl : false = !true) (ac (rfl : false = !true) (ac (rfl : false = !true) (ac (rfl : false = false) (ac (rfl : false = !true) (ac (rfl : false = !true) (ac (rfl : false = false) (ac (rfl : false = !true) (ac (rfl : false = !true) (ac (rfl : false = false) (ac (rfl : false = !true) (ac (rfl : false = !true) (ac (rfl : false = !true) (ac (rfl : false = false) (ac (rfl : false = !true) (ac (rfl : false = !true) (ac (rfl : false = !true) (ac (rfl : false = false) an)))))))))))))))))))))))))))))))))))))))))))))))))))) ?_
      replace h := Option.some.inj h; subst h
      exact ⟨rfl, (sub_wkm [] [] [.s 0] [] (by kernel_rfl) an)⟩
  refine aw_ret (by kernel_rfl) ?_
  replace h := Option.some.inj h; subst h
  exact ⟨.inr rfl, Nat.le_of_ble_eq_true rfl, by kernel_rfl⟩

theorem L33_few_ok (F : Nat) (l_1 : List (T_api_Value)) (r : Bool) (h : L33_few F l_1 = some r) : TripleG prog 11 [] [] [.sl false 3 (List.map e_T_api_Value l_1)] [] (.bool r) := by
  refine triple_intro (fn := Go.Proofs.Try.f11) (code := codeOf Go.Proofs.Try.f11) (by kernel_rfl) (by kernel_rfl) (Nat.le_of_ble_eq_true (by kernel_rfl)) ?_
  unfold L33_few at h
  refine aw_seq (by kernel_rfl) ?_
  refine aw_region [] [0] [] 0 (vals := [.sl false 3 (List.map e_T_api_Value l_1)]) (bxs := []) (by kernel_rfl) hmix an ?_
  refine aw_seq (by kernel_rfl) ?_
  refine aw_seq (by kernel_rfl) ?_
  refine aw_region [(1, { n := (l_1).length })] [0, 6] [] 0 (vals := [.sl false 3 (List.map e_T_api_Value l_1), .bool (decide ((((l_1).length : Nat) : Int) > (60 : Int)))]) (bxs := []) (by kernel_rfl) hmix (ac (vc_len _ : ((List.map e_T_api_Value l_1)).length = (l_1).length) an) ?_
  refine aw_cond (t := 6) (b := (decide ((((l_1).length : Nat) : Int) > (60 : Int)))) (by kernel_rfl) (by kernel_rfl) ?_ ?_
  · intro g_1; replace h := cond_t g_1 h
    refine aw_seq (by kernel_rfl) ?_
    refine aw_region [] [2] [] 0 (vals := [.bool false]) (bxs := []) (by kernel_rfl) hmix an ?_
    refine aw_ret (by kernel_rfl) ?_
    replace h := Option.some.inj h; subst h
    exact ⟨.inr rfl, Nat.le_of_ble_eq_true rfl, by kernel_rfl⟩
  intro g_1; replace h := cond_f g_1 h
  refine aw_skip (by kernel_rfl) ?_
  refine aw_seq (by kernel_rfl) ?_
  refine aw_seq (by kernel_rfl) ?_
  refine aw_region [] [0, 3] [] 0 (vals := [.sl false 3 (List.map e_T_api_Value l_1), .int .i64 (0 : Int)]) (bxs := []) (by kernel_rfl) hmix an ?_
  obtain ⟨o_1, h_1, h⟩ := bind_some h
  refine aw_conv (K1 := (fun e st' => match o_1 with | (.inl q0) => e = .normal ∧ Sub 0 st' (mk [] [] 0) | (.inr q1) => e = .ret ∧ FinR prog Go.Proofs.Try.f11 0 [] (.bool q1) st')) ?_ ?_
  · replace h := h_1
    refine aw_block (id := 0) (by kernel_rfl) ?_
    refine aw_sub (sub_wkm [] [] [.s 0, .s 3] [] (sl2 := [(0, .sl false 3 (List.map e_T_api_Value l_1)), (3, .int .i64 (0 : Int))]) (bx2 := []) (by kernel_rfl) an) ?_
    refine aw_loopF (fun n st => ∃ (i_1 : Int), st = mk [(0, .sl false 3 (List.map e_T_api_Value l_1)), (3, .int .i64 i_1)] [] 0 ∧ L33_few_L1 F l_1 n i_1 = some o_1) F (by kernel_rfl) ⟨_, rfl, h⟩ ?_ ?_
    · rintro _ ⟨_, _, h⟩; exact none_ne (h : (none : Option (Unit ⊕ Bool)) = some o_1)
    rintro n_1 _ ⟨i_1, rfl, h⟩
    replace h : L33_few_L1_body F l_1 (L33_few_L1 F l_1 n_1) i_1 = some o_1 := h
    unfold L33_few_L1_body at h
    refine aw_seq (by kernel_rfl) ?_
    refine aw_seq (by kernel_rfl) ?_
    refine aw_region [(2, { n := (l_1).length })] [0, 3, 10] [] 0 (vals := [.sl false 3 (List.map e_T_api_Value l_1), .int .i64 i_1, .bool (decide (i_1 < (((l_1).length : Nat) : Int)))]) (bxs := []) (by kernel_rfl) hmix (ac (vc_len _ : ((List.map e_T_api_Value l_1)).length = (l_1).length) an) ?_
    refine aw_cond (t := 10) (b := (decide (i_1 < (((l_1).length : Nat) : Int)))) (by kernel_rfl) (by kernel_rfl) ?_ ?_
    rotate_left
    · intro g_2; replace h := cond_f g_2 h
      refine aw_exit (id := 0) (by kernel_rfl) ?_
      replace h := Option.some.inj h; subst h
      exact ⟨rfl, (sub_wkm [] [] [] [] (by kernel_rfl) an)⟩
    intro g_2; replace h := cond_t g_2 h
    refine aw_skip (by kernel_rfl) ?_
    refine aw_seq (by kernel_rfl) ?_
    refine aw_block (id := 1) (by kernel_rfl) ?_
    refine aw_seq (by kernel_rfl) ?_
    obtain ⟨x_1, h_2, h⟩ := bind_some h
    refine aw_region [(2, { av := e_T_api_Value x_1 })] [0, 3, 19] [] 0 (vals := [.sl false 3 (List.map e_T_api_Value l_1), .int .i64 i_1, .bool (decide ((((x_1.S).length : Nat) : Int) > (300 : Int)))]) (bxs := []) (by kernel_rfl) hmix (ac (vc_idx h_2 : idxA (List.map e_T_api_Value l_1) i_1 = some (e_T_api_Value x_1)) an) ?_
    refine aw_cond (t := 19) (b := (decide ((((x_1.S).length : Nat) : Int) > (300 : Int)))) (by kernel_rfl) (by kernel_rfl) ?_ ?_
    rotate_left
    · intro g_3; replace h := cond_f g_3 h
      refine aw_skip (by kernel_rfl) ?_
      refine aw_region [] [0, 3] [] 0 (vals := [.sl false 3 (List.map e_T_api_Value l_1), .int .i64 (w_i64 (i_1 + (1 : Int)))]) (bxs := []) (by kernel_rfl) hmix an ?_
      exact ⟨_, (sub_wkm [] [] [.s 0, .s 3] [] (by kernel_rfl) an), _, rfl, h⟩
    intro g_3; replace h := cond_t g_3 h
    refine aw_seq (by kernel_rfl) ?_
    refine aw_region [] [2] [] 0 (vals := [.bool false]) (bxs := []) (by kernel_rfl) hmix an ?_
    refine aw_ret (by kernel_rfl) ?_
    replace h := Option.some.inj h; subst h
    exact ⟨rfl, Nat.le_of_ble_eq_true rfl, by kernel_rfl⟩
  intro e st1 hk
  rcases o_1 with q_1 | q_2
  rotate_left
  · obtain ⟨rfl, hf⟩ := hk
    replace h := Option.some.inj h; subst h
    exact ⟨st1, Sub.refl _ _, .inr rfl, hf⟩
  obtain ⟨rfl, hs⟩ := hk
  refine ⟨_, hs, ?_⟩
  refine aw_seq (by kernel_rfl) ?_
  refine aw_region [] [2] [] 0 (vals := [.bool true]) (bxs := []) (by kernel_rfl) hmix an ?_
  refine aw_ret (by kernel_rfl) ?_
  replace h := Option.some.inj h; subst h
  exact ⟨.inr rfl, Nat.le_of_ble_eq_true rfl, by kernel_rfl⟩

theorem R05_number_ok (n_1 : Int) (r : Int) (h : R05_number n_1 = some r) : TripleG prog 49 [] [] [.int .i64 n_1] [] (.int .u64 r) := by
  refine triple_intro (fn := Go.Proofs.Try.f49) (code := codeOf Go.Proofs.Try.f49) (by kernel_rfl) (by kernel_rfl) (Nat.le_of_ble_eq_true (by kernel_rfl)) ?_
  unfold R05_number at h
  refine aw_seq (by kernel_rfl) ?_
  refine aw_region [] [0] [] 0 (vals := [.int .i64 n_1]) (bxs := []) (by kernel_rfl) hmix an ?_
  refine aw_seq (by kernel_rfl) ?_
  refine aw_seq (by kernel_rfl) ?_
  refine aw_region [] [0, 4] [] 0 (vals := [.int .i64 n_1, .bool (decide (n_1 < (0 : Int)))]) (bxs := []) (by kernel_rfl) hmix an ?_
  refine aw_cond (t := 4) (b := (decide (n_1 < (0 : Int)))) (by kernel_rfl) (by kernel_rfl) ?_ ?_
  · intro g_1; replace h := cond_t g_1 h
    refine aw_seq (by kernel_rfl) ?_
    refine aw_region [] [2] [] 0 (vals := [.int .u64 (w_u64 ((w_u64 ((2 : Int) * (w_u64 (w_i64 (0 - (w_i64 (n_1 + (1 : Int)))))))) + (1 : Int)))]) (bxs := []) (by kernel_rfl) hmix an ?_
    refine aw_ret (by kernel_rfl) ?_
    replace h := Option.some.inj h; subst h
    exact ⟨.inr rfl, Nat.le_of_ble_eq_true rfl, by kernel_rfl⟩
  intro g_1; replace h := cond_f g_1 h
  refine aw_skip (by kernel_rfl) ?_
  refine aw_seq (by kernel_rfl) ?_
  refine aw_region [] [2] [] 0 (vals := [.int .u64 (w_u64 ((2 : Int) * (w_u64 n_1)))]) (bxs := []) (by kernel_rfl) hmix an ?_
  refine aw_ret (by kernel_rfl) ?_
  replace h := Option.some.inj h; subst h
  exact ⟨.inr rfl, Nat.le_of_ble_eq_true rfl, by kernel_rfl⟩

theorem R05_PutInt_ok (F : Nat) (b_1 : List (Int)) (n_1 : Int) (r : (List (Int))) (h : R05_PutInt F b_1 n_1 = some r) : TripleG prog 38 [] [] [.sl false 1 (List.map (AV.int .u8) b_1), .int .i64 n_1] [.row 5 1 (List.map (AV.int .u8) r)] (.own 0 ((r).length)) := by
  refine triple_intro (fn := Go.Proofs.Try.f38) (code := codeOf Go.Proofs.Try.f38) (by kernel_rfl) (by kernel_rfl) (Nat.le_of_ble_eq_true (by kernel_rfl)) ?_
  unfold R05_PutInt at h
  refine aw_seq (by kernel_rfl) ?_
  refine aw_region [(0, { id := 0, m := 1 })] [0, 1] [] 1 (vals := [.sl false 1 (List.map (AV.int .u8) b_1), .int .i64 n_1]) (bxs := []) (by kernel_rfl) hmix an ?_
  refine aw_seq (by kernel_rfl) ?_
  obtain ⟨_, h_1, h⟩ := bind_some h; replace h_1 := need_some h_1
  refine aw_region [(0, { id := 1 }), (2, { id := 2, l := (List.map (AV.int .u8) ([] ++ b_1)), n := (([] ++ b_1)).length })] [1, 5] [2] 3 (vals := [.int .i64 n_1, .own 2 ((([] ++ b_1)).length)]) (bxs := [.live (.row 5 1 (List.map (AV.int .u8) ([] ++ b_1)))]) (by kernel_rfl) hmix (ac (by first | (simp; done) | (simp; omega) : 0 = (([] : List AV)).length) (ac (trivial : True) (ac (by simp : (List.map (AV.int .u8) ([] ++ b_1)) = [] ++ (List.map (AV.int .u8) b_1)) (ac (by simp : (([] ++ b_1)).length = ((List.map (AV.int .u8) ([] ++ b_1))).length) (ac (by first | (simp; done) | simpa using h_1 : (([] : List AV).length + ((List.map (AV.int .u8) b_1) : List AV).length) * 1 ≤ 140737488355328) an))))) ?_
  refine aw_seq (by kernel_rfl) ?_
  obtain ⟨r_1, h_2, h⟩ := bind_some h
  refine aw_region [(1, { av := .int .u64 r_1, l := [.int .i64 n_1] })] [5, 6] [2] 3 (vals := [.own 2 ((([] ++ b_1)).length), .int .u64 r_1]) (bxs := [.live (.row 5 1 (List.map (AV.int .u8) ([] ++ b_1)))]) (by kernel_rfl) hmix (ac (rfl : ([.int .i64 n_1] : List AV) = [.int .i64 n_1]) (ac (rfl : ([] : List BoxSt) = []) (ac (R05_number_ok n_1 r_1 h_2 : TripleG prog 49 [] [] [.int .i64 n_1] [] (.int .u64 r_1)) an))) ?_
  refine aw_seq (by kernel_rfl) ?_
  obtain ⟨o_1, h_3, h⟩ := bind_some h
  refine aw_mid (mk [(5, .own 0 ((o_1.2).length)), (6, .int .u64 o_1.1)] [(0, .live (.row 5 1 (List.map (AV.int .u8) o_1.2)))] 1) ?_ ?_
  · replace h := h_3
    refine aw_block (id := 0) (by kernel_rfl) ?_
    refine aw_sub (sub_wkm [2] [] [.s 5, .s 6] [.s 0] (sl2 := [(5, .own 0 ((([] ++ b_1)).length)), (6, .int .u64 r_1)]) (bx2 := [(0, .live (.row 5 1 (List.map (AV.int .u8) ([] ++ b_1))))]) (by kernel_rfl) an) ?_
    refine aw_loopF (fun n st => ∃ (u_1 : Int), ∃ (row_1 : List Int), st = mk [(5, .own 0 ((row_1).length)), (6, .int .u64 u_1)] [(0, .live (.row 5 1 (List.map (AV.int .u8) row_1)))] 1 ∧ R05_PutInt_L1 F n u_1 row_1 = some o_1) F (by kernel_rfl) ⟨_, _, rfl, h⟩ ?_ ?_
    · rintro _ ⟨_, _, _, h⟩; exact none_ne (h : (none : Option (Int × (List Int))) = some o_1)
    rintro n_2 _ ⟨u_1, row_1, rfl, h⟩
    replace h : R05_PutInt_L1_body F (R05_PutInt_L1 F n_2) u_1 row_1 = some o_1 := h
    unfold R05_PutInt_L1_body at h
    refine aw_seq (by kernel_rfl) ?_
    refine aw_seq (by kernel_rfl) ?_
    refine aw_region [] [5, 6, 13] [0] 1 (vals := [.own 0 ((row_1).length), .int .u64 u_1, .bool (decide (u_1 ≥ (128 : Int)))]) (bxs := [.live (.row 5 1 (List.map (AV.int .u8) row_1))]) (by kernel_rfl) hmix an ?_
    refine aw_cond (t := 13) (b := (decide (u_1 ≥ (128 : Int)))) (by kernel_rfl) (by kernel_rfl) ?_ ?_
    rotate_left
    · intro g_1; replace h := cond_f g_1 h
      refine aw_exit (id := 0) (by kernel_rfl) ?_
      replace h := Option.some.inj h; subst h
      exact ⟨rfl, (sub_wkm [0] [] [.s 5, .s 6] [.s 0] (by kernel_rfl) an)⟩
    intro g_1; replace h := cond_t g_1 h
    refine aw_skip (by kernel_rfl) ?_
    refine aw_block (id := 1) (by kernel_rfl) ?_
    refine aw_seq (by kernel_rfl) ?_
    obtain ⟨_, h_4, h⟩ := bind_some h; replace h_4 := need_some h_4
    refine aw_region [(5, { id := 1 }), (6, { id := 2, l := (List.map (AV.int .u8) (row_1 ++ ([w_u8 ((w_u8 (irem u_1 (128 : Int))) + (128 : Int))] : List Int))), n := ((row_1 ++ ([w_u8 ((w_u8 (irem u_1 (128 : Int))) + (128 : Int))] : List Int))).length })] [5, 6] [2] 3 (vals := [.own 2 (((row_1 ++ ([w_u8 ((w_u8 (irem u_1 (128 : Int))) + (128 : Int))] : List Int))).length), .int .u64 u_1]) (bxs := [.live (.row 5 1 (List.map (AV.int .u8) (row_1 ++ ([w_u8 ((w_u8 (irem u_1 (128 : Int))) + (128 : Int))] : List Int))))]) (by kernel_rfl) hmix (ac (by decide : (128 : Int) ≠ (0 : Int)) (ac (by first | (simp; done) | (simp; omega) : (row_1).length = ((List.map (AV.int .u8) row_1)).length) (ac (by first | (simp; done) | (simp; omega) : 1 = ((List.map (AV.int .u8) ([w_u8 ((w_u8 (irem u_1 (128 : Int))) + (128 : Int))] : List Int))).length) (ac (vc_app _ _ : (List.map (AV.int .u8) (row_1 ++ ([w_u8 ((w_u8 (irem u_1 (128 : Int))) + (128 : Int))] : List Int))) = (List.map (AV.int .u8) row_1) ++ (List.map (AV.int .u8) ([w_u8 ((w_u8 (irem u_1 (128 : Int))) + (128 : Int))] : List Int))) (ac (by simp : ((row_1 ++ ([w_u8 ((w_u8 (irem u_1 (128 : Int))) + (128 : Int))] : List Int))).length = ((List.map (AV.int .u8) (row_1 ++ ([w_u8 ((w_u8 (irem u_1 (128 : Int))) + (128 : Int))] : List Int)))).length) (ac (by first | (simp; done) | simpa using h_4 : (((List.map (AV.int .u8) row_1) : List AV).length + ((List.map (AV.int .u8) ([w_u8 ((w_u8 (irem u_1 (128 : Int))) + (128 : Int))] : List Int)) : List AV).length) * 1 ≤ 140737488355328) an)))))) ?_
    refine aw_region [] [5, 6] [2] 3 (vals := [.own 2 (((row_1 ++ ([w_u8 ((w_u8 (irem u_1 (128 : Int))) + (128 : Int))] : List Int))).length), .int .u64 (iquo .u64 u_1 (128 : Int))]) (bxs := [.live (.row 5 1 (List.map (AV.int .u8) (row_1 ++ ([w_u8 ((w_u8 (irem u_1 (128 : Int))) + (128 : Int))] : List Int))))]) (by kernel_rfl) hmix (ac (by decide : (128 : Int) ≠ (0 : Int)) an) ?_
    exact ⟨_, (sub_wkm [2] [] [.s 5, .s 6] [.s 0] (by kernel_rfl) an), _, _, rfl, h⟩
  refine aw_seq (by kernel_rfl) ?_
  obtain ⟨_, h_5, h⟩ := bind_some h; replace h_5 := need_some h_5
  refine aw_region [(3, { id := 1 }), (4, { id := 2, l := (List.map (AV.int .u8) (o_1.2 ++ ([w_u8 o_1.1] : List Int))), n := ((o_1.2 ++ ([w_u8 o_1.1] : List Int))).length })] [5] [2] 3 (vals := [.own 2 (((o_1.2 ++ ([w_u8 o_1.1] : List Int))).length)]) (bxs := [.live (.row 5 1 (List.map (AV.int .u8) (o_1.2 ++ ([w_u8 o_1.1] : List Int))))]) (by kernel_rfl) hmix (ac (by first | (simp; done) | (simp; omega) : (o_1.2).length = ((List.map (AV.int .u8) o_1.2)).length) (ac (by first | (simp; done) | (simp; omega) : 1 = ((List.map (AV.int .u8) ([w_u8 o_1.1] : List Int))).length) (ac (vc_app _ _ : (List.map (AV.int .u8) (o_1.2 ++ ([w_u8 o_1.1] : List Int))) = (List.map (AV.int .u8) o_1.2) ++ (List.map (AV.int .u8) ([w_u8 o_1.1] : List Int))) (ac (by simp : ((o_1.2 ++ ([w_u8 o_1.1] : List Int))).length = ((List.map (AV.int .u8) (o_1.2 ++ ([w_u8 o_1.1] : List Int)))).length) (ac (by first | (simp; done) | simpa using h_5 : (((List.map (AV.int .u8) o_1.2) : List AV).length + ((List.map (AV.int .u8) ([w_u8 o_1.1] : List Int)) : List AV).length) * 1 ≤ 140737488355328) an))))) ?_
  refine aw_seq (by kernel_rfl) ?_
  refine aw_region [] [4] [2] 3 (vals := [.own 2 (((o_1.2 ++ ([w_u8 o_1.1] : List Int))).length)]) (bxs := [.live (.row 5 1 (List.map (AV.int .u8) (o_1.2 ++ ([w_u8 o_1.1] : List Int))))]) (by kernel_rfl) hmix an ?_
  refine aw_sub (sub_wkm [2] [] [.s 4] [.s 0] (sl2 := [(4, .own 0 (((o_1.2 ++ ([w_u8 o_1.1] : List Int))).length))]) (bx2 := [(0, .live (.row 5 1 (List.map (AV.int .u8) (o_1.2 ++ ([w_u8 o_1.1] : List Int)))))]) (by kernel_rfl) an) ?_
  refine aw_ret (by kernel_rfl) ?_
  replace h := Option.some.inj h; subst h
  exact ⟨.inr rfl, Nat.le_of_ble_eq_true rfl, by kernel_rfl⟩

theorem R05_PutText_ok (F : Nat) (b_1 : List (Int)) (s_1 : List Int) (r : (List (Int))) (h : R05_PutText F b_1 s_1 = some r) : TripleG prog 48 [] [] [.sl false 1 (List.map (AV.int .u8) b_1), .str s_1] [.row 5 1 (List.map (AV.int .u8) r)] (.own 0 ((r).length)) := by
  refine triple_intro (fn := Go.Proofs.Try.f48) (code := codeOf Go.Proofs.Try.f48) (by kernel_rfl) (by kernel_rfl) (Nat.le_of_ble_eq_true (by kernel_rfl)) ?_
  unfold R05_PutText at h
  refine aw_seq (by kernel_rfl) ?_
  refine aw_region [(0, { id := 0, m := 1 })] [0, 1] [] 1 (vals := [.sl false 1 (List.map (AV.int .u8) b_1), .str s_1]) (bxs := []) (by kernel_rfl) hmix an ?_
  refine aw_seq (by kernel_rfl) ?_
  obtain ⟨r_1, h_1, h⟩ := bind_some h
  refine aw_region [(3, { av := .own 0 ((r_1).length), ids := [1], l := [.sl false 1 (List.map (AV.int .u8) b_1), .int .i64 (((s_1).length : Nat) : Int)], post := [(.row 5 1 (List.map (AV.int .u8) r_1))] })] [1, 5] [1] 2 (vals := [.str s_1, .own 1 ((r_1).length)]) (bxs := [.live (.row 5 1 (List.map (AV.int .u8) r_1))]) (by kernel_rfl) hmix (ac (rfl : ([.sl false 1 (List.map (AV.int .u8) b_1), .int .i64 (((s_1).length : Nat) : Int)] : List AV) = [.sl false 1 (List.map (AV.int .u8) b_1), .int .i64 (((s_1).length : Nat) : Int)]) (ac (rfl : ([] : List BoxSt) = []) (ac (R05_PutInt_ok F b_1 (((s_1).length : Nat) : Int) r_1 h_1 : TripleG prog 38 [] [] [.sl false 1 (List.map (AV.int .u8) b_1), .int .i64 (((s_1).length : Nat) : Int)] [(.row 5 1 (List.map (AV.int .u8) r_1))] (.own 0 ((r_1).length))) an))) ?_
  refine aw_seq (by kernel_rfl) ?_
  refine aw_seq (by kernel_rfl) ?_
  refine aw_region [] [1, 5, 6] [1] 2 (vals := [.str s_1, .own 1 ((r_1).length), .int .i64 (0 : Int)]) (bxs := [.live (.row 5 1 (List.map (AV.int .u8) r_1))]) (by kernel_rfl) hmix an ?_
  obtain ⟨o_1, h_2, h⟩ := bind_some h
  refine aw_mid (mk [(5, .own 0 ((o_1).length))] [(0, .live (.row 5 1 (List.map (AV.int .u8) o_1)))] 1) ?_ ?_
  · replace h := h_2
    refine aw_block (id := 0) (by kernel_rfl) ?_
    refine aw_sub (sub_wkm [1] [] [.s 1, .s 5, .s 6] [.s 0] (sl2 := [(1, .str s_1), (5, .own 0 ((r_1).length)), (6, .int .i64 (0 : Int))]) (bx2 := [(0, .live (.row 5 1 (List.map (AV.int .u8) r_1)))]) (by kernel_rfl) an) ?_
    refine aw_loopF (fun n st => ∃ (i_1 : Int), ∃ (row_1 : List Int), st = mk [(1, .str s_1), (5, .own 0 ((row_1).length)), (6, .int .i64 i_1)] [(0, .live (.row 5 1 (List.map (AV.int .u8) row_1)))] 1 ∧ R05_PutText_L1 F s_1 n i_1 row_1 = some o_1) F (by kernel_rfl) ⟨_, _, rfl, h⟩ ?_ ?_
    · rintro _ ⟨_, _, _, h⟩; exact none_ne (h : (none : Option (List Int)) = some o_1)
    rintro n_1 _ ⟨i_1, row_1, rfl, h⟩
    replace h : R05_PutText_L1_body F s_1 (R05_PutText_L1 F s_1 n_1) i_1 row_1 = some o_1 := h
    unfold R05_PutText_L1_body at h
    refine aw_seq (by kernel_rfl) ?_
    refine aw_seq (by kernel_rfl) ?_
    refine aw_region [] [1, 5, 6, 14] [0] 1 (vals := [.str s_1, .own 0 ((row_1).length), .int .i64 i_1, .bool (decide (i_1 < (((s_1).length : Nat) : Int)))]) (bxs := [.live (.row 5 1 (List.map (AV.int .u8) row_1))]) (by kernel_rfl) hmix an ?_
    refine aw_cond (t := 14) (b := (decide (i_1 < (((s_1).length : Nat) : Int)))) (by kernel_rfl) (by kernel_rfl) ?_ ?_
    rotate_left
    · intro g_1; replace h := cond_f g_1 h
      refine aw_exit (id := 0) (by kernel_rfl) ?_
      replace h := Option.some.inj h; subst h
      exact ⟨rfl, (sub_wkm [0] [] [.s 5] [.s 0] (by kernel_rfl) an)⟩
    intro g_1; replace h := cond_t g_1 h
    refine aw_skip (by kernel_rfl) ?_
    refine aw_seq (by kernel_rfl) ?_
    refine aw_block (id := 1) (by kernel_rfl) ?_
    obtain ⟨c_1, h_3, h⟩ := bind_some h
    obtain ⟨_, h_4, h⟩ := bind_some h; replace h_4 := need_some h_4
    refine aw_region [(3, { z := c_1 }), (4, { id := 1 }), (5, { id := 2, l := (List.map (AV.int .u8) (row_1 ++ ([c_1] : List Int))), n := ((row_1 ++ ([c_1] : List Int))).length })] [1, 5, 6] [2] 3 (vals := [.str s_1, .own 2 (((row_1 ++ ([c_1] : List Int))).length), .int .i64 i_1]) (bxs := [.live (.row 5 1 (List.map (AV.int .u8) (row_1 ++ ([c_1] : List Int))))]) (by kernel_rfl) hmix (ac h_3 (ac (by first | (simp; done) | (simp; omega) : (row_1).length = ((List.map (AV.int .u8) row_1)).length) (ac (by first | (simp; done) | (simp; omega) : 1 = ((List.map (AV.int .u8) ([c_1] : List Int))).length) (ac (vc_app _ _ : (List.map (AV.int .u8) (row_1 ++ ([c_1] : List Int))) = (List.map (AV.int .u8) row_1) ++ (List.map (AV.int .u8) ([c_1] : List Int))) (ac (by simp : ((row_1 ++ ([c_1] : List Int))).length = ((List.map (AV.int .u8) (row_1 ++ ([c_1] : List Int)))).length) (ac (by first | (simp; done) | simpa using h_4 : (((List.map (AV.int .u8) row_1) : List AV).length + ((List.map (AV.int .u8) ([c_1] : List Int)) : List AV).length) * 1 ≤ 140737488355328) an)))))) ?_
    refine aw_region [] [1, 5, 6] [2] 3 (vals := [.str s_1, .own 2 (((row_1 ++ ([c_1] : List Int))).length), .int .i64 (w_i64 (i_1 + (1 : Int)))]) (bxs := [.live (.row 5 1 (List.map (AV.int .u8) (row_1 ++ ([c_1] : List Int))))]) (by kernel_rfl) hmix an ?_
    exact ⟨_, (sub_wkm [2] [] [.s 1, .s 5, .s 6] [.s 0] (by kernel_rfl) an), _, _, rfl, h⟩
  refine aw_seq (by kernel_rfl) ?_
  refine aw_region [] [4] [0] 1 (vals := [.own 0 ((o_1).length)]) (bxs := [.live (.row 5 1 (List.map (AV.int .u8) o_1))]) (by kernel_rfl) hmix an ?_
  refine aw_sub (sub_wkm [0] [] [.s 4] [.s 0] (sl2 := [(4, .own 0 ((o_1).length))]) (bx2 := [(0, .live (.row 5 1 (List.map (AV.int .u8) o_1)))]) (by kernel_rfl) an) ?_
  refine aw_ret (by kernel_rfl) ?_
  replace h := Option.some.inj h; subst h
  exact ⟨.inr rfl, Nat.le_of_ble_eq_true rfl, by kernel_rfl⟩

theorem R33_one_ok (F : Nat) (b_1 : List (Int)) (a_1 : T_api_Value) (r : (List (Int))) (h : R33_one F b_1 a_1 = some r) : TripleG prog 37 [] [(.row 5 1 (List.map (AV.int .u8) b_1))] [.own 0 ((b_1).length), e_T_api_Value a_1] [.row 5 1 (List.map (AV.int .u8) r)] (.own 0 ((r).length)) := by
  refine triple_introG (fn := Go.Proofs.Try.f37) (code := codeOf Go.Proofs.Try.f37) (by kernel_rfl) (by kernel_rfl) (Nat.le_of_ble_eq_true (by kernel_rfl)) ?_
  unfold R33_one at h
  refine aw_seq (by kernel_rfl) ?_
  refine aw_region [(0, { id := 1 }), (1, { id := 2, m := 1 })] [0, 3] [0, 1] 3 (vals := [.own 0 ((b_1).length), .ptr 1 0 0 0]) (bxs := [.live (.row 5 1 (List.map (AV.int .u8) b_1)), .live (.var 24 (v_T_api_Value a_1))]) (by kernel_rfl) hmix an ?_
  refine aw_seq (by kernel_rfl) ?_
  obtain ⟨_, h_1, h⟩ := bind_some h; replace h_1 := need_some h_1
  refine aw_region [(4, { id := 3 }), (5, { id := 4, l := (List.map (AV.int .u8) (b_1 ++ ([w_u8 a_1.Kind] : List Int))), n := ((b_1 ++ ([w_u8 a_1.Kind] : List Int))).length })] [0, 3] [1, 4] 5 (vals := [.own 4 (((b_1 ++ ([w_u8 a_1.Kind] : List Int))).length), .ptr 1 0 0 0]) (bxs := [.live (.var 24 (v_T_api_Value a_1)), .live (.row 5 1 (List.map (AV.int .u8) (b_1 ++ ([w_u8 a_1.Kind] : List Int))))]) (by kernel_rfl) hmix (ac (by first | (simp; done) | (simp; omega) : (b_1).length = ((List.map (AV.int .u8) b_1)).length) (ac (by first | (simp; done) | (simp; omega) : 1 = ((List.map (AV.int .u8) ([w_u8 a_1.Kind] : List Int))).length) (ac (vc_app _ _ : (List.map (AV.int .u8) (b_1 ++ ([w_u8 a_1.Kind] : List Int))) = (List.map (AV.int .u8) b_1) ++ (List.map (AV.int .u8) ([w_u8 a_1.Kind] : List Int))) (ac (by simp : ((b_1 ++ ([w_u8 a_1.Kind] : List Int))).length = ((List.map (AV.int .u8) (b_1 ++ ([w_u8 a_1.Kind] : List Int)))).length) (ac (by first | (simp; done) | simpa using h_1 : (((List.map (AV.int .u8) b_1) : List AV).length + ((List.map (AV.int .u8) ([w_u8 a_1.Kind] : List Int)) : List AV).length) * 1 ≤ 140737488355328) an))))) ?_
  refine aw_seq (by kernel_rfl) ?_
  refine aw_seq (by kernel_rfl) ?_
  refine aw_mid (mk [(0, .own 0 (((b_1 ++ ([w_u8 a_1.Kind] : List Int))).length)), (3, .ptr 1 0 0 0), (18, .bool ((a_1.Kind == (1 : Int)) || (a_1.Kind == (2 : Int))))] [(0, .live (.row 5 1 (List.map (AV.int .u8) (b_1 ++ ([w_u8 a_1.Kind] : List Int))))), (1, .live (.var 24 (v_T_api_Value a_1)))] 2) ?_ ?_
  · rcases Bool.eq_false_or_eq_true (a_1.Kind == (1 : Int)) with gg_1 | gg_1
    · refine aw_region [(4, { g := false }), (5, { g := false }), (6, { g := false }), (7, { b := true })] [0, 3, 18] [1, 4] 5 (vals := [.own 4 (((b_1 ++ ([w_u8 a_1.Kind] : List Int))).length), .ptr 1 0 0 0, .bool true]) (bxs := [.live (.var 24 (v_T_api_Value a_1)), .live (.row 5 1 (List.map (AV.int .u8) (b_1 ++ ([w_u8 a_1.Kind] : List Int))))]) (by kernel_rfl) hmix (ac gg_1 (ac gg_1 (ac gg_1 (ac gg_1 an)))) ?_
      exact ⟨rfl, (sub_wkm [4, 1] [] [.s 0, .s 3, .a 18 (.bool ((a_1.Kind == (1 : Int)) || (a_1.Kind == (2 : Int))))] [.s 0, .s 1] (by kernel_rfl) (ac (congrArg AV.bool (ort gg_1) : (.bool true : AV) = .bool ((a_1.Kind == (1 : Int)) || (a_1.Kind == (2 : Int)))) an))⟩
    · refine aw_region [(7, { b := false })] [0, 3, 18] [1, 4] 5 (vals := [.own 4 (((b_1 ++ ([w_u8 a_1.Kind] : List Int))).length), .ptr 1 0 0 0, .bool (a_1.Kind == (2 : Int))]) (bxs := [.live (.var 24 (v_T_api_Value a_1)), .live (.row 5 1 (List.map (AV.int .u8) (b_1 ++ ([w_u8 a_1.Kind] : List Int))))]) (by kernel_rfl) hmix (ac gg_1 (ac gg_1 (ac gg_1 (ac gg_1 an)))) ?_
      exact ⟨rfl, (sub_wkm [4, 1] [] [.s 0, .s 3, .a 18 (.bool ((a_1.Kind == (1 : Int)) || (a_1.Kind == (2 : Int))))] [.s 0, .s 1] (by kernel_rfl) (ac (congrArg AV.bool (orf gg_1 rfl) : (.bool (a_1.Kind == (2 : Int)) : AV) = .bool ((a_1.Kind == (1 : Int)) || (a_1.Kind == (2 : Int)))) an))⟩
  refine aw_cond (t := 18) (b := ((a_1.Kind == (1 : Int)) || (a_1.Kind == (2 : Int)))) (by kernel_rfl) (by kernel_rfl) ?_ ?_
  · intro g_1; replace h := cond_t g_1 h
    refine aw_seq (by kernel_rfl) ?_
    obtain ⟨r_1, h_2, h⟩ := bind_some h
    refine aw_region [(3, { av := .own 0 ((r_1).length), frz := [0], ids := [2], l := [.sl false 1 (List.map (AV.int .u8) (b_1 ++ ([w_u8 a_1.Kind] : List Int))), .int .i64 a_1.N], post := [(.row 5 1 (List.map (AV.int .u8) r_1))] })] [4] [2] 3 (vals := [.own 2 ((r_1).length)]) (bxs := [.live (.row 5 1 (List.map (AV.int .u8) r_1))]) (by kernel_rfl) hmix (ac (by first | (simp; done) | (simp; omega) : ((b_1 ++ ([w_u8 a_1.Kind] : List Int))).length = ((List.map (AV.int .u8) (b_1 ++ ([w_u8 a_1.Kind] : List Int)))).length) (ac (rfl : ([.sl false 1 (List.map (AV.int .u8) (b_1 ++ ([w_u8 a_1.Kind] : List Int))), .int .i64 a_1.N] : List AV) = [.sl false 1 (List.map (AV.int .u8) (b_1 ++ ([w_u8 a_1.Kind] : List Int))), .int .i64 a_1.N]) (ac (rfl : ([] : List BoxSt) = []) (ac (R05_PutInt_ok F (b_1 ++ ([w_u8 a_1.Kind] : List Int)) a_1.N r_1 h_2 : TripleG prog 38 [] [] [.sl false 1 (List.map (AV.int .u8) (b_1 ++ ([w_u8 a_1.Kind] : List Int))), .int .i64 a_1.N] [(.row 5 1 (List.map (AV.int .u8) r_1))] (.own 0 ((r_1).length))) an)))) ?_
    refine aw_sub (sub_wkm [2] [] [.s 4] [.s 0] (sl2 := [(4, .own 0 ((r_1).length))]) (bx2 := [(0, .live (.row 5 1 (List.map (AV.int .u8) r_1)))]) (by kernel_rfl) an) ?_
    refine aw_ret (by kernel_rfl) ?_
    replace h := Option.some.inj h; subst h
    exact ⟨.inr rfl, Nat.le_of_ble_eq_true rfl, by kernel_rfl⟩
  intro g_1; replace h := cond_f g_1 h
  refine aw_skip (by kernel_rfl) ?_
  refine aw_seq (by kernel_rfl) ?_
  refine aw_seq (by kernel_rfl) ?_
  refine aw_region [] [0, 3, 25] [0, 1] 2 (vals := [.own 0 (((b_1 ++ ([w_u8 a_1.Kind] : List Int))).length), .ptr 1 0 0 0, .bool (a_1.Kind == (3 : Int))]) (bxs := [.live (.row 5 1 (List.map (AV.int .u8) (b_1 ++ ([w_u8 a_1.Kind] : List Int)))), .live (.var 24 (v_T_api_Value a_1))]) (by kernel_rfl) hmix an ?_
  refine aw_cond (t := 25) (b := (a_1.Kind == (3 : Int))) (by kernel_rfl) (by kernel_rfl) ?_ ?_
  · intro g_2; replace h := cond_t g_2 h
    refine aw_seq (by kernel_rfl) ?_
    obtain ⟨r_2, h_3, h⟩ := bind_some h
    refine aw_region [(3, { av := .own 0 ((r_2).length), frz := [0], ids := [2], l := [.sl false 1 (List.map (AV.int .u8) (b_1 ++ ([w_u8 a_1.Kind] : List Int))), .str a_1.S], post := [(.row 5 1 (List.map (AV.int .u8) r_2))] })] [4] [2] 3 (vals := [.own 2 ((r_2).length)]) (bxs := [.live (.row 5 1 (List.map (AV.int .u8) r_2))]) (by kernel_rfl) hmix (ac (by first | (simp; done) | (simp; omega) : ((b_1 ++ ([w_u8 a_1.Kind] : List Int))).length = ((List.map (AV.int .u8) (b_1 ++ ([w_u8 a_1.Kind] : List Int)))).length) (ac (rfl : ([.sl false 1 (List.map (AV.int .u8) (b_1 ++ ([w_u8 a_1.Kind] : List Int))), .str a_1.S] : List AV) = [.sl false 1 (List.map (AV.int .u8) (b_1 ++ ([w_u8 a_1.Kind] : List Int))), .str a_1.S]) (ac (rfl : ([] : List BoxSt) = []) (ac (R05_PutText_ok F (b_1 ++ ([w_u8 a_1.Kind] : List Int)) a_1.S r_2 h_3 : TripleG prog 48 [] [] [.sl false 1 (List.map (AV.int .u8) (b_1 ++ ([w_u8 a_1.Kind] : List Int))), .str a_1.S] [(.row 5 1 (List.map (AV.int .u8) r_2))] (.own 0 ((r_2).length))) an)))) ?_
    refine aw_sub (sub_wkm [2] [] [.s 4] [.s 0] (sl2 := [(4, .own 0 ((r_2).length))]) (bx2 := [(0, .live (.row 5 1 (List.map (AV.int .u8) r_2)))]) (by kernel_rfl) an) ?_
    refine aw_ret (by kernel_rfl) ?_
    replace h := Option.some.inj h; subst h
    exact ⟨.inr rfl, Nat.le_of_ble_eq_true rfl, by kernel_rfl⟩
  intro g_2; replace h := cond_f g_2 h
  refine aw_skip (by kernel_rfl) ?_
  refine aw_seq (by kernel_rfl) ?_
  refine aw_region [] [4] [0] 2 (vals := [.own 0 (((b_1 ++ ([w_u8 a_1.Kind] : List Int))).length)]) (bxs := [.live (.row 5 1 (List.map (AV.int .u8) (b_1 ++ ([w_u8 a_1.Kind] : List Int))))]) (by kernel_rfl) hmix an ?_
  refine aw_sub (sub_wkm [0] [] [.s 4] [.s 0] (sl2 := [(4, .own 0 (((b_1 ++ ([w_u8 a_1.Kind] : List Int))).length))]) (bx2 := [(0, .live (.row 5 1 (List.map (AV.int .u8) (b_1 ++ ([w_u8 a_1.Kind] : List Int)))))]) (by kernel_rfl) an) ?_
  refine aw_ret (by kernel_rfl) ?_
  replace h := Option.some.inj h; subst h
  exact ⟨.inr rfl, Nat.le_of_ble_eq_true rfl, by kernel_rfl⟩

theorem R33_plain_ok (F : Nat) (l_1 : List (T_api_Value)) (r : (List (Int))) (h : R33_plain F l_1 = some r) : TripleG prog 27 [] [] [.sl false 3 (List.map e_T_api_Value l_1)] [.row 5 1 (List.map (AV.int .u8) r)] (.own 0 ((r).length)) := by
  refine triple_intro (fn := Go.Proofs.Try.f27) (code := codeOf Go.Proofs.Try.f27) (by kernel_rfl) (by kernel_rfl) (Nat.le_of_ble_eq_true (by kernel_rfl)) ?_
  unfold R33_plain at h
  refine aw_seq (by kernel_rfl) ?_
  refine aw_region [(0, { id := 0, m := 1 })] [0] [] 1 (vals := [.sl false 3 (List.map e_T_api_Value l_1)]) (bxs := []) (by kernel_rfl) hmix an ?_
  refine aw_seq (by kernel_rfl) ?_
  refine aw_region [(0, { id := 1, m := 1 })] [0, 3] [1] 2 (vals := [.sl false 3 (List.map e_T_api_Value l_1), .own 1 0]) (bxs := [.live (.row 5 1 [])]) (by kernel_rfl) hmix an ?_
  refine aw_seq (by kernel_rfl) ?_
  refine aw_seq (by kernel_rfl) ?_
  refine aw_region [] [0, 3, 4] [1] 2 (vals := [.sl false 3 (List.map e_T_api_Value l_1), .own 1 0, .int .i64 (0 : Int)]) (bxs := [.live (.row 5 1 [])]) (by kernel_rfl) hmix an ?_
  obtain ⟨o_1, h_1, h⟩ := bind_some h
  refine aw_mid (mk [(3, .own 0 ((o_1).length))] [(0, .live (.row 5 1 (List.map (AV.int .u8) o_1)))] 1) ?_ ?_
  · replace h := h_1
    refine aw_block (id := 0) (by kernel_rfl) ?_
    refine aw_sub (sub_wkm [1] [] [.s 0, .s 3, .s 4] [.s 0] (sl2 := [(0, .sl false 3 (List.map e_T_api_Value l_1)), (3, .own 0 0), (4, .int .i64 (0 : Int))]) (bx2 := [(0, .live (.row 5 1 []))]) (by kernel_rfl) an) ?_
    refine aw_loopF (fun n st => ∃ (i_1 : Int), ∃ (row_1 : List Int), st = mk [(0, .sl false 3 (List.map e_T_api_Value l_1)), (3, .own 0 ((row_1).length)), (4, .int .i64 i_1)] [(0, .live (.row 5 1 (List.map (AV.int .u8) row_1)))] 1 ∧ R33_plain_L1 F l_1 n i_1 row_1 = some o_1) F (by kernel_rfl) ⟨_, _, rfl, h⟩ ?_ ?_
    · rintro _ ⟨_, _, _, h⟩; exact none_ne (h : (none : Option (List Int)) = some o_1)
    rintro n_1 _ ⟨i_1, row_1, rfl, h⟩
    replace h : R33_plain_L1_body F l_1 (R33_plain_L1 F l_1 n_1) i_1 row_1 = some o_1 := h
    unfold R33_plain_L1_body at h
    refine aw_seq (by kernel_rfl) ?_
    refine aw_seq (by kernel_rfl) ?_
    refine aw_region [(2, { n := (l_1).length })] [0, 3, 4, 8] [0] 1 (vals := [.sl false 3 (List.map e_T_api_Value l_1), .own 0 ((row_1).length), .int .i64 i_1, .bool (decide (i_1 < (((l_1).length : Nat) : Int)))]) (bxs := [.live (.row 5 1 (List.map (AV.int .u8) row_1))]) (by kernel_rfl) hmix (ac (vc_len _ : ((List.map e_T_api_Value l_1)).length = (l_1).length) an) ?_
    refine aw_cond (t := 8) (b := (decide (i_1 < (((l_1).length : Nat) : Int)))) (by kernel_rfl) (by kernel_rfl) ?_ ?_
    rotate_left
    · intro g_1; replace h := cond_f g_1 h
      refine aw_exit (id := 0) (by kernel_rfl) ?_
      replace h := Option.some.inj h; subst h
      exact ⟨rfl, (sub_wkm [0] [] [.s 3] [.s 0] (by kernel_rfl) an)⟩
    intro g_1; replace h := cond_t g_1 h
    refine aw_skip (by kernel_rfl) ?_
    refine aw_seq (by kernel_rfl) ?_
    refine aw_block (id := 1) (by kernel_rfl) ?_
    obtain ⟨x_1, h_2, h⟩ := bind_some h
    obtain ⟨r_1, h_3, h⟩ := bind_some h
    refine aw_region [(3, { av := e_T_api_Value x_1 }), (5, { av := .own 0 ((r_1).length), gids := [0], giv := [(.row 5 1 (List.map (AV.int .u8) row_1))], ids := [1], l := [.own 0 ((row_1).length), e_T_api_Value x_1], post := [(.row 5 1 (List.map (AV.int .u8) r_1))] })] [0, 3, 4] [1] 2 (vals := [.sl false 3 (List.map e_T_api_Value l_1), .own 1 ((r_1).length), .int .i64 i_1]) (bxs := [.live (.row 5 1 (List.map (AV.int .u8) r_1))]) (by kernel_rfl) hmix (ac (vc_idx h_2 : idxA (List.map e_T_api_Value l_1) i_1 = some (e_T_api_Value x_1)) (ac (rfl : ([.own 0 ((row_1).length), e_T_api_Value x_1] : List AV) = [.own 0 ((row_1).length), e_T_api_Value x_1]) (ac (rfl : ([.live (.row 5 1 (List.map (AV.int .u8) row_1))] : List BoxSt) = [.live (.row 5 1 (List.map (AV.int .u8) row_1))]) (ac (R33_one_ok F row_1 x_1 r_1 h_3 : TripleG prog 37 [] [(.row 5 1 (List.map (AV.int .u8) row_1))] [.own 0 ((row_1).length), e_T_api_Value x_1] [(.row 5 1 (List.map (AV.int .u8) r_1))] (.own 0 ((r_1).length))) an)))) ?_
    refine aw_region [] [0, 3, 4] [1] 2 (vals := [.sl false 3 (List.map e_T_api_Value l_1), .own 1 ((r_1).length), .int .i64 (w_i64 (i_1 + (1 : Int)))]) (bxs := [.live (.row 5 1 (List.map (AV.int .u8) r_1))]) (by kernel_rfl) hmix an ?_
    exact ⟨_, (sub_wkm [1] [] [.s 0, .s 3, .s 4] [.s 0] (by kernel_rfl) an), _, _, rfl, h⟩
  refine aw_seq (by kernel_rfl) ?_
  refine aw_region [] [2] [0] 1 (vals := [.own 0 ((o_1).length)]) (bxs := [.live (.row 5 1 (List.map (AV.int .u8) o_1))]) (by kernel_rfl) hmix an ?_
  refine aw_sub (sub_wkm [0] [] [.s 2] [.s 0] (sl2 := [(2, .own 0 ((o_1).length))]) (bx2 := [(0, .live (.row 5 1 (List.map (AV.int .u8) o_1)))]) (by kernel_rfl) an) ?_
  refine aw_ret (by kernel_rfl) ?_
  replace h := Option.some.inj h; subst h
  exact ⟨.inr rfl, Nat.le_of_ble_eq_true rfl, by kernel_rfl⟩

theorem R33_runs_ok (F : Nat) (l_1 : List (T_api_Value)) (r : (List (Int))) (h : R33_runs F l_1 = some r) : TripleG prog 28 [] [] [.sl false 3 (List.map e_T_api_Value l_1)] [] (.sl false 1 (List.map (AV.int .u8) r)) := by
  refine triple_intro (fn := Go.Proofs.Try.f28) (code := codeOf Go.Proofs.Try.f28) (by kernel_rfl) (by kernel_rfl) (Nat.le_of_ble_eq_true (by kernel_rfl)) ?_
  unfold R33_runs at h
  refine aw_seq (by kernel_rfl) ?_
  refine aw_region [] [0] [] 0 (vals := [.sl false 3 (List.map e_T_api_Value l_1)]) (bxs := []) (by kernel_rfl) hmix an ?_
  refine aw_seq (by kernel_rfl) ?_
  refine aw_region [] [0, 3] [] 0 (vals := [.sl false 3 (List.map e_T_api_Value l_1), .nilsl]) (bxs := []) (by kernel_rfl) hmix an ?_
  refine aw_seq (by kernel_rfl) ?_
  refine aw_seq (by kernel_rfl) ?_
  refine aw_region [] [0, 3, 4] [] 0 (vals := [.sl false 3 (List.map e_T_api_Value l_1), .nilsl, .int .i64 (0 : Int)]) (bxs := []) (by kernel_rfl) hmix an ?_
  obtain ⟨o_1, h_1, h⟩ := bind_some h
  refine aw_mid (mk [(3, .sl false 1 (List.map (AV.int .u8) o_1))] [] 0) ?_ ?_
  · replace h := h_1
    refine aw_block (id := 0) (by kernel_rfl) ?_
    refine aw_sub (sub_wkm [] [] [.s 0, .a 3 (.sl false 1 []), .s 4] [] (sl2 := [(0, .sl false 3 (List.map e_T_api_Value l_1)), (3, .sl false 1 []), (4, .int .i64 (0 : Int))]) (bx2 := []) (by kernel_rfl) (ac (rfl : ([] : List AV) = []) an)) ?_
    refine aw_loopF (fun n st => ∃ (b_1 : List Int), ∃ (i_1 : Int), st = mk [(0, .sl false 3 (List.map e_T_api_Value l_1)), (3, .sl false 1 (List.map (AV.int .u8) b_1)), (4, .int .i64 i_1)] [] 0 ∧ R33_runs_L1 F l_1 n b_1 i_1 = some o_1) F (by kernel_rfl) ⟨_, _, rfl, h⟩ ?_ ?_
    · rintro _ ⟨_, _, _, h⟩; exact none_ne (h : (none : Option (List Int)) = some o_1)
    rintro n_1 _ ⟨b_1, i_1, rfl, h⟩
    replace h : R33_runs_L1_body F l_1 (R33_runs_L1 F l_1 n_1) b_1 i_1 = some o_1 := h
    unfold R33_runs_L1_body at h
    refine aw_seq (by kernel_rfl) ?_
    refine aw_seq (by kernel_rfl) ?_
    refine aw_region [(2, { n := (l_1).length })] [0, 3, 4, 9] [] 0 (vals := [.sl false 3 (List.map e_T_api_Value l_1), .sl false 1 (List.map (AV.int .u8) b_1), .int .i64 i_1, .bool (decide (i_1 < (((l_1).length : Nat) : Int)))]) (bxs := []) (by kernel_rfl) hmix (ac (vc_len _ : ((List.map e_T_api_Value l_1)).length = (l_1).length) an) ?_
    refine aw_cond (t := 9) (b := (decide (i_1 < (((l_1).length : Nat) : Int)))) (by kernel_rfl) (by kernel_rfl) ?_ ?_
    rotate_left
    · intro g_1; replace h := cond_f g_1 h
      refine aw_exit (id := 0) (by kernel_rfl) ?_
      replace h := Option.some.inj h; subst h
      exact ⟨rfl, (sub_wkm [] [] [.s 3] [] (by kernel_rfl) an)⟩
    intro g_1; replace h := cond_t g_1 h
    refine aw_skip (by kernel_rfl) ?_
    refine aw_block (id := 1) (by kernel_rfl) ?_
    refine aw_seq (by kernel_rfl) ?_
    refine aw_region [] [0, 3, 4, 5] [] 0 (vals := [.sl false 3 (List.map e_T_api_Value l_1), .sl false 1 (List.map (AV.int .u8) b_1), .int .i64 i_1, .int .i64 (1 : Int)]) (bxs := []) (by kernel_rfl) hmix an ?_
    refine aw_seq (by kernel_rfl) ?_
    obtain ⟨o_2, h_2, h⟩ := bind_some h
    refine aw_mid (mk [(0, .sl false 3 (List.map e_T_api_Value l_1)), (3, .sl false 1 (List.map (AV.int .u8) b_1)), (4, .int .i64 i_1), (5, .int .i64 o_2)] [] 0) ?_ ?_
    · replace h := h_2
      refine aw_block (id := 2) (by kernel_rfl) ?_
      refine aw_sub (sub_wkm [] [] [.s 0, .s 3, .s 4, .s 5] [] (sl2 := [(0, .sl false 3 (List.map e_T_api_Value l_1)), (3, .sl false 1 (List.map (AV.int .u8) b_1)), (4, .int .i64 i_1), (5, .int .i64 (1 : Int))]) (bx2 := []) (by kernel_rfl) an) ?_
      refine aw_loopF (fun n st => ∃ (n_2 : Int), st = mk [(0, .sl false 3 (List.map e_T_api_Value l_1)), (3, .sl false 1 (List.map (AV.int .u8) b_1)), (4, .int .i64 i_1), (5, .int .i64 n_2)] [] 0 ∧ R33_runs_L2 F l_1 i_1 n n_2 = some o_2) F (by kernel_rfl) ⟨_, rfl, h⟩ ?_ ?_
      · rintro _ ⟨_, _, h⟩; exact none_ne (h : (none : Option Int) = some o_2)
      rintro n_3 _ ⟨n_2, rfl, h⟩
      replace h : R33_runs_L2_body F l_1 i_1 (R33_runs_L2 F l_1 i_1 n_3) n_2 = some o_2 := h
      unfold R33_runs_L2_body at h
      refine aw_seq (by kernel_rfl) ?_
      refine aw_seq (by kernel_rfl) ?_
      obtain ⟨p_1, h_5, h⟩ := bind_some h
      refine aw_mid (mk [(0, .sl false 3 (List.map e_T_api_Value l_1)), (3, .sl false 1 (List.map (AV.int .u8) b_1)), (4, .int .i64 i_1), (5, .int .i64 n_2), (28, .bool p_1)] [] 0) ?_ ?_
      · replace h := h_5
        rcases Bool.eq_false_or_eq_true (decide ((w_i64 (i_1 + n_2)) < (((l_1).length : Nat) : Int))) with gg_40 | gg_40
        · replace h := cond_t gg_40 h
          obtain ⟨x_1, h_3, h⟩ := bind_some h
          obtain ⟨x_2, h_4, h⟩ := bind_some h
          refine aw_region [(4, { n := (l_1).length }), (11, { av := e_T_api_Value x_1 }), (15, { av := e_T_api_Value x_2 }), (17, { b := (decide (x_1 = x_2)), mks := [.int .i64, .int .i64, .str] }), (18, { b := true })] [0, 3, 4, 5, 17, 18, 19, 20, 21, 22, 23, 24, 25, 26, 27, 28] [] 0 (vals := [.sl false 3 (List.map e_T_api_Value l_1), .sl false 1 (List.map (AV.int .u8) b_1), .int .i64 i_1, .int .i64 n_2, .sl false 3 (List.map e_T_api_Value l_1), .int .i64 i_1, .int .i64 n_2, .int .i64 (w_i64 (i_1 + n_2)), .ref (e_T_api_Value x_1), e_T_api_Value x_1, .sl false 3 (List.map e_T_api_Value l_1), .int .i64 i_1, .ref (e_T_api_Value x_2), e_T_api_Value x_2, .bool (decide (x_1 = x_2)), .bool (decide (x_1 = x_2))]) (bxs := []) (by kernel_rfl) hmix (ac (vc_len _ : ((List.map e_T_api_Value l_1)).length = (l_1).length) (ac gg_40 (ac gg_40 (ac gg_40 (ac gg_40 (ac gg_40 (ac (vc_idx h_3 : idxA (List.map e_T_api_Value l_1) (w_i64 (i_1 + n_2)) = some (e_T_api_Value x_1)) (ac gg_40 (ac gg_40 (ac gg_40 (ac gg_40 (ac (vc_idx h_4 : idxA (List.map e_T_api_Value l_1) i_1 = some (e_T_api_Value x_2)) (ac gg_40 (ac gg_40 (ac (eqOk_24 : EqOk prog 24 [.int .i64, .int .i64, .str]) (ac (vc_eqA (f := e_T_api_Value) inj_T_api_Value x_1 x_2 : ((decide (x_1 = x_2)) = true ↔ AV.agg [.int .i64 x_1.Kind, .int .i64 x_1.N, .str x_1.S] = AV.agg [.int .i64 x_2.Kind, .int .i64 x_2.N, .str x_2.S])) (ac gg_40 an))))))))))))))))) ?_
          replace h := Option.some.inj h; subst h
          exact ⟨rfl, (sub_wkm [] [] [.s 0, .s 3, .s 4, .s 5, .s 28] [] (by kernel_rfl) an)⟩
        · replace h := cond_f gg_40 h
          refine aw_region [(4, { n := (l_1).length }), (7, { g := false }), (8, { g := false }), (9, { g := false }), (10, { g := false }), (11, { g := false }), (12, { g := false }), (13, { g := false }), (14, { g := false }), (15, { g := false }), (16, { g := false }), (17, { g := false }), (18, { b := false })] [0, 3, 4, 5, 17, 18, 19, 20, 21, 22, 23, 24, 25, 26, 27, 28] [] 0 (vals := [.sl false 3 (List.map e_T_api_Value l_1), .sl false 1 (List.map (AV.int .u8) b_1), .int .i64 i_1, .int .i64 n_2, .tuple [], .tuple [], .tuple [], .tuple [], .tuple [], .tuple [], .tuple [], .tuple [], .tuple [], .tuple [], .tuple [], .bool false]) (bxs := []) (by kernel_rfl) hmix (ac (vc_len _ : ((List.map e_T_api_Value l_1)).length = (l_1).length) (ac gg_40 (ac gg_40 (ac gg_40 (ac gg_40 (ac gg_40 (ac gg_40 (ac gg_40 (ac gg_40 (ac gg_40 (ac gg_40 (ac gg_40 (ac gg_40 an))))))))))))) ?_
          replace h := Option.some.inj h; subst h
          exact ⟨rfl, (sub_wkm [] [] [.s 0, .s 3, .s 4, .s 5, .s 28] [] (by kernel_rfl) an)⟩
      refine aw_cond (t := 28) (b := p_1) (by kernel_rfl) (by kernel_rfl) ?_ ?_
      rotate_left
      · intro g_2; replace h := cond_f g_2 h
        refine aw_exit (id := 2) (by kernel_rfl) ?_
        replace h := Option.some.inj h; subst h
        exact ⟨rfl, (sub_wkm [] [] [.s 0, .s 3, .s 4, .s 5] [] (by kernel_rfl) an)⟩
      intro g_2; replace h := cond_t g_2 h
      refine aw_skip (by kernel_rfl) ?_
      refine aw_block (id := 3) (by kernel_rfl) ?_
      refine aw_region [] [0, 3, 4, 5] [] 0 (vals := [.sl false 3 (List.map e_T_api_Value l_1), .sl false 1 (List.map (AV.int .u8) b_1), .int .i64 i_1, .int .i64 (w_i64 (n_2 + (1 : Int)))]) (bxs := []) (by kernel_rfl) hmix an ?_
      exact ⟨_, (sub_wkm [] [] [.s 0, .s 3, .s 4, .s 5] [] (by kernel_rfl) an), _, rfl, h⟩
    refine aw_seq (by kernel_rfl) ?_
    obtain ⟨r_1, h_6, h⟩ := bind_some h
    obtain ⟨x_3, h_7, h⟩ := bind_some h
    obtain ⟨r_2, h_8, h⟩ := bind_some h
    refine aw_region [(2, { av := .own 0 ((r_1).length), ids := [0], l := [.sl false 1 (List.map (AV.int .u8) b_1), .int .i64 o_2], post := [(.row 5 1 (List.map (AV.int .u8) r_1))] }), (5, { av := e_T_api_Value x_3 }), (7, { av := .own 0 ((r_2).length), gids := [0], giv := [(.row 5 1 (List.map (AV.int .u8) r_1))], ids := [1], l := [.own 0 ((r_1).length), e_T_api_Value x_3], post := [(.row 5 1 (List.map (AV.int .u8) r_2))] })] [0, 3, 4, 5] [1] 2 (vals := [.sl false 3 (List.map e_T_api_Value l_1), .own 1 ((r_2).length), .int .i64 i_1, .int .i64 o_2]) (bxs := [.live (.row 5 1 (List.map (AV.int .u8) r_2))]) (by kernel_rfl) hmix (ac (rfl : ([.sl false 1 (List.map (AV.int .u8) b_1), .int .i64 o_2] : List AV) = [.sl false 1 (List.map (AV.int .u8) b_1), .int .i64 o_2]) (ac (rfl : ([] : List BoxSt) = []) (ac (R05_PutInt_ok F b_1 o_2 r_1 h_6 : TripleG prog 38 [] [] [.sl false 1 (List.map (AV.int .u8) b_1), .int .i64 o_2] [(.row 5 1 (List.map (AV.int .u8) r_1))] (.own 0 ((r_1).length))) (ac (vc_idx h_7 : idxA (List.map e_T_api_Value l_1) i_1 = some (e_T_api_Value x_3)) (ac (rfl : ([.own 0 ((r_1).length), e_T_api_Value x_3] : List AV) = [.own 0 ((r_1).length), e_T_api_Value x_3]) (ac (rfl : ([.live (.row 5 1 (List.map (AV.int .u8) r_1))] : List BoxSt) = [.live (.row 5 1 (List.map (AV.int .u8) r_1))]) (ac (R33_one_ok F r_1 x_3 r_2 h_8 : TripleG prog 37 [] [(.row 5 1 (List.map (AV.int .u8) r_1))] [.own 0 ((r_1).length), e_T_api_Value x_3] [(.row 5 1 (List.map (AV.int .u8) r_2))] (.own 0 ((r_2).length))) an))))))) ?_
    refine aw_region [] [0, 3, 4] [1] 2 (vals := [.sl false 3 (List.map e_T_api_Value l_1), .own 1 ((r_2).length), .int .i64 (w_i64 (i_1 + o_2))]) (bxs := [.live (.row 5 1 (List.map (AV.int .u8) r_2))]) (by kernel_rfl) hmix an ?_
    exact ⟨_, (Sub.trans (sub_wkm [] [1] [.s 0, .a 3 (.sl false 1 (List.map (AV.int .u8) r_2)), .s 4] [] (sl2 := [(0, .sl false 3 (List.map e_T_api_Value l_1)), (3, .sl false 1 (List.map (AV.int .u8) r_2)), (4, .int .i64 (w_i64 (i_1 + o_2)))]) (bx2 := []) (by kernel_rfl) (ac (by first | (simp; done) | (simp; omega) : (r_2).length = ((List.map (AV.int .u8) r_2)).length) (ac (rfl : 1 = 1) (ac (rfl : ((List.map (AV.int .u8) r_2) : List AV) = (List.map (AV.int .u8) r_2)) (ac (rfl : (!false || false) = true) an))))) (sub_wkm [] [] [.s 0, .s 3, .s 4] [] (by kernel_rfl) an)), _, _, rfl, h⟩
  refine aw_seq (by kernel_rfl) ?_
  refine aw_region [] [2] [] 0 (vals := [.sl false 1 (List.map (AV.int .u8) o_1)]) (bxs := []) (by kernel_rfl) hmix an ?_
  refine aw_ret (by kernel_rfl) ?_
  replace h := Option.some.inj h; subst h
  exact ⟨.inr rfl, Nat.le_of_ble_eq_true rfl, by kernel_rfl⟩

theorem R33_differences_ok (F : Nat) (k_1 : Int) (l_1 : List (T_api_Value)) (r : (List (Int)) × Bool) (h : R33_differences F k_1 l_1 = some r) : TripleG prog 29 [] [] [.int .i64 k_1, .sl false 3 (List.map e_T_api_Value l_1)] [] (.tuple [.sl false 1 (List.map (AV.int .u8) r.1), .bool r.2]) := by
  refine triple_intro (fn := Go.Proofs.Try.f29) (code := codeOf Go.Proofs.Try.f29) (by kernel_rfl) (by kernel_rfl) (Nat.le_of_ble_eq_true (by kernel_rfl)) ?_
  unfold R33_differences at h
  refine aw_seq (by kernel_rfl) ?_
  refine aw_region [] [0, 1] [] 0 (vals := [.int .i64 k_1, .sl false 3 (List.map e_T_api_Value l_1)]) (bxs := []) (by kernel_rfl) hmix an ?_
  refine aw_seq (by kernel_rfl) ?_
  refine aw_region [] [0, 1, 6] [] 0 (vals := [.int .i64 k_1, .sl false 3 (List.map e_T_api_Value l_1), .nilsl]) (bxs := []) (by kernel_rfl) hmix an ?_
  refine aw_seq (by kernel_rfl) ?_
  refine aw_seq (by kernel_rfl) ?_
  refine aw_region [] [0, 1, 6, 7] [] 0 (vals := [.int .i64 k_1, .sl false 3 (List.map e_T_api_Value l_1), .nilsl, .int .i64 (0 : Int)]) (bxs := []) (by kernel_rfl) hmix an ?_
  obtain ⟨o_1, h_1, h⟩ := bind_some h
  refine aw_conv (K1 := (fun e st' => match o_1 with | (.inl q0) => e = .normal ∧ Sub 0 st' (mk [(0, .int .i64 k_1), (6, .sl false 1 (List.map (AV.int .u8) q0))] [] 0) | (.inr q1) => e = .ret ∧ FinR prog Go.Proofs.Try.f29 0 [] (.tuple [.sl false 1 (List.map (AV.int .u8) q1.1), .bool q1.2]) st')) ?_ ?_
  · replace h := h_1
    refine aw_block (id := 0) (by kernel_rfl) ?_
    refine aw_sub (sub_wkm [] [] [.s 0, .s 1, .a 6 (.sl false 1 []), .s 7] [] (sl2 := [(0, .int .i64 k_1), (1, .sl false 3 (List.map e_T_api_Value l_1)), (6, .sl false 1 []), (7, .int .i64 (0 : Int))]) (bx2 := []) (by kernel_rfl) (ac (rfl : ([] : List AV) = []) an)) ?_
    refine aw_loopF (fun n st => ∃ (b_1 : List Int), ∃ (i_1 : Int), st = mk [(0, .int .i64 k_1), (1, .sl false 3 (List.map e_T_api_Value l_1)), (6, .sl false 1 (List.map (AV.int .u8) b_1)), (7, .int .i64 i_1)] [] 0 ∧ R33_differences_L1 F k_1 l_1 n b_1 i_1 = some o_1) F (by kernel_rfl) ⟨_, _, rfl, h⟩ ?_ ?_
    · rintro _ ⟨_, _, _, h⟩; exact none_ne (h : (none : Option ((List Int) ⊕ ((List (Int)) × Bool))) = some o_1)
    rintro n_1 _ ⟨b_1, i_1, rfl, h⟩
    replace h : R33_differences_L1_body F k_1 l_1 (R33_differences_L1 F k_1 l_1 n_1) b_1 i_1 = some o_1 := h
    unfold R33_differences_L1_body at h
    refine aw_seq (by kernel_rfl) ?_
    refine aw_seq (by kernel_rfl) ?_
    refine aw_region [(2, { n := (l_1).length })] [0, 1, 6, 7, 12] [] 0 (vals := [.int .i64 k_1, .sl false 3 (List.map e_T_api_Value l_1), .sl false 1 (List.map (AV.int .u8) b_1), .int .i64 i_1, .bool (decide (i_1 < (((l_1).length : Nat) : Int)))]) (bxs := []) (by kernel_rfl) hmix (ac (vc_len _ : ((List.map e_T_api_Value l_1)).length = (l_1).length) an) ?_
    refine aw_cond (t := 12) (b := (decide (i_1 < (((l_1).length : Nat) : Int)))) (by kernel_rfl) (by kernel_rfl) ?_ ?_
    rotate_left
    · intro g_1; replace h := cond_f g_1 h
      refine aw_exit (id := 0) (by kernel_rfl) ?_
      replace h := Option.some.inj h; subst h
      exact ⟨rfl, (sub_wkm [] [] [.s 0, .s 6] [] (by kernel_rfl) an)⟩
    intro g_1; replace h := cond_t g_1 h
    refine aw_skip (by kernel_rfl) ?_
    refine aw_seq (by kernel_rfl) ?_
    obtain ⟨o_2, h_2, h⟩ := bind_some h
    refine aw_conv (K1 := (fun e st' => match o_2 with | (.inl q0) => e = .normal ∧ Sub 0 st' (mk [(0, .int .i64 k_1), (1, .sl false 3 (List.map e_T_api_Value l_1)), (6, .own 0 ((q0).length)), (7, .int .i64 i_1)] [(0, .live (.row 5 1 (List.map (AV.int .u8) q0)))] 1) | (.inr q1) => e = .ret ∧ FinR prog Go.Proofs.Try.f29 0 [] (.tuple [.sl false 1 (List.map (AV.int .u8) q1.1), .bool q1.2]) st')) ?_ ?_
    · replace h := h_2
      refine aw_block (id := 1) (by kernel_rfl) ?_
      refine aw_seq (by kernel_rfl) ?_
      refine aw_seq (by kernel_rfl) ?_
      obtain ⟨p_1, h_4, h⟩ := bind_some h
      refine aw_mid (mk [(0, .int .i64 k_1), (1, .sl false 3 (List.map e_T_api_Value l_1)), (6, .sl false 1 (List.map (AV.int .u8) b_1)), (7, .int .i64 i_1), (25, .bool p_1)] [] 0) ?_ ?_
      · replace h := h_4
        obtain ⟨x_1, h_3, h⟩ := bind_some h
        rcases Bool.eq_false_or_eq_true (x_1.Kind != k_1) with gg_12 | gg_12
        · replace h := cond_t gg_12 h
          refine aw_region [(2, { av := e_T_api_Value x_1 }), (8, { g := false }), (9, { g := false }), (10, { b := true })] [0, 1, 6, 7, 23, 24, 25] [] 0 (vals := [.int .i64 k_1, .sl false 3 (List.map e_T_api_Value l_1), .sl false 1 (List.map (AV.int .u8) b_1), .int .i64 i_1, .tuple [], .tuple [], .bool true]) (bxs := []) (by kernel_rfl) hmix (ac (vc_idx h_3 : idxA (List.map e_T_api_Value l_1) i_1 = some (e_T_api_Value x_1)) (ac gg_12 (ac gg_12 (ac gg_12 an)))) ?_
          replace h := Option.some.inj h; subst h
          exact ⟨rfl, (sub_wkm [] [] [.s 0, .s 1, .s 6, .s 7, .s 25] [] (by kernel_rfl) an)⟩
        · replace h := cond_f gg_12 h
          refine aw_region [(2, { av := e_T_api_Value x_1 }), (10, { b := false })] [0, 1, 6, 7, 23, 24, 25] [] 0 (vals := [.int .i64 k_1, .sl false 3 (List.map e_T_api_Value l_1), .sl false 1 (List.map (AV.int .u8) b_1), .int .i64 i_1, .int .i64 k_1, .bool (k_1 == (3 : Int)), .bool (k_1 == (3 : Int))]) (bxs := []) (by kernel_rfl) hmix (ac (vc_idx h_3 : idxA (List.map e_T_api_Value l_1) i_1 = some (e_T_api_Value x_1)) (ac gg_12 (ac gg_12 (ac gg_12 an)))) ?_
          replace h := Option.some.inj h; subst h
          exact ⟨rfl, (sub_wkm [] [] [.s 0, .s 1, .s 6, .s 7, .s 25] [] (by kernel_rfl) an)⟩
      refine aw_cond (t := 25) (b := p_1) (by kernel_rfl) (by kernel_rfl) ?_ ?_
      · intro g_2; replace h := cond_t g_2 h
        refine aw_seq (by kernel_rfl) ?_
        refine aw_region [] [4, 5] [] 0 (vals := [.nilsl, .bool false]) (bxs := []) (by kernel_rfl) hmix an ?_
        refine aw_sub (sub_wkm [] [] [.a 4 (.sl false 1 []), .s 5] [] (sl2 := [(4, .sl false 1 []), (5, .bool false)]) (bx2 := []) (by kernel_rfl) (ac (rfl : ([] : List AV) = []) an)) ?_
        refine aw_ret (by kernel_rfl) ?_
        replace h := Option.some.inj h; subst h
        exact ⟨rfl, Nat.le_of_ble_eq_true rfl, by kernel_rfl⟩
      intro g_2; replace h := cond_f g_2 h
      refine aw_skip (by kernel_rfl) ?_
      refine aw_seq (by kernel_rfl) ?_
      obtain ⟨x_2, h_5, h⟩ := bind_some h
      refine aw_region [(2, { av := e_T_api_Value x_2 })] [0, 1, 6, 7, 8] [] 0 (vals := [.int .i64 k_1, .sl false 3 (List.map e_T_api_Value l_1), .sl false 1 (List.map (AV.int .u8) b_1), .int .i64 i_1, .int .i64 x_2.N]) (bxs := []) (by kernel_rfl) hmix (ac (vc_idx h_5 : idxA (List.map e_T_api_Value l_1) i_1 = some (e_T_api_Value x_2)) an) ?_
      refine aw_seq (by kernel_rfl) ?_
      refine aw_seq (by kernel_rfl) ?_
      refine aw_region [] [0, 1, 6, 7, 8, 32] [] 0 (vals := [.int .i64 k_1, .sl false 3 (List.map e_T_api_Value l_1), .sl false 1 (List.map (AV.int .u8) b_1), .int .i64 i_1, .int .i64 x_2.N, .bool (decide (i_1 > (0 : Int)))]) (bxs := []) (by kernel_rfl) hmix an ?_
      refine aw_cond (t := 32) (b := (decide (i_1 > (0 : Int)))) (by kernel_rfl) (by kernel_rfl) ?_ ?_
      rotate_left
      · intro g_3; replace h := cond_f g_3 h
        refine aw_skip (by kernel_rfl) ?_
        obtain ⟨r_2, h_8, h⟩ := bind_some h
        refine aw_region [(2, { av := .own 0 ((r_2).length), ids := [0], l := [.sl false 1 (List.map (AV.int .u8) b_1), .int .i64 x_2.N], post := [(.row 5 1 (List.map (AV.int .u8) r_2))] })] [0, 1, 6, 7] [0] 1 (vals := [.int .i64 k_1, .sl false 3 (List.map e_T_api_Value l_1), .own 0 ((r_2).length), .int .i64 i_1]) (bxs := [.live (.row 5 1 (List.map (AV.int .u8) r_2))]) (by kernel_rfl) hmix (ac (rfl : ([.sl false 1 (List.map (AV.int .u8) b_1), .int .i64 x_2.N] : List AV) = [.sl false 1 (List.map (AV.int .u8) b_1), .int .i64 x_2.N]) (ac (rfl : ([] : List BoxSt) = []) (ac (R05_PutInt_ok F b_1 x_2.N r_2 h_8 : TripleG prog 38 [] [] [.sl false 1 (List.map (AV.int .u8) b_1), .int .i64 x_2.N] [(.row 5 1 (List.map (AV.int .u8) r_2))] (.own 0 ((r_2).length))) an))) ?_
        replace h := Option.some.inj h; subst h
        exact ⟨rfl, (sub_wkm [0] [] [.s 0, .s 1, .s 6, .s 7] [.s 0] (by kernel_rfl) an)⟩
      intro g_3; replace h := cond_t g_3 h
      obtain ⟨x_3, h_6, h⟩ := bind_some h
      refine aw_region [(4, { av := e_T_api_Value x_3 })] [0, 1, 6, 7, 8] [] 0 (vals := [.int .i64 k_1, .sl false 3 (List.map e_T_api_Value l_1), .sl false 1 (List.map (AV.int .u8) b_1), .int .i64 i_1, .int .i64 (w_i64 (x_2.N - x_3.N))]) (bxs := []) (by kernel_rfl) hmix (ac (vc_idx h_6 : idxA (List.map e_T_api_Value l_1) (w_i64 (i_1 - (1 : Int))) = some (e_T_api_Value x_3)) an) ?_
      obtain ⟨r_1, h_7, h⟩ := bind_some h
      refine aw_region [(2, { av := .own 0 ((r_1).length), ids := [0], l := [.sl false 1 (List.map (AV.int .u8) b_1), .int .i64 (w_i64 (x_2.N - x_3.N))], post := [(.row 5 1 (List.map (AV.int .u8) r_1))] })] [0, 1, 6, 7] [0] 1 (vals := [.int .i64 k_1, .sl false 3 (List.map e_T_api_Value l_1), .own 0 ((r_1).length), .int .i64 i_1]) (bxs := [.live (.row 5 1 (List.map (AV.int .u8) r_1))]) (by kernel_rfl) hmix (ac (rfl : ([.sl false 1 (List.map (AV.int .u8) b_1), .int .i64 (w_i64 (x_2.N - x_3.N))] : List AV) = [.sl false 1 (List.map (AV.int .u8) b_1), .int .i64 (w_i64 (x_2.N - x_3.N))]) (ac (rfl : ([] : List BoxSt) = []) (ac (R05_PutInt_ok F b_1 (w_i64 (x_2.N - x_3.N)) r_1 h_7 : TripleG prog 38 [] [] [.sl false 1 (List.map (AV.int .u8) b_1), .int .i64 (w_i64 (x_2.N - x_3.N))] [(.row 5 1 (List.map (AV.int .u8) r_1))] (.own 0 ((r_1).length))) an))) ?_
      replace h := Option.some.inj h; subst h
      exact ⟨rfl, (sub_wkm [0] [] [.s 0, .s 1, .s 6, .s 7] [.s 0] (by kernel_rfl) an)⟩
    intro e st1 hk
    rcases o_2 with q_1 | q_2
    rotate_left
    · obtain ⟨rfl, hf⟩ := hk
      replace h := Option.some.inj h; subst h
      exact ⟨_, Sub.refl _ _, rfl, hf⟩
    obtain ⟨rfl, hs⟩ := hk
    refine ⟨_, hs, ?_⟩
    refine aw_region [] [0, 1, 6, 7] [0] 1 (vals := [.int .i64 k_1, .sl false 3 (List.map e_T_api_Value l_1), .own 0 ((q_1).length), .int .i64 (w_i64 (i_1 + (1 : Int)))]) (bxs := [.live (.row 5 1 (List.map (AV.int .u8) q_1))]) (by kernel_rfl) hmix an ?_
    exact ⟨_, (Sub.trans (sub_wkm [] [0] [.s 0, .s 1, .a 6 (.sl false 1 (List.map (AV.int .u8) q_1)), .s 7] [] (sl2 := [(0, .int .i64 k_1), (1, .sl false 3 (List.map e_T_api_Value l_1)), (6, .sl false 1 (List.map (AV.int .u8) q_1)), (7, .int .i64 (w_i64 (i_1 + (1 : Int))))]) (bx2 := []) (by kernel_rfl) (ac (by first | (simp; done) | (simp; omega) : (q_1).length = ((List.map (AV.int .u8) q_1)).length) (ac (rfl : 1 = 1) (ac (rfl : ((List.map (AV.int .u8) q_1) : List AV) = (List.map (AV.int .u8) q_1)) (ac (rfl : (!false || false) = true) an))))) (sub_wkm [] [] [.s 0, .s 1, .s 6, .s 7] [] (by kernel_rfl) an)), _, _, rfl, h⟩
  intro e st1 hk
  rcases o_1 with q_3 | q_4
  rotate_left
  · obtain ⟨rfl, hf⟩ := hk
    replace h := Option.some.inj h; subst h
    exact ⟨st1, Sub.refl _ _, .inr rfl, hf⟩
  obtain ⟨rfl, hs⟩ := hk
  refine ⟨_, hs, ?_⟩
  refine aw_seq (by kernel_rfl) ?_
  refine aw_region [] [4, 5] [] 0 (vals := [.sl false 1 (List.map (AV.int .u8) q_3), .bool (k_1 != (3 : Int))]) (bxs := []) (by kernel_rfl) hmix an ?_
  refine aw_ret (by kernel_rfl) ?_
  replace h := Option.some.inj h; subst h
  exact ⟨.inr rfl, Nat.le_of_ble_eq_true rfl, by kernel_rfl⟩

theorem R33_at_ok (F : Nat) (l_1 : List (T_api_Value)) (a_1 : T_api_Value) (r : Int) (h : R33_at F l_1 a_1 = some r) : TripleG prog 39 [] [] [.sl false 3 (List.map e_T_api_Value l_1), e_T_api_Value a_1] [] (.int .i64 r) := by
  refine triple_intro (fn := Go.Proofs.Try.f39) (code := codeOf Go.Proofs.Try.f39) (by kernel_rfl) (by kernel_rfl) (Nat.le_of_ble_eq_true (by kernel_rfl)) ?_
  unfold R33_at at h
  refine aw_seq (by kernel_rfl) ?_
  refine aw_region [(0, { id := 0 })] [0, 3] [0] 1 (vals := [.sl false 3 (List.map e_T_api_Value l_1), .ptr 0 0 0 0]) (bxs := [.live (.var 24 (v_T_api_Value a_1))]) (by kernel_rfl) hmix an ?_
  refine aw_seq (by kernel_rfl) ?_
  refine aw_seq (by kernel_rfl) ?_
  refine aw_region [] [0, 3, 5] [0] 1 (vals := [.sl false 3 (List.map e_T_api_Value l_1), .ptr 0 0 0 0, .int .i64 (0 : Int)]) (bxs := [.live (.var 24 (v_T_api_Value a_1))]) (by kernel_rfl) hmix an ?_
  obtain ⟨o_1, h_1, h⟩ := bind_some h
  refine aw_conv (K1 := (fun e st' => match o_1 with | (.inl q0) => e = .normal ∧ Sub 0 st' (mk [] [] 0) | (.inr q1) => e = .ret ∧ FinR prog Go.Proofs.Try.f39 0 [] (.int .i64 q1) st')) ?_ ?_
  · replace h := h_1
    refine aw_block (id := 0) (by kernel_rfl) ?_
    refine aw_sub (sub_wkm [0] [] [.s 0, .s 3, .s 5] [.s 0] (sl2 := [(0, .sl false 3 (List.map e_T_api_Value l_1)), (3, .ptr 0 0 0 0), (5, .int .i64 (0 : Int))]) (bx2 := [(0, .live (.var 24 (v_T_api_Value a_1)))]) (by kernel_rfl) an) ?_
    refine aw_loopF (fun n st => ∃ (i_1 : Int), st = mk [(0, .sl false 3 (List.map e_T_api_Value l_1)), (3, .ptr 0 0 0 0), (5, .int .i64 i_1)] [(0, .live (.var 24 (v_T_api_Value a_1)))] 1 ∧ R33_at_L1 F l_1 a_1 n i_1 = some o_1) F (by kernel_rfl) ⟨_, rfl, h⟩ ?_ ?_
    · rintro _ ⟨_, _, h⟩; exact none_ne (h : (none : Option (Unit ⊕ Int)) = some o_1)
    rintro n_1 _ ⟨i_1, rfl, h⟩
    replace h : R33_at_L1_body F l_1 a_1 (R33_at_L1 F l_1 a_1 n_1) i_1 = some o_1 := h
    unfold R33_at_L1_body at h
    refine aw_seq (by kernel_rfl) ?_
    refine aw_seq (by kernel_rfl) ?_
    refine aw_region [(2, { n := (l_1).length })] [0, 3, 5, 9] [0] 1 (vals := [.sl false 3 (List.map e_T_api_Value l_1), .ptr 0 0 0 0, .int .i64 i_1, .bool (decide (i_1 < (((l_1).length : Nat) : Int)))]) (bxs := [.live (.var 24 (v_T_api_Value a_1))]) (by kernel_rfl) hmix (ac (vc_len _ : ((List.map e_T_api_Value l_1)).length = (l_1).length) an) ?_
    refine aw_cond (t := 9) (b := (decide (i_1 < (((l_1).length : Nat) : Int)))) (by kernel_rfl) (by kernel_rfl) ?_ ?_
    rotate_left
    · intro g_1; replace h := cond_f g_1 h
      refine aw_exit (id := 0) (by kernel_rfl) ?_
      replace h := Option.some.inj h; subst h
      exact ⟨rfl, (sub_wkm [] [] [] [] (by kernel_rfl) an)⟩
    intro g_1; replace h := cond_t g_1 h
    refine aw_skip (by kernel_rfl) ?_
    refine aw_seq (by kernel_rfl) ?_
    refine aw_block (id := 1) (by kernel_rfl) ?_
    refine aw_seq (by kernel_rfl) ?_
    obtain ⟨x_1, h_2, h⟩ := bind_some h
    refine aw_region [(2, { av := e_T_api_Value x_1 }), (5, { b := (decide (x_1 = a_1)), mks := [.int .i64, .int .i64, .str] })] [0, 3, 5, 17] [0] 1 (vals := [.sl false 3 (List.map e_T_api_Value l_1), .ptr 0 0 0 0, .int .i64 i_1, .bool (decide (x_1 = a_1))]) (bxs := [.live (.var 24 (v_T_api_Value a_1))]) (by kernel_rfl) hmix (ac (vc_idx h_2 : idxA (List.map e_T_api_Value l_1) i_1 = some (e_T_api_Value x_1)) (ac (eqOk_24 : EqOk prog 24 [.int .i64, .int .i64, .str]) (ac (vc_eqA (f := e_T_api_Value) inj_T_api_Value x_1 a_1 : ((decide (x_1 = a_1)) = true ↔ AV.agg [.int .i64 x_1.Kind, .int .i64 x_1.N, .str x_1.S] = AV.agg [.int .i64 a_1.Kind, .int .i64 a_1.N, .str a_1.S])) an))) ?_
    refine aw_cond (t := 17) (b := (decide (x_1 = a_1))) (by kernel_rfl) (by kernel_rfl) ?_ ?_
    rotate_left
    · intro g_2; replace h := cond_f g_2 h
      refine aw_skip (by kernel_rfl) ?_
      refine aw_region [] [0, 3, 5] [0] 1 (vals := [.sl false 3 (List.map e_T_api_Value l_1), .ptr 0 0 0 0, .int .i64 (w_i64 (i_1 + (1 : Int)))]) (bxs := [.live (.var 24 (v_T_api_Value a_1))]) (by kernel_rfl) hmix an ?_
      exact ⟨_, (sub_wkm [0] [] [.s 0, .s 3, .s 5] [.s 0] (by kernel_rfl) an), _, rfl, h⟩
    intro g_2; replace h := cond_t g_2 h
    refine aw_seq (by kernel_rfl) ?_
    refine aw_region [] [4] [] 1 (vals := [.int .i64 i_1]) (bxs := []) (by kernel_rfl) hmix an ?_
    refine aw_ret (by kernel_rfl) ?_
    replace h := Option.some.inj h; subst h
    exact ⟨rfl, Nat.le_of_ble_eq_true rfl, by kernel_rfl⟩
  intro e st1 hk
  rcases o_1 with q_1 | q_2
  rotate_left
  · obtain ⟨rfl, hf⟩ := hk
    replace h := Option.some.inj h; subst h
    exact ⟨st1, Sub.refl _ _, .inr rfl, hf⟩
  obtain ⟨rfl, hs⟩ := hk
  refine ⟨_, hs, ?_⟩
  refine aw_seq (by kernel_rfl) ?_
  refine aw_region [] [4] [] 0 (vals := [.int .i64 (-1 : Int)]) (bxs := []) (by kernel_rfl) hmix an ?_
  refine aw_ret (by kernel_rfl) ?_
  replace h := Option.some.inj h; subst h
  exact ⟨.inr rfl, Nat.le_of_ble_eq_true rfl, by kernel_rfl⟩

theorem R33_dictionary_ok (F : Nat) (l_1 : List (T_api_Value)) (r : (List (Int))) (h : R33_dictionary F l_1 = some r) : TripleG prog 30 [] [] [.sl false 3 (List.map e_T_api_Value l_1)] [.row 5 1 (List.map (AV.int .u8) r)] (.own 0 ((r).length)) := by
  refine triple_intro (fn := Go.Proofs.Try.f30) (code := codeOf Go.Proofs.Try.f30) (by kernel_rfl) (by kernel_rfl) (Nat.le_of_ble_eq_true (by kernel_rfl)) ?_
  unfold R33_dictionary at h
  refine aw_seq (by kernel_rfl) ?_
  refine aw_region [(0, { id := 0, m := 1 })] [0] [] 1 (vals := [.sl false 3 (List.map e_T_api_Value l_1)]) (bxs := []) (by kernel_rfl) hmix an ?_
  refine aw_seq (by kernel_rfl) ?_
  refine aw_region [(0, { id := 1, m := 1 })] [0, 3] [1] 2 (vals := [.sl false 3 (List.map e_T_api_Value l_1), .own 1 0]) (bxs := [.live (.row 24 3 [])]) (by kernel_rfl) hmix an ?_
  refine aw_seq (by kernel_rfl) ?_
  refine aw_region [] [0, 3, 4] [1] 2 (vals := [.sl false 3 (List.map e_T_api_Value l_1), .own 1 0, .nilsl]) (bxs := [.live (.row 24 3 [])]) (by kernel_rfl) hmix an ?_
  refine aw_seq (by kernel_rfl) ?_
  refine aw_seq (by kernel_rfl) ?_
  refine aw_region [] [0, 3, 4, 5] [1] 2 (vals := [.sl false 3 (List.map e_T_api_Value l_1), .own 1 0, .nilsl, .int .i64 (0 : Int)]) (bxs := [.live (.row 24 3 [])]) (by kernel_rfl) hmix an ?_
  obtain ⟨o_1, h_1, h⟩ := bind_some h
  refine aw_mid (mk [(3, .own 0 ((o_1.2).length)), (4, .sl false 1 (List.map (AV.int .u8) o_1.1))] [(0, .live (.row 24 3 (List.map e_T_api_Value o_1.2)))] 1) ?_ ?_
  · replace h := h_1
    refine aw_block (id := 0) (by kernel_rfl) ?_
    refine aw_sub (sub_wkm [1] [] [.s 0, .s 3, .a 4 (.sl false 1 []), .s 5] [.s 0] (sl2 := [(0, .sl false 3 (List.map e_T_api_Value l_1)), (3, .own 0 0), (4, .sl false 1 []), (5, .int .i64 (0 : Int))]) (bx2 := [(0, .live (.row 24 3 []))]) (by kernel_rfl) (ac (rfl : ([] : List AV) = []) an)) ?_
    refine aw_loopF (fun n st => ∃ (tail_1 : List Int), ∃ (i_1 : Int), ∃ (row_1 : List T_api_Value), st = mk [(0, .sl false 3 (List.map e_T_api_Value l_1)), (3, .own 0 ((row_1).length)), (4, .sl false 1 (List.map (AV.int .u8) tail_1)), (5, .int .i64 i_1)] [(0, .live (.row 24 3 (List.map e_T_api_Value row_1)))] 1 ∧ R33_dictionary_L1 F l_1 n tail_1 i_1 row_1 = some o_1) F (by kernel_rfl) ⟨_, _, _, rfl, h⟩ ?_ ?_
    · rintro _ ⟨_, _, _, _, h⟩; exact none_ne (h : (none : Option ((List Int) × (List T_api_Value))) = some o_1)
    rintro n_1 _ ⟨tail_1, i_1, row_1, rfl, h⟩
    replace h : R33_dictionary_L1_body F l_1 (R33_dictionary_L1 F l_1 n_1) tail_1 i_1 row_1 = some o_1 := h
    unfold R33_dictionary_L1_body at h
    refine aw_seq (by kernel_rfl) ?_
    refine aw_seq (by kernel_rfl) ?_
    refine aw_region [(2, { n := (l_1).length })] [0, 3, 4, 5, 10] [0] 1 (vals := [.sl false 3 (List.map e_T_api_Value l_1), .own 0 ((row_1).length), .sl false 1 (List.map (AV.int .u8) tail_1), .int .i64 i_1, .bool (decide (i_1 < (((l_1).length : Nat) : Int)))]) (bxs := [.live (.row 24 3 (List.map e_T_api_Value row_1))]) (by kernel_rfl) hmix (ac (vc_len _ : ((List.map e_T_api_Value l_1)).length = (l_1).length) an) ?_
    refine aw_cond (t := 10) (b := (decide (i_1 < (((l_1).length : Nat) : Int)))) (by kernel_rfl) (by kernel_rfl) ?_ ?_
    rotate_left
    · intro g_1; replace h := cond_f g_1 h
      refine aw_exit (id := 0) (by kernel_rfl) ?_
      replace h := Option.some.inj h; subst h
      exact ⟨rfl, (sub_wkm [0] [] [.s 3, .s 4] [.s 0] (by kernel_rfl) an)⟩
    intro g_1; replace h := cond_t g_1 h
    refine aw_skip (by kernel_rfl) ?_
    refine aw_seq (by kernel_rfl) ?_
    obtain ⟨o_2, h_2, h⟩ := bind_some h
    refine aw_mid (mk [(0, .sl false 3 (List.map e_T_api_Value l_1)), (3, .own 0 ((o_2.1).length)), (4, .own 1 ((o_2.2).length)), (5, .int .i64 i_1)] [(0, .live (.row 24 3 (List.map e_T_api_Value o_2.1))), (1, .live (.row 5 1 (List.map (AV.int .u8) o_2.2)))] 2) ?_ ?_
    · replace h := h_2
      refine aw_block (id := 1) (by kernel_rfl) ?_
      refine aw_seq (by kernel_rfl) ?_
      refine aw_seq (by kernel_rfl) ?_
      obtain ⟨x_1, h_3, h⟩ := bind_some h
      obtain ⟨r_1, h_4, h⟩ := bind_some h
      refine aw_region [(3, { av := e_T_api_Value x_1 }), (5, { av := .int .i64 r_1, l := [.sl false 3 (List.map e_T_api_Value row_1), e_T_api_Value x_1], lend := [0] })] [0, 3, 4, 5, 19] [0] 1 (vals := [.sl false 3 (List.map e_T_api_Value l_1), .own 0 ((row_1).length), .sl false 1 (List.map (AV.int .u8) tail_1), .int .i64 i_1, .bool (decide (r_1 < (0 : Int)))]) (bxs := [.live (.row 24 3 (List.map e_T_api_Value row_1))]) (by kernel_rfl) hmix (ac (vc_idx h_3 : idxA (List.map e_T_api_Value l_1) i_1 = some (e_T_api_Value x_1)) (ac (by first | (simp; done) | (simp; omega) : (row_1).length = ((List.map e_T_api_Value row_1)).length) (ac (rfl : ([.sl false 3 (List.map e_T_api_Value row_1), e_T_api_Value x_1] : List AV) = [.sl false 3 (List.map e_T_api_Value row_1), e_T_api_Value x_1]) (ac (rfl : ([] : List BoxSt) = []) (ac (R33_at_ok F row_1 x_1 r_1 h_4 : TripleG prog 39 [] [] [.sl false 3 (List.map e_T_api_Value row_1), e_T_api_Value x_1] [] (.int .i64 r_1)) an))))) ?_
      obtain ⟨o_3, h_5, h⟩ := bind_some h
      refine aw_mid (mk [(0, .sl false 3 (List.map e_T_api_Value l_1)), (3, .own 0 ((o_3).length)), (4, .sl false 1 (List.map (AV.int .u8) tail_1)), (5, .int .i64 i_1)] [(0, .live (.row 24 3 (List.map e_T_api_Value o_3)))] 1) ?_ ?_
      · replace h := h_5
        refine aw_cond (t := 19) (b := (decide (r_1 < (0 : Int)))) (by kernel_rfl) (by kernel_rfl) ?_ ?_
        rotate_left
        · intro g_2; replace h := cond_f g_2 h
          refine aw_skip (by kernel_rfl) ?_
          replace h := Option.some.inj h; subst h
          exact ⟨rfl, (sub_wkm [0] [] [.s 0, .s 3, .s 4, .s 5] [.s 0] (by kernel_rfl) an)⟩
        intro g_2; replace h := cond_t g_2 h
        obtain ⟨x_2, h_6, h⟩ := bind_some h
        obtain ⟨_, h_7, h⟩ := bind_some h; replace h_7 := need_some h_7
        refine aw_region [(3, { av := e_T_api_Value x_2 }), (5, { id := 1 }), (6, { id := 2, l := (List.map e_T_api_Value (row_1 ++ ([x_2] : List T_api_Value))), n := ((row_1 ++ ([x_2] : List T_api_Value))).length })] [0, 3, 4, 5] [2] 3 (vals := [.sl false 3 (List.map e_T_api_Value l_1), .own 2 (((row_1 ++ ([x_2] : List T_api_Value))).length), .sl false 1 (List.map (AV.int .u8) tail_1), .int .i64 i_1]) (bxs := [.live (.row 24 3 (List.map e_T_api_Value (row_1 ++ ([x_2] : List T_api_Value))))]) (by kernel_rfl) hmix (ac (vc_idx h_6 : idxA (List.map e_T_api_Value l_1) i_1 = some (e_T_api_Value x_2)) (ac (by first | (simp; done) | (simp; omega) : (row_1).length = ((List.map e_T_api_Value row_1)).length) (ac (by first | (simp; done) | (simp; omega) : 1 = ((List.map e_T_api_Value ([x_2] : List T_api_Value))).length) (ac (vc_app _ _ : (List.map e_T_api_Value (row_1 ++ ([x_2] : List T_api_Value))) = (List.map e_T_api_Value row_1) ++ (List.map e_T_api_Value ([x_2] : List T_api_Value))) (ac (by simp : ((row_1 ++ ([x_2] : List T_api_Value))).length = ((List.map e_T_api_Value (row_1 ++ ([x_2] : List T_api_Value)))).length) (ac (by first | (simp; done) | simpa using h_7 : (((List.map e_T_api_Value row_1) : List AV).length + ((List.map e_T_api_Value ([x_2] : List T_api_Value)) : List AV).length) * 32 ≤ 140737488355328) an)))))) ?_
        replace h := Option.some.inj h; subst h
        exact ⟨rfl, (sub_wkm [2] [] [.s 0, .s 3, .s 4, .s 5] [.s 0] (by kernel_rfl) an)⟩
      obtain ⟨x_3, h_8, h⟩ := bind_some h
      obtain ⟨r_2, h_9, h⟩ := bind_some h
      obtain ⟨r_3, h_10, h⟩ := bind_some h
      refine aw_region [(4, { av := e_T_api_Value x_3 }), (6, { av := .int .i64 r_2, l := [.sl false 3 (List.map e_T_api_Value o_3), e_T_api_Value x_3], lend := [0] }), (7, { av := .own 0 ((r_3).length), ids := [1], l := [.sl false 1 (List.map (AV.int .u8) tail_1), .int .i64 r_2], post := [(.row 5 1 (List.map (AV.int .u8) r_3))] })] [0, 3, 4, 5] [0, 1] 2 (vals := [.sl false 3 (List.map e_T_api_Value l_1), .own 0 ((o_3).length), .own 1 ((r_3).length), .int .i64 i_1]) (bxs := [.live (.row 24 3 (List.map e_T_api_Value o_3)), .live (.row 5 1 (List.map (AV.int .u8) r_3))]) (by kernel_rfl) hmix (ac (vc_idx h_8 : idxA (List.map e_T_api_Value l_1) i_1 = some (e_T_api_Value x_3)) (ac (by first | (simp; done) | (simp; omega) : (o_3).length = ((List.map e_T_api_Value o_3)).length) (ac (rfl : ([.sl false 3 (List.map e_T_api_Value o_3), e_T_api_Value x_3] : List AV) = [.sl false 3 (List.map e_T_api_Value o_3), e_T_api_Value x_3]) (ac (rfl : ([] : List BoxSt) = []) (ac (R33_at_ok F o_3 x_3 r_2 h_9 : TripleG prog 39 [] [] [.sl false 3 (List.map e_T_api_Value o_3), e_T_api_Value x_3] [] (.int .i64 r_2)) (ac (rfl : ([.sl false 1 (List.map (AV.int .u8) tail_1), .int .i64 r_2] : List AV) = [.sl false 1 (List.map (AV.int .u8) tail_1), .int .i64 r_2]) (ac (rfl : ([] : List BoxSt) = []) (ac (R05_PutInt_ok F tail_1 r_2 r_3 h_10 : TripleG prog 38 [] [] [.sl false 1 (List.map (AV.int .u8) tail_1), .int .i64 r_2] [(.row 5 1 (List.map (AV.int .u8) r_3))] (.own 0 ((r_3).length))) an)))))))) ?_
      replace h := Option.some.inj h; subst h
      exact ⟨rfl, (sub_wkm [0, 1] [] [.s 0, .s 3, .s 4, .s 5] [.s 0, .s 1] (by kernel_rfl) an)⟩
    refine aw_region [] [0, 3, 4, 5] [0, 1] 2 (vals := [.sl false 3 (List.map e_T_api_Value l_1), .own 0 ((o_2.1).length), .own 1 ((o_2.2).length), .int .i64 (w_i64 (i_1 + (1 : Int)))]) (bxs := [.live (.row 24 3 (List.map e_T_api_Value o_2.1)), .live (.row 5 1 (List.map (AV.int .u8) o_2.2))]) (by kernel_rfl) hmix an ?_
    exact ⟨_, (Sub.trans (sub_wkm [0] [1] [.s 0, .s 3, .a 4 (.sl false 1 (List.map (AV.int .u8) o_2.2)), .s 5] [.s 0] (sl2 := [(0, .sl false 3 (List.map e_T_api_Value l_1)), (3, .own 0 ((o_2.1).length)), (4, .sl false 1 (List.map (AV.int .u8) o_2.2)), (5, .int .i64 (w_i64 (i_1 + (1 : Int))))]) (bx2 := [(0, .live (.row 24 3 (List.map e_T_api_Value o_2.1)))]) (by kernel_rfl) (ac (by first | (simp; done) | (simp; omega) : (o_2.2).length = ((List.map (AV.int .u8) o_2.2)).length) (ac (rfl : 1 = 1) (ac (rfl : ((List.map (AV.int .u8) o_2.2) : List AV) = (List.map (AV.int .u8) o_2.2)) (ac (rfl : (!false || false) = true) an))))) (sub_wkm [0] [] [.s 0, .s 3, .s 4, .s 5] [.s 0] (by kernel_rfl) an)), _, _, _, rfl, h⟩
  refine aw_seq (by kernel_rfl) ?_
  obtain ⟨r_4, h_11, h⟩ := bind_some h
  obtain ⟨r_5, h_12, h⟩ := bind_some h
  obtain ⟨_, h_13, h⟩ := bind_some h; replace h_13 := need_some h_13
  refine aw_region [(2, { av := .own 0 ((r_4).length), ids := [1], l := [.nilsl, .int .i64 (((o_1.2).length : Nat) : Int)], post := [(.row 5 1 (List.map (AV.int .u8) r_4))] }), (4, { av := .own 0 ((r_5).length), frz := [0], ids := [2], l := [.sl false 3 (List.map e_T_api_Value o_1.2)], post := [(.row 5 1 (List.map (AV.int .u8) r_5))] }), (5, { id := 3, l := (List.map (AV.int .u8) (r_4 ++ r_5)), n := ((r_4 ++ r_5)).length })] [4, 6] [3] 4 (vals := [.sl false 1 (List.map (AV.int .u8) o_1.1), .own 3 (((r_4 ++ r_5)).length)]) (bxs := [.live (.row 5 1 (List.map (AV.int .u8) (r_4 ++ r_5)))]) (by kernel_rfl) hmix (ac (rfl : ([.nilsl, .int .i64 (((o_1.2).length : Nat) : Int)] : List AV) = [.nilsl, .int .i64 (((o_1.2).length : Nat) : Int)]) (ac (rfl : ([] : List BoxSt) = []) (ac (triple_lo (args' := [.sl false 1 [], .int .i64 (((o_1.2).length : Nat) : Int)]) (R05_PutInt_ok F [] (((o_1.2).length : Nat) : Int) r_4 h_11) rfl ⟨rfl, rfl, trivial⟩ : TripleG prog 38 [] [] [.nilsl, .int .i64 (((o_1.2).length : Nat) : Int)] [(.row 5 1 (List.map (AV.int .u8) r_4))] (.own 0 ((r_4).length))) (ac (by first | (simp; done) | (simp; omega) : (o_1.2).length = ((List.map e_T_api_Value o_1.2)).length) (ac (rfl : ([.sl false 3 (List.map e_T_api_Value o_1.2)] : List AV) = [.sl false 3 (List.map e_T_api_Value o_1.2)]) (ac (rfl : ([] : List BoxSt) = []) (ac (R33_plain_ok F o_1.2 r_5 h_12 : TripleG prog 27 [] [] [.sl false 3 (List.map e_T_api_Value o_1.2)] [(.row 5 1 (List.map (AV.int .u8) r_5))] (.own 0 ((r_5).length))) (ac (by first | (simp; done) | (simp; omega) : (r_4).length = ((List.map (AV.int .u8) r_4)).length) (ac (by first | (simp; done) | (simp; omega) : (r_5).length = ((List.map (AV.int .u8) r_5)).length) (ac (vc_app _ _ : (List.map (AV.int .u8) (r_4 ++ r_5)) = (List.map (AV.int .u8) r_4) ++ (List.map (AV.int .u8) r_5)) (ac (by simp : ((r_4 ++ r_5)).length = ((List.map (AV.int .u8) (r_4 ++ r_5))).length) (ac (by first | (simp; done) | simpa using h_13 : (((List.map (AV.int .u8) r_4) : List AV).length + ((List.map (AV.int .u8) r_5) : List AV).length) * 1 ≤ 140737488355328) an)))))))))))) ?_
  refine aw_seq (by kernel_rfl) ?_
  obtain ⟨_, h_14, h⟩ := bind_some h; replace h_14 := need_some h_14
  refine aw_region [(2, { id := 4, l := (List.map (AV.int .u8) ((r_4 ++ r_5) ++ o_1.1)), n := (((r_4 ++ r_5) ++ o_1.1)).length })] [2] [4] 5 (vals := [.own 4 ((((r_4 ++ r_5) ++ o_1.1)).length)]) (bxs := [.live (.row 5 1 (List.map (AV.int .u8) ((r_4 ++ r_5) ++ o_1.1)))]) (by kernel_rfl) hmix (ac (by first | (simp; done) | (simp; omega) : ((r_4 ++ r_5)).length = ((List.map (AV.int .u8) (r_4 ++ r_5))).length) (ac (trivial : True) (ac (vc_app _ _ : (List.map (AV.int .u8) ((r_4 ++ r_5) ++ o_1.1)) = (List.map (AV.int .u8) (r_4 ++ r_5)) ++ (List.map (AV.int .u8) o_1.1)) (ac (by simp : (((r_4 ++ r_5) ++ o_1.1)).length = ((List.map (AV.int .u8) ((r_4 ++ r_5) ++ o_1.1))).length) (ac (by first | (simp; done) | simpa using h_14 : (((List.map (AV.int .u8) (r_4 ++ r_5)) : List AV).length + ((List.map (AV.int .u8) o_1.1) : List AV).length) * 1 ≤ 140737488355328) an))))) ?_
  refine aw_sub (sub_wkm [4] [] [.s 2] [.s 0] (sl2 := [(2, .own 0 ((((r_4 ++ r_5) ++ o_1.1)).length))]) (bx2 := [(0, .live (.row 5 1 (List.map (AV.int .u8) ((r_4 ++ r_5) ++ o_1.1))))]) (by kernel_rfl) an) ?_
  refine aw_ret (by kernel_rfl) ?_
  replace h := Option.some.inj h; subst h
  exact ⟨.inr rfl, Nat.le_of_ble_eq_true rfl, by kernel_rfl⟩

theorem R33_Encode_ok (F : Nat) (k_1 : Int) (l_1 : List (T_api_Value)) (r : T_api_Packed × Int) (h : R33_Encode F k_1 l_1 = some r) : TripleG prog 13 [] [] [.int .i64 k_1, .sl false 3 (List.map e_T_api_Value l_1)] [] (.tuple [e_T_api_Packed r.1, .int .i64 r.2]) := by
  refine triple_intro (fn := Go.Proofs.Try.f13) (code := codeOf Go.Proofs.Try.f13) (by kernel_rfl) (by kernel_rfl) (Nat.le_of_ble_eq_true (by kernel_rfl)) ?_
  unfold R33_Encode at h
  refine aw_seq (by kernel_rfl) ?_
  refine aw_region [(0, { id := 0 })] [0, 1, 4] [0] 1 (vals := [.int .i64 k_1, .sl false 3 (List.map e_T_api_Value l_1), .ptr 0 0 0 0]) (bxs := [.live (.var 33 [.int .i64 (0 : Int), .int .i64 (0 : Int), .nilsl])]) (by kernel_rfl) hmix an ?_
  refine aw_seq (by kernel_rfl) ?_
  refine aw_seq (by kernel_rfl) ?_
  refine aw_mid (mk [(0, .int .i64 k_1), (1, .sl false 3 (List.map e_T_api_Value l_1)), (4, .ptr 0 0 0 0), (17, .bool (decide (k_1 < (1 : Int)) || decide (k_1 > (3 : Int))))] [(0, .live (.var 33 [.int .i64 (0 : Int), .int .i64 (0 : Int), .nilsl]))] 1) ?_ ?_
  · rcases Bool.eq_false_or_eq_true (decide (k_1 < (1 : Int))) with gg_1 | gg_1
    · refine aw_region [(3, { g := false }), (4, { g := false }), (5, { b := true })] [0, 1, 4, 17] [0] 1 (vals := [.int .i64 k_1, .sl false 3 (List.map e_T_api_Value l_1), .ptr 0 0 0 0, .bool true]) (bxs := [.live (.var 33 [.int .i64 (0 : Int), .int .i64 (0 : Int), .nilsl])]) (by kernel_rfl) hmix (ac gg_1 (ac gg_1 (ac gg_1 an))) ?_
      exact ⟨rfl, (sub_wkm [0] [] [.s 0, .s 1, .s 4, .a 17 (.bool (decide (k_1 < (1 : Int)) || decide (k_1 > (3 : Int))))] [.s 0] (by kernel_rfl) (ac (congrArg AV.bool (ort gg_1) : (.bool true : AV) = .bool (decide (k_1 < (1 : Int)) || decide (k_1 > (3 : Int)))) an))⟩
    · refine aw_region [(5, { b := false })] [0, 1, 4, 17] [0] 1 (vals := [.int .i64 k_1, .sl false 3 (List.map e_T_api_Value l_1), .ptr 0 0 0 0, .bool (decide (k_1 > (3 : Int)))]) (bxs := [.live (.var 33 [.int .i64 (0 : Int), .int .i64 (0 : Int), .nilsl])]) (by kernel_rfl) hmix (ac gg_1 (ac gg_1 (ac gg_1 an))) ?_
      exact ⟨rfl, (sub_wkm [0] [] [.s 0, .s 1, .s 4, .a 17 (.bool (decide (k_1 < (1 : Int)) || decide (k_1 > (3 : Int))))] [.s 0] (by kernel_rfl) (ac (congrArg AV.bool (orf gg_1 rfl) : (.bool (decide (k_1 > (3 : Int))) : AV) = .bool (decide (k_1 < (1 : Int)) || decide (k_1 > (3 : Int)))) an))⟩
  refine aw_cond (t := 17) (b := (decide (k_1 < (1 : Int)) || decide (k_1 > (3 : Int)))) (by kernel_rfl) (by kernel_rfl) ?_ ?_
  · intro g_1; replace h := cond_t g_1 h
    refine aw_seq (by kernel_rfl) ?_
    refine aw_region [] [4, 5] [0] 1 (vals := [.ptr 0 0 0 0, .int .i64 (1 : Int)]) (bxs := [.live (.var 33 [.int .i64 (0 : Int), .int .i64 (0 : Int), .nilsl])]) (by kernel_rfl) hmix an ?_
    refine aw_sub (sub_wkm [0] [] [.s 4, .s 5] [.a 0 (.live (.var 33 (v_T_api_Packed (⟨(0 : Int), (0 : Int), []⟩ : T_api_Packed))))] (sl2 := [(4, .ptr 0 0 0 0), (5, .int .i64 (1 : Int))]) (bx2 := [(0, .live (.var 33 (v_T_api_Packed (⟨(0 : Int), (0 : Int), []⟩ : T_api_Packed))))]) (by kernel_rfl) (ac (rfl : 33 = 33) (ac (rfl : ones [.int .i64 ((⟨(0 : Int), (0 : Int), []⟩ : T_api_Packed).Type_), .int .i64 ((⟨(0 : Int), (0 : Int), []⟩ : T_api_Packed).N), .sl false 1 (List.map (AV.int .u8) ((⟨(0 : Int), (0 : Int), []⟩ : T_api_Packed).Bytes))] = true) (ac (rfl : (.int .i64 (0 : Int) : AV) = .int .i64 ((⟨(0 : Int), (0 : Int), []⟩ : T_api_Packed).Type_)) (ac (rfl : (.int .i64 (0 : Int) : AV) = .int .i64 ((⟨(0 : Int), (0 : Int), []⟩ : T_api_Packed).N)) (ac (rfl : ((List.map (AV.int .u8) ((⟨(0 : Int), (0 : Int), []⟩ : T_api_Packed).Bytes)) : List AV) = []) an)))))) ?_
    refine aw_ret (by kernel_rfl) ?_
    replace h := Option.some.inj h; subst h
    exact ⟨.inr rfl, Nat.le_of_ble_eq_true rfl, by kernel_rfl⟩
  intro g_1; replace h := cond_f g_1 h
  refine aw_skip (by kernel_rfl) ?_
  refine aw_seq (by kernel_rfl) ?_
  refine aw_seq (by kernel_rfl) ?_
  refine aw_region [(1, { n := (l_1).length })] [0, 1, 4, 21] [0] 1 (vals := [.int .i64 k_1, .sl false 3 (List.map e_T_api_Value l_1), .ptr 0 0 0 0, .bool (decide ((((l_1).length : Nat) : Int) > (20000 : Int)))]) (bxs := [.live (.var 33 [.int .i64 (0 : Int), .int .i64 (0 : Int), .nilsl])]) (by kernel_rfl) hmix (ac (vc_len _ : ((List.map e_T_api_Value l_1)).length = (l_1).length) an) ?_
  refine aw_cond (t := 21) (b := (decide ((((l_1).length : Nat) : Int) > (20000 : Int)))) (by kernel_rfl) (by kernel_rfl) ?_ ?_
  · intro g_2; replace h := cond_t g_2 h
    refine aw_seq (by kernel_rfl) ?_
    refine aw_region [] [4, 5] [0] 1 (vals := [.ptr 0 0 0 0, .int .i64 (7 : Int)]) (bxs := [.live (.var 33 [.int .i64 (0 : Int), .int .i64 (0 : Int), .nilsl])]) (by kernel_rfl) hmix an ?_
    refine aw_sub (sub_wkm [0] [] [.s 4, .s 5] [.a 0 (.live (.var 33 (v_T_api_Packed (⟨(0 : Int), (0 : Int), []⟩ : T_api_Packed))))] (sl2 := [(4, .ptr 0 0 0 0), (5, .int .i64 (7 : Int))]) (bx2 := [(0, .live (.var 33 (v_T_api_Packed (⟨(0 : Int), (0 : Int), []⟩ : T_api_Packed))))]) (by kernel_rfl) (ac (rfl : 33 = 33) (ac (rfl : ones [.int .i64 ((⟨(0 : Int), (0 : Int), []⟩ : T_api_Packed).Type_), .int .i64 ((⟨(0 : Int), (0 : Int), []⟩ : T_api_Packed).N), .sl false 1 (List.map (AV.int .u8) ((⟨(0 : Int), (0 : Int), []⟩ : T_api_Packed).Bytes))] = true) (ac (rfl : (.int .i64 (0 : Int) : AV) = .int .i64 ((⟨(0 : Int), (0 : Int), []⟩ : T_api_Packed).Type_)) (ac (rfl : (.int .i64 (0 : Int) : AV) = .int .i64 ((⟨(0 : Int), (0 : Int), []⟩ : T_api_Packed).N)) (ac (rfl : ((List.map (AV.int .u8) ((⟨(0 : Int), (0 : Int), []⟩ : T_api_Packed).Bytes)) : List AV) = []) an)))))) ?_
    refine aw_ret (by kernel_rfl) ?_
    replace h := Option.some.inj h; subst h
    exact ⟨.inr rfl, Nat.le_of_ble_eq_true rfl, by kernel_rfl⟩
  intro g_2; replace h := cond_f g_2 h
  refine aw_skip (by kernel_rfl) ?_
  refine aw_seq (by kernel_rfl) ?_
  refine aw_seq (by kernel_rfl) ?_
  refine aw_region [] [0, 1, 4, 6] [0] 1 (vals := [.int .i64 k_1, .sl false 3 (List.map e_T_api_Value l_1), .ptr 0 0 0 0, .int .i64 (0 : Int)]) (bxs := [.live (.var 33 [.int .i64 (0 : Int), .int .i64 (0 : Int), .nilsl])]) (by kernel_rfl) hmix an ?_
  obtain ⟨o_1, h_1, h⟩ := bind_some h
  refine aw_conv (K1 := (fun e st' => match o_1 with | (.inl q0) => e = .normal ∧ Sub 0 st' (mk [(0, .int .i64 k_1), (1, .sl false 3 (List.map e_T_api_Value l_1)), (4, .ptr 0 0 0 0)] [(0, .live (.var 33 [.int .i64 (0 : Int), .int .i64 (0 : Int), .nilsl]))] 1) | (.inr q1) => e = .ret ∧ FinR prog Go.Proofs.Try.f13 0 [] (.tuple [e_T_api_Packed q1.1, .int .i64 q1.2]) st')) ?_ ?_
  · replace h := h_1
    refine aw_block (id := 0) (by kernel_rfl) ?_
    refine aw_sub (sub_wkm [0] [] [.s 0, .s 1, .s 4, .s 6] [.s 0] (sl2 := [(0, .int .i64 k_1), (1, .sl false 3 (List.map e_T_api_Value l_1)), (4, .ptr 0 0 0 0), (6, .int .i64 (0 : Int))]) (bx2 := [(0, .live (.var 33 [.int .i64 (0 : Int), .int .i64 (0 : Int), .nilsl]))]) (by kernel_rfl) an) ?_
    refine aw_loopF (fun n st => ∃ (i_1 : Int), st = mk [(0, .int .i64 k_1), (1, .sl false 3 (List.map e_T_api_Value l_1)), (4, .ptr 0 0 0 0), (6, .int .i64 i_1)] [(0, .live (.var 33 [.int .i64 (0 : Int), .int .i64 (0 : Int), .nilsl]))] 1 ∧ R33_Encode_L1 F k_1 l_1 n i_1 = some o_1) F (by kernel_rfl) ⟨_, rfl, h⟩ ?_ ?_
    · rintro _ ⟨_, _, h⟩; exact none_ne (h : (none : Option (Unit ⊕ (T_api_Packed × Int))) = some o_1)
    rintro n_1 _ ⟨i_1, rfl, h⟩
    replace h : R33_Encode_L1_body F k_1 l_1 (R33_Encode_L1 F k_1 l_1 n_1) i_1 = some o_1 := h
    unfold R33_Encode_L1_body at h
    refine aw_seq (by kernel_rfl) ?_
    refine aw_seq (by kernel_rfl) ?_
    refine aw_region [(2, { n := (l_1).length })] [0, 1, 4, 6, 26] [0] 1 (vals := [.int .i64 k_1, .sl false 3 (List.map e_T_api_Value l_1), .ptr 0 0 0 0, .int .i64 i_1, .bool (decide (i_1 < (((l_1).length : Nat) : Int)))]) (bxs := [.live (.var 33 [.int .i64 (0 : Int), .int .i64 (0 : Int), .nilsl])]) (by kernel_rfl) hmix (ac (vc_len _ : ((List.map e_T_api_Value l_1)).length = (l_1).length) an) ?_
    refine aw_cond (t := 26) (b := (decide (i_1 < (((l_1).length : Nat) : Int)))) (by kernel_rfl) (by kernel_rfl) ?_ ?_
    rotate_left
    · intro g_3; replace h := cond_f g_3 h
      refine aw_exit (id := 0) (by kernel_rfl) ?_
      replace h := Option.some.inj h; subst h
      exact ⟨rfl, (sub_wkm [0] [] [.s 0, .s 1, .s 4] [.s 0] (by kernel_rfl) an)⟩
    intro g_3; replace h := cond_t g_3 h
    refine aw_skip (by kernel_rfl) ?_
    refine aw_seq (by kernel_rfl) ?_
    refine aw_block (id := 1) (by kernel_rfl) ?_
    refine aw_seq (by kernel_rfl) ?_
    obtain ⟨x_1, h_2, h⟩ := bind_some h
    obtain ⟨r_1, h_3, h⟩ := bind_some h
    refine aw_region [(3, { av := e_T_api_Value x_1 }), (5, { av := .int .i64 r_1, l := [.int .i64 k_1, e_T_api_Value x_1] })] [0, 1, 4, 6, 7] [0] 1 (vals := [.int .i64 k_1, .sl false 3 (List.map e_T_api_Value l_1), .ptr 0 0 0 0, .int .i64 i_1, .int .i64 r_1]) (bxs := [.live (.var 33 [.int .i64 (0 : Int), .int .i64 (0 : Int), .nilsl])]) (by kernel_rfl) hmix (ac (vc_idx h_2 : idxA (List.map e_T_api_Value l_1) i_1 = some (e_T_api_Value x_1)) (ac (rfl : ([.int .i64 k_1, e_T_api_Value x_1] : List AV) = [.int .i64 k_1, e_T_api_Value x_1]) (ac (rfl : ([] : List BoxSt) = []) (ac (R33_Value_ok k_1 x_1 r_1 h_3 : TripleG prog 9 [] [] [.int .i64 k_1, e_T_api_Value x_1] [] (.int .i64 r_1)) an)))) ?_
    refine aw_seq (by kernel_rfl) ?_
    refine aw_region [] [0, 1, 4, 6, 7, 36] [0] 1 (vals := [.int .i64 k_1, .sl false 3 (List.map e_T_api_Value l_1), .ptr 0 0 0 0, .int .i64 i_1, .int .i64 r_1, .bool (r_1 != (0 : Int))]) (bxs := [.live (.var 33 [.int .i64 (0 : Int), .int .i64 (0 : Int), .nilsl])]) (by kernel_rfl) hmix an ?_
    refine aw_cond (t := 36) (b := (r_1 != (0 : Int))) (by kernel_rfl) (by kernel_rfl) ?_ ?_
    rotate_left
    · intro g_4; replace h := cond_f g_4 h
      refine aw_skip (by kernel_rfl) ?_
      refine aw_region [] [0, 1, 4, 6] [0] 1 (vals := [.int .i64 k_1, .sl false 3 (List.map e_T_api_Value l_1), .ptr 0 0 0 0, .int .i64 (w_i64 (i_1 + (1 : Int)))]) (bxs := [.live (.var 33 [.int .i64 (0 : Int), .int .i64 (0 : Int), .nilsl])]) (by kernel_rfl) hmix an ?_
      exact ⟨_, (sub_wkm [0] [] [.s 0, .s 1, .s 4, .s 6] [.s 0] (by kernel_rfl) an), _, rfl, h⟩
    intro g_4; replace h := cond_t g_4 h
    refine aw_seq (by kernel_rfl) ?_
    refine aw_region [] [4, 5] [0] 1 (vals := [.ptr 0 0 0 0, .int .i64 r_1]) (bxs := [.live (.var 33 [.int .i64 (0 : Int), .int .i64 (0 : Int), .nilsl])]) (by kernel_rfl) hmix an ?_
    refine aw_sub (sub_wkm [0] [] [.s 4, .s 5] [.a 0 (.live (.var 33 (v_T_api_Packed (⟨(0 : Int), (0 : Int), []⟩ : T_api_Packed))))] (sl2 := [(4, .ptr 0 0 0 0), (5, .int .i64 r_1)]) (bx2 := [(0, .live (.var 33 (v_T_api_Packed (⟨(0 : Int), (0 : Int), []⟩ : T_api_Packed))))]) (by kernel_rfl) (ac (rfl : 33 = 33) (ac (rfl : ones [.int .i64 ((⟨(0 : Int), (0 : Int), []⟩ : T_api_Packed).Type_), .int .i64 ((⟨(0 : Int), (0 : Int), []⟩ : T_api_Packed).N), .sl false 1 (List.map (AV.int .u8) ((⟨(0 : Int), (0 : Int), []⟩ : T_api_Packed).Bytes))] = true) (ac (rfl : (.int .i64 (0 : Int) : AV) = .int .i64 ((⟨(0 : Int), (0 : Int), []⟩ : T_api_Packed).Type_)) (ac (rfl : (.int .i64 (0 : Int) : AV) = .int .i64 ((⟨(0 : Int), (0 : Int), []⟩ : T_api_Packed).N)) (ac (rfl : ((List.map (AV.int .u8) ((⟨(0 : Int), (0 : Int), []⟩ : T_api_Packed).Bytes)) : List AV) = []) an)))))) ?_
    refine aw_ret (by kernel_rfl) ?_
    replace h := Option.some.inj h; subst h
    exact ⟨rfl, Nat.le_of_ble_eq_true rfl, by kernel_rfl⟩
  intro e st1 hk
  rcases o_1 with q_1 | q_2
  rotate_left
  · obtain ⟨rfl, hf⟩ := hk
    replace h := Option.some.inj h; subst h
    exact ⟨st1, Sub.refl _ _, .inr rfl, hf⟩
  obtain ⟨rfl, hs⟩ := hk
  refine ⟨_, hs, ?_⟩
  refine aw_seq (by kernel_rfl) ?_
  obtain ⟨r_2, h_4, h⟩ := bind_some h
  obtain ⟨_, h_5, h⟩ := bind_some h; replace h_5 := need_some h_5
  refine aw_region [(0, { id := 1 }), (2, { av := .own 0 ((r_2).length), ids := [2], l := [.sl false 3 (List.map e_T_api_Value l_1)], post := [(.row 5 1 (List.map (AV.int .u8) r_2))] }), (3, { id := 3, l := (List.map (AV.int .u8) (([(0 : Int)] : List Int) ++ r_2)), n := ((([(0 : Int)] : List Int) ++ r_2)).length })] [0, 1, 4, 8] [0, 3] 4 (vals := [.int .i64 k_1, .sl false 3 (List.map e_T_api_Value l_1), .ptr 0 0 0 0, .own 3 (((([(0 : Int)] : List Int) ++ r_2)).length)]) (bxs := [.live (.var 33 [.int .i64 (0 : Int), .int .i64 (0 : Int), .nilsl]), .live (.row 5 1 (List.map (AV.int .u8) (([(0 : Int)] : List Int) ++ r_2)))]) (by kernel_rfl) hmix (ac (rfl : ([.sl false 3 (List.map e_T_api_Value l_1)] : List AV) = [.sl false 3 (List.map e_T_api_Value l_1)]) (ac (rfl : ([] : List BoxSt) = []) (ac (R33_plain_ok F l_1 r_2 h_4 : TripleG prog 27 [] [] [.sl false 3 (List.map e_T_api_Value l_1)] [(.row 5 1 (List.map (AV.int .u8) r_2))] (.own 0 ((r_2).length))) (ac (by first | (simp; done) | (simp; omega) : 1 = ((List.map (AV.int .u8) ([(0 : Int)] : List Int))).length) (ac (by first | (simp; done) | (simp; omega) : (r_2).length = ((List.map (AV.int .u8) r_2)).length) (ac (vc_app _ _ : (List.map (AV.int .u8) (([(0 : Int)] : List Int) ++ r_2)) = (List.map (AV.int .u8) ([(0 : Int)] : List Int)) ++ (List.map (AV.int .u8) r_2)) (ac (by simp : ((([(0 : Int)] : List Int) ++ r_2)).length = ((List.map (AV.int .u8) (([(0 : Int)] : List Int) ++ r_2))).length) (ac (by first | (simp; done) | simpa using h_5 : (((List.map (AV.int .u8) ([(0 : Int)] : List Int)) : List AV).length + ((List.map (AV.int .u8) r_2) : List AV).length) * 1 ≤ 140737488355328) an)))))))) ?_
  refine aw_seq (by kernel_rfl) ?_
  obtain ⟨r_3, h_6, h⟩ := bind_some h
  obtain ⟨_, h_7, h⟩ := bind_some h; replace h_7 := need_some h_7
  refine aw_region [(0, { id := 4 }), (2, { av := .sl false 1 (List.map (AV.int .u8) r_3), l := [.sl false 3 (List.map e_T_api_Value l_1)] }), (3, { id := 5, l := (List.map (AV.int .u8) (([(1 : Int)] : List Int) ++ r_3)), n := ((([(1 : Int)] : List Int) ++ r_3)).length })] [0, 1, 4, 8, 9] [0, 3, 5] 6 (vals := [.int .i64 k_1, .sl false 3 (List.map e_T_api_Value l_1), .ptr 0 0 0 0, .own 3 (((([(0 : Int)] : List Int) ++ r_2)).length), .own 5 (((([(1 : Int)] : List Int) ++ r_3)).length)]) (bxs := [.live (.var 33 [.int .i64 (0 : Int), .int .i64 (0 : Int), .nilsl]), .live (.row 5 1 (List.map (AV.int .u8) (([(0 : Int)] : List Int) ++ r_2))), .live (.row 5 1 (List.map (AV.int .u8) (([(1 : Int)] : List Int) ++ r_3)))]) (by kernel_rfl) hmix (ac (rfl : ([.sl false 3 (List.map e_T_api_Value l_1)] : List AV) = [.sl false 3 (List.map e_T_api_Value l_1)]) (ac (rfl : ([] : List BoxSt) = []) (ac (R33_runs_ok F l_1 r_3 h_6 : TripleG prog 28 [] [] [.sl false 3 (List.map e_T_api_Value l_1)] [] (.sl false 1 (List.map (AV.int .u8) r_3))) (ac (by first | (simp; done) | (simp; omega) : 1 = ((List.map (AV.int .u8) ([(1 : Int)] : List Int))).length) (ac (trivial : True) (ac (vc_app _ _ : (List.map (AV.int .u8) (([(1 : Int)] : List Int) ++ r_3)) = (List.map (AV.int .u8) ([(1 : Int)] : List Int)) ++ (List.map (AV.int .u8) r_3)) (ac (by simp : ((([(1 : Int)] : List Int) ++ r_3)).length = ((List.map (AV.int .u8) (([(1 : Int)] : List Int) ++ r_3))).length) (ac (by first | (simp; done) | simpa using h_7 : (((List.map (AV.int .u8) ([(1 : Int)] : List Int)) : List AV).length + ((List.map (AV.int .u8) r_3) : List AV).length) * 1 ≤ 140737488355328) an)))))))) ?_
  refine aw_seq (by kernel_rfl) ?_
  refine aw_seq (by kernel_rfl) ?_
  refine aw_region [] [0, 1, 4, 8, 9, 51] [0, 3, 5] 6 (vals := [.int .i64 k_1, .sl false 3 (List.map e_T_api_Value l_1), .ptr 0 0 0 0, .own 3 (((([(0 : Int)] : List Int) ++ r_2)).length), .own 5 (((([(1 : Int)] : List Int) ++ r_3)).length), .bool (decide (((((([(1 : Int)] : List Int) ++ r_3)).length : Nat) : Int) < ((((([(0 : Int)] : List Int) ++ r_2)).length : Nat) : Int)))]) (bxs := [.live (.var 33 [.int .i64 (0 : Int), .int .i64 (0 : Int), .nilsl]), .live (.row 5 1 (List.map (AV.int .u8) (([(0 : Int)] : List Int) ++ r_2))), .live (.row 5 1 (List.map (AV.int .u8) (([(1 : Int)] : List Int) ++ r_3)))]) (by kernel_rfl) hmix an ?_
  obtain ⟨o_2, h_8, h⟩ := bind_some h
  refine aw_mid (mk [(0, .int .i64 k_1), (1, .sl false 3 (List.map e_T_api_Value l_1)), (4, .ptr 0 0 0 0), (8, .own 1 ((o_2).length))] [(0, .live (.var 33 [.int .i64 (0 : Int), .int .i64 (0 : Int), .nilsl])), (1, .live (.row 5 1 (List.map (AV.int .u8) o_2)))] 2) ?_ ?_
  · replace h := h_8
    refine aw_cond (t := 51) (b := (decide (((((([(1 : Int)] : List Int) ++ r_3)).length : Nat) : Int) < ((((([(0 : Int)] : List Int) ++ r_2)).length : Nat) : Int)))) (by kernel_rfl) (by kernel_rfl) ?_ ?_
    · intro g_5; replace h := cond_t g_5 h
      refine aw_region [] [0, 1, 4, 8] [0, 5] 6 (vals := [.int .i64 k_1, .sl false 3 (List.map e_T_api_Value l_1), .ptr 0 0 0 0, .own 5 (((([(1 : Int)] : List Int) ++ r_3)).length)]) (bxs := [.live (.var 33 [.int .i64 (0 : Int), .int .i64 (0 : Int), .nilsl]), .live (.row 5 1 (List.map (AV.int .u8) (([(1 : Int)] : List Int) ++ r_3)))]) (by kernel_rfl) hmix an ?_
      replace h := Option.some.inj h; subst h
      exact ⟨rfl, (sub_wkm [0, 5] [] [.s 0, .s 1, .s 4, .s 8] [.s 0, .s 1] (by kernel_rfl) an)⟩
    intro g_5; replace h := cond_f g_5 h
    refine aw_skip (by kernel_rfl) ?_
    replace h := Option.some.inj h; subst h
    exact ⟨rfl, (sub_wkm [0, 3] [] [.s 0, .s 1, .s 4, .s 8] [.s 0, .s 1] (by kernel_rfl) an)⟩
  refine aw_seq (by kernel_rfl) ?_
  obtain ⟨r_4, h_9, h⟩ := bind_some h
  refine aw_region [(2, { av := .tuple [.sl false 1 (List.map (AV.int .u8) r_4.1), .bool r_4.2], l := [.int .i64 k_1, .sl false 3 (List.map e_T_api_Value l_1)] })] [0, 1, 4, 8, 10, 11] [0, 1] 2 (vals := [.int .i64 k_1, .sl false 3 (List.map e_T_api_Value l_1), .ptr 0 0 0 0, .own 1 ((o_2).length), .sl false 1 (List.map (AV.int .u8) r_4.1), .bool r_4.2]) (bxs := [.live (.var 33 [.int .i64 (0 : Int), .int .i64 (0 : Int), .nilsl]), .live (.row 5 1 (List.map (AV.int .u8) o_2))]) (by kernel_rfl) hmix (ac (rfl : ([.int .i64 k_1, .sl false 3 (List.map e_T_api_Value l_1)] : List AV) = [.int .i64 k_1, .sl false 3 (List.map e_T_api_Value l_1)]) (ac (rfl : ([] : List BoxSt) = []) (ac (R33_differences_ok F k_1 l_1 r_4 h_9 : TripleG prog 29 [] [] [.int .i64 k_1, .sl false 3 (List.map e_T_api_Value l_1)] [] (.tuple [.sl false 1 (List.map (AV.int .u8) r_4.1), .bool r_4.2])) an))) ?_
  refine aw_seq (by kernel_rfl) ?_
  refine aw_seq (by kernel_rfl) ?_
  refine aw_mid (mk [(0, .int .i64 k_1), (1, .sl false 3 (List.map e_T_api_Value l_1)), (4, .ptr 0 0 0 0), (8, .own 1 ((o_2).length)), (10, .sl false 1 (List.map (AV.int .u8) r_4.1)), (67, .bool (r_4.2 && decide ((w_i64 ((((r_4.1).length : Nat) : Int) + (1 : Int))) < (((o_2).length : Nat) : Int))))] [(0, .live (.var 33 [.int .i64 (0 : Int), .int .i64 (0 : Int), .nilsl])), (1, .live (.row 5 1 (List.map (AV.int .u8) o_2)))] 2) ?_ ?_
  · rcases Bool.eq_false_or_eq_true r_4.2 with gg_2 | gg_2
    · refine aw_region [(3, { n := (r_4.1).length }), (8, { b := true })] [0, 1, 4, 8, 10, 67] [0, 1] 2 (vals := [.int .i64 k_1, .sl false 3 (List.map e_T_api_Value l_1), .ptr 0 0 0 0, .own 1 ((o_2).length), .sl false 1 (List.map (AV.int .u8) r_4.1), .bool (decide ((w_i64 ((((r_4.1).length : Nat) : Int) + (1 : Int))) < (((o_2).length : Nat) : Int)))]) (bxs := [.live (.var 33 [.int .i64 (0 : Int), .int .i64 (0 : Int), .nilsl]), .live (.row 5 1 (List.map (AV.int .u8) o_2))]) (by kernel_rfl) hmix (ac gg_2 (ac gg_2 (ac (vc_len _ : ((List.map (AV.int .u8) r_4.1)).length = (r_4.1).length) (ac gg_2 (ac gg_2 (ac gg_2 (ac gg_2 (ac gg_2 an)))))))) ?_
      exact ⟨rfl, (sub_wkm [0, 1] [] [.s 0, .s 1, .s 4, .s 8, .s 10, .a 67 (.bool (r_4.2 && decide ((w_i64 ((((r_4.1).length : Nat) : Int) + (1 : Int))) < (((o_2).length : Nat) : Int))))] [.s 0, .s 1] (by kernel_rfl) (ac (congrArg AV.bool (andt gg_2 rfl) : (.bool (decide ((w_i64 ((((r_4.1).length : Nat) : Int) + (1 : Int))) < (((o_2).length : Nat) : Int))) : AV) = .bool (r_4.2 && decide ((w_i64 ((((r_4.1).length : Nat) : Int) + (1 : Int))) < (((o_2).length : Nat) : Int)))) an))⟩
    · refine aw_region [(2, { g := false }), (3, { g := false }), (4, { g := false }), (5, { g := false }), (6, { g := false }), (7, { g := false }), (8, { b := false })] [0, 1, 4, 8, 10, 67] [0, 1] 2 (vals := [.int .i64 k_1, .sl false 3 (List.map e_T_api_Value l_1), .ptr 0 0 0 0, .own 1 ((o_2).length), .sl false 1 (List.map (AV.int .u8) r_4.1), .bool false]) (bxs := [.live (.var 33 [.int .i64 (0 : Int), .int .i64 (0 : Int), .nilsl]), .live (.row 5 1 (List.map (AV.int .u8) o_2))]) (by kernel_rfl) hmix (ac gg_2 (ac gg_2 (ac gg_2 (ac gg_2 (ac gg_2 (ac gg_2 (ac gg_2 an))))))) ?_
      exact ⟨rfl, (sub_wkm [0, 1] [] [.s 0, .s 1, .s 4, .s 8, .s 10, .a 67 (.bool (r_4.2 && decide ((w_i64 ((((r_4.1).length : Nat) : Int) + (1 : Int))) < (((o_2).length : Nat) : Int))))] [.s 0, .s 1] (by kernel_rfl) (ac (congrArg AV.bool (andf gg_2) : (.bool false : AV) = .bool (r_4.2 && decide ((w_i64 ((((r_4.1).length : Nat) : Int) + (1 : Int))) < (((o_2).length : Nat) : Int)))) an))⟩
  obtain ⟨o_3, h_10, h⟩ := bind_some h
  refine aw_mid (mk [(0, .int .i64 k_1), (1, .sl false 3 (List.map e_T_api_Value l_1)), (4, .ptr 0 0 0 0), (8, .own 1 ((o_3).length))] [(0, .live (.var 33 [.int .i64 (0 : Int), .int .i64 (0 : Int), .nilsl])), (1, .live (.row 5 1 (List.map (AV.int .u8) o_3)))] 2) ?_ ?_
  · replace h := h_10
    refine aw_cond (t := 67) (b := (r_4.2 && decide ((w_i64 ((((r_4.1).length : Nat) : Int) + (1 : Int))) < (((o_2).length : Nat) : Int)))) (by kernel_rfl) (by kernel_rfl) ?_ ?_
    rotate_left
    · intro g_6; replace h := cond_f g_6 h
      refine aw_skip (by kernel_rfl) ?_
      replace h := Option.some.inj h; subst h
      exact ⟨rfl, (sub_wkm [0, 1] [] [.s 0, .s 1, .s 4, .s 8] [.s 0, .s 1] (by kernel_rfl) an)⟩
    intro g_6; replace h := cond_t g_6 h
    obtain ⟨_, h_11, h⟩ := bind_some h; replace h_11 := need_some h_11
    refine aw_region [(0, { id := 2 }), (2, { id := 3, l := (List.map (AV.int .u8) (([(2 : Int)] : List Int) ++ r_4.1)), n := ((([(2 : Int)] : List Int) ++ r_4.1)).length })] [0, 1, 4, 8] [0, 3] 4 (vals := [.int .i64 k_1, .sl false 3 (List.map e_T_api_Value l_1), .ptr 0 0 0 0, .own 3 (((([(2 : Int)] : List Int) ++ r_4.1)).length)]) (bxs := [.live (.var 33 [.int .i64 (0 : Int), .int .i64 (0 : Int), .nilsl]), .live (.row 5 1 (List.map (AV.int .u8) (([(2 : Int)] : List Int) ++ r_4.1)))]) (by kernel_rfl) hmix (ac (by first | (simp; done) | (simp; omega) : 1 = ((List.map (AV.int .u8) ([(2 : Int)] : List Int))).length) (ac (trivial : True) (ac (vc_app _ _ : (List.map (AV.int .u8) (([(2 : Int)] : List Int) ++ r_4.1)) = (List.map (AV.int .u8) ([(2 : Int)] : List Int)) ++ (List.map (AV.int .u8) r_4.1)) (ac (by simp : ((([(2 : Int)] : List Int) ++ r_4.1)).length = ((List.map (AV.int .u8) (([(2 : Int)] : List Int) ++ r_4.1))).length) (ac (by first | (simp; done) | simpa using h_11 : (((List.map (AV.int .u8) ([(2 : Int)] : List Int)) : List AV).length + ((List.map (AV.int .u8) r_4.1) : List AV).length) * 1 ≤ 140737488355328) an))))) ?_
    replace h := Option.some.inj h; subst h
    exact ⟨rfl, (sub_wkm [0, 3] [] [.s 0, .s 1, .s 4, .s 8] [.s 0, .s 1] (by kernel_rfl) an)⟩
  refine aw_seq (by kernel_rfl) ?_
  obtain ⟨r_5, h_12, h⟩ := bind_some h
  obtain ⟨_, h_13, h⟩ := bind_some h; replace h_13 := need_some h_13
  refine aw_region [(0, { id := 2 }), (2, { av := .own 0 ((r_5).length), ids := [3], l := [.sl false 3 (List.map e_T_api_Value l_1)], post := [(.row 5 1 (List.map (AV.int .u8) r_5))] }), (3, { id := 4, l := (List.map (AV.int .u8) (([(3 : Int)] : List Int) ++ r_5)), n := ((([(3 : Int)] : List Int) ++ r_5)).length })] [0, 1, 4, 8, 9] [0, 1, 4] 5 (vals := [.int .i64 k_1, .sl false 3 (List.map e_T_api_Value l_1), .ptr 0 0 0 0, .own 1 ((o_3).length), .own 4 (((([(3 : Int)] : List Int) ++ r_5)).length)]) (bxs := [.live (.var 33 [.int .i64 (0 : Int), .int .i64 (0 : Int), .nilsl]), .live (.row 5 1 (List.map (AV.int .u8) o_3)), .live (.row 5 1 (List.map (AV.int .u8) (([(3 : Int)] : List Int) ++ r_5)))]) (by kernel_rfl) hmix (ac (rfl : ([.sl false 3 (List.map e_T_api_Value l_1)] : List AV) = [.sl false 3 (List.map e_T_api_Value l_1)]) (ac (rfl : ([] : List BoxSt) = []) (ac (R33_dictionary_ok F l_1 r_5 h_12 : TripleG prog 30 [] [] [.sl false 3 (List.map e_T_api_Value l_1)] [(.row 5 1 (List.map (AV.int .u8) r_5))] (.own 0 ((r_5).length))) (ac (by first | (simp; done) | (simp; omega) : 1 = ((List.map (AV.int .u8) ([(3 : Int)] : List Int))).length) (ac (by first | (simp; done) | (simp; omega) : (r_5).length = ((List.map (AV.int .u8) r_5)).length) (ac (vc_app _ _ : (List.map (AV.int .u8) (([(3 : Int)] : List Int) ++ r_5)) = (List.map (AV.int .u8) ([(3 : Int)] : List Int)) ++ (List.map (AV.int .u8) r_5)) (ac (by simp : ((([(3 : Int)] : List Int) ++ r_5)).length = ((List.map (AV.int .u8) (([(3 : Int)] : List Int) ++ r_5))).length) (ac (by first | (simp; done) | simpa using h_13 : (((List.map (AV.int .u8) ([(3 : Int)] : List Int)) : List AV).length + ((List.map (AV.int .u8) r_5) : List AV).length) * 1 ≤ 140737488355328) an)))))))) ?_
  refine aw_seq (by kernel_rfl) ?_
  refine aw_seq (by kernel_rfl) ?_
  refine aw_region [] [0, 1, 4, 8, 9, 79] [0, 1, 4] 5 (vals := [.int .i64 k_1, .sl false 3 (List.map e_T_api_Value l_1), .ptr 0 0 0 0, .own 1 ((o_3).length), .own 4 (((([(3 : Int)] : List Int) ++ r_5)).length), .bool (decide (((((([(3 : Int)] : List Int) ++ r_5)).length : Nat) : Int) < (((o_3).length : Nat) : Int)))]) (bxs := [.live (.var 33 [.int .i64 (0 : Int), .int .i64 (0 : Int), .nilsl]), .live (.row 5 1 (List.map (AV.int .u8) o_3)), .live (.row 5 1 (List.map (AV.int .u8) (([(3 : Int)] : List Int) ++ r_5)))]) (by kernel_rfl) hmix an ?_
  obtain ⟨o_4, h_14, h⟩ := bind_some h
  refine aw_mid (mk [(0, .int .i64 k_1), (1, .sl false 3 (List.map e_T_api_Value l_1)), (4, .ptr 0 0 0 0), (8, .own 1 ((o_4).length))] [(0, .live (.var 33 [.int .i64 (0 : Int), .int .i64 (0 : Int), .nilsl])), (1, .live (.row 5 1 (List.map (AV.int .u8) o_4)))] 2) ?_ ?_
  · replace h := h_14
    refine aw_cond (t := 79) (b := (decide (((((([(3 : Int)] : List Int) ++ r_5)).length : Nat) : Int) < (((o_3).length : Nat) : Int)))) (by kernel_rfl) (by kernel_rfl) ?_ ?_
    · intro g_7; replace h := cond_t g_7 h
      refine aw_region [] [0, 1, 4, 8] [0, 4] 5 (vals := [.int .i64 k_1, .sl false 3 (List.map e_T_api_Value l_1), .ptr 0 0 0 0, .own 4 (((([(3 : Int)] : List Int) ++ r_5)).length)]) (bxs := [.live (.var 33 [.int .i64 (0 : Int), .int .i64 (0 : Int), .nilsl]), .live (.row 5 1 (List.map (AV.int .u8) (([(3 : Int)] : List Int) ++ r_5)))]) (by kernel_rfl) hmix an ?_
      replace h := Option.some.inj h; subst h
      exact ⟨rfl, (sub_wkm [0, 4] [] [.s 0, .s 1, .s 4, .s 8] [.s 0, .s 1] (by kernel_rfl) an)⟩
    intro g_7; replace h := cond_f g_7 h
    refine aw_skip (by kernel_rfl) ?_
    replace h := Option.some.inj h; subst h
    exact ⟨rfl, (sub_wkm [0, 1] [] [.s 0, .s 1, .s 4, .s 8] [.s 0, .s 1] (by kernel_rfl) an)⟩
  refine aw_seq (by kernel_rfl) ?_
  refine aw_region [(2, { n := (l_1).length })] [4, 5] [0, 1] 2 (vals := [.ptr 0 0 0 0, .int .i64 (0 : Int)]) (bxs := [.live (.var 33 [.int .i64 k_1, .int .i64 (((l_1).length : Nat) : Int), .own 1 ((o_4).length)]), .live (.row 5 1 (List.map (AV.int .u8) o_4))]) (by kernel_rfl) hmix (ac (vc_len _ : ((List.map e_T_api_Value l_1)).length = (l_1).length) an) ?_
  refine aw_sub (sub_wkm [0] [1] [.s 4, .s 5] [.a 0 (.live (.var 33 (v_T_api_Packed (⟨k_1, (((l_1).length : Nat) : Int), o_4⟩ : T_api_Packed))))] (sl2 := [(4, .ptr 0 0 0 0), (5, .int .i64 (0 : Int))]) (bx2 := [(0, .live (.var 33 (v_T_api_Packed (⟨k_1, (((l_1).length : Nat) : Int), o_4⟩ : T_api_Packed))))]) (by kernel_rfl) (ac (rfl : 33 = 33) (ac (rfl : ones [.int .i64 ((⟨k_1, (((l_1).length : Nat) : Int), o_4⟩ : T_api_Packed).Type_), .int .i64 ((⟨k_1, (((l_1).length : Nat) : Int), o_4⟩ : T_api_Packed).N), .sl false 1 (List.map (AV.int .u8) ((⟨k_1, (((l_1).length : Nat) : Int), o_4⟩ : T_api_Packed).Bytes))] = true) (ac (by first | (simp; done) | (simp; omega) : (o_4).length = ((List.map (AV.int .u8) o_4)).length) (ac (rfl : (.int .i64 k_1 : AV) = .int .i64 ((⟨k_1, (((l_1).length : Nat) : Int), o_4⟩ : T_api_Packed).Type_)) (ac (rfl : (.int .i64 (((l_1).length : Nat) : Int) : AV) = .int .i64 ((⟨k_1, (((l_1).length : Nat) : Int), o_4⟩ : T_api_Packed).N)) (ac (rfl : 1 = 1) (ac (rfl : ((List.map (AV.int .u8) o_4) : List AV) = (List.map (AV.int .u8) ((⟨k_1, (((l_1).length : Nat) : Int), o_4⟩ : T_api_Packed).Bytes))) (ac (rfl : (!false || false) = true) an))))))))) ?_
  refine aw_ret (by kernel_rfl) ?_
  replace h := Option.some.inj h; subst h
  exact ⟨.inr rfl, Nat.le_of_ble_eq_true rfl, by kernel_rfl⟩

theorem R33_Same_ok (F : Nat) (a_1 : List (T_api_Value)) (b_1 : List (T_api_Value)) (r : Bool) (h : R33_Same F a_1 b_1 = some r) : TripleG prog 16 [] [] [.sl false 3 (List.map e_T_api_Value a_1), .sl false 3 (List.map e_T_api_Value b_1)] [] (.bool r) := by
  refine triple_intro (fn := Go.Proofs.Try.f16) (code := codeOf Go.Proofs.Try.f16) (by kernel_rfl) (by kernel_rfl) (Nat.le_of_ble_eq_true (by kernel_rfl)) ?_
  unfold R33_Same at h
  refine aw_seq (by kernel_rfl) ?_
  refine aw_region [] [0, 1] [] 0 (vals := [.sl false 3 (List.map e_T_api_Value a_1), .sl false 3 (List.map e_T_api_Value b_1)]) (bxs := []) (by kernel_rfl) hmix an ?_
  refine aw_seq (by kernel_rfl) ?_
  refine aw_seq (by kernel_rfl) ?_
  refine aw_region [(1, { n := (a_1).length }), (3, { n := (b_1).length })] [0, 1, 10] [] 0 (vals := [.sl false 3 (List.map e_T_api_Value a_1), .sl false 3 (List.map e_T_api_Value b_1), .bool ((((a_1).length : Nat) : Int) != (((b_1).length : Nat) : Int))]) (bxs := []) (by kernel_rfl) hmix (ac (vc_len _ : ((List.map e_T_api_Value a_1)).length = (a_1).length) (ac (vc_len _ : ((List.map e_T_api_Value b_1)).length = (b_1).length) an)) ?_
  refine aw_cond (t := 10) (b := ((((a_1).length : Nat) : Int) != (((b_1).length : Nat) : Int))) (by kernel_rfl) (by kernel_rfl) ?_ ?_
  · intro g_1; replace h := cond_t g_1 h
    refine aw_seq (by kernel_rfl) ?_
    refine aw_region [] [4] [] 0 (vals := [.bool false]) (bxs := []) (by kernel_rfl) hmix an ?_
    refine aw_ret (by kernel_rfl) ?_
    replace h := Option.some.inj h; subst h
    exact ⟨.inr rfl, Nat.le_of_ble_eq_true rfl, by kernel_rfl⟩
  intro g_1; replace h := cond_f g_1 h
  refine aw_skip (by kernel_rfl) ?_
  refine aw_seq (by kernel_rfl) ?_
  refine aw_seq (by kernel_rfl) ?_
  refine aw_region [] [0, 1, 5] [] 0 (vals := [.sl false 3 (List.map e_T_api_Value a_1), .sl false 3 (List.map e_T_api_Value b_1), .int .i64 (0 : Int)]) (bxs := []) (by kernel_rfl) hmix an ?_
  obtain ⟨o_1, h_1, h⟩ := bind_some h
  refine aw_conv (K1 := (fun e st' => match o_1 with | (.inl q0) => e = .normal ∧ Sub 0 st' (mk [] [] 0) | (.inr q1) => e = .ret ∧ FinR prog Go.Proofs.Try.f16 0 [] (.bool q1) st')) ?_ ?_
  · replace h := h_1
    refine aw_block (id := 0) (by kernel_rfl) ?_
    refine aw_sub (sub_wkm [] [] [.s 0, .s 1, .s 5] [] (sl2 := [(0, .sl false 3 (List.map e_T_api_Value a_1)), (1, .sl false 3 (List.map e_T_api_Value b_1)), (5, .int .i64 (0 : Int))]) (bx2 := []) (by kernel_rfl) an) ?_
    refine aw_loopF (fun n st => ∃ (i_1 : Int), st = mk [(0, .sl false 3 (List.map e_T_api_Value a_1)), (1, .sl false 3 (List.map e_T_api_Value b_1)), (5, .int .i64 i_1)] [] 0 ∧ R33_Same_L1 F a_1 b_1 n i_1 = some o_1) F (by kernel_rfl) ⟨_, rfl, h⟩ ?_ ?_
    · rintro _ ⟨_, _, h⟩; exact none_ne (h : (none : Option (Unit ⊕ Bool)) = some o_1)
    rintro n_1 _ ⟨i_1, rfl, h⟩
    replace h : R33_Same_L1_body F a_1 b_1 (R33_Same_L1 F a_1 b_1 n_1) i_1 = some o_1 := h
    unfold R33_Same_L1_body at h
    refine aw_seq (by kernel_rfl) ?_
    refine aw_seq (by kernel_rfl) ?_
    refine aw_region [(2, { n := (a_1).length })] [0, 1, 5, 14] [] 0 (vals := [.sl false 3 (List.map e_T_api_Value a_1), .sl false 3 (List.map e_T_api_Value b_1), .int .i64 i_1, .bool (decide (i_1 < (((a_1).length : Nat) : Int)))]) (bxs := []) (by kernel_rfl) hmix (ac (vc_len _ : ((List.map e_T_api_Value a_1)).length = (a_1).length) an) ?_
    refine aw_cond (t := 14) (b := (decide (i_1 < (((a_1).length : Nat) : Int)))) (by kernel_rfl) (by kernel_rfl) ?_ ?_
    rotate_left
    · intro g_2; replace h := cond_f g_2 h
      refine aw_exit (id := 0) (by kernel_rfl) ?_
      replace h := Option.some.inj h; subst h
      exact ⟨rfl, (sub_wkm [] [] [] [] (by kernel_rfl) an)⟩
    intro g_2; replace h := cond_t g_2 h
    refine aw_skip (by kernel_rfl) ?_
    refine aw_seq (by kernel_rfl) ?_
    refine aw_block (id := 1) (by kernel_rfl) ?_
    refine aw_seq (by kernel_rfl) ?_
    obtain ⟨x_1, h_2, h⟩ := bind_some h
    obtain ⟨x_2, h_3, h⟩ := bind_some h
    refine aw_region [(2, { av := e_T_api_Value x_1 }), (6, { av := e_T_api_Value x_2 }), (8, { b := (decide (x_1 = x_2)), mks := [.int .i64, .int .i64, .str] })] [0, 1, 5, 25] [] 0 (vals := [.sl false 3 (List.map e_T_api_Value a_1), .sl false 3 (List.map e_T_api_Value b_1), .int .i64 i_1, .bool (!(decide (x_1 = x_2)))]) (bxs := []) (by kernel_rfl) hmix (ac (vc_idx h_2 : idxA (List.map e_T_api_Value a_1) i_1 = some (e_T_api_Value x_1)) (ac (vc_idx h_3 : idxA (List.map e_T_api_Value b_1) i_1 = some (e_T_api_Value x_2)) (ac (eqOk_24 : EqOk prog 24 [.int .i64, .int .i64, .str]) (ac (vc_eqA (f := e_T_api_Value) inj_T_api_Value x_1 x_2 : ((decide (x_1 = x_2)) = true ↔ AV.agg [.int .i64 x_1.Kind, .int .i64 x_1.N, .str x_1.S] = AV.agg [.int .i64 x_2.Kind, .int .i64 x_2.N, .str x_2.S])) an)))) ?_
    refine aw_cond (t := 25) (b := (!(decide (x_1 = x_2)))) (by kernel_rfl) (by kernel_rfl) ?_ ?_
    rotate_left
    · intro g_3; replace h := cond_f g_3 h
      refine aw_skip (by kernel_rfl) ?_
      refine aw_region [] [0, 1, 5] [] 0 (vals := [.sl false 3 (List.map e_T_api_Value a_1), .sl false 3 (List.map e_T_api_Value b_1), .int .i64 (w_i64 (i_1 + (1 : Int)))]) (bxs := []) (by kernel_rfl) hmix an ?_
      exact ⟨_, (sub_wkm [] [] [.s 0, .s 1, .s 5] [] (by kernel_rfl) an), _, rfl, h⟩
    intro g_3; replace h := cond_t g_3 h
    refine aw_seq (by kernel_rfl) ?_
    refine aw_region [] [4] [] 0 (vals := [.bool false]) (bxs := []) (by kernel_rfl) hmix an ?_
    refine aw_ret (by kernel_rfl) ?_
    replace h := Option.some.inj h; subst h
    exact ⟨rfl, Nat.le_of_ble_eq_true rfl, by kernel_rfl⟩
  intro e st1 hk
  rcases o_1 with q_1 | q_2
  rotate_left
  · obtain ⟨rfl, hf⟩ := hk
    replace h := Option.some.inj h; subst h
    exact ⟨st1, Sub.refl _ _, .inr rfl, hf⟩
  obtain ⟨rfl, hs⟩ := hk
  refine ⟨_, hs, ?_⟩
  refine aw_seq (by kernel_rfl) ?_
  refine aw_region [] [4] [] 0 (vals := [.bool true]) (bxs := []) (by kernel_rfl) hmix an ?_
  refine aw_ret (by kernel_rfl) ?_
  replace h := Option.some.inj h; subst h
  exact ⟨.inr rfl, Nat.le_of_ble_eq_true rfl, by kernel_rfl⟩

theorem R05_integer_ok (u_1 : Int) (r : Int) (h : R05_integer u_1 = some r) : TripleG prog 53 [] [] [.int .u64 u_1] [] (.int .i64 r) := by
  refine triple_intro (fn := Go.Proofs.Try.f53) (code := codeOf Go.Proofs.Try.f53) (by kernel_rfl) (by kernel_rfl) (Nat.le_of_ble_eq_true (by kernel_rfl)) ?_
  unfold R05_integer at h
  refine aw_seq (by kernel_rfl) ?_
  refine aw_region [] [0] [] 0 (vals := [.int .u64 u_1]) (bxs := []) (by kernel_rfl) hmix an ?_
  refine aw_seq (by kernel_rfl) ?_
  refine aw_seq (by kernel_rfl) ?_
  refine aw_region [] [0, 5] [] 0 (vals := [.int .u64 u_1, .bool ((irem u_1 (2 : Int)) == (1 : Int))]) (bxs := []) (by kernel_rfl) hmix (ac (by decide : (2 : Int) ≠ (0 : Int)) an) ?_
  refine aw_cond (t := 5) (b := ((irem u_1 (2 : Int)) == (1 : Int))) (by kernel_rfl) (by kernel_rfl) ?_ ?_
  · intro g_1; replace h := cond_t g_1 h
    refine aw_seq (by kernel_rfl) ?_
    refine aw_region [] [2] [] 0 (vals := [.int .i64 (w_i64 ((w_i64 (0 - (w_i64 (iquo .u64 u_1 (2 : Int))))) - (1 : Int)))]) (bxs := []) (by kernel_rfl) hmix (ac (by decide : (2 : Int) ≠ (0 : Int)) an) ?_
    refine aw_ret (by kernel_rfl) ?_
    replace h := Option.some.inj h; subst h
    exact ⟨.inr rfl, Nat.le_of_ble_eq_true rfl, by kernel_rfl⟩
  intro g_1; replace h := cond_f g_1 h
  refine aw_skip (by kernel_rfl) ?_
  refine aw_seq (by kernel_rfl) ?_
  refine aw_region [] [2] [] 0 (vals := [.int .i64 (w_i64 (iquo .u64 u_1 (2 : Int)))]) (bxs := []) (by kernel_rfl) hmix (ac (by decide : (2 : Int) ≠ (0 : Int)) an) ?_
  refine aw_ret (by kernel_rfl) ?_
  replace h := Option.some.inj h; subst h
  exact ⟨.inr rfl, Nat.le_of_ble_eq_true rfl, by kernel_rfl⟩

theorem R05_Int_ok (F : Nat) (b_1 : List (Int)) (r : Int × Int × Int) (h : R05_Int F b_1 = some r) : TripleG prog 43 [] [] [.sl false 1 (List.map (AV.int .u8) b_1)] [] (.tuple [.int .i64 r.1, .int .i64 r.2.1, .int .i64 r.2.2]) := by
  refine triple_intro (fn := Go.Proofs.Try.f43) (code := codeOf Go.Proofs.Try.f43) (by kernel_rfl) (by kernel_rfl) (Nat.le_of_ble_eq_true (by kernel_rfl)) ?_
  unfold R05_Int at h
  refine aw_seq (by kernel_rfl) ?_
  refine aw_region [] [0] [] 0 (vals := [.sl false 1 (List.map (AV.int .u8) b_1)]) (bxs := []) (by kernel_rfl) hmix an ?_
  refine aw_seq (by kernel_rfl) ?_
  refine aw_region [] [0, 5] [] 0 (vals := [.sl false 1 (List.map (AV.int .u8) b_1), .int .u64 (0 : Int)]) (bxs := []) (by kernel_rfl) hmix an ?_
  refine aw_seq (by kernel_rfl) ?_
  refine aw_region [] [0, 5, 6] [] 0 (vals := [.sl false 1 (List.map (AV.int .u8) b_1), .int .u64 (0 : Int), .int .u64 (1 : Int)]) (bxs := []) (by kernel_rfl) hmix an ?_
  refine aw_seq (by kernel_rfl) ?_
  refine aw_seq (by kernel_rfl) ?_
  refine aw_region [] [0, 5, 6, 7] [] 0 (vals := [.sl false 1 (List.map (AV.int .u8) b_1), .int .u64 (0 : Int), .int .u64 (1 : Int), .int .i64 (0 : Int)]) (bxs := []) (by kernel_rfl) hmix an ?_
  obtain ⟨o_1, h_1, h⟩ := bind_some h
  refine aw_conv (K1 := (fun e st' => match o_1 with | (.inl q0) => e = .normal ∧ Sub 0 st' (mk [] [] 0) | (.inr q1) => e = .ret ∧ FinR prog Go.Proofs.Try.f43 0 [] (.tuple [.int .i64 q1.1, .int .i64 q1.2.1, .int .i64 q1.2.2]) st')) ?_ ?_
  · replace h := h_1
    refine aw_block (id := 0) (by kernel_rfl) ?_
    refine aw_sub (sub_wkm [] [] [.s 0, .s 5, .s 6, .s 7] [] (sl2 := [(0, .sl false 1 (List.map (AV.int .u8) b_1)), (5, .int .u64 (0 : Int)), (6, .int .u64 (1 : Int)), (7, .int .i64 (0 : Int))]) (bx2 := []) (by kernel_rfl) an) ?_
    refine aw_loopF (fun n st => ∃ (u_1 : Int), ∃ (unit_1 : Int), ∃ (i_1 : Int), st = mk [(0, .sl false 1 (List.map (AV.int .u8) b_1)), (5, .int .u64 u_1), (6, .int .u64 unit_1), (7, .int .i64 i_1)] [] 0 ∧ R05_Int_L1 F b_1 n u_1 unit_1 i_1 = some o_1) F (by kernel_rfl) ⟨_, _, _, rfl, h⟩ ?_ ?_
    · rintro _ ⟨_, _, _, _, h⟩; exact none_ne (h : (none : Option (Unit ⊕ (Int × Int × Int))) = some o_1)
    rintro n_1 _ ⟨u_1, unit_1, i_1, rfl, h⟩
    replace h : R05_Int_L1_body F b_1 (R05_Int_L1 F b_1 n_1) u_1 unit_1 i_1 = some o_1 := h
    unfold R05_Int_L1_body at h
    refine aw_seq (by kernel_rfl) ?_
    refine aw_seq (by kernel_rfl) ?_
    refine aw_region [] [0, 5, 6, 7, 10] [] 0 (vals := [.sl false 1 (List.map (AV.int .u8) b_1), .int .u64 u_1, .int .u64 unit_1, .int .i64 i_1, .bool (decide (i_1 < (10 : Int)))]) (bxs := []) (by kernel_rfl) hmix an ?_
    refine aw_cond (t := 10) (b := (decide (i_1 < (10 : Int)))) (by kernel_rfl) (by kernel_rfl) ?_ ?_
    rotate_left
    · intro g_1; replace h := cond_f g_1 h
      refine aw_exit (id := 0) (by kernel_rfl) ?_
      replace h := Option.some.inj h; subst h
      exact ⟨rfl, (sub_wkm [] [] [] [] (by kernel_rfl) an)⟩
    intro g_1; replace h := cond_t g_1 h
    refine aw_skip (by kernel_rfl) ?_
    refine aw_seq (by kernel_rfl) ?_
    refine aw_block (id := 1) (by kernel_rfl) ?_
    refine aw_seq (by kernel_rfl) ?_
    refine aw_seq (by kernel_rfl) ?_
    refine aw_region [(2, { n := (b_1).length })] [0, 5, 6, 7, 16] [] 0 (vals := [.sl false 1 (List.map (AV.int .u8) b_1), .int .u64 u_1, .int .u64 unit_1, .int .i64 i_1, .bool (decide (i_1 ≥ (((b_1).length : Nat) : Int)))]) (bxs := []) (by kernel_rfl) hmix (ac (vc_len _ : ((List.map (AV.int .u8) b_1)).length = (b_1).length) an) ?_
    refine aw_cond (t := 16) (b := (decide (i_1 ≥ (((b_1).length : Nat) : Int)))) (by kernel_rfl) (by kernel_rfl) ?_ ?_
    · intro g_2; replace h := cond_t g_2 h
      refine aw_seq (by kernel_rfl) ?_
      refine aw_region [] [2, 3, 4] [] 0 (vals := [.int .i64 (0 : Int), .int .i64 (0 : Int), .int .i64 (8 : Int)]) (bxs := []) (by kernel_rfl) hmix an ?_
      refine aw_ret (by kernel_rfl) ?_
      replace h := Option.some.inj h; subst h
      exact ⟨rfl, Nat.le_of_ble_eq_true rfl, by kernel_rfl⟩
    intro g_2; replace h := cond_f g_2 h
    refine aw_skip (by kernel_rfl) ?_
    refine aw_seq (by kernel_rfl) ?_
    obtain ⟨x_1, h_2, h⟩ := bind_some h
    refine aw_region [(2, { av := .int .u8 x_1 })] [0, 5, 6, 7, 8] [] 0 (vals := [.sl false 1 (List.map (AV.int .u8) b_1), .int .u64 u_1, .int .u64 unit_1, .int .i64 i_1, .int .u64 (w_u64 x_1)]) (bxs := []) (by kernel_rfl) hmix (ac (vc_idx h_2 : idxA (List.map (AV.int .u8) b_1) i_1 = some (.int .u8 x_1)) an) ?_
    refine aw_seq (by kernel_rfl) ?_
    refine aw_seq (by kernel_rfl) ?_
    refine aw_mid (mk [(0, .sl false 1 (List.map (AV.int .u8) b_1)), (5, .int .u64 u_1), (6, .int .u64 unit_1), (7, .int .i64 i_1), (8, .int .u64 (w_u64 x_1)), (27, .bool ((i_1 == (9 : Int)) && decide ((w_u64 x_1) > (1 : Int))))] [] 0) ?_ ?_
    · rcases Bool.eq_false_or_eq_true (i_1 == (9 : Int)) with gg_10 | gg_10
      · refine aw_region [(5, { b := true })] [0, 5, 6, 7, 8, 25, 26, 27] [] 0 (vals := [.sl false 1 (List.map (AV.int .u8) b_1), .int .u64 u_1, .int .u64 unit_1, .int .i64 i_1, .int .u64 (w_u64 x_1), .int .u64 (w_u64 x_1), .bool (decide ((w_u64 x_1) > (1 : Int))), .bool (decide ((w_u64 x_1) > (1 : Int)))]) (bxs := []) (by kernel_rfl) hmix (ac gg_10 (ac gg_10 (ac gg_10 an))) ?_
        exact ⟨rfl, (sub_wkm [] [] [.s 0, .s 5, .s 6, .s 7, .s 8, .a 27 (.bool ((i_1 == (9 : Int)) && decide ((w_u64 x_1) > (1 : Int))))] [] (by kernel_rfl) (ac (congrArg AV.bool (andt gg_10 rfl) : (.bool (decide ((w_u64 x_1) > (1 : Int))) : AV) = .bool ((i_1 == (9 : Int)) && decide ((w_u64 x_1) > (1 : Int)))) an))⟩
      · refine aw_region [(3, { g := false }), (4, { g := false }), (5, { b := false })] [0, 5, 6, 7, 8, 25, 26, 27] [] 0 (vals := [.sl false 1 (List.map (AV.int .u8) b_1), .int .u64 u_1, .int .u64 unit_1, .int .i64 i_1, .int .u64 (w_u64 x_1), .tuple [], .tuple [], .bool false]) (bxs := []) (by kernel_rfl) hmix (ac gg_10 (ac gg_10 (ac gg_10 an))) ?_
        exact ⟨rfl, (sub_wkm [] [] [.s 0, .s 5, .s 6, .s 7, .s 8, .a 27 (.bool ((i_1 == (9 : Int)) && decide ((w_u64 x_1) > (1 : Int))))] [] (by kernel_rfl) (ac (congrArg AV.bool (andf gg_10) : (.bool false : AV) = .bool ((i_1 == (9 : Int)) && decide ((w_u64 x_1) > (1 : Int)))) an))⟩
    refine aw_cond (t := 27) (b := ((i_1 == (9 : Int)) && decide ((w_u64 x_1) > (1 : Int)))) (by kernel_rfl) (by kernel_rfl) ?_ ?_
    · intro g_3; replace h := cond_t g_3 h
      refine aw_seq (by kernel_rfl) ?_
      refine aw_region [] [2, 3, 4] [] 0 (vals := [.int .i64 (0 : Int), .int .i64 (0 : Int), .int .i64 (10 : Int)]) (bxs := []) (by kernel_rfl) hmix an ?_
      refine aw_ret (by kernel_rfl) ?_
      replace h := Option.some.inj h; subst h
      exact ⟨rfl, Nat.le_of_ble_eq_true rfl, by kernel_rfl⟩
    intro g_3; replace h := cond_f g_3 h
    refine aw_skip (by kernel_rfl) ?_
    refine aw_seq (by kernel_rfl) ?_
    refine aw_region [] [0, 5, 6, 7, 8] [] 0 (vals := [.sl false 1 (List.map (AV.int .u8) b_1), .int .u64 (w_u64 (u_1 + (w_u64 ((irem (w_u64 x_1) (128 : Int)) * unit_1)))), .int .u64 unit_1, .int .i64 i_1, .int .u64 (w_u64 x_1)]) (bxs := []) (by kernel_rfl) hmix (ac (by decide : (128 : Int) ≠ (0 : Int)) an) ?_
    refine aw_seq (by kernel_rfl) ?_
    refine aw_region [] [0, 5, 6, 7, 8] [] 0 (vals := [.sl false 1 (List.map (AV.int .u8) b_1), .int .u64 (w_u64 (u_1 + (w_u64 ((irem (w_u64 x_1) (128 : Int)) * unit_1)))), .int .u64 (w_u64 (unit_1 * (128 : Int))), .int .i64 i_1, .int .u64 (w_u64 x_1)]) (bxs := []) (by kernel_rfl) hmix an ?_
    refine aw_seq (by kernel_rfl) ?_
    refine aw_seq (by kernel_rfl) ?_
    refine aw_mid (mk [(0, .sl false 1 (List.map (AV.int .u8) b_1)), (5, .int .u64 (w_u64 (u_1 + (w_u64 ((irem (w_u64 x_1) (128 : Int)) * unit_1))))), (6, .int .u64 (w_u64 (unit_1 * (128 : Int)))), (7, .int .i64 i_1), (8, .int .u64 (w_u64 x_1)), (45, .bool (decide ((w_u64 x_1) < (128 : Int)) && (((w_u64 x_1) == (0 : Int)) && decide (i_1 > (0 : Int)))))] [] 0) ?_ ?_
    · rcases Bool.eq_false_or_eq_true (decide ((w_u64 x_1) < (128 : Int))) with gg_11 | gg_11
      · rcases Bool.eq_false_or_eq_true ((w_u64 x_1) == (0 : Int)) with gg_12 | gg_12
        · refine aw_region [(5, { b := true }), (9, { b := true })] [0, 5, 6, 7, 8, 39, 40, 43, 44, 45] [] 0 (vals := [.sl false 1 (List.map (AV.int .u8) b_1), .int .u64 (w_u64 (u_1 + (w_u64 ((irem (w_u64 x_1) (128 : Int)) * unit_1)))), .int .u64 (w_u64 (unit_1 * (128 : Int))), .int .i64 i_1, .int .u64 (w_u64 x_1), .int .u64 (w_u64 x_1), .bool ((w_u64 x_1) == (0 : Int)), .int .i64 i_1, .bool (decide (i_1 > (0 : Int))), .bool (decide (i_1 > (0 : Int)))]) (bxs := []) (by kernel_rfl) hmix (ac gg_11 (ac gg_11 (ac gg_11 (ac gg_12 (ac gg_12 (ac gg_12 an)))))) ?_
          exact ⟨rfl, (sub_wkm [] [] [.s 0, .s 5, .s 6, .s 7, .s 8, .a 45 (.bool (decide ((w_u64 x_1) < (128 : Int)) && (((w_u64 x_1) == (0 : Int)) && decide (i_1 > (0 : Int)))))] [] (by kernel_rfl) (ac (congrArg AV.bool (andt gg_11 (andt gg_12 rfl)) : (.bool (decide (i_1 > (0 : Int))) : AV) = .bool (decide ((w_u64 x_1) < (128 : Int)) && (((w_u64 x_1) == (0 : Int)) && decide (i_1 > (0 : Int))))) an))⟩
        · refine aw_region [(5, { b := true }), (7, { g := false }), (8, { g := false }), (9, { b := false })] [0, 5, 6, 7, 8, 39, 40, 43, 44, 45] [] 0 (vals := [.sl false 1 (List.map (AV.int .u8) b_1), .int .u64 (w_u64 (u_1 + (w_u64 ((irem (w_u64 x_1) (128 : Int)) * unit_1)))), .int .u64 (w_u64 (unit_1 * (128 : Int))), .int .i64 i_1, .int .u64 (w_u64 x_1), .int .u64 (w_u64 x_1), .bool ((w_u64 x_1) == (0 : Int)), .tuple [], .tuple [], .bool false]) (bxs := []) (by kernel_rfl) hmix (ac gg_11 (ac gg_11 (ac gg_11 (ac gg_12 (ac gg_12 (ac gg_12 an)))))) ?_
          exact ⟨rfl, (sub_wkm [] [] [.s 0, .s 5, .s 6, .s 7, .s 8, .a 45 (.bool (decide ((w_u64 x_1) < (128 : Int)) && (((w_u64 x_1) == (0 : Int)) && decide (i_1 > (0 : Int)))))] [] (by kernel_rfl) (ac (congrArg AV.bool (andt gg_11 (andf gg_12)) : (.bool false : AV) = .bool (decide ((w_u64 x_1) < (128 : Int)) && (((w_u64 x_1) == (0 : Int)) && decide (i_1 > (0 : Int))))) an))⟩
      · refine aw_region [(3, { g := false }), (4, { g := false }), (5, { b := false }), (7, { g := false }), (8, { g := false }), (9, { b := false })] [0, 5, 6, 7, 8, 39, 40, 43, 44, 45] [] 0 (vals := [.sl false 1 (List.map (AV.int .u8) b_1), .int .u64 (w_u64 (u_1 + (w_u64 ((irem (w_u64 x_1) (128 : Int)) * unit_1)))), .int .u64 (w_u64 (unit_1 * (128 : Int))), .int .i64 i_1, .int .u64 (w_u64 x_1), .tuple [], .tuple [], .tuple [], .tuple [], .bool false]) (bxs := []) (by kernel_rfl) hmix (ac gg_11 (ac gg_11 (ac gg_11 (ac (rfl : false = !true) (ac (rfl : false = !true) (ac (rfl : false = false) an)))))) ?_
        exact ⟨rfl, (sub_wkm [] [] [.s 0, .s 5, .s 6, .s 7, .s 8, .a 45 (.bool (decide ((w_u64 x_1) < (128 : Int)) && (((w_u64 x_1) == (0 : Int)) && decide (i_1 > (0 : Int)))))] [] (by kernel_rfl) (ac (congrArg AV.bool (andf gg_11) : (.bool false : AV) = .bool (decide ((w_u64 x_1) < (128 : Int)) && (((w_u64 x_1) == (0 : Int)) && decide (i_1 > (0 : Int))))) an))⟩
    refine aw_cond (t := 45) (b := (decide ((w_u64 x_1) < (128 : Int)) && (((w_u64 x_1) == (0 : Int)) && decide (i_1 > (0 : Int))))) (by kernel_rfl) (by kernel_rfl) ?_ ?_
    · intro g_4; replace h := cond_t g_4 h
      refine aw_seq (by kernel_rfl) ?_
      refine aw_region [] [2, 3, 4] [] 0 (vals := [.int .i64 (0 : Int), .int .i64 (0 : Int), .int .i64 (10 : Int)]) (bxs := []) (by kernel_rfl) hmix an ?_
      refine aw_ret (by kernel_rfl) ?_
      replace h := Option.some.inj h; subst h
      exact ⟨rfl, Nat.le_of_ble_eq_true rfl, by kernel_rfl⟩
    intro g_4; replace h := cond_f g_4 h
    refine aw_skip (by kernel_rfl) ?_
    refine aw_seq (by kernel_rfl) ?_
    refine aw_region [] [0, 5, 6, 7, 47] [] 0 (vals := [.sl false 1 (List.map (AV.int .u8) b_1), .int .u64 (w_u64 (u_1 + (w_u64 ((irem (w_u64 x_1) (128 : Int)) * unit_1)))), .int .u64 (w_u64 (unit_1 * (128 : Int))), .int .i64 i_1, .bool (decide ((w_u64 x_1) < (128 : Int)))]) (bxs := []) (by kernel_rfl) hmix an ?_
    refine aw_cond (t := 47) (b := (decide ((w_u64 x_1) < (128 : Int)))) (by kernel_rfl) (by kernel_rfl) ?_ ?_
    rotate_left
    · intro g_5; replace h := cond_f g_5 h
      refine aw_skip (by kernel_rfl) ?_
      refine aw_region [] [0, 5, 6, 7] [] 0 (vals := [.sl false 1 (List.map (AV.int .u8) b_1), .int .u64 (w_u64 (u_1 + (w_u64 ((irem (w_u64 x_1) (128 : Int)) * unit_1)))), .int .u64 (w_u64 (unit_1 * (128 : Int))), .int .i64 (w_i64 (i_1 + (1 : Int)))]) (bxs := []) (by kernel_rfl) hmix an ?_
      exact ⟨_, (sub_wkm [] [] [.s 0, .s 5, .s 6, .s 7] [] (by kernel_rfl) an), _, _, _, rfl, h⟩
    intro g_5; replace h := cond_t g_5 h
    refine aw_seq (by kernel_rfl) ?_
    obtain ⟨r_1, h_3, h⟩ := bind_some h
    refine aw_region [(1, { av := .int .i64 r_1, l := [.int .u64 (w_u64 (u_1 + (w_u64 ((irem (w_u64 x_1) (128 : Int)) * unit_1))))] })] [2, 3, 4] [] 0 (vals := [.int .i64 r_1, .int .i64 (w_i64 (i_1 + (1 : Int))), .int .i64 (0 : Int)]) (bxs := []) (by kernel_rfl) hmix (ac (rfl : ([.int .u64 (w_u64 (u_1 + (w_u64 ((irem (w_u64 x_1) (128 : Int)) * unit_1))))] : List AV) = [.int .u64 (w_u64 (u_1 + (w_u64 ((irem (w_u64 x_1) (128 : Int)) * unit_1))))]) (ac (rfl : ([] : List BoxSt) = []) (ac (R05_integer_ok (w_u64 (u_1 + (w_u64 ((irem (w_u64 x_1) (128 : Int)) * unit_1)))) r_1 h_3 : TripleG prog 53 [] [] [.int .u64 (w_u64 (u_1 + (w_u64 ((irem (w_u64 x_1) (128 : Int)) * unit_1))))] [] (.int .i64 r_1)) an))) ?_
    refine aw_ret (by kernel_rfl) ?_
    replace h := Option.some.inj h; subst h
    exact ⟨rfl, Nat.le_of_ble_eq_true rfl, by kernel_rfl⟩
  intro e st1 hk
  rcases o_1 with q_1 | q_2
  rotate_left
  · obtain ⟨rfl, hf⟩ := hk
    replace h := Option.some.inj h; subst h
    exact ⟨st1, Sub.refl _ _, .inr rfl, hf⟩
  obtain ⟨rfl, hs⟩ := hk
  refine ⟨_, hs, ?_⟩
  refine aw_seq (by kernel_rfl) ?_
  refine aw_region [] [2, 3, 4] [] 0 (vals := [.int .i64 (0 : Int), .int .i64 (0 : Int), .int .i64 (10 : Int)]) (bxs := []) (by kernel_rfl) hmix an ?_
  refine aw_ret (by kernel_rfl) ?_
  replace h := Option.some.inj h; subst h
  exact ⟨.inr rfl, Nat.le_of_ble_eq_true rfl, by kernel_rfl⟩

end Go.Ab
