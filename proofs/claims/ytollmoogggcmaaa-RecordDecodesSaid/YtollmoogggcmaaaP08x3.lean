/- Printed: the typed Lean functions of the Go functions, or the proofs that the Go functions meet them. No conditions but those that the theorems name. -/
import Derived.Test.YtollmoogggcmaaaP08x2
namespace Go.Ab
open Go
set_option linter.unusedVariables false
theorem R07_Check_ok (F : Nat) (e_1 : T_api_Event) (r : Int) (h : R07_Check F e_1 = some r) : TripleG prog 26 [] [] [e_T_api_Event e_1] [] (.int .i64 r) := by
  refine triple_intro (fn := Go.Proofs.Try.f26) (code := codeOf Go.Proofs.Try.f26) (by kernel_rfl) (by kernel_rfl) (Nat.le_of_ble_eq_true (by kernel_rfl)) ?_
  unfold R07_Check at h
  refine aw_seq (by kernel_rfl) ?_
  refine aw_region [(0, { id := 0 })] [1] [0] 1 (vals := [.ptr 0 0 0 0]) (bxs := [.live (.var 28 (v_T_api_Event e_1))]) (by kernel_rfl) hmix an ?_
  refine aw_seq (by kernel_rfl) ?_
  refine aw_seq (by kernel_rfl) ?_
  refine aw_mid (mk [(1, .ptr 0 0 0 0), (15, .bool (decide (e_1.At < (0 : Int)) || decide (e_1.At > (1000000000000 : Int))))] [(0, .live (.var 28 (v_T_api_Event e_1)))] 1) ?_ ?_
  · rcases Bool.eq_false_or_eq_true (decide (e_1.At < (0 : Int))) with gg_1 | gg_1
    · refine aw_region [(4, { g := false }), (5, { g := false }), (6, { g := false }), (7, { b := true })] [1, 15] [0] 1 (vals := [.ptr 0 0 0 0, .bool true]) (bxs := [.live (.var 28 (v_T_api_Event e_1))]) (by kernel_rfl) hmix (ac gg_1 (ac gg_1 (ac gg_1 (ac gg_1 an)))) ?_
      exact ⟨rfl, (sub_wkm [0] [] [.s 1, .a 15 (.bool (decide (e_1.At < (0 : Int)) || decide (e_1.At > (1000000000000 : Int))))] [.s 0] (by kernel_rfl) (ac (congrArg AV.bool (ort gg_1) : (.bool true : AV) = .bool (decide (e_1.At < (0 : Int)) || decide (e_1.At > (1000000000000 : Int)))) an))⟩
    · refine aw_region [(7, { b := false })] [1, 15] [0] 1 (vals := [.ptr 0 0 0 0, .bool (decide (e_1.At > (1000000000000 : Int)))]) (bxs := [.live (.var 28 (v_T_api_Event e_1))]) (by kernel_rfl) hmix (ac gg_1 (ac gg_1 (ac gg_1 (ac gg_1 an)))) ?_
      exact ⟨rfl, (sub_wkm [0] [] [.s 1, .a 15 (.bool (decide (e_1.At < (0 : Int)) || decide (e_1.At > (1000000000000 : Int))))] [.s 0] (by kernel_rfl) (ac (congrArg AV.bool (orf gg_1 rfl) : (.bool (decide (e_1.At > (1000000000000 : Int))) : AV) = .bool (decide (e_1.At < (0 : Int)) || decide (e_1.At > (1000000000000 : Int)))) an))⟩
  refine aw_cond (t := 15) (b := (decide (e_1.At < (0 : Int)) || decide (e_1.At > (1000000000000 : Int)))) (by kernel_rfl) (by kernel_rfl) ?_ ?_
  · intro g_1; replace h := cond_t g_1 h
    refine aw_seq (by kernel_rfl) ?_
    refine aw_region [] [2] [] 1 (vals := [.int .i64 (2 : Int)]) (bxs := []) (by kernel_rfl) hmix an ?_
    refine aw_ret (by kernel_rfl) ?_
    replace h := Option.some.inj h; subst h
    exact ⟨.inr rfl, Nat.le_of_ble_eq_true rfl, by kernel_rfl⟩
  intro g_1; replace h := cond_f g_1 h
  refine aw_skip (by kernel_rfl) ?_
  refine aw_seq (by kernel_rfl) ?_
  refine aw_seq (by kernel_rfl) ?_
  refine aw_mid (mk [(1, .ptr 0 0 0 0), (23, .bool (decide (e_1.Kind < (1 : Int)) || decide (e_1.Kind > (12 : Int))))] [(0, .live (.var 28 (v_T_api_Event e_1)))] 1) ?_ ?_
  · rcases Bool.eq_false_or_eq_true (decide (e_1.Kind < (1 : Int))) with gg_2 | gg_2
    · refine aw_region [(4, { g := false }), (5, { g := false }), (6, { g := false }), (7, { b := true })] [1, 23] [0] 1 (vals := [.ptr 0 0 0 0, .bool true]) (bxs := [.live (.var 28 (v_T_api_Event e_1))]) (by kernel_rfl) hmix (ac gg_2 (ac gg_2 (ac gg_2 (ac gg_2 an)))) ?_
      exact ⟨rfl, (sub_wkm [0] [] [.s 1, .a 23 (.bool (decide (e_1.Kind < (1 : Int)) || decide (e_1.Kind > (12 : Int))))] [.s 0] (by kernel_rfl) (ac (congrArg AV.bool (ort gg_2) : (.bool true : AV) = .bool (decide (e_1.Kind < (1 : Int)) || decide (e_1.Kind > (12 : Int)))) an))⟩
    · refine aw_region [(7, { b := false })] [1, 23] [0] 1 (vals := [.ptr 0 0 0 0, .bool (decide (e_1.Kind > (12 : Int)))]) (bxs := [.live (.var 28 (v_T_api_Event e_1))]) (by kernel_rfl) hmix (ac gg_2 (ac gg_2 (ac gg_2 (ac gg_2 an)))) ?_
      exact ⟨rfl, (sub_wkm [0] [] [.s 1, .a 23 (.bool (decide (e_1.Kind < (1 : Int)) || decide (e_1.Kind > (12 : Int))))] [.s 0] (by kernel_rfl) (ac (congrArg AV.bool (orf gg_2 rfl) : (.bool (decide (e_1.Kind > (12 : Int))) : AV) = .bool (decide (e_1.Kind < (1 : Int)) || decide (e_1.Kind > (12 : Int)))) an))⟩
  refine aw_cond (t := 23) (b := (decide (e_1.Kind < (1 : Int)) || decide (e_1.Kind > (12 : Int)))) (by kernel_rfl) (by kernel_rfl) ?_ ?_
  · intro g_2; replace h := cond_t g_2 h
    refine aw_seq (by kernel_rfl) ?_
    refine aw_region [] [2] [] 1 (vals := [.int .i64 (1 : Int)]) (bxs := []) (by kernel_rfl) hmix an ?_
    refine aw_ret (by kernel_rfl) ?_
    replace h := Option.some.inj h; subst h
    exact ⟨.inr rfl, Nat.le_of_ble_eq_true rfl, by kernel_rfl⟩
  intro g_2; replace h := cond_f g_2 h
  refine aw_skip (by kernel_rfl) ?_
  refine aw_seq (by kernel_rfl) ?_
  obtain ⟨r_1, h_1, h⟩ := bind_some h
  refine aw_region [(2, { av := .tuple [.bool r_1.1, .bool r_1.2.1, .bool r_1.2.2.1, .bool r_1.2.2.2], l := [.int .i64 e_1.Kind] })] [1, 3, 4, 5, 6] [0] 1 (vals := [.ptr 0 0 0 0, .bool r_1.1, .bool r_1.2.1, .bool r_1.2.2.1, .bool r_1.2.2.2]) (bxs := [.live (.var 28 (v_T_api_Event e_1))]) (by kernel_rfl) hmix (ac (rfl : ([.int .i64 e_1.Kind] : List AV) = [.int .i64 e_1.Kind]) (ac (rfl : ([] : List BoxSt) = []) (ac (R07_uses_ok e_1.Kind r_1 h_1 : TripleG prog 51 [] [] [.int .i64 e_1.Kind] [] (.tuple [.bool r_1.1, .bool r_1.2.1, .bool r_1.2.2.1, .bool r_1.2.2.2])) an))) ?_
  refine aw_seq (by kernel_rfl) ?_
  refine aw_seq (by kernel_rfl) ?_
  obtain ⟨p_1, h_2, h⟩ := bind_some h
  refine aw_mid (mk [(1, .ptr 0 0 0 0), (3, .bool r_1.1), (6, .bool r_1.2.2.2), (66, .bool p_1)] [(0, .live (.var 28 (v_T_api_Event e_1)))] 1) ?_ ?_
  · replace h := h_2
    rcases Bool.eq_false_or_eq_true (!r_1.1) with gg_3 | gg_3
    · replace h := cond_t gg_3 h
      rcases Bool.eq_false_or_eq_true (!(e_1.Name == ([] : List Int))) with gg_4 | gg_4
      · replace h := cond_t gg_4 h
        refine aw_region [(6, { b := true }), (8, { g := false }), (9, { g := false }), (10, { g := false }), (14, { g := false }), (15, { b := true }), (17, { g := false }), (18, { g := false }), (19, { g := false }), (23, { g := false }), (24, { b := true }), (26, { g := false }), (27, { g := false }), (28, { g := false }), (33, { g := false }), (34, { b := true })] [1, 3, 6, 66] [0] 1 (vals := [.ptr 0 0 0 0, .bool r_1.1, .bool r_1.2.2.2, .bool true]) (bxs := [.live (.var 28 (v_T_api_Event e_1))]) (by kernel_rfl) hmix (ac gg_3 (ac gg_3 (ac gg_3 (ac gg_3 (ac gg_4 (ac gg_4 (ac gg_4 (ac gg_4 (ac gg_4 (ac (rfl : true = !false) (ac (rfl : true = !false) (ac (rfl : true = !false) (ac (rfl : true = !false) (ac (rfl : true = true) (ac (rfl : true = !false) (ac (rfl : true = !false) (ac (rfl : true = !false) (ac (rfl : true = !false) (ac (rfl : true = true) an))))))))))))))))))) ?_
        replace h := Option.some.inj h; subst h
        exact ⟨rfl, (sub_wkm [0] [] [.s 1, .s 3, .s 6, .s 66] [.s 0] (by kernel_rfl) an)⟩
      · replace h := cond_f gg_4 h
        rcases Bool.eq_false_or_eq_true (!r_1.2.1) with gg_5 | gg_5
        · replace h := cond_t gg_5 h
          rcases Bool.eq_false_or_eq_true (e_1.N != (0 : Int)) with gg_6 | gg_6
          · replace h := cond_t gg_6 h
            refine aw_region [(6, { b := true }), (14, { b := true }), (15, { b := false }), (17, { g := false }), (18, { g := false }), (19, { g := false }), (23, { g := false }), (24, { b := true }), (26, { g := false }), (27, { g := false }), (28, { g := false }), (33, { g := false }), (34, { b := true })] [1, 3, 6, 66] [0] 1 (vals := [.ptr 0 0 0 0, .bool r_1.1, .bool r_1.2.2.2, .bool true]) (bxs := [.live (.var 28 (v_T_api_Event e_1))]) (by kernel_rfl) hmix (ac gg_3 (ac gg_3 (ac gg_3 (ac gg_3 (ac gg_4 (ac gg_4 (ac gg_4 (ac gg_5 (ac gg_5 (ac gg_5 (ac gg_4 (ac gg_5 (ac gg_4 (ac gg_6 (ac gg_6 (ac gg_6 (ac gg_6 (ac gg_6 (ac (rfl : true = !false) (ac (rfl : true = !false) (ac (rfl : true = !false) (ac (rfl : true = !false) (ac (rfl : true = true) an))))))))))))))))))))))) ?_
            replace h := Option.some.inj h; subst h
            exact ⟨rfl, (sub_wkm [0] [] [.s 1, .s 3, .s 6, .s 66] [.s 0] (by kernel_rfl) an)⟩
          · replace h := cond_f gg_6 h
            rcases Bool.eq_false_or_eq_true (!r_1.2.2.1) with gg_7 | gg_7
            · replace h := cond_t gg_7 h
              rcases Bool.eq_false_or_eq_true (e_1.M != (0 : Int)) with gg_8 | gg_8
              · replace h := cond_t gg_8 h
                refine aw_region [(6, { b := true }), (14, { b := true }), (15, { b := false }), (23, { b := true }), (24, { b := false }), (26, { g := false }), (27, { g := false }), (28, { g := false }), (33, { g := false }), (34, { b := true })] [1, 3, 6, 66] [0] 1 (vals := [.ptr 0 0 0 0, .bool r_1.1, .bool r_1.2.2.2, .bool true]) (bxs := [.live (.var 28 (v_T_api_Event e_1))]) (by kernel_rfl) hmix (ac gg_3 (ac gg_3 (ac gg_3 (ac gg_3 (ac gg_4 (ac gg_4 (ac gg_4 (ac gg_5 (ac gg_5 (ac gg_5 (ac gg_4 (ac gg_5 (ac gg_4 (ac gg_6 (ac gg_6 (ac gg_6 (ac gg_7 (ac gg_7 (ac gg_7 (ac gg_6 (ac gg_7 (ac gg_6 (ac gg_8 (ac gg_8 (ac gg_8 (ac gg_8 (ac gg_8 an))))))))))))))))))))))))))) ?_
                replace h := Option.some.inj h; subst h
                exact ⟨rfl, (sub_wkm [0] [] [.s 1, .s 3, .s 6, .s 66] [.s 0] (by kernel_rfl) an)⟩
              · replace h := cond_f gg_8 h
                rcases Bool.eq_false_or_eq_true (!r_1.2.2.2) with gg_9 | gg_9
                · replace h := cond_t gg_9 h
                  refine aw_region [(6, { b := true }), (14, { b := true }), (15, { b := false }), (23, { b := true }), (24, { b := false }), (31, { n := (e_1.Stack).length }), (33, { b := true }), (34, { b := false })] [1, 3, 6, 66] [0] 1 (vals := [.ptr 0 0 0 0, .bool r_1.1, .bool r_1.2.2.2, .bool (decide ((((e_1.Stack).length : Nat) : Int) > (0 : Int)))]) (bxs := [.live (.var 28 (v_T_api_Event e_1))]) (by kernel_rfl) hmix (ac gg_3 (ac gg_3 (ac gg_3 (ac gg_3 (ac gg_4 (ac gg_4 (ac gg_4 (ac gg_5 (ac gg_5 (ac gg_5 (ac gg_4 (ac gg_5 (ac gg_4 (ac gg_6 (ac gg_6 (ac gg_6 (ac gg_7 (ac gg_7 (ac gg_7 (ac gg_6 (ac gg_7 (ac gg_6 (ac gg_8 (ac gg_8 (ac gg_8 (ac gg_9 (ac gg_9 (ac gg_9 (ac (vc_len _ : ((List.map AV.str e_1.Stack)).length = (e_1.Stack).length) (ac gg_9 (ac gg_8 (ac gg_9 (ac gg_8 an))))))))))))))))))))))))))))))))) ?_
                  replace h := Option.some.inj h; subst h
                  exact ⟨rfl, (sub_wkm [0] [] [.s 1, .s 3, .s 6, .s 66] [.s 0] (by kernel_rfl) an)⟩
                · replace h := cond_f gg_9 h
                  refine aw_region [(6, { b := true }), (14, { b := true }), (15, { b := false }), (23, { b := true }), (24, { b := false }), (29, { g := false }), (30, { g := false }), (31, { g := false }), (32, { g := false }), (33, { b := false }), (34, { b := false })] [1, 3, 6, 66] [0] 1 (vals := [.ptr 0 0 0 0, .bool r_1.1, .bool r_1.2.2.2, .bool false]) (bxs := [.live (.var 28 (v_T_api_Event e_1))]) (by kernel_rfl) hmix (ac gg_3 (ac gg_3 (ac gg_3 (ac gg_3 (ac gg_4 (ac gg_4 (ac gg_4 (ac gg_5 (ac gg_5 (ac gg_5 (ac gg_4 (ac gg_5 (ac gg_4 (ac gg_6 (ac gg_6 (ac gg_6 (ac gg_7 (ac gg_7 (ac gg_7 (ac gg_6 (ac gg_7 (ac gg_6 (ac gg_8 (ac gg_8 (ac gg_8 (ac gg_9 (ac gg_9 (ac gg_9 (ac gg_9 (ac gg_8 (ac gg_9 (ac gg_8 an)))))))))))))))))))))))))))))))) ?_
                  replace h := Option.some.inj h; subst h
                  exact ⟨rfl, (sub_wkm [0] [] [.s 1, .s 3, .s 6, .s 66] [.s 0] (by kernel_rfl) an)⟩
            · replace h := cond_f gg_7 h
              rcases Bool.eq_false_or_eq_true (!r_1.2.2.2) with gg_10 | gg_10
              · replace h := cond_t gg_10 h
                refine aw_region [(6, { b := true }), (14, { b := true }), (15, { b := false }), (20, { g := false }), (21, { g := false }), (22, { g := false }), (23, { b := false }), (24, { b := false }), (31, { n := (e_1.Stack).length }), (33, { b := true }), (34, { b := false })] [1, 3, 6, 66] [0] 1 (vals := [.ptr 0 0 0 0, .bool r_1.1, .bool r_1.2.2.2, .bool (decide ((((e_1.Stack).length : Nat) : Int) > (0 : Int)))]) (bxs := [.live (.var 28 (v_T_api_Event e_1))]) (by kernel_rfl) hmix (ac gg_3 (ac gg_3 (ac gg_3 (ac gg_3 (ac gg_4 (ac gg_4 (ac gg_4 (ac gg_5 (ac gg_5 (ac gg_5 (ac gg_4 (ac gg_5 (ac gg_4 (ac gg_6 (ac gg_6 (ac gg_6 (ac gg_7 (ac gg_7 (ac gg_7 (ac gg_6 (ac gg_7 (ac gg_6 (ac (rfl : false = false) (ac (rfl : false = false) (ac (rfl : false = false) (ac gg_10 (ac gg_10 (ac gg_10 (ac (vc_len _ : ((List.map AV.str e_1.Stack)).length = (e_1.Stack).length) (ac gg_10 (ac (rfl : false = false) (ac gg_10 (ac (rfl : false = false) an))))))))))))))))))))))))))))))))) ?_
                replace h := Option.some.inj h; subst h
                exact ⟨rfl, (sub_wkm [0] [] [.s 1, .s 3, .s 6, .s 66] [.s 0] (by kernel_rfl) an)⟩
              · replace h := cond_f gg_10 h
                refine aw_region [(6, { b := true }), (14, { b := true }), (15, { b := false }), (20, { g := false }), (21, { g := false }), (22, { g := false }), (23, { b := false }), (24, { b := false }), (29, { g := false }), (30, { g := false }), (31, { g := false }), (32, { g := false }), (33, { b := false }), (34, { b := false })] [1, 3, 6, 66] [0] 1 (vals := [.ptr 0 0 0 0, .bool r_1.1, .bool r_1.2.2.2, .bool false]) (bxs := [.live (.var 28 (v_T_api_Event e_1))]) (by kernel_rfl) hmix (ac gg_3 (ac gg_3 (ac gg_3 (ac gg_3 (ac gg_4 (ac gg_4 (ac gg_4 (ac gg_5 (ac gg_5 (ac gg_5 (ac gg_4 (ac gg_5 (ac gg_4 (ac gg_6 (ac gg_6 (ac gg_6 (ac gg_7 (ac gg_7 (ac gg_7 (ac gg_6 (ac gg_7 (ac gg_6 (ac (rfl : false = false) (ac (rfl : false = false) (ac (rfl : false = false) (ac gg_10 (ac gg_10 (ac gg_10 (ac gg_10 (ac (rfl : false = false) (ac gg_10 (ac (rfl : false = false) an)))))))))))))))))))))))))))))))) ?_
                replace h := Option.some.inj h; subst h
                exact ⟨rfl, (sub_wkm [0] [] [.s 1, .s 3, .s 6, .s 66] [.s 0] (by kernel_rfl) an)⟩
        · replace h := cond_f gg_5 h
          rcases Bool.eq_false_or_eq_true (!r_1.2.2.1) with gg_11 | gg_11
          · replace h := cond_t gg_11 h
            rcases Bool.eq_false_or_eq_true (e_1.M != (0 : Int)) with gg_12 | gg_12
            · replace h := cond_t gg_12 h
              refine aw_region [(6, { b := true }), (11, { g := false }), (12, { g := false }), (13, { g := false }), (14, { b := false }), (15, { b := false }), (23, { b := true }), (24, { b := false }), (26, { g := false }), (27, { g := false }), (28, { g := false }), (33, { g := false }), (34, { b := true })] [1, 3, 6, 66] [0] 1 (vals := [.ptr 0 0 0 0, .bool r_1.1, .bool r_1.2.2.2, .bool true]) (bxs := [.live (.var 28 (v_T_api_Event e_1))]) (by kernel_rfl) hmix (ac gg_3 (ac gg_3 (ac gg_3 (ac gg_3 (ac gg_4 (ac gg_4 (ac gg_4 (ac gg_5 (ac gg_5 (ac gg_5 (ac gg_4 (ac gg_5 (ac gg_4 (ac (rfl : false = false) (ac (rfl : false = false) (ac (rfl : false = false) (ac gg_11 (ac gg_11 (ac gg_11 (ac (rfl : false = false) (ac gg_11 (ac (rfl : false = false) (ac gg_12 (ac gg_12 (ac gg_12 (ac gg_12 (ac gg_12 an))))))))))))))))))))))))))) ?_
              replace h := Option.some.inj h; subst h
              exact ⟨rfl, (sub_wkm [0] [] [.s 1, .s 3, .s 6, .s 66] [.s 0] (by kernel_rfl) an)⟩
            · replace h := cond_f gg_12 h
              rcases Bool.eq_false_or_eq_true (!r_1.2.2.2) with gg_13 | gg_13
              · replace h := cond_t gg_13 h
                refine aw_region [(6, { b := true }), (11, { g := false }), (12, { g := false }), (13, { g := false }), (14, { b := false }), (15, { b := false }), (23, { b := true }), (24, { b := false }), (31, { n := (e_1.Stack).length }), (33, { b := true }), (34, { b := false })] [1, 3, 6, 66] [0] 1 (vals := [.ptr 0 0 0 0, .bool r_1.1, .bool r_1.2.2.2, .bool (decide ((((e_1.Stack).length : Nat) : Int) > (0 : Int)))]) (bxs := [.live (.var 28 (v_T_api_Event e_1))]) (by kernel_rfl) hmix (ac gg_3 (ac gg_3 (ac gg_3 (ac gg_3 (ac gg_4 (ac gg_4 (ac gg_4 (ac gg_5 (ac gg_5 (ac gg_5 (ac gg_4 (ac gg_5 (ac gg_4 (ac (rfl : false = false) (ac (rfl : false = false) (ac (rfl : false = false) (ac gg_11 (ac gg_11 (ac gg_11 (ac (rfl : false = false) (ac gg_11 (ac (rfl : false = false) (ac gg_12 (ac gg_12 (ac gg_12 (ac gg_13 (ac gg_13 (ac gg_13 (ac (vc_len _ : ((List.map AV.str e_1.Stack)).length = (e_1.Stack).length) (ac gg_13 (ac gg_12 (ac gg_13 (ac gg_12 an))))))))))))))))))))))))))))))))) ?_
                replace h := Option.some.inj h; subst h
                exact ⟨rfl, (sub_wkm [0] [] [.s 1, .s 3, .s 6, .s 66] [.s 0] (by kernel_rfl) an)⟩
              · replace h := cond_f gg_13 h
                refine aw_region [(6, { b := true }), (11, { g := false }), (12, { g := false }), (13, { g := false }), (14, { b := false }), (15, { b := false }), (23, { b := true }), (24, { b := false }), (29, { g := false }), (30, { g := false }), (31, { g := false }), (32, { g := false }), (33, { b := false }), (34, { b := false })] [1, 3, 6, 66] [0] 1 (vals := [.ptr 0 0 0 0, .bool r_1.1, .bool r_1.2.2.2, .bool false]) (bxs := [.live (.var 28 (v_T_api_Event e_1))]) (by kernel_rfl) hmix (ac gg_3 (ac gg_3 (ac gg_3 (ac gg_3 (ac gg_4 (ac gg_4 (ac gg_4 (ac gg_5 (ac gg_5 (ac gg_5 (ac gg_4 (ac gg_5 (ac gg_4 (ac (rfl : false = false) (ac (rfl : false = false) (ac (rfl : false = false) (ac gg_11 (ac gg_11 (ac gg_11 (ac (rfl : false = false) (ac gg_11 (ac (rfl : false = false) (ac gg_12 (ac gg_12 (ac gg_12 (ac gg_13 (ac gg_13 (ac gg_13 (ac gg_13 (ac gg_12 (ac gg_13 (ac gg_12 an)))))))))))))))))))))))))))))))) ?_
                replace h := Option.some.inj h; subst h
                exact ⟨rfl, (sub_wkm [0] [] [.s 1, .s 3, .s 6, .s 66] [.s 0] (by kernel_rfl) an)⟩
          · replace h := cond_f gg_11 h
            rcases Bool.eq_false_or_eq_true (!r_1.2.2.2) with gg_14 | gg_14
            · replace h := cond_t gg_14 h
              refine aw_region [(6, { b := true }), (11, { g := false }), (12, { g := false }), (13, { g := false }), (14, { b := false }), (15, { b := false }), (20, { g := false }), (21, { g := false }), (22, { g := false }), (23, { b := false }), (24, { b := false }), (31, { n := (e_1.Stack).length }), (33, { b := true }), (34, { b := false })] [1, 3, 6, 66] [0] 1 (vals := [.ptr 0 0 0 0, .bool r_1.1, .bool r_1.2.2.2, .bool (decide ((((e_1.Stack).length : Nat) : Int) > (0 : Int)))]) (bxs := [.live (.var 28 (v_T_api_Event e_1))]) (by kernel_rfl) hmix (ac gg_3 (ac gg_3 (ac gg_3 (ac gg_3 (ac gg_4 (ac gg_4 (ac gg_4 (ac gg_5 (ac gg_5 (ac gg_5 (ac gg_4 (ac gg_5 (ac gg_4 (ac (rfl : false = false) (ac (rfl : false = false) (ac (rfl : false = false) (ac gg_11 (ac gg_11 (ac gg_11 (ac (rfl : false = false) (ac gg_11 (ac (rfl : false = false) (ac (rfl : false = false) (ac (rfl : false = false) (ac (rfl : false = false) (ac gg_14 (ac gg_14 (ac gg_14 (ac (vc_len _ : ((List.map AV.str e_1.Stack)).length = (e_1.Stack).length) (ac gg_14 (ac (rfl : false = false) (ac gg_14 (ac (rfl : false = false) an))))))))))))))))))))))))))))))))) ?_
              replace h := Option.some.inj h; subst h
              exact ⟨rfl, (sub_wkm [0] [] [.s 1, .s 3, .s 6, .s 66] [.s 0] (by kernel_rfl) an)⟩
            · replace h := cond_f gg_14 h
              refine aw_region [(6, { b := true }), (11, { g := false }), (12, { g := false }), (13, { g := false }), (14, { b := false }), (15, { b := false }), (20, { g := false }), (21, { g := false }), (22, { g := false }), (23, { b := false }), (24, { b := false }), (29, { g := false }), (30, { g := false }), (31, { g := false }), (32, { g := false }), (33, { b := false }), (34, { b := false })] [1, 3, 6, 66] [0] 1 (vals := [.ptr 0 0 0 0, .bool r_1.1, .bool r_1.2.2.2, .bool false]) (bxs := [.live (.var 28 (v_T_api_Event e_1))]) (by kernel_rfl) hmix (ac gg_3 (ac gg_3 (ac gg_3 (ac gg_3 (ac gg_4 (ac gg_4 (ac gg_4 (ac gg_5 (ac gg_5 (ac gg_5 (ac gg_4 (ac gg_5 (ac gg_4 (ac (rfl : false = false) (ac (rfl : false = false) (ac (rfl : false = false) (ac gg_11 (ac gg_11 (ac gg_11 (ac (rfl : false = false) (ac gg_11 (ac (rfl : false = false) (ac (rfl : false = false) (ac (rfl : false = false) (ac (rfl : false = false) (ac gg_14 (ac gg_14 (ac gg_14 (ac gg_14 (ac (rfl : false = false) (ac gg_14 (ac (rfl : false = false) an)))))))))))))))))))))))))))))))) ?_
              replace h := Option.some.inj h; subst h
              exact ⟨rfl, (sub_wkm [0] [] [.s 1, .s 3, .s 6, .s 66] [.s 0] (by kernel_rfl) an)⟩
    · replace h := cond_f gg_3 h
      rcases Bool.eq_false_or_eq_true (!r_1.2.1) with gg_15 | gg_15
      · replace h := cond_t gg_15 h
        rcases Bool.eq_false_or_eq_true (e_1.N != (0 : Int)) with gg_16 | gg_16
        · replace h := cond_t gg_16 h
          refine aw_region [(3, { g := false }), (4, { g := false }), (5, { g := false }), (6, { b := false }), (14, { b := true }), (15, { b := false }), (17, { g := false }), (18, { g := false }), (19, { g := false }), (23, { g := false }), (24, { b := true }), (26, { g := false }), (27, { g := false }), (28, { g := false }), (33, { g := false }), (34, { b := true })] [1, 3, 6, 66] [0] 1 (vals := [.ptr 0 0 0 0, .bool r_1.1, .bool r_1.2.2.2, .bool true]) (bxs := [.live (.var 28 (v_T_api_Event e_1))]) (by kernel_rfl) hmix (ac gg_3 (ac gg_3 (ac gg_3 (ac gg_3 (ac (rfl : false = false) (ac (rfl : false = false) (ac (rfl : false = false) (ac gg_15 (ac gg_15 (ac gg_15 (ac (rfl : false = false) (ac gg_15 (ac (rfl : false = false) (ac gg_16 (ac gg_16 (ac gg_16 (ac gg_16 (ac gg_16 (ac (rfl : true = !false) (ac (rfl : true = !false) (ac (rfl : true = !false) (ac (rfl : true = !false) (ac (rfl : true = true) an))))))))))))))))))))))) ?_
          replace h := Option.some.inj h; subst h
          exact ⟨rfl, (sub_wkm [0] [] [.s 1, .s 3, .s 6, .s 66] [.s 0] (by kernel_rfl) an)⟩
        · replace h := cond_f gg_16 h
          rcases Bool.eq_false_or_eq_true (!r_1.2.2.1) with gg_17 | gg_17
          · replace h := cond_t gg_17 h
            rcases Bool.eq_false_or_eq_true (e_1.M != (0 : Int)) with gg_18 | gg_18
            · replace h := cond_t gg_18 h
              refine aw_region [(3, { g := false }), (4, { g := false }), (5, { g := false }), (6, { b := false }), (14, { b := true }), (15, { b := false }), (23, { b := true }), (24, { b := false }), (26, { g := false }), (27, { g := false }), (28, { g := false }), (33, { g := false }), (34, { b := true })] [1, 3, 6, 66] [0] 1 (vals := [.ptr 0 0 0 0, .bool r_1.1, .bool r_1.2.2.2, .bool true]) (bxs := [.live (.var 28 (v_T_api_Event e_1))]) (by kernel_rfl) hmix (ac gg_3 (ac gg_3 (ac gg_3 (ac gg_3 (ac (rfl : false = false) (ac (rfl : false = false) (ac (rfl : false = false) (ac gg_15 (ac gg_15 (ac gg_15 (ac (rfl : false = false) (ac gg_15 (ac (rfl : false = false) (ac gg_16 (ac gg_16 (ac gg_16 (ac gg_17 (ac gg_17 (ac gg_17 (ac gg_16 (ac gg_17 (ac gg_16 (ac gg_18 (ac gg_18 (ac gg_18 (ac gg_18 (ac gg_18 an))))))))))))))))))))))))))) ?_
              replace h := Option.some.inj h; subst h
              exact ⟨rfl, (sub_wkm [0] [] [.s 1, .s 3, .s 6, .s 66] [.s 0] (by kernel_rfl) an)⟩
            · replace h := cond_f gg_18 h
              rcases Bool.eq_false_or_eq_true (!r_1.2.2.2) with gg_19 | gg_19
              · replace h := cond_t gg_19 h
                refine aw_region [(3, { g := false }), (4, { g := false }), (5, { g := false }), (6, { b := false }), (14, { b := true }), (15, { b := false }), (23, { b := true }), (24, { b := false }), (31, { n := (e_1.Stack).length }), (33, { b := true }), (34, { b := false })] [1, 3, 6, 66] [0] 1 (vals := [.ptr 0 0 0 0, .bool r_1.1, .bool r_1.2.2.2, .bool (decide ((((e_1.Stack).length : Nat) : Int) > (0 : Int)))]) (bxs := [.live (.var 28 (v_T_api_Event e_1))]) (by kernel_rfl) hmix (ac gg_3 (ac gg_3 (ac gg_3 (ac gg_3 (ac (rfl : false = false) (ac (rfl : false = false) (ac (rfl : false = false) (ac gg_15 (ac gg_15 (ac gg_15 (ac (rfl : false = false) (ac gg_15 (ac (rfl : false = false) (ac gg_16 (ac gg_16 (ac gg_16 (ac gg_17 (ac gg_17 (ac gg_17 (ac gg_16 (ac gg_17 (ac gg_16 (ac gg_18 (ac gg_18 (ac gg_18 (ac gg_19 (ac gg_19 (ac gg_19 (ac (vc_len _ : ((List.map AV.str e_1.Stack)).length = (e_1.Stack).length) (ac gg_19 (ac gg_18 (ac gg_19 (ac gg_18 an))))))))))))))))))))))))))))))))) ?_
                replace h := Option.some.inj h; subst h
                exact ⟨rfl, (sub_wkm [0] [] [.s 1, .s 3, .s 6, .s 66] [.s 0] (by kernel_rfl) an)⟩
              · replace h := cond_f gg_19 h
                refine aw_region [(3, { g := false }), (4, { g := false }), (5, { g := false }), (6, { b := false }), (14, { b := true }), (15, { b := false }), (23, { b := true }), (24, { b := false }), (29, { g := false }), (30, { g := false }), (31, { g := false }), (32, { g := false }), (33, { b := false }), (34, { b := false })] [1, 3, 6, 66] [0] 1 (vals := [.ptr 0 0 0 0, .bool r_1.1, .bool r_1.2.2.2, .bool false]) (bxs := [.live (.var 28 (v_T_api_Event e_1))]) (by kernel_rfl) hmix (ac gg_3 (ac gg_3 (ac gg_3 (ac gg_3 (ac (rfl : false = false) (ac (rfl : false = false) (ac (rfl : false = false) (ac gg_15 (ac gg_15 (ac gg_15 (ac (rfl : false = false) (ac gg_15 (ac (rfl : false = false) (ac gg_16 (ac gg_16 (ac gg_16 (ac gg_17 (ac gg_17 (ac gg_17 (ac gg_16 (ac gg_17 (ac gg_16 (ac gg_18 (ac gg_18 (ac gg_18 (ac gg_19 (ac gg_19 (ac gg_19 (ac gg_19 (ac gg_18 (ac gg_19 (ac gg_18 an)))))))))))))))))))))))))))))))) ?_
                replace h := Option.some.inj h; subst h
                exact ⟨rfl, (sub_wkm [0] [] [.s 1, .s 3, .s 6, .s 66] [.s 0] (by kernel_rfl) an)⟩
          · replace h := cond_f gg_17 h
            rcases Bool.eq_false_or_eq_true (!r_1.2.2.2) with gg_20 | gg_20
            · replace h := cond_t gg_20 h
              refine aw_region [(3, { g := false }), (4, { g := false }), (5, { g := false }), (6, { b := false }), (14, { b := true }), (15, { b := false }), (20, { g := false }), (21, { g := false }), (22, { g := false }), (23, { b := false }), (24, { b := false }), (31, { n := (e_1.Stack).length }), (33, { b := true }), (34, { b := false })] [1, 3, 6, 66] [0] 1 (vals := [.ptr 0 0 0 0, .bool r_1.1, .bool r_1.2.2.2, .bool (decide ((((e_1.Stack).length : Nat) : Int) > (0 : Int)))]) (bxs := [.live (.var 28 (v_T_api_Event e_1))]) (by kernel_rfl) hmix (ac gg_3 (ac gg_3 (ac gg_3 (ac gg_3 (ac (rfl : false = false) (ac (rfl : false = false) (ac (rfl : false = false) (ac gg_15 (ac gg_15 (ac gg_15 (ac (rfl : false = false) (ac gg_15 (ac (rfl : false = false) (ac gg_16 (ac gg_16 (ac gg_16 (ac gg_17 (ac gg_17 (ac gg_17 (ac gg_16 (ac gg_17 (ac gg_16 (ac (rfl : false = false) (ac (rfl : false = false) (ac (rfl : false = false) (ac gg_20 (ac gg_20 (ac gg_20 (ac (vc_len _ : ((List.map AV.str e_1.Stack)).length = (e_1.Stack).length) (ac gg_20 (ac (rfl : false = false) (ac gg_20 (ac (rfl : false = false) an))))))))))))))))))))))))))))))))) ?_
              replace h := Option.some.inj h; subst h
              exact ⟨rfl, (sub_wkm [0] [] [.s 1, .s 3, .s 6, .s 66] [.s 0] (by kernel_rfl) an)⟩
            · replace h := cond_f gg_20 h
              refine aw_region [(3, { g := false }), (4, { g := false }), (5, { g := false }), (6, { b := false }), (14, { b := true }), (15, { b := false }), (20, { g := false }), (21, { g := false }), (22, { g := false }), (23, { b := false }), (24, { b := false }), (29, { g := false }), (30, { g := false }), (31, { g := false }), (32, { g := false }), (33, { b := false }), (34, { b := false })] [1, 3, 6, 66] [0] 1 (vals := [.ptr 0 0 0 0, .bool r_1.1, .bool r_1.2.2.2, .bool false]) (bxs := [.live (.var 28 (v_T_api_Event e_1))]) (by kernel_rfl) hmix (ac gg_3 (ac gg_3 (ac gg_3 (ac gg_3 (ac (rfl : false = false) (ac (rfl : false = false) (ac (rfl : false = false) (ac gg_15 (ac gg_15 (ac gg_15 (ac (rfl : false = false) (ac gg_15 (ac (rfl : false = false) (ac gg_16 (ac gg_16 (ac gg_16 (ac gg_17 (ac gg_17 (ac gg_17 (ac gg_16 (ac gg_17 (ac gg_16 (ac (rfl : false = false) (ac (rfl : false = false) (ac (rfl : false = false) (ac gg_20 (ac gg_20 (ac gg_20 (ac gg_20 (ac (rfl : false = false) (ac gg_20 (ac (rfl : false = false) an)))))))))))))))))))))))))))))))) ?_
              replace h := Option.some.inj h; subst h
              exact ⟨rfl, (sub_wkm [0] [] [.s 1, .s 3, .s 6, .s 66] [.s 0] (by kernel_rfl) an)⟩
      · replace h := cond_f gg_15 h
        rcases Bool.eq_false_or_eq_true (!r_1.2.2.1) with gg_21 | gg_21
        · replace h := cond_t gg_21 h
          rcases Bool.eq_false_or_eq_true (e_1.M != (0 : Int)) with gg_22 | gg_22
          · replace h := cond_t gg_22 h
            refine aw_region [(3, { g := false }), (4, { g := false }), (5, { g := false }), (6, { b := false }), (11, { g := false }), (12, { g := false }), (13, { g := false }), (14, { b := false }), (15, { b := false }), (23, { b := true }), (24, { b := false }), (26, { g := false }), (27, { g := false }), (28, { g := false }), (33, { g := false }), (34, { b := true })] [1, 3, 6, 66] [0] 1 (vals := [.ptr 0 0 0 0, .bool r_1.1, .bool r_1.2.2.2, .bool true]) (bxs := [.live (.var 28 (v_T_api_Event e_1))]) (by kernel_rfl) hmix (ac gg_3 (ac gg_3 (ac gg_3 (ac gg_3 (ac (rfl : false = false) (ac (rfl : false = false) (ac (rfl : false = false) (ac gg_15 (ac gg_15 (ac gg_15 (ac (rfl : false = false) (ac gg_15 (ac (rfl : false = false) (ac (rfl : false = false) (ac (rfl : false = false) (ac (rfl : false = false) (ac gg_21 (ac gg_21 (ac gg_21 (ac (rfl : false = false) (ac gg_21 (ac (rfl : false = false) (ac gg_22 (ac gg_22 (ac gg_22 (ac gg_22 (ac gg_22 an))))))))))))))))))))))))))) ?_
            replace h := Option.some.inj h; subst h
            exact ⟨rfl, (sub_wkm [0] [] [.s 1, .s 3, .s 6, .s 66] [.s 0] (by kernel_rfl) an)⟩
          · replace h := cond_f gg_22 h
            rcases Bool.eq_false_or_eq_true (!r_1.2.2.2) with gg_23 | gg_23
            · replace h := cond_t gg_23 h
              refine aw_region [(3, { g := false }), (4, { g := false }), (5, { g := false }), (6, { b := false }), (11, { g := false }), (12, { g := false }), (13, { g := false }), (14, { b := false }), (15, { b := false }), (23, { b := true }), (24, { b := false }), (31, { n := (e_1.Stack).length }), (33, { b := true }), (34, { b := false })] [1, 3, 6, 66] [0] 1 (vals := [.ptr 0 0 0 0, .bool r_1.1, .bool r_1.2.2.2, .bool (decide ((((e_1.Stack).length : Nat) : Int) > (0 : Int)))]) (bxs := [.live (.var 28 (v_T_api_Event e_1))]) (by kernel_rfl) hmix (ac gg_3 (ac gg_3 (ac gg_3 (ac gg_3 (ac (rfl : false = false) (ac (rfl : false = false) (ac (rfl : false = false) (ac gg_15 (ac gg_15 (ac gg_15 (ac (rfl : false = false) (ac gg_15 (ac (rfl : false = false) (ac (rfl : false = false) (ac (rfl : false = false) (ac (rfl : false = false) (ac gg_21 (ac gg_21 (ac gg_21 (ac (rfl : false = false) (ac gg_21 (ac (rfl : false = false) (ac gg_22 (ac gg_22 (ac gg_22 (ac gg_23 (ac gg_23 (ac gg_23 (ac (vc_len _ : ((List.map AV.str e_1.Stack)).length = (e_1.Stack).length) (ac gg_23 (ac gg_22 (ac gg_23 (ac gg_22 an))))))))))))))))))))))))))))))))) ?_
              replace h := Option.some.inj h; subst h
              exact ⟨rfl, (sub_wkm [0] [] [.s 1, .s 3, .s 6, .s 66] [.s 0] (by kernel_rfl) an)⟩
            · replace h := cond_f gg_23 h
              refine aw_region [(3, { g := false }), (4, { g := false }), (5, { g := false }), (6, { b := false }), (11, { g := false }), (12, { g := false }), (13, { g := false }), (14, { b := false }), (15, { b := false }), (23, { b := true }), (24, { b := false }), (29, { g := false }), (30, { g := false }), (31, { g := false }), (32, { g := false }), (33, { b := false }), (34, { b := false })] [1, 3, 6, 66] [0] 1 (vals := [.ptr 0 0 0 0, .bool r_1.1, .bool r_1.2.2.2, .bool false]) (bxs := [.live (.var 28 (v_T_api_Event e_1))]) (by kernel_rfl) hmix (ac gg_3 (ac gg_3 (ac gg_3 (ac gg_3 (ac (rfl : false = false) (ac (rfl : false = false) (ac (rfl : false = false) (ac gg_15 (ac gg_15 (ac gg_15 (ac (rfl : false = false) (ac gg_15 (ac (rfl : false = false) (ac (rfl : false = false) (ac (rfl : false = false) (ac (rfl : false = false) (ac gg_21 (ac gg_21 (ac gg_21 (ac (rfl : false = false) (ac gg_21 (ac (rfl : false = false) (ac gg_22 (ac gg_22 (ac gg_22 (ac gg_23 (ac gg_23 (ac gg_23 (ac gg_23 (ac gg_22 (ac gg_23 (ac gg_22 an)))))))))))))))))))))))))))))))) ?_
              replace h := Option.some.inj h; subst h
              exact ⟨rfl, (sub_wkm [0] [] [.s 1, .s 3, .s 6, .s 66] [.s 0] (by kernel_rfl) an)⟩
        · replace h := cond_f gg_21 h
          rcases Bool.eq_false_or_eq_true (!r_1.2.2.2) with gg_24 | gg_24
          · replace h := cond_t gg_24 h
            refine aw_region [(3, { g := false }), (4, { g := false }), (5, { g := false }), (6, { b := false }), (11, { g := false }), (12, { g := false }), (13, { g := false }), (14, { b := false }), (15, { b := false }), (20, { g := false }), (21, { g := false }), (22, { g := false }), (23, { b := false }), (24, { b := false }), (31, { n := (e_1.Stack).length }), (33, { b := true }), (34, { b := false })] [1, 3, 6, 66] [0] 1 (vals := [.ptr 0 0 0 0, .bool r_1.1, .bool r_1.2.2.2, .bool (decide ((((e_1.Stack).length : Nat) : Int) > (0 : Int)))]) (bxs := [.live (.var 28 (v_T_api_Event e_1))]) (by kernel_rfl) hmix (ac gg_3 (ac gg_3 (ac gg_3 (ac gg_3 (ac (rfl : false = false) (ac (rfl : false = false) (ac (rfl : false = false) (ac gg_15 (ac gg_15 (ac gg_15 (ac (rfl : false = false) (ac gg_15 (ac (rfl : false = false) (ac (rfl : false = false) (ac (rfl : false = false) (ac (rfl : false = false) (ac gg_21 (ac gg_21 (ac gg_21 (ac (rfl : false = false) (ac gg_21 (ac (rfl : false = false) (ac (rfl : false = false) (ac (rfl : false = false) (ac (rfl : false = false) (ac gg_24 (ac gg_24 (ac gg_24 (ac (vc_len _ : ((List.map AV.str e_1.Stack)).length = (e_1.Stack).length) (ac gg_24 (ac (rfl : false = false) (ac gg_24 (ac (rfl : false = false) an))))))))))))))))))))))))))))))))) ?_
            replace h := Option.some.inj h; subst h
            exact ⟨rfl, (sub_wkm [0] [] [.s 1, .s 3, .s 6, .s 66] [.s 0] (by kernel_rfl) an)⟩
          · replace h := cond_f gg_24 h
            refine aw_region [(3, { g := false }), (4, { g := false }), (5, { g := false }), (6, { b := false }), (11, { g := false }), (12, { g := false }), (13, { g := false }), (14, { b := false }), (15, { b := false }), (20, { g := false }), (21, { g := false }), (22, { g := false }), (23, { b := false }), (24, { b := false }), (29, { g := false }), (30, { g := false }), (31, { g := false }), (32, { g := false }), (33, { b := false }), (34, { b := false })] [1, 3, 6, 66] [0] 1 (vals := [.ptr 0 0 0 0, .bool r_1.1, .bool r_1.2.2.2, .bool false]) (bxs := [.live (.var 28 (v_T_api_Event e_1))]) (by kernel_rfl) hmix (ac gg_3 (ac gg_3 (ac gg_3 (ac gg_3 (ac (rfl : false = false) (ac (rfl : false = false) (ac (rfl : false = false) (ac gg_15 (ac gg_15 (ac gg_15 (ac (rfl : false = false) (ac gg_15 (ac (rfl : false = false) (ac (rfl : false = false) (ac (rfl : false = false) (ac (rfl : false = false) (ac gg_21 (ac gg_21 (ac gg_21 (ac (rfl : false = false) (ac gg_21 (ac (rfl : false = false) (ac (rfl : false = false) (ac (rfl : false = false) (ac (rfl : false = false) (ac gg_24 (ac gg_24 (ac gg_24 (ac gg_24 (ac (rfl : false = false) (ac gg_24 (ac (rfl : false = false) an)))))))))))))))))))))))))))))))) ?_
            replace h := Option.some.inj h; subst h
            exact ⟨rfl, (sub_wkm [0] [] [.s 1, .s 3, .s 6, .s 66] [.s 0] (by kernel_rfl) an)⟩
  refine aw_cond (t := 66) (b := p_1) (by kernel_rfl) (by kernel_rfl) ?_ ?_
  · intro g_3; replace h := cond_t g_3 h
    refine aw_seq (by kernel_rfl) ?_
    refine aw_region [] [2] [] 1 (vals := [.int .i64 (1 : Int)]) (bxs := []) (by kernel_rfl) hmix an ?_
    refine aw_ret (by kernel_rfl) ?_
    replace h := Option.some.inj h; subst h
    exact ⟨.inr rfl, Nat.le_of_ble_eq_true rfl, by kernel_rfl⟩
  intro g_3; replace h := cond_f g_3 h
  refine aw_skip (by kernel_rfl) ?_
  refine aw_seq (by kernel_rfl) ?_
  refine aw_region [] [1, 3, 6, 7] [0] 1 (vals := [.ptr 0 0 0 0, .bool r_1.1, .bool r_1.2.2.2, .int .i64 (0 : Int)]) (bxs := [.live (.var 28 (v_T_api_Event e_1))]) (by kernel_rfl) hmix an ?_
  refine aw_seq (by kernel_rfl) ?_
  refine aw_seq (by kernel_rfl) ?_
  refine aw_region [] [1, 6, 7, 67] [0] 1 (vals := [.ptr 0 0 0 0, .bool r_1.2.2.2, .int .i64 (0 : Int), .bool r_1.1]) (bxs := [.live (.var 28 (v_T_api_Event e_1))]) (by kernel_rfl) hmix an ?_
  obtain ⟨o_1, h_3, h⟩ := bind_some h
  refine aw_mid (mk [(1, .ptr 0 0 0 0), (6, .bool r_1.2.2.2), (7, .int .i64 o_1)] [(0, .live (.var 28 (v_T_api_Event e_1)))] 1) ?_ ?_
  · replace h := h_3
    refine aw_cond (t := 67) (b := r_1.1) (by kernel_rfl) (by kernel_rfl) ?_ ?_
    rotate_left
    · intro g_4; replace h := cond_f g_4 h
      refine aw_skip (by kernel_rfl) ?_
      replace h := Option.some.inj h; subst h
      exact ⟨rfl, (sub_wkm [0] [] [.s 1, .s 6, .s 7] [.s 0] (by kernel_rfl) an)⟩
    intro g_4; replace h := cond_t g_4 h
    obtain ⟨r_2, h_4, h⟩ := bind_some h
    refine aw_region [(2, { av := .int .i64 r_2, l := [.str e_1.Name] })] [1, 6, 7] [0] 1 (vals := [.ptr 0 0 0 0, .bool r_1.2.2.2, .int .i64 r_2]) (bxs := [.live (.var 28 (v_T_api_Event e_1))]) (by kernel_rfl) hmix (ac (rfl : ([.str e_1.Name] : List AV) = [.str e_1.Name]) (ac (rfl : ([] : List BoxSt) = []) (ac (R06_Name_ok F e_1.Name r_2 h_4 : TripleG prog 47 [] [] [.str e_1.Name] [] (.int .i64 r_2)) an))) ?_
    replace h := Option.some.inj h; subst h
    exact ⟨rfl, (sub_wkm [0] [] [.s 1, .s 6, .s 7] [.s 0] (by kernel_rfl) an)⟩
  refine aw_seq (by kernel_rfl) ?_
  refine aw_seq (by kernel_rfl) ?_
  refine aw_region [] [1, 7, 71] [0] 1 (vals := [.ptr 0 0 0 0, .int .i64 o_1, .bool r_1.2.2.2]) (bxs := [.live (.var 28 (v_T_api_Event e_1))]) (by kernel_rfl) hmix an ?_
  obtain ⟨o_2, h_5, h⟩ := bind_some h
  refine aw_mid (mk [(1, .ptr 0 0 0 0), (7, .int .i64 o_2)] [(0, .live (.var 28 (v_T_api_Event e_1)))] 1) ?_ ?_
  · replace h := h_5
    refine aw_cond (t := 71) (b := r_1.2.2.2) (by kernel_rfl) (by kernel_rfl) ?_ ?_
    rotate_left
    · intro g_5; replace h := cond_f g_5 h
      refine aw_skip (by kernel_rfl) ?_
      replace h := Option.some.inj h; subst h
      exact ⟨rfl, (sub_wkm [0] [] [.s 1, .s 7] [.s 0] (by kernel_rfl) an)⟩
    intro g_5; replace h := cond_t g_5 h
    obtain ⟨r_3, h_6, h⟩ := bind_some h
    refine aw_region [(2, { av := .int .i64 r_3, l := [.sl false 1 (List.map AV.str e_1.Stack)] })] [1, 7] [0] 1 (vals := [.ptr 0 0 0 0, .int .i64 r_3]) (bxs := [.live (.var 28 (v_T_api_Event e_1))]) (by kernel_rfl) hmix (ac (rfl : ([.sl false 1 (List.map AV.str e_1.Stack)] : List AV) = [.sl false 1 (List.map AV.str e_1.Stack)]) (ac (rfl : ([] : List BoxSt) = []) (ac (R06_Frames_ok F e_1.Stack r_3 h_6 : TripleG prog 52 [] [] [.sl false 1 (List.map AV.str e_1.Stack)] [] (.int .i64 r_3)) an))) ?_
    replace h := Option.some.inj h; subst h
    exact ⟨rfl, (sub_wkm [0] [] [.s 1, .s 7] [.s 0] (by kernel_rfl) an)⟩
  refine aw_seq (by kernel_rfl) ?_
  refine aw_seq (by kernel_rfl) ?_
  refine aw_region [] [1, 7, 76] [0] 1 (vals := [.ptr 0 0 0 0, .int .i64 o_2, .bool (o_2 != (0 : Int))]) (bxs := [.live (.var 28 (v_T_api_Event e_1))]) (by kernel_rfl) hmix an ?_
  refine aw_cond (t := 76) (b := (o_2 != (0 : Int))) (by kernel_rfl) (by kernel_rfl) ?_ ?_
  · intro g_6; replace h := cond_t g_6 h
    refine aw_seq (by kernel_rfl) ?_
    refine aw_region [] [2] [] 1 (vals := [.int .i64 o_2]) (bxs := []) (by kernel_rfl) hmix an ?_
    refine aw_ret (by kernel_rfl) ?_
    replace h := Option.some.inj h; subst h
    exact ⟨.inr rfl, Nat.le_of_ble_eq_true rfl, by kernel_rfl⟩
  intro g_6; replace h := cond_f g_6 h
  refine aw_skip (by kernel_rfl) ?_
  refine aw_seq (by kernel_rfl) ?_
  obtain ⟨r_4, h_7, h⟩ := bind_some h
  refine aw_region [(1, { av := .int .i64 r_4, l := [e_T_api_Event e_1] })] [2] [] 1 (vals := [.int .i64 r_4]) (bxs := []) (by kernel_rfl) hmix (ac (rfl : ([e_T_api_Event e_1] : List AV) = [e_T_api_Event e_1]) (ac (rfl : ([] : List BoxSt) = []) (ac (R07_numbers_ok e_1 r_4 h_7 : TripleG prog 53 [] [] [e_T_api_Event e_1] [] (.int .i64 r_4)) an))) ?_
  refine aw_ret (by kernel_rfl) ?_
  replace h := Option.some.inj h; subst h
  exact ⟨.inr rfl, Nat.le_of_ble_eq_true rfl, by kernel_rfl⟩

theorem R08_Uses_ok (k_1 : Int) (r : Bool × Bool × Bool × Bool) (h : R08_Uses k_1 = some r) : TripleG prog 27 [] [] [.int .i64 k_1] [] (.tuple [.bool r.1, .bool r.2.1, .bool r.2.2.1, .bool r.2.2.2]) := by
  refine triple_intro (fn := Go.Proofs.Try.f27) (code := codeOf Go.Proofs.Try.f27) (by kernel_rfl) (by kernel_rfl) (Nat.le_of_ble_eq_true (by kernel_rfl)) ?_
  unfold R08_Uses at h
  refine aw_seq (by kernel_rfl) ?_
  refine aw_region [] [0] [] 0 (vals := [.int .i64 k_1]) (bxs := []) (by kernel_rfl) hmix an ?_
  refine aw_seq (by kernel_rfl) ?_
  refine aw_seq (by kernel_rfl) ?_
  refine aw_region [] [6] [] 0 (vals := [.int .i64 k_1]) (bxs := []) (by kernel_rfl) hmix an ?_
  refine aw_block (id := 0) (by kernel_rfl) ?_
  refine aw_seq (by kernel_rfl) ?_
  refine aw_seq (by kernel_rfl) ?_
  refine aw_region [] [6, 7] [] 0 (vals := [.int .i64 k_1, .bool (k_1 == (1 : Int))]) (bxs := []) (by kernel_rfl) hmix an ?_
  obtain ⟨o_1, h_1, h⟩ := bind_some h
  refine aw_mid (mk [(6, .int .i64 k_1), (7, .bool o_1)] [] 0) ?_ ?_
  · replace h := h_1
    refine aw_cond (t := 7) (b := (k_1 == (1 : Int))) (by kernel_rfl) (by kernel_rfl) ?_ ?_
    · intro g_1; replace h := cond_t g_1 h
      refine aw_skip (by kernel_rfl) ?_
      replace h := Option.some.inj h; subst h
      exact ⟨rfl, (sub_wkm [] [] [.s 6, .s 7] [] (by kernel_rfl) an)⟩
    intro g_1; replace h := cond_f g_1 h
    refine aw_region [] [6, 7] [] 0 (vals := [.int .i64 k_1, .bool (k_1 == (3 : Int))]) (bxs := []) (by kernel_rfl) hmix an ?_
    replace h := Option.some.inj h; subst h
    exact ⟨rfl, (sub_wkm [] [] [.s 6, .s 7] [] (by kernel_rfl) an)⟩
  refine aw_cond (t := 7) (b := o_1) (by kernel_rfl) (by kernel_rfl) ?_ ?_
  · intro g_2; replace h := cond_t g_2 h
    refine aw_seq (by kernel_rfl) ?_
    refine aw_region [] [2, 3, 4, 5] [] 0 (vals := [.bool true, .bool false, .bool false, .bool false]) (bxs := []) (by kernel_rfl) hmix an ?_
    refine aw_ret (by kernel_rfl) ?_
    replace h := Option.some.inj h; subst h
    exact ⟨.inr rfl, Nat.le_of_ble_eq_true rfl, by kernel_rfl⟩
  intro g_2; replace h := cond_f g_2 h
  refine aw_seq (by kernel_rfl) ?_
  refine aw_region [] [6, 10] [] 0 (vals := [.int .i64 k_1, .bool (k_1 == (4 : Int))]) (bxs := []) (by kernel_rfl) hmix an ?_
  refine aw_cond (t := 10) (b := (k_1 == (4 : Int))) (by kernel_rfl) (by kernel_rfl) ?_ ?_
  · intro g_3; replace h := cond_t g_3 h
    refine aw_seq (by kernel_rfl) ?_
    refine aw_region [] [2, 3, 4, 5] [] 0 (vals := [.bool true, .bool true, .bool false, .bool false]) (bxs := []) (by kernel_rfl) hmix an ?_
    refine aw_ret (by kernel_rfl) ?_
    replace h := Option.some.inj h; subst h
    exact ⟨.inr rfl, Nat.le_of_ble_eq_true rfl, by kernel_rfl⟩
  intro g_3; replace h := cond_f g_3 h
  refine aw_seq (by kernel_rfl) ?_
  refine aw_region [] [6, 12] [] 0 (vals := [.int .i64 k_1, .bool (k_1 == (5 : Int))]) (bxs := []) (by kernel_rfl) hmix an ?_
  refine aw_cond (t := 12) (b := (k_1 == (5 : Int))) (by kernel_rfl) (by kernel_rfl) ?_ ?_
  · intro g_4; replace h := cond_t g_4 h
    refine aw_seq (by kernel_rfl) ?_
    refine aw_region [] [2, 3, 4, 5] [] 0 (vals := [.bool false, .bool true, .bool false, .bool true]) (bxs := []) (by kernel_rfl) hmix an ?_
    refine aw_ret (by kernel_rfl) ?_
    replace h := Option.some.inj h; subst h
    exact ⟨.inr rfl, Nat.le_of_ble_eq_true rfl, by kernel_rfl⟩
  intro g_4; replace h := cond_f g_4 h
  refine aw_seq (by kernel_rfl) ?_
  refine aw_seq (by kernel_rfl) ?_
  refine aw_region [] [6, 14] [] 0 (vals := [.int .i64 k_1, .bool (k_1 == (6 : Int))]) (bxs := []) (by kernel_rfl) hmix an ?_
  obtain ⟨o_2, h_2, h⟩ := bind_some h
  refine aw_mid (mk [(6, .int .i64 k_1), (14, .bool o_2)] [] 0) ?_ ?_
  · replace h := h_2
    refine aw_cond (t := 14) (b := (k_1 == (6 : Int))) (by kernel_rfl) (by kernel_rfl) ?_ ?_
    · intro g_5; replace h := cond_t g_5 h
      refine aw_skip (by kernel_rfl) ?_
      replace h := Option.some.inj h; subst h
      exact ⟨rfl, (sub_wkm [] [] [.s 6, .s 14] [] (by kernel_rfl) an)⟩
    intro g_5; replace h := cond_f g_5 h
    refine aw_seq (by kernel_rfl) ?_
    refine aw_region [] [6, 14] [] 0 (vals := [.int .i64 k_1, .bool (k_1 == (7 : Int))]) (bxs := []) (by kernel_rfl) hmix an ?_
    refine aw_cond (t := 14) (b := (k_1 == (7 : Int))) (by kernel_rfl) (by kernel_rfl) ?_ ?_
    · intro g_6; replace h := cond_t g_6 h
      refine aw_skip (by kernel_rfl) ?_
      replace h := Option.some.inj h; subst h
      exact ⟨rfl, (sub_wkm [] [] [.s 6, .s 14] [] (by kernel_rfl) an)⟩
    intro g_6; replace h := cond_f g_6 h
    refine aw_seq (by kernel_rfl) ?_
    refine aw_region [] [6, 14] [] 0 (vals := [.int .i64 k_1, .bool (k_1 == (8 : Int))]) (bxs := []) (by kernel_rfl) hmix an ?_
    refine aw_cond (t := 14) (b := (k_1 == (8 : Int))) (by kernel_rfl) (by kernel_rfl) ?_ ?_
    · intro g_7; replace h := cond_t g_7 h
      refine aw_skip (by kernel_rfl) ?_
      replace h := Option.some.inj h; subst h
      exact ⟨rfl, (sub_wkm [] [] [.s 6, .s 14] [] (by kernel_rfl) an)⟩
    intro g_7; replace h := cond_f g_7 h
    refine aw_seq (by kernel_rfl) ?_
    refine aw_region [] [6, 14] [] 0 (vals := [.int .i64 k_1, .bool (k_1 == (10 : Int))]) (bxs := []) (by kernel_rfl) hmix an ?_
    refine aw_cond (t := 14) (b := (k_1 == (10 : Int))) (by kernel_rfl) (by kernel_rfl) ?_ ?_
    · intro g_8; replace h := cond_t g_8 h
      refine aw_skip (by kernel_rfl) ?_
      replace h := Option.some.inj h; subst h
      exact ⟨rfl, (sub_wkm [] [] [.s 6, .s 14] [] (by kernel_rfl) an)⟩
    intro g_8; replace h := cond_f g_8 h
    refine aw_region [] [6, 14] [] 0 (vals := [.int .i64 k_1, .bool (k_1 == (12 : Int))]) (bxs := []) (by kernel_rfl) hmix an ?_
    replace h := Option.some.inj h; subst h
    exact ⟨rfl, (sub_wkm [] [] [.s 6, .s 14] [] (by kernel_rfl) an)⟩
  refine aw_cond (t := 14) (b := o_2) (by kernel_rfl) (by kernel_rfl) ?_ ?_
  · intro g_9; replace h := cond_t g_9 h
    refine aw_seq (by kernel_rfl) ?_
    refine aw_region [] [2, 3, 4, 5] [] 0 (vals := [.bool false, .bool true, .bool false, .bool false]) (bxs := []) (by kernel_rfl) hmix an ?_
    refine aw_ret (by kernel_rfl) ?_
    replace h := Option.some.inj h; subst h
    exact ⟨.inr rfl, Nat.le_of_ble_eq_true rfl, by kernel_rfl⟩
  intro g_9; replace h := cond_f g_9 h
  refine aw_seq (by kernel_rfl) ?_
  refine aw_region [] [6, 20] [] 0 (vals := [.int .i64 k_1, .bool (k_1 == (9 : Int))]) (bxs := []) (by kernel_rfl) hmix an ?_
  refine aw_cond (t := 20) (b := (k_1 == (9 : Int))) (by kernel_rfl) (by kernel_rfl) ?_ ?_
  · intro g_10; replace h := cond_t g_10 h
    refine aw_seq (by kernel_rfl) ?_
    refine aw_region [] [2, 3, 4, 5] [] 0 (vals := [.bool false, .bool true, .bool true, .bool false]) (bxs := []) (by kernel_rfl) hmix an ?_
    refine aw_ret (by kernel_rfl) ?_
    replace h := Option.some.inj h; subst h
    exact ⟨.inr rfl, Nat.le_of_ble_eq_true rfl, by kernel_rfl⟩
  intro g_10; replace h := cond_f g_10 h
  refine aw_seq (by kernel_rfl) ?_
  refine aw_region [] [22] [] 0 (vals := [.bool (k_1 == (11 : Int))]) (bxs := []) (by kernel_rfl) hmix an ?_
  refine aw_cond (t := 22) (b := (k_1 == (11 : Int))) (by kernel_rfl) (by kernel_rfl) ?_ ?_
  · intro g_11; replace h := cond_t g_11 h
    refine aw_seq (by kernel_rfl) ?_
    refine aw_region [] [2, 3, 4, 5] [] 0 (vals := [.bool false, .bool true, .bool true, .bool true]) (bxs := []) (by kernel_rfl) hmix an ?_
    refine aw_ret (by kernel_rfl) ?_
    replace h := Option.some.inj h; subst h
    exact ⟨.inr rfl, Nat.le_of_ble_eq_true rfl, by kernel_rfl⟩
  intro g_11; replace h := cond_f g_11 h
  refine aw_skip (by kernel_rfl) ?_
  refine aw_seq (by kernel_rfl) ?_
  refine aw_region [] [2, 3, 4, 5] [] 0 (vals := [.bool false, .bool false, .bool false, .bool false]) (bxs := []) (by kernel_rfl) hmix an ?_
  refine aw_ret (by kernel_rfl) ?_
  replace h := Option.some.inj h; subst h
  exact ⟨.inr rfl, Nat.le_of_ble_eq_true rfl, by kernel_rfl⟩

theorem R05_integer_ok (u_1 : Int) (r : Int) (h : R05_integer u_1 = some r) : TripleG prog 64 [] [] [.int .u64 u_1] [] (.int .i64 r) := by
  refine triple_intro (fn := Go.Proofs.Try.f64) (code := codeOf Go.Proofs.Try.f64) (by kernel_rfl) (by kernel_rfl) (Nat.le_of_ble_eq_true (by kernel_rfl)) ?_
  unfold R05_integer at h
  refine aw_seq (by kernel_rfl) ?_
  refine aw_region [] [0] [] 0 (vals := [.int .u64 u_1]) (bxs := []) (by kernel_rfl) hmix an ?_
  refine aw_seq (by kernel_rfl) ?_
  refine aw_seq (by kernel_rfl) ?_
  refine aw_region [] [0, 5] [] 0 (vals := [.int .u64 u_1, .bool ((irem u_1 (2 : Int)) == (1 : Int))]) (bxs := []) (by kernel_rfl) hmix (ac (by decide : (2 : Int) ≠ (0 : Int)) an) ?_
  refine aw_cond (t := 5) (b := ((irem u_1 (2 : Int)) == (1 : Int))) (by kernel_rfl) (by kernel_rfl) ?_ ?_
  · intro g_1; replace h := cond_t g_1 h
    refine aw_seq (by kernel_rfl) ?_
    refine aw_region [] [2] [] 0 (vals := [.int .i64 (w_i64 ((w_i64 (0 - (w_i64 (iquo .u64 u_1 (2 : Int))))) - (1 : Int)))]) (bxs := []) (by kernel_rfl) hmix (ac (by decide : (2 : Int) ≠ (0 : Int)) an) ?_
    refine aw_ret (by kernel_rfl) ?_
    replace h := Option.some.inj h; subst h
    exact ⟨.inr rfl, Nat.le_of_ble_eq_true rfl, by kernel_rfl⟩
  intro g_1; replace h := cond_f g_1 h
  refine aw_skip (by kernel_rfl) ?_
  refine aw_seq (by kernel_rfl) ?_
  refine aw_region [] [2] [] 0 (vals := [.int .i64 (w_i64 (iquo .u64 u_1 (2 : Int)))]) (bxs := []) (by kernel_rfl) hmix (ac (by decide : (2 : Int) ≠ (0 : Int)) an) ?_
  refine aw_ret (by kernel_rfl) ?_
  replace h := Option.some.inj h; subst h
  exact ⟨.inr rfl, Nat.le_of_ble_eq_true rfl, by kernel_rfl⟩

theorem R05_Int_ok (F : Nat) (b_1 : List (Int)) (r : Int × Int × Int) (h : R05_Int F b_1 = some r) : TripleG prog 57 [] [] [.sl false 1 (List.map (AV.int .u8) b_1)] [] (.tuple [.int .i64 r.1, .int .i64 r.2.1, .int .i64 r.2.2]) := by
  refine triple_intro (fn := Go.Proofs.Try.f57) (code := codeOf Go.Proofs.Try.f57) (by kernel_rfl) (by kernel_rfl) (Nat.le_of_ble_eq_true (by kernel_rfl)) ?_
  unfold R05_Int at h
  refine aw_seq (by kernel_rfl) ?_
  refine aw_region [] [0] [] 0 (vals := [.sl false 1 (List.map (AV.int .u8) b_1)]) (bxs := []) (by kernel_rfl) hmix an ?_
  refine aw_seq (by kernel_rfl) ?_
  refine aw_region [] [0, 5] [] 0 (vals := [.sl false 1 (List.map (AV.int .u8) b_1), .int .u64 (0 : Int)]) (bxs := []) (by kernel_rfl) hmix an ?_
  refine aw_seq (by kernel_rfl) ?_
  refine aw_region [] [0, 5, 6] [] 0 (vals := [.sl false 1 (List.map (AV.int .u8) b_1), .int .u64 (0 : Int), .int .u64 (1 : Int)]) (bxs := []) (by kernel_rfl) hmix an ?_
  refine aw_seq (by kernel_rfl) ?_
  refine aw_seq (by kernel_rfl) ?_
  refine aw_region [] [0, 5, 6, 7] [] 0 (vals := [.sl false 1 (List.map (AV.int .u8) b_1), .int .u64 (0 : Int), .int .u64 (1 : Int), .int .i64 (0 : Int)]) (bxs := []) (by kernel_rfl) hmix an ?_
  obtain ⟨o_1, h_1, h⟩ := bind_some h
  refine aw_conv (K1 := (fun e st' => match o_1 with | (.inl q0) => e = .normal ∧ Sub 0 st' (mk [] [] 0) | (.inr q1) => e = .ret ∧ FinR prog Go.Proofs.Try.f57 0 [] (.tuple [.int .i64 q1.1, .int .i64 q1.2.1, .int .i64 q1.2.2]) st')) ?_ ?_
  · replace h := h_1
    refine aw_block (id := 0) (by kernel_rfl) ?_
    refine aw_sub (sub_wkm [] [] [.s 0, .s 5, .s 6, .s 7] [] (sl2 := [(0, .sl false 1 (List.map (AV.int .u8) b_1)), (5, .int .u64 (0 : Int)), (6, .int .u64 (1 : Int)), (7, .int .i64 (0 : Int))]) (bx2 := []) (by kernel_rfl) an) ?_
    refine aw_loopF (fun n st => ∃ (u_1 : Int), ∃ (unit_1 : Int), ∃ (i_1 : Int), st = mk [(0, .sl false 1 (List.map (AV.int .u8) b_1)), (5, .int .u64 u_1), (6, .int .u64 unit_1), (7, .int .i64 i_1)] [] 0 ∧ R05_Int_L1 F b_1 n u_1 unit_1 i_1 = some o_1) F (by kernel_rfl) ⟨_, _, _, rfl, h⟩ ?_ ?_
    · rintro _ ⟨_, _, _, _, h⟩; exact none_ne (h : (none : Option (Unit ⊕ (Int × Int × Int))) = some o_1)
    rintro n_1 _ ⟨u_1, unit_1, i_1, rfl, h⟩
    replace h : R05_Int_L1_body F b_1 (R05_Int_L1 F b_1 n_1) u_1 unit_1 i_1 = some o_1 := h
    unfold R05_Int_L1_body at h
    refine aw_seq (by kernel_rfl) ?_
    refine aw_seq (by kernel_rfl) ?_
    refine aw_region [] [0, 5, 6, 7, 10] [] 0 (vals := [.sl false 1 (List.map (AV.int .u8) b_1), .int .u64 u_1, .int .u64 unit_1, .int .i64 i_1, .bool (decide (i_1 < (10 : Int)))]) (bxs := []) (by kernel_rfl) hmix an ?_
    refine aw_cond (t := 10) (b := (decide (i_1 < (10 : Int)))) (by kernel_rfl) (by kernel_rfl) ?_ ?_
    rotate_left
    · intro g_1; replace h := cond_f g_1 h
      refine aw_exit (id := 0) (by kernel_rfl) ?_
      replace h := Option.some.inj h; subst h
      exact ⟨rfl, (sub_wkm [] [] [] [] (by kernel_rfl) an)⟩
    intro g_1; replace h := cond_t g_1 h
    refine aw_skip (by kernel_rfl) ?_
    refine aw_seq (by kernel_rfl) ?_
    refine aw_block (id := 1) (by kernel_rfl) ?_
    refine aw_seq (by kernel_rfl) ?_
    refine aw_seq (by kernel_rfl) ?_
    refine aw_region [(2, { n := (b_1).length })] [0, 5, 6, 7, 16] [] 0 (vals := [.sl false 1 (List.map (AV.int .u8) b_1), .int .u64 u_1, .int .u64 unit_1, .int .i64 i_1, .bool (decide (i_1 ≥ (((b_1).length : Nat) : Int)))]) (bxs := []) (by kernel_rfl) hmix (ac (vc_len _ : ((List.map (AV.int .u8) b_1)).length = (b_1).length) an) ?_
    refine aw_cond (t := 16) (b := (decide (i_1 ≥ (((b_1).length : Nat) : Int)))) (by kernel_rfl) (by kernel_rfl) ?_ ?_
    · intro g_2; replace h := cond_t g_2 h
      refine aw_seq (by kernel_rfl) ?_
      refine aw_region [] [2, 3, 4] [] 0 (vals := [.int .i64 (0 : Int), .int .i64 (0 : Int), .int .i64 (8 : Int)]) (bxs := []) (by kernel_rfl) hmix an ?_
      refine aw_ret (by kernel_rfl) ?_
      replace h := Option.some.inj h; subst h
      exact ⟨rfl, Nat.le_of_ble_eq_true rfl, by kernel_rfl⟩
    intro g_2; replace h := cond_f g_2 h
    refine aw_skip (by kernel_rfl) ?_
    refine aw_seq (by kernel_rfl) ?_
    obtain ⟨x_1, h_2, h⟩ := bind_some h
    refine aw_region [(2, { av := .int .u8 x_1 })] [0, 5, 6, 7, 8] [] 0 (vals := [.sl false 1 (List.map (AV.int .u8) b_1), .int .u64 u_1, .int .u64 unit_1, .int .i64 i_1, .int .u64 (w_u64 x_1)]) (bxs := []) (by kernel_rfl) hmix (ac (vc_idx h_2 : idxA (List.map (AV.int .u8) b_1) i_1 = some (.int .u8 x_1)) an) ?_
    refine aw_seq (by kernel_rfl) ?_
    refine aw_seq (by kernel_rfl) ?_
    refine aw_mid (mk [(0, .sl false 1 (List.map (AV.int .u8) b_1)), (5, .int .u64 u_1), (6, .int .u64 unit_1), (7, .int .i64 i_1), (8, .int .u64 (w_u64 x_1)), (27, .bool ((i_1 == (9 : Int)) && decide ((w_u64 x_1) > (1 : Int))))] [] 0) ?_ ?_
    · rcases Bool.eq_false_or_eq_true (i_1 == (9 : Int)) with gg_10 | gg_10
      · refine aw_region [(5, { b := true })] [0, 5, 6, 7, 8, 25, 26, 27] [] 0 (vals := [.sl false 1 (List.map (AV.int .u8) b_1), .int .u64 u_1, .int .u64 unit_1, .int .i64 i_1, .int .u64 (w_u64 x_1), .int .u64 (w_u64 x_1), .bool (decide ((w_u64 x_1) > (1 : Int))), .bool (decide ((w_u64 x_1) > (1 : Int)))]) (bxs := []) (by kernel_rfl) hmix (ac gg_10 (ac gg_10 (ac gg_10 an))) ?_
        exact ⟨rfl, (sub_wkm [] [] [.s 0, .s 5, .s 6, .s 7, .s 8, .a 27 (.bool ((i_1 == (9 : Int)) && decide ((w_u64 x_1) > (1 : Int))))] [] (by kernel_rfl) (ac (congrArg AV.bool (andt gg_10 rfl) : (.bool (decide ((w_u64 x_1) > (1 : Int))) : AV) = .bool ((i_1 == (9 : Int)) && decide ((w_u64 x_1) > (1 : Int)))) an))⟩
      · refine aw_region [(3, { g := false }), (4, { g := false }), (5, { b := false })] [0, 5, 6, 7, 8, 25, 26, 27] [] 0 (vals := [.sl false 1 (List.map (AV.int .u8) b_1), .int .u64 u_1, .int .u64 unit_1, .int .i64 i_1, .int .u64 (w_u64 x_1), .tuple [], .tuple [], .bool false]) (bxs := []) (by kernel_rfl) hmix (ac gg_10 (ac gg_10 (ac gg_10 an))) ?_
        exact ⟨rfl, (sub_wkm [] [] [.s 0, .s 5, .s 6, .s 7, .s 8, .a 27 (.bool ((i_1 == (9 : Int)) && decide ((w_u64 x_1) > (1 : Int))))] [] (by kernel_rfl) (ac (congrArg AV.bool (andf gg_10) : (.bool false : AV) = .bool ((i_1 == (9 : Int)) && decide ((w_u64 x_1) > (1 : Int)))) an))⟩
    refine aw_cond (t := 27) (b := ((i_1 == (9 : Int)) && decide ((w_u64 x_1) > (1 : Int)))) (by kernel_rfl) (by kernel_rfl) ?_ ?_
    · intro g_3; replace h := cond_t g_3 h
      refine aw_seq (by kernel_rfl) ?_
      refine aw_region [] [2, 3, 4] [] 0 (vals := [.int .i64 (0 : Int), .int .i64 (0 : Int), .int .i64 (10 : Int)]) (bxs := []) (by kernel_rfl) hmix an ?_
      refine aw_ret (by kernel_rfl) ?_
      replace h := Option.some.inj h; subst h
      exact ⟨rfl, Nat.le_of_ble_eq_true rfl, by kernel_rfl⟩
    intro g_3; replace h := cond_f g_3 h
    refine aw_skip (by kernel_rfl) ?_
    refine aw_seq (by kernel_rfl) ?_
    refine aw_region [] [0, 5, 6, 7, 8] [] 0 (vals := [.sl false 1 (List.map (AV.int .u8) b_1), .int .u64 (w_u64 (u_1 + (w_u64 ((irem (w_u64 x_1) (128 : Int)) * unit_1)))), .int .u64 unit_1, .int .i64 i_1, .int .u64 (w_u64 x_1)]) (bxs := []) (by kernel_rfl) hmix (ac (by decide : (128 : Int) ≠ (0 : Int)) an) ?_
    refine aw_seq (by kernel_rfl) ?_
    refine aw_region [] [0, 5, 6, 7, 8] [] 0 (vals := [.sl false 1 (List.map (AV.int .u8) b_1), .int .u64 (w_u64 (u_1 + (w_u64 ((irem (w_u64 x_1) (128 : Int)) * unit_1)))), .int .u64 (w_u64 (unit_1 * (128 : Int))), .int .i64 i_1, .int .u64 (w_u64 x_1)]) (bxs := []) (by kernel_rfl) hmix an ?_
    refine aw_seq (by kernel_rfl) ?_
    refine aw_seq (by kernel_rfl) ?_
    refine aw_mid (mk [(0, .sl false 1 (List.map (AV.int .u8) b_1)), (5, .int .u64 (w_u64 (u_1 + (w_u64 ((irem (w_u64 x_1) (128 : Int)) * unit_1))))), (6, .int .u64 (w_u64 (unit_1 * (128 : Int)))), (7, .int .i64 i_1), (8, .int .u64 (w_u64 x_1)), (45, .bool (decide ((w_u64 x_1) < (128 : Int)) && (((w_u64 x_1) == (0 : Int)) && decide (i_1 > (0 : Int)))))] [] 0) ?_ ?_
    · rcases Bool.eq_false_or_eq_true (decide ((w_u64 x_1) < (128 : Int))) with gg_11 | gg_11
      · rcases Bool.eq_false_or_eq_true ((w_u64 x_1) == (0 : Int)) with gg_12 | gg_12
        · refine aw_region [(5, { b := true }), (9, { b := true })] [0, 5, 6, 7, 8, 39, 40, 43, 44, 45] [] 0 (vals := [.sl false 1 (List.map (AV.int .u8) b_1), .int .u64 (w_u64 (u_1 + (w_u64 ((irem (w_u64 x_1) (128 : Int)) * unit_1)))), .int .u64 (w_u64 (unit_1 * (128 : Int))), .int .i64 i_1, .int .u64 (w_u64 x_1), .int .u64 (w_u64 x_1), .bool ((w_u64 x_1) == (0 : Int)), .int .i64 i_1, .bool (decide (i_1 > (0 : Int))), .bool (decide (i_1 > (0 : Int)))]) (bxs := []) (by kernel_rfl) hmix (ac gg_11 (ac gg_11 (ac gg_11 (ac gg_12 (ac gg_12 (ac gg_12 an)))))) ?_
          exact ⟨rfl, (sub_wkm [] [] [.s 0, .s 5, .s 6, .s 7, .s 8, .a 45 (.bool (decide ((w_u64 x_1) < (128 : Int)) && (((w_u64 x_1) == (0 : Int)) && decide (i_1 > (0 : Int)))))] [] (by kernel_rfl) (ac (congrArg AV.bool (andt gg_11 (andt gg_12 rfl)) : (.bool (decide (i_1 > (0 : Int))) : AV) = .bool (decide ((w_u64 x_1) < (128 : Int)) && (((w_u64 x_1) == (0 : Int)) && decide (i_1 > (0 : Int))))) an))⟩
        · refine aw_region [(5, { b := true }), (7, { g := false }), (8, { g := false }), (9, { b := false })] [0, 5, 6, 7, 8, 39, 40, 43, 44, 45] [] 0 (vals := [.sl false 1 (List.map (AV.int .u8) b_1), .int .u64 (w_u64 (u_1 + (w_u64 ((irem (w_u64 x_1) (128 : Int)) * unit_1)))), .int .u64 (w_u64 (unit_1 * (128 : Int))), .int .i64 i_1, .int .u64 (w_u64 x_1), .int .u64 (w_u64 x_1), .bool ((w_u64 x_1) == (0 : Int)), .tuple [], .tuple [], .bool false]) (bxs := []) (by kernel_rfl) hmix (ac gg_11 (ac gg_11 (ac gg_11 (ac gg_12 (ac gg_12 (ac gg_12 an)))))) ?_
          exact ⟨rfl, (sub_wkm [] [] [.s 0, .s 5, .s 6, .s 7, .s 8, .a 45 (.bool (decide ((w_u64 x_1) < (128 : Int)) && (((w_u64 x_1) == (0 : Int)) && decide (i_1 > (0 : Int)))))] [] (by kernel_rfl) (ac (congrArg AV.bool (andt gg_11 (andf gg_12)) : (.bool false : AV) = .bool (decide ((w_u64 x_1) < (128 : Int)) && (((w_u64 x_1) == (0 : Int)) && decide (i_1 > (0 : Int))))) an))⟩
      · refine aw_region [(3, { g := false }), (4, { g := false }), (5, { b := false }), (7, { g := false }), (8, { g := false }), (9, { b := false })] [0, 5, 6, 7, 8, 39, 40, 43, 44, 45] [] 0 (vals := [.sl false 1 (List.map (AV.int .u8) b_1), .int .u64 (w_u64 (u_1 + (w_u64 ((irem (w_u64 x_1) (128 : Int)) * unit_1)))), .int .u64 (w_u64 (unit_1 * (128 : Int))), .int .i64 i_1, .int .u64 (w_u64 x_1), .tuple [], .tuple [], .tuple [], .tuple [], .bool false]) (bxs := []) (by kernel_rfl) hmix (ac gg_11 (ac gg_11 (ac gg_11 (ac (rfl : false = !true) (ac (rfl : false = !true) (ac (rfl : false = false) an)))))) ?_
        exact ⟨rfl, (sub_wkm [] [] [.s 0, .s 5, .s 6, .s 7, .s 8, .a 45 (.bool (decide ((w_u64 x_1) < (128 : Int)) && (((w_u64 x_1) == (0 : Int)) && decide (i_1 > (0 : Int)))))] [] (by kernel_rfl) (ac (congrArg AV.bool (andf gg_11) : (.bool false : AV) = .bool (decide ((w_u64 x_1) < (128 : Int)) && (((w_u64 x_1) == (0 : Int)) && decide (i_1 > (0 : Int))))) an))⟩
    refine aw_cond (t := 45) (b := (decide ((w_u64 x_1) < (128 : Int)) && (((w_u64 x_1) == (0 : Int)) && decide (i_1 > (0 : Int))))) (by kernel_rfl) (by kernel_rfl) ?_ ?_
    · intro g_4; replace h := cond_t g_4 h
      refine aw_seq (by kernel_rfl) ?_
      refine aw_region [] [2, 3, 4] [] 0 (vals := [.int .i64 (0 : Int), .int .i64 (0 : Int), .int .i64 (10 : Int)]) (bxs := []) (by kernel_rfl) hmix an ?_
      refine aw_ret (by kernel_rfl) ?_
      replace h := Option.some.inj h; subst h
      exact ⟨rfl, Nat.le_of_ble_eq_true rfl, by kernel_rfl⟩
    intro g_4; replace h := cond_f g_4 h
    refine aw_skip (by kernel_rfl) ?_
    refine aw_seq (by kernel_rfl) ?_
    refine aw_region [] [0, 5, 6, 7, 47] [] 0 (vals := [.sl false 1 (List.map (AV.int .u8) b_1), .int .u64 (w_u64 (u_1 + (w_u64 ((irem (w_u64 x_1) (128 : Int)) * unit_1)))), .int .u64 (w_u64 (unit_1 * (128 : Int))), .int .i64 i_1, .bool (decide ((w_u64 x_1) < (128 : Int)))]) (bxs := []) (by kernel_rfl) hmix an ?_
    refine aw_cond (t := 47) (b := (decide ((w_u64 x_1) < (128 : Int)))) (by kernel_rfl) (by kernel_rfl) ?_ ?_
    rotate_left
    · intro g_5; replace h := cond_f g_5 h
      refine aw_skip (by kernel_rfl) ?_
      refine aw_region [] [0, 5, 6, 7] [] 0 (vals := [.sl false 1 (List.map (AV.int .u8) b_1), .int .u64 (w_u64 (u_1 + (w_u64 ((irem (w_u64 x_1) (128 : Int)) * unit_1)))), .int .u64 (w_u64 (unit_1 * (128 : Int))), .int .i64 (w_i64 (i_1 + (1 : Int)))]) (bxs := []) (by kernel_rfl) hmix an ?_
      exact ⟨_, (sub_wkm [] [] [.s 0, .s 5, .s 6, .s 7] [] (by kernel_rfl) an), _, _, _, rfl, h⟩
    intro g_5; replace h := cond_t g_5 h
    refine aw_seq (by kernel_rfl) ?_
    obtain ⟨r_1, h_3, h⟩ := bind_some h
    refine aw_region [(1, { av := .int .i64 r_1, l := [.int .u64 (w_u64 (u_1 + (w_u64 ((irem (w_u64 x_1) (128 : Int)) * unit_1))))] })] [2, 3, 4] [] 0 (vals := [.int .i64 r_1, .int .i64 (w_i64 (i_1 + (1 : Int))), .int .i64 (0 : Int)]) (bxs := []) (by kernel_rfl) hmix (ac (rfl : ([.int .u64 (w_u64 (u_1 + (w_u64 ((irem (w_u64 x_1) (128 : Int)) * unit_1))))] : List AV) = [.int .u64 (w_u64 (u_1 + (w_u64 ((irem (w_u64 x_1) (128 : Int)) * unit_1))))]) (ac (rfl : ([] : List BoxSt) = []) (ac (R05_integer_ok (w_u64 (u_1 + (w_u64 ((irem (w_u64 x_1) (128 : Int)) * unit_1)))) r_1 h_3 : TripleG prog 64 [] [] [.int .u64 (w_u64 (u_1 + (w_u64 ((irem (w_u64 x_1) (128 : Int)) * unit_1))))] [] (.int .i64 r_1)) an))) ?_
    refine aw_ret (by kernel_rfl) ?_
    replace h := Option.some.inj h; subst h
    exact ⟨rfl, Nat.le_of_ble_eq_true rfl, by kernel_rfl⟩
  intro e st1 hk
  rcases o_1 with q_1 | q_2
  rotate_left
  · obtain ⟨rfl, hf⟩ := hk
    replace h := Option.some.inj h; subst h
    exact ⟨st1, Sub.refl _ _, .inr rfl, hf⟩
  obtain ⟨rfl, hs⟩ := hk
  refine ⟨_, hs, ?_⟩
  refine aw_seq (by kernel_rfl) ?_
  refine aw_region [] [2, 3, 4] [] 0 (vals := [.int .i64 (0 : Int), .int .i64 (0 : Int), .int .i64 (10 : Int)]) (bxs := []) (by kernel_rfl) hmix an ?_
  refine aw_ret (by kernel_rfl) ?_
  replace h := Option.some.inj h; subst h
  exact ⟨.inr rfl, Nat.le_of_ble_eq_true rfl, by kernel_rfl⟩

theorem R08_ints_ok (F : Nat) (b_1 : List (Int)) (count_1 : Int) (r : (List (Int)) × Int × Int) (h : R08_ints F b_1 count_1 = some r) : TripleG prog 33 [] [] [.sl false 1 (List.map (AV.int .u8) b_1), .int .i64 count_1] [.row 3 1 (List.map (AV.int .i64) r.1)] (.tuple [.own 0 ((r.1).length), .int .i64 r.2.1, .int .i64 r.2.2]) := by
  refine triple_intro (fn := Go.Proofs.Try.f33) (code := codeOf Go.Proofs.Try.f33) (by kernel_rfl) (by kernel_rfl) (Nat.le_of_ble_eq_true (by kernel_rfl)) ?_
  unfold R08_ints at h
  refine aw_seq (by kernel_rfl) ?_
  refine aw_region [(0, { id := 0, m := 1 })] [0, 1] [] 1 (vals := [.sl false 1 (List.map (AV.int .u8) b_1), .int .i64 count_1]) (bxs := []) (by kernel_rfl) hmix an ?_
  refine aw_seq (by kernel_rfl) ?_
  refine aw_region [(0, { id := 1, m := 1 })] [0, 1, 7] [1] 2 (vals := [.sl false 1 (List.map (AV.int .u8) b_1), .int .i64 count_1, .own 1 0]) (bxs := [.live (.row 3 1 [])]) (by kernel_rfl) hmix an ?_
  refine aw_seq (by kernel_rfl) ?_
  refine aw_region [] [0, 1, 7, 8] [1] 2 (vals := [.sl false 1 (List.map (AV.int .u8) b_1), .int .i64 count_1, .own 1 0, .int .i64 (0 : Int)]) (bxs := [.live (.row 3 1 [])]) (by kernel_rfl) hmix an ?_
  refine aw_seq (by kernel_rfl) ?_
  refine aw_seq (by kernel_rfl) ?_
  refine aw_region [] [0, 1, 7, 8, 9] [1] 2 (vals := [.sl false 1 (List.map (AV.int .u8) b_1), .int .i64 count_1, .own 1 0, .int .i64 (0 : Int), .int .i64 (0 : Int)]) (bxs := [.live (.row 3 1 [])]) (by kernel_rfl) hmix an ?_
  obtain ⟨o_1, h_1, h⟩ := bind_some h
  refine aw_conv (K1 := (fun e st' => match o_1 with | (.inl q0) => e = .normal ∧ Sub 0 st' (mk [(7, .own 0 ((q0.2).length)), (8, .int .i64 q0.1)] [(0, .live (.row 3 1 (List.map (AV.int .i64) q0.2)))] 1) | (.inr q1) => e = .ret ∧ FinR prog Go.Proofs.Try.f33 0 [.row 3 1 (List.map (AV.int .i64) q1.1)] (.tuple [.own 0 ((q1.1).length), .int .i64 q1.2.1, .int .i64 q1.2.2]) st')) ?_ ?_
  · replace h := h_1
    refine aw_block (id := 0) (by kernel_rfl) ?_
    refine aw_sub (sub_wkm [1] [] [.s 0, .s 1, .s 7, .s 8, .s 9] [.s 0] (sl2 := [(0, .sl false 1 (List.map (AV.int .u8) b_1)), (1, .int .i64 count_1), (7, .own 0 0), (8, .int .i64 (0 : Int)), (9, .int .i64 (0 : Int))]) (bx2 := [(0, .live (.row 3 1 []))]) (by kernel_rfl) an) ?_
    refine aw_loopF (fun n st => ∃ (at__1 : Int), ∃ (i_1 : Int), ∃ (row_1 : List Int), st = mk [(0, .sl false 1 (List.map (AV.int .u8) b_1)), (1, .int .i64 count_1), (7, .own 0 ((row_1).length)), (8, .int .i64 at__1), (9, .int .i64 i_1)] [(0, .live (.row 3 1 (List.map (AV.int .i64) row_1)))] 1 ∧ R08_ints_L1 F b_1 count_1 n at__1 i_1 row_1 = some o_1) F (by kernel_rfl) ⟨_, _, _, rfl, h⟩ ?_ ?_
    · rintro _ ⟨_, _, _, _, h⟩; exact none_ne (h : (none : Option ((Int × (List Int)) ⊕ ((List (Int)) × Int × Int))) = some o_1)
    rintro n_1 _ ⟨at__1, i_1, row_1, rfl, h⟩
    replace h : R08_ints_L1_body F b_1 count_1 (R08_ints_L1 F b_1 count_1 n_1) at__1 i_1 row_1 = some o_1 := h
    unfold R08_ints_L1_body at h
    refine aw_seq (by kernel_rfl) ?_
    refine aw_seq (by kernel_rfl) ?_
    refine aw_region [] [0, 1, 7, 8, 9, 15] [0] 1 (vals := [.sl false 1 (List.map (AV.int .u8) b_1), .int .i64 count_1, .own 0 ((row_1).length), .int .i64 at__1, .int .i64 i_1, .bool (decide (i_1 < count_1))]) (bxs := [.live (.row 3 1 (List.map (AV.int .i64) row_1))]) (by kernel_rfl) hmix an ?_
    refine aw_cond (t := 15) (b := (decide (i_1 < count_1))) (by kernel_rfl) (by kernel_rfl) ?_ ?_
    rotate_left
    · intro g_1; replace h := cond_f g_1 h
      refine aw_exit (id := 0) (by kernel_rfl) ?_
      replace h := Option.some.inj h; subst h
      exact ⟨rfl, (sub_wkm [0] [] [.s 7, .s 8] [.s 0] (by kernel_rfl) an)⟩
    intro g_1; replace h := cond_t g_1 h
    refine aw_skip (by kernel_rfl) ?_
    refine aw_seq (by kernel_rfl) ?_
    refine aw_block (id := 1) (by kernel_rfl) ?_
    refine aw_seq (by kernel_rfl) ?_
    obtain ⟨_, h_2, h⟩ := bind_some h; replace h_2 := need_some h_2
    obtain ⟨r_1, h_3, h⟩ := bind_some h
    refine aw_region [(2, { l := (List.map (AV.int .u8) (sub b_1 at__1 (((b_1).length : Nat) : Int))) }), (3, { av := .tuple [.int .i64 r_1.1, .int .i64 r_1.2.1, .int .i64 r_1.2.2], l := [.sl false 1 (List.map (AV.int .u8) (sub b_1 at__1 (((b_1).length : Nat) : Int)))] })] [0, 1, 7, 8, 9, 10, 11, 12] [0] 1 (vals := [.sl false 1 (List.map (AV.int .u8) b_1), .int .i64 count_1, .own 0 ((row_1).length), .int .i64 at__1, .int .i64 i_1, .int .i64 r_1.1, .int .i64 r_1.2.1, .int .i64 r_1.2.2]) (bxs := [.live (.row 3 1 (List.map (AV.int .i64) row_1))]) (by kernel_rfl) hmix (ac h_2.1 (ac (vc_lenle h_2.2 : at__1 ≤ ((((List.map (AV.int .u8) b_1)).length : Nat) : Int)) (ac (Int.le_refl _ : ((((List.map (AV.int .u8) b_1)).length : Nat) : Int) ≤ ((((List.map (AV.int .u8) b_1)).length : Nat) : Int)) (ac (vc_subn _ _ : (List.map (AV.int .u8) (sub b_1 at__1 (((b_1).length : Nat) : Int))) = (((List.map (AV.int .u8) b_1)).take (((((List.map (AV.int .u8) b_1)).length : Nat) : Int)).toNat).drop (at__1).toNat) (ac (rfl : ([.sl false 1 (List.map (AV.int .u8) (sub b_1 at__1 (((b_1).length : Nat) : Int)))] : List AV) = [.sl false 1 (List.map (AV.int .u8) (sub b_1 at__1 (((b_1).length : Nat) : Int)))]) (ac (rfl : ([] : List BoxSt) = []) (ac (R05_Int_ok F (sub b_1 at__1 (((b_1).length : Nat) : Int)) r_1 h_3 : TripleG prog 57 [] [] [.sl false 1 (List.map (AV.int .u8) (sub b_1 at__1 (((b_1).length : Nat) : Int)))] [] (.tuple [.int .i64 r_1.1, .int .i64 r_1.2.1, .int .i64 r_1.2.2])) an))))))) ?_
    refine aw_seq (by kernel_rfl) ?_
    refine aw_seq (by kernel_rfl) ?_
    refine aw_region [] [0, 1, 7, 8, 9, 10, 11, 12, 27] [0] 1 (vals := [.sl false 1 (List.map (AV.int .u8) b_1), .int .i64 count_1, .own 0 ((row_1).length), .int .i64 at__1, .int .i64 i_1, .int .i64 r_1.1, .int .i64 r_1.2.1, .int .i64 r_1.2.2, .bool (r_1.2.2 != (0 : Int))]) (bxs := [.live (.row 3 1 (List.map (AV.int .i64) row_1))]) (by kernel_rfl) hmix an ?_
    refine aw_cond (t := 27) (b := (r_1.2.2 != (0 : Int))) (by kernel_rfl) (by kernel_rfl) ?_ ?_
    · intro g_2; replace h := cond_t g_2 h
      refine aw_seq (by kernel_rfl) ?_
      refine aw_region [(1, { id := 1, m := 1 })] [4, 5, 6] [1] 2 (vals := [.own 1 0, .int .i64 (0 : Int), .int .i64 r_1.2.2]) (bxs := [.live (.row 3 1 [])]) (by kernel_rfl) hmix an ?_
      refine aw_sub (sub_wkm [1] [] [.a 4 (.own 0 ((([] : List Int)).length)), .s 5, .s 6] [.s 0] (sl2 := [(4, .own 0 ((([] : List Int)).length)), (5, .int .i64 (0 : Int)), (6, .int .i64 r_1.2.2)]) (bx2 := [(0, .live (.row 3 1 []))]) (by kernel_rfl) (ac (congrArg (AV.own _) (by first | (simp; done) | (simp; omega)) : (.own 1 0 : AV) = .own 1 ((([] : List Int)).length)) an)) ?_
      refine aw_ret (by kernel_rfl) ?_
      replace h := Option.some.inj h; subst h
      exact ⟨rfl, Nat.le_of_ble_eq_true rfl, by kernel_rfl⟩
    intro g_2; replace h := cond_f g_2 h
    refine aw_skip (by kernel_rfl) ?_
    refine aw_seq (by kernel_rfl) ?_
    obtain ⟨_, h_4, h⟩ := bind_some h; replace h_4 := need_some h_4
    refine aw_region [(2, { id := 1 }), (3, { id := 2, l := (List.map (AV.int .i64) (row_1 ++ ([r_1.1] : List Int))), n := ((row_1 ++ ([r_1.1] : List Int))).length })] [0, 1, 7, 8, 9, 11] [2] 3 (vals := [.sl false 1 (List.map (AV.int .u8) b_1), .int .i64 count_1, .own 2 (((row_1 ++ ([r_1.1] : List Int))).length), .int .i64 at__1, .int .i64 i_1, .int .i64 r_1.2.1]) (bxs := [.live (.row 3 1 (List.map (AV.int .i64) (row_1 ++ ([r_1.1] : List Int))))]) (by kernel_rfl) hmix (ac (by first | (simp; done) | (simp; omega) : (row_1).length = ((List.map (AV.int .i64) row_1)).length) (ac (by first | (simp; done) | (simp; omega) : 1 = ((List.map (AV.int .i64) ([r_1.1] : List Int))).length) (ac (vc_app _ _ : (List.map (AV.int .i64) (row_1 ++ ([r_1.1] : List Int))) = (List.map (AV.int .i64) row_1) ++ (List.map (AV.int .i64) ([r_1.1] : List Int))) (ac (by simp : ((row_1 ++ ([r_1.1] : List Int))).length = ((List.map (AV.int .i64) (row_1 ++ ([r_1.1] : List Int)))).length) (ac (by first | (simp; done) | simpa using h_4 : (((List.map (AV.int .i64) row_1) : List AV).length + ((List.map (AV.int .i64) ([r_1.1] : List Int)) : List AV).length) * 8 ≤ 140737488355328) an))))) ?_
    refine aw_region [] [0, 1, 7, 8, 9] [2] 3 (vals := [.sl false 1 (List.map (AV.int .u8) b_1), .int .i64 count_1, .own 2 (((row_1 ++ ([r_1.1] : List Int))).length), .int .i64 (w_i64 (at__1 + r_1.2.1)), .int .i64 i_1]) (bxs := [.live (.row 3 1 (List.map (AV.int .i64) (row_1 ++ ([r_1.1] : List Int))))]) (by kernel_rfl) hmix an ?_
    refine aw_region [] [0, 1, 7, 8, 9] [2] 3 (vals := [.sl false 1 (List.map (AV.int .u8) b_1), .int .i64 count_1, .own 2 (((row_1 ++ ([r_1.1] : List Int))).length), .int .i64 (w_i64 (at__1 + r_1.2.1)), .int .i64 (w_i64 (i_1 + (1 : Int)))]) (bxs := [.live (.row 3 1 (List.map (AV.int .i64) (row_1 ++ ([r_1.1] : List Int))))]) (by kernel_rfl) hmix an ?_
    exact ⟨_, (sub_wkm [2] [] [.s 0, .s 1, .s 7, .s 8, .s 9] [.s 0] (by kernel_rfl) an), _, _, _, rfl, h⟩
  intro e st1 hk
  rcases o_1 with q_1 | q_2
  rotate_left
  · obtain ⟨rfl, hf⟩ := hk
    replace h := Option.some.inj h; subst h
    exact ⟨st1, Sub.refl _ _, .inr rfl, hf⟩
  obtain ⟨rfl, hs⟩ := hk
  refine ⟨_, hs, ?_⟩
  refine aw_seq (by kernel_rfl) ?_
  refine aw_region [] [4, 5, 6] [0] 1 (vals := [.own 0 ((q_1.2).length), .int .i64 q_1.1, .int .i64 (0 : Int)]) (bxs := [.live (.row 3 1 (List.map (AV.int .i64) q_1.2))]) (by kernel_rfl) hmix an ?_
  refine aw_sub (sub_wkm [0] [] [.s 4, .s 5, .s 6] [.s 0] (sl2 := [(4, .own 0 ((q_1.2).length)), (5, .int .i64 q_1.1), (6, .int .i64 (0 : Int))]) (bx2 := [(0, .live (.row 3 1 (List.map (AV.int .i64) q_1.2)))]) (by kernel_rfl) an) ?_
  refine aw_ret (by kernel_rfl) ?_
  replace h := Option.some.inj h; subst h
  exact ⟨.inr rfl, Nat.le_of_ble_eq_true rfl, by kernel_rfl⟩

theorem R08_one_ok (b_1 : Bool) (r : Int) (h : R08_one b_1 = some r) : TripleG prog 34 [] [] [.bool b_1] [] (.int .i64 r) := by
  refine triple_intro (fn := Go.Proofs.Try.f34) (code := codeOf Go.Proofs.Try.f34) (by kernel_rfl) (by kernel_rfl) (Nat.le_of_ble_eq_true (by kernel_rfl)) ?_
  unfold R08_one at h
  refine aw_seq (by kernel_rfl) ?_
  refine aw_region [] [0] [] 0 (vals := [.bool b_1]) (bxs := []) (by kernel_rfl) hmix an ?_
  refine aw_seq (by kernel_rfl) ?_
  refine aw_seq (by kernel_rfl) ?_
  refine aw_region [] [3] [] 0 (vals := [.bool b_1]) (bxs := []) (by kernel_rfl) hmix an ?_
  refine aw_cond (t := 3) (b := b_1) (by kernel_rfl) (by kernel_rfl) ?_ ?_
  · intro g_1; replace h := cond_t g_1 h
    refine aw_seq (by kernel_rfl) ?_
    refine aw_region [] [2] [] 0 (vals := [.int .i64 (1 : Int)]) (bxs := []) (by kernel_rfl) hmix an ?_
    refine aw_ret (by kernel_rfl) ?_
    replace h := Option.some.inj h; subst h
    exact ⟨.inr rfl, Nat.le_of_ble_eq_true rfl, by kernel_rfl⟩
  intro g_1; replace h := cond_f g_1 h
  refine aw_skip (by kernel_rfl) ?_
  refine aw_seq (by kernel_rfl) ?_
  refine aw_region [] [2] [] 0 (vals := [.int .i64 (0 : Int)]) (bxs := []) (by kernel_rfl) hmix an ?_
  refine aw_ret (by kernel_rfl) ?_
  replace h := Option.some.inj h; subst h
  exact ⟨.inr rfl, Nat.le_of_ble_eq_true rfl, by kernel_rfl⟩

theorem R06_Stack_ok (F : Nat) (names_1 : List (List Int)) (stacks_1 : List (Arr2_Int)) (i_1 : Int) (r : (List (List Int)) × Int) (h : R06_Stack F names_1 stacks_1 i_1 = some r) : TripleG prog 35 [] [] [.sl false 1 (List.map AV.str names_1), .sl false 2 (List.map e_Arr2_Int stacks_1), .int .i64 i_1] [] (.tuple [.sl false 1 (List.map AV.str r.1), .int .i64 r.2]) := by
  refine triple_intro (fn := Go.Proofs.Try.f35) (code := codeOf Go.Proofs.Try.f35) (by kernel_rfl) (by kernel_rfl) (Nat.le_of_ble_eq_true (by kernel_rfl)) ?_
  unfold R06_Stack at h
  refine aw_seq (by kernel_rfl) ?_
  refine aw_region [] [0, 1, 2] [] 0 (vals := [.sl false 1 (List.map AV.str names_1), .sl false 2 (List.map e_Arr2_Int stacks_1), .int .i64 i_1]) (bxs := []) (by kernel_rfl) hmix an ?_
  refine aw_seq (by kernel_rfl) ?_
  refine aw_seq (by kernel_rfl) ?_
  obtain ⟨r_1, h_1, h⟩ := bind_some h
  refine aw_region [(2, { av := .int .i64 r_1, l := [.sl false 1 (List.map AV.str names_1), .sl false 2 (List.map e_Arr2_Int stacks_1)] })] [0, 1, 2, 12] [] 0 (vals := [.sl false 1 (List.map AV.str names_1), .sl false 2 (List.map e_Arr2_Int stacks_1), .int .i64 i_1, .bool (r_1 != (0 : Int))]) (bxs := []) (by kernel_rfl) hmix (ac (rfl : ([.sl false 1 (List.map AV.str names_1), .sl false 2 (List.map e_Arr2_Int stacks_1)] : List AV) = [.sl false 1 (List.map AV.str names_1), .sl false 2 (List.map e_Arr2_Int stacks_1)]) (ac (rfl : ([] : List BoxSt) = []) (ac (R06_Check_ok F names_1 stacks_1 r_1 h_1 : TripleG prog 25 [] [] [.sl false 1 (List.map AV.str names_1), .sl false 2 (List.map e_Arr2_Int stacks_1)] [] (.int .i64 r_1)) an))) ?_
  refine aw_cond (t := 12) (b := (r_1 != (0 : Int))) (by kernel_rfl) (by kernel_rfl) ?_ ?_
  · intro g_1; replace h := cond_t g_1 h
    refine aw_seq (by kernel_rfl) ?_
    refine aw_region [] [6, 7] [] 0 (vals := [.nilsl, .int .i64 (1 : Int)]) (bxs := []) (by kernel_rfl) hmix an ?_
    refine aw_sub (sub_wkm [] [] [.a 6 (.sl false 1 []), .s 7] [] (sl2 := [(6, .sl false 1 []), (7, .int .i64 (1 : Int))]) (bx2 := []) (by kernel_rfl) (ac (rfl : ([] : List AV) = []) an)) ?_
    refine aw_ret (by kernel_rfl) ?_
    replace h := Option.some.inj h; subst h
    exact ⟨.inr rfl, Nat.le_of_ble_eq_true rfl, by kernel_rfl⟩
  intro g_1; replace h := cond_f g_1 h
  refine aw_skip (by kernel_rfl) ?_
  refine aw_seq (by kernel_rfl) ?_
  refine aw_seq (by kernel_rfl) ?_
  refine aw_mid (mk [(0, .sl false 1 (List.map AV.str names_1)), (1, .sl false 2 (List.map e_Arr2_Int stacks_1)), (2, .int .i64 i_1), (20, .bool (decide (i_1 < (-1 : Int)) || decide (i_1 ≥ (((stacks_1).length : Nat) : Int))))] [] 0) ?_ ?_
  · rcases Bool.eq_false_or_eq_true (decide (i_1 < (-1 : Int))) with gg_2 | gg_2
    · refine aw_region [(3, { g := false }), (4, { g := false }), (5, { g := false }), (6, { g := false }), (7, { b := true })] [0, 1, 2, 20] [] 0 (vals := [.sl false 1 (List.map AV.str names_1), .sl false 2 (List.map e_Arr2_Int stacks_1), .int .i64 i_1, .bool true]) (bxs := []) (by kernel_rfl) hmix (ac gg_2 (ac gg_2 (ac gg_2 (ac gg_2 (ac gg_2 an))))) ?_
      exact ⟨rfl, (sub_wkm [] [] [.s 0, .s 1, .s 2, .a 20 (.bool (decide (i_1 < (-1 : Int)) || decide (i_1 ≥ (((stacks_1).length : Nat) : Int))))] [] (by kernel_rfl) (ac (congrArg AV.bool (ort gg_2) : (.bool true : AV) = .bool (decide (i_1 < (-1 : Int)) || decide (i_1 ≥ (((stacks_1).length : Nat) : Int)))) an))⟩
    · refine aw_region [(5, { n := (stacks_1).length }), (7, { b := false })] [0, 1, 2, 20] [] 0 (vals := [.sl false 1 (List.map AV.str names_1), .sl false 2 (List.map e_Arr2_Int stacks_1), .int .i64 i_1, .bool (decide (i_1 ≥ (((stacks_1).length : Nat) : Int)))]) (bxs := []) (by kernel_rfl) hmix (ac gg_2 (ac gg_2 (ac gg_2 (ac (vc_len _ : ((List.map e_Arr2_Int stacks_1)).length = (stacks_1).length) (ac gg_2 (ac gg_2 an)))))) ?_
      exact ⟨rfl, (sub_wkm [] [] [.s 0, .s 1, .s 2, .a 20 (.bool (decide (i_1 < (-1 : Int)) || decide (i_1 ≥ (((stacks_1).length : Nat) : Int))))] [] (by kernel_rfl) (ac (congrArg AV.bool (orf gg_2 rfl) : (.bool (decide (i_1 ≥ (((stacks_1).length : Nat) : Int))) : AV) = .bool (decide (i_1 < (-1 : Int)) || decide (i_1 ≥ (((stacks_1).length : Nat) : Int)))) an))⟩
  refine aw_cond (t := 20) (b := (decide (i_1 < (-1 : Int)) || decide (i_1 ≥ (((stacks_1).length : Nat) : Int)))) (by kernel_rfl) (by kernel_rfl) ?_ ?_
  · intro g_2; replace h := cond_t g_2 h
    refine aw_seq (by kernel_rfl) ?_
    refine aw_region [] [6, 7] [] 0 (vals := [.nilsl, .int .i64 (2 : Int)]) (bxs := []) (by kernel_rfl) hmix an ?_
    refine aw_sub (sub_wkm [] [] [.a 6 (.sl false 1 []), .s 7] [] (sl2 := [(6, .sl false 1 []), (7, .int .i64 (2 : Int))]) (bx2 := []) (by kernel_rfl) (ac (rfl : ([] : List AV) = []) an)) ?_
    refine aw_ret (by kernel_rfl) ?_
    replace h := Option.some.inj h; subst h
    exact ⟨.inr rfl, Nat.le_of_ble_eq_true rfl, by kernel_rfl⟩
  intro g_2; replace h := cond_f g_2 h
  refine aw_skip (by kernel_rfl) ?_
  refine aw_seq (by kernel_rfl) ?_
  refine aw_region [] [0, 1, 2, 8] [] 0 (vals := [.sl false 1 (List.map AV.str names_1), .sl false 2 (List.map e_Arr2_Int stacks_1), .int .i64 i_1, .nilsl]) (bxs := []) (by kernel_rfl) hmix an ?_
  refine aw_seq (by kernel_rfl) ?_
  obtain ⟨o_1, h_2, h⟩ := bind_some h
  refine aw_mid (mk [(8, .sl false 1 (List.map AV.str o_1))] [] 0) ?_ ?_
  · replace h := h_2
    refine aw_block (id := 0) (by kernel_rfl) ?_
    refine aw_sub (sub_wkm [] [] [.s 0, .s 1, .s 2, .a 8 (.sl false 1 [])] [] (sl2 := [(0, .sl false 1 (List.map AV.str names_1)), (1, .sl false 2 (List.map e_Arr2_Int stacks_1)), (2, .int .i64 i_1), (8, .sl false 1 [])]) (bx2 := []) (by kernel_rfl) (ac (rfl : ([] : List AV) = []) an)) ?_
    refine aw_loopF (fun n st => ∃ (i_2 : Int), ∃ (l_1 : List (List Int)), st = mk [(0, .sl false 1 (List.map AV.str names_1)), (1, .sl false 2 (List.map e_Arr2_Int stacks_1)), (2, .int .i64 i_2), (8, .sl false 1 (List.map AV.str l_1))] [] 0 ∧ R06_Stack_L1 F names_1 stacks_1 n i_2 l_1 = some o_1) F (by kernel_rfl) ⟨_, _, rfl, h⟩ ?_ ?_
    · rintro _ ⟨_, _, _, h⟩; exact none_ne (h : (none : Option (List (List Int))) = some o_1)
    rintro n_1 _ ⟨i_2, l_1, rfl, h⟩
    replace h : R06_Stack_L1_body F names_1 stacks_1 (R06_Stack_L1 F names_1 stacks_1 n_1) i_2 l_1 = some o_1 := h
    unfold R06_Stack_L1_body at h
    refine aw_seq (by kernel_rfl) ?_
    refine aw_seq (by kernel_rfl) ?_
    refine aw_region [] [0, 1, 2, 8, 22] [] 0 (vals := [.sl false 1 (List.map AV.str names_1), .sl false 2 (List.map e_Arr2_Int stacks_1), .int .i64 i_2, .sl false 1 (List.map AV.str l_1), .bool (decide (i_2 ≥ (0 : Int)))]) (bxs := []) (by kernel_rfl) hmix an ?_
    refine aw_cond (t := 22) (b := (decide (i_2 ≥ (0 : Int)))) (by kernel_rfl) (by kernel_rfl) ?_ ?_
    rotate_left
    · intro g_3; replace h := cond_f g_3 h
      refine aw_exit (id := 0) (by kernel_rfl) ?_
      replace h := Option.some.inj h; subst h
      exact ⟨rfl, (sub_wkm [] [] [.s 8] [] (by kernel_rfl) an)⟩
    intro g_3; replace h := cond_t g_3 h
    refine aw_skip (by kernel_rfl) ?_
    refine aw_block (id := 1) (by kernel_rfl) ?_
    refine aw_seq (by kernel_rfl) ?_
    obtain ⟨x_1, h_3, h⟩ := bind_some h
    obtain ⟨x_2, h_4, h⟩ := bind_some h
    obtain ⟨_, h_5, h⟩ := bind_some h; replace h_5 := need_some h_5
    refine aw_region [(3, { av := .agg [.int .i64 x_1.c0, .int .i64 x_1.c1] }), (6, { av := .str x_2 }), (8, { id := 0 }), (10, { id := 1, l := (List.map AV.str (([x_2] : List (List Int)) ++ l_1)), n := ((([x_2] : List (List Int)) ++ l_1)).length })] [0, 1, 2, 8] [1] 2 (vals := [.sl false 1 (List.map AV.str names_1), .sl false 2 (List.map e_Arr2_Int stacks_1), .int .i64 i_2, .own 1 (((([x_2] : List (List Int)) ++ l_1)).length)]) (bxs := [.live (.row 9 1 (List.map AV.str (([x_2] : List (List Int)) ++ l_1)))]) (by kernel_rfl) hmix (ac (vc_idx h_3 : idxA (List.map e_Arr2_Int stacks_1) i_2 = some (.agg [.int .i64 x_1.c0, .int .i64 x_1.c1])) (ac (by decide : (0 : Int) ≤ (1 : Int)) (ac (by decide : (1 : Int) < ((2 : Nat) : Int)) (ac (vc_idx h_4 : idxA (List.map AV.str names_1) x_1.c1 = some (.str x_2)) (ac (by first | (simp; done) | (simp; omega) : 1 = ((List.map AV.str ([x_2] : List (List Int)))).length) (ac (trivial : True) (ac (vc_app _ _ : (List.map AV.str (([x_2] : List (List Int)) ++ l_1)) = (List.map AV.str ([x_2] : List (List Int))) ++ (List.map AV.str l_1)) (ac (by simp : ((([x_2] : List (List Int)) ++ l_1)).length = ((List.map AV.str (([x_2] : List (List Int)) ++ l_1))).length) (ac (by first | (simp; done) | simpa using h_5 : (((List.map AV.str ([x_2] : List (List Int))) : List AV).length + ((List.map AV.str l_1) : List AV).length) * 16 ≤ 140737488355328) an))))))))) ?_
    obtain ⟨x_3, h_6, h⟩ := bind_some h
    refine aw_region [(2, { av := .agg [.int .i64 x_3.c0, .int .i64 x_3.c1] })] [0, 1, 2, 8] [1] 2 (vals := [.sl false 1 (List.map AV.str names_1), .sl false 2 (List.map e_Arr2_Int stacks_1), .int .i64 x_3.c0, .own 1 (((([x_2] : List (List Int)) ++ l_1)).length)]) (bxs := [.live (.row 9 1 (List.map AV.str (([x_2] : List (List Int)) ++ l_1)))]) (by kernel_rfl) hmix (ac (vc_idx h_6 : idxA (List.map e_Arr2_Int stacks_1) i_2 = some (.agg [.int .i64 x_3.c0, .int .i64 x_3.c1])) (ac (by decide : (0 : Int) ≤ (0 : Int)) (ac (by decide : (0 : Int) < ((2 : Nat) : Int)) an))) ?_
    exact ⟨_, (Sub.trans (sub_wkm [] [1] [.s 0, .s 1, .s 2, .a 8 (.sl false 1 (List.map AV.str (([x_2] : List (List Int)) ++ l_1)))] [] (sl2 := [(0, .sl false 1 (List.map AV.str names_1)), (1, .sl false 2 (List.map e_Arr2_Int stacks_1)), (2, .int .i64 x_3.c0), (8, .sl false 1 (List.map AV.str (([x_2] : List (List Int)) ++ l_1)))]) (bx2 := []) (by kernel_rfl) (ac (by first | (simp; done) | (simp; omega) : ((([x_2] : List (List Int)) ++ l_1)).length = ((List.map AV.str (([x_2] : List (List Int)) ++ l_1))).length) (ac (rfl : 1 = 1) (ac (rfl : ((List.map AV.str (([x_2] : List (List Int)) ++ l_1)) : List AV) = (List.map AV.str (([x_2] : List (List Int)) ++ l_1))) (ac (rfl : (!false || false) = true) an))))) (sub_wkm [] [] [.s 0, .s 1, .s 2, .s 8] [] (by kernel_rfl) an)), _, _, rfl, h⟩
  refine aw_seq (by kernel_rfl) ?_
  refine aw_region [] [6, 7] [] 0 (vals := [.sl false 1 (List.map AV.str o_1), .int .i64 (0 : Int)]) (bxs := []) (by kernel_rfl) hmix an ?_
  refine aw_ret (by kernel_rfl) ?_
  replace h := Option.some.inj h; subst h
  exact ⟨.inr rfl, Nat.le_of_ble_eq_true rfl, by kernel_rfl⟩

theorem R08_Decode_ok (F : Nat) (names_1 : List (List Int)) (stacks_1 : List (Arr2_Int)) (b_1 : List (Int)) (r : T_api_Event × Int × Int) (h : R08_Decode F names_1 stacks_1 b_1 = some r) : TripleG prog 16 [] [] [.sl false 1 (List.map AV.str names_1), .sl false 2 (List.map e_Arr2_Int stacks_1), .sl false 1 (List.map (AV.int .u8) b_1)] [] (.tuple [e_T_api_Event r.1, .int .i64 r.2.1, .int .i64 r.2.2]) := by
  refine triple_intro (fn := Go.Proofs.Try.f16) (code := codeOf Go.Proofs.Try.f16) (by kernel_rfl) (by kernel_rfl) (Nat.le_of_ble_eq_true (by kernel_rfl)) ?_
  unfold R08_Decode at h
  refine aw_seq (by kernel_rfl) ?_
  refine aw_region [(0, { id := 0 })] [0, 1, 2, 6] [0] 1 (vals := [.sl false 1 (List.map AV.str names_1), .sl false 2 (List.map e_Arr2_Int stacks_1), .sl false 1 (List.map (AV.int .u8) b_1), .ptr 0 0 0 0]) (bxs := [.live (.var 28 [.int .i64 (0 : Int), .int .i64 (0 : Int), .str ([] : List Int), .int .i64 (0 : Int), .int .i64 (0 : Int), .nilsl])]) (by kernel_rfl) hmix an ?_
  refine aw_seq (by kernel_rfl) ?_
  refine aw_seq (by kernel_rfl) ?_
  obtain ⟨r_1, h_1, h⟩ := bind_some h
  refine aw_region [(2, { av := .int .i64 r_1, l := [.sl false 1 (List.map AV.str names_1), .sl false 2 (List.map e_Arr2_Int stacks_1)] })] [0, 1, 2, 6, 25] [0] 1 (vals := [.sl false 1 (List.map AV.str names_1), .sl false 2 (List.map e_Arr2_Int stacks_1), .sl false 1 (List.map (AV.int .u8) b_1), .ptr 0 0 0 0, .bool (r_1 != (0 : Int))]) (bxs := [.live (.var 28 [.int .i64 (0 : Int), .int .i64 (0 : Int), .str ([] : List Int), .int .i64 (0 : Int), .int .i64 (0 : Int), .nilsl])]) (by kernel_rfl) hmix (ac (rfl : ([.sl false 1 (List.map AV.str names_1), .sl false 2 (List.map e_Arr2_Int stacks_1)] : List AV) = [.sl false 1 (List.map AV.str names_1), .sl false 2 (List.map e_Arr2_Int stacks_1)]) (ac (rfl : ([] : List BoxSt) = []) (ac (R06_Check_ok F names_1 stacks_1 r_1 h_1 : TripleG prog 25 [] [] [.sl false 1 (List.map AV.str names_1), .sl false 2 (List.map e_Arr2_Int stacks_1)] [] (.int .i64 r_1)) an))) ?_
  refine aw_cond (t := 25) (b := (r_1 != (0 : Int))) (by kernel_rfl) (by kernel_rfl) ?_ ?_
  · intro g_1; replace h := cond_t g_1 h
    refine aw_seq (by kernel_rfl) ?_
    refine aw_region [] [6, 7, 8] [0] 1 (vals := [.ptr 0 0 0 0, .int .i64 (0 : Int), .int .i64 (1 : Int)]) (bxs := [.live (.var 28 [.int .i64 (0 : Int), .int .i64 (0 : Int), .str ([] : List Int), .int .i64 (0 : Int), .int .i64 (0 : Int), .nilsl])]) (by kernel_rfl) hmix an ?_
    refine aw_sub (sub_wkm [0] [] [.s 6, .s 7, .s 8] [.a 0 (.live (.var 28 (v_T_api_Event (⟨(0 : Int), (0 : Int), ([] : List Int), (0 : Int), (0 : Int), []⟩ : T_api_Event))))] (sl2 := [(6, .ptr 0 0 0 0), (7, .int .i64 (0 : Int)), (8, .int .i64 (1 : Int))]) (bx2 := [(0, .live (.var 28 (v_T_api_Event (⟨(0 : Int), (0 : Int), ([] : List Int), (0 : Int), (0 : Int), []⟩ : T_api_Event))))]) (by kernel_rfl) (ac (rfl : 28 = 28) (ac (rfl : ones [.int .i64 ((⟨(0 : Int), (0 : Int), ([] : List Int), (0 : Int), (0 : Int), []⟩ : T_api_Event).At), .int .i64 ((⟨(0 : Int), (0 : Int), ([] : List Int), (0 : Int), (0 : Int), []⟩ : T_api_Event).Kind), .str ((⟨(0 : Int), (0 : Int), ([] : List Int), (0 : Int), (0 : Int), []⟩ : T_api_Event).Name), .int .i64 ((⟨(0 : Int), (0 : Int), ([] : List Int), (0 : Int), (0 : Int), []⟩ : T_api_Event).N), .int .i64 ((⟨(0 : Int), (0 : Int), ([] : List Int), (0 : Int), (0 : Int), []⟩ : T_api_Event).M), .sl false 1 (List.map AV.str ((⟨(0 : Int), (0 : Int), ([] : List Int), (0 : Int), (0 : Int), []⟩ : T_api_Event).Stack))] = true) (ac (rfl : (.int .i64 (0 : Int) : AV) = .int .i64 ((⟨(0 : Int), (0 : Int), ([] : List Int), (0 : Int), (0 : Int), []⟩ : T_api_Event).At)) (ac (rfl : (.int .i64 (0 : Int) : AV) = .int .i64 ((⟨(0 : Int), (0 : Int), ([] : List Int), (0 : Int), (0 : Int), []⟩ : T_api_Event).Kind)) (ac (rfl : (.str ([] : List Int) : AV) = .str ((⟨(0 : Int), (0 : Int), ([] : List Int), (0 : Int), (0 : Int), []⟩ : T_api_Event).Name)) (ac (rfl : (.int .i64 (0 : Int) : AV) = .int .i64 ((⟨(0 : Int), (0 : Int), ([] : List Int), (0 : Int), (0 : Int), []⟩ : T_api_Event).N)) (ac (rfl : (.int .i64 (0 : Int) : AV) = .int .i64 ((⟨(0 : Int), (0 : Int), ([] : List Int), (0 : Int), (0 : Int), []⟩ : T_api_Event).M)) (ac (rfl : ((List.map AV.str ((⟨(0 : Int), (0 : Int), ([] : List Int), (0 : Int), (0 : Int), []⟩ : T_api_Event).Stack)) : List AV) = []) an))))))))) ?_
    refine aw_ret (by kernel_rfl) ?_
    replace h := Option.some.inj h; subst h
    exact ⟨.inr rfl, Nat.le_of_ble_eq_true rfl, by kernel_rfl⟩
  intro g_1; replace h := cond_f g_1 h
  refine aw_skip (by kernel_rfl) ?_
  refine aw_seq (by kernel_rfl) ?_
  obtain ⟨r_2, h_2, h⟩ := bind_some h
  refine aw_region [(1, { av := .tuple [.own 0 ((r_2.1).length), .int .i64 r_2.2.1, .int .i64 r_2.2.2], ids := [1], l := [.sl false 1 (List.map (AV.int .u8) b_1), .int .i64 (2 : Int)], post := [(.row 3 1 (List.map (AV.int .i64) r_2.1))] })] [0, 1, 2, 6, 9, 11] [0, 1] 2 (vals := [.sl false 1 (List.map AV.str names_1), .sl false 2 (List.map e_Arr2_Int stacks_1), .sl false 1 (List.map (AV.int .u8) b_1), .ptr 0 0 0 0, .own 1 ((r_2.1).length), .int .i64 r_2.2.2]) (bxs := [.live (.var 28 [.int .i64 (0 : Int), .int .i64 (0 : Int), .str ([] : List Int), .int .i64 (0 : Int), .int .i64 (0 : Int), .nilsl]), .live (.row 3 1 (List.map (AV.int .i64) r_2.1))]) (by kernel_rfl) hmix (ac (rfl : ([.sl false 1 (List.map (AV.int .u8) b_1), .int .i64 (2 : Int)] : List AV) = [.sl false 1 (List.map (AV.int .u8) b_1), .int .i64 (2 : Int)]) (ac (rfl : ([] : List BoxSt) = []) (ac (R08_ints_ok F b_1 (2 : Int) r_2 h_2 : TripleG prog 33 [] [] [.sl false 1 (List.map (AV.int .u8) b_1), .int .i64 (2 : Int)] [(.row 3 1 (List.map (AV.int .i64) r_2.1))] (.tuple [.own 0 ((r_2.1).length), .int .i64 r_2.2.1, .int .i64 r_2.2.2])) an))) ?_
  refine aw_seq (by kernel_rfl) ?_
  refine aw_seq (by kernel_rfl) ?_
  refine aw_region [] [0, 1, 2, 6, 9, 11, 34] [0, 1] 2 (vals := [.sl false 1 (List.map AV.str names_1), .sl false 2 (List.map e_Arr2_Int stacks_1), .sl false 1 (List.map (AV.int .u8) b_1), .ptr 0 0 0 0, .own 1 ((r_2.1).length), .int .i64 r_2.2.2, .bool (r_2.2.2 != (0 : Int))]) (bxs := [.live (.var 28 [.int .i64 (0 : Int), .int .i64 (0 : Int), .str ([] : List Int), .int .i64 (0 : Int), .int .i64 (0 : Int), .nilsl]), .live (.row 3 1 (List.map (AV.int .i64) r_2.1))]) (by kernel_rfl) hmix an ?_
  refine aw_cond (t := 34) (b := (r_2.2.2 != (0 : Int))) (by kernel_rfl) (by kernel_rfl) ?_ ?_
  · intro g_2; replace h := cond_t g_2 h
    refine aw_seq (by kernel_rfl) ?_
    refine aw_region [] [6, 7, 8] [0] 2 (vals := [.ptr 0 0 0 0, .int .i64 (0 : Int), .int .i64 r_2.2.2]) (bxs := [.live (.var 28 [.int .i64 (0 : Int), .int .i64 (0 : Int), .str ([] : List Int), .int .i64 (0 : Int), .int .i64 (0 : Int), .nilsl])]) (by kernel_rfl) hmix an ?_
    refine aw_sub (sub_wkm [0] [] [.s 6, .s 7, .s 8] [.a 0 (.live (.var 28 (v_T_api_Event (⟨(0 : Int), (0 : Int), ([] : List Int), (0 : Int), (0 : Int), []⟩ : T_api_Event))))] (sl2 := [(6, .ptr 0 0 0 0), (7, .int .i64 (0 : Int)), (8, .int .i64 r_2.2.2)]) (bx2 := [(0, .live (.var 28 (v_T_api_Event (⟨(0 : Int), (0 : Int), ([] : List Int), (0 : Int), (0 : Int), []⟩ : T_api_Event))))]) (by kernel_rfl) (ac (rfl : 28 = 28) (ac (rfl : ones [.int .i64 ((⟨(0 : Int), (0 : Int), ([] : List Int), (0 : Int), (0 : Int), []⟩ : T_api_Event).At), .int .i64 ((⟨(0 : Int), (0 : Int), ([] : List Int), (0 : Int), (0 : Int), []⟩ : T_api_Event).Kind), .str ((⟨(0 : Int), (0 : Int), ([] : List Int), (0 : Int), (0 : Int), []⟩ : T_api_Event).Name), .int .i64 ((⟨(0 : Int), (0 : Int), ([] : List Int), (0 : Int), (0 : Int), []⟩ : T_api_Event).N), .int .i64 ((⟨(0 : Int), (0 : Int), ([] : List Int), (0 : Int), (0 : Int), []⟩ : T_api_Event).M), .sl false 1 (List.map AV.str ((⟨(0 : Int), (0 : Int), ([] : List Int), (0 : Int), (0 : Int), []⟩ : T_api_Event).Stack))] = true) (ac (rfl : (.int .i64 (0 : Int) : AV) = .int .i64 ((⟨(0 : Int), (0 : Int), ([] : List Int), (0 : Int), (0 : Int), []⟩ : T_api_Event).At)) (ac (rfl : (.int .i64 (0 : Int) : AV) = .int .i64 ((⟨(0 : Int), (0 : Int), ([] : List Int), (0 : Int), (0 : Int), []⟩ : T_api_Event).Kind)) (ac (rfl : (.str ([] : List Int) : AV) = .str ((⟨(0 : Int), (0 : Int), ([] : List Int), (0 : Int), (0 : Int), []⟩ : T_api_Event).Name)) (ac (rfl : (.int .i64 (0 : Int) : AV) = .int .i64 ((⟨(0 : Int), (0 : Int), ([] : List Int), (0 : Int), (0 : Int), []⟩ : T_api_Event).N)) (ac (rfl : (.int .i64 (0 : Int) : AV) = .int .i64 ((⟨(0 : Int), (0 : Int), ([] : List Int), (0 : Int), (0 : Int), []⟩ : T_api_Event).M)) (ac (rfl : ((List.map AV.str ((⟨(0 : Int), (0 : Int), ([] : List Int), (0 : Int), (0 : Int), []⟩ : T_api_Event).Stack)) : List AV) = []) an))))))))) ?_
    refine aw_ret (by kernel_rfl) ?_
    replace h := Option.some.inj h; subst h
    exact ⟨.inr rfl, Nat.le_of_ble_eq_true rfl, by kernel_rfl⟩
  intro g_2; replace h := cond_f g_2 h
  refine aw_skip (by kernel_rfl) ?_
  refine aw_seq (by kernel_rfl) ?_
  refine aw_seq (by kernel_rfl) ?_
  obtain ⟨p_1, h_5, h⟩ := bind_some h
  refine aw_mid (mk [(0, .sl false 1 (List.map AV.str names_1)), (1, .sl false 2 (List.map e_Arr2_Int stacks_1)), (2, .sl false 1 (List.map (AV.int .u8) b_1)), (6, .ptr 0 0 0 0), (9, .own 1 ((r_2.1).length)), (46, .bool p_1)] [(0, .live (.var 28 [.int .i64 (0 : Int), .int .i64 (0 : Int), .str ([] : List Int), .int .i64 (0 : Int), .int .i64 (0 : Int), .nilsl])), (1, .live (.row 3 1 (List.map (AV.int .i64) r_2.1)))] 2) ?_ ?_
  · replace h := h_5
    obtain ⟨x_1, h_3, h⟩ := bind_some h
    rcases Bool.eq_false_or_eq_true (decide (x_1 < (1 : Int))) with gg_1 | gg_1
    · replace h := cond_t gg_1 h
      refine aw_region [(2, { av := .int .i64 x_1 }), (5, { g := false }), (6, { g := false }), (7, { g := false }), (8, { g := false }), (9, { b := true })] [0, 1, 2, 6, 9, 46] [0, 1] 2 (vals := [.sl false 1 (List.map AV.str names_1), .sl false 2 (List.map e_Arr2_Int stacks_1), .sl false 1 (List.map (AV.int .u8) b_1), .ptr 0 0 0 0, .own 1 ((r_2.1).length), .bool true]) (bxs := [.live (.var 28 [.int .i64 (0 : Int), .int .i64 (0 : Int), .str ([] : List Int), .int .i64 (0 : Int), .int .i64 (0 : Int), .nilsl]), .live (.row 3 1 (List.map (AV.int .i64) r_2.1))]) (by kernel_rfl) hmix (ac (idxL_lo h_3 : (0 : Int) ≤ (0 : Int)) (ac (by first | (simp; done) | simpa using idxL_hi h_3 : (0 : Int) < (((r_2.1).length : Nat) : Int)) (ac (vc_get h_3 : (List.map (AV.int .i64) r_2.1)[0]? = some (.int .i64 x_1)) (ac gg_1 (ac gg_1 (ac gg_1 (ac gg_1 (ac gg_1 an)))))))) ?_
      replace h := Option.some.inj h; subst h
      exact ⟨rfl, (sub_wkm [0, 1] [] [.s 0, .s 1, .s 2, .s 6, .s 9, .s 46] [.s 0, .s 1] (by kernel_rfl) an)⟩
    · replace h := cond_f gg_1 h
      obtain ⟨x_2, h_4, h⟩ := bind_some h
      refine aw_region [(2, { av := .int .i64 x_1 }), (7, { av := .int .i64 x_2 }), (9, { b := false })] [0, 1, 2, 6, 9, 46] [0, 1] 2 (vals := [.sl false 1 (List.map AV.str names_1), .sl false 2 (List.map e_Arr2_Int stacks_1), .sl false 1 (List.map (AV.int .u8) b_1), .ptr 0 0 0 0, .own 1 ((r_2.1).length), .bool (decide (x_2 > (12 : Int)))]) (bxs := [.live (.var 28 [.int .i64 (0 : Int), .int .i64 (0 : Int), .str ([] : List Int), .int .i64 (0 : Int), .int .i64 (0 : Int), .nilsl]), .live (.row 3 1 (List.map (AV.int .i64) r_2.1))]) (by kernel_rfl) hmix (ac (idxL_lo h_3 : (0 : Int) ≤ (0 : Int)) (ac (by first | (simp; done) | simpa using idxL_hi h_3 : (0 : Int) < (((r_2.1).length : Nat) : Int)) (ac (vc_get h_3 : (List.map (AV.int .i64) r_2.1)[0]? = some (.int .i64 x_1)) (ac gg_1 (ac gg_1 (ac (idxL_lo h_4 : (0 : Int) ≤ (0 : Int)) (ac (by first | (simp; done) | simpa using idxL_hi h_4 : (0 : Int) < (((r_2.1).length : Nat) : Int)) (ac gg_1 (ac (vc_get h_4 : (List.map (AV.int .i64) r_2.1)[0]? = some (.int .i64 x_2)) (ac gg_1 (ac gg_1 an))))))))))) ?_
      replace h := Option.some.inj h; subst h
      exact ⟨rfl, (sub_wkm [0, 1] [] [.s 0, .s 1, .s 2, .s 6, .s 9, .s 46] [.s 0, .s 1] (by kernel_rfl) an)⟩
  refine aw_cond (t := 46) (b := p_1) (by kernel_rfl) (by kernel_rfl) ?_ ?_
  · intro g_3; replace h := cond_t g_3 h
    refine aw_seq (by kernel_rfl) ?_
    refine aw_region [] [6, 7, 8] [0] 2 (vals := [.ptr 0 0 0 0, .int .i64 (0 : Int), .int .i64 (10 : Int)]) (bxs := [.live (.var 28 [.int .i64 (0 : Int), .int .i64 (0 : Int), .str ([] : List Int), .int .i64 (0 : Int), .int .i64 (0 : Int), .nilsl])]) (by kernel_rfl) hmix an ?_
    refine aw_sub (sub_wkm [0] [] [.s 6, .s 7, .s 8] [.a 0 (.live (.var 28 (v_T_api_Event (⟨(0 : Int), (0 : Int), ([] : List Int), (0 : Int), (0 : Int), []⟩ : T_api_Event))))] (sl2 := [(6, .ptr 0 0 0 0), (7, .int .i64 (0 : Int)), (8, .int .i64 (10 : Int))]) (bx2 := [(0, .live (.var 28 (v_T_api_Event (⟨(0 : Int), (0 : Int), ([] : List Int), (0 : Int), (0 : Int), []⟩ : T_api_Event))))]) (by kernel_rfl) (ac (rfl : 28 = 28) (ac (rfl : ones [.int .i64 ((⟨(0 : Int), (0 : Int), ([] : List Int), (0 : Int), (0 : Int), []⟩ : T_api_Event).At), .int .i64 ((⟨(0 : Int), (0 : Int), ([] : List Int), (0 : Int), (0 : Int), []⟩ : T_api_Event).Kind), .str ((⟨(0 : Int), (0 : Int), ([] : List Int), (0 : Int), (0 : Int), []⟩ : T_api_Event).Name), .int .i64 ((⟨(0 : Int), (0 : Int), ([] : List Int), (0 : Int), (0 : Int), []⟩ : T_api_Event).N), .int .i64 ((⟨(0 : Int), (0 : Int), ([] : List Int), (0 : Int), (0 : Int), []⟩ : T_api_Event).M), .sl false 1 (List.map AV.str ((⟨(0 : Int), (0 : Int), ([] : List Int), (0 : Int), (0 : Int), []⟩ : T_api_Event).Stack))] = true) (ac (rfl : (.int .i64 (0 : Int) : AV) = .int .i64 ((⟨(0 : Int), (0 : Int), ([] : List Int), (0 : Int), (0 : Int), []⟩ : T_api_Event).At)) (ac (rfl : (.int .i64 (0 : Int) : AV) = .int .i64 ((⟨(0 : Int), (0 : Int), ([] : List Int), (0 : Int), (0 : Int), []⟩ : T_api_Event).Kind)) (ac (rfl : (.str ([] : List Int) : AV) = .str ((⟨(0 : Int), (0 : Int), ([] : List Int), (0 : Int), (0 : Int), []⟩ : T_api_Event).Name)) (ac (rfl : (.int .i64 (0 : Int) : AV) = .int .i64 ((⟨(0 : Int), (0 : Int), ([] : List Int), (0 : Int), (0 : Int), []⟩ : T_api_Event).N)) (ac (rfl : (.int .i64 (0 : Int) : AV) = .int .i64 ((⟨(0 : Int), (0 : Int), ([] : List Int), (0 : Int), (0 : Int), []⟩ : T_api_Event).M)) (ac (rfl : ((List.map AV.str ((⟨(0 : Int), (0 : Int), ([] : List Int), (0 : Int), (0 : Int), []⟩ : T_api_Event).Stack)) : List AV) = []) an))))))))) ?_
    refine aw_ret (by kernel_rfl) ?_
    replace h := Option.some.inj h; subst h
    exact ⟨.inr rfl, Nat.le_of_ble_eq_true rfl, by kernel_rfl⟩
  intro g_3; replace h := cond_f g_3 h
  refine aw_skip (by kernel_rfl) ?_
  refine aw_seq (by kernel_rfl) ?_
  obtain ⟨x_3, h_6, h⟩ := bind_some h
  obtain ⟨r_3, h_7, h⟩ := bind_some h
  refine aw_region [(2, { av := .int .i64 x_3 }), (3, { av := .tuple [.bool r_3.1, .bool r_3.2.1, .bool r_3.2.2.1, .bool r_3.2.2.2], l := [.int .i64 x_3] })] [0, 1, 2, 6, 12, 13, 14, 15] [0] 2 (vals := [.sl false 1 (List.map AV.str names_1), .sl false 2 (List.map e_Arr2_Int stacks_1), .sl false 1 (List.map (AV.int .u8) b_1), .ptr 0 0 0 0, .bool r_3.1, .bool r_3.2.1, .bool r_3.2.2.1, .bool r_3.2.2.2]) (bxs := [.live (.var 28 [.int .i64 (0 : Int), .int .i64 (0 : Int), .str ([] : List Int), .int .i64 (0 : Int), .int .i64 (0 : Int), .nilsl])]) (by kernel_rfl) hmix (ac (idxL_lo h_6 : (0 : Int) ≤ (0 : Int)) (ac (by first | (simp; done) | simpa using idxL_hi h_6 : (0 : Int) < (((r_2.1).length : Nat) : Int)) (ac (vc_get h_6 : (List.map (AV.int .i64) r_2.1)[0]? = some (.int .i64 x_3)) (ac (rfl : ([.int .i64 x_3] : List AV) = [.int .i64 x_3]) (ac (rfl : ([] : List BoxSt) = []) (ac (R08_Uses_ok x_3 r_3 h_7 : TripleG prog 27 [] [] [.int .i64 x_3] [] (.tuple [.bool r_3.1, .bool r_3.2.1, .bool r_3.2.2.1, .bool r_3.2.2.2])) an)))))) ?_
  refine aw_seq (by kernel_rfl) ?_
  obtain ⟨r_4, h_8, h⟩ := bind_some h
  obtain ⟨r_5, h_9, h⟩ := bind_some h
  obtain ⟨r_6, h_10, h⟩ := bind_some h
  obtain ⟨r_7, h_11, h⟩ := bind_some h
  obtain ⟨r_8, h_12, h⟩ := bind_some h
  refine aw_region [(2, { av := .int .i64 r_4, l := [.bool r_3.1] }), (5, { av := .int .i64 r_5, l := [.bool r_3.2.1] }), (8, { av := .int .i64 r_6, l := [.bool r_3.2.2.1] }), (11, { av := .int .i64 r_7, l := [.bool r_3.2.2.2] }), (13, { av := .tuple [.own 0 ((r_8.1).length), .int .i64 r_8.2.1, .int .i64 r_8.2.2], ids := [2], l := [.sl false 1 (List.map (AV.int .u8) b_1), .int .i64 (w_i64 ((w_i64 ((w_i64 ((w_i64 ((2 : Int) + r_4)) + r_5)) + r_6)) + r_7))], post := [(.row 3 1 (List.map (AV.int .i64) r_8.1))] })] [0, 1, 6, 11, 12, 13, 14, 15, 16, 17] [0, 2] 3 (vals := [.sl false 1 (List.map AV.str names_1), .sl false 2 (List.map e_Arr2_Int stacks_1), .ptr 0 0 0 0, .int .i64 r_8.2.2, .bool r_3.1, .bool r_3.2.1, .bool r_3.2.2.1, .bool r_3.2.2.2, .own 2 ((r_8.1).length), .int .i64 r_8.2.1]) (bxs := [.live (.var 28 [.int .i64 (0 : Int), .int .i64 (0 : Int), .str ([] : List Int), .int .i64 (0 : Int), .int .i64 (0 : Int), .nilsl]), .live (.row 3 1 (List.map (AV.int .i64) r_8.1))]) (by kernel_rfl) hmix (ac (rfl : ([.bool r_3.1] : List AV) = [.bool r_3.1]) (ac (rfl : ([] : List BoxSt) = []) (ac (R08_one_ok r_3.1 r_4 h_8 : TripleG prog 34 [] [] [.bool r_3.1] [] (.int .i64 r_4)) (ac (rfl : ([.bool r_3.2.1] : List AV) = [.bool r_3.2.1]) (ac (rfl : ([] : List BoxSt) = []) (ac (R08_one_ok r_3.2.1 r_5 h_9 : TripleG prog 34 [] [] [.bool r_3.2.1] [] (.int .i64 r_5)) (ac (rfl : ([.bool r_3.2.2.1] : List AV) = [.bool r_3.2.2.1]) (ac (rfl : ([] : List BoxSt) = []) (ac (R08_one_ok r_3.2.2.1 r_6 h_10 : TripleG prog 34 [] [] [.bool r_3.2.2.1] [] (.int .i64 r_6)) (ac (rfl : ([.bool r_3.2.2.2] : List AV) = [.bool r_3.2.2.2]) (ac (rfl : ([] : List BoxSt) = []) (ac (R08_one_ok r_3.2.2.2 r_7 h_11 : TripleG prog 34 [] [] [.bool r_3.2.2.2] [] (.int .i64 r_7)) (ac (rfl : ([.sl false 1 (List.map (AV.int .u8) b_1), .int .i64 (w_i64 ((w_i64 ((w_i64 ((w_i64 ((2 : Int) + r_4)) + r_5)) + r_6)) + r_7))] : List AV) = [.sl false 1 (List.map (AV.int .u8) b_1), .int .i64 (w_i64 ((w_i64 ((w_i64 ((w_i64 ((2 : Int) + r_4)) + r_5)) + r_6)) + r_7))]) (ac (rfl : ([] : List BoxSt) = []) (ac (R08_ints_ok F b_1 (w_i64 ((w_i64 ((w_i64 ((w_i64 ((2 : Int) + r_4)) + r_5)) + r_6)) + r_7)) r_8 h_12 : TripleG prog 33 [] [] [.sl false 1 (List.map (AV.int .u8) b_1), .int .i64 (w_i64 ((w_i64 ((w_i64 ((w_i64 ((2 : Int) + r_4)) + r_5)) + r_6)) + r_7))] [(.row 3 1 (List.map (AV.int .i64) r_8.1))] (.tuple [.own 0 ((r_8.1).length), .int .i64 r_8.2.1, .int .i64 r_8.2.2])) an))))))))))))))) ?_
  refine aw_seq (by kernel_rfl) ?_
  refine aw_seq (by kernel_rfl) ?_
  refine aw_region [] [0, 1, 6, 11, 12, 13, 14, 15, 16, 17, 76] [0, 2] 3 (vals := [.sl false 1 (List.map AV.str names_1), .sl false 2 (List.map e_Arr2_Int stacks_1), .ptr 0 0 0 0, .int .i64 r_8.2.2, .bool r_3.1, .bool r_3.2.1, .bool r_3.2.2.1, .bool r_3.2.2.2, .own 2 ((r_8.1).length), .int .i64 r_8.2.1, .bool (r_8.2.2 != (0 : Int))]) (bxs := [.live (.var 28 [.int .i64 (0 : Int), .int .i64 (0 : Int), .str ([] : List Int), .int .i64 (0 : Int), .int .i64 (0 : Int), .nilsl]), .live (.row 3 1 (List.map (AV.int .i64) r_8.1))]) (by kernel_rfl) hmix an ?_
  refine aw_cond (t := 76) (b := (r_8.2.2 != (0 : Int))) (by kernel_rfl) (by kernel_rfl) ?_ ?_
  · intro g_4; replace h := cond_t g_4 h
    refine aw_seq (by kernel_rfl) ?_
    refine aw_region [] [6, 7, 8] [0] 3 (vals := [.ptr 0 0 0 0, .int .i64 (0 : Int), .int .i64 r_8.2.2]) (bxs := [.live (.var 28 [.int .i64 (0 : Int), .int .i64 (0 : Int), .str ([] : List Int), .int .i64 (0 : Int), .int .i64 (0 : Int), .nilsl])]) (by kernel_rfl) hmix an ?_
    refine aw_sub (sub_wkm [0] [] [.s 6, .s 7, .s 8] [.a 0 (.live (.var 28 (v_T_api_Event (⟨(0 : Int), (0 : Int), ([] : List Int), (0 : Int), (0 : Int), []⟩ : T_api_Event))))] (sl2 := [(6, .ptr 0 0 0 0), (7, .int .i64 (0 : Int)), (8, .int .i64 r_8.2.2)]) (bx2 := [(0, .live (.var 28 (v_T_api_Event (⟨(0 : Int), (0 : Int), ([] : List Int), (0 : Int), (0 : Int), []⟩ : T_api_Event))))]) (by kernel_rfl) (ac (rfl : 28 = 28) (ac (rfl : ones [.int .i64 ((⟨(0 : Int), (0 : Int), ([] : List Int), (0 : Int), (0 : Int), []⟩ : T_api_Event).At), .int .i64 ((⟨(0 : Int), (0 : Int), ([] : List Int), (0 : Int), (0 : Int), []⟩ : T_api_Event).Kind), .str ((⟨(0 : Int), (0 : Int), ([] : List Int), (0 : Int), (0 : Int), []⟩ : T_api_Event).Name), .int .i64 ((⟨(0 : Int), (0 : Int), ([] : List Int), (0 : Int), (0 : Int), []⟩ : T_api_Event).N), .int .i64 ((⟨(0 : Int), (0 : Int), ([] : List Int), (0 : Int), (0 : Int), []⟩ : T_api_Event).M), .sl false 1 (List.map AV.str ((⟨(0 : Int), (0 : Int), ([] : List Int), (0 : Int), (0 : Int), []⟩ : T_api_Event).Stack))] = true) (ac (rfl : (.int .i64 (0 : Int) : AV) = .int .i64 ((⟨(0 : Int), (0 : Int), ([] : List Int), (0 : Int), (0 : Int), []⟩ : T_api_Event).At)) (ac (rfl : (.int .i64 (0 : Int) : AV) = .int .i64 ((⟨(0 : Int), (0 : Int), ([] : List Int), (0 : Int), (0 : Int), []⟩ : T_api_Event).Kind)) (ac (rfl : (.str ([] : List Int) : AV) = .str ((⟨(0 : Int), (0 : Int), ([] : List Int), (0 : Int), (0 : Int), []⟩ : T_api_Event).Name)) (ac (rfl : (.int .i64 (0 : Int) : AV) = .int .i64 ((⟨(0 : Int), (0 : Int), ([] : List Int), (0 : Int), (0 : Int), []⟩ : T_api_Event).N)) (ac (rfl : (.int .i64 (0 : Int) : AV) = .int .i64 ((⟨(0 : Int), (0 : Int), ([] : List Int), (0 : Int), (0 : Int), []⟩ : T_api_Event).M)) (ac (rfl : ((List.map AV.str ((⟨(0 : Int), (0 : Int), ([] : List Int), (0 : Int), (0 : Int), []⟩ : T_api_Event).Stack)) : List AV) = []) an))))))))) ?_
    refine aw_ret (by kernel_rfl) ?_
    replace h := Option.some.inj h; subst h
    exact ⟨.inr rfl, Nat.le_of_ble_eq_true rfl, by kernel_rfl⟩
  intro g_4; replace h := cond_f g_4 h
  refine aw_skip (by kernel_rfl) ?_
  refine aw_seq (by kernel_rfl) ?_
  obtain ⟨x_4, h_13, h⟩ := bind_some h
  obtain ⟨x_5, h_14, h⟩ := bind_some h
  refine aw_region [(2, { av := .int .i64 x_4 }), (5, { av := .int .i64 x_5 }), (7, { id := 3 })] [0, 1, 6, 12, 13, 14, 15, 16, 17, 18] [0, 2, 3] 4 (vals := [.sl false 1 (List.map AV.str names_1), .sl false 2 (List.map e_Arr2_Int stacks_1), .ptr 0 0 0 0, .bool r_3.1, .bool r_3.2.1, .bool r_3.2.2.1, .bool r_3.2.2.2, .own 2 ((r_8.1).length), .int .i64 r_8.2.1, .ptr 3 0 0 0]) (bxs := [.live (.var 28 [.int .i64 (0 : Int), .int .i64 (0 : Int), .str ([] : List Int), .int .i64 (0 : Int), .int .i64 (0 : Int), .nilsl]), .live (.row 3 1 (List.map (AV.int .i64) r_8.1)), .live (.var 28 [.int .i64 x_5, .int .i64 x_4, .str ([] : List Int), .int .i64 (0 : Int), .int .i64 (0 : Int), .nilsl])]) (by kernel_rfl) hmix (ac (idxL_lo h_13 : (0 : Int) ≤ (0 : Int)) (ac (by first | (simp; done) | simpa using idxL_hi h_13 : (0 : Int) < (((r_8.1).length : Nat) : Int)) (ac (vc_get h_13 : (List.map (AV.int .i64) r_8.1)[0]? = some (.int .i64 x_4)) (ac (idxL_lo h_14 : (0 : Int) ≤ (1 : Int)) (ac (by first | (simp; done) | simpa using idxL_hi h_14 : (1 : Int) < (((r_8.1).length : Nat) : Int)) (ac (vc_get h_14 : (List.map (AV.int .i64) r_8.1)[1]? = some (.int .i64 x_5)) an)))))) ?_
  refine aw_seq (by kernel_rfl) ?_
  refine aw_region [] [0, 1, 6, 12, 13, 14, 15, 16, 17, 18, 19] [0, 2, 3] 4 (vals := [.sl false 1 (List.map AV.str names_1), .sl false 2 (List.map e_Arr2_Int stacks_1), .ptr 0 0 0 0, .bool r_3.1, .bool r_3.2.1, .bool r_3.2.2.1, .bool r_3.2.2.2, .own 2 ((r_8.1).length), .int .i64 r_8.2.1, .ptr 3 0 0 0, .int .i64 (2 : Int)]) (bxs := [.live (.var 28 [.int .i64 (0 : Int), .int .i64 (0 : Int), .str ([] : List Int), .int .i64 (0 : Int), .int .i64 (0 : Int), .nilsl]), .live (.row 3 1 (List.map (AV.int .i64) r_8.1)), .live (.var 28 [.int .i64 x_5, .int .i64 x_4, .str ([] : List Int), .int .i64 (0 : Int), .int .i64 (0 : Int), .nilsl])]) (by kernel_rfl) hmix an ?_
  refine aw_seq (by kernel_rfl) ?_
  refine aw_seq (by kernel_rfl) ?_
  refine aw_region [] [0, 1, 6, 13, 14, 15, 16, 17, 18, 19, 86] [0, 2, 3] 4 (vals := [.sl false 1 (List.map AV.str names_1), .sl false 2 (List.map e_Arr2_Int stacks_1), .ptr 0 0 0 0, .bool r_3.2.1, .bool r_3.2.2.1, .bool r_3.2.2.2, .own 2 ((r_8.1).length), .int .i64 r_8.2.1, .ptr 3 0 0 0, .int .i64 (2 : Int), .bool r_3.1]) (bxs := [.live (.var 28 [.int .i64 (0 : Int), .int .i64 (0 : Int), .str ([] : List Int), .int .i64 (0 : Int), .int .i64 (0 : Int), .nilsl]), .live (.row 3 1 (List.map (AV.int .i64) r_8.1)), .live (.var 28 [.int .i64 x_5, .int .i64 x_4, .str ([] : List Int), .int .i64 (0 : Int), .int .i64 (0 : Int), .nilsl])]) (by kernel_rfl) hmix an ?_
  obtain ⟨o_1, h_15, h⟩ := bind_some h
  refine aw_conv (K1 := (fun e st' => match o_1 with | (.inl q0) => e = .normal ∧ Sub 0 st' (mk [(0, .sl false 1 (List.map AV.str names_1)), (1, .sl false 2 (List.map e_Arr2_Int stacks_1)), (6, .ptr 0 0 0 0), (13, .bool r_3.2.1), (14, .bool r_3.2.2.1), (15, .bool r_3.2.2.2), (16, .own 1 ((r_8.1).length)), (17, .int .i64 r_8.2.1), (18, .ptr 2 0 0 0), (19, .int .i64 q0.1)] [(0, .live (.var 28 [.int .i64 (0 : Int), .int .i64 (0 : Int), .str ([] : List Int), .int .i64 (0 : Int), .int .i64 (0 : Int), .nilsl])), (1, .live (.row 3 1 (List.map (AV.int .i64) r_8.1))), (2, .live (.var 28 [.int .i64 x_5, .int .i64 x_4, .str q0.2, .int .i64 (0 : Int), .int .i64 (0 : Int), .nilsl]))] 3) | (.inr q1) => e = .ret ∧ FinR prog Go.Proofs.Try.f16 0 [] (.tuple [e_T_api_Event q1.1, .int .i64 q1.2.1, .int .i64 q1.2.2]) st')) ?_ ?_
  · replace h := h_15
    refine aw_cond (t := 86) (b := r_3.1) (by kernel_rfl) (by kernel_rfl) ?_ ?_
    rotate_left
    · intro g_5; replace h := cond_f g_5 h
      refine aw_skip (by kernel_rfl) ?_
      replace h := Option.some.inj h; subst h
      exact ⟨rfl, (sub_wkm [0, 2, 3] [] [.s 0, .s 1, .s 6, .s 13, .s 14, .s 15, .s 16, .s 17, .s 18, .s 19] [.s 0, .s 1, .s 2] (by kernel_rfl) an)⟩
    intro g_5; replace h := cond_t g_5 h
    refine aw_seq (by kernel_rfl) ?_
    refine aw_seq (by kernel_rfl) ?_
    obtain ⟨p_2, h_18, h⟩ := bind_some h
    refine aw_mid (mk [(0, .sl false 1 (List.map AV.str names_1)), (1, .sl false 2 (List.map e_Arr2_Int stacks_1)), (6, .ptr 0 0 0 0), (13, .bool r_3.2.1), (14, .bool r_3.2.2.1), (15, .bool r_3.2.2.2), (16, .own 1 ((r_8.1).length)), (17, .int .i64 r_8.2.1), (18, .ptr 2 0 0 0), (19, .int .i64 (2 : Int)), (100, .bool p_2)] [(0, .live (.var 28 [.int .i64 (0 : Int), .int .i64 (0 : Int), .str ([] : List Int), .int .i64 (0 : Int), .int .i64 (0 : Int), .nilsl])), (1, .live (.row 3 1 (List.map (AV.int .i64) r_8.1))), (2, .live (.var 28 [.int .i64 x_5, .int .i64 x_4, .str ([] : List Int), .int .i64 (0 : Int), .int .i64 (0 : Int), .nilsl]))] 3) ?_ ?_
    · replace h := h_18
      obtain ⟨x_6, h_16, h⟩ := bind_some h
      rcases Bool.eq_false_or_eq_true (decide (x_6 < (0 : Int))) with gg_3 | gg_3
      · replace h := cond_t gg_3 h
        refine aw_region [(3, { av := .int .i64 x_6 }), (6, { g := false }), (7, { g := false }), (8, { g := false }), (9, { g := false }), (10, { g := false }), (11, { g := false }), (12, { g := false }), (13, { b := true })] [0, 1, 6, 13, 14, 15, 16, 17, 18, 19, 100] [0, 2, 3] 4 (vals := [.sl false 1 (List.map AV.str names_1), .sl false 2 (List.map e_Arr2_Int stacks_1), .ptr 0 0 0 0, .bool r_3.2.1, .bool r_3.2.2.1, .bool r_3.2.2.2, .own 2 ((r_8.1).length), .int .i64 r_8.2.1, .ptr 3 0 0 0, .int .i64 (2 : Int), .bool true]) (bxs := [.live (.var 28 [.int .i64 (0 : Int), .int .i64 (0 : Int), .str ([] : List Int), .int .i64 (0 : Int), .int .i64 (0 : Int), .nilsl]), .live (.row 3 1 (List.map (AV.int .i64) r_8.1)), .live (.var 28 [.int .i64 x_5, .int .i64 x_4, .str ([] : List Int), .int .i64 (0 : Int), .int .i64 (0 : Int), .nilsl])]) (by kernel_rfl) hmix (ac (idxL_lo h_16 : (0 : Int) ≤ (2 : Int)) (ac (by first | (simp; done) | simpa using idxL_hi h_16 : (2 : Int) < (((r_8.1).length : Nat) : Int)) (ac (vc_get h_16 : (List.map (AV.int .i64) r_8.1)[2]? = some (.int .i64 x_6)) (ac gg_3 (ac gg_3 (ac gg_3 (ac gg_3 (ac gg_3 (ac gg_3 (ac gg_3 (ac gg_3 an))))))))))) ?_
        replace h := Option.some.inj h; subst h
        exact ⟨rfl, (sub_wkm [0, 2, 3] [] [.s 0, .s 1, .s 6, .s 13, .s 14, .s 15, .s 16, .s 17, .s 18, .s 19, .s 100] [.s 0, .s 1, .s 2] (by kernel_rfl) an)⟩
      · replace h := cond_f gg_3 h
        obtain ⟨x_7, h_17, h⟩ := bind_some h
        refine aw_region [(3, { av := .int .i64 x_6 }), (9, { av := .int .i64 x_7 }), (11, { n := (names_1).length }), (13, { b := false })] [0, 1, 6, 13, 14, 15, 16, 17, 18, 19, 100] [0, 2, 3] 4 (vals := [.sl false 1 (List.map AV.str names_1), .sl false 2 (List.map e_Arr2_Int stacks_1), .ptr 0 0 0 0, .bool r_3.2.1, .bool r_3.2.2.1, .bool r_3.2.2.2, .own 2 ((r_8.1).length), .int .i64 r_8.2.1, .ptr 3 0 0 0, .int .i64 (2 : Int), .bool (decide (x_7 ≥ (((names_1).length : Nat) : Int)))]) (bxs := [.live (.var 28 [.int .i64 (0 : Int), .int .i64 (0 : Int), .str ([] : List Int), .int .i64 (0 : Int), .int .i64 (0 : Int), .nilsl]), .live (.row 3 1 (List.map (AV.int .i64) r_8.1)), .live (.var 28 [.int .i64 x_5, .int .i64 x_4, .str ([] : List Int), .int .i64 (0 : Int), .int .i64 (0 : Int), .nilsl])]) (by kernel_rfl) hmix (ac (idxL_lo h_16 : (0 : Int) ≤ (2 : Int)) (ac (by first | (simp; done) | simpa using idxL_hi h_16 : (2 : Int) < (((r_8.1).length : Nat) : Int)) (ac (vc_get h_16 : (List.map (AV.int .i64) r_8.1)[2]? = some (.int .i64 x_6)) (ac gg_3 (ac gg_3 (ac gg_3 (ac (idxL_lo h_17 : (0 : Int) ≤ (2 : Int)) (ac (by first | (simp; done) | simpa using idxL_hi h_17 : (2 : Int) < (((r_8.1).length : Nat) : Int)) (ac gg_3 (ac (vc_get h_17 : (List.map (AV.int .i64) r_8.1)[2]? = some (.int .i64 x_7)) (ac gg_3 (ac gg_3 (ac (vc_len _ : ((List.map AV.str names_1)).length = (names_1).length) (ac gg_3 (ac gg_3 an))))))))))))))) ?_
        replace h := Option.some.inj h; subst h
        exact ⟨rfl, (sub_wkm [0, 2, 3] [] [.s 0, .s 1, .s 6, .s 13, .s 14, .s 15, .s 16, .s 17, .s 18, .s 19, .s 100] [.s 0, .s 1, .s 2] (by kernel_rfl) an)⟩
    refine aw_cond (t := 100) (b := p_2) (by kernel_rfl) (by kernel_rfl) ?_ ?_
    · intro g_6; replace h := cond_t g_6 h
      refine aw_seq (by kernel_rfl) ?_
      refine aw_region [] [6, 7, 8] [0] 3 (vals := [.ptr 0 0 0 0, .int .i64 (0 : Int), .int .i64 (2 : Int)]) (bxs := [.live (.var 28 [.int .i64 (0 : Int), .int .i64 (0 : Int), .str ([] : List Int), .int .i64 (0 : Int), .int .i64 (0 : Int), .nilsl])]) (by kernel_rfl) hmix an ?_
      refine aw_sub (sub_wkm [0] [] [.s 6, .s 7, .s 8] [.a 0 (.live (.var 28 (v_T_api_Event (⟨(0 : Int), (0 : Int), ([] : List Int), (0 : Int), (0 : Int), []⟩ : T_api_Event))))] (sl2 := [(6, .ptr 0 0 0 0), (7, .int .i64 (0 : Int)), (8, .int .i64 (2 : Int))]) (bx2 := [(0, .live (.var 28 (v_T_api_Event (⟨(0 : Int), (0 : Int), ([] : List Int), (0 : Int), (0 : Int), []⟩ : T_api_Event))))]) (by kernel_rfl) (ac (rfl : 28 = 28) (ac (rfl : ones [.int .i64 ((⟨(0 : Int), (0 : Int), ([] : List Int), (0 : Int), (0 : Int), []⟩ : T_api_Event).At), .int .i64 ((⟨(0 : Int), (0 : Int), ([] : List Int), (0 : Int), (0 : Int), []⟩ : T_api_Event).Kind), .str ((⟨(0 : Int), (0 : Int), ([] : List Int), (0 : Int), (0 : Int), []⟩ : T_api_Event).Name), .int .i64 ((⟨(0 : Int), (0 : Int), ([] : List Int), (0 : Int), (0 : Int), []⟩ : T_api_Event).N), .int .i64 ((⟨(0 : Int), (0 : Int), ([] : List Int), (0 : Int), (0 : Int), []⟩ : T_api_Event).M), .sl false 1 (List.map AV.str ((⟨(0 : Int), (0 : Int), ([] : List Int), (0 : Int), (0 : Int), []⟩ : T_api_Event).Stack))] = true) (ac (rfl : (.int .i64 (0 : Int) : AV) = .int .i64 ((⟨(0 : Int), (0 : Int), ([] : List Int), (0 : Int), (0 : Int), []⟩ : T_api_Event).At)) (ac (rfl : (.int .i64 (0 : Int) : AV) = .int .i64 ((⟨(0 : Int), (0 : Int), ([] : List Int), (0 : Int), (0 : Int), []⟩ : T_api_Event).Kind)) (ac (rfl : (.str ([] : List Int) : AV) = .str ((⟨(0 : Int), (0 : Int), ([] : List Int), (0 : Int), (0 : Int), []⟩ : T_api_Event).Name)) (ac (rfl : (.int .i64 (0 : Int) : AV) = .int .i64 ((⟨(0 : Int), (0 : Int), ([] : List Int), (0 : Int), (0 : Int), []⟩ : T_api_Event).N)) (ac (rfl : (.int .i64 (0 : Int) : AV) = .int .i64 ((⟨(0 : Int), (0 : Int), ([] : List Int), (0 : Int), (0 : Int), []⟩ : T_api_Event).M)) (ac (rfl : ((List.map AV.str ((⟨(0 : Int), (0 : Int), ([] : List Int), (0 : Int), (0 : Int), []⟩ : T_api_Event).Stack)) : List AV) = []) an))))))))) ?_
      refine aw_ret (by kernel_rfl) ?_
      replace h := Option.some.inj h; subst h
      exact ⟨rfl, Nat.le_of_ble_eq_true rfl, by kernel_rfl⟩
    intro g_6; replace h := cond_f g_6 h
    refine aw_skip (by kernel_rfl) ?_
    refine aw_seq (by kernel_rfl) ?_
    obtain ⟨x_8, h_19, h⟩ := bind_some h
    obtain ⟨x_9, h_20, h⟩ := bind_some h
    refine aw_region [(4, { av := .int .i64 x_8 }), (5, { av := .str x_9 })] [0, 1, 6, 13, 14, 15, 16, 17, 18, 19] [0, 1, 2] 3 (vals := [.sl false 1 (List.map AV.str names_1), .sl false 2 (List.map e_Arr2_Int stacks_1), .ptr 0 0 0 0, .bool r_3.2.1, .bool r_3.2.2.1, .bool r_3.2.2.2, .own 1 ((r_8.1).length), .int .i64 r_8.2.1, .ptr 2 0 0 0, .int .i64 (2 : Int)]) (bxs := [.live (.var 28 [.int .i64 (0 : Int), .int .i64 (0 : Int), .str ([] : List Int), .int .i64 (0 : Int), .int .i64 (0 : Int), .nilsl]), .live (.row 3 1 (List.map (AV.int .i64) r_8.1)), .live (.var 28 [.int .i64 x_5, .int .i64 x_4, .str x_9, .int .i64 (0 : Int), .int .i64 (0 : Int), .nilsl])]) (by kernel_rfl) hmix (ac (idxL_lo h_19 : (0 : Int) ≤ (2 : Int)) (ac (by first | (simp; done) | simpa using idxL_hi h_19 : (2 : Int) < (((r_8.1).length : Nat) : Int)) (ac (vc_get h_19 : (List.map (AV.int .i64) r_8.1)[2]? = some (.int .i64 x_8)) (ac (vc_idx h_20 : idxA (List.map AV.str names_1) x_8 = some (.str x_9)) an)))) ?_
    refine aw_region [] [0, 1, 6, 13, 14, 15, 16, 17, 18, 19] [0, 1, 2] 3 (vals := [.sl false 1 (List.map AV.str names_1), .sl false 2 (List.map e_Arr2_Int stacks_1), .ptr 0 0 0 0, .bool r_3.2.1, .bool r_3.2.2.1, .bool r_3.2.2.2, .own 1 ((r_8.1).length), .int .i64 r_8.2.1, .ptr 2 0 0 0, .int .i64 (w_i64 ((2 : Int) + (1 : Int)))]) (bxs := [.live (.var 28 [.int .i64 (0 : Int), .int .i64 (0 : Int), .str ([] : List Int), .int .i64 (0 : Int), .int .i64 (0 : Int), .nilsl]), .live (.row 3 1 (List.map (AV.int .i64) r_8.1)), .live (.var 28 [.int .i64 x_5, .int .i64 x_4, .str x_9, .int .i64 (0 : Int), .int .i64 (0 : Int), .nilsl])]) (by kernel_rfl) hmix an ?_
    replace h := Option.some.inj h; subst h
    exact ⟨rfl, (sub_wkm [0, 1, 2] [] [.s 0, .s 1, .s 6, .s 13, .s 14, .s 15, .s 16, .s 17, .s 18, .s 19] [.s 0, .s 1, .s 2] (by kernel_rfl) an)⟩
  intro e st1 hk
  rcases o_1 with q_1 | q_2
  rotate_left
  · obtain ⟨rfl, hf⟩ := hk
    replace h := Option.some.inj h; subst h
    exact ⟨st1, Sub.refl _ _, .inr rfl, hf⟩
  obtain ⟨rfl, hs⟩ := hk
  refine ⟨_, hs, ?_⟩
  refine aw_seq (by kernel_rfl) ?_
  refine aw_seq (by kernel_rfl) ?_
  refine aw_region [] [0, 1, 6, 14, 15, 16, 17, 18, 19, 112] [0, 1, 2] 3 (vals := [.sl false 1 (List.map AV.str names_1), .sl false 2 (List.map e_Arr2_Int stacks_1), .ptr 0 0 0 0, .bool r_3.2.2.1, .bool r_3.2.2.2, .own 1 ((r_8.1).length), .int .i64 r_8.2.1, .ptr 2 0 0 0, .int .i64 q_1.1, .bool r_3.2.1]) (bxs := [.live (.var 28 [.int .i64 (0 : Int), .int .i64 (0 : Int), .str ([] : List Int), .int .i64 (0 : Int), .int .i64 (0 : Int), .nilsl]), .live (.row 3 1 (List.map (AV.int .i64) r_8.1)), .live (.var 28 [.int .i64 x_5, .int .i64 x_4, .str q_1.2, .int .i64 (0 : Int), .int .i64 (0 : Int), .nilsl])]) (by kernel_rfl) hmix an ?_
  obtain ⟨o_2, h_21, h⟩ := bind_some h
  refine aw_mid (mk [(0, .sl false 1 (List.map AV.str names_1)), (1, .sl false 2 (List.map e_Arr2_Int stacks_1)), (6, .ptr 0 0 0 0), (14, .bool r_3.2.2.1), (15, .bool r_3.2.2.2), (16, .own 1 ((r_8.1).length)), (17, .int .i64 r_8.2.1), (18, .ptr 2 0 0 0), (19, .int .i64 o_2.1)] [(0, .live (.var 28 [.int .i64 (0 : Int), .int .i64 (0 : Int), .str ([] : List Int), .int .i64 (0 : Int), .int .i64 (0 : Int), .nilsl])), (1, .live (.row 3 1 (List.map (AV.int .i64) r_8.1))), (2, .live (.var 28 [.int .i64 x_5, .int .i64 x_4, .str q_1.2, .int .i64 o_2.2, .int .i64 (0 : Int), .nilsl]))] 3) ?_ ?_
  · replace h := h_21
    refine aw_cond (t := 112) (b := r_3.2.1) (by kernel_rfl) (by kernel_rfl) ?_ ?_
    rotate_left
    · intro g_7; replace h := cond_f g_7 h
      refine aw_skip (by kernel_rfl) ?_
      replace h := Option.some.inj h; subst h
      exact ⟨rfl, (sub_wkm [0, 1, 2] [] [.s 0, .s 1, .s 6, .s 14, .s 15, .s 16, .s 17, .s 18, .s 19] [.s 0, .s 1, .s 2] (by kernel_rfl) an)⟩
    intro g_7; replace h := cond_t g_7 h
    refine aw_seq (by kernel_rfl) ?_
    obtain ⟨x_10, h_22, h⟩ := bind_some h
    refine aw_region [(3, { av := .int .i64 x_10 })] [0, 1, 6, 14, 15, 16, 17, 18, 19] [0, 1, 2] 3 (vals := [.sl false 1 (List.map AV.str names_1), .sl false 2 (List.map e_Arr2_Int stacks_1), .ptr 0 0 0 0, .bool r_3.2.2.1, .bool r_3.2.2.2, .own 1 ((r_8.1).length), .int .i64 r_8.2.1, .ptr 2 0 0 0, .int .i64 q_1.1]) (bxs := [.live (.var 28 [.int .i64 (0 : Int), .int .i64 (0 : Int), .str ([] : List Int), .int .i64 (0 : Int), .int .i64 (0 : Int), .nilsl]), .live (.row 3 1 (List.map (AV.int .i64) r_8.1)), .live (.var 28 [.int .i64 x_5, .int .i64 x_4, .str q_1.2, .int .i64 x_10, .int .i64 (0 : Int), .nilsl])]) (by kernel_rfl) hmix (ac (idxL_lo h_22 : (0 : Int) ≤ q_1.1) (ac (by first | (simp; done) | simpa using idxL_hi h_22 : q_1.1 < (((r_8.1).length : Nat) : Int)) (ac (vc_get h_22 : (List.map (AV.int .i64) r_8.1)[(q_1.1).toNat]? = some (.int .i64 x_10)) an))) ?_
    refine aw_region [] [0, 1, 6, 14, 15, 16, 17, 18, 19] [0, 1, 2] 3 (vals := [.sl false 1 (List.map AV.str names_1), .sl false 2 (List.map e_Arr2_Int stacks_1), .ptr 0 0 0 0, .bool r_3.2.2.1, .bool r_3.2.2.2, .own 1 ((r_8.1).length), .int .i64 r_8.2.1, .ptr 2 0 0 0, .int .i64 (w_i64 (q_1.1 + (1 : Int)))]) (bxs := [.live (.var 28 [.int .i64 (0 : Int), .int .i64 (0 : Int), .str ([] : List Int), .int .i64 (0 : Int), .int .i64 (0 : Int), .nilsl]), .live (.row 3 1 (List.map (AV.int .i64) r_8.1)), .live (.var 28 [.int .i64 x_5, .int .i64 x_4, .str q_1.2, .int .i64 x_10, .int .i64 (0 : Int), .nilsl])]) (by kernel_rfl) hmix an ?_
    replace h := Option.some.inj h; subst h
    exact ⟨rfl, (sub_wkm [0, 1, 2] [] [.s 0, .s 1, .s 6, .s 14, .s 15, .s 16, .s 17, .s 18, .s 19] [.s 0, .s 1, .s 2] (by kernel_rfl) an)⟩
  refine aw_seq (by kernel_rfl) ?_
  refine aw_seq (by kernel_rfl) ?_
  refine aw_region [] [0, 1, 6, 15, 16, 17, 18, 19, 120] [0, 1, 2] 3 (vals := [.sl false 1 (List.map AV.str names_1), .sl false 2 (List.map e_Arr2_Int stacks_1), .ptr 0 0 0 0, .bool r_3.2.2.2, .own 1 ((r_8.1).length), .int .i64 r_8.2.1, .ptr 2 0 0 0, .int .i64 o_2.1, .bool r_3.2.2.1]) (bxs := [.live (.var 28 [.int .i64 (0 : Int), .int .i64 (0 : Int), .str ([] : List Int), .int .i64 (0 : Int), .int .i64 (0 : Int), .nilsl]), .live (.row 3 1 (List.map (AV.int .i64) r_8.1)), .live (.var 28 [.int .i64 x_5, .int .i64 x_4, .str q_1.2, .int .i64 o_2.2, .int .i64 (0 : Int), .nilsl])]) (by kernel_rfl) hmix an ?_
  obtain ⟨o_3, h_23, h⟩ := bind_some h
  refine aw_mid (mk [(0, .sl false 1 (List.map AV.str names_1)), (1, .sl false 2 (List.map e_Arr2_Int stacks_1)), (6, .ptr 0 0 0 0), (15, .bool r_3.2.2.2), (16, .own 1 ((r_8.1).length)), (17, .int .i64 r_8.2.1), (18, .ptr 2 0 0 0), (19, .int .i64 o_3.1)] [(0, .live (.var 28 [.int .i64 (0 : Int), .int .i64 (0 : Int), .str ([] : List Int), .int .i64 (0 : Int), .int .i64 (0 : Int), .nilsl])), (1, .live (.row 3 1 (List.map (AV.int .i64) r_8.1))), (2, .live (.var 28 [.int .i64 x_5, .int .i64 x_4, .str q_1.2, .int .i64 o_2.2, .int .i64 o_3.2, .nilsl]))] 3) ?_ ?_
  · replace h := h_23
    refine aw_cond (t := 120) (b := r_3.2.2.1) (by kernel_rfl) (by kernel_rfl) ?_ ?_
    rotate_left
    · intro g_8; replace h := cond_f g_8 h
      refine aw_skip (by kernel_rfl) ?_
      replace h := Option.some.inj h; subst h
      exact ⟨rfl, (sub_wkm [0, 1, 2] [] [.s 0, .s 1, .s 6, .s 15, .s 16, .s 17, .s 18, .s 19] [.s 0, .s 1, .s 2] (by kernel_rfl) an)⟩
    intro g_8; replace h := cond_t g_8 h
    refine aw_seq (by kernel_rfl) ?_
    obtain ⟨x_11, h_24, h⟩ := bind_some h
    refine aw_region [(3, { av := .int .i64 x_11 })] [0, 1, 6, 15, 16, 17, 18, 19] [0, 1, 2] 3 (vals := [.sl false 1 (List.map AV.str names_1), .sl false 2 (List.map e_Arr2_Int stacks_1), .ptr 0 0 0 0, .bool r_3.2.2.2, .own 1 ((r_8.1).length), .int .i64 r_8.2.1, .ptr 2 0 0 0, .int .i64 o_2.1]) (bxs := [.live (.var 28 [.int .i64 (0 : Int), .int .i64 (0 : Int), .str ([] : List Int), .int .i64 (0 : Int), .int .i64 (0 : Int), .nilsl]), .live (.row 3 1 (List.map (AV.int .i64) r_8.1)), .live (.var 28 [.int .i64 x_5, .int .i64 x_4, .str q_1.2, .int .i64 o_2.2, .int .i64 x_11, .nilsl])]) (by kernel_rfl) hmix (ac (idxL_lo h_24 : (0 : Int) ≤ o_2.1) (ac (by first | (simp; done) | simpa using idxL_hi h_24 : o_2.1 < (((r_8.1).length : Nat) : Int)) (ac (vc_get h_24 : (List.map (AV.int .i64) r_8.1)[(o_2.1).toNat]? = some (.int .i64 x_11)) an))) ?_
    refine aw_region [] [0, 1, 6, 15, 16, 17, 18, 19] [0, 1, 2] 3 (vals := [.sl false 1 (List.map AV.str names_1), .sl false 2 (List.map e_Arr2_Int stacks_1), .ptr 0 0 0 0, .bool r_3.2.2.2, .own 1 ((r_8.1).length), .int .i64 r_8.2.1, .ptr 2 0 0 0, .int .i64 (w_i64 (o_2.1 + (1 : Int)))]) (bxs := [.live (.var 28 [.int .i64 (0 : Int), .int .i64 (0 : Int), .str ([] : List Int), .int .i64 (0 : Int), .int .i64 (0 : Int), .nilsl]), .live (.row 3 1 (List.map (AV.int .i64) r_8.1)), .live (.var 28 [.int .i64 x_5, .int .i64 x_4, .str q_1.2, .int .i64 o_2.2, .int .i64 x_11, .nilsl])]) (by kernel_rfl) hmix an ?_
    replace h := Option.some.inj h; subst h
    exact ⟨rfl, (sub_wkm [0, 1, 2] [] [.s 0, .s 1, .s 6, .s 15, .s 16, .s 17, .s 18, .s 19] [.s 0, .s 1, .s 2] (by kernel_rfl) an)⟩
  refine aw_seq (by kernel_rfl) ?_
  refine aw_seq (by kernel_rfl) ?_
  refine aw_region [] [0, 1, 6, 16, 17, 18, 19, 128] [0, 1, 2] 3 (vals := [.sl false 1 (List.map AV.str names_1), .sl false 2 (List.map e_Arr2_Int stacks_1), .ptr 0 0 0 0, .own 1 ((r_8.1).length), .int .i64 r_8.2.1, .ptr 2 0 0 0, .int .i64 o_3.1, .bool r_3.2.2.2]) (bxs := [.live (.var 28 [.int .i64 (0 : Int), .int .i64 (0 : Int), .str ([] : List Int), .int .i64 (0 : Int), .int .i64 (0 : Int), .nilsl]), .live (.row 3 1 (List.map (AV.int .i64) r_8.1)), .live (.var 28 [.int .i64 x_5, .int .i64 x_4, .str q_1.2, .int .i64 o_2.2, .int .i64 o_3.2, .nilsl])]) (by kernel_rfl) hmix an ?_
  obtain ⟨o_4, h_25, h⟩ := bind_some h
  refine aw_conv (K1 := (fun e st' => match o_4 with | (.inl q0) => e = .normal ∧ Sub 0 st' (mk [(6, .ptr 0 0 0 0), (17, .int .i64 r_8.2.1), (18, .ptr 1 0 0 0)] [(0, .live (.var 28 [.int .i64 (0 : Int), .int .i64 (0 : Int), .str ([] : List Int), .int .i64 (0 : Int), .int .i64 (0 : Int), .nilsl])), (1, .live (.var 28 [.int .i64 x_5, .int .i64 x_4, .str q_1.2, .int .i64 o_2.2, .int .i64 o_3.2, .sl false 1 (List.map AV.str q0)]))] 2) | (.inr q1) => e = .ret ∧ FinR prog Go.Proofs.Try.f16 0 [] (.tuple [e_T_api_Event q1.1, .int .i64 q1.2.1, .int .i64 q1.2.2]) st')) ?_ ?_
  · replace h := h_25
    refine aw_cond (t := 128) (b := r_3.2.2.2) (by kernel_rfl) (by kernel_rfl) ?_ ?_
    rotate_left
    · intro g_9; replace h := cond_f g_9 h
      refine aw_skip (by kernel_rfl) ?_
      replace h := Option.some.inj h; subst h
      exact ⟨rfl, (sub_wkm [0, 2] [] [.s 6, .s 17, .s 18] [.s 0, .a 1 (.live (.var 28 [.int .i64 x_5, .int .i64 x_4, .str q_1.2, .int .i64 o_2.2, .int .i64 o_3.2, .sl false 1 []]))] (by kernel_rfl) (ac (rfl : 28 = 28) (ac (rfl : ones [.int .i64 x_5, .int .i64 x_4, .str q_1.2, .int .i64 o_2.2, .int .i64 o_3.2, .sl false 1 []] = true) (ac (rfl : (.int .i64 x_5 : AV) = .int .i64 x_5) (ac (rfl : (.int .i64 x_4 : AV) = .int .i64 x_4) (ac (rfl : (.str q_1.2 : AV) = .str q_1.2) (ac (rfl : (.int .i64 o_2.2 : AV) = .int .i64 o_2.2) (ac (rfl : (.int .i64 o_3.2 : AV) = .int .i64 o_3.2) (ac (rfl : ([] : List AV) = []) an)))))))))⟩
    intro g_9; replace h := cond_t g_9 h
    refine aw_seq (by kernel_rfl) ?_
    obtain ⟨x_12, h_26, h⟩ := bind_some h
    obtain ⟨r_9, h_27, h⟩ := bind_some h
    refine aw_region [(5, { av := .int .i64 x_12 }), (6, { av := .tuple [.sl false 1 (List.map AV.str r_9.1), .int .i64 r_9.2], l := [.sl false 1 (List.map AV.str names_1), .sl false 2 (List.map e_Arr2_Int stacks_1), .int .i64 x_12] })] [6, 17, 18, 20, 21] [0, 2] 3 (vals := [.ptr 0 0 0 0, .int .i64 r_8.2.1, .ptr 2 0 0 0, .sl false 1 (List.map AV.str r_9.1), .int .i64 r_9.2]) (bxs := [.live (.var 28 [.int .i64 (0 : Int), .int .i64 (0 : Int), .str ([] : List Int), .int .i64 (0 : Int), .int .i64 (0 : Int), .nilsl]), .live (.var 28 [.int .i64 x_5, .int .i64 x_4, .str q_1.2, .int .i64 o_2.2, .int .i64 o_3.2, .nilsl])]) (by kernel_rfl) hmix (ac (idxL_lo h_26 : (0 : Int) ≤ o_3.1) (ac (by first | (simp; done) | simpa using idxL_hi h_26 : o_3.1 < (((r_8.1).length : Nat) : Int)) (ac (vc_get h_26 : (List.map (AV.int .i64) r_8.1)[(o_3.1).toNat]? = some (.int .i64 x_12)) (ac (rfl : ([.sl false 1 (List.map AV.str names_1), .sl false 2 (List.map e_Arr2_Int stacks_1), .int .i64 x_12] : List AV) = [.sl false 1 (List.map AV.str names_1), .sl false 2 (List.map e_Arr2_Int stacks_1), .int .i64 x_12]) (ac (rfl : ([] : List BoxSt) = []) (ac (R06_Stack_ok F names_1 stacks_1 x_12 r_9 h_27 : TripleG prog 35 [] [] [.sl false 1 (List.map AV.str names_1), .sl false 2 (List.map e_Arr2_Int stacks_1), .int .i64 x_12] [] (.tuple [.sl false 1 (List.map AV.str r_9.1), .int .i64 r_9.2])) an)))))) ?_
    refine aw_seq (by kernel_rfl) ?_
    refine aw_seq (by kernel_rfl) ?_
    refine aw_region [] [6, 17, 18, 20, 140] [0, 2] 3 (vals := [.ptr 0 0 0 0, .int .i64 r_8.2.1, .ptr 2 0 0 0, .sl false 1 (List.map AV.str r_9.1), .bool (r_9.2 != (0 : Int))]) (bxs := [.live (.var 28 [.int .i64 (0 : Int), .int .i64 (0 : Int), .str ([] : List Int), .int .i64 (0 : Int), .int .i64 (0 : Int), .nilsl]), .live (.var 28 [.int .i64 x_5, .int .i64 x_4, .str q_1.2, .int .i64 o_2.2, .int .i64 o_3.2, .nilsl])]) (by kernel_rfl) hmix an ?_
    refine aw_cond (t := 140) (b := (r_9.2 != (0 : Int))) (by kernel_rfl) (by kernel_rfl) ?_ ?_
    rotate_left
    · intro g_10; replace h := cond_f g_10 h
      refine aw_skip (by kernel_rfl) ?_
      refine aw_region [] [6, 17, 18] [0, 2] 3 (vals := [.ptr 0 0 0 0, .int .i64 r_8.2.1, .ptr 2 0 0 0]) (bxs := [.live (.var 28 [.int .i64 (0 : Int), .int .i64 (0 : Int), .str ([] : List Int), .int .i64 (0 : Int), .int .i64 (0 : Int), .nilsl]), .live (.var 28 [.int .i64 x_5, .int .i64 x_4, .str q_1.2, .int .i64 o_2.2, .int .i64 o_3.2, .sl false 1 (List.map AV.str r_9.1)])]) (by kernel_rfl) hmix an ?_
      replace h := Option.some.inj h; subst h
      exact ⟨rfl, (sub_wkm [0, 2] [] [.s 6, .s 17, .s 18] [.s 0, .s 1] (by kernel_rfl) an)⟩
    intro g_10; replace h := cond_t g_10 h
    refine aw_seq (by kernel_rfl) ?_
    refine aw_region [] [6, 7, 8] [0] 3 (vals := [.ptr 0 0 0 0, .int .i64 (0 : Int), .int .i64 (2 : Int)]) (bxs := [.live (.var 28 [.int .i64 (0 : Int), .int .i64 (0 : Int), .str ([] : List Int), .int .i64 (0 : Int), .int .i64 (0 : Int), .nilsl])]) (by kernel_rfl) hmix an ?_
    refine aw_sub (sub_wkm [0] [] [.s 6, .s 7, .s 8] [.a 0 (.live (.var 28 (v_T_api_Event (⟨(0 : Int), (0 : Int), ([] : List Int), (0 : Int), (0 : Int), []⟩ : T_api_Event))))] (sl2 := [(6, .ptr 0 0 0 0), (7, .int .i64 (0 : Int)), (8, .int .i64 (2 : Int))]) (bx2 := [(0, .live (.var 28 (v_T_api_Event (⟨(0 : Int), (0 : Int), ([] : List Int), (0 : Int), (0 : Int), []⟩ : T_api_Event))))]) (by kernel_rfl) (ac (rfl : 28 = 28) (ac (rfl : ones [.int .i64 ((⟨(0 : Int), (0 : Int), ([] : List Int), (0 : Int), (0 : Int), []⟩ : T_api_Event).At), .int .i64 ((⟨(0 : Int), (0 : Int), ([] : List Int), (0 : Int), (0 : Int), []⟩ : T_api_Event).Kind), .str ((⟨(0 : Int), (0 : Int), ([] : List Int), (0 : Int), (0 : Int), []⟩ : T_api_Event).Name), .int .i64 ((⟨(0 : Int), (0 : Int), ([] : List Int), (0 : Int), (0 : Int), []⟩ : T_api_Event).N), .int .i64 ((⟨(0 : Int), (0 : Int), ([] : List Int), (0 : Int), (0 : Int), []⟩ : T_api_Event).M), .sl false 1 (List.map AV.str ((⟨(0 : Int), (0 : Int), ([] : List Int), (0 : Int), (0 : Int), []⟩ : T_api_Event).Stack))] = true) (ac (rfl : (.int .i64 (0 : Int) : AV) = .int .i64 ((⟨(0 : Int), (0 : Int), ([] : List Int), (0 : Int), (0 : Int), []⟩ : T_api_Event).At)) (ac (rfl : (.int .i64 (0 : Int) : AV) = .int .i64 ((⟨(0 : Int), (0 : Int), ([] : List Int), (0 : Int), (0 : Int), []⟩ : T_api_Event).Kind)) (ac (rfl : (.str ([] : List Int) : AV) = .str ((⟨(0 : Int), (0 : Int), ([] : List Int), (0 : Int), (0 : Int), []⟩ : T_api_Event).Name)) (ac (rfl : (.int .i64 (0 : Int) : AV) = .int .i64 ((⟨(0 : Int), (0 : Int), ([] : List Int), (0 : Int), (0 : Int), []⟩ : T_api_Event).N)) (ac (rfl : (.int .i64 (0 : Int) : AV) = .int .i64 ((⟨(0 : Int), (0 : Int), ([] : List Int), (0 : Int), (0 : Int), []⟩ : T_api_Event).M)) (ac (rfl : ((List.map AV.str ((⟨(0 : Int), (0 : Int), ([] : List Int), (0 : Int), (0 : Int), []⟩ : T_api_Event).Stack)) : List AV) = []) an))))))))) ?_
    refine aw_ret (by kernel_rfl) ?_
    replace h := Option.some.inj h; subst h
    exact ⟨rfl, Nat.le_of_ble_eq_true rfl, by kernel_rfl⟩
  intro e st1 hk
  rcases o_4 with q_3 | q_4
  rotate_left
  · obtain ⟨rfl, hf⟩ := hk
    replace h := Option.some.inj h; subst h
    exact ⟨st1, Sub.refl _ _, .inr rfl, hf⟩
  obtain ⟨rfl, hs⟩ := hk
  refine ⟨_, hs, ?_⟩
  refine aw_seq (by kernel_rfl) ?_
  refine aw_seq (by kernel_rfl) ?_
  obtain ⟨r_10, h_28, h⟩ := bind_some h
  refine aw_region [(1, { av := .int .i64 r_10, l := [.agg [.int .i64 x_5, .int .i64 x_4, .str q_1.2, .int .i64 o_2.2, .int .i64 o_3.2, .sl false 1 (List.map AV.str q_3)]] })] [6, 17, 18, 146] [0, 1] 2 (vals := [.ptr 0 0 0 0, .int .i64 r_8.2.1, .ptr 1 0 0 0, .bool (r_10 != (0 : Int))]) (bxs := [.live (.var 28 [.int .i64 (0 : Int), .int .i64 (0 : Int), .str ([] : List Int), .int .i64 (0 : Int), .int .i64 (0 : Int), .nilsl]), .live (.var 28 [.int .i64 x_5, .int .i64 x_4, .str q_1.2, .int .i64 o_2.2, .int .i64 o_3.2, .sl false 1 (List.map AV.str q_3)])]) (by kernel_rfl) hmix (ac (rfl : ([.agg [.int .i64 x_5, .int .i64 x_4, .str q_1.2, .int .i64 o_2.2, .int .i64 o_3.2, .sl false 1 (List.map AV.str q_3)]] : List AV) = [.agg [.int .i64 x_5, .int .i64 x_4, .str q_1.2, .int .i64 o_2.2, .int .i64 o_3.2, .sl false 1 (List.map AV.str q_3)]]) (ac (rfl : ([] : List BoxSt) = []) (ac (triple_lo (args' := [e_T_api_Event (⟨x_5, x_4, q_1.2, o_2.2, o_3.2, q_3⟩ : T_api_Event)]) (R07_Check_ok F (⟨x_5, x_4, q_1.2, o_2.2, o_3.2, q_3⟩ : T_api_Event) r_10 h_28) rfl ⟨rfl, rfl, rfl, rfl, rfl, rfl, rfl, rfl, trivial⟩ : TripleG prog 26 [] [] [.agg [.int .i64 x_5, .int .i64 x_4, .str q_1.2, .int .i64 o_2.2, .int .i64 o_3.2, .sl false 1 (List.map AV.str q_3)]] [] (.int .i64 r_10)) an))) ?_
  refine aw_cond (t := 146) (b := (r_10 != (0 : Int))) (by kernel_rfl) (by kernel_rfl) ?_ ?_
  · intro g_11; replace h := cond_t g_11 h
    refine aw_seq (by kernel_rfl) ?_
    refine aw_region [] [6, 7, 8] [0] 2 (vals := [.ptr 0 0 0 0, .int .i64 (0 : Int), .int .i64 (10 : Int)]) (bxs := [.live (.var 28 [.int .i64 (0 : Int), .int .i64 (0 : Int), .str ([] : List Int), .int .i64 (0 : Int), .int .i64 (0 : Int), .nilsl])]) (by kernel_rfl) hmix an ?_
    refine aw_sub (sub_wkm [0] [] [.s 6, .s 7, .s 8] [.a 0 (.live (.var 28 (v_T_api_Event (⟨(0 : Int), (0 : Int), ([] : List Int), (0 : Int), (0 : Int), []⟩ : T_api_Event))))] (sl2 := [(6, .ptr 0 0 0 0), (7, .int .i64 (0 : Int)), (8, .int .i64 (10 : Int))]) (bx2 := [(0, .live (.var 28 (v_T_api_Event (⟨(0 : Int), (0 : Int), ([] : List Int), (0 : Int), (0 : Int), []⟩ : T_api_Event))))]) (by kernel_rfl) (ac (rfl : 28 = 28) (ac (rfl : ones [.int .i64 ((⟨(0 : Int), (0 : Int), ([] : List Int), (0 : Int), (0 : Int), []⟩ : T_api_Event).At), .int .i64 ((⟨(0 : Int), (0 : Int), ([] : List Int), (0 : Int), (0 : Int), []⟩ : T_api_Event).Kind), .str ((⟨(0 : Int), (0 : Int), ([] : List Int), (0 : Int), (0 : Int), []⟩ : T_api_Event).Name), .int .i64 ((⟨(0 : Int), (0 : Int), ([] : List Int), (0 : Int), (0 : Int), []⟩ : T_api_Event).N), .int .i64 ((⟨(0 : Int), (0 : Int), ([] : List Int), (0 : Int), (0 : Int), []⟩ : T_api_Event).M), .sl false 1 (List.map AV.str ((⟨(0 : Int), (0 : Int), ([] : List Int), (0 : Int), (0 : Int), []⟩ : T_api_Event).Stack))] = true) (ac (rfl : (.int .i64 (0 : Int) : AV) = .int .i64 ((⟨(0 : Int), (0 : Int), ([] : List Int), (0 : Int), (0 : Int), []⟩ : T_api_Event).At)) (ac (rfl : (.int .i64 (0 : Int) : AV) = .int .i64 ((⟨(0 : Int), (0 : Int), ([] : List Int), (0 : Int), (0 : Int), []⟩ : T_api_Event).Kind)) (ac (rfl : (.str ([] : List Int) : AV) = .str ((⟨(0 : Int), (0 : Int), ([] : List Int), (0 : Int), (0 : Int), []⟩ : T_api_Event).Name)) (ac (rfl : (.int .i64 (0 : Int) : AV) = .int .i64 ((⟨(0 : Int), (0 : Int), ([] : List Int), (0 : Int), (0 : Int), []⟩ : T_api_Event).N)) (ac (rfl : (.int .i64 (0 : Int) : AV) = .int .i64 ((⟨(0 : Int), (0 : Int), ([] : List Int), (0 : Int), (0 : Int), []⟩ : T_api_Event).M)) (ac (rfl : ((List.map AV.str ((⟨(0 : Int), (0 : Int), ([] : List Int), (0 : Int), (0 : Int), []⟩ : T_api_Event).Stack)) : List AV) = []) an))))))))) ?_
    refine aw_ret (by kernel_rfl) ?_
    replace h := Option.some.inj h; subst h
    exact ⟨.inr rfl, Nat.le_of_ble_eq_true rfl, by kernel_rfl⟩
  intro g_11; replace h := cond_f g_11 h
  refine aw_skip (by kernel_rfl) ?_
  refine aw_seq (by kernel_rfl) ?_
  refine aw_region [] [6, 7, 8] [0] 2 (vals := [.ptr 0 0 0 0, .int .i64 r_8.2.1, .int .i64 (0 : Int)]) (bxs := [.live (.var 28 [.int .i64 x_5, .int .i64 x_4, .str q_1.2, .int .i64 o_2.2, .int .i64 o_3.2, .sl false 1 (List.map AV.str q_3)])]) (by kernel_rfl) hmix an ?_
  refine aw_sub (sub_wkm [0] [] [.s 6, .s 7, .s 8] [.a 0 (.live (.var 28 (v_T_api_Event (⟨x_5, x_4, q_1.2, o_2.2, o_3.2, q_3⟩ : T_api_Event))))] (sl2 := [(6, .ptr 0 0 0 0), (7, .int .i64 r_8.2.1), (8, .int .i64 (0 : Int))]) (bx2 := [(0, .live (.var 28 (v_T_api_Event (⟨x_5, x_4, q_1.2, o_2.2, o_3.2, q_3⟩ : T_api_Event))))]) (by kernel_rfl) (ac (rfl : 28 = 28) (ac (rfl : ones [.int .i64 ((⟨x_5, x_4, q_1.2, o_2.2, o_3.2, q_3⟩ : T_api_Event).At), .int .i64 ((⟨x_5, x_4, q_1.2, o_2.2, o_3.2, q_3⟩ : T_api_Event).Kind), .str ((⟨x_5, x_4, q_1.2, o_2.2, o_3.2, q_3⟩ : T_api_Event).Name), .int .i64 ((⟨x_5, x_4, q_1.2, o_2.2, o_3.2, q_3⟩ : T_api_Event).N), .int .i64 ((⟨x_5, x_4, q_1.2, o_2.2, o_3.2, q_3⟩ : T_api_Event).M), .sl false 1 (List.map AV.str ((⟨x_5, x_4, q_1.2, o_2.2, o_3.2, q_3⟩ : T_api_Event).Stack))] = true) (ac (rfl : (.int .i64 x_5 : AV) = .int .i64 ((⟨x_5, x_4, q_1.2, o_2.2, o_3.2, q_3⟩ : T_api_Event).At)) (ac (rfl : (.int .i64 x_4 : AV) = .int .i64 ((⟨x_5, x_4, q_1.2, o_2.2, o_3.2, q_3⟩ : T_api_Event).Kind)) (ac (rfl : (.str q_1.2 : AV) = .str ((⟨x_5, x_4, q_1.2, o_2.2, o_3.2, q_3⟩ : T_api_Event).Name)) (ac (rfl : (.int .i64 o_2.2 : AV) = .int .i64 ((⟨x_5, x_4, q_1.2, o_2.2, o_3.2, q_3⟩ : T_api_Event).N)) (ac (rfl : (.int .i64 o_3.2 : AV) = .int .i64 ((⟨x_5, x_4, q_1.2, o_2.2, o_3.2, q_3⟩ : T_api_Event).M)) (ac (rfl : 1 = 1) (ac (rfl : ((List.map AV.str q_3) : List AV) = (List.map AV.str ((⟨x_5, x_4, q_1.2, o_2.2, o_3.2, q_3⟩ : T_api_Event).Stack))) (ac (rfl : (!false || false) = true) an))))))))))) ?_
  refine aw_ret (by kernel_rfl) ?_
  replace h := Option.some.inj h; subst h
  exact ⟨.inr rfl, Nat.le_of_ble_eq_true rfl, by kernel_rfl⟩

end Go.Ab
