/- Printed: the typed Lean functions of the Go functions, or the proofs that the Go functions meet them. No conditions but those that the theorems name. -/
import Derived.Test.YtollmoogggcmaaaP08x2
namespace Go.Ab
open Go
set_option linter.unusedVariables false
theorem R07_Check_ok (F : Nat) (e_1 : T_api_Event) (r : Int) (h : R07_Check F e_1 = some r) : TripleG prog 26 [] [] [e_T_api_Event e_1] [] (.int .i64 r) := by
  refine triple_intro (fn := Go.Proofs.Try.f26) (code := codeOf Go.Proofs.Try.f26) (by kernel_rfl) (by kernel_rfl) (Nat.le_of_ble_eq_true (by kernel_rfl)) ?_
  unfold R07_Check at h
  refine aw_seq (by kernel_rfl) ?_
  refine aw_region [(0, { id := 0 })] [1] [0] 1 (vals := [.ptr 0 0 0 0]) (bxs := [.live (.var 28 (v_T_api_Event e_1))]) (by kernel_rfl) hmix an ?_
  refine aw_seq (by kernel_rfl) ?_
  refine aw_seq (by kernel_rfl) ?_
  refine aw_mid (mk [(1, .ptr 0 0 0 0), (15, .bool (decide (e_1.At < (0 : Int)) || decide (e_1.At > (1000000000000 : Int))))] [(0, .live (.var 28 (v_T_api_Event e_1)))] 1) ?_ ?_
  · rcases Bool.eq_false_or_eq_true (decide (e_1.At < (0 : Int))) with gg_1 | gg_1
    · refine aw_region [(4, { g := false }), (5, { g := false }), (6, { g := false }), (7, { b := true })] [1, 15] [0] 1 (vals := [.ptr 0 0 0 0, .bool true]) (bxs := [.live (.var 28 (v_T_api_Event e_1))]) (by kernel_rfl) hmix (ac gg_1 (ac gg_1 (ac gg_1 (ac gg_1 an)))) ?_
      exact ⟨rfl, (sub_wkm [0] [] [.s 1, .a 15 (.bool (decide (e_1.At < (0 : Int)) || decide (e_1.At > (1000000000000 : Int))))] [.s 0] (by kernel_rfl) (ac (congrArg AV.bool (ort gg_1) : (.bool true : AV) = .bool (decide (e_1.At < (0 : Int)) || decide (e_1.At > (1000000000000 : Int)))) an))⟩
    · refine aw_region [(7, { b := false })] [1, 15] [0] 1 (vals := [.ptr 0 0 0 0, .bool (decide (e_1.At > (1000000000000 : Int)))]) (bxs := [.live (.var 28 (v_T_api_Event e_1))]) (by kernel_rfl) hmix (ac gg_1 (ac gg_1 (ac gg_1 (ac gg_1 an)))) ?_
      exact ⟨rfl, (sub_wkm [0] [] [.s 1, .a 15 (.bool (decide (e_1.At < (0 : Int)) || decide (e_1.At > (1000000000000 : Int))))] [.s 0] (by kernel_rfl) (ac (congrArg AV.bool (orf gg_1 rfl) : (.bool (decide (e_1.At > (1000000000000 : Int))) : AV) = .bool (decide (e_1.At < (0 : Int)) || decide (e_1.At > (1000000000000 : Int)))) an))⟩
  refine aw_cond (t := 15) (b := (decide (e_1.At < (0 : Int)) || decide (e_1.At > (1000000000000 : Int)))) (by kernel_rfl) (by kernel_rfl) ?_ ?_
  · intro g_1; replace h := cond_t g_1 h
    refine aw_seq (by kernel_rfl) ?_
    refine aw_region [] [2] [] 1 (vals := [.int .i64 (2 : Int)]) (bxs := []) (by kernel_rfl) hmix an ?_
    refine aw_ret (by kernel_rfl) ?_
    replace h := Option.some.inj h; subst h
    exact ⟨.inr rfl, Nat.le_of_ble_eq_true rfl, by kernel_rfl⟩
  intro g_1; replace h := cond_f g_1 h
  refine aw_skip (by kernel_rfl) ?_
  refine aw_seq (by kernel_rfl) ?_
  refine aw_seq (by kernel_rfl) ?_
  refine aw_mid (mk [(1, .ptr 0 0 0 0), (23, .bool (decide (e_1.Kind < (1 : Int)) || decide (e_1.Kind > (12 : Int))))] [(0, .live (.var 28 (v_T_api_Event e_1)))] 1) ?_ ?_
  · rcases Bool.eq_false_or_eq_true (decide (e_1.Kind < (1 : Int))) with gg_2 | gg_2
    · refine aw_region [(4, { g := false }), (5, { g := false }), (6, { g := false }), (7, { b := true })] [1, 23] [0] 1 (vals := [.ptr 0 0 0 0, .bool true]) (bxs := [.live (.var 28 (v_T_api_Event e_1))]) (by kernel_rfl) hmix (ac gg_2 (ac gg_2 (ac gg_2 (ac gg_2 an)))) ?_
      exact ⟨rfl, (sub_wkm [0] [] [.s 1, .a 23 (.bool (decide (e_1.Kind < (1 : Int)) || decide (e_1.Kind > (12 : Int))))] [.s 0] (by kernel_rfl) (ac (congrArg AV.bool (ort gg_2) : (.bool true : AV) = .bool (decide (e_1.Kind < (1 : Int)) || decide (e_1.Kind > (12 : Int)))) an))⟩
    · refine aw_region [(7, { b := false })] [1, 23] [0] 1 (vals := [.ptr 0 0 0 0, .bool (decide (e_1.Kind > (12 : Int)))]) (bxs := [.live (.var 28 (v_T_api_Event e_1))]) (by kernel_rfl) hmix (ac gg_2 (ac gg_2 (ac gg_2 (ac gg_2 an)))) ?_
      exact ⟨rfl, (sub_wkm [0] [] [.s 1, .a 23 (.bool (decide (e_1.Kind < (1 : Int)) || decide (e_1.Kind > (12 : Int))))] [.s 0] (by kernel_rfl) (ac (congrArg AV.bool (orf gg_2 rfl) : (.bool (decide (e_1.Kind > (12 : Int))) : AV) = .bool (decide (e_1.Kind < (1 : Int)) || decide (e_1.Kind > (12 : Int)))) an))⟩
  refine aw_cond (t := 23) (b := (decide (e_1.Kind < (1 : Int)) || decide (e_1.Kind > (12 : Int)))) (by kernel_rfl) (by kernel_rfl) ?_ ?_
  · intro g_2; replace h := cond_t g_2 h
    refine aw_seq (by kernel_rfl) ?_
    refine aw_region [] [2] [] 1 (vals := [.int .i64 (1 : Int)]) (bxs := []) (by kernel_rfl) hmix an ?_
    refine aw_ret (by kernel_rfl) ?_
    replace h := Option.some.inj h; subst h
    exact ⟨.inr rfl, Nat.le_of_ble_eq_true rfl, by kernel_rfl⟩
  intro g_2; replace h := cond_f g_2 h
  refine aw_skip (by kernel_rfl) ?_
  refine aw_seq (by kernel_rfl) ?_
  obtain ⟨r_1, h_1, h⟩ := bind_some h
  refine aw_region [(2, { av := .tuple [.bool r_1.1, .bool r_1.2.1, .bool r_1.2.2.1, .bool r_1.2.2.2], l := [.int .i64 e_1.Kind] })] [1, 3, 4, 5, 6] [0] 1 (vals := [.ptr 0 0 0 0, .bool r_1.1, .bool r_1.2.1, .bool r_1.2.2.1, .bool r_1.2.2.2]) (bxs := [.live (.var 28 (v_T_api_Event e_1))]) (by kernel_rfl) hmix (ac (rfl : ([.int .i64 e_1.Kind] : List AV) = [.int .i64 e_1.Kind]) (ac (rfl : ([] : List BoxSt) = []) (ac (R07_uses_ok e_1.Kind r_1 h_1 : TripleG prog 51 [] [] [.int .i64 e_1.Kind] [] (.tuple [.bool r_1.1, .bool r_1.2.1, .bool r_1.2.2.1, .bool r_1.2.2.2])) an))) ?_
  refine aw_seq (by kernel_rfl) ?_
  refine aw_seq (by kernel_rfl) ?_
  obtain ⟨p_1, h_2, h⟩ := bind_some h
  refine aw_mid (mk [(1, .ptr 0 0 0 0), (3, .bool r_1.1), (6, .bool r_1.2.2.2), (66, .bool p_1)] [(0, .live (.var 28 (v_T_api_Event e_1)))] 1) ?_ ?_
  · replace h := h_2
    rcases Bool.eq_false_or_eq_true (!r_1.1) with gg_3 | gg_3
    · replace h := cond_t gg_3 h
      rcases Bool.eq_false_or_eq_true (!(e_1.Name == ([] : List Int))) with gg_4 | gg_4
      · replace h := cond_t gg_4 h
        refine aw_region [(6, { b := true }), (8, { g := false }), (9, { g := false }), (10, { g := false }), (14, { g := false }), (15, { b := true }), (17, { g := false }), (18, { g := false }), (19, { g := false }), (23, { g := false }), (24, { b := true }), (26, { g := false }), (27, { g := false }), (28, { g := false }), (33, { g := false }), (34, { b := true })] [1, 3, 6, 66] [0] 1 (vals := [.ptr 0 0 0 0, .bool r_1.1, .bool r_1.2.2.2, .bool true]) (bxs := [.live (.var 28 (v_T_api_Event e_1))]) (by kernel_rfl) hmix (ac gg_3 (ac gg_3 (ac gg_3 (ac gg_3 (ac gg_4 (ac gg_4 (ac gg_4 (ac gg_4 (ac gg_4 (ac (rfl : true = !false) (ac (rfl : true = !false) (ac (rfl : true = !false) (ac (rfl : true = !false) (ac (rfl : true = true) (ac (rfl : true = !false) (ac (rfl : true = !false) (ac (rfl : true = !false) (ac (rfl : true = !false) (ac (rfl : true = true) an))))))))))))))))))) ?_
        replace h := Option.some.inj h; subst h
        exact ⟨rfl, (sub_wkm [0] [] [.s 1, .s 3, .s 6, .s 66] [.s 0] (by kernel_rfl) an)⟩
      · replace h := cond_f gg_4 h
        rcases Bool.eq_false_or_eq_true (!r_1.2.1) with gg_5 | gg_5
        · replace h := cond_t gg_5 h
          rcases Bool.eq_false_or_eq_true (e_1.N != (0 : Int)) with gg_6 | gg_6
          · replace h := cond_t gg_6 h
            refine aw_region [(6, { b := true }), (14, { b := true }), (15, { b := false }), (17, { g := false }), (18, { g := false }), (19, { g := false }), (23, { g := false }), (24, { b := true }), (26, { g := false }), (27, { g := false }), (28, { g := false }), (33, { g := false }), (34, { b := true })] [1, 3, 6, 66] [0] 1 (vals := [.ptr 0 0 0 0, .bool r_1.1, .bool r_1.2.2.2, .bool true]) (bxs := [.live (.var 28 (v_T_api_Event e_1))]) (by kernel_rfl) hmix (ac gg_3 (ac gg_3 (ac gg_3 (ac gg_3 (ac gg_4 (ac gg_4 (ac gg_4 (ac gg_5 (ac gg_5 (ac gg_5 (ac gg_4 (ac gg_5 (ac gg_4 (ac gg_6 (ac gg_6 (ac gg_6 (ac gg_6 (ac gg_6 (ac (rfl : true = !false) (ac (rfl : true = !false) (ac (rfl : true = !false) (ac (rfl : true = !false) (ac (rfl : true = true) an))))))))))))))))))))))) ?_
            replace h := Option.some.inj h; subst h
            exact ⟨rfl, (sub_wkm [0] [] [.s 1, .s 3, .s 6, .s 66] [.s 0] (by kernel_rfl) an)⟩
          · replace h := cond_f gg_6 h
            rcases Bool.eq_false_or_eq_true (!r_1.2.2.1) with gg_7 | gg_7
            · replace h := cond_t gg_7 h
              rcases Bool.eq_false_or_eq_true (e_1.M != (0 : Int)) with gg_8 | gg_8
              · replace h := cond_t gg_8 h
                refine aw_region [(6, { b := true }), (14, { b := true }), (15, { b := false }), (23, { b := true }), (24, { b := false }), (26, { g := false }), (27, { g := false }), (28, { g := false }), (33, { g := false }), (34, { b := true })] [1, 3, 6, 66] [0] 1 (vals := [.ptr 0 0 0 0, .bool r_1.1, .bool r_1.2.2.2, .bool true]) (bxs := [.live (.var 28 (v_T_api_Event e_1))]) (by kernel_rfl) hmix (ac gg_3 (ac gg_3 (ac gg_3 (ac gg_3 (ac gg_4 (ac gg_4 (ac gg_4 (ac gg_5 (ac gg_5 (ac gg_5 (ac gg_4 (ac gg_5 (ac gg_4 (ac gg_6 (ac gg_6 (ac gg_6 (ac gg_7 (ac gg_7 (ac gg_7 (ac gg_6 (ac gg_7 (ac gg_6 (ac gg_8 (ac gg_8 (ac gg_8 (ac gg_8 (ac gg_8 an))))))))))))))))))))))))))) ?_
                replace h := Option.some.inj h; subst h
                exact ⟨rfl, (sub_wkm [0] [] [.s 1, .s 3, .s 6, .s 66] [.s 0] (by kernel_rfl) an)⟩
              · replace h := cond_f gg_8 h
                rcases Bool.eq_false_or_eq_true (!r_1.2.2.2) with gg_9 | gg_9
                · replace h := cond_t gg_9 h
                  refine aw_region [(6, { b := true }), (14, { b := true }), (15, { b := false }), (23, { b := true }), (24, { b := false }), (31, { n := (e_1.Stack).length }), (33, { b := true }), (34, { b := false })] [1, 3, 6, 66] [0] 1 (vals := [.ptr 0 0 0 0, .bool r_1.1, .bool r_1.2.2.2, .bool (decide ((((e_1.Stack).length : Nat) : Int) > (0 : Int)))]) (bxs := [.live (.var 28 (v_T_api_Event e_1))]) (by kernel_rfl) hmix (ac gg_3 (ac gg_3 (ac gg_3 (ac gg_3 (ac gg_4 (ac gg_4 (ac gg_4 (ac gg_5 (ac gg_5 (ac gg_5 (ac gg_4 (ac gg_5 (ac gg_4 (ac gg_6 (ac gg_6 (ac gg_6 (ac gg_7 (ac gg_7 (ac gg_7 (ac gg_6 (ac gg_7 (ac gg_6 (ac gg_8 (ac gg_8 (ac gg_8 (ac gg_9 (ac gg_9 (ac gg_9 (ac (vc_len _ : ((List.map AV.str e_1.Stack)).length = (e_1.Stack).length) (ac gg_9 (ac gg_8 (ac gg_9 (ac gg_8 an))))))))))))))))))))))))))))))))) ?_
                  replace h := Option.some.inj h; subst h
                  exact ⟨rfl, (sub_wkm [0] [] [.s 1, .s 3, .s 6, .s 66] [.s 0] (by kernel_rfl) an)⟩
                · replace h := cond_f gg_9 h
                  refine aw_region [(6, { b := true }), (14, { b := true }), (15, { b := false }), (23, { b := true }), (24, { b := false }), (29, { g := false }), (30, { g := false }), (31, { g := false }), (32, { g := false }), (33, { b := false }), (34, { b := false })] [1, 3, 6, 66] [0] 1 (vals := [.ptr 0 0 0 0, .bool r_1.1, .bool r_1.2.2.2, .bool false]) (bxs := [.live (.var 28 (v_T_api_Event e_1))]) (by kernel_rfl) hmix (ac gg_3 (ac gg_3 (ac gg_3 (ac gg_3 (ac gg_4 (ac gg_4 (ac gg_4 (ac gg_5 (ac gg_5 (ac gg_5 (ac gg_4 (ac gg_5 (ac gg_4 (ac gg_6 (ac gg_6 (ac gg_6 (ac gg_7 (ac gg_7 (ac gg_7 (ac gg_6 (ac gg_7 (ac gg_6 (ac gg_8 (ac gg_8 (ac gg_8 (ac gg_9 (ac gg_9 (ac gg_9 (ac gg_9 (ac gg_8 (ac gg_9 (ac gg_8 an)))))))))))))))))))))))))))))))) ?_
                  replace h := Option.some.inj h; subst h
                  exact ⟨rfl, (sub_wkm [0] [] [.s 1, .s 3, .s 6, .s 66] [.s 0] (by kernel_rfl) an)⟩
            · replace h := cond_f gg_7 h
              rcases Bool.eq_false_or_eq_true (!r_1.2.2.2) with gg_10 | gg_10
              · replace h := cond_t gg_10 h
                refine aw_region [(6, { b := true }), (14, { b := true }), (15, { b := false }), (20, { g := false }), (21, { g := false }), (22, { g := false }), (23, { b := false }), (24, { b := false }), (31, { n := (e_1.Stack).length }), (33, { b := true }), (34, { b := false })] [1, 3, 6, 66] [0] 1 (vals := [.ptr 0 0 0 0, .bool r_1.1, .bool r_1.2.2.2, .bool (decide ((((e_1.Stack).length : Nat) : Int) > (0 : Int)))]) (bxs := [.live (.var 28 (v_T_api_Event e_1))]) (by kernel_rfl) hmix (ac gg_3 (ac gg_3 (ac gg_3 (ac gg_3 (ac gg_4 (ac gg_4 (ac gg_4 (ac gg_5 (ac gg_5 (ac gg_5 (ac gg_4 (ac gg_5 (ac gg_4 (ac gg_6 (ac gg_6 (ac gg_6 (ac gg_7 (ac gg_7 (ac gg_7 (ac gg_6 (ac gg_7 (ac gg_6 (ac (rfl : false = false) (ac (rfl : false = false) (ac (rfl : false = false) (ac gg_10 (ac gg_10 (ac gg_10 (ac (vc_len _ : ((List.map AV.str e_1.Stack)).length = (e_1.Stack).length) (ac gg_10 (ac (rfl : false = false) (ac gg_10 (ac (rfl : false = false) an))))))))))))))))))))))))))))))))) ?_
                replace h := Option.some.inj h; subst h
                exact ⟨rfl, (sub_wkm [0] [] [.s 1, .s 3, .s 6, .s 66] [.s 0] (by kernel_rfl) an)⟩
              · replace h := cond_f gg_10 h
                refine aw_region [(6, { b := true }), (14, { b := true }), (15, { b := false }), (20, { g := false }), (21, { g := false }), (22, { g := false }), (23, { b := false }), (24, { b := false }), (29, { g := false }), (30, { g := false }), (31, { g := false }), (32, { g := false }), (33, { b := false }), (34, { b := false })] [1, 3, 6, 66] [0] 1 (vals := [.ptr 0 0 0 0, .bool r_1.1, .bool r_1.2.2.2, .bool false]) (bxs := [.live (.var 28 (v_T_api_Event e_1))]) (by kernel_rfl) hmix (ac gg_3 (ac gg_3 (ac gg_3 (ac gg_3 (ac gg_4 (ac gg_4 (ac gg_4 (ac gg_5 (ac gg_5 (ac gg_5 (ac gg_4 (ac gg_5 (ac gg_4 (ac gg_6 (ac gg_6 (ac gg_6 (ac gg_7 (ac gg_7 (ac gg_7 (ac gg_6 (ac gg_7 (ac gg_6 (ac (rfl : false = false) (ac (rfl : false = false) (ac (rfl : false = false) (ac gg_10 (ac gg_10 (ac gg_10 (ac gg_10 (ac (rfl : false = false) (ac gg_10 (ac (rfl : false = false) an)))))))))))))))))))))))))))))))) ?_
                replace h := Option.some.inj h; subst h
                exact ⟨rfl, (sub_wkm [0] [] [.s 1, .s 3, .s 6, .s 66] [.s 0] (by kernel_rfl) an)⟩
        · replace h := cond_f gg_5 h
          rcases Bool.eq_false_or_eq_true (!r_1.2.2.1) with gg_11 | gg_11
          · replace h := cond_t gg_11 h
            rcases Bool.eq_false_or_eq_true (e_1.M != (0 : Int)) with gg_12 | gg_12
            · replace h := cond_t gg_12 h
              refine aw_region [(6, { b := true }), (11, { g := false }), (12, { g := false }), (13, { g := false }), (14, { b := false }), (15, { b := false }), (23, { b := true }), (24, { b := false }), (26, { g := false }), (27, { g := false }), (28, { g := false }), (33, { g := false }), (34, { b := true })] [1, 3, 6, 66] [0] 1 (vals := [.ptr 0 0 0 0, .bool r_1.1, .bool r_1.2.2.2, .bool true]) (bxs := [.live (.var 28 (v_T_api_Event e_1))]) (by kernel_rfl) hmix (ac gg_3 (ac gg_3 (ac gg_3 (ac gg_3 (ac gg_4 (ac gg_4 (ac gg_4 (ac gg_5 (ac gg_5 (ac gg_5 (ac gg_4 (ac gg_5 (ac gg_4 (ac (rfl : false = false) (ac (rfl : false = false) (ac (rfl : false = false) (ac gg_11 (ac gg_11 (ac gg_11 (ac (rfl : false = false) (ac gg_11 (ac (rfl : false = false) (ac gg_12 (ac gg_12 (ac gg_12 (ac gg_12 (ac gg_12 an))))))))))))))))))))))))))) ?_
              replace h := Option.some.inj h; subst h
              exact ⟨rfl, (sub_wkm [0] [] [.s 1, .s 3, .s 6, .s 66] [.s 0] (by kernel_rfl) an)⟩
            · replace h := cond_f gg_12 h
              rcases Bool.eq_false_or_eq_true (!r_1.2.2.2) with gg_13 | gg_13
              · replace h := cond_t gg_13 h
                refine aw_region [(6, { b := true }), (11, { g := false }), (12, { g := false }), (13, { g := false }), (14, { b := false }), (15, { b := false }), (23, { b := true }), (24, { b := false }), (31, { n := (e_1.Stack).length }), (33, { b := true }), (34, { b := false })] [1, 3, 6, 66] [0] 1 (vals := [.ptr 0 0 0 0, .bool r_1.1, .bool r_1.2.2.2, .bool (decide ((((e_1.Stack).length : Nat) : Int) > (0 : Int)))]) (bxs := [.live (.var 28 (v_T_api_Event e_1))]) (by kernel_rfl) hmix (ac gg_3 (ac gg_3 (ac gg_3 (ac gg_3 (ac gg_4 (ac gg_4 (ac gg_4 (ac gg_5 (ac gg_5 (ac gg_5 (ac gg_4 (ac gg_5 (ac gg_4 (ac (rfl : false = false) (ac (rfl : false = false) (ac (rfl : false = false) (ac gg_11 (ac gg_11 (ac gg_11 (ac (rfl : false = false) (ac gg_11 (ac (rfl : false = false) (ac gg_12 (ac gg_12 (ac gg_12 (ac gg_13 (ac gg_13 (ac gg_13 (ac (vc_len _ : ((List.map AV.str e_1.Stack)).length = (e_1.Stack).length) (ac gg_13 (ac gg_12 (ac gg_13 (ac gg_12 an))))))))))))))))))))))))))))))))) ?_
                replace h := Option.some.inj h; subst h
                exact ⟨rfl, (sub_wkm [0] [] [.s 1, .s 3, .s 6, .s 66] [.s 0] (by kernel_rfl) an)⟩
              · replace h := cond_f gg_13 h
                refine aw_region [(6, { b := true }), (11, { g := false }), (12, { g := false }), (13, { g := false }), (14, { b := false }), (15, { b := false }), (23, { b := true }), (24, { b := false }), (29, { g := false }), (30, { g := false }), (31, { g := false }), (32, { g := false }), (33, { b := false }), (34, { b := false })] [1, 3, 6, 66] [0] 1 (vals := [.ptr 0 0 0 0, .bool r_1.1, .bool r_1.2.2.2, .bool false]) (bxs := [.live (.var 28 (v_T_api_Event e_1))]) (by kernel_rfl) hmix (ac gg_3 (ac gg_3 (ac gg_3 (ac gg_3 (ac gg_4 (ac gg_4 (ac gg_4 (ac gg_5 (ac gg_5 (ac gg_5 (ac gg_4 (ac gg_5 (ac gg_4 (ac (rfl : false = false) (ac (rfl : false = false) (ac (rfl : false = false) (ac gg_11 (ac gg_11 (ac gg_11 (ac (rfl : false = false) (ac gg_11 (ac (rfl : false = false) (ac gg_12 (ac gg_12 (ac gg_12 (ac gg_13 (ac gg_13 (ac gg_13 (ac gg_13 (ac gg_12 (ac gg_13 (ac gg_12 an)))))))))))))))))))))))))))))))) ?_
                replace h := Option.some.inj h; subst h
                exact ⟨rfl, (sub_wkm [0] [] [.s 1, .s 3, .s 6, .s 66] [.s 0] (by kernel_rfl) an)⟩
          · replace h := cond_f gg_11 h
            rcases Bool.eq_false_or_eq_true (!r_1.2.2.2) with gg_14 | gg_14
            · replace h := cond_t gg_14 h
              refine aw_region [(6, { b := true }), (11, { g := false }), (12, { g := false }), (13, { g := false }), (14, { b := false }), (15, { b := false }), (20, { g := false }), (21, { g := false }), (22, { g := false }), (23, { b := false }), (24, { b := false }), (31, { n := (e_1.Stack).length }), (33, { b := true }), (34, { b := false })] [1, 3, 6, 66] [0] 1 (vals := [.ptr 0 0 0 0, .bool r_1.1, .bool r_1.2.2.2, .bool (decide ((((e_1.Stack).length : Nat) : Int) > (0 : Int)))]) (bxs := [.live (.var 28 (v_T_api_Event e_1))]) (by kernel_rfl) hmix (ac gg_3 (ac gg_3 (ac gg_3 (ac gg_3 (ac gg_4 (ac gg_4 (ac gg_4 (ac gg_5 (ac gg_5 (ac gg_5 (ac gg_4 (ac gg_5 (ac gg_4 (ac (rfl : false = false) (ac (rfl : false = false) (ac (rfl : false = false) (ac gg_11 (ac gg_11 (ac gg_11 (ac (rfl : false = false) (ac gg_11 (ac (rfl : false = false) (ac (rfl : false = false) (ac (rfl : false = false) (ac (rfl : false = false) (ac gg_14 (ac gg_14 (ac gg_14 (ac (vc_len _ : ((List.map AV.str e_1.Stack)).length = (e_1.Stack).length) (ac gg_14 (ac (rfl : false = false) (ac gg_14 (ac (rfl : false = false) an))))))))))))))))))))))))))))))))) ?_
              replace h := Option.some.inj h; subst h
              exact ⟨rfl, (sub_wkm [0] [] [.s 1, .s 3, .s 6, .s 66] [.s 0] (by kernel_rfl) an)⟩
            · replace h := cond_f gg_14 h
              refine aw_region [(6, { b := true }), (11, { g := false }), (12, { g := false }), (13, { g := false }), (14, { b := false }), (15, { b := false }), (20, { g := false }), (21, { g := false }), (22, { g := false }), (23, { b := false }), (24, { b := false }), (29, { g := false }), (30, { g := false }), (31, { g := false }), (32, { g := false }), (33, { b := false }), (34, { b := false })] [1, 3, 6, 66] [0] 1 (vals := [.ptr 0 0 0 0, .bool r_1.1, .bool r_1.2.2.2, .bool false]) (bxs := [.live (.var 28 (v_T_api_Event e_1))]) (by kernel_rfl) hmix (ac gg_3 (ac gg_3 (ac gg_3 (ac gg_3 (ac gg_4 (ac gg_4 (ac gg_4 (ac gg_5 (ac gg_5 (ac gg_5 (ac gg_4 (ac gg_5 (ac gg_4 (ac (rfl : false = false) (ac (rfl : false = false) (ac (rfl : false = false) (ac gg_11 (ac gg_11 (ac gg_11 (ac (rfl : false = false) (ac gg_11 (ac (rfl : false = false) (ac (rfl : false = false) (ac (rfl : false = false) (ac (rfl : false = false) (ac gg_14 (ac gg_14 (ac gg_14 (ac gg_14 (ac (rfl : false = false) (ac gg_14 (ac (rfl : false = false) an)))))))))))))))))))))))))))))))) ?_
              replace h := Option.some.inj h; subst h
              exact ⟨rfl, (sub_wkm [0] [] [.s 1, .s 3, .s 6, .s 66] [.s 0] (by kernel_rfl) an)⟩
    · replace h := cond_f gg_3 h
      rcases Bool.eq_false_or_eq_true (!r_1.2.1) with gg_15 | gg_15
      · replace h := cond_t gg_15 h
        rcases Bool.eq_false_or_eq_true (e_1.N != (0 : Int)) with gg_16 | gg_16
        · replace h := cond_t gg_16 h
          refine aw_region [(3, { g := false }), (4, { g := false }), (5, { g := false }), (6, { b := false }), (14, { b := true }), (15, { b := false }), (17, { g := false }), (18, { g := false }), (19, { g := false }), (23, { g := false }), (24, { b := true }), (26, { g := false }), (27, { g := false }), (28, { g := false }), (33, { g := false }), (34, { b := true })] [1, 3, 6, 66] [0] 1 (vals := [.ptr 0 0 0 0, .bool r_1.1, .bool r_1.2.2.2, .bool true]) (bxs := [.live (.var 28 (v_T_api_Event e_1))]) (by kernel_rfl) hmix (ac gg_3 (ac gg_3 (ac gg_3 (ac gg_3 (ac (rfl : false = false) (ac (rfl : false = false) (ac (rfl : false = false) (ac gg_15 (ac gg_15 (ac gg_15 (ac (rfl : false = false) (ac gg_15 (ac (rfl : false = false) (ac gg_16 (ac gg_16 (ac gg_16 (ac gg_16 (ac gg_16 (ac (rfl : true = !false) (ac (rfl : true = !false) (ac (rfl : true = !false) (ac (rfl : true = !false) (ac (rfl : true = true) an))))))))))))))))))))))) ?_
          replace h := Option.some.inj h; subst h
          exact ⟨rfl, (sub_wkm [0] [] [.s 1, .s 3, .s 6, .s 66] [.s 0] (by kernel_rfl) an)⟩
        · replace h := cond_f gg_16 h
          rcases Bool.eq_false_or_eq_true (!r_1.2.2.1) with gg_17 | gg_17
          · replace h := cond_t gg_17 h
            rcases Bool.eq_false_or_eq_true (e_1.M != (0 : Int)) with gg_18 | gg_18
            · replace h := cond_t gg_18 h
              refine aw_region [(3, { g := false }), (4, { g := false }), (5, { g := false }), (6, { b := false }), (14, { b := true }), (15, { b := false }), (23, { b := true }), (24, { b := false }), (26, { g := false }), (27, { g := false }), (28, { g := false }), (33, { g := false }), (34, { b := true })] [1, 3, 6, 66] [0] 1 (vals := [.ptr 0 0 0 0, .bool r_1.1, .bool r_1.2.2.2, .bool true]) (bxs := [.live (.var 28 (v_T_api_Event e_1))]) (by kernel_rfl) hmix (ac gg_3 (ac gg_3 (ac gg_3 (ac gg_3 (ac (rfl : false = false) (ac (rfl : false = false) (ac (rfl : false = false) (ac gg_15 (ac gg_15 (ac gg_15 (ac (rfl : false = false) (ac gg_15 (ac (rfl : false = false) (ac gg_16 (ac gg_16 (ac gg_16 (ac gg_17 (ac gg_17 (ac gg_17 (ac gg_16 (ac gg_17 (ac gg_16 (ac gg_18 (ac gg_18 (ac gg_18 (ac gg_18 (ac gg_18 an))))))))))))))))))))))))))) ?_
              replace h := Option.some.inj h; subst h
              exact ⟨rfl, (sub_wkm [0] [] [.s 1, .s 3, .s 6, .s 66] [.s 0] (by kernel_rfl) an)⟩
            · replace h := cond_f gg_18 h
              rcases Bool.eq_false_or_eq_true (!r_1.2.2.2) with gg_19 | gg_19
              · replace h := cond_t gg_19 h
                refine aw_region [(3, { g := false }), (4, { g := false }), (5, { g := false }), (6, { b := false }), (14, { b := true }), (15, { b := false }), (23, { b := true }), (24, { b := false }), (31, { n := (e_1.Stack).length }), (33, { b := true }), (34, { b := false })] [1, 3, 6, 66] [0] 1 (vals := [.ptr 0 0 0 0, .bool r_1.1, .bool r_1.2.2.2, .bool (decide ((((e_1.Stack).length : Nat) : Int) > (0 : Int)))]) (bxs := [.live (.var 28 (v_T_api_Event e_1))]) (by kernel_rfl) hmix (ac gg_3 (ac gg_3 (ac gg_3 (ac gg_3 (ac (rfl : false = false) (ac (rfl : false = false) (ac (rfl : false = false) (ac gg_15 (ac gg_15 (ac gg_15 (ac (rfl : false = false) (ac gg_15 (ac (rfl : false = false) (ac gg_16 (ac gg_16 (ac gg_16 (ac gg_17 (ac gg_17 (ac gg_17 (ac gg_16 (ac gg_17 (ac gg_16 (ac gg_18 (ac gg_18 (ac gg_18 (ac gg_19 (ac gg_19 (ac gg_19 (ac (vc_len _ : ((List.map AV.str e_1.Stack)).length = (e_1.Stack).length) (ac gg_19 (ac gg_18 (ac gg_19 (ac gg_18 an))))))))))))))))))))))))))))))))) ?_
                replace h := Option.some.inj h; subst h
                exact ⟨rfl, (sub_wkm [0] [] [.s 1, .s 3, .s 6, .s 66] [.s 0] (by kernel_rfl) an)⟩
              · replace h := cond_f gg_19 h
                refine aw_region [(3, { g := false }), (4, { g := false }), (5, { g := false }), (6, { b := false }), (14, { b := true }), (15, { b := false }), (23, { b := true }), (24, { b := false }), (29, { g := false }), (30, { g := false }), (31, { g := false }), (32, { g := false }), (33, { b := false }), (34, { b := false })] [1, 3, 6, 66] [0] 1 (vals := [.ptr 0 0 0 0, .bool r_1.1, .bool r_1.2.2.2, .bool false]) (bxs := [.live (.var 28 (v_T_api_Event e_1))]) (by kernel_rfl) hmix (ac gg_3 (ac gg_3 (ac gg_3 (ac gg_3 (ac (rfl : false = false) (ac (rfl : false = false) (ac (rfl : false = false) (ac gg_15 (ac gg_15 (ac gg_15 (ac (rfl : false = false) (ac gg_15 (ac (rfl : false = false) (ac gg_16 (ac gg_16 (ac gg_16 (ac gg_17 (ac gg_17 (ac gg_17 (ac gg_16 (ac gg_17 (ac gg_16 (ac gg_18 (ac gg_18 (ac gg_18 (ac gg_19 (ac gg_19 (ac gg_19 (ac gg_19 (ac gg_18 (ac gg_19 (ac gg_18 an)))))))))))))))))))))))))))))))) ?_
                replace h := Option.some.inj h; subst h
                exact ⟨rfl, (sub_wkm [0] [] [.s 1, .s 3, .s 6, .s 66] [.s 0] (by kernel_rfl) an)⟩
          · replace h := cond_f gg_17 h
            rcases Bool.eq_false_or_eq_true (!r_1.2.2.2) with gg_20 | gg_20
            · replace h := cond_t gg_20 h
              refine aw_region [(3, { g := false }), (4, { g := false }), (5, { g := false }), (6, { b := false }), (14, { b := true }), (15, { b := false }), (20, { g := false }), (21, { g := false }), (22, { g := false }), (23, { b := false }), (24, { b := false }), (31, { n := (e_1.Stack).length }), (33, { b := true }), (34, { b := false })] [1, 3, 6, 66] [0] 1 (vals := [.ptr 0 0 0 0, .bool r_1.1, .bool r_1.2.2.2, .bool (decide ((((e_1.Stack).length : Nat) : Int) > (0 : Int)))]) (bxs := [.live (.var 28 (v_T_api_Event e_1))]) (by kernel_rfl) hmix (ac gg_3 (ac gg_3 (ac gg_3 (ac gg_3 (ac (rfl : false = false) (ac (rfl : false = false) (ac (rfl : false = false) (ac gg_15 (ac gg_15 (ac gg_15 (ac (rfl : false = false) (ac gg_15 (ac (rfl : false = false) (ac gg_16 (ac gg_16 (ac gg_16 (ac gg_17 (ac gg_17 (ac gg_17 (ac gg_16 (ac gg_17 (ac gg_16 (ac (rfl : false = false) (ac (rfl : false = false) (ac (rfl : false = false) (ac gg_20 (ac gg_20 (ac gg_20 (ac (vc_len _ : ((List.map AV.str e_1.Stack)).length = (e_1.Stack).length) (ac gg_20 (ac (rfl : false = false) (ac gg_20 (ac (rfl : false = false) an))))))))))))))))))))))))))))))))) ?_
              replace h := Option.some.inj h; subst h
              exact ⟨rfl, (sub_wkm [0] [] [.s 1, .s 3, .s 6, .s 66] [.s 0] (by kernel_rfl) an)⟩
            · replace h := cond_f gg_20 h
              refine aw_region [(3, { g := false }), (4, { g := false }), (5, { g := false }), (6, { b := false }), (14, { b := true }), (15, { b := false }), (20, { g := false }), (21, { g := false }), (22, { g := false }), (23, { b := false }), (24, { b := false }), (29, { g := false }), (30, { g := false }), (31, { g := false }), (32, { g := false }), (33, { b := false }), (34, { b := false })] [1, 3, 6, 66] [0] 1 (vals := [.ptr 0 0 0 0, .bool r_1.1, .bool r_1.2.2.2, .bool false]) (bxs := [.live (.var 28 (v_T_api_Event e_1))]) (by kernel_rfl) hmix (ac gg_3 (ac gg_3 (ac gg_3 (ac gg_3 (ac (rfl : false = false) (ac (rfl : false = false) (ac (rfl : false = false) (ac gg_15 (ac gg_15 (ac gg_15 (ac (rfl : false = false) (ac gg_15 (ac (rfl : false = false) (ac gg_16 (ac gg_16 (ac gg_16 (ac gg_17 (ac gg_17 (ac gg_17 (ac gg_16 (ac gg_17 (ac gg_16 (ac (rfl : false = false) (ac (rfl : false = false) (ac (rfl : false = false) (ac gg_20 (ac gg_20 (ac gg_20 (ac gg_20 (ac (rfl : false = false) (ac gg_20 (ac (rfl : false = false) an)))))))))))))))))))))))))))))))) ?_
              replace h := Option.some.inj h; subst h
              exact ⟨rfl, (sub_wkm [0] [] [.s 1, .s 3, .s 6, .s 66] [.s 0] (by kernel_rfl) an)⟩
      · replace h := cond_f gg_15 h
        rcases Bool.eq_false_or_eq_true (!r_1.2.2.1) with gg_21 | gg_21
        · replace h := cond_t gg_21 h
          rcases Bool.eq_false_or_eq_true (e_1.M != (0 : Int)) with gg_22 | gg_22
          · replace h := cond_t gg_22 h
            refine aw_region [(3, { g := false }), (4, { g := false }), (5, { g := false }), (6, { b := false }), (11, { g := false }), (12, { g := false }), (13, { g := false }), (14, { b := false }), (15, { b := false }), (23, { b := true }), (24, { b := false }), (26, { g := false }), (27, { g := false }), (28, { g := false }), (33, { g := false }), (34, { b := true })] [1, 3, 6, 66] [0] 1 (vals := [.ptr 0 0 0 0, .bool r_1.1, .bool r_1.2.2.2, .bool true]) (bxs := [.live (.var 28 (v_T_api_Event e_1))]) (by kernel_rfl) hmix (ac gg_3 (ac gg_3 (ac gg_3 (ac gg_3 (ac (rfl : false = false) (ac (rfl : false = false) (ac (rfl : false = false) (ac gg_15 (ac gg_15 (ac gg_15 (ac (rfl : false = false) (ac gg_15 (ac (rfl : false = false) (ac (rfl : false = false) (ac (rfl : false = false) (ac (rfl : false = false) (ac gg_21 (ac gg_21 (ac gg_21 (ac (rfl : false = false) (ac gg_21 (ac (rfl : false = false) (ac gg_22 (ac gg_22 (ac gg_22 (ac gg_22 (ac gg_22 an))))))))))))))))))))))))))) ?_
            replace h := Option.some.inj h; subst h
            exact ⟨rfl, (sub_wkm [0] [] [.s 1, .s 3, .s 6, .s 66] [.s 0] (by kernel_rfl) an)⟩
          · replace h := cond_f gg_22 h
            rcases Bool.eq_false_or_eq_true (!r_1.2.2.2) with gg_23 | gg_23
            · replace h := cond_t gg_23 h
              refine aw_region [(3, { g := false }), (4, { g := false }), (5, { g := false }), (6, { b := false }), (11, { g := false }), (12, { g := false }), (13, { g := false }), (14, { b := false }), (15, { b := false }), (23, { b := true }), (24, { b := false }), (31, { n := (e_1.Stack).length }), (33, { b := true }), (34, { b := false })] [1, 3, 6, 66] [0] 1 (vals := [.ptr 0 0 0 0, .bool r_1.1, .bool r_1.2.2.2, .bool (decide ((((e_1.Stack).length : Nat) : Int) > (0 : Int)))]) (bxs := [.live (.var 28 (v_T_api_Event e_1))]) (by kernel_rfl) hmix (ac gg_3 (ac gg_3 (ac gg_3 (ac gg_3 (ac (rfl : false = false) (ac (rfl : false = false) (ac (rfl : false = false) (ac gg_15 (ac gg_15 (ac gg_15 (ac (rfl : false = false) (ac gg_15 (ac (rfl : false = false) (ac (rfl : false = false) (ac (rfl : false = false) (ac (rfl : false = false) (ac gg_21 (ac gg_21 (ac gg_21 (ac (rfl : false = false) (ac gg_21 (ac (rfl : false = false) (ac gg_22 (ac gg_22 (ac gg_22 (ac gg_23 (ac gg_23 (ac gg_23 (ac (vc_len _ : ((List.map AV.str e_1.Stack)).length = (e_1.Stack).length) (ac gg_23 (ac gg_22 (ac gg_23 (ac gg_22 an))))))))))))))))))))))))))))))))) ?_
              replace h := Option.some.inj h; subst h
              exact ⟨rfl, (sub_wkm [0] [] [.s 1, .s 3, .s 6, .s 66] [.s 0] (by kernel_rfl) an)⟩
            · replace h := cond_f gg_23 h
              refine aw_region [(3, { g := false }), (4, { g := false }), (5, { g := false }), (6, { b := false }), (11, { g := false }), (12, { g := false }), (13, { g := false }), (14, { b := false }), (15, { b := false }), (23, { b := true }), (24, { b := false }), (29, { g := false }), (30, { g := false }), (31, { g := false }), (32, { g := false }), (33, { b := false }), (34, { b := false })] [1, 3, 6, 66] [0] 1 (vals := [.ptr 0 0 0 0, .bool r_1.1, .bool r_1.2.2.2, .bool false]) (bxs := [.live (.var 28 (v_T_api_Event e_1))]) (by kernel_rfl) hmix (ac gg_3 (ac gg_3 (ac gg_3 (ac gg_3 (ac (rfl : false = false) (ac (rfl : false = false) (ac (rfl : false = false) (ac gg_15 (ac gg_15 (ac gg_15 (ac (rfl : false = false) (ac gg_15 (ac (rfl : false = false) (ac (rfl : false = false) (ac (rfl : false = false) (ac (rfl : false = false) (ac gg_21 (ac gg_21 (ac gg_21 (ac (rfl : false = false) (ac gg_21 (ac (rfl : false = false) (ac gg_22 (ac gg_22 (ac gg_22 (ac gg_23 (ac gg_23 (ac gg_23 (ac gg_23 (ac gg_22 (ac gg_23 (ac gg_22 an)))))))))))))))))))))))))))))))) ?_
              replace h := Option.some.inj h; subst h
              exact ⟨rfl, (sub_wkm [0] [] [.s 1, .s 3, .s 6, .s 66] [.s 0] (by kernel_rfl) an)⟩
        · replace h := cond_f gg_21 h
          rcases Bool.eq_false_or_eq_true (!r_1.2.2.2) with gg_24 | gg_24
          · replace h := cond_t gg_24 h
            refine aw_region [(3, { g := false }), (4, { g := false }), (5, { g := false }), (6, { b := false }), (11, { g := false }), (12, { g := false }), (13, { g := false }), (14, { b := false }), (15, { b := false }), (20, { g := false }), (21, { g := false }), (22, { g := false }), (23, { b := false }), (24, { b := false }), (31, { n := (e_1.Stack).length }), (33, { b := true }), (34, { b := false })] [1, 3, 6, 66] [0] 1 (vals := [.ptr 0 0 0 0, .bool r_1.1, .bool r_1.2.2.2, .bool (decide ((((e_1.Stack).length : Nat) : Int) > (0 : Int)))]) (bxs := [.live (.var 28 (v_T_api_Event e_1))]) (by kernel_rfl) hmix (ac gg_3 (ac gg_3 (ac gg_3 (ac gg_3 (ac (rfl : false = false) (ac (rfl : false = false) (ac (rfl : false = false) (ac gg_15 (ac gg_15 (ac gg_15 (ac (rfl : false = false) (ac gg_15 (ac (rfl : false = false) (ac (rfl : false = false) (ac (rfl : false = false) (ac (rfl : false = false) (ac gg_21 (ac gg_21 (ac gg_21 (ac (rfl : false = false) (ac gg_21 (ac (rfl : false = false) (ac (rfl : false = false) (ac (rfl : false = false) (ac (rfl : false = false) (ac gg_24 (ac gg_24 (ac gg_24 (ac (vc_len _ : ((List.map AV.str e_1.Stack)).length = (e_1.Stack).length) (ac gg_24 (ac (rfl : false = false) (ac gg_24 (ac (rfl : false = false) an))))))))))))))))))))))))))))))))) ?_
            replace h := Option.some.inj h; subst h
            exact ⟨rfl, (sub_wkm [0] [] [.s 1, .s 3, .s 6, .s 66] [.s 0] (by kernel_rfl) an)⟩
          · replace h := cond_f gg_24 h
            refine aw_region [(3, { g := false }), (4, { g := false }), (5, { g := false }), (6, { b := false }), (11, { g := false }), (12, { g := false }), (13, { g := false }), (14, { b := false }), (15, { b := false }), (20, { g := false }), (21, { g := false }), (22, { g := false }), (23, { b := false }), (24, { b := false }), (29, { g := false }), (30, { g := false }), (31, { g := false }), (32, { g := false }), (33, { b := false }), (34, { b := false })] [1, 3, 6, 66] [0] 1 (vals := [.ptr 0 0 0 0, .bool r_1.1, .bool r_1.2.2.2, .bool false]) (bxs := [.live (.var 28 (v_T_api_Event e_1))]) (by kernel_rfl) hmix (ac gg_3 (ac gg_3 (ac gg_3 (ac gg_3 (ac (rfl : false = false) (ac (rfl : false = false) (ac (rfl : false = false) (ac gg_15 (ac gg_15 (ac gg_15 (ac (rfl : false = false) (ac gg_15 (ac (rfl : false = false) (ac (rfl : false = false) (ac (rfl : false = false) (ac (rfl : false = false) (ac gg_21 (ac gg_21 (ac gg_21 (ac (rfl : false = false) (ac gg_21 (ac (rfl : false = false) (ac (rfl : false = false) (ac (rfl : false = false) (ac (rfl : false = false) (ac gg_24 (ac gg_24 (ac gg_24 (ac gg_24 (ac (rfl : false = false) (ac gg_24 (ac (rfl : false = false) an)))))))))))))))))))))))))))))))) ?_
            replace h := Option.some.inj h; subst h
            exact ⟨rfl, (sub_wkm [0] [] [.s 1, .s 3, .s 6, .s 66] [.s 0] (by kernel_rfl) an)⟩
  refine aw_cond (t := 66) (b := p_1) (by kernel_rfl) (by kernel_rfl) ?_ ?_
  · intro g_3; replace h := cond_t g_3 h
    refine aw_seq (by kernel_rfl) ?_
    refine aw_region [] [2] [] 1 (vals := [.int .i64 (1 : Int)]) (bxs := []) (by kernel_rfl) hmix an ?_
    refine aw_ret (by kernel_rfl) ?_
    replace h := Option.some.inj h; subst h
    exact ⟨.inr rfl, Nat.le_of_ble_eq_true rfl, by kernel_rfl⟩
  intro g_3; replace h := cond_f g_3 h
  refine aw_skip (by kernel_rfl) ?_
  refine aw_seq (by kernel_rfl) ?_
  refine aw_region [] [1, 3, 6, 7] [0] 1 (vals := [.ptr 0 0 0 0, .bool r_1.1, .bool r_1.2.2.2, .int .i64 (0 : Int)]) (bxs := [.live (.var 28 (v_T_api_Event e_1))]) (by kernel_rfl) hmix an ?_
  refine aw_seq (by kernel_rfl) ?_
  refine aw_seq (by kernel_rfl) ?_
  refine aw_region [] [1, 6, 7, 67] [0] 1 (vals := [.ptr 0 0 0 0, .bool r_1.2.2.2, .int .i64 (0 : Int), .bool r_1.1]) (bxs := [.live (.var 28 (v_T_api_Event e_1))]) (by kernel_rfl) hmix an ?_
  obtain ⟨o_1, h_3, h⟩ := bind_some h
  refine aw_mid (mk [(1, .ptr 0 0 0 0), (6, .bool r_1.2.2.2), (7, .int .i64 o_1)] [(0, .live (.var 28 (v_T_api_Event e_1)))] 1) ?_ ?_
  · replace h := h_3
    refine aw_cond (t := 67) (b := r_1.1) (by kernel_rfl) (by kernel_rfl) ?_ ?_
    rotate_left
    · intro g_4; replace h := cond_f g_4 h
      refine aw_skip (by kernel_rfl) ?_
      replace h := Option.some.inj h; subst h
      exact ⟨rfl, (sub_wkm [0] [] [.s 1, .s 6, .s 7] [.s 0] (by kernel_rfl) an)⟩
    intro g_4; replace h := cond_t g_4 h
    obtain ⟨r_2, h_4, h⟩ := bind_some h
    refine aw_region [(2, { av := .int .i64 r_2, l := [.str e_1.Name] })] [1, 6, 7] [0] 1 (vals := [.ptr 0 0 0 0, .bool r_1.2.2.2, .int .i64 r_2]) (bxs := [.live (.var 28 (v_T_api_Event e_1))]) (by kernel_rfl) hmix (ac (rfl : ([.str e_1.Name] : List AV) = [.str e_1.Name]) (ac (rfl : ([] : List BoxSt) = []) (ac (R06_Name_ok F e_1.Name r_2 h_4 : TripleG prog 47 [] [] [.str e_1.Name] [] (.int .i64 r_2)) an))) ?_
    replace h := Option.some.inj h; subst h
    exact ⟨rfl, (sub_wkm [0] [] [.s 1, .s 6, .s 7] [.s 0] (by kernel_rfl) an)⟩
  refine aw_seq (by kernel_rfl) ?_
  refine aw_seq (by kernel_rfl) ?_
  refine aw_region [] [1, 7, 71] [0] 1 (vals := [.ptr 0 0 0 0, .int .i64 o_1, .bool r_1.2.2.2]) (bxs := [.live (.var 28 (v_T_api_Event e_1))]) (by kernel_rfl) hmix an ?_
  obtain ⟨o_2, h_5, h⟩ := bind_some h
  refine aw_mid (mk [(1, .ptr 0 0 0 0), (7, .int .i64 o_2)] [(0, .live (.var 28 (v_T_api_Event e_1)))] 1) ?_ ?_
  · replace h := h_5
    refine aw_cond (t := 71) (b := r_1.2.2.2) (by kernel_rfl) (by kernel_rfl) ?_ ?_
    rotate_left
    · intro g_5; replace h := cond_f g_5 h
      refine aw_skip (by kernel_rfl) ?_
      replace h := Option.some.inj h; subst h
      exact ⟨rfl, (sub_wkm [0] [] [.s 1, .s 7] [.s 0] (by kernel_rfl) an)⟩
    intro g_5; replace h := cond_t g_5 h
    obtain ⟨r_3, h_6, h⟩ := bind_some h
    refine aw_region [(2, { av := .int .i64 r_3, l := [.sl false 1 (List.map AV.str e_1.Stack)] })] [1, 7] [0] 1 (vals := [.ptr 0 0 0 0, .int .i64 r_3]) (bxs := [.live (.var 28 (v_T_api_Event e_1))]) (by kernel_rfl) hmix (ac (rfl : ([.sl false 1 (List.map AV.str e_1.Stack)] : List AV) = [.sl false 1 (List.map AV.str e_1.Stack)]) (ac (rfl : ([] : List BoxSt) = []) (ac (R06_Frames_ok F e_1.Stack r_3 h_6 : TripleG prog 52 [] [] [.sl false 1 (List.map AV.str e_1.Stack)] [] (.int .i64 r_3)) an))) ?_
    replace h := Option.some.inj h; subst h
    exact ⟨rfl, (sub_wkm [0] [] [.s 1, .s 7] [.s 0] (by kernel_rfl) an)⟩
  refine aw_seq (by kernel_rfl) ?_
  refine aw_seq (by kernel_rfl) ?_
  refine aw_region [] [1, 7, 76] [0] 1 (vals := [.ptr 0 0 0 0, .int .i64 o_2, .bool (o_2 != (0 : Int))]) (bxs := [.live (.var 28 (v_T_api_Event e_1))]) (by kernel_rfl) hmix an ?_
  refine aw_cond (t := 76) (b := (o_2 != (0 : Int))) (by kernel_rfl) (by kernel_rfl) ?_ ?_
  · intro g_6; replace h := cond_t g_6 h
    refine aw_seq (by kernel_rfl) ?_
    refine aw_region [] [2] [] 1 (vals := [.int .i64 o_2]) (bxs := []) (by kernel_rfl) hmix an ?_
    refine aw_ret (by kernel_rfl) ?_
    replace h := Option.some.inj h; subst h
    exact ⟨.inr rfl, Nat.le_of_ble_eq_true rfl, by kernel_rfl⟩
  intro g_6; replace h := cond_f g_6 h
  refine aw_skip (by kernel_rfl) ?_
  refine aw_seq (by kernel_rfl) ?_
  obtain ⟨r_4, h_7, h⟩ := bind_some h
  refine aw_region [(1, { av := .int .i64 r_4, l := [e_T_api_Event e_1] })] [2] [] 1 (vals := [.int .i64 r_4]) (bxs := []) (by kernel_rfl) hmix (ac (rfl : ([e_T_api_Event e_1] : List AV) = [e_T_api_Event e_1]) (ac (rfl : ([] : List BoxSt) = []) (ac (R07_numbers_ok e_1 r_4 h_7 : TripleG prog 53 [] [] [e_T_api_Event e_1] [] (.int .i64 r_4)) an))) ?_
  refine aw_ret (by kernel_rfl) ?_
  replace h := Option.some.inj h; subst h
  exact ⟨.inr rfl, Nat.le_of_ble_eq_true rfl, by kernel_rfl⟩

theorem R08_Uses_ok (k_1 : Int) (r : Bool × Bool × Bool × Bool) (h : R08_Uses k_1 = some r) : TripleG prog 27 [] [] [.int .i64 k_1] [] (.tuple [.bool r.1, .bool r.2.1, .bool r.2.2.1, .bool r.2.2.2]) := by
  refine triple_intro (fn := Go.Proofs.Try.f27) (code := codeOf Go.Proofs.Try.f27) (by kernel_rfl) (by kernel_rfl) (Nat.le_of_ble_eq_true (by kernel_rfl)) ?_
  unfold R08_Uses at h
  refine aw_seq (by kernel_rfl) ?_
  refine aw_region [] [0] [] 0 (vals := [.int .i64 k_1]) (bxs := []) (by kernel_rfl) hmix an ?_
  refine aw_seq (by kernel_rfl) ?_
  refine aw_seq (by kernel_rfl) ?_
  refine aw_region [] [6] [] 0 (vals := [.int .i64 k_1]) (bxs := []) (by kernel_rfl) hmix an ?_
  refine aw_block (id := 0) (by kernel_rfl) ?_
  refine aw_seq (by kernel_rfl) ?_
  refine aw_seq (by kernel_rfl) ?_
  refine aw_region [] [6, 7] [] 0 (vals := [.int .i64 k_1, .bool (k_1 == (1 : Int))]) (bxs := []) (by kernel_rfl) hmix an ?_
  obtain ⟨o_1, h_1, h⟩ := bind_some h
  refine aw_mid (mk [(6, .int .i64 k_1), (7, .bool o_1)] [] 0) ?_ ?_
  · replace h := h_1
    refine aw_cond (t := 7) (b := (k_1 == (1 : Int))) (by kernel_rfl) (by kernel_rfl) ?_ ?_
    · intro g_1; replace h := cond_t g_1 h
      refine aw_skip (by kernel_rfl) ?_
      replace h := Option.some.inj h; subst h
      exact ⟨rfl, (sub_wkm [] [] [.s 6, .s 7] [] (by kernel_rfl) an)⟩
    intro g_1; replace h := cond_f g_1 h
    refine aw_region [] [6, 7] [] 0 (vals := [.int .i64 k_1, .bool (k_1 == (3 : Int))]) (bxs := []) (by kernel_rfl) hmix an ?_
    replace h := Option.some.inj h; subst h
    exact ⟨rfl, (sub_wkm [] [] [.s 6, .s 7] [] (by kernel_rfl) an)⟩
  refine aw_cond (t := 7) (b := o_1) (by kernel_rfl) (by kernel_rfl) ?_ ?_
  · intro g_2; replace h := cond_t g_2 h
    refine aw_seq (by kernel_rfl) ?_
    refine aw_region [] [2, 3, 4, 5] [] 0 (vals := [.bool true, .bool false, .bool false, .bool false]) (bxs := []) (by kernel_rfl) hmix an ?_
    refine aw_ret (by kernel_rfl) ?_
    replace h := Option.some.inj h; subst h
    exact ⟨.inr rfl, Nat.le_of_ble_eq_true rfl, by kernel_rfl⟩
  intro g_2; replace h := cond_f g_2 h
  refine aw_seq (by kernel_rfl) ?_
  refine aw_region [] [6, 10] [] 0 (vals := [.int .i64 k_1, .bool (k_1 == (4 : Int))]) (bxs := []) (by kernel_rfl) hmix an ?_
  refine aw_cond (t := 10) (b := (k_1 == (4 : Int))) (by kernel_rfl) (by kernel_rfl) ?_ ?_
  · intro g_3; replace h := cond_t g_3 h
    refine aw_seq (by kernel_rfl) ?_
    refine aw_region [] [2, 3, 4, 5] [] 0 (vals := [.bool true, .bool true, .bool false, .bool false]) (bxs := []) (by kernel_rfl) hmix an ?_
    refine aw_ret (by kernel_rfl) ?_
    replace h := Option.some.inj h; subst h
    exact ⟨.inr rfl, Nat.le_of_ble_eq_true rfl, by kernel_rfl⟩
  intro g_3; replace h := cond_f g_3 h
  refine aw_seq (by kernel_rfl) ?_
  refine aw_region [] [6, 12] [] 0 (vals := [.int .i64 k_1, .bool (k_1 == (5 : Int))]) (bxs := []) (by kernel_rfl) hmix an ?_
  refine aw_cond (t := 12) (b := (k_1 == (5 : Int))) (by kernel_rfl) (by kernel_rfl) ?_ ?_
  · intro g_4; replace h := cond_t g_4 h
    refine aw_seq (by kernel_rfl) ?_
    refine aw_region [] [2, 3, 4, 5] [] 0 (vals := [.bool false, .bool true, .bool false, .bool true]) (bxs := []) (by kernel_rfl) hmix an ?_
    refine aw_ret (by kernel_rfl) ?_
    replace h := Option.some.inj h; subst h
    exact ⟨.inr rfl, Nat.le_of_ble_eq_true rfl, by kernel_rfl⟩
  intro g_4; replace h := cond_f g_4 h
  refine aw_seq (by kernel_rfl) ?_
  refine aw_seq (by kernel_rfl) ?_
  refine aw_region [] [6, 14] [] 0 (vals := [.int .i64 k_1, .bool (k_1 == (6 : Int))]) (bxs := []) (by kernel_rfl) hmix an ?_
  obtain ⟨o_2, h_2, h⟩ := bind_some h
  refine aw_mid (mk [(6, .int .i64 k_1), (14, .bool o_2)] [] 0) ?_ ?_
  · replace h := h_2
    refine aw_cond (t := 14) (b := (k_1 == (6 : Int))) (by kernel_rfl) (by kernel_rfl) ?_ ?_
    · intro g_5; replace h := cond_t g_5 h
      refine aw_skip (by kernel_rfl) ?_
      replace h := Option.some.inj h; subst h
      exact ⟨rfl, (sub_wkm [] [] [.s 6, .s 14] [] (by kernel_rfl) an)⟩
    intro g_5; replace h := cond_f g_5 h
    refine aw_seq (by kernel_rfl) ?_
    refine aw_region [] [6, 14] [] 0 (vals := [.int .i64 k_1, .bool (k_1 == (7 : Int))]) (bxs := []) (by kernel_rfl) hmix an ?_
    refine aw_cond (t := 14) (b := (k_1 == (7 : Int))) (by kernel_rfl) (by kernel_rfl) ?_ ?_
    · intro g_6; replace h := cond_t g_6 h
      refine aw_skip (by kernel_rfl) ?_
      replace h := Option.some.inj h; subst h
      exact ⟨rfl, (sub_wkm [] [] [.s 6, .s 14] [] (by kernel_rfl) an)⟩
    intro g_6; replace h := cond_f g_6 h
    refine aw_seq (by kernel_rfl) ?_
    refine aw_region [] [6, 14] [] 0 (vals := [.int .i64 k_1, .bool (k_1 == (8 : Int))]) (bxs := []) (by kernel_rfl) hmix an ?_
    refine aw_cond (t := 14) (b := (k_1 == (8 : Int))) (by kernel_rfl) (by kernel_rfl) ?_ ?_
    · intro g_7; replace h := cond_t g_7 h
      refine aw_skip (by kernel_rfl) ?_
      replace h := Option.some.inj h; subst h
      exact ⟨rfl, (sub_wkm [] [] [.s 6, .s 14] [] (by kernel_rfl) an)⟩
    intro g_7; replace h := cond_f g_7 h
    refine aw_seq (by kernel_rfl) ?_
    refine aw_region [] [6, 14] [] 0 (vals := [.int .i64 k_1, .bool (k_1 == (10 : Int))]) (bxs := []) (by kernel_rfl) hmix an ?_
    refine aw_cond (t := 14) (b := (k_1 == (10 : Int))) (by kernel_rfl) (by kernel_rfl) ?_ ?_
    · intro g_8; replace h := cond_t g_8 h
      refine aw_skip (by kernel_rfl) ?_
      replace h := Option.some.inj h; subst h
      exact ⟨rfl, (sub_wkm [] [] [.s 6, .s 14] [] (by kernel_rfl) an)⟩
    intro g_8; replace h := cond_f g_8 h
    refine aw_region [] [6, 14] [] 0 (vals := [.int .i64 k_1, .bool (k_1 == (12 : Int))]) (bxs := []) (by kernel_rfl) hmix an ?_
    replace h := Option.some.inj h; subst h
    exact ⟨rfl, (sub_wkm [] [] [.s 6, .s 14] [] (by kernel_rfl) an)⟩
  refine aw_cond (t := 14) (b := o_2) (by kernel_rfl) (by kernel_rfl) ?_ ?_
  · intro g_9; replace h := cond_t g_9 h
    refine aw_seq (by kernel_rfl) ?_
    refine aw_region [] [2, 3, 4, 5] [] 0 (vals := [.bool false, .bool true, .bool false, .bool false]) (bxs := []) (by kernel_rfl) hmix an ?_
    refine aw_ret (by kernel_rfl) ?_
    replace h := Option.some.inj h; subst h
    exact ⟨.inr rfl, Nat.le_of_ble_eq_true rfl, by kernel_rfl⟩
  intro g_9; replace h := cond_f g_9 h
  refine aw_seq (by kernel_rfl) ?_
  refine aw_region [] [6, 20] [] 0 (vals := [.int .i64 k_1, .bool (k_1 == (9 : Int))]) (bxs := []) (by kernel_rfl) hmix an ?_
  refine aw_cond (t := 20) (b := (k_1 == (9 : Int))) (by kernel_rfl) (by kernel_rfl) ?_ ?_
  · intro g_10; replace h := cond_t g_10 h
    refine aw_seq (by kernel_rfl) ?_
    refine aw_region [] [2, 3, 4, 5] [] 0 (vals := [.bool false, .bool true, .bool true, .bool false]) (bxs := []) (by kernel_rfl) hmix an ?_
    refine aw_ret (by kernel_rfl) ?_
    replace h := Option.some.inj h; subst h
    exact ⟨.inr rfl, Nat.le_of_ble_eq_true rfl, by kernel_rfl⟩
  intro g_10; replace h := cond_f g_10 h
  refine aw_seq (by kernel_rfl) ?_
  refine aw_region [] [22] [] 0 (vals := [.bool (k_1 == (11 : Int))]) (bxs := []) (by kernel_rfl) hmix an ?_
  refine aw_cond (t := 22) (b := (k_1 == (11 : Int))) (by kernel_rfl) (by kernel_rfl) ?_ ?_
  · intro g_11; replace h := cond_t g_11 h
    refine aw_seq (by kernel_rfl) ?_
    refine aw_region [] [2, 3, 4, 5] [] 0 (vals := [.bool false, .bool true, .bool true, .bool true]) (bxs := []) (by kernel_rfl) hmix an ?_
    refine aw_ret (by kernel_rfl) ?_
    replace h := Option.some.inj h; subst h
    exact ⟨.inr rfl, Nat.le_of_ble_eq_true rfl, by kernel_rfl⟩
  intro g_11; replace h := cond_f g_11 h
  refine aw_skip (by kernel_rfl) ?_
  refine aw_seq (by kernel_rfl) ?_
  refine aw_region [] [2, 3, 4, 5] [] 0 (vals := [.bool false, .bool false, .bool false, .bool false]) (bxs := []) (by kernel_rfl) hmix an ?_
  refine aw_ret (by kernel_rfl) ?_
  replace h := Option.some.inj h; subst h
  exact ⟨.inr rfl, Nat.le_of_ble_eq_true rfl, by kernel_rfl⟩

theorem R06_Put_ok (F : Nat) (names_1 : List (List Int)) (s_1 : List Int) (r : Int × (List (List Int)) × Int) (h : R06_Put F names_1 s_1 = some r) : TripleG prog 28 [] [] [.sl false 1 (List.map AV.str names_1), .str s_1] [] (.tuple [.int .i64 r.1, .sl false 1 (List.map AV.str r.2.1), .int .i64 r.2.2]) := by
  refine triple_intro (fn := Go.Proofs.Try.f28) (code := codeOf Go.Proofs.Try.f28) (by kernel_rfl) (by kernel_rfl) (Nat.le_of_ble_eq_true (by kernel_rfl)) ?_
  unfold R06_Put at h
  refine aw_seq (by kernel_rfl) ?_
  refine aw_region [] [0, 1] [] 0 (vals := [.sl false 1 (List.map AV.str names_1), .str s_1]) (bxs := []) (by kernel_rfl) hmix an ?_
  refine aw_seq (by kernel_rfl) ?_
  refine aw_seq (by kernel_rfl) ?_
  obtain ⟨r_1, h_1, h⟩ := bind_some h
  refine aw_region [(1, { av := .int .i64 r_1, l := [.str s_1] })] [0, 1, 10] [] 0 (vals := [.sl false 1 (List.map AV.str names_1), .str s_1, .bool (r_1 != (0 : Int))]) (bxs := []) (by kernel_rfl) hmix (ac (rfl : ([.str s_1] : List AV) = [.str s_1]) (ac (rfl : ([] : List BoxSt) = []) (ac (R06_Name_ok F s_1 r_1 h_1 : TripleG prog 47 [] [] [.str s_1] [] (.int .i64 r_1)) an))) ?_
  refine aw_cond (t := 10) (b := (r_1 != (0 : Int))) (by kernel_rfl) (by kernel_rfl) ?_ ?_
  · intro g_1; replace h := cond_t g_1 h
    refine aw_seq (by kernel_rfl) ?_
    refine aw_region [] [4, 5, 6] [] 0 (vals := [.int .i64 (0 : Int), .sl false 1 (List.map AV.str names_1), .int .i64 (3 : Int)]) (bxs := []) (by kernel_rfl) hmix an ?_
    refine aw_ret (by kernel_rfl) ?_
    replace h := Option.some.inj h; subst h
    exact ⟨.inr rfl, Nat.le_of_ble_eq_true rfl, by kernel_rfl⟩
  intro g_1; replace h := cond_f g_1 h
  refine aw_skip (by kernel_rfl) ?_
  refine aw_seq (by kernel_rfl) ?_
  obtain ⟨r_2, h_2, h⟩ := bind_some h
  refine aw_region [(2, { av := .int .i64 r_2, l := [.sl false 1 (List.map AV.str names_1), .str s_1] })] [0, 1, 7] [] 0 (vals := [.sl false 1 (List.map AV.str names_1), .str s_1, .int .i64 r_2]) (bxs := []) (by kernel_rfl) hmix (ac (rfl : ([.sl false 1 (List.map AV.str names_1), .str s_1] : List AV) = [.sl false 1 (List.map AV.str names_1), .str s_1]) (ac (rfl : ([] : List BoxSt) = []) (ac (R06_Find_ok F names_1 s_1 r_2 h_2 : TripleG prog 48 [] [] [.sl false 1 (List.map AV.str names_1), .str s_1] [] (.int .i64 r_2)) an))) ?_
  refine aw_seq (by kernel_rfl) ?_
  refine aw_seq (by kernel_rfl) ?_
  refine aw_region [] [0, 1, 7, 16] [] 0 (vals := [.sl false 1 (List.map AV.str names_1), .str s_1, .int .i64 r_2, .bool (decide (r_2 ≥ (0 : Int)))]) (bxs := []) (by kernel_rfl) hmix an ?_
  refine aw_cond (t := 16) (b := (decide (r_2 ≥ (0 : Int)))) (by kernel_rfl) (by kernel_rfl) ?_ ?_
  · intro g_2; replace h := cond_t g_2 h
    refine aw_seq (by kernel_rfl) ?_
    refine aw_region [] [4, 5, 6] [] 0 (vals := [.int .i64 r_2, .sl false 1 (List.map AV.str names_1), .int .i64 (0 : Int)]) (bxs := []) (by kernel_rfl) hmix an ?_
    refine aw_ret (by kernel_rfl) ?_
    replace h := Option.some.inj h; subst h
    exact ⟨.inr rfl, Nat.le_of_ble_eq_true rfl, by kernel_rfl⟩
  intro g_2; replace h := cond_f g_2 h
  refine aw_skip (by kernel_rfl) ?_
  refine aw_seq (by kernel_rfl) ?_
  refine aw_seq (by kernel_rfl) ?_
  refine aw_region [(1, { n := (names_1).length })] [0, 1, 21] [] 0 (vals := [.sl false 1 (List.map AV.str names_1), .str s_1, .bool (decide ((((names_1).length : Nat) : Int) ≥ (1000 : Int)))]) (bxs := []) (by kernel_rfl) hmix (ac (vc_len _ : ((List.map AV.str names_1)).length = (names_1).length) an) ?_
  refine aw_cond (t := 21) (b := (decide ((((names_1).length : Nat) : Int) ≥ (1000 : Int)))) (by kernel_rfl) (by kernel_rfl) ?_ ?_
  · intro g_3; replace h := cond_t g_3 h
    refine aw_seq (by kernel_rfl) ?_
    refine aw_region [] [4, 5, 6] [] 0 (vals := [.int .i64 (0 : Int), .sl false 1 (List.map AV.str names_1), .int .i64 (6 : Int)]) (bxs := []) (by kernel_rfl) hmix an ?_
    refine aw_ret (by kernel_rfl) ?_
    replace h := Option.some.inj h; subst h
    exact ⟨.inr rfl, Nat.le_of_ble_eq_true rfl, by kernel_rfl⟩
  intro g_3; replace h := cond_f g_3 h
  refine aw_skip (by kernel_rfl) ?_
  refine aw_seq (by kernel_rfl) ?_
  obtain ⟨_, h_3, h⟩ := bind_some h; replace h_3 := need_some h_3
  obtain ⟨_, h_4, h⟩ := bind_some h; replace h_4 := need_some h_4
  refine aw_region [(1, { n := (names_1).length }), (2, { id := 0 }), (4, { id := 1, l := (List.map AV.str ([] ++ names_1)), n := (([] ++ names_1)).length }), (6, { id := 2 }), (7, { id := 3, l := (List.map AV.str (([] ++ names_1) ++ ([s_1] : List (List Int)))), n := ((([] ++ names_1) ++ ([s_1] : List (List Int)))).length })] [4, 5, 6] [3] 4 (vals := [.int .i64 (((names_1).length : Nat) : Int), .own 3 (((([] ++ names_1) ++ ([s_1] : List (List Int)))).length), .int .i64 (0 : Int)]) (bxs := [.live (.row 9 1 (List.map AV.str (([] ++ names_1) ++ ([s_1] : List (List Int)))))]) (by kernel_rfl) hmix (ac (vc_len _ : ((List.map AV.str names_1)).length = (names_1).length) (ac (by first | (simp; done) | (simp; omega) : 0 = (([] : List AV)).length) (ac (trivial : True) (ac (by simp : (List.map AV.str ([] ++ names_1)) = [] ++ (List.map AV.str names_1)) (ac (by simp : (([] ++ names_1)).length = ((List.map AV.str ([] ++ names_1))).length) (ac (by first | (simp; done) | simpa using h_3 : (([] : List AV).length + ((List.map AV.str names_1) : List AV).length) * 16 ≤ 140737488355328) (ac (by first | (simp; done) | (simp; omega) : (([] ++ names_1)).length = ((List.map AV.str ([] ++ names_1))).length) (ac (by first | (simp; done) | (simp; omega) : 1 = ((List.map AV.str ([s_1] : List (List Int)))).length) (ac (vc_app _ _ : (List.map AV.str (([] ++ names_1) ++ ([s_1] : List (List Int)))) = (List.map AV.str ([] ++ names_1)) ++ (List.map AV.str ([s_1] : List (List Int)))) (ac (by simp : ((([] ++ names_1) ++ ([s_1] : List (List Int)))).length = ((List.map AV.str (([] ++ names_1) ++ ([s_1] : List (List Int))))).length) (ac (by first | (simp; done) | simpa using h_4 : (((List.map AV.str ([] ++ names_1)) : List AV).length + ((List.map AV.str ([s_1] : List (List Int))) : List AV).length) * 16 ≤ 140737488355328) an))))))))))) ?_
  refine aw_sub (sub_wkm [] [3] [.s 4, .a 5 (.sl false 1 (List.map AV.str (([] ++ names_1) ++ ([s_1] : List (List Int))))), .s 6] [] (sl2 := [(4, .int .i64 (((names_1).length : Nat) : Int)), (5, .sl false 1 (List.map AV.str (([] ++ names_1) ++ ([s_1] : List (List Int))))), (6, .int .i64 (0 : Int))]) (bx2 := []) (by kernel_rfl) (ac (by first | (simp; done) | (simp; omega) : ((([] ++ names_1) ++ ([s_1] : List (List Int)))).length = ((List.map AV.str (([] ++ names_1) ++ ([s_1] : List (List Int))))).length) (ac (rfl : 1 = 1) (ac (rfl : ((List.map AV.str (([] ++ names_1) ++ ([s_1] : List (List Int)))) : List AV) = (List.map AV.str (([] ++ names_1) ++ ([s_1] : List (List Int))))) (ac (rfl : (!false || false) = true) an))))) ?_
  refine aw_ret (by kernel_rfl) ?_
  replace h := Option.some.inj h; subst h
  exact ⟨.inr rfl, Nat.le_of_ble_eq_true rfl, by kernel_rfl⟩

theorem R06_PutStack_ok (F : Nat) (names_1 : List (List Int)) (stacks_1 : List (Arr2_Int)) (l_1 : List (List Int)) (r : Int × (List (List Int)) × (List (Arr2_Int)) × Int) (h : R06_PutStack F names_1 stacks_1 l_1 = some r) : TripleG prog 29 [] [] [.sl false 1 (List.map AV.str names_1), .sl false 2 (List.map e_Arr2_Int stacks_1), .sl false 1 (List.map AV.str l_1)] [] (.tuple [.int .i64 r.1, .sl false 1 (List.map AV.str r.2.1), .sl false 2 (List.map e_Arr2_Int r.2.2.1), .int .i64 r.2.2.2]) := by
  refine triple_intro (fn := Go.Proofs.Try.f29) (code := codeOf Go.Proofs.Try.f29) (by kernel_rfl) (by kernel_rfl) (Nat.le_of_ble_eq_true (by kernel_rfl)) ?_
  unfold R06_PutStack at h
  refine aw_seq (by kernel_rfl) ?_
  refine aw_region [] [0, 1, 2] [] 0 (vals := [.sl false 1 (List.map AV.str names_1), .sl false 2 (List.map e_Arr2_Int stacks_1), .sl false 1 (List.map AV.str l_1)]) (bxs := []) (by kernel_rfl) hmix an ?_
  refine aw_seq (by kernel_rfl) ?_
  obtain ⟨r_1, h_1, h⟩ := bind_some h
  refine aw_region [(1, { av := .int .i64 r_1, l := [.sl false 1 (List.map AV.str l_1)] })] [0, 1, 2, 10] [] 0 (vals := [.sl false 1 (List.map AV.str names_1), .sl false 2 (List.map e_Arr2_Int stacks_1), .sl false 1 (List.map AV.str l_1), .int .i64 r_1]) (bxs := []) (by kernel_rfl) hmix (ac (rfl : ([.sl false 1 (List.map AV.str l_1)] : List AV) = [.sl false 1 (List.map AV.str l_1)]) (ac (rfl : ([] : List BoxSt) = []) (ac (R06_Frames_ok F l_1 r_1 h_1 : TripleG prog 52 [] [] [.sl false 1 (List.map AV.str l_1)] [] (.int .i64 r_1)) an))) ?_
  refine aw_seq (by kernel_rfl) ?_
  refine aw_seq (by kernel_rfl) ?_
  refine aw_region [] [0, 1, 2, 10, 22] [] 0 (vals := [.sl false 1 (List.map AV.str names_1), .sl false 2 (List.map e_Arr2_Int stacks_1), .sl false 1 (List.map AV.str l_1), .int .i64 r_1, .bool (r_1 != (0 : Int))]) (bxs := []) (by kernel_rfl) hmix an ?_
  refine aw_cond (t := 22) (b := (r_1 != (0 : Int))) (by kernel_rfl) (by kernel_rfl) ?_ ?_
  · intro g_1; replace h := cond_t g_1 h
    refine aw_seq (by kernel_rfl) ?_
    refine aw_region [] [6, 7, 8, 9] [] 0 (vals := [.int .i64 (0 : Int), .sl false 1 (List.map AV.str names_1), .sl false 2 (List.map e_Arr2_Int stacks_1), .int .i64 r_1]) (bxs := []) (by kernel_rfl) hmix an ?_
    refine aw_ret (by kernel_rfl) ?_
    replace h := Option.some.inj h; subst h
    exact ⟨.inr rfl, Nat.le_of_ble_eq_true rfl, by kernel_rfl⟩
  intro g_1; replace h := cond_f g_1 h
  refine aw_skip (by kernel_rfl) ?_
  refine aw_seq (by kernel_rfl) ?_
  refine aw_region [] [0, 1, 2, 11] [] 0 (vals := [.sl false 1 (List.map AV.str names_1), .sl false 2 (List.map e_Arr2_Int stacks_1), .sl false 1 (List.map AV.str l_1), .int .i64 (-1 : Int)]) (bxs := []) (by kernel_rfl) hmix an ?_
  refine aw_seq (by kernel_rfl) ?_
  refine aw_region [] [0, 1, 2, 11, 12] [] 0 (vals := [.sl false 1 (List.map AV.str names_1), .sl false 2 (List.map e_Arr2_Int stacks_1), .sl false 1 (List.map AV.str l_1), .int .i64 (-1 : Int), .sl false 1 (List.map AV.str names_1)]) (bxs := []) (by kernel_rfl) hmix an ?_
  refine aw_seq (by kernel_rfl) ?_
  obtain ⟨_, h_2, h⟩ := bind_some h; replace h_2 := need_some h_2
  refine aw_region [(0, { id := 0 }), (2, { id := 1, l := (List.map e_Arr2_Int ([] ++ stacks_1)), n := (([] ++ stacks_1)).length })] [0, 1, 2, 11, 12, 13] [1] 2 (vals := [.sl false 1 (List.map AV.str names_1), .sl false 2 (List.map e_Arr2_Int stacks_1), .sl false 1 (List.map AV.str l_1), .int .i64 (-1 : Int), .sl false 1 (List.map AV.str names_1), .own 1 ((([] ++ stacks_1)).length)]) (bxs := [.live (.row 67 2 (List.map e_Arr2_Int ([] ++ stacks_1)))]) (by kernel_rfl) hmix (ac (by first | (simp; done) | (simp; omega) : 0 = (([] : List AV)).length) (ac (trivial : True) (ac (by simp : (List.map e_Arr2_Int ([] ++ stacks_1)) = [] ++ (List.map e_Arr2_Int stacks_1)) (ac (by simp : (([] ++ stacks_1)).length = ((List.map e_Arr2_Int ([] ++ stacks_1))).length) (ac (by first | (simp; done) | simpa using h_2 : (([] : List AV).length + ((List.map e_Arr2_Int stacks_1) : List AV).length) * 16 ≤ 140737488355328) an))))) ?_
  refine aw_seq (by kernel_rfl) ?_
  refine aw_seq (by kernel_rfl) ?_
  refine aw_region [] [0, 1, 2, 11, 12, 13, 14] [1] 2 (vals := [.sl false 1 (List.map AV.str names_1), .sl false 2 (List.map e_Arr2_Int stacks_1), .sl false 1 (List.map AV.str l_1), .int .i64 (-1 : Int), .sl false 1 (List.map AV.str names_1), .own 1 ((([] ++ stacks_1)).length), .int .i64 (0 : Int)]) (bxs := [.live (.row 67 2 (List.map e_Arr2_Int ([] ++ stacks_1)))]) (by kernel_rfl) hmix an ?_
  obtain ⟨o_1, h_3, h⟩ := bind_some h
  refine aw_conv (K1 := (fun e st' => match o_1 with | (.inl q0) => e = .normal ∧ Sub 0 st' (mk [(11, .int .i64 q0.1), (12, .sl false 1 (List.map AV.str q0.2.1)), (13, .own 0 ((q0.2.2).length))] [(0, .live (.row 67 2 (List.map e_Arr2_Int q0.2.2)))] 1) | (.inr q1) => e = .ret ∧ FinR prog Go.Proofs.Try.f29 0 [] (.tuple [.int .i64 q1.1, .sl false 1 (List.map AV.str q1.2.1), .sl false 2 (List.map e_Arr2_Int q1.2.2.1), .int .i64 q1.2.2.2]) st')) ?_ ?_
  · replace h := h_3
    refine aw_block (id := 0) (by kernel_rfl) ?_
    refine aw_sub (sub_wkm [1] [] [.s 0, .s 1, .s 2, .s 11, .s 12, .s 13, .s 14] [.s 0] (sl2 := [(0, .sl false 1 (List.map AV.str names_1)), (1, .sl false 2 (List.map e_Arr2_Int stacks_1)), (2, .sl false 1 (List.map AV.str l_1)), (11, .int .i64 (-1 : Int)), (12, .sl false 1 (List.map AV.str names_1)), (13, .own 0 ((([] ++ stacks_1)).length)), (14, .int .i64 (0 : Int))]) (bx2 := [(0, .live (.row 67 2 (List.map e_Arr2_Int ([] ++ stacks_1))))]) (by kernel_rfl) an) ?_
    refine aw_loopF (fun n st => ∃ (at__1 : Int), ∃ (n_1 : List (List Int)), ∃ (k_1 : Int), ∃ (row_1 : List Arr2_Int), st = mk [(0, .sl false 1 (List.map AV.str names_1)), (1, .sl false 2 (List.map e_Arr2_Int stacks_1)), (2, .sl false 1 (List.map AV.str l_1)), (11, .int .i64 at__1), (12, .sl false 1 (List.map AV.str n_1)), (13, .own 0 ((row_1).length)), (14, .int .i64 k_1)] [(0, .live (.row 67 2 (List.map e_Arr2_Int row_1)))] 1 ∧ R06_PutStack_L1 F names_1 stacks_1 l_1 n at__1 n_1 k_1 row_1 = some o_1) F (by kernel_rfl) ⟨_, _, _, _, rfl, h⟩ ?_ ?_
    · rintro _ ⟨_, _, _, _, _, h⟩; exact none_ne (h : (none : Option ((Int × (List (List Int)) × (List Arr2_Int)) ⊕ (Int × (List (List Int)) × (List (Arr2_Int)) × Int))) = some o_1)
    rintro n_2 _ ⟨at__1, n_1, k_1, row_1, rfl, h⟩
    replace h : R06_PutStack_L1_body F names_1 stacks_1 l_1 (R06_PutStack_L1 F names_1 stacks_1 l_1 n_2) at__1 n_1 k_1 row_1 = some o_1 := h
    unfold R06_PutStack_L1_body at h
    refine aw_seq (by kernel_rfl) ?_
    refine aw_seq (by kernel_rfl) ?_
    refine aw_region [(2, { n := (l_1).length })] [0, 1, 2, 11, 12, 13, 14, 33] [0] 1 (vals := [.sl false 1 (List.map AV.str names_1), .sl false 2 (List.map e_Arr2_Int stacks_1), .sl false 1 (List.map AV.str l_1), .int .i64 at__1, .sl false 1 (List.map AV.str n_1), .own 0 ((row_1).length), .int .i64 k_1, .bool (decide (k_1 < (((l_1).length : Nat) : Int)))]) (bxs := [.live (.row 67 2 (List.map e_Arr2_Int row_1))]) (by kernel_rfl) hmix (ac (vc_len _ : ((List.map AV.str l_1)).length = (l_1).length) an) ?_
    refine aw_cond (t := 33) (b := (decide (k_1 < (((l_1).length : Nat) : Int)))) (by kernel_rfl) (by kernel_rfl) ?_ ?_
    rotate_left
    · intro g_2; replace h := cond_f g_2 h
      refine aw_exit (id := 0) (by kernel_rfl) ?_
      replace h := Option.some.inj h; subst h
      exact ⟨rfl, (sub_wkm [0] [] [.s 11, .s 12, .s 13] [.s 0] (by kernel_rfl) an)⟩
    intro g_2; replace h := cond_t g_2 h
    refine aw_skip (by kernel_rfl) ?_
    refine aw_seq (by kernel_rfl) ?_
    obtain ⟨o_2, h_4, h⟩ := bind_some h
    refine aw_conv (K1 := (fun e st' => match o_2 with | (.inl q0) => e = .normal ∧ Sub 0 st' (mk [(0, .sl false 1 (List.map AV.str names_1)), (1, .sl false 2 (List.map e_Arr2_Int stacks_1)), (2, .sl false 1 (List.map AV.str l_1)), (11, .int .i64 q0.1), (12, .sl false 1 (List.map AV.str q0.2.1)), (13, .own 0 ((q0.2.2).length)), (14, .int .i64 k_1)] [(0, .live (.row 67 2 (List.map e_Arr2_Int q0.2.2)))] 1) | (.inr q1) => e = .ret ∧ FinR prog Go.Proofs.Try.f29 0 [] (.tuple [.int .i64 q1.1, .sl false 1 (List.map AV.str q1.2.1), .sl false 2 (List.map e_Arr2_Int q1.2.2.1), .int .i64 q1.2.2.2]) st')) ?_ ?_
    · replace h := h_4
      refine aw_block (id := 1) (by kernel_rfl) ?_
      refine aw_seq (by kernel_rfl) ?_
      obtain ⟨x_1, h_5, h⟩ := bind_some h
      obtain ⟨r_2, h_6, h⟩ := bind_some h
      refine aw_region [(3, { av := .str x_1 }), (5, { av := .tuple [.int .i64 r_2.1, .sl false 1 (List.map AV.str r_2.2.1), .int .i64 r_2.2.2], l := [.sl false 1 (List.map AV.str n_1), .str x_1] })] [0, 1, 2, 11, 13, 14, 15, 16, 17] [0] 1 (vals := [.sl false 1 (List.map AV.str names_1), .sl false 2 (List.map e_Arr2_Int stacks_1), .sl false 1 (List.map AV.str l_1), .int .i64 at__1, .own 0 ((row_1).length), .int .i64 k_1, .int .i64 r_2.1, .sl false 1 (List.map AV.str r_2.2.1), .int .i64 r_2.2.2]) (bxs := [.live (.row 67 2 (List.map e_Arr2_Int row_1))]) (by kernel_rfl) hmix (ac (vc_idx h_5 : idxA (List.map AV.str l_1) k_1 = some (.str x_1)) (ac (rfl : ([.sl false 1 (List.map AV.str n_1), .str x_1] : List AV) = [.sl false 1 (List.map AV.str n_1), .str x_1]) (ac (rfl : ([] : List BoxSt) = []) (ac (R06_Put_ok F n_1 x_1 r_2 h_6 : TripleG prog 28 [] [] [.sl false 1 (List.map AV.str n_1), .str x_1] [] (.tuple [.int .i64 r_2.1, .sl false 1 (List.map AV.str r_2.2.1), .int .i64 r_2.2.2])) an)))) ?_
      refine aw_seq (by kernel_rfl) ?_
      refine aw_seq (by kernel_rfl) ?_
      refine aw_region [] [0, 1, 2, 11, 13, 14, 15, 16, 17, 47] [0] 1 (vals := [.sl false 1 (List.map AV.str names_1), .sl false 2 (List.map e_Arr2_Int stacks_1), .sl false 1 (List.map AV.str l_1), .int .i64 at__1, .own 0 ((row_1).length), .int .i64 k_1, .int .i64 r_2.1, .sl false 1 (List.map AV.str r_2.2.1), .int .i64 r_2.2.2, .bool (r_2.2.2 != (0 : Int))]) (bxs := [.live (.row 67 2 (List.map e_Arr2_Int row_1))]) (by kernel_rfl) hmix an ?_
      refine aw_cond (t := 47) (b := (r_2.2.2 != (0 : Int))) (by kernel_rfl) (by kernel_rfl) ?_ ?_
      · intro g_3; replace h := cond_t g_3 h
        refine aw_seq (by kernel_rfl) ?_
        refine aw_region [] [6, 7, 8, 9] [] 1 (vals := [.int .i64 (0 : Int), .sl false 1 (List.map AV.str names_1), .sl false 2 (List.map e_Arr2_Int stacks_1), .int .i64 r_2.2.2]) (bxs := []) (by kernel_rfl) hmix an ?_
        refine aw_ret (by kernel_rfl) ?_
        replace h := Option.some.inj h; subst h
        exact ⟨rfl, Nat.le_of_ble_eq_true rfl, by kernel_rfl⟩
      intro g_3; replace h := cond_f g_3 h
      refine aw_skip (by kernel_rfl) ?_
      refine aw_seq (by kernel_rfl) ?_
      refine aw_region [] [0, 1, 2, 11, 12, 13, 14, 15] [0] 1 (vals := [.sl false 1 (List.map AV.str names_1), .sl false 2 (List.map e_Arr2_Int stacks_1), .sl false 1 (List.map AV.str l_1), .int .i64 at__1, .sl false 1 (List.map AV.str r_2.2.1), .own 0 ((row_1).length), .int .i64 k_1, .int .i64 r_2.1]) (bxs := [.live (.row 67 2 (List.map e_Arr2_Int row_1))]) (by kernel_rfl) hmix an ?_
      refine aw_seq (by kernel_rfl) ?_
      refine aw_region [(3, { id := 1 })] [0, 1, 2, 12, 13, 14, 18] [0, 1] 2 (vals := [.sl false 1 (List.map AV.str names_1), .sl false 2 (List.map e_Arr2_Int stacks_1), .sl false 1 (List.map AV.str l_1), .sl false 1 (List.map AV.str r_2.2.1), .own 0 ((row_1).length), .int .i64 k_1, .ptr 1 0 0 0]) (bxs := [.live (.row 67 2 (List.map e_Arr2_Int row_1)), .live (.var 67 [.int .i64 at__1, .int .i64 r_2.1])]) (by kernel_rfl) hmix an ?_
      refine aw_seq (by kernel_rfl) ?_
      obtain ⟨r_3, h_7, h⟩ := bind_some h
      refine aw_region [(2, { av := .int .i64 r_3, l := [.sl false 2 (List.map e_Arr2_Int row_1), .agg [.int .i64 at__1, .int .i64 r_2.1]], lend := [0] })] [0, 1, 2, 11, 12, 13, 14, 18] [0, 1] 2 (vals := [.sl false 1 (List.map AV.str names_1), .sl false 2 (List.map e_Arr2_Int stacks_1), .sl false 1 (List.map AV.str l_1), .int .i64 r_3, .sl false 1 (List.map AV.str r_2.2.1), .own 0 ((row_1).length), .int .i64 k_1, .ptr 1 0 0 0]) (bxs := [.live (.row 67 2 (List.map e_Arr2_Int row_1)), .live (.var 67 [.int .i64 at__1, .int .i64 r_2.1])]) (by kernel_rfl) hmix (ac (by first | (simp; done) | (simp; omega) : (row_1).length = ((List.map e_Arr2_Int row_1)).length) (ac (rfl : ([.sl false 2 (List.map e_Arr2_Int row_1), .agg [.int .i64 at__1, .int .i64 r_2.1]] : List AV) = [.sl false 2 (List.map e_Arr2_Int row_1), .agg [.int .i64 at__1, .int .i64 r_2.1]]) (ac (rfl : ([] : List BoxSt) = []) (ac (triple_lo (args' := [.sl false 2 (List.map e_Arr2_Int row_1), .agg [.int .i64 ((⟨at__1, r_2.1⟩ : Arr2_Int).c0), .int .i64 ((⟨at__1, r_2.1⟩ : Arr2_Int).c1)]]) (R06_FindStack_ok F row_1 (⟨at__1, r_2.1⟩ : Arr2_Int) r_3 h_7) rfl ⟨rfl, rfl, rfl, rfl, rfl, trivial⟩ : TripleG prog 49 [] [] [.sl false 2 (List.map e_Arr2_Int row_1), .agg [.int .i64 at__1, .int .i64 r_2.1]] [] (.int .i64 r_3)) an)))) ?_
      refine aw_seq (by kernel_rfl) ?_
      refine aw_seq (by kernel_rfl) ?_
      refine aw_region [] [0, 1, 2, 11, 12, 13, 14, 18, 59] [0, 1] 2 (vals := [.sl false 1 (List.map AV.str names_1), .sl false 2 (List.map e_Arr2_Int stacks_1), .sl false 1 (List.map AV.str l_1), .int .i64 r_3, .sl false 1 (List.map AV.str r_2.2.1), .own 0 ((row_1).length), .int .i64 k_1, .ptr 1 0 0 0, .bool (decide (r_3 ≥ (0 : Int)))]) (bxs := [.live (.row 67 2 (List.map e_Arr2_Int row_1)), .live (.var 67 [.int .i64 at__1, .int .i64 r_2.1])]) (by kernel_rfl) hmix an ?_
      refine aw_cond (t := 59) (b := (decide (r_3 ≥ (0 : Int)))) (by kernel_rfl) (by kernel_rfl) ?_ ?_
      · intro g_4; replace h := cond_t g_4 h
        refine aw_exit (id := 1) (by kernel_rfl) ?_
        replace h := Option.some.inj h; subst h
        exact ⟨rfl, (sub_wkm [0] [] [.s 0, .s 1, .s 2, .s 11, .s 12, .s 13, .s 14] [.s 0] (by kernel_rfl) an)⟩
      intro g_4; replace h := cond_f g_4 h
      refine aw_skip (by kernel_rfl) ?_
      refine aw_seq (by kernel_rfl) ?_
      refine aw_seq (by kernel_rfl) ?_
      refine aw_region [] [0, 1, 2, 12, 13, 14, 18, 62] [0, 1] 2 (vals := [.sl false 1 (List.map AV.str names_1), .sl false 2 (List.map e_Arr2_Int stacks_1), .sl false 1 (List.map AV.str l_1), .sl false 1 (List.map AV.str r_2.2.1), .own 0 ((row_1).length), .int .i64 k_1, .ptr 1 0 0 0, .bool (decide ((((row_1).length : Nat) : Int) ≥ (1000 : Int)))]) (bxs := [.live (.row 67 2 (List.map e_Arr2_Int row_1)), .live (.var 67 [.int .i64 at__1, .int .i64 r_2.1])]) (by kernel_rfl) hmix an ?_
      refine aw_cond (t := 62) (b := (decide ((((row_1).length : Nat) : Int) ≥ (1000 : Int)))) (by kernel_rfl) (by kernel_rfl) ?_ ?_
      · intro g_5; replace h := cond_t g_5 h
        refine aw_seq (by kernel_rfl) ?_
        refine aw_region [] [6, 7, 8, 9] [] 2 (vals := [.int .i64 (0 : Int), .sl false 1 (List.map AV.str names_1), .sl false 2 (List.map e_Arr2_Int stacks_1), .int .i64 (6 : Int)]) (bxs := []) (by kernel_rfl) hmix an ?_
        refine aw_ret (by kernel_rfl) ?_
        replace h := Option.some.inj h; subst h
        exact ⟨rfl, Nat.le_of_ble_eq_true rfl, by kernel_rfl⟩
      intro g_5; replace h := cond_f g_5 h
      refine aw_skip (by kernel_rfl) ?_
      refine aw_seq (by kernel_rfl) ?_
      refine aw_region [] [0, 1, 2, 11, 12, 13, 14, 18] [0, 1] 2 (vals := [.sl false 1 (List.map AV.str names_1), .sl false 2 (List.map e_Arr2_Int stacks_1), .sl false 1 (List.map AV.str l_1), .int .i64 (((row_1).length : Nat) : Int), .sl false 1 (List.map AV.str r_2.2.1), .own 0 ((row_1).length), .int .i64 k_1, .ptr 1 0 0 0]) (bxs := [.live (.row 67 2 (List.map e_Arr2_Int row_1)), .live (.var 67 [.int .i64 at__1, .int .i64 r_2.1])]) (by kernel_rfl) hmix an ?_
      obtain ⟨_, h_8, h⟩ := bind_some h; replace h_8 := need_some h_8
      refine aw_region [(2, { id := 2 }), (3, { id := 3, l := (List.map e_Arr2_Int (row_1 ++ ([(⟨at__1, r_2.1⟩ : Arr2_Int)] : List Arr2_Int))), n := ((row_1 ++ ([(⟨at__1, r_2.1⟩ : Arr2_Int)] : List Arr2_Int))).length })] [0, 1, 2, 11, 12, 13, 14] [3] 4 (vals := [.sl false 1 (List.map AV.str names_1), .sl false 2 (List.map e_Arr2_Int stacks_1), .sl false 1 (List.map AV.str l_1), .int .i64 (((row_1).length : Nat) : Int), .sl false 1 (List.map AV.str r_2.2.1), .own 3 (((row_1 ++ ([(⟨at__1, r_2.1⟩ : Arr2_Int)] : List Arr2_Int))).length), .int .i64 k_1]) (bxs := [.live (.row 67 2 (List.map e_Arr2_Int (row_1 ++ ([(⟨at__1, r_2.1⟩ : Arr2_Int)] : List Arr2_Int))))]) (by kernel_rfl) hmix (ac (by first | (simp; done) | (simp; omega) : (row_1).length = ((List.map e_Arr2_Int row_1)).length) (ac (by first | (simp; done) | (simp; omega) : 1 = ((List.map e_Arr2_Int ([(⟨at__1, r_2.1⟩ : Arr2_Int)] : List Arr2_Int))).length) (ac (vc_app _ _ : (List.map e_Arr2_Int (row_1 ++ ([(⟨at__1, r_2.1⟩ : Arr2_Int)] : List Arr2_Int))) = (List.map e_Arr2_Int row_1) ++ (List.map e_Arr2_Int ([(⟨at__1, r_2.1⟩ : Arr2_Int)] : List Arr2_Int))) (ac (by simp : ((row_1 ++ ([(⟨at__1, r_2.1⟩ : Arr2_Int)] : List Arr2_Int))).length = ((List.map e_Arr2_Int (row_1 ++ ([(⟨at__1, r_2.1⟩ : Arr2_Int)] : List Arr2_Int)))).length) (ac (by first | (simp; done) | simpa using h_8 : (((List.map e_Arr2_Int row_1) : List AV).length + ((List.map e_Arr2_Int ([(⟨at__1, r_2.1⟩ : Arr2_Int)] : List Arr2_Int)) : List AV).length) * 16 ≤ 140737488355328) an))))) ?_
      replace h := Option.some.inj h; subst h
      exact ⟨rfl, (sub_wkm [3] [] [.s 0, .s 1, .s 2, .s 11, .s 12, .s 13, .s 14] [.s 0] (by kernel_rfl) an)⟩
    intro e st1 hk
    rcases o_2 with q_1 | q_2
    rotate_left
    · obtain ⟨rfl, hf⟩ := hk
      replace h := Option.some.inj h; subst h
      exact ⟨_, Sub.refl _ _, rfl, hf⟩
    obtain ⟨rfl, hs⟩ := hk
    refine ⟨_, hs, ?_⟩
    refine aw_region [] [0, 1, 2, 11, 12, 13, 14] [0] 1 (vals := [.sl false 1 (List.map AV.str names_1), .sl false 2 (List.map e_Arr2_Int stacks_1), .sl false 1 (List.map AV.str l_1), .int .i64 q_1.1, .sl false 1 (List.map AV.str q_1.2.1), .own 0 ((q_1.2.2).length), .int .i64 (w_i64 (k_1 + (1 : Int)))]) (bxs := [.live (.row 67 2 (List.map e_Arr2_Int q_1.2.2))]) (by kernel_rfl) hmix an ?_
    exact ⟨_, (sub_wkm [0] [] [.s 0, .s 1, .s 2, .s 11, .s 12, .s 13, .s 14] [.s 0] (by kernel_rfl) an), _, _, _, _, rfl, h⟩
  intro e st1 hk
  rcases o_1 with q_3 | q_4
  rotate_left
  · obtain ⟨rfl, hf⟩ := hk
    replace h := Option.some.inj h; subst h
    exact ⟨st1, Sub.refl _ _, .inr rfl, hf⟩
  obtain ⟨rfl, hs⟩ := hk
  refine ⟨_, hs, ?_⟩
  refine aw_seq (by kernel_rfl) ?_
  refine aw_region [] [6, 7, 8, 9] [0] 1 (vals := [.int .i64 q_3.1, .sl false 1 (List.map AV.str q_3.2.1), .own 0 ((q_3.2.2).length), .int .i64 (0 : Int)]) (bxs := [.live (.row 67 2 (List.map e_Arr2_Int q_3.2.2))]) (by kernel_rfl) hmix an ?_
  refine aw_sub (sub_wkm [] [0] [.s 6, .s 7, .a 8 (.sl false 2 (List.map e_Arr2_Int q_3.2.2)), .s 9] [] (sl2 := [(6, .int .i64 q_3.1), (7, .sl false 1 (List.map AV.str q_3.2.1)), (8, .sl false 2 (List.map e_Arr2_Int q_3.2.2)), (9, .int .i64 (0 : Int))]) (bx2 := []) (by kernel_rfl) (ac (by first | (simp; done) | (simp; omega) : (q_3.2.2).length = ((List.map e_Arr2_Int q_3.2.2)).length) (ac (rfl : 2 = 2) (ac (rfl : ((List.map e_Arr2_Int q_3.2.2) : List AV) = (List.map e_Arr2_Int q_3.2.2)) (ac (rfl : (!false || false) = true) an))))) ?_
  refine aw_ret (by kernel_rfl) ?_
  replace h := Option.some.inj h; subst h
  exact ⟨.inr rfl, Nat.le_of_ble_eq_true rfl, by kernel_rfl⟩

theorem R05_number_ok (n_1 : Int) (r : Int) (h : R05_number n_1 = some r) : TripleG prog 62 [] [] [.int .i64 n_1] [] (.int .u64 r) := by
  refine triple_intro (fn := Go.Proofs.Try.f62) (code := codeOf Go.Proofs.Try.f62) (by kernel_rfl) (by kernel_rfl) (Nat.le_of_ble_eq_true (by kernel_rfl)) ?_
  unfold R05_number at h
  refine aw_seq (by kernel_rfl) ?_
  refine aw_region [] [0] [] 0 (vals := [.int .i64 n_1]) (bxs := []) (by kernel_rfl) hmix an ?_
  refine aw_seq (by kernel_rfl) ?_
  refine aw_seq (by kernel_rfl) ?_
  refine aw_region [] [0, 4] [] 0 (vals := [.int .i64 n_1, .bool (decide (n_1 < (0 : Int)))]) (bxs := []) (by kernel_rfl) hmix an ?_
  refine aw_cond (t := 4) (b := (decide (n_1 < (0 : Int)))) (by kernel_rfl) (by kernel_rfl) ?_ ?_
  · intro g_1; replace h := cond_t g_1 h
    refine aw_seq (by kernel_rfl) ?_
    refine aw_region [] [2] [] 0 (vals := [.int .u64 (w_u64 ((w_u64 ((2 : Int) * (w_u64 (w_i64 (0 - (w_i64 (n_1 + (1 : Int)))))))) + (1 : Int)))]) (bxs := []) (by kernel_rfl) hmix an ?_
    refine aw_ret (by kernel_rfl) ?_
    replace h := Option.some.inj h; subst h
    exact ⟨.inr rfl, Nat.le_of_ble_eq_true rfl, by kernel_rfl⟩
  intro g_1; replace h := cond_f g_1 h
  refine aw_skip (by kernel_rfl) ?_
  refine aw_seq (by kernel_rfl) ?_
  refine aw_region [] [2] [] 0 (vals := [.int .u64 (w_u64 ((2 : Int) * (w_u64 n_1)))]) (bxs := []) (by kernel_rfl) hmix an ?_
  refine aw_ret (by kernel_rfl) ?_
  replace h := Option.some.inj h; subst h
  exact ⟨.inr rfl, Nat.le_of_ble_eq_true rfl, by kernel_rfl⟩

theorem R05_PutInt_ok (F : Nat) (b_1 : List (Int)) (n_1 : Int) (r : (List (Int))) (h : R05_PutInt F b_1 n_1 = some r) : TripleG prog 54 [] [] [.sl false 1 (List.map (AV.int .u8) b_1), .int .i64 n_1] [.row 5 1 (List.map (AV.int .u8) r)] (.own 0 ((r).length)) := by
  refine triple_intro (fn := Go.Proofs.Try.f54) (code := codeOf Go.Proofs.Try.f54) (by kernel_rfl) (by kernel_rfl) (Nat.le_of_ble_eq_true (by kernel_rfl)) ?_
  unfold R05_PutInt at h
  refine aw_seq (by kernel_rfl) ?_
  refine aw_region [(0, { id := 0, m := 1 })] [0, 1] [] 1 (vals := [.sl false 1 (List.map (AV.int .u8) b_1), .int .i64 n_1]) (bxs := []) (by kernel_rfl) hmix an ?_
  refine aw_seq (by kernel_rfl) ?_
  obtain ⟨_, h_1, h⟩ := bind_some h; replace h_1 := need_some h_1
  refine aw_region [(0, { id := 1 }), (2, { id := 2, l := (List.map (AV.int .u8) ([] ++ b_1)), n := (([] ++ b_1)).length })] [1, 5] [2] 3 (vals := [.int .i64 n_1, .own 2 ((([] ++ b_1)).length)]) (bxs := [.live (.row 5 1 (List.map (AV.int .u8) ([] ++ b_1)))]) (by kernel_rfl) hmix (ac (by first | (simp; done) | (simp; omega) : 0 = (([] : List AV)).length) (ac (trivial : True) (ac (by simp : (List.map (AV.int .u8) ([] ++ b_1)) = [] ++ (List.map (AV.int .u8) b_1)) (ac (by simp : (([] ++ b_1)).length = ((List.map (AV.int .u8) ([] ++ b_1))).length) (ac (by first | (simp; done) | simpa using h_1 : (([] : List AV).length + ((List.map (AV.int .u8) b_1) : List AV).length) * 1 ≤ 140737488355328) an))))) ?_
  refine aw_seq (by kernel_rfl) ?_
  obtain ⟨r_1, h_2, h⟩ := bind_some h
  refine aw_region [(1, { av := .int .u64 r_1, l := [.int .i64 n_1] })] [5, 6] [2] 3 (vals := [.own 2 ((([] ++ b_1)).length), .int .u64 r_1]) (bxs := [.live (.row 5 1 (List.map (AV.int .u8) ([] ++ b_1)))]) (by kernel_rfl) hmix (ac (rfl : ([.int .i64 n_1] : List AV) = [.int .i64 n_1]) (ac (rfl : ([] : List BoxSt) = []) (ac (R05_number_ok n_1 r_1 h_2 : TripleG prog 62 [] [] [.int .i64 n_1] [] (.int .u64 r_1)) an))) ?_
  refine aw_seq (by kernel_rfl) ?_
  obtain ⟨o_1, h_3, h⟩ := bind_some h
  refine aw_mid (mk [(5, .own 0 ((o_1.2).length)), (6, .int .u64 o_1.1)] [(0, .live (.row 5 1 (List.map (AV.int .u8) o_1.2)))] 1) ?_ ?_
  · replace h := h_3
    refine aw_block (id := 0) (by kernel_rfl) ?_
    refine aw_sub (sub_wkm [2] [] [.s 5, .s 6] [.s 0] (sl2 := [(5, .own 0 ((([] ++ b_1)).length)), (6, .int .u64 r_1)]) (bx2 := [(0, .live (.row 5 1 (List.map (AV.int .u8) ([] ++ b_1))))]) (by kernel_rfl) an) ?_
    refine aw_loopF (fun n st => ∃ (u_1 : Int), ∃ (row_1 : List Int), st = mk [(5, .own 0 ((row_1).length)), (6, .int .u64 u_1)] [(0, .live (.row 5 1 (List.map (AV.int .u8) row_1)))] 1 ∧ R05_PutInt_L1 F n u_1 row_1 = some o_1) F (by kernel_rfl) ⟨_, _, rfl, h⟩ ?_ ?_
    · rintro _ ⟨_, _, _, h⟩; exact none_ne (h : (none : Option (Int × (List Int))) = some o_1)
    rintro n_2 _ ⟨u_1, row_1, rfl, h⟩
    replace h : R05_PutInt_L1_body F (R05_PutInt_L1 F n_2) u_1 row_1 = some o_1 := h
    unfold R05_PutInt_L1_body at h
    refine aw_seq (by kernel_rfl) ?_
    refine aw_seq (by kernel_rfl) ?_
    refine aw_region [] [5, 6, 13] [0] 1 (vals := [.own 0 ((row_1).length), .int .u64 u_1, .bool (decide (u_1 ≥ (128 : Int)))]) (bxs := [.live (.row 5 1 (List.map (AV.int .u8) row_1))]) (by kernel_rfl) hmix an ?_
    refine aw_cond (t := 13) (b := (decide (u_1 ≥ (128 : Int)))) (by kernel_rfl) (by kernel_rfl) ?_ ?_
    rotate_left
    · intro g_1; replace h := cond_f g_1 h
      refine aw_exit (id := 0) (by kernel_rfl) ?_
      replace h := Option.some.inj h; subst h
      exact ⟨rfl, (sub_wkm [0] [] [.s 5, .s 6] [.s 0] (by kernel_rfl) an)⟩
    intro g_1; replace h := cond_t g_1 h
    refine aw_skip (by kernel_rfl) ?_
    refine aw_block (id := 1) (by kernel_rfl) ?_
    refine aw_seq (by kernel_rfl) ?_
    obtain ⟨_, h_4, h⟩ := bind_some h; replace h_4 := need_some h_4
    refine aw_region [(5, { id := 1 }), (6, { id := 2, l := (List.map (AV.int .u8) (row_1 ++ ([w_u8 ((w_u8 (irem u_1 (128 : Int))) + (128 : Int))] : List Int))), n := ((row_1 ++ ([w_u8 ((w_u8 (irem u_1 (128 : Int))) + (128 : Int))] : List Int))).length })] [5, 6] [2] 3 (vals := [.own 2 (((row_1 ++ ([w_u8 ((w_u8 (irem u_1 (128 : Int))) + (128 : Int))] : List Int))).length), .int .u64 u_1]) (bxs := [.live (.row 5 1 (List.map (AV.int .u8) (row_1 ++ ([w_u8 ((w_u8 (irem u_1 (128 : Int))) + (128 : Int))] : List Int))))]) (by kernel_rfl) hmix (ac (by decide : (128 : Int) ≠ (0 : Int)) (ac (by first | (simp; done) | (simp; omega) : (row_1).length = ((List.map (AV.int .u8) row_1)).length) (ac (by first | (simp; done) | (simp; omega) : 1 = ((List.map (AV.int .u8) ([w_u8 ((w_u8 (irem u_1 (128 : Int))) + (128 : Int))] : List Int))).length) (ac (vc_app _ _ : (List.map (AV.int .u8) (row_1 ++ ([w_u8 ((w_u8 (irem u_1 (128 : Int))) + (128 : Int))] : List Int))) = (List.map (AV.int .u8) row_1) ++ (List.map (AV.int .u8) ([w_u8 ((w_u8 (irem u_1 (128 : Int))) + (128 : Int))] : List Int))) (ac (by simp : ((row_1 ++ ([w_u8 ((w_u8 (irem u_1 (128 : Int))) + (128 : Int))] : List Int))).length = ((List.map (AV.int .u8) (row_1 ++ ([w_u8 ((w_u8 (irem u_1 (128 : Int))) + (128 : Int))] : List Int)))).length) (ac (by first | (simp; done) | simpa using h_4 : (((List.map (AV.int .u8) row_1) : List AV).length + ((List.map (AV.int .u8) ([w_u8 ((w_u8 (irem u_1 (128 : Int))) + (128 : Int))] : List Int)) : List AV).length) * 1 ≤ 140737488355328) an)))))) ?_
    refine aw_region [] [5, 6] [2] 3 (vals := [.own 2 (((row_1 ++ ([w_u8 ((w_u8 (irem u_1 (128 : Int))) + (128 : Int))] : List Int))).length), .int .u64 (iquo .u64 u_1 (128 : Int))]) (bxs := [.live (.row 5 1 (List.map (AV.int .u8) (row_1 ++ ([w_u8 ((w_u8 (irem u_1 (128 : Int))) + (128 : Int))] : List Int))))]) (by kernel_rfl) hmix (ac (by decide : (128 : Int) ≠ (0 : Int)) an) ?_
    exact ⟨_, (sub_wkm [2] [] [.s 5, .s 6] [.s 0] (by kernel_rfl) an), _, _, rfl, h⟩
  refine aw_seq (by kernel_rfl) ?_
  obtain ⟨_, h_5, h⟩ := bind_some h; replace h_5 := need_some h_5
  refine aw_region [(3, { id := 1 }), (4, { id := 2, l := (List.map (AV.int .u8) (o_1.2 ++ ([w_u8 o_1.1] : List Int))), n := ((o_1.2 ++ ([w_u8 o_1.1] : List Int))).length })] [5] [2] 3 (vals := [.own 2 (((o_1.2 ++ ([w_u8 o_1.1] : List Int))).length)]) (bxs := [.live (.row 5 1 (List.map (AV.int .u8) (o_1.2 ++ ([w_u8 o_1.1] : List Int))))]) (by kernel_rfl) hmix (ac (by first | (simp; done) | (simp; omega) : (o_1.2).length = ((List.map (AV.int .u8) o_1.2)).length) (ac (by first | (simp; done) | (simp; omega) : 1 = ((List.map (AV.int .u8) ([w_u8 o_1.1] : List Int))).length) (ac (vc_app _ _ : (List.map (AV.int .u8) (o_1.2 ++ ([w_u8 o_1.1] : List Int))) = (List.map (AV.int .u8) o_1.2) ++ (List.map (AV.int .u8) ([w_u8 o_1.1] : List Int))) (ac (by simp : ((o_1.2 ++ ([w_u8 o_1.1] : List Int))).length = ((List.map (AV.int .u8) (o_1.2 ++ ([w_u8 o_1.1] : List Int)))).length) (ac (by first | (simp; done) | simpa using h_5 : (((List.map (AV.int .u8) o_1.2) : List AV).length + ((List.map (AV.int .u8) ([w_u8 o_1.1] : List Int)) : List AV).length) * 1 ≤ 140737488355328) an))))) ?_
  refine aw_seq (by kernel_rfl) ?_
  refine aw_region [] [4] [2] 3 (vals := [.own 2 (((o_1.2 ++ ([w_u8 o_1.1] : List Int))).length)]) (bxs := [.live (.row 5 1 (List.map (AV.int .u8) (o_1.2 ++ ([w_u8 o_1.1] : List Int))))]) (by kernel_rfl) hmix an ?_
  refine aw_sub (sub_wkm [2] [] [.s 4] [.s 0] (sl2 := [(4, .own 0 (((o_1.2 ++ ([w_u8 o_1.1] : List Int))).length))]) (bx2 := [(0, .live (.row 5 1 (List.map (AV.int .u8) (o_1.2 ++ ([w_u8 o_1.1] : List Int)))))]) (by kernel_rfl) an) ?_
  refine aw_ret (by kernel_rfl) ?_
  replace h := Option.some.inj h; subst h
  exact ⟨.inr rfl, Nat.le_of_ble_eq_true rfl, by kernel_rfl⟩

theorem R08_joined_ok (F : Nat) (l_1 : List (Int)) (r : (List (Int))) (h : R08_joined F l_1 = some r) : TripleG prog 30 [] [] [.sl false 1 (List.map (AV.int .i64) l_1)] [] (.sl false 1 (List.map (AV.int .u8) r)) := by
  refine triple_intro (fn := Go.Proofs.Try.f30) (code := codeOf Go.Proofs.Try.f30) (by kernel_rfl) (by kernel_rfl) (Nat.le_of_ble_eq_true (by kernel_rfl)) ?_
  unfold R08_joined at h
  refine aw_seq (by kernel_rfl) ?_
  refine aw_region [] [0] [] 0 (vals := [.sl false 1 (List.map (AV.int .i64) l_1)]) (bxs := []) (by kernel_rfl) hmix an ?_
  refine aw_seq (by kernel_rfl) ?_
  refine aw_region [] [0, 3] [] 0 (vals := [.sl false 1 (List.map (AV.int .i64) l_1), .nilsl]) (bxs := []) (by kernel_rfl) hmix an ?_
  refine aw_seq (by kernel_rfl) ?_
  refine aw_seq (by kernel_rfl) ?_
  refine aw_region [] [0, 3, 4] [] 0 (vals := [.sl false 1 (List.map (AV.int .i64) l_1), .nilsl, .int .i64 (0 : Int)]) (bxs := []) (by kernel_rfl) hmix an ?_
  obtain ⟨o_1, h_1, h⟩ := bind_some h
  refine aw_mid (mk [(3, .sl false 1 (List.map (AV.int .u8) o_1))] [] 0) ?_ ?_
  · replace h := h_1
    refine aw_block (id := 0) (by kernel_rfl) ?_
    refine aw_sub (sub_wkm [] [] [.s 0, .a 3 (.sl false 1 []), .s 4] [] (sl2 := [(0, .sl false 1 (List.map (AV.int .i64) l_1)), (3, .sl false 1 []), (4, .int .i64 (0 : Int))]) (bx2 := []) (by kernel_rfl) (ac (rfl : ([] : List AV) = []) an)) ?_
    refine aw_loopF (fun n st => ∃ (out_1 : List Int), ∃ (i_1 : Int), st = mk [(0, .sl false 1 (List.map (AV.int .i64) l_1)), (3, .sl false 1 (List.map (AV.int .u8) out_1)), (4, .int .i64 i_1)] [] 0 ∧ R08_joined_L1 F l_1 n out_1 i_1 = some o_1) F (by kernel_rfl) ⟨_, _, rfl, h⟩ ?_ ?_
    · rintro _ ⟨_, _, _, h⟩; exact none_ne (h : (none : Option (List Int)) = some o_1)
    rintro n_1 _ ⟨out_1, i_1, rfl, h⟩
    replace h : R08_joined_L1_body F l_1 (R08_joined_L1 F l_1 n_1) out_1 i_1 = some o_1 := h
    unfold R08_joined_L1_body at h
    refine aw_seq (by kernel_rfl) ?_
    refine aw_seq (by kernel_rfl) ?_
    refine aw_region [(2, { n := (l_1).length })] [0, 3, 4, 8] [] 0 (vals := [.sl false 1 (List.map (AV.int .i64) l_1), .sl false 1 (List.map (AV.int .u8) out_1), .int .i64 i_1, .bool (decide (i_1 < (((l_1).length : Nat) : Int)))]) (bxs := []) (by kernel_rfl) hmix (ac (vc_len _ : ((List.map (AV.int .i64) l_1)).length = (l_1).length) an) ?_
    refine aw_cond (t := 8) (b := (decide (i_1 < (((l_1).length : Nat) : Int)))) (by kernel_rfl) (by kernel_rfl) ?_ ?_
    rotate_left
    · intro g_1; replace h := cond_f g_1 h
      refine aw_exit (id := 0) (by kernel_rfl) ?_
      replace h := Option.some.inj h; subst h
      exact ⟨rfl, (sub_wkm [] [] [.s 3] [] (by kernel_rfl) an)⟩
    intro g_1; replace h := cond_t g_1 h
    refine aw_skip (by kernel_rfl) ?_
    refine aw_seq (by kernel_rfl) ?_
    refine aw_block (id := 1) (by kernel_rfl) ?_
    obtain ⟨x_1, h_2, h⟩ := bind_some h
    obtain ⟨r_1, h_3, h⟩ := bind_some h
    refine aw_region [(3, { av := .int .i64 x_1 }), (5, { av := .own 0 ((r_1).length), ids := [0], l := [.sl false 1 (List.map (AV.int .u8) out_1), .int .i64 x_1], post := [(.row 5 1 (List.map (AV.int .u8) r_1))] })] [0, 3, 4] [0] 1 (vals := [.sl false 1 (List.map (AV.int .i64) l_1), .own 0 ((r_1).length), .int .i64 i_1]) (bxs := [.live (.row 5 1 (List.map (AV.int .u8) r_1))]) (by kernel_rfl) hmix (ac (vc_idx h_2 : idxA (List.map (AV.int .i64) l_1) i_1 = some (.int .i64 x_1)) (ac (rfl : ([.sl false 1 (List.map (AV.int .u8) out_1), .int .i64 x_1] : List AV) = [.sl false 1 (List.map (AV.int .u8) out_1), .int .i64 x_1]) (ac (rfl : ([] : List BoxSt) = []) (ac (R05_PutInt_ok F out_1 x_1 r_1 h_3 : TripleG prog 54 [] [] [.sl false 1 (List.map (AV.int .u8) out_1), .int .i64 x_1] [(.row 5 1 (List.map (AV.int .u8) r_1))] (.own 0 ((r_1).length))) an)))) ?_
    refine aw_region [] [0, 3, 4] [0] 1 (vals := [.sl false 1 (List.map (AV.int .i64) l_1), .own 0 ((r_1).length), .int .i64 (w_i64 (i_1 + (1 : Int)))]) (bxs := [.live (.row 5 1 (List.map (AV.int .u8) r_1))]) (by kernel_rfl) hmix an ?_
    exact ⟨_, (Sub.trans (sub_wkm [] [0] [.s 0, .a 3 (.sl false 1 (List.map (AV.int .u8) r_1)), .s 4] [] (sl2 := [(0, .sl false 1 (List.map (AV.int .i64) l_1)), (3, .sl false 1 (List.map (AV.int .u8) r_1)), (4, .int .i64 (w_i64 (i_1 + (1 : Int))))]) (bx2 := []) (by kernel_rfl) (ac (by first | (simp; done) | (simp; omega) : (r_1).length = ((List.map (AV.int .u8) r_1)).length) (ac (rfl : 1 = 1) (ac (rfl : ((List.map (AV.int .u8) r_1) : List AV) = (List.map (AV.int .u8) r_1)) (ac (rfl : (!false || false) = true) an))))) (sub_wkm [] [] [.s 0, .s 3, .s 4] [] (by kernel_rfl) an)), _, _, rfl, h⟩
  refine aw_seq (by kernel_rfl) ?_
  refine aw_region [] [2] [] 0 (vals := [.sl false 1 (List.map (AV.int .u8) o_1)]) (bxs := []) (by kernel_rfl) hmix an ?_
  refine aw_ret (by kernel_rfl) ?_
  replace h := Option.some.inj h; subst h
  exact ⟨.inr rfl, Nat.le_of_ble_eq_true rfl, by kernel_rfl⟩

theorem R08_Encode_ok (F : Nat) (names_1 : List (List Int)) (stacks_1 : List (Arr2_Int)) (e_1 : T_api_Event) (r : (List (Int)) × (List (List Int)) × (List (Arr2_Int)) × Int) (h : R08_Encode F names_1 stacks_1 e_1 = some r) : TripleG prog 12 [] [] [.sl false 1 (List.map AV.str names_1), .sl false 2 (List.map e_Arr2_Int stacks_1), e_T_api_Event e_1] [] (.tuple [.sl false 1 (List.map (AV.int .u8) r.1), .sl false 1 (List.map AV.str r.2.1), .sl false 2 (List.map e_Arr2_Int r.2.2.1), .int .i64 r.2.2.2]) := by
  refine triple_intro (fn := Go.Proofs.Try.f12) (code := codeOf Go.Proofs.Try.f12) (by kernel_rfl) (by kernel_rfl) (Nat.le_of_ble_eq_true (by kernel_rfl)) ?_
  unfold R08_Encode at h
  refine aw_seq (by kernel_rfl) ?_
  refine aw_region [(0, { id := 0 })] [0, 1, 5] [0] 1 (vals := [.sl false 1 (List.map AV.str names_1), .sl false 2 (List.map e_Arr2_Int stacks_1), .ptr 0 0 0 0]) (bxs := [.live (.var 28 (v_T_api_Event e_1))]) (by kernel_rfl) hmix an ?_
  refine aw_seq (by kernel_rfl) ?_
  refine aw_seq (by kernel_rfl) ?_
  obtain ⟨r_1, h_1, h⟩ := bind_some h
  refine aw_region [(2, { av := .int .i64 r_1, l := [.sl false 1 (List.map AV.str names_1), .sl false 2 (List.map e_Arr2_Int stacks_1)] })] [0, 1, 5, 26] [0] 1 (vals := [.sl false 1 (List.map AV.str names_1), .sl false 2 (List.map e_Arr2_Int stacks_1), .ptr 0 0 0 0, .bool (r_1 != (0 : Int))]) (bxs := [.live (.var 28 (v_T_api_Event e_1))]) (by kernel_rfl) hmix (ac (rfl : ([.sl false 1 (List.map AV.str names_1), .sl false 2 (List.map e_Arr2_Int stacks_1)] : List AV) = [.sl false 1 (List.map AV.str names_1), .sl false 2 (List.map e_Arr2_Int stacks_1)]) (ac (rfl : ([] : List BoxSt) = []) (ac (R06_Check_ok F names_1 stacks_1 r_1 h_1 : TripleG prog 25 [] [] [.sl false 1 (List.map AV.str names_1), .sl false 2 (List.map e_Arr2_Int stacks_1)] [] (.int .i64 r_1)) an))) ?_
  refine aw_cond (t := 26) (b := (r_1 != (0 : Int))) (by kernel_rfl) (by kernel_rfl) ?_ ?_
  · intro g_1; replace h := cond_t g_1 h
    refine aw_seq (by kernel_rfl) ?_
    refine aw_region [] [6, 7, 8, 9] [] 1 (vals := [.nilsl, .nilsl, .nilsl, .int .i64 (1 : Int)]) (bxs := []) (by kernel_rfl) hmix an ?_
    refine aw_sub (sub_wkm [] [] [.a 6 (.sl false 1 []), .a 7 (.sl false 1 []), .a 8 (.sl false 2 []), .s 9] [] (sl2 := [(6, .sl false 1 []), (7, .sl false 1 []), (8, .sl false 2 []), (9, .int .i64 (1 : Int))]) (bx2 := []) (by kernel_rfl) (ac (rfl : ([] : List AV) = []) (ac (rfl : ([] : List AV) = []) (ac (rfl : ([] : List AV) = []) an)))) ?_
    refine aw_ret (by kernel_rfl) ?_
    replace h := Option.some.inj h; subst h
    exact ⟨.inr rfl, Nat.le_of_ble_eq_true rfl, by kernel_rfl⟩
  intro g_1; replace h := cond_f g_1 h
  refine aw_skip (by kernel_rfl) ?_
  refine aw_seq (by kernel_rfl) ?_
  obtain ⟨r_2, h_2, h⟩ := bind_some h
  refine aw_region [(1, { av := .int .i64 r_2, l := [e_T_api_Event e_1] })] [0, 1, 5, 10] [0] 1 (vals := [.sl false 1 (List.map AV.str names_1), .sl false 2 (List.map e_Arr2_Int stacks_1), .ptr 0 0 0 0, .int .i64 r_2]) (bxs := [.live (.var 28 (v_T_api_Event e_1))]) (by kernel_rfl) hmix (ac (rfl : ([e_T_api_Event e_1] : List AV) = [e_T_api_Event e_1]) (ac (rfl : ([] : List BoxSt) = []) (ac (R07_Check_ok F e_1 r_2 h_2 : TripleG prog 26 [] [] [e_T_api_Event e_1] [] (.int .i64 r_2)) an))) ?_
  refine aw_seq (by kernel_rfl) ?_
  refine aw_seq (by kernel_rfl) ?_
  refine aw_region [] [0, 1, 5, 10, 30] [0] 1 (vals := [.sl false 1 (List.map AV.str names_1), .sl false 2 (List.map e_Arr2_Int stacks_1), .ptr 0 0 0 0, .int .i64 r_2, .bool (r_2 != (0 : Int))]) (bxs := [.live (.var 28 (v_T_api_Event e_1))]) (by kernel_rfl) hmix an ?_
  refine aw_cond (t := 30) (b := (r_2 != (0 : Int))) (by kernel_rfl) (by kernel_rfl) ?_ ?_
  · intro g_2; replace h := cond_t g_2 h
    refine aw_seq (by kernel_rfl) ?_
    refine aw_region [] [6, 7, 8, 9] [] 1 (vals := [.nilsl, .nilsl, .nilsl, .int .i64 r_2]) (bxs := []) (by kernel_rfl) hmix an ?_
    refine aw_sub (sub_wkm [] [] [.a 6 (.sl false 1 []), .a 7 (.sl false 1 []), .a 8 (.sl false 2 []), .s 9] [] (sl2 := [(6, .sl false 1 []), (7, .sl false 1 []), (8, .sl false 2 []), (9, .int .i64 r_2)]) (bx2 := []) (by kernel_rfl) (ac (rfl : ([] : List AV) = []) (ac (rfl : ([] : List AV) = []) (ac (rfl : ([] : List AV) = []) an)))) ?_
    refine aw_ret (by kernel_rfl) ?_
    replace h := Option.some.inj h; subst h
    exact ⟨.inr rfl, Nat.le_of_ble_eq_true rfl, by kernel_rfl⟩
  intro g_2; replace h := cond_f g_2 h
  refine aw_skip (by kernel_rfl) ?_
  refine aw_seq (by kernel_rfl) ?_
  obtain ⟨r_3, h_3, h⟩ := bind_some h
  refine aw_region [(2, { av := .tuple [.bool r_3.1, .bool r_3.2.1, .bool r_3.2.2.1, .bool r_3.2.2.2], l := [.int .i64 e_1.Kind] })] [0, 1, 5, 11, 12, 13, 14] [0] 1 (vals := [.sl false 1 (List.map AV.str names_1), .sl false 2 (List.map e_Arr2_Int stacks_1), .ptr 0 0 0 0, .bool r_3.1, .bool r_3.2.1, .bool r_3.2.2.1, .bool r_3.2.2.2]) (bxs := [.live (.var 28 (v_T_api_Event e_1))]) (by kernel_rfl) hmix (ac (rfl : ([.int .i64 e_1.Kind] : List AV) = [.int .i64 e_1.Kind]) (ac (rfl : ([] : List BoxSt) = []) (ac (R08_Uses_ok e_1.Kind r_3 h_3 : TripleG prog 27 [] [] [.int .i64 e_1.Kind] [] (.tuple [.bool r_3.1, .bool r_3.2.1, .bool r_3.2.2.1, .bool r_3.2.2.2])) an))) ?_
  refine aw_seq (by kernel_rfl) ?_
  refine aw_region [(4, { id := 1 })] [0, 1, 5, 11, 12, 13, 14, 15] [0, 1] 2 (vals := [.sl false 1 (List.map AV.str names_1), .sl false 2 (List.map e_Arr2_Int stacks_1), .ptr 0 0 0 0, .bool r_3.1, .bool r_3.2.1, .bool r_3.2.2.1, .bool r_3.2.2.2, .own 1 2]) (bxs := [.live (.var 28 (v_T_api_Event e_1)), .live (.row 3 1 (List.map (AV.int .i64) ([e_1.Kind, e_1.At] : List Int)))]) (by kernel_rfl) hmix an ?_
  refine aw_seq (by kernel_rfl) ?_
  refine aw_seq (by kernel_rfl) ?_
  refine aw_region [] [0, 1, 5, 12, 13, 14, 15, 45] [0, 1] 2 (vals := [.sl false 1 (List.map AV.str names_1), .sl false 2 (List.map e_Arr2_Int stacks_1), .ptr 0 0 0 0, .bool r_3.2.1, .bool r_3.2.2.1, .bool r_3.2.2.2, .own 1 2, .bool r_3.1]) (bxs := [.live (.var 28 (v_T_api_Event e_1)), .live (.row 3 1 (List.map (AV.int .i64) ([e_1.Kind, e_1.At] : List Int)))]) (by kernel_rfl) hmix an ?_
  obtain ⟨o_1, h_4, h⟩ := bind_some h
  refine aw_conv (K1 := (fun e st' => match o_1 with | (.inl q0) => e = .normal ∧ Sub 0 st' (mk [(0, .sl false 1 (List.map AV.str q0.1)), (1, .sl false 2 (List.map e_Arr2_Int stacks_1)), (5, .ptr 0 0 0 0), (12, .bool r_3.2.1), (13, .bool r_3.2.2.1), (14, .bool r_3.2.2.2), (15, .own 1 ((q0.2).length))] [(0, .live (.var 28 (v_T_api_Event e_1))), (1, .live (.row 3 1 (List.map (AV.int .i64) q0.2)))] 2) | (.inr q1) => e = .ret ∧ FinR prog Go.Proofs.Try.f12 0 [] (.tuple [.sl false 1 (List.map (AV.int .u8) q1.1), .sl false 1 (List.map AV.str q1.2.1), .sl false 2 (List.map e_Arr2_Int q1.2.2.1), .int .i64 q1.2.2.2]) st')) ?_ ?_
  · replace h := h_4
    refine aw_cond (t := 45) (b := r_3.1) (by kernel_rfl) (by kernel_rfl) ?_ ?_
    rotate_left
    · intro g_3; replace h := cond_f g_3 h
      refine aw_skip (by kernel_rfl) ?_
      replace h := Option.some.inj h; subst h
      exact ⟨rfl, (sub_wkm [0, 1] [] [.s 0, .s 1, .s 5, .s 12, .s 13, .s 14, .a 15 (.own 1 ((([e_1.Kind, e_1.At] : List Int)).length))] [.s 0, .s 1] (by kernel_rfl) (ac (congrArg (AV.own _) (by first | (simp; done) | (simp; omega)) : (.own 1 2 : AV) = .own 1 ((([e_1.Kind, e_1.At] : List Int)).length)) an))⟩
    intro g_3; replace h := cond_t g_3 h
    refine aw_seq (by kernel_rfl) ?_
    obtain ⟨r_4, h_5, h⟩ := bind_some h
    refine aw_region [(3, { av := .tuple [.int .i64 r_4.1, .sl false 1 (List.map AV.str r_4.2.1), .int .i64 r_4.2.2], l := [.sl false 1 (List.map AV.str names_1), .str e_1.Name] })] [1, 5, 12, 13, 14, 15, 16, 17, 18] [0, 1] 2 (vals := [.sl false 2 (List.map e_Arr2_Int stacks_1), .ptr 0 0 0 0, .bool r_3.2.1, .bool r_3.2.2.1, .bool r_3.2.2.2, .own 1 2, .int .i64 r_4.1, .sl false 1 (List.map AV.str r_4.2.1), .int .i64 r_4.2.2]) (bxs := [.live (.var 28 (v_T_api_Event e_1)), .live (.row 3 1 (List.map (AV.int .i64) ([e_1.Kind, e_1.At] : List Int)))]) (by kernel_rfl) hmix (ac (rfl : ([.sl false 1 (List.map AV.str names_1), .str e_1.Name] : List AV) = [.sl false 1 (List.map AV.str names_1), .str e_1.Name]) (ac (rfl : ([] : List BoxSt) = []) (ac (R06_Put_ok F names_1 e_1.Name r_4 h_5 : TripleG prog 28 [] [] [.sl false 1 (List.map AV.str names_1), .str e_1.Name] [] (.tuple [.int .i64 r_4.1, .sl false 1 (List.map AV.str r_4.2.1), .int .i64 r_4.2.2])) an))) ?_
    refine aw_seq (by kernel_rfl) ?_
    refine aw_seq (by kernel_rfl) ?_
    refine aw_region [] [1, 5, 12, 13, 14, 15, 16, 17, 18, 55] [0, 1] 2 (vals := [.sl false 2 (List.map e_Arr2_Int stacks_1), .ptr 0 0 0 0, .bool r_3.2.1, .bool r_3.2.2.1, .bool r_3.2.2.2, .own 1 2, .int .i64 r_4.1, .sl false 1 (List.map AV.str r_4.2.1), .int .i64 r_4.2.2, .bool (r_4.2.2 != (0 : Int))]) (bxs := [.live (.var 28 (v_T_api_Event e_1)), .live (.row 3 1 (List.map (AV.int .i64) ([e_1.Kind, e_1.At] : List Int)))]) (by kernel_rfl) hmix an ?_
    refine aw_cond (t := 55) (b := (r_4.2.2 != (0 : Int))) (by kernel_rfl) (by kernel_rfl) ?_ ?_
    · intro g_4; replace h := cond_t g_4 h
      refine aw_seq (by kernel_rfl) ?_
      refine aw_region [] [6, 7, 8, 9] [] 2 (vals := [.nilsl, .nilsl, .nilsl, .int .i64 r_4.2.2]) (bxs := []) (by kernel_rfl) hmix an ?_
      refine aw_sub (sub_wkm [] [] [.a 6 (.sl false 1 []), .a 7 (.sl false 1 []), .a 8 (.sl false 2 []), .s 9] [] (sl2 := [(6, .sl false 1 []), (7, .sl false 1 []), (8, .sl false 2 []), (9, .int .i64 r_4.2.2)]) (bx2 := []) (by kernel_rfl) (ac (rfl : ([] : List AV) = []) (ac (rfl : ([] : List AV) = []) (ac (rfl : ([] : List AV) = []) an)))) ?_
      refine aw_ret (by kernel_rfl) ?_
      replace h := Option.some.inj h; subst h
      exact ⟨rfl, Nat.le_of_ble_eq_true rfl, by kernel_rfl⟩
    intro g_4; replace h := cond_f g_4 h
    refine aw_skip (by kernel_rfl) ?_
    refine aw_seq (by kernel_rfl) ?_
    refine aw_region [] [0, 1, 5, 12, 13, 14, 15, 16] [0, 1] 2 (vals := [.sl false 1 (List.map AV.str r_4.2.1), .sl false 2 (List.map e_Arr2_Int stacks_1), .ptr 0 0 0 0, .bool r_3.2.1, .bool r_3.2.2.1, .bool r_3.2.2.2, .own 1 2, .int .i64 r_4.1]) (bxs := [.live (.var 28 (v_T_api_Event e_1)), .live (.row 3 1 (List.map (AV.int .i64) ([e_1.Kind, e_1.At] : List Int)))]) (by kernel_rfl) hmix an ?_
    obtain ⟨_, h_6, h⟩ := bind_some h; replace h_6 := need_some h_6
    refine aw_region [(2, { id := 2 }), (3, { id := 3, l := (List.map (AV.int .i64) (([e_1.Kind, e_1.At] : List Int) ++ ([r_4.1] : List Int))), n := ((([e_1.Kind, e_1.At] : List Int) ++ ([r_4.1] : List Int))).length })] [0, 1, 5, 12, 13, 14, 15] [0, 3] 4 (vals := [.sl false 1 (List.map AV.str r_4.2.1), .sl false 2 (List.map e_Arr2_Int stacks_1), .ptr 0 0 0 0, .bool r_3.2.1, .bool r_3.2.2.1, .bool r_3.2.2.2, .own 3 (((([e_1.Kind, e_1.At] : List Int) ++ ([r_4.1] : List Int))).length)]) (bxs := [.live (.var 28 (v_T_api_Event e_1)), .live (.row 3 1 (List.map (AV.int .i64) (([e_1.Kind, e_1.At] : List Int) ++ ([r_4.1] : List Int))))]) (by kernel_rfl) hmix (ac (by first | (simp; done) | (simp; omega) : 2 = ((List.map (AV.int .i64) ([e_1.Kind, e_1.At] : List Int))).length) (ac (by first | (simp; done) | (simp; omega) : 1 = ((List.map (AV.int .i64) ([r_4.1] : List Int))).length) (ac (vc_app _ _ : (List.map (AV.int .i64) (([e_1.Kind, e_1.At] : List Int) ++ ([r_4.1] : List Int))) = (List.map (AV.int .i64) ([e_1.Kind, e_1.At] : List Int)) ++ (List.map (AV.int .i64) ([r_4.1] : List Int))) (ac (by simp : ((([e_1.Kind, e_1.At] : List Int) ++ ([r_4.1] : List Int))).length = ((List.map (AV.int .i64) (([e_1.Kind, e_1.At] : List Int) ++ ([r_4.1] : List Int)))).length) (ac (by first | (simp; done) | simpa using h_6 : (((List.map (AV.int .i64) ([e_1.Kind, e_1.At] : List Int)) : List AV).length + ((List.map (AV.int .i64) ([r_4.1] : List Int)) : List AV).length) * 8 ≤ 140737488355328) an))))) ?_
    replace h := Option.some.inj h; subst h
    exact ⟨rfl, (sub_wkm [0, 3] [] [.s 0, .s 1, .s 5, .s 12, .s 13, .s 14, .s 15] [.s 0, .s 1] (by kernel_rfl) an)⟩
  intro e st1 hk
  rcases o_1 with q_1 | q_2
  rotate_left
  · obtain ⟨rfl, hf⟩ := hk
    replace h := Option.some.inj h; subst h
    exact ⟨st1, Sub.refl _ _, .inr rfl, hf⟩
  obtain ⟨rfl, hs⟩ := hk
  refine ⟨_, hs, ?_⟩
  refine aw_seq (by kernel_rfl) ?_
  refine aw_seq (by kernel_rfl) ?_
  refine aw_region [] [0, 1, 5, 13, 14, 15, 62] [0, 1] 2 (vals := [.sl false 1 (List.map AV.str q_1.1), .sl false 2 (List.map e_Arr2_Int stacks_1), .ptr 0 0 0 0, .bool r_3.2.2.1, .bool r_3.2.2.2, .own 1 ((q_1.2).length), .bool r_3.2.1]) (bxs := [.live (.var 28 (v_T_api_Event e_1)), .live (.row 3 1 (List.map (AV.int .i64) q_1.2))]) (by kernel_rfl) hmix an ?_
  obtain ⟨o_2, h_7, h⟩ := bind_some h
  refine aw_mid (mk [(0, .sl false 1 (List.map AV.str q_1.1)), (1, .sl false 2 (List.map e_Arr2_Int stacks_1)), (5, .ptr 0 0 0 0), (13, .bool r_3.2.2.1), (14, .bool r_3.2.2.2), (15, .own 1 ((o_2).length))] [(0, .live (.var 28 (v_T_api_Event e_1))), (1, .live (.row 3 1 (List.map (AV.int .i64) o_2)))] 2) ?_ ?_
  · replace h := h_7
    refine aw_cond (t := 62) (b := r_3.2.1) (by kernel_rfl) (by kernel_rfl) ?_ ?_
    rotate_left
    · intro g_5; replace h := cond_f g_5 h
      refine aw_skip (by kernel_rfl) ?_
      replace h := Option.some.inj h; subst h
      exact ⟨rfl, (sub_wkm [0, 1] [] [.s 0, .s 1, .s 5, .s 13, .s 14, .s 15] [.s 0, .s 1] (by kernel_rfl) an)⟩
    intro g_5; replace h := cond_t g_5 h
    obtain ⟨_, h_8, h⟩ := bind_some h; replace h_8 := need_some h_8
    refine aw_region [(3, { id := 2 }), (4, { id := 3, l := (List.map (AV.int .i64) (q_1.2 ++ ([e_1.N] : List Int))), n := ((q_1.2 ++ ([e_1.N] : List Int))).length })] [0, 1, 5, 13, 14, 15] [0, 3] 4 (vals := [.sl false 1 (List.map AV.str q_1.1), .sl false 2 (List.map e_Arr2_Int stacks_1), .ptr 0 0 0 0, .bool r_3.2.2.1, .bool r_3.2.2.2, .own 3 (((q_1.2 ++ ([e_1.N] : List Int))).length)]) (bxs := [.live (.var 28 (v_T_api_Event e_1)), .live (.row 3 1 (List.map (AV.int .i64) (q_1.2 ++ ([e_1.N] : List Int))))]) (by kernel_rfl) hmix (ac (by first | (simp; done) | (simp; omega) : (q_1.2).length = ((List.map (AV.int .i64) q_1.2)).length) (ac (by first | (simp; done) | (simp; omega) : 1 = ((List.map (AV.int .i64) ([e_1.N] : List Int))).length) (ac (vc_app _ _ : (List.map (AV.int .i64) (q_1.2 ++ ([e_1.N] : List Int))) = (List.map (AV.int .i64) q_1.2) ++ (List.map (AV.int .i64) ([e_1.N] : List Int))) (ac (by simp : ((q_1.2 ++ ([e_1.N] : List Int))).length = ((List.map (AV.int .i64) (q_1.2 ++ ([e_1.N] : List Int)))).length) (ac (by first | (simp; done) | simpa using h_8 : (((List.map (AV.int .i64) q_1.2) : List AV).length + ((List.map (AV.int .i64) ([e_1.N] : List Int)) : List AV).length) * 8 ≤ 140737488355328) an))))) ?_
    replace h := Option.some.inj h; subst h
    exact ⟨rfl, (sub_wkm [0, 3] [] [.s 0, .s 1, .s 5, .s 13, .s 14, .s 15] [.s 0, .s 1] (by kernel_rfl) an)⟩
  refine aw_seq (by kernel_rfl) ?_
  refine aw_seq (by kernel_rfl) ?_
  refine aw_region [] [0, 1, 5, 14, 15, 68] [0, 1] 2 (vals := [.sl false 1 (List.map AV.str q_1.1), .sl false 2 (List.map e_Arr2_Int stacks_1), .ptr 0 0 0 0, .bool r_3.2.2.2, .own 1 ((o_2).length), .bool r_3.2.2.1]) (bxs := [.live (.var 28 (v_T_api_Event e_1)), .live (.row 3 1 (List.map (AV.int .i64) o_2))]) (by kernel_rfl) hmix an ?_
  obtain ⟨o_3, h_9, h⟩ := bind_some h
  refine aw_mid (mk [(0, .sl false 1 (List.map AV.str q_1.1)), (1, .sl false 2 (List.map e_Arr2_Int stacks_1)), (5, .ptr 0 0 0 0), (14, .bool r_3.2.2.2), (15, .own 1 ((o_3).length))] [(0, .live (.var 28 (v_T_api_Event e_1))), (1, .live (.row 3 1 (List.map (AV.int .i64) o_3)))] 2) ?_ ?_
  · replace h := h_9
    refine aw_cond (t := 68) (b := r_3.2.2.1) (by kernel_rfl) (by kernel_rfl) ?_ ?_
    rotate_left
    · intro g_6; replace h := cond_f g_6 h
      refine aw_skip (by kernel_rfl) ?_
      replace h := Option.some.inj h; subst h
      exact ⟨rfl, (sub_wkm [0, 1] [] [.s 0, .s 1, .s 5, .s 14, .s 15] [.s 0, .s 1] (by kernel_rfl) an)⟩
    intro g_6; replace h := cond_t g_6 h
    obtain ⟨_, h_10, h⟩ := bind_some h; replace h_10 := need_some h_10
    refine aw_region [(3, { id := 2 }), (4, { id := 3, l := (List.map (AV.int .i64) (o_2 ++ ([e_1.M] : List Int))), n := ((o_2 ++ ([e_1.M] : List Int))).length })] [0, 1, 5, 14, 15] [0, 3] 4 (vals := [.sl false 1 (List.map AV.str q_1.1), .sl false 2 (List.map e_Arr2_Int stacks_1), .ptr 0 0 0 0, .bool r_3.2.2.2, .own 3 (((o_2 ++ ([e_1.M] : List Int))).length)]) (bxs := [.live (.var 28 (v_T_api_Event e_1)), .live (.row 3 1 (List.map (AV.int .i64) (o_2 ++ ([e_1.M] : List Int))))]) (by kernel_rfl) hmix (ac (by first | (simp; done) | (simp; omega) : (o_2).length = ((List.map (AV.int .i64) o_2)).length) (ac (by first | (simp; done) | (simp; omega) : 1 = ((List.map (AV.int .i64) ([e_1.M] : List Int))).length) (ac (vc_app _ _ : (List.map (AV.int .i64) (o_2 ++ ([e_1.M] : List Int))) = (List.map (AV.int .i64) o_2) ++ (List.map (AV.int .i64) ([e_1.M] : List Int))) (ac (by simp : ((o_2 ++ ([e_1.M] : List Int))).length = ((List.map (AV.int .i64) (o_2 ++ ([e_1.M] : List Int)))).length) (ac (by first | (simp; done) | simpa using h_10 : (((List.map (AV.int .i64) o_2) : List AV).length + ((List.map (AV.int .i64) ([e_1.M] : List Int)) : List AV).length) * 8 ≤ 140737488355328) an))))) ?_
    replace h := Option.some.inj h; subst h
    exact ⟨rfl, (sub_wkm [0, 3] [] [.s 0, .s 1, .s 5, .s 14, .s 15] [.s 0, .s 1] (by kernel_rfl) an)⟩
  refine aw_seq (by kernel_rfl) ?_
  refine aw_seq (by kernel_rfl) ?_
  refine aw_region [] [0, 1, 5, 15, 74] [0, 1] 2 (vals := [.sl false 1 (List.map AV.str q_1.1), .sl false 2 (List.map e_Arr2_Int stacks_1), .ptr 0 0 0 0, .own 1 ((o_3).length), .bool r_3.2.2.2]) (bxs := [.live (.var 28 (v_T_api_Event e_1)), .live (.row 3 1 (List.map (AV.int .i64) o_3))]) (by kernel_rfl) hmix an ?_
  obtain ⟨o_4, h_11, h⟩ := bind_some h
  refine aw_conv (K1 := (fun e st' => match o_4 with | (.inl q0) => e = .normal ∧ Sub 0 st' (mk [(0, .sl false 1 (List.map AV.str q0.1)), (1, .sl false 2 (List.map e_Arr2_Int q0.2.1)), (15, .own 0 ((q0.2.2).length))] [(0, .live (.row 3 1 (List.map (AV.int .i64) q0.2.2)))] 1) | (.inr q1) => e = .ret ∧ FinR prog Go.Proofs.Try.f12 0 [] (.tuple [.sl false 1 (List.map (AV.int .u8) q1.1), .sl false 1 (List.map AV.str q1.2.1), .sl false 2 (List.map e_Arr2_Int q1.2.2.1), .int .i64 q1.2.2.2]) st')) ?_ ?_
  · replace h := h_11
    refine aw_cond (t := 74) (b := r_3.2.2.2) (by kernel_rfl) (by kernel_rfl) ?_ ?_
    rotate_left
    · intro g_7; replace h := cond_f g_7 h
      refine aw_skip (by kernel_rfl) ?_
      replace h := Option.some.inj h; subst h
      exact ⟨rfl, (sub_wkm [1] [] [.s 0, .s 1, .s 15] [.s 0] (by kernel_rfl) an)⟩
    intro g_7; replace h := cond_t g_7 h
    refine aw_seq (by kernel_rfl) ?_
    obtain ⟨r_5, h_12, h⟩ := bind_some h
    refine aw_region [(4, { av := .tuple [.int .i64 r_5.1, .sl false 1 (List.map AV.str r_5.2.1), .sl false 2 (List.map e_Arr2_Int r_5.2.2.1), .int .i64 r_5.2.2.2], l := [.sl false 1 (List.map AV.str q_1.1), .sl false 2 (List.map e_Arr2_Int stacks_1), .sl false 1 (List.map AV.str e_1.Stack)] })] [15, 19, 20, 21, 22] [1] 2 (vals := [.own 1 ((o_3).length), .int .i64 r_5.1, .sl false 1 (List.map AV.str r_5.2.1), .sl false 2 (List.map e_Arr2_Int r_5.2.2.1), .int .i64 r_5.2.2.2]) (bxs := [.live (.row 3 1 (List.map (AV.int .i64) o_3))]) (by kernel_rfl) hmix (ac (rfl : ([.sl false 1 (List.map AV.str q_1.1), .sl false 2 (List.map e_Arr2_Int stacks_1), .sl false 1 (List.map AV.str e_1.Stack)] : List AV) = [.sl false 1 (List.map AV.str q_1.1), .sl false 2 (List.map e_Arr2_Int stacks_1), .sl false 1 (List.map AV.str e_1.Stack)]) (ac (rfl : ([] : List BoxSt) = []) (ac (R06_PutStack_ok F q_1.1 stacks_1 e_1.Stack r_5 h_12 : TripleG prog 29 [] [] [.sl false 1 (List.map AV.str q_1.1), .sl false 2 (List.map e_Arr2_Int stacks_1), .sl false 1 (List.map AV.str e_1.Stack)] [] (.tuple [.int .i64 r_5.1, .sl false 1 (List.map AV.str r_5.2.1), .sl false 2 (List.map e_Arr2_Int r_5.2.2.1), .int .i64 r_5.2.2.2])) an))) ?_
    refine aw_seq (by kernel_rfl) ?_
    refine aw_seq (by kernel_rfl) ?_
    refine aw_region [] [15, 19, 20, 21, 22, 86] [1] 2 (vals := [.own 1 ((o_3).length), .int .i64 r_5.1, .sl false 1 (List.map AV.str r_5.2.1), .sl false 2 (List.map e_Arr2_Int r_5.2.2.1), .int .i64 r_5.2.2.2, .bool (r_5.2.2.2 != (0 : Int))]) (bxs := [.live (.row 3 1 (List.map (AV.int .i64) o_3))]) (by kernel_rfl) hmix an ?_
    refine aw_cond (t := 86) (b := (r_5.2.2.2 != (0 : Int))) (by kernel_rfl) (by kernel_rfl) ?_ ?_
    · intro g_8; replace h := cond_t g_8 h
      refine aw_seq (by kernel_rfl) ?_
      refine aw_region [] [6, 7, 8, 9] [] 2 (vals := [.nilsl, .nilsl, .nilsl, .int .i64 r_5.2.2.2]) (bxs := []) (by kernel_rfl) hmix an ?_
      refine aw_sub (sub_wkm [] [] [.a 6 (.sl false 1 []), .a 7 (.sl false 1 []), .a 8 (.sl false 2 []), .s 9] [] (sl2 := [(6, .sl false 1 []), (7, .sl false 1 []), (8, .sl false 2 []), (9, .int .i64 r_5.2.2.2)]) (bx2 := []) (by kernel_rfl) (ac (rfl : ([] : List AV) = []) (ac (rfl : ([] : List AV) = []) (ac (rfl : ([] : List AV) = []) an)))) ?_
      refine aw_ret (by kernel_rfl) ?_
      replace h := Option.some.inj h; subst h
      exact ⟨rfl, Nat.le_of_ble_eq_true rfl, by kernel_rfl⟩
    intro g_8; replace h := cond_f g_8 h
    refine aw_skip (by kernel_rfl) ?_
    refine aw_seq (by kernel_rfl) ?_
    refine aw_region [] [0, 15, 19, 21] [1] 2 (vals := [.sl false 1 (List.map AV.str r_5.2.1), .own 1 ((o_3).length), .int .i64 r_5.1, .sl false 2 (List.map e_Arr2_Int r_5.2.2.1)]) (bxs := [.live (.row 3 1 (List.map (AV.int .i64) o_3))]) (by kernel_rfl) hmix an ?_
    refine aw_seq (by kernel_rfl) ?_
    refine aw_region [] [0, 1, 15, 19] [1] 2 (vals := [.sl false 1 (List.map AV.str r_5.2.1), .sl false 2 (List.map e_Arr2_Int r_5.2.2.1), .own 1 ((o_3).length), .int .i64 r_5.1]) (bxs := [.live (.row 3 1 (List.map (AV.int .i64) o_3))]) (by kernel_rfl) hmix an ?_
    obtain ⟨_, h_13, h⟩ := bind_some h; replace h_13 := need_some h_13
    refine aw_region [(2, { id := 2 }), (3, { id := 3, l := (List.map (AV.int .i64) (o_3 ++ ([r_5.1] : List Int))), n := ((o_3 ++ ([r_5.1] : List Int))).length })] [0, 1, 15] [3] 4 (vals := [.sl false 1 (List.map AV.str r_5.2.1), .sl false 2 (List.map e_Arr2_Int r_5.2.2.1), .own 3 (((o_3 ++ ([r_5.1] : List Int))).length)]) (bxs := [.live (.row 3 1 (List.map (AV.int .i64) (o_3 ++ ([r_5.1] : List Int))))]) (by kernel_rfl) hmix (ac (by first | (simp; done) | (simp; omega) : (o_3).length = ((List.map (AV.int .i64) o_3)).length) (ac (by first | (simp; done) | (simp; omega) : 1 = ((List.map (AV.int .i64) ([r_5.1] : List Int))).length) (ac (vc_app _ _ : (List.map (AV.int .i64) (o_3 ++ ([r_5.1] : List Int))) = (List.map (AV.int .i64) o_3) ++ (List.map (AV.int .i64) ([r_5.1] : List Int))) (ac (by simp : ((o_3 ++ ([r_5.1] : List Int))).length = ((List.map (AV.int .i64) (o_3 ++ ([r_5.1] : List Int)))).length) (ac (by first | (simp; done) | simpa using h_13 : (((List.map (AV.int .i64) o_3) : List AV).length + ((List.map (AV.int .i64) ([r_5.1] : List Int)) : List AV).length) * 8 ≤ 140737488355328) an))))) ?_
    replace h := Option.some.inj h; subst h
    exact ⟨rfl, (sub_wkm [3] [] [.s 0, .s 1, .s 15] [.s 0] (by kernel_rfl) an)⟩
  intro e st1 hk
  rcases o_4 with q_3 | q_4
  rotate_left
  · obtain ⟨rfl, hf⟩ := hk
    replace h := Option.some.inj h; subst h
    exact ⟨st1, Sub.refl _ _, .inr rfl, hf⟩
  obtain ⟨rfl, hs⟩ := hk
  refine ⟨_, hs, ?_⟩
  refine aw_seq (by kernel_rfl) ?_
  obtain ⟨r_6, h_14, h⟩ := bind_some h
  refine aw_region [(1, { av := .sl false 1 (List.map (AV.int .u8) r_6), frz := [0], l := [.sl false 1 (List.map (AV.int .i64) q_3.2.2)] })] [6, 7, 8, 9] [] 1 (vals := [.sl false 1 (List.map (AV.int .u8) r_6), .sl false 1 (List.map AV.str q_3.1), .sl false 2 (List.map e_Arr2_Int q_3.2.1), .int .i64 (0 : Int)]) (bxs := []) (by kernel_rfl) hmix (ac (by first | (simp; done) | (simp; omega) : (q_3.2.2).length = ((List.map (AV.int .i64) q_3.2.2)).length) (ac (rfl : ([.sl false 1 (List.map (AV.int .i64) q_3.2.2)] : List AV) = [.sl false 1 (List.map (AV.int .i64) q_3.2.2)]) (ac (rfl : ([] : List BoxSt) = []) (ac (R08_joined_ok F q_3.2.2 r_6 h_14 : TripleG prog 30 [] [] [.sl false 1 (List.map (AV.int .i64) q_3.2.2)] [] (.sl false 1 (List.map (AV.int .u8) r_6))) an)))) ?_
  refine aw_ret (by kernel_rfl) ?_
  replace h := Option.some.inj h; subst h
  exact ⟨.inr rfl, Nat.le_of_ble_eq_true rfl, by kernel_rfl⟩

theorem R08_Begins_ok (F : Nat) (names_1 : List (List Int)) (stacks_1 : List (Arr2_Int)) (others_1 : List (List Int)) (more_1 : List (Arr2_Int)) (r : Bool) (h : R08_Begins F names_1 stacks_1 others_1 more_1 = some r) : TripleG prog 18 [] [] [.sl false 1 (List.map AV.str names_1), .sl false 2 (List.map e_Arr2_Int stacks_1), .sl false 1 (List.map AV.str others_1), .sl false 2 (List.map e_Arr2_Int more_1)] [] (.bool r) := by
  refine triple_intro (fn := Go.Proofs.Try.f18) (code := codeOf Go.Proofs.Try.f18) (by kernel_rfl) (by kernel_rfl) (Nat.le_of_ble_eq_true (by kernel_rfl)) ?_
  unfold R08_Begins at h
  refine aw_seq (by kernel_rfl) ?_
  refine aw_region [] [0, 1, 2, 3] [] 0 (vals := [.sl false 1 (List.map AV.str names_1), .sl false 2 (List.map e_Arr2_Int stacks_1), .sl false 1 (List.map AV.str others_1), .sl false 2 (List.map e_Arr2_Int more_1)]) (bxs := []) (by kernel_rfl) hmix an ?_
  refine aw_seq (by kernel_rfl) ?_
  refine aw_seq (by kernel_rfl) ?_
  refine aw_mid (mk [(0, .sl false 1 (List.map AV.str names_1)), (1, .sl false 2 (List.map e_Arr2_Int stacks_1)), (2, .sl false 1 (List.map AV.str others_1)), (3, .sl false 2 (List.map e_Arr2_Int more_1)), (22, .bool (decide ((((names_1).length : Nat) : Int) > (((others_1).length : Nat) : Int)) || decide ((((stacks_1).length : Nat) : Int) > (((more_1).length : Nat) : Int))))] [] 0) ?_ ?_
  · rcases Bool.eq_false_or_eq_true (decide ((((names_1).length : Nat) : Int) > (((others_1).length : Nat) : Int))) with gg_1 | gg_1
    · refine aw_region [(1, { n := (names_1).length }), (3, { n := (others_1).length }), (6, { g := false }), (7, { g := false }), (8, { g := false }), (9, { g := false }), (10, { g := false }), (11, { b := true })] [0, 1, 2, 3, 22] [] 0 (vals := [.sl false 1 (List.map AV.str names_1), .sl false 2 (List.map e_Arr2_Int stacks_1), .sl false 1 (List.map AV.str others_1), .sl false 2 (List.map e_Arr2_Int more_1), .bool true]) (bxs := []) (by kernel_rfl) hmix (ac (vc_len _ : ((List.map AV.str names_1)).length = (names_1).length) (ac (vc_len _ : ((List.map AV.str others_1)).length = (others_1).length) (ac gg_1 (ac gg_1 (ac gg_1 (ac gg_1 (ac gg_1 (ac gg_1 an)))))))) ?_
      exact ⟨rfl, (sub_wkm [] [] [.s 0, .s 1, .s 2, .s 3, .a 22 (.bool (decide ((((names_1).length : Nat) : Int) > (((others_1).length : Nat) : Int)) || decide ((((stacks_1).length : Nat) : Int) > (((more_1).length : Nat) : Int))))] [] (by kernel_rfl) (ac (congrArg AV.bool (ort gg_1) : (.bool true : AV) = .bool (decide ((((names_1).length : Nat) : Int) > (((others_1).length : Nat) : Int)) || decide ((((stacks_1).length : Nat) : Int) > (((more_1).length : Nat) : Int)))) an))⟩
    · refine aw_region [(1, { n := (names_1).length }), (3, { n := (others_1).length }), (7, { n := (stacks_1).length }), (9, { n := (more_1).length }), (11, { b := false })] [0, 1, 2, 3, 22] [] 0 (vals := [.sl false 1 (List.map AV.str names_1), .sl false 2 (List.map e_Arr2_Int stacks_1), .sl false 1 (List.map AV.str others_1), .sl false 2 (List.map e_Arr2_Int more_1), .bool (decide ((((stacks_1).length : Nat) : Int) > (((more_1).length : Nat) : Int)))]) (bxs := []) (by kernel_rfl) hmix (ac (vc_len _ : ((List.map AV.str names_1)).length = (names_1).length) (ac (vc_len _ : ((List.map AV.str others_1)).length = (others_1).length) (ac gg_1 (ac gg_1 (ac (vc_len _ : ((List.map e_Arr2_Int stacks_1)).length = (stacks_1).length) (ac gg_1 (ac gg_1 (ac (vc_len _ : ((List.map e_Arr2_Int more_1)).length = (more_1).length) (ac gg_1 (ac gg_1 an)))))))))) ?_
      exact ⟨rfl, (sub_wkm [] [] [.s 0, .s 1, .s 2, .s 3, .a 22 (.bool (decide ((((names_1).length : Nat) : Int) > (((others_1).length : Nat) : Int)) || decide ((((stacks_1).length : Nat) : Int) > (((more_1).length : Nat) : Int))))] [] (by kernel_rfl) (ac (congrArg AV.bool (orf gg_1 rfl) : (.bool (decide ((((stacks_1).length : Nat) : Int) > (((more_1).length : Nat) : Int))) : AV) = .bool (decide ((((names_1).length : Nat) : Int) > (((others_1).length : Nat) : Int)) || decide ((((stacks_1).length : Nat) : Int) > (((more_1).length : Nat) : Int)))) an))⟩
  refine aw_cond (t := 22) (b := (decide ((((names_1).length : Nat) : Int) > (((others_1).length : Nat) : Int)) || decide ((((stacks_1).length : Nat) : Int) > (((more_1).length : Nat) : Int)))) (by kernel_rfl) (by kernel_rfl) ?_ ?_
  · intro g_1; replace h := cond_t g_1 h
    refine aw_seq (by kernel_rfl) ?_
    refine aw_region [] [8] [] 0 (vals := [.bool false]) (bxs := []) (by kernel_rfl) hmix an ?_
    refine aw_ret (by kernel_rfl) ?_
    replace h := Option.some.inj h; subst h
    exact ⟨.inr rfl, Nat.le_of_ble_eq_true rfl, by kernel_rfl⟩
  intro g_1; replace h := cond_f g_1 h
  refine aw_skip (by kernel_rfl) ?_
  refine aw_seq (by kernel_rfl) ?_
  refine aw_seq (by kernel_rfl) ?_
  refine aw_region [] [0, 1, 2, 3, 9] [] 0 (vals := [.sl false 1 (List.map AV.str names_1), .sl false 2 (List.map e_Arr2_Int stacks_1), .sl false 1 (List.map AV.str others_1), .sl false 2 (List.map e_Arr2_Int more_1), .int .i64 (0 : Int)]) (bxs := []) (by kernel_rfl) hmix an ?_
  obtain ⟨o_1, h_1, h⟩ := bind_some h
  refine aw_conv (K1 := (fun e st' => match o_1 with | (.inl q0) => e = .normal ∧ Sub 0 st' (mk [(1, .sl false 2 (List.map e_Arr2_Int stacks_1)), (3, .sl false 2 (List.map e_Arr2_Int more_1))] [] 0) | (.inr q1) => e = .ret ∧ FinR prog Go.Proofs.Try.f18 0 [] (.bool q1) st')) ?_ ?_
  · replace h := h_1
    refine aw_block (id := 0) (by kernel_rfl) ?_
    refine aw_sub (sub_wkm [] [] [.s 0, .s 1, .s 2, .s 3, .s 9] [] (sl2 := [(0, .sl false 1 (List.map AV.str names_1)), (1, .sl false 2 (List.map e_Arr2_Int stacks_1)), (2, .sl false 1 (List.map AV.str others_1)), (3, .sl false 2 (List.map e_Arr2_Int more_1)), (9, .int .i64 (0 : Int))]) (bx2 := []) (by kernel_rfl) an) ?_
    refine aw_loopF (fun n st => ∃ (i_1 : Int), st = mk [(0, .sl false 1 (List.map AV.str names_1)), (1, .sl false 2 (List.map e_Arr2_Int stacks_1)), (2, .sl false 1 (List.map AV.str others_1)), (3, .sl false 2 (List.map e_Arr2_Int more_1)), (9, .int .i64 i_1)] [] 0 ∧ R08_Begins_L1 F names_1 others_1 n i_1 = some o_1) F (by kernel_rfl) ⟨_, rfl, h⟩ ?_ ?_
    · rintro _ ⟨_, _, h⟩; exact none_ne (h : (none : Option (Unit ⊕ Bool)) = some o_1)
    rintro n_1 _ ⟨i_1, rfl, h⟩
    replace h : R08_Begins_L1_body F names_1 others_1 (R08_Begins_L1 F names_1 others_1 n_1) i_1 = some o_1 := h
    unfold R08_Begins_L1_body at h
    refine aw_seq (by kernel_rfl) ?_
    refine aw_seq (by kernel_rfl) ?_
    refine aw_region [(2, { n := (names_1).length })] [0, 1, 2, 3, 9, 26] [] 0 (vals := [.sl false 1 (List.map AV.str names_1), .sl false 2 (List.map e_Arr2_Int stacks_1), .sl false 1 (List.map AV.str others_1), .sl false 2 (List.map e_Arr2_Int more_1), .int .i64 i_1, .bool (decide (i_1 < (((names_1).length : Nat) : Int)))]) (bxs := []) (by kernel_rfl) hmix (ac (vc_len _ : ((List.map AV.str names_1)).length = (names_1).length) an) ?_
    refine aw_cond (t := 26) (b := (decide (i_1 < (((names_1).length : Nat) : Int)))) (by kernel_rfl) (by kernel_rfl) ?_ ?_
    rotate_left
    · intro g_2; replace h := cond_f g_2 h
      refine aw_exit (id := 0) (by kernel_rfl) ?_
      replace h := Option.some.inj h; subst h
      exact ⟨rfl, (sub_wkm [] [] [.s 1, .s 3] [] (by kernel_rfl) an)⟩
    intro g_2; replace h := cond_t g_2 h
    refine aw_skip (by kernel_rfl) ?_
    refine aw_seq (by kernel_rfl) ?_
    refine aw_block (id := 1) (by kernel_rfl) ?_
    refine aw_seq (by kernel_rfl) ?_
    obtain ⟨x_1, h_2, h⟩ := bind_some h
    obtain ⟨x_2, h_3, h⟩ := bind_some h
    refine aw_region [(2, { av := .str x_1 }), (6, { av := .str x_2 })] [0, 1, 2, 3, 9, 37] [] 0 (vals := [.sl false 1 (List.map AV.str names_1), .sl false 2 (List.map e_Arr2_Int stacks_1), .sl false 1 (List.map AV.str others_1), .sl false 2 (List.map e_Arr2_Int more_1), .int .i64 i_1, .bool (!(x_1 == x_2))]) (bxs := []) (by kernel_rfl) hmix (ac (vc_idx h_2 : idxA (List.map AV.str names_1) i_1 = some (.str x_1)) (ac (vc_idx h_3 : idxA (List.map AV.str others_1) i_1 = some (.str x_2)) an)) ?_
    refine aw_cond (t := 37) (b := (!(x_1 == x_2))) (by kernel_rfl) (by kernel_rfl) ?_ ?_
    rotate_left
    · intro g_3; replace h := cond_f g_3 h
      refine aw_skip (by kernel_rfl) ?_
      refine aw_region [] [0, 1, 2, 3, 9] [] 0 (vals := [.sl false 1 (List.map AV.str names_1), .sl false 2 (List.map e_Arr2_Int stacks_1), .sl false 1 (List.map AV.str others_1), .sl false 2 (List.map e_Arr2_Int more_1), .int .i64 (w_i64 (i_1 + (1 : Int)))]) (bxs := []) (by kernel_rfl) hmix an ?_
      exact ⟨_, (sub_wkm [] [] [.s 0, .s 1, .s 2, .s 3, .s 9] [] (by kernel_rfl) an), _, rfl, h⟩
    intro g_3; replace h := cond_t g_3 h
    refine aw_seq (by kernel_rfl) ?_
    refine aw_region [] [8] [] 0 (vals := [.bool false]) (bxs := []) (by kernel_rfl) hmix an ?_
    refine aw_ret (by kernel_rfl) ?_
    replace h := Option.some.inj h; subst h
    exact ⟨rfl, Nat.le_of_ble_eq_true rfl, by kernel_rfl⟩
  intro e st1 hk
  rcases o_1 with q_1 | q_2
  rotate_left
  · obtain ⟨rfl, hf⟩ := hk
    replace h := Option.some.inj h; subst h
    exact ⟨st1, Sub.refl _ _, .inr rfl, hf⟩
  obtain ⟨rfl, hs⟩ := hk
  refine ⟨_, hs, ?_⟩
  refine aw_seq (by kernel_rfl) ?_
  refine aw_seq (by kernel_rfl) ?_
  refine aw_region [] [1, 3, 10] [] 0 (vals := [.sl false 2 (List.map e_Arr2_Int stacks_1), .sl false 2 (List.map e_Arr2_Int more_1), .int .i64 (0 : Int)]) (bxs := []) (by kernel_rfl) hmix an ?_
  obtain ⟨o_2, h_4, h⟩ := bind_some h
  refine aw_conv (K1 := (fun e st' => match o_2 with | (.inl q0) => e = .normal ∧ Sub 0 st' (mk [] [] 0) | (.inr q1) => e = .ret ∧ FinR prog Go.Proofs.Try.f18 0 [] (.bool q1) st')) ?_ ?_
  · replace h := h_4
    refine aw_block (id := 2) (by kernel_rfl) ?_
    refine aw_sub (sub_wkm [] [] [.s 1, .s 3, .s 10] [] (sl2 := [(1, .sl false 2 (List.map e_Arr2_Int stacks_1)), (3, .sl false 2 (List.map e_Arr2_Int more_1)), (10, .int .i64 (0 : Int))]) (bx2 := []) (by kernel_rfl) an) ?_
    refine aw_loopF (fun n st => ∃ (i_2 : Int), st = mk [(1, .sl false 2 (List.map e_Arr2_Int stacks_1)), (3, .sl false 2 (List.map e_Arr2_Int more_1)), (10, .int .i64 i_2)] [] 0 ∧ R08_Begins_L2 F stacks_1 more_1 n i_2 = some o_2) F (by kernel_rfl) ⟨_, rfl, h⟩ ?_ ?_
    · rintro _ ⟨_, _, h⟩; exact none_ne (h : (none : Option (Unit ⊕ Bool)) = some o_2)
    rintro n_2 _ ⟨i_2, rfl, h⟩
    replace h : R08_Begins_L2_body F stacks_1 more_1 (R08_Begins_L2 F stacks_1 more_1 n_2) i_2 = some o_2 := h
    unfold R08_Begins_L2_body at h
    refine aw_seq (by kernel_rfl) ?_
    refine aw_seq (by kernel_rfl) ?_
    refine aw_region [(2, { n := (stacks_1).length })] [1, 3, 10, 41] [] 0 (vals := [.sl false 2 (List.map e_Arr2_Int stacks_1), .sl false 2 (List.map e_Arr2_Int more_1), .int .i64 i_2, .bool (decide (i_2 < (((stacks_1).length : Nat) : Int)))]) (bxs := []) (by kernel_rfl) hmix (ac (vc_len _ : ((List.map e_Arr2_Int stacks_1)).length = (stacks_1).length) an) ?_
    refine aw_cond (t := 41) (b := (decide (i_2 < (((stacks_1).length : Nat) : Int)))) (by kernel_rfl) (by kernel_rfl) ?_ ?_
    rotate_left
    · intro g_4; replace h := cond_f g_4 h
      refine aw_exit (id := 2) (by kernel_rfl) ?_
      replace h := Option.some.inj h; subst h
      exact ⟨rfl, (sub_wkm [] [] [] [] (by kernel_rfl) an)⟩
    intro g_4; replace h := cond_t g_4 h
    refine aw_skip (by kernel_rfl) ?_
    refine aw_seq (by kernel_rfl) ?_
    refine aw_block (id := 3) (by kernel_rfl) ?_
    refine aw_seq (by kernel_rfl) ?_
    obtain ⟨x_3, h_5, h⟩ := bind_some h
    obtain ⟨x_4, h_6, h⟩ := bind_some h
    refine aw_region [(2, { av := .agg [.int .i64 x_3.c0, .int .i64 x_3.c1] }), (6, { av := .agg [.int .i64 x_4.c0, .int .i64 x_4.c1] }), (8, { b := (decide (x_3 = x_4)), mks := [.int .i64, .int .i64] })] [1, 3, 10, 52] [] 0 (vals := [.sl false 2 (List.map e_Arr2_Int stacks_1), .sl false 2 (List.map e_Arr2_Int more_1), .int .i64 i_2, .bool (!(decide (x_3 = x_4)))]) (bxs := []) (by kernel_rfl) hmix (ac (vc_idx h_5 : idxA (List.map e_Arr2_Int stacks_1) i_2 = some (.agg [.int .i64 x_3.c0, .int .i64 x_3.c1])) (ac (vc_idx h_6 : idxA (List.map e_Arr2_Int more_1) i_2 = some (.agg [.int .i64 x_4.c0, .int .i64 x_4.c1])) (ac (eqOk_67 : EqOk prog 67 [.int .i64, .int .i64]) (ac (vc_eqA (f := e_Arr2_Int) inj_Arr2_Int x_3 x_4 : ((decide (x_3 = x_4)) = true ↔ AV.agg [.int .i64 x_3.c0, .int .i64 x_3.c1] = AV.agg [.int .i64 x_4.c0, .int .i64 x_4.c1])) an)))) ?_
    refine aw_cond (t := 52) (b := (!(decide (x_3 = x_4)))) (by kernel_rfl) (by kernel_rfl) ?_ ?_
    rotate_left
    · intro g_5; replace h := cond_f g_5 h
      refine aw_skip (by kernel_rfl) ?_
      refine aw_region [] [1, 3, 10] [] 0 (vals := [.sl false 2 (List.map e_Arr2_Int stacks_1), .sl false 2 (List.map e_Arr2_Int more_1), .int .i64 (w_i64 (i_2 + (1 : Int)))]) (bxs := []) (by kernel_rfl) hmix an ?_
      exact ⟨_, (sub_wkm [] [] [.s 1, .s 3, .s 10] [] (by kernel_rfl) an), _, rfl, h⟩
    intro g_5; replace h := cond_t g_5 h
    refine aw_seq (by kernel_rfl) ?_
    refine aw_region [] [8] [] 0 (vals := [.bool false]) (bxs := []) (by kernel_rfl) hmix an ?_
    refine aw_ret (by kernel_rfl) ?_
    replace h := Option.some.inj h; subst h
    exact ⟨rfl, Nat.le_of_ble_eq_true rfl, by kernel_rfl⟩
  intro e st1 hk
  rcases o_2 with q_3 | q_4
  rotate_left
  · obtain ⟨rfl, hf⟩ := hk
    replace h := Option.some.inj h; subst h
    exact ⟨st1, Sub.refl _ _, .inr rfl, hf⟩
  obtain ⟨rfl, hs⟩ := hk
  refine ⟨_, hs, ?_⟩
  refine aw_seq (by kernel_rfl) ?_
  refine aw_region [] [8] [] 0 (vals := [.bool true]) (bxs := []) (by kernel_rfl) hmix an ?_
  refine aw_ret (by kernel_rfl) ?_
  replace h := Option.some.inj h; subst h
  exact ⟨.inr rfl, Nat.le_of_ble_eq_true rfl, by kernel_rfl⟩

theorem R08_SameTables_ok (F : Nat) (names_1 : List (List Int)) (stacks_1 : List (Arr2_Int)) (others_1 : List (List Int)) (more_1 : List (Arr2_Int)) (r : Bool) (h : R08_SameTables F names_1 stacks_1 others_1 more_1 = some r) : TripleG prog 13 [] [] [.sl false 1 (List.map AV.str names_1), .sl false 2 (List.map e_Arr2_Int stacks_1), .sl false 1 (List.map AV.str others_1), .sl false 2 (List.map e_Arr2_Int more_1)] [] (.bool r) := by
  refine triple_intro (fn := Go.Proofs.Try.f13) (code := codeOf Go.Proofs.Try.f13) (by kernel_rfl) (by kernel_rfl) (Nat.le_of_ble_eq_true (by kernel_rfl)) ?_
  unfold R08_SameTables at h
  refine aw_seq (by kernel_rfl) ?_
  refine aw_region [] [0, 1, 2, 3] [] 0 (vals := [.sl false 1 (List.map AV.str names_1), .sl false 2 (List.map e_Arr2_Int stacks_1), .sl false 1 (List.map AV.str others_1), .sl false 2 (List.map e_Arr2_Int more_1)]) (bxs := []) (by kernel_rfl) hmix an ?_
  refine aw_seq (by kernel_rfl) ?_
  refine aw_seq (by kernel_rfl) ?_
  refine aw_mid (mk [(0, .sl false 1 (List.map AV.str names_1)), (1, .sl false 2 (List.map e_Arr2_Int stacks_1)), (2, .sl false 1 (List.map AV.str others_1)), (3, .sl false 2 (List.map e_Arr2_Int more_1)), (20, .bool (((((names_1).length : Nat) : Int) != (((others_1).length : Nat) : Int)) || ((((stacks_1).length : Nat) : Int) != (((more_1).length : Nat) : Int))))] [] 0) ?_ ?_
  · rcases Bool.eq_false_or_eq_true ((((names_1).length : Nat) : Int) != (((others_1).length : Nat) : Int)) with gg_1 | gg_1
    · refine aw_region [(1, { n := (names_1).length }), (3, { n := (others_1).length }), (6, { g := false }), (7, { g := false }), (8, { g := false }), (9, { g := false }), (10, { g := false }), (11, { b := true })] [0, 1, 2, 3, 20] [] 0 (vals := [.sl false 1 (List.map AV.str names_1), .sl false 2 (List.map e_Arr2_Int stacks_1), .sl false 1 (List.map AV.str others_1), .sl false 2 (List.map e_Arr2_Int more_1), .bool true]) (bxs := []) (by kernel_rfl) hmix (ac (vc_len _ : ((List.map AV.str names_1)).length = (names_1).length) (ac (vc_len _ : ((List.map AV.str others_1)).length = (others_1).length) (ac gg_1 (ac gg_1 (ac gg_1 (ac gg_1 (ac gg_1 (ac gg_1 an)))))))) ?_
      exact ⟨rfl, (sub_wkm [] [] [.s 0, .s 1, .s 2, .s 3, .a 20 (.bool (((((names_1).length : Nat) : Int) != (((others_1).length : Nat) : Int)) || ((((stacks_1).length : Nat) : Int) != (((more_1).length : Nat) : Int))))] [] (by kernel_rfl) (ac (congrArg AV.bool (ort gg_1) : (.bool true : AV) = .bool (((((names_1).length : Nat) : Int) != (((others_1).length : Nat) : Int)) || ((((stacks_1).length : Nat) : Int) != (((more_1).length : Nat) : Int)))) an))⟩
    · refine aw_region [(1, { n := (names_1).length }), (3, { n := (others_1).length }), (7, { n := (stacks_1).length }), (9, { n := (more_1).length }), (11, { b := false })] [0, 1, 2, 3, 20] [] 0 (vals := [.sl false 1 (List.map AV.str names_1), .sl false 2 (List.map e_Arr2_Int stacks_1), .sl false 1 (List.map AV.str others_1), .sl false 2 (List.map e_Arr2_Int more_1), .bool ((((stacks_1).length : Nat) : Int) != (((more_1).length : Nat) : Int))]) (bxs := []) (by kernel_rfl) hmix (ac (vc_len _ : ((List.map AV.str names_1)).length = (names_1).length) (ac (vc_len _ : ((List.map AV.str others_1)).length = (others_1).length) (ac gg_1 (ac gg_1 (ac (vc_len _ : ((List.map e_Arr2_Int stacks_1)).length = (stacks_1).length) (ac gg_1 (ac gg_1 (ac (vc_len _ : ((List.map e_Arr2_Int more_1)).length = (more_1).length) (ac gg_1 (ac gg_1 an)))))))))) ?_
      exact ⟨rfl, (sub_wkm [] [] [.s 0, .s 1, .s 2, .s 3, .a 20 (.bool (((((names_1).length : Nat) : Int) != (((others_1).length : Nat) : Int)) || ((((stacks_1).length : Nat) : Int) != (((more_1).length : Nat) : Int))))] [] (by kernel_rfl) (ac (congrArg AV.bool (orf gg_1 rfl) : (.bool ((((stacks_1).length : Nat) : Int) != (((more_1).length : Nat) : Int)) : AV) = .bool (((((names_1).length : Nat) : Int) != (((others_1).length : Nat) : Int)) || ((((stacks_1).length : Nat) : Int) != (((more_1).length : Nat) : Int)))) an))⟩
  refine aw_cond (t := 20) (b := (((((names_1).length : Nat) : Int) != (((others_1).length : Nat) : Int)) || ((((stacks_1).length : Nat) : Int) != (((more_1).length : Nat) : Int)))) (by kernel_rfl) (by kernel_rfl) ?_ ?_
  · intro g_1; replace h := cond_t g_1 h
    refine aw_seq (by kernel_rfl) ?_
    refine aw_region [] [8] [] 0 (vals := [.bool false]) (bxs := []) (by kernel_rfl) hmix an ?_
    refine aw_ret (by kernel_rfl) ?_
    replace h := Option.some.inj h; subst h
    exact ⟨.inr rfl, Nat.le_of_ble_eq_true rfl, by kernel_rfl⟩
  intro g_1; replace h := cond_f g_1 h
  refine aw_skip (by kernel_rfl) ?_
  refine aw_seq (by kernel_rfl) ?_
  obtain ⟨r_1, h_1, h⟩ := bind_some h
  refine aw_region [(4, { av := .bool r_1, l := [.sl false 1 (List.map AV.str names_1), .sl false 2 (List.map e_Arr2_Int stacks_1), .sl false 1 (List.map AV.str others_1), .sl false 2 (List.map e_Arr2_Int more_1)] })] [8] [] 0 (vals := [.bool r_1]) (bxs := []) (by kernel_rfl) hmix (ac (rfl : ([.sl false 1 (List.map AV.str names_1), .sl false 2 (List.map e_Arr2_Int stacks_1), .sl false 1 (List.map AV.str others_1), .sl false 2 (List.map e_Arr2_Int more_1)] : List AV) = [.sl false 1 (List.map AV.str names_1), .sl false 2 (List.map e_Arr2_Int stacks_1), .sl false 1 (List.map AV.str others_1), .sl false 2 (List.map e_Arr2_Int more_1)]) (ac (rfl : ([] : List BoxSt) = []) (ac (R08_Begins_ok F names_1 stacks_1 others_1 more_1 r_1 h_1 : TripleG prog 18 [] [] [.sl false 1 (List.map AV.str names_1), .sl false 2 (List.map e_Arr2_Int stacks_1), .sl false 1 (List.map AV.str others_1), .sl false 2 (List.map e_Arr2_Int more_1)] [] (.bool r_1)) an))) ?_
  refine aw_ret (by kernel_rfl) ?_
  replace h := Option.some.inj h; subst h
  exact ⟨.inr rfl, Nat.le_of_ble_eq_true rfl, by kernel_rfl⟩

end Go.Ab
