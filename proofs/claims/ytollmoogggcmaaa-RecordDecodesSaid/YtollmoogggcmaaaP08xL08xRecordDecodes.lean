/- Printed: the typed Lean functions of the Go functions, or the proofs that the Go functions meet them. No conditions but those that the theorems name. -/
import Derived.Test.YtollmoogggcmaaaP08x3
namespace Go.Ab
open Go
set_option linter.unusedVariables false
theorem L08_RecordDecodes_ok (F : Nat) (t_1 : T_tracebooklaw08_Tables) (b_1 : List (Int)) (r : Bool) (h : L08_RecordDecodes F t_1 b_1 = some r) : TripleG prog 4 [] [] [e_T_tracebooklaw08_Tables t_1, .sl false 1 (List.map (AV.int .u8) b_1)] [] (.bool r) := by
  refine triple_intro (fn := Go.Proofs.Try.f4) (code := codeOf Go.Proofs.Try.f4) (by kernel_rfl) (by kernel_rfl) (Nat.le_of_ble_eq_true (by kernel_rfl)) ?_
  unfold L08_RecordDecodes at h
  refine aw_seq (by kernel_rfl) ?_
  refine aw_region [(0, { id := 0 })] [1, 2] [0] 1 (vals := [.sl false 1 (List.map (AV.int .u8) b_1), .ptr 0 0 0 0]) (bxs := [.live (.var 25 (v_T_tracebooklaw08_Tables t_1))]) (by kernel_rfl) hmix an ?_
  refine aw_seq (by kernel_rfl) ?_
  refine aw_seq (by kernel_rfl) ?_
  refine aw_mid (mk [(1, .sl false 1 (List.map (AV.int .u8) b_1)), (2, .ptr 0 0 0 0), (25, .bool (decide ((((t_1.Names).length : Nat) : Int) > (40 : Int)) || (decide ((((t_1.Stacks).length : Nat) : Int) > (40 : Int)) || decide ((((b_1).length : Nat) : Int) > (300 : Int)))))] [(0, .live (.var 25 (v_T_tracebooklaw08_Tables t_1)))] 1) ?_ ?_
  · rcases Bool.eq_false_or_eq_true (decide ((((t_1.Names).length : Nat) : Int) > (40 : Int))) with gg_1 | gg_1
    · refine aw_region [(2, { n := (t_1.Names).length }), (5, { g := false }), (6, { g := false }), (7, { g := false }), (8, { g := false }), (9, { b := true }), (11, { g := false }), (12, { g := false }), (13, { g := false }), (14, { b := true })] [1, 2, 25] [0] 1 (vals := [.sl false 1 (List.map (AV.int .u8) b_1), .ptr 0 0 0 0, .bool true]) (bxs := [.live (.var 25 (v_T_tracebooklaw08_Tables t_1))]) (by kernel_rfl) hmix (ac (vc_len _ : ((List.map AV.str t_1.Names)).length = (t_1.Names).length) (ac gg_1 (ac gg_1 (ac gg_1 (ac gg_1 (ac gg_1 (ac (rfl : true = !false) (ac (rfl : true = !false) (ac (rfl : true = !false) (ac (rfl : true = true) an)))))))))) ?_
      exact ⟨rfl, (sub_wkm [0] [] [.s 1, .s 2, .a 25 (.bool (decide ((((t_1.Names).length : Nat) : Int) > (40 : Int)) || (decide ((((t_1.Stacks).length : Nat) : Int) > (40 : Int)) || decide ((((b_1).length : Nat) : Int) > (300 : Int)))))] [.s 0] (by kernel_rfl) (ac (congrArg AV.bool (ort gg_1) : (.bool true : AV) = .bool (decide ((((t_1.Names).length : Nat) : Int) > (40 : Int)) || (decide ((((t_1.Stacks).length : Nat) : Int) > (40 : Int)) || decide ((((b_1).length : Nat) : Int) > (300 : Int))))) an))⟩
    · rcases Bool.eq_false_or_eq_true (decide ((((t_1.Stacks).length : Nat) : Int) > (40 : Int))) with gg_2 | gg_2
      · refine aw_region [(2, { n := (t_1.Names).length }), (7, { n := (t_1.Stacks).length }), (9, { b := false }), (11, { g := false }), (12, { g := false }), (13, { g := false }), (14, { b := true })] [1, 2, 25] [0] 1 (vals := [.sl false 1 (List.map (AV.int .u8) b_1), .ptr 0 0 0 0, .bool true]) (bxs := [.live (.var 25 (v_T_tracebooklaw08_Tables t_1))]) (by kernel_rfl) hmix (ac (vc_len _ : ((List.map AV.str t_1.Names)).length = (t_1.Names).length) (ac gg_1 (ac gg_1 (ac gg_1 (ac (vc_len _ : ((List.map e_Arr2_Int t_1.Stacks)).length = (t_1.Stacks).length) (ac gg_1 (ac gg_1 (ac gg_2 (ac gg_2 (ac gg_2 (ac gg_2 an))))))))))) ?_
        exact ⟨rfl, (sub_wkm [0] [] [.s 1, .s 2, .a 25 (.bool (decide ((((t_1.Names).length : Nat) : Int) > (40 : Int)) || (decide ((((t_1.Stacks).length : Nat) : Int) > (40 : Int)) || decide ((((b_1).length : Nat) : Int) > (300 : Int)))))] [.s 0] (by kernel_rfl) (ac (congrArg AV.bool (orf gg_1 (ort gg_2)) : (.bool true : AV) = .bool (decide ((((t_1.Names).length : Nat) : Int) > (40 : Int)) || (decide ((((t_1.Stacks).length : Nat) : Int) > (40 : Int)) || decide ((((b_1).length : Nat) : Int) > (300 : Int))))) an))⟩
      · refine aw_region [(2, { n := (t_1.Names).length }), (7, { n := (t_1.Stacks).length }), (9, { b := false }), (12, { n := (b_1).length }), (14, { b := false })] [1, 2, 25] [0] 1 (vals := [.sl false 1 (List.map (AV.int .u8) b_1), .ptr 0 0 0 0, .bool (decide ((((b_1).length : Nat) : Int) > (300 : Int)))]) (bxs := [.live (.var 25 (v_T_tracebooklaw08_Tables t_1))]) (by kernel_rfl) hmix (ac (vc_len _ : ((List.map AV.str t_1.Names)).length = (t_1.Names).length) (ac gg_1 (ac gg_1 (ac gg_1 (ac (vc_len _ : ((List.map e_Arr2_Int t_1.Stacks)).length = (t_1.Stacks).length) (ac gg_1 (ac gg_1 (ac gg_2 (ac gg_2 (ac (vc_len _ : ((List.map (AV.int .u8) b_1)).length = (b_1).length) (ac gg_2 (ac gg_2 an)))))))))))) ?_
        exact ⟨rfl, (sub_wkm [0] [] [.s 1, .s 2, .a 25 (.bool (decide ((((t_1.Names).length : Nat) : Int) > (40 : Int)) || (decide ((((t_1.Stacks).length : Nat) : Int) > (40 : Int)) || decide ((((b_1).length : Nat) : Int) > (300 : Int)))))] [.s 0] (by kernel_rfl) (ac (congrArg AV.bool (orf gg_1 (orf gg_2 rfl)) : (.bool (decide ((((b_1).length : Nat) : Int) > (300 : Int))) : AV) = .bool (decide ((((t_1.Names).length : Nat) : Int) > (40 : Int)) || (decide ((((t_1.Stacks).length : Nat) : Int) > (40 : Int)) || decide ((((b_1).length : Nat) : Int) > (300 : Int))))) an))⟩
  refine aw_cond (t := 25) (b := (decide ((((t_1.Names).length : Nat) : Int) > (40 : Int)) || (decide ((((t_1.Stacks).length : Nat) : Int) > (40 : Int)) || decide ((((b_1).length : Nat) : Int) > (300 : Int))))) (by kernel_rfl) (by kernel_rfl) ?_ ?_
  · intro g_1; replace h := cond_t g_1 h
    refine aw_seq (by kernel_rfl) ?_
    obtain ⟨r_1, h_1, h⟩ := bind_some h
    refine aw_region [(0, { av := .bool r_1, l := [] })] [4] [] 1 (vals := [.bool r_1]) (bxs := []) (by kernel_rfl) hmix (ac (rfl : ([] : List AV) = []) (ac (rfl : ([] : List BoxSt) = []) (ac (L08_lives_ok F r_1 h_1 : TripleG prog 10 [] [] [] [] (.bool r_1)) an))) ?_
    refine aw_ret (by kernel_rfl) ?_
    replace h := Option.some.inj h; subst h
    exact ⟨.inr rfl, Nat.le_of_ble_eq_true rfl, by kernel_rfl⟩
  intro g_1; replace h := cond_f g_1 h
  refine aw_skip (by kernel_rfl) ?_
  refine aw_seq (by kernel_rfl) ?_
  obtain ⟨r_2, h_2, h⟩ := bind_some h
  refine aw_region [(5, { av := .tuple [e_T_api_Event r_2.1, .int .i64 r_2.2.1, .int .i64 r_2.2.2], l := [.sl false 1 (List.map AV.str t_1.Names), .sl false 2 (List.map e_Arr2_Int t_1.Stacks), .sl false 1 (List.map (AV.int .u8) b_1)] }), (10, { id := 1 })] [1, 2, 5, 6, 7] [0, 1] 2 (vals := [.sl false 1 (List.map (AV.int .u8) b_1), .ptr 0 0 0 0, .ptr 1 0 0 0, .int .i64 r_2.2.1, .int .i64 r_2.2.2]) (bxs := [.live (.var 25 (v_T_tracebooklaw08_Tables t_1)), .live (.var 28 (v_T_api_Event r_2.1))]) (by kernel_rfl) hmix (ac (rfl : ([.sl false 1 (List.map AV.str t_1.Names), .sl false 2 (List.map e_Arr2_Int t_1.Stacks), .sl false 1 (List.map (AV.int .u8) b_1)] : List AV) = [.sl false 1 (List.map AV.str t_1.Names), .sl false 2 (List.map e_Arr2_Int t_1.Stacks), .sl false 1 (List.map (AV.int .u8) b_1)]) (ac (rfl : ([] : List BoxSt) = []) (ac (record_Decode_ok F t_1.Names t_1.Stacks b_1 r_2 h_2 : TripleG prog 15 [] [] [.sl false 1 (List.map AV.str t_1.Names), .sl false 2 (List.map e_Arr2_Int t_1.Stacks), .sl false 1 (List.map (AV.int .u8) b_1)] [] (.tuple [e_T_api_Event r_2.1, .int .i64 r_2.2.1, .int .i64 r_2.2.2])) an))) ?_
  refine aw_seq (by kernel_rfl) ?_
  obtain ⟨r_3, h_3, h⟩ := bind_some h
  refine aw_region [(5, { av := .tuple [e_T_api_Event r_3.1, .int .i64 r_3.2.1, .int .i64 r_3.2.2], l := [.sl false 1 (List.map AV.str t_1.Names), .sl false 2 (List.map e_Arr2_Int t_1.Stacks), .sl false 1 (List.map (AV.int .u8) b_1)] }), (10, { id := 2 })] [5, 6, 7, 8, 9, 10] [1, 2] 3 (vals := [.ptr 1 0 0 0, .int .i64 r_2.2.1, .int .i64 r_2.2.2, .ptr 2 0 0 0, .int .i64 r_3.2.1, .int .i64 r_3.2.2]) (bxs := [.live (.var 28 (v_T_api_Event r_2.1)), .live (.var 28 (v_T_api_Event r_3.1))]) (by kernel_rfl) hmix (ac (rfl : ([.sl false 1 (List.map AV.str t_1.Names), .sl false 2 (List.map e_Arr2_Int t_1.Stacks), .sl false 1 (List.map (AV.int .u8) b_1)] : List AV) = [.sl false 1 (List.map AV.str t_1.Names), .sl false 2 (List.map e_Arr2_Int t_1.Stacks), .sl false 1 (List.map (AV.int .u8) b_1)]) (ac (rfl : ([] : List BoxSt) = []) (ac (R08_Decode_ok F t_1.Names t_1.Stacks b_1 r_3 h_3 : TripleG prog 16 [] [] [.sl false 1 (List.map AV.str t_1.Names), .sl false 2 (List.map e_Arr2_Int t_1.Stacks), .sl false 1 (List.map (AV.int .u8) b_1)] [] (.tuple [e_T_api_Event r_3.1, .int .i64 r_3.2.1, .int .i64 r_3.2.2])) an))) ?_
  refine aw_seq (by kernel_rfl) ?_
  obtain ⟨p_1, h_6, h⟩ := bind_some h
  refine aw_mid (mk [(4, .bool p_1)] [] 0) ?_ ?_
  · replace h := h_6
    obtain ⟨r_4, h_4, h⟩ := bind_some h
    rcases Bool.eq_false_or_eq_true r_4 with gg_3 | gg_3
    · replace h := cond_t gg_3 h
      rcases Bool.eq_false_or_eq_true (r_2.2.1 == r_3.2.1) with gg_4 | gg_4
      · replace h := cond_t gg_4 h
        rcases Bool.eq_false_or_eq_true (r_2.2.2 == r_3.2.2) with gg_5 | gg_5
        · replace h := cond_t gg_5 h
          obtain ⟨r_5, h_5, h⟩ := bind_some h
          refine aw_region [(2, { av := .bool r_4, l := [e_T_api_Event r_2.1, e_T_api_Event r_3.1] }), (7, { b := true }), (12, { b := true }), (14, { av := .bool r_5, l := [] }), (15, { b := true })] [4] [] 3 (vals := [.bool r_5]) (bxs := []) (by kernel_rfl) hmix (ac (rfl : ([e_T_api_Event r_2.1, e_T_api_Event r_3.1] : List AV) = [e_T_api_Event r_2.1, e_T_api_Event r_3.1]) (ac (rfl : ([] : List BoxSt) = []) (ac (event_Same_ok F r_2.1 r_3.1 r_4 h_4 : TripleG prog 17 [] [] [e_T_api_Event r_2.1, e_T_api_Event r_3.1] [] (.bool r_4)) (ac gg_3 (ac gg_3 (ac gg_3 (ac gg_3 (ac gg_4 (ac gg_4 (ac gg_4 (ac gg_4 (ac gg_5 (ac (rfl : ([] : List AV) = []) (ac (rfl : ([] : List BoxSt) = []) (ac (L08_lives_ok F r_5 h_5 : TripleG prog 10 [] [] [] [] (.bool r_5)) (ac gg_5 an)))))))))))))))) ?_
          replace h := Option.some.inj h; subst h
          exact ⟨rfl, (sub_wkm [] [] [.s 4] [] (by kernel_rfl) an)⟩
        · replace h := cond_f gg_5 h
          refine aw_region [(2, { av := .bool r_4, l := [e_T_api_Event r_2.1, e_T_api_Event r_3.1] }), (7, { b := true }), (12, { b := true }), (14, { g := false }), (15, { b := false })] [4] [] 3 (vals := [.bool false]) (bxs := []) (by kernel_rfl) hmix (ac (rfl : ([e_T_api_Event r_2.1, e_T_api_Event r_3.1] : List AV) = [e_T_api_Event r_2.1, e_T_api_Event r_3.1]) (ac (rfl : ([] : List BoxSt) = []) (ac (event_Same_ok F r_2.1 r_3.1 r_4 h_4 : TripleG prog 17 [] [] [e_T_api_Event r_2.1, e_T_api_Event r_3.1] [] (.bool r_4)) (ac gg_3 (ac gg_3 (ac gg_3 (ac gg_3 (ac gg_4 (ac gg_4 (ac gg_4 (ac gg_4 (ac gg_5 (ac gg_5 an))))))))))))) ?_
          replace h := Option.some.inj h; subst h
          exact ⟨rfl, (sub_wkm [] [] [.s 4] [] (by kernel_rfl) an)⟩
      · replace h := cond_f gg_4 h
        refine aw_region [(2, { av := .bool r_4, l := [e_T_api_Event r_2.1, e_T_api_Event r_3.1] }), (7, { b := true }), (9, { g := false }), (10, { g := false }), (11, { g := false }), (12, { b := false }), (14, { g := false }), (15, { b := false })] [4] [] 3 (vals := [.bool false]) (bxs := []) (by kernel_rfl) hmix (ac (rfl : ([e_T_api_Event r_2.1, e_T_api_Event r_3.1] : List AV) = [e_T_api_Event r_2.1, e_T_api_Event r_3.1]) (ac (rfl : ([] : List BoxSt) = []) (ac (event_Same_ok F r_2.1 r_3.1 r_4 h_4 : TripleG prog 17 [] [] [e_T_api_Event r_2.1, e_T_api_Event r_3.1] [] (.bool r_4)) (ac gg_3 (ac gg_3 (ac gg_3 (ac gg_3 (ac gg_4 (ac gg_4 (ac gg_4 (ac gg_4 (ac (rfl : false = !true) (ac (rfl : false = false) an))))))))))))) ?_
        replace h := Option.some.inj h; subst h
        exact ⟨rfl, (sub_wkm [] [] [.s 4] [] (by kernel_rfl) an)⟩
    · replace h := cond_f gg_3 h
      refine aw_region [(2, { av := .bool r_4, l := [e_T_api_Event r_2.1, e_T_api_Event r_3.1] }), (4, { g := false }), (5, { g := false }), (6, { g := false }), (7, { b := false }), (9, { g := false }), (10, { g := false }), (11, { g := false }), (12, { b := false }), (14, { g := false }), (15, { b := false })] [4] [] 3 (vals := [.bool false]) (bxs := []) (by kernel_rfl) hmix (ac (rfl : ([e_T_api_Event r_2.1, e_T_api_Event r_3.1] : List AV) = [e_T_api_Event r_2.1, e_T_api_Event r_3.1]) (ac (rfl : ([] : List BoxSt) = []) (ac (event_Same_ok F r_2.1 r_3.1 r_4 h_4 : TripleG prog 17 [] [] [e_T_api_Event r_2.1, e_T_api_Event r_3.1] [] (.bool r_4)) (ac gg_3 (ac gg_3 (ac gg_3 (ac gg_3 (ac (rfl : false = !true) (ac (rfl : false = !true) (ac (rfl : false = !true) (ac (rfl : false = false) (ac (rfl : false = !true) (ac (rfl : false = false) an))))))))))))) ?_
      replace h := Option.some.inj h; subst h
      exact ⟨rfl, (sub_wkm [] [] [.s 4] [] (by kernel_rfl) an)⟩
  refine aw_ret (by kernel_rfl) ?_
  replace h := Option.some.inj h; subst h
  exact ⟨.inr rfl, Nat.le_of_ble_eq_true rfl, by kernel_rfl⟩

end Go.Ab
