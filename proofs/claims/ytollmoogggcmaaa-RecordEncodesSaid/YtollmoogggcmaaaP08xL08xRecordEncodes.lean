/- Printed: the typed Lean functions of the Go functions, or the proofs that the Go functions meet them. No conditions but those that the theorems name. -/
import Derived.Test.YtollmoogggcmaaaP08x3
namespace Go.Ab
open Go
set_option linter.unusedVariables false
theorem L08_RecordEncodes_ok (F : Nat) (t_1 : T_tracebooklaw08_Tables) (e_1 : T_api_Event) (r : Bool) (h : L08_RecordEncodes F t_1 e_1 = some r) : TripleG prog 3 [] [] [e_T_tracebooklaw08_Tables t_1, e_T_api_Event e_1] [] (.bool r) := by
  refine triple_intro (fn := Go.Proofs.Try.f3) (code := codeOf Go.Proofs.Try.f3) (by kernel_rfl) (by kernel_rfl) (Nat.le_of_ble_eq_true (by kernel_rfl)) ?_
  unfold L08_RecordEncodes at h
  refine aw_seq (by kernel_rfl) ?_
  refine aw_region [(0, { id := 0 }), (1, { id := 1 })] [2, 3] [0, 1] 2 (vals := [.ptr 0 0 0 0, .ptr 1 0 0 0]) (bxs := [.live (.var 25 (v_T_tracebooklaw08_Tables t_1)), .live (.var 28 (v_T_api_Event e_1))]) (by kernel_rfl) hmix an ?_
  refine aw_seq (by kernel_rfl) ?_
  refine aw_seq (by kernel_rfl) ?_
  obtain ⟨p_1, h_3, h⟩ := bind_some h
  refine aw_mid (mk [(2, .ptr 0 0 0 0), (3, .ptr 1 0 0 0), (20, .bool p_1)] [(0, .live (.var 25 (v_T_tracebooklaw08_Tables t_1))), (1, .live (.var 28 (v_T_api_Event e_1)))] 2) ?_ ?_
  · replace h := h_3
    obtain ⟨r_1, h_1, h⟩ := bind_some h
    rcases Bool.eq_false_or_eq_true (!r_1) with gg_1 | gg_1
    · replace h := cond_t gg_1 h
      refine aw_region [(1, { av := .bool r_1, l := [e_T_tracebooklaw08_Tables t_1] }), (4, { g := false }), (5, { g := false }), (6, { g := false }), (7, { b := true })] [2, 3, 20] [0, 1] 2 (vals := [.ptr 0 0 0 0, .ptr 1 0 0 0, .bool true]) (bxs := [.live (.var 25 (v_T_tracebooklaw08_Tables t_1)), .live (.var 28 (v_T_api_Event e_1))]) (by kernel_rfl) hmix (ac (rfl : ([e_T_tracebooklaw08_Tables t_1] : List AV) = [e_T_tracebooklaw08_Tables t_1]) (ac (rfl : ([] : List BoxSt) = []) (ac (L08_few_ok t_1 r_1 h_1 : TripleG prog 8 [] [] [e_T_tracebooklaw08_Tables t_1] [] (.bool r_1)) (ac gg_1 (ac gg_1 (ac gg_1 (ac gg_1 an))))))) ?_
      replace h := Option.some.inj h; subst h
      exact ⟨rfl, (sub_wkm [0, 1] [] [.s 2, .s 3, .s 20] [.s 0, .s 1] (by kernel_rfl) an)⟩
    · replace h := cond_f gg_1 h
      obtain ⟨r_2, h_2, h⟩ := bind_some h
      refine aw_region [(1, { av := .bool r_1, l := [e_T_tracebooklaw08_Tables t_1] }), (5, { av := .bool r_2, l := [e_T_api_Event e_1] }), (7, { b := false })] [2, 3, 20] [0, 1] 2 (vals := [.ptr 0 0 0 0, .ptr 1 0 0 0, .bool (!r_2)]) (bxs := [.live (.var 25 (v_T_tracebooklaw08_Tables t_1)), .live (.var 28 (v_T_api_Event e_1))]) (by kernel_rfl) hmix (ac (rfl : ([e_T_tracebooklaw08_Tables t_1] : List AV) = [e_T_tracebooklaw08_Tables t_1]) (ac (rfl : ([] : List BoxSt) = []) (ac (L08_few_ok t_1 r_1 h_1 : TripleG prog 8 [] [] [e_T_tracebooklaw08_Tables t_1] [] (.bool r_1)) (ac gg_1 (ac gg_1 (ac (rfl : ([e_T_api_Event e_1] : List AV) = [e_T_api_Event e_1]) (ac (rfl : ([] : List BoxSt) = []) (ac (L08_short_ok e_1 r_2 h_2 : TripleG prog 9 [] [] [e_T_api_Event e_1] [] (.bool r_2)) (ac gg_1 (ac gg_1 an)))))))))) ?_
      replace h := Option.some.inj h; subst h
      exact ⟨rfl, (sub_wkm [0, 1] [] [.s 2, .s 3, .s 20] [.s 0, .s 1] (by kernel_rfl) an)⟩
  refine aw_cond (t := 20) (b := p_1) (by kernel_rfl) (by kernel_rfl) ?_ ?_
  · intro g_1; replace h := cond_t g_1 h
    refine aw_seq (by kernel_rfl) ?_
    obtain ⟨r_3, h_4, h⟩ := bind_some h
    refine aw_region [(0, { av := .bool r_3, l := [] })] [4] [] 2 (vals := [.bool r_3]) (bxs := []) (by kernel_rfl) hmix (ac (rfl : ([] : List AV) = []) (ac (rfl : ([] : List BoxSt) = []) (ac (L08_lives_ok F r_3 h_4 : TripleG prog 10 [] [] [] [] (.bool r_3)) an))) ?_
    refine aw_ret (by kernel_rfl) ?_
    replace h := Option.some.inj h; subst h
    exact ⟨.inr rfl, Nat.le_of_ble_eq_true rfl, by kernel_rfl⟩
  intro g_1; replace h := cond_f g_1 h
  refine aw_skip (by kernel_rfl) ?_
  refine aw_seq (by kernel_rfl) ?_
  obtain ⟨r_4, h_5, h⟩ := bind_some h
  refine aw_region [(5, { av := .tuple [.own 0 ((r_4.1).length), .sl false 1 (List.map AV.str r_4.2.1), .sl false 2 (List.map e_Arr2_Int r_4.2.2.1), .int .i64 r_4.2.2.2], ids := [2], l := [.sl false 1 (List.map AV.str t_1.Names), .sl false 2 (List.map e_Arr2_Int t_1.Stacks), e_T_api_Event e_1], post := [(.row 5 1 (List.map (AV.int .u8) r_4.1))] })] [2, 3, 5, 6, 7, 8] [0, 1, 2] 3 (vals := [.ptr 0 0 0 0, .ptr 1 0 0 0, .own 2 ((r_4.1).length), .sl false 1 (List.map AV.str r_4.2.1), .sl false 2 (List.map e_Arr2_Int r_4.2.2.1), .int .i64 r_4.2.2.2]) (bxs := [.live (.var 25 (v_T_tracebooklaw08_Tables t_1)), .live (.var 28 (v_T_api_Event e_1)), .live (.row 5 1 (List.map (AV.int .u8) r_4.1))]) (by kernel_rfl) hmix (ac (rfl : ([.sl false 1 (List.map AV.str t_1.Names), .sl false 2 (List.map e_Arr2_Int t_1.Stacks), e_T_api_Event e_1] : List AV) = [.sl false 1 (List.map AV.str t_1.Names), .sl false 2 (List.map e_Arr2_Int t_1.Stacks), e_T_api_Event e_1]) (ac (rfl : ([] : List BoxSt) = []) (ac (record_Encode_ok F t_1.Names t_1.Stacks e_1 r_4 h_5 : TripleG prog 11 [] [] [.sl false 1 (List.map AV.str t_1.Names), .sl false 2 (List.map e_Arr2_Int t_1.Stacks), e_T_api_Event e_1] [(.row 5 1 (List.map (AV.int .u8) r_4.1))] (.tuple [.own 0 ((r_4.1).length), .sl false 1 (List.map AV.str r_4.2.1), .sl false 2 (List.map e_Arr2_Int r_4.2.2.1), .int .i64 r_4.2.2.2])) an))) ?_
  refine aw_seq (by kernel_rfl) ?_
  obtain ⟨r_5, h_6, h⟩ := bind_some h
  refine aw_region [(5, { av := .tuple [.sl false 1 (List.map (AV.int .u8) r_5.1), .sl false 1 (List.map AV.str r_5.2.1), .sl false 2 (List.map e_Arr2_Int r_5.2.2.1), .int .i64 r_5.2.2.2], l := [.sl false 1 (List.map AV.str t_1.Names), .sl false 2 (List.map e_Arr2_Int t_1.Stacks), e_T_api_Event e_1] })] [2, 3, 5, 6, 7, 8, 9, 10, 11, 12] [0, 1, 2] 3 (vals := [.ptr 0 0 0 0, .ptr 1 0 0 0, .own 2 ((r_4.1).length), .sl false 1 (List.map AV.str r_4.2.1), .sl false 2 (List.map e_Arr2_Int r_4.2.2.1), .int .i64 r_4.2.2.2, .sl false 1 (List.map (AV.int .u8) r_5.1), .sl false 1 (List.map AV.str r_5.2.1), .sl false 2 (List.map e_Arr2_Int r_5.2.2.1), .int .i64 r_5.2.2.2]) (bxs := [.live (.var 25 (v_T_tracebooklaw08_Tables t_1)), .live (.var 28 (v_T_api_Event e_1)), .live (.row 5 1 (List.map (AV.int .u8) r_4.1))]) (by kernel_rfl) hmix (ac (rfl : ([.sl false 1 (List.map AV.str t_1.Names), .sl false 2 (List.map e_Arr2_Int t_1.Stacks), e_T_api_Event e_1] : List AV) = [.sl false 1 (List.map AV.str t_1.Names), .sl false 2 (List.map e_Arr2_Int t_1.Stacks), e_T_api_Event e_1]) (ac (rfl : ([] : List BoxSt) = []) (ac (R08_Encode_ok F t_1.Names t_1.Stacks e_1 r_5 h_6 : TripleG prog 12 [] [] [.sl false 1 (List.map AV.str t_1.Names), .sl false 2 (List.map e_Arr2_Int t_1.Stacks), e_T_api_Event e_1] [] (.tuple [.sl false 1 (List.map (AV.int .u8) r_5.1), .sl false 1 (List.map AV.str r_5.2.1), .sl false 2 (List.map e_Arr2_Int r_5.2.2.1), .int .i64 r_5.2.2.2])) an))) ?_
  refine aw_seq (by kernel_rfl) ?_
  refine aw_seq (by kernel_rfl) ?_
  obtain ⟨p_2, h_8, h⟩ := bind_some h
  refine aw_mid (mk [(2, .ptr 0 0 0 0), (3, .ptr 1 0 0 0), (9, .sl false 1 (List.map (AV.int .u8) r_5.1)), (61, .bool p_2)] [(0, .live (.var 25 (v_T_tracebooklaw08_Tables t_1))), (1, .live (.var 28 (v_T_api_Event e_1)))] 2) ?_ ?_
  · replace h := h_8
    rcases Bool.eq_false_or_eq_true (!(r_4.1 == r_5.1)) with gg_2 | gg_2
    · replace h := cond_t gg_2 h
      refine aw_region [(1, { s := r_4.1 }), (3, { s := r_5.1 }), (6, { g := false }), (7, { g := false }), (8, { g := false }), (9, { g := false }), (10, { g := false }), (11, { g := false }), (12, { b := true }), (14, { g := false }), (15, { g := false }), (16, { g := false }), (17, { b := true })] [2, 3, 9, 61] [0, 1] 3 (vals := [.ptr 0 0 0 0, .ptr 1 0 0 0, .sl false 1 (List.map (AV.int .u8) r_5.1), .bool true]) (bxs := [.live (.var 25 (v_T_tracebooklaw08_Tables t_1)), .live (.var 28 (v_T_api_Event e_1))]) (by kernel_rfl) hmix (ac (by first | (simp; done) | (simp; omega) : (r_4.1).length = ((List.map (AV.int .u8) r_4.1)).length) (ac (rfl : (List.map (AV.int .u8) r_4.1) = List.map (AV.int .u8) r_4.1) (ac (rfl : (List.map (AV.int .u8) r_5.1) = List.map (AV.int .u8) r_5.1) (ac gg_2 (ac gg_2 (ac gg_2 (ac gg_2 (ac gg_2 (ac gg_2 (ac gg_2 (ac (rfl : true = !false) (ac (rfl : true = !false) (ac (rfl : true = !false) (ac (rfl : true = true) an)))))))))))))) ?_
      replace h := Option.some.inj h; subst h
      exact ⟨rfl, (sub_wkm [0, 1] [] [.s 2, .s 3, .s 9, .s 61] [.s 0, .s 1] (by kernel_rfl) an)⟩
    · replace h := cond_f gg_2 h
      obtain ⟨r_6, h_7, h⟩ := bind_some h
      rcases Bool.eq_false_or_eq_true (!r_6) with gg_3 | gg_3
      · replace h := cond_t gg_3 h
        refine aw_region [(1, { s := r_4.1 }), (3, { s := r_5.1 }), (10, { av := .bool r_6, l := [.sl false 1 (List.map AV.str r_4.2.1), .sl false 2 (List.map e_Arr2_Int r_4.2.2.1), .sl false 1 (List.map AV.str r_5.2.1), .sl false 2 (List.map e_Arr2_Int r_5.2.2.1)] }), (12, { b := false }), (14, { g := false }), (15, { g := false }), (16, { g := false }), (17, { b := true })] [2, 3, 9, 61] [0, 1] 3 (vals := [.ptr 0 0 0 0, .ptr 1 0 0 0, .sl false 1 (List.map (AV.int .u8) r_5.1), .bool true]) (bxs := [.live (.var 25 (v_T_tracebooklaw08_Tables t_1)), .live (.var 28 (v_T_api_Event e_1))]) (by kernel_rfl) hmix (ac (by first | (simp; done) | (simp; omega) : (r_4.1).length = ((List.map (AV.int .u8) r_4.1)).length) (ac (rfl : (List.map (AV.int .u8) r_4.1) = List.map (AV.int .u8) r_4.1) (ac (rfl : (List.map (AV.int .u8) r_5.1) = List.map (AV.int .u8) r_5.1) (ac gg_2 (ac gg_2 (ac gg_2 (ac gg_2 (ac gg_2 (ac (rfl : ([.sl false 1 (List.map AV.str r_4.2.1), .sl false 2 (List.map e_Arr2_Int r_4.2.2.1), .sl false 1 (List.map AV.str r_5.2.1), .sl false 2 (List.map e_Arr2_Int r_5.2.2.1)] : List AV) = [.sl false 1 (List.map AV.str r_4.2.1), .sl false 2 (List.map e_Arr2_Int r_4.2.2.1), .sl false 1 (List.map AV.str r_5.2.1), .sl false 2 (List.map e_Arr2_Int r_5.2.2.1)]) (ac (rfl : ([] : List BoxSt) = []) (ac (R08_SameTables_ok F r_4.2.1 r_4.2.2.1 r_5.2.1 r_5.2.2.1 r_6 h_7 : TripleG prog 13 [] [] [.sl false 1 (List.map AV.str r_4.2.1), .sl false 2 (List.map e_Arr2_Int r_4.2.2.1), .sl false 1 (List.map AV.str r_5.2.1), .sl false 2 (List.map e_Arr2_Int r_5.2.2.1)] [] (.bool r_6)) (ac gg_2 (ac gg_2 (ac gg_3 (ac gg_3 (ac gg_3 (ac gg_3 an))))))))))))))))) ?_
        replace h := Option.some.inj h; subst h
        exact ⟨rfl, (sub_wkm [0, 1] [] [.s 2, .s 3, .s 9, .s 61] [.s 0, .s 1] (by kernel_rfl) an)⟩
      · replace h := cond_f gg_3 h
        refine aw_region [(1, { s := r_4.1 }), (3, { s := r_5.1 }), (10, { av := .bool r_6, l := [.sl false 1 (List.map AV.str r_4.2.1), .sl false 2 (List.map e_Arr2_Int r_4.2.2.1), .sl false 1 (List.map AV.str r_5.2.1), .sl false 2 (List.map e_Arr2_Int r_5.2.2.1)] }), (12, { b := false }), (17, { b := false })] [2, 3, 9, 61] [0, 1] 3 (vals := [.ptr 0 0 0 0, .ptr 1 0 0 0, .sl false 1 (List.map (AV.int .u8) r_5.1), .bool (r_4.2.2.2 != r_5.2.2.2)]) (bxs := [.live (.var 25 (v_T_tracebooklaw08_Tables t_1)), .live (.var 28 (v_T_api_Event e_1))]) (by kernel_rfl) hmix (ac (by first | (simp; done) | (simp; omega) : (r_4.1).length = ((List.map (AV.int .u8) r_4.1)).length) (ac (rfl : (List.map (AV.int .u8) r_4.1) = List.map (AV.int .u8) r_4.1) (ac (rfl : (List.map (AV.int .u8) r_5.1) = List.map (AV.int .u8) r_5.1) (ac gg_2 (ac gg_2 (ac gg_2 (ac gg_2 (ac gg_2 (ac (rfl : ([.sl false 1 (List.map AV.str r_4.2.1), .sl false 2 (List.map e_Arr2_Int r_4.2.2.1), .sl false 1 (List.map AV.str r_5.2.1), .sl false 2 (List.map e_Arr2_Int r_5.2.2.1)] : List AV) = [.sl false 1 (List.map AV.str r_4.2.1), .sl false 2 (List.map e_Arr2_Int r_4.2.2.1), .sl false 1 (List.map AV.str r_5.2.1), .sl false 2 (List.map e_Arr2_Int r_5.2.2.1)]) (ac (rfl : ([] : List BoxSt) = []) (ac (R08_SameTables_ok F r_4.2.1 r_4.2.2.1 r_5.2.1 r_5.2.2.1 r_6 h_7 : TripleG prog 13 [] [] [.sl false 1 (List.map AV.str r_4.2.1), .sl false 2 (List.map e_Arr2_Int r_4.2.2.1), .sl false 1 (List.map AV.str r_5.2.1), .sl false 2 (List.map e_Arr2_Int r_5.2.2.1)] [] (.bool r_6)) (ac gg_2 (ac gg_2 (ac gg_3 (ac gg_3 (ac gg_3 (ac gg_3 an))))))))))))))))) ?_
        replace h := Option.some.inj h; subst h
        exact ⟨rfl, (sub_wkm [0, 1] [] [.s 2, .s 3, .s 9, .s 61] [.s 0, .s 1] (by kernel_rfl) an)⟩
  refine aw_cond (t := 61) (b := p_2) (by kernel_rfl) (by kernel_rfl) ?_ ?_
  · intro g_2; replace h := cond_t g_2 h
    refine aw_seq (by kernel_rfl) ?_
    refine aw_region [] [4] [] 2 (vals := [.bool false]) (bxs := []) (by kernel_rfl) hmix an ?_
    refine aw_ret (by kernel_rfl) ?_
    replace h := Option.some.inj h; subst h
    exact ⟨.inr rfl, Nat.le_of_ble_eq_true rfl, by kernel_rfl⟩
  intro g_2; replace h := cond_f g_2 h
  refine aw_skip (by kernel_rfl) ?_
  refine aw_seq (by kernel_rfl) ?_
  obtain ⟨p_3, h_11, h⟩ := bind_some h
  refine aw_mid (mk [(4, .bool p_3)] [] 0) ?_ ?_
  · replace h := h_11
    obtain ⟨r_7, h_9, h⟩ := bind_some h
    rcases Bool.eq_false_or_eq_true (r_7 == (((r_5.1).length : Nat) : Int)) with gg_4 | gg_4
    · replace h := cond_t gg_4 h
      obtain ⟨r_8, h_10, h⟩ := bind_some h
      refine aw_region [(5, { av := .int .i64 r_7, l := [.sl false 1 (List.map AV.str t_1.Names), .sl false 2 (List.map e_Arr2_Int t_1.Stacks), e_T_api_Event e_1] }), (7, { n := (r_5.1).length }), (10, { av := .bool r_8, l := [] }), (11, { b := true })] [4] [] 2 (vals := [.bool r_8]) (bxs := []) (by kernel_rfl) hmix (ac (rfl : ([.sl false 1 (List.map AV.str t_1.Names), .sl false 2 (List.map e_Arr2_Int t_1.Stacks), e_T_api_Event e_1] : List AV) = [.sl false 1 (List.map AV.str t_1.Names), .sl false 2 (List.map e_Arr2_Int t_1.Stacks), e_T_api_Event e_1]) (ac (rfl : ([] : List BoxSt) = []) (ac (record_Size_ok F t_1.Names t_1.Stacks e_1 r_7 h_9 : TripleG prog 14 [] [] [.sl false 1 (List.map AV.str t_1.Names), .sl false 2 (List.map e_Arr2_Int t_1.Stacks), e_T_api_Event e_1] [] (.int .i64 r_7)) (ac (vc_len _ : ((List.map (AV.int .u8) r_5.1)).length = (r_5.1).length) (ac gg_4 (ac (rfl : ([] : List AV) = []) (ac (rfl : ([] : List BoxSt) = []) (ac (L08_lives_ok F r_8 h_10 : TripleG prog 10 [] [] [] [] (.bool r_8)) (ac gg_4 an))))))))) ?_
      replace h := Option.some.inj h; subst h
      exact ⟨rfl, (sub_wkm [] [] [.s 4] [] (by kernel_rfl) an)⟩
    · replace h := cond_f gg_4 h
      refine aw_region [(5, { av := .int .i64 r_7, l := [.sl false 1 (List.map AV.str t_1.Names), .sl false 2 (List.map e_Arr2_Int t_1.Stacks), e_T_api_Event e_1] }), (7, { n := (r_5.1).length }), (10, { g := false }), (11, { b := false })] [4] [] 2 (vals := [.bool false]) (bxs := []) (by kernel_rfl) hmix (ac (rfl : ([.sl false 1 (List.map AV.str t_1.Names), .sl false 2 (List.map e_Arr2_Int t_1.Stacks), e_T_api_Event e_1] : List AV) = [.sl false 1 (List.map AV.str t_1.Names), .sl false 2 (List.map e_Arr2_Int t_1.Stacks), e_T_api_Event e_1]) (ac (rfl : ([] : List BoxSt) = []) (ac (record_Size_ok F t_1.Names t_1.Stacks e_1 r_7 h_9 : TripleG prog 14 [] [] [.sl false 1 (List.map AV.str t_1.Names), .sl false 2 (List.map e_Arr2_Int t_1.Stacks), e_T_api_Event e_1] [] (.int .i64 r_7)) (ac (vc_len _ : ((List.map (AV.int .u8) r_5.1)).length = (r_5.1).length) (ac gg_4 (ac gg_4 an)))))) ?_
      replace h := Option.some.inj h; subst h
      exact ⟨rfl, (sub_wkm [] [] [.s 4] [] (by kernel_rfl) an)⟩
  refine aw_ret (by kernel_rfl) ?_
  replace h := Option.some.inj h; subst h
  exact ⟨.inr rfl, Nat.le_of_ble_eq_true rfl, by kernel_rfl⟩

end Go.Ab
