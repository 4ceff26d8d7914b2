/- Printed: the typed Lean functions of the Go functions, or the proofs that the Go functions meet them. No conditions but those that the theorems name. -/
import Derived.Test.YtollmoogggcmaaaP08x3
namespace Go.Ab
open Go
set_option linter.unusedVariables false
theorem L08_RecordSequences_ok (F : Nat) (l_1 : List (T_api_Event)) (r : Bool) (h : L08_RecordSequences F l_1 = some r) : TripleG prog 7 [] [] [.sl false 6 (List.map e_T_api_Event l_1)] [] (.bool r) := by
  refine triple_intro (fn := Go.Proofs.Try.f7) (code := codeOf Go.Proofs.Try.f7) (by kernel_rfl) (by kernel_rfl) (Nat.le_of_ble_eq_true (by kernel_rfl)) ?_
  unfold L08_RecordSequences at h
  refine aw_seq (by kernel_rfl) ?_
  refine aw_region [] [0] [] 0 (vals := [.sl false 6 (List.map e_T_api_Event l_1)]) (bxs := []) (by kernel_rfl) hmix an ?_
  refine aw_seq (by kernel_rfl) ?_
  refine aw_seq (by kernel_rfl) ?_
  refine aw_region [(1, { n := (l_1).length })] [0, 18] [] 0 (vals := [.sl false 6 (List.map e_T_api_Event l_1), .bool (decide ((((l_1).length : Nat) : Int) > (20 : Int)))]) (bxs := []) (by kernel_rfl) hmix (ac (vc_len _ : ((List.map e_T_api_Event l_1)).length = (l_1).length) an) ?_
  refine aw_cond (t := 18) (b := (decide ((((l_1).length : Nat) : Int) > (20 : Int)))) (by kernel_rfl) (by kernel_rfl) ?_ ?_
  · intro g_1; replace h := cond_t g_1 h
    refine aw_seq (by kernel_rfl) ?_
    obtain ⟨r_1, h_1, h⟩ := bind_some h
    refine aw_region [(0, { av := .bool r_1, l := [] })] [2] [] 0 (vals := [.bool r_1]) (bxs := []) (by kernel_rfl) hmix (ac (rfl : ([] : List AV) = []) (ac (rfl : ([] : List BoxSt) = []) (ac (L08_lives_ok F r_1 h_1 : TripleG prog 10 [] [] [] [] (.bool r_1)) an))) ?_
    refine aw_ret (by kernel_rfl) ?_
    replace h := Option.some.inj h; subst h
    exact ⟨.inr rfl, Nat.le_of_ble_eq_true rfl, by kernel_rfl⟩
  intro g_1; replace h := cond_f g_1 h
  refine aw_skip (by kernel_rfl) ?_
  refine aw_seq (by kernel_rfl) ?_
  refine aw_region [(0, { id := 0, m := 1 })] [0, 3] [0] 1 (vals := [.sl false 6 (List.map e_T_api_Event l_1), .own 0 0]) (bxs := [.live (.row 5 1 [])]) (by kernel_rfl) hmix an ?_
  refine aw_seq (by kernel_rfl) ?_
  refine aw_region [(0, { id := 1, m := 1 })] [0, 3, 4] [0, 1] 2 (vals := [.sl false 6 (List.map e_T_api_Event l_1), .own 0 0, .own 1 0]) (bxs := [.live (.row 5 1 []), .live (.row 28 6 [])]) (by kernel_rfl) hmix an ?_
  refine aw_seq (by kernel_rfl) ?_
  refine aw_region [(1, { id := 2 })] [0, 3, 4, 5] [0, 1, 2] 3 (vals := [.sl false 6 (List.map e_T_api_Event l_1), .own 0 0, .own 1 0, .ptr 2 0 0 0]) (bxs := [.live (.row 5 1 []), .live (.row 28 6 []), .live (.var 25 [.nilsl, .nilsl])]) (by kernel_rfl) hmix an ?_
  refine aw_seq (by kernel_rfl) ?_
  refine aw_seq (by kernel_rfl) ?_
  refine aw_region [] [0, 3, 4, 5, 6] [0, 1, 2] 3 (vals := [.sl false 6 (List.map e_T_api_Event l_1), .own 0 0, .own 1 0, .ptr 2 0 0 0, .int .i64 (0 : Int)]) (bxs := [.live (.row 5 1 []), .live (.row 28 6 []), .live (.var 25 [.nilsl, .nilsl])]) (by kernel_rfl) hmix an ?_
  obtain ⟨o_1, h_2, h⟩ := bind_some h
  refine aw_conv (K1 := (fun e st' => match o_1 with | (.inl q0) => e = .normal ∧ Sub 0 st' (mk [(3, .own 0 ((q0.1).length)), (4, .own 1 ((q0.2.1).length)), (5, .ptr 2 0 0 0)] [(0, .live (.row 5 1 (List.map (AV.int .u8) q0.1))), (1, .live (.row 28 6 (List.map e_T_api_Event q0.2.1))), (2, .live (.var 25 [.sl false 1 (List.map AV.str q0.2.2.1), .sl false 2 (List.map e_Arr2_Int q0.2.2.2)]))] 3) | (.inr q1) => e = .ret ∧ FinR prog Go.Proofs.Try.f7 0 [] (.bool q1) st')) ?_ ?_
  · replace h := h_2
    refine aw_block (id := 0) (by kernel_rfl) ?_
    refine aw_sub (sub_wkm [0, 1, 2] [] [.s 0, .s 3, .s 4, .s 5, .s 6] [.s 0, .s 1, .a 2 (.live (.var 25 [.sl false 1 [], .sl false 2 []]))] (sl2 := [(0, .sl false 6 (List.map e_T_api_Event l_1)), (3, .own 0 0), (4, .own 1 0), (5, .ptr 2 0 0 0), (6, .int .i64 (0 : Int))]) (bx2 := [(0, .live (.row 5 1 [])), (1, .live (.row 28 6 [])), (2, .live (.var 25 [.sl false 1 [], .sl false 2 []]))]) (by kernel_rfl) (ac (rfl : 25 = 25) (ac (rfl : ones [.sl false 1 [], .sl false 2 []] = true) (ac (rfl : ([] : List AV) = []) (ac (rfl : ([] : List AV) = []) an))))) ?_
    refine aw_loopF (fun n st => ∃ (i_1 : Int), ∃ (row_1 : List Int), ∃ (row_2 : List T_api_Event), ∃ (c_1 : List (List Int)), ∃ (c_2 : List Arr2_Int), st = mk [(0, .sl false 6 (List.map e_T_api_Event l_1)), (3, .own 0 ((row_1).length)), (4, .own 1 ((row_2).length)), (5, .ptr 2 0 0 0), (6, .int .i64 i_1)] [(0, .live (.row 5 1 (List.map (AV.int .u8) row_1))), (1, .live (.row 28 6 (List.map e_T_api_Event row_2))), (2, .live (.var 25 [.sl false 1 (List.map AV.str c_1), .sl false 2 (List.map e_Arr2_Int c_2)]))] 3 ∧ L08_RecordSequences_L1 F l_1 n i_1 row_1 row_2 c_1 c_2 = some o_1) F (by kernel_rfl) ⟨_, _, _, _, _, rfl, h⟩ ?_ ?_
    · rintro _ ⟨_, _, _, _, _, _, h⟩; exact none_ne (h : (none : Option (((List Int) × (List T_api_Event) × (List (List Int)) × (List Arr2_Int)) ⊕ Bool)) = some o_1)
    rintro n_1 _ ⟨i_1, row_1, row_2, c_1, c_2, rfl, h⟩
    replace h : L08_RecordSequences_L1_body F l_1 (L08_RecordSequences_L1 F l_1 n_1) i_1 row_1 row_2 c_1 c_2 = some o_1 := h
    unfold L08_RecordSequences_L1_body at h
    refine aw_seq (by kernel_rfl) ?_
    refine aw_seq (by kernel_rfl) ?_
    refine aw_region [(2, { n := (l_1).length })] [0, 3, 4, 5, 6, 24] [0, 1, 2] 3 (vals := [.sl false 6 (List.map e_T_api_Event l_1), .own 0 ((row_1).length), .own 1 ((row_2).length), .ptr 2 0 0 0, .int .i64 i_1, .bool (decide (i_1 < (((l_1).length : Nat) : Int)))]) (bxs := [.live (.row 5 1 (List.map (AV.int .u8) row_1)), .live (.row 28 6 (List.map e_T_api_Event row_2)), .live (.var 25 [.sl false 1 (List.map AV.str c_1), .sl false 2 (List.map e_Arr2_Int c_2)])]) (by kernel_rfl) hmix (ac (vc_len _ : ((List.map e_T_api_Event l_1)).length = (l_1).length) an) ?_
    refine aw_cond (t := 24) (b := (decide (i_1 < (((l_1).length : Nat) : Int)))) (by kernel_rfl) (by kernel_rfl) ?_ ?_
    rotate_left
    · intro g_2; replace h := cond_f g_2 h
      refine aw_exit (id := 0) (by kernel_rfl) ?_
      replace h := Option.some.inj h; subst h
      exact ⟨rfl, (sub_wkm [0, 1, 2] [] [.s 3, .s 4, .s 5] [.s 0, .s 1, .s 2] (by kernel_rfl) an)⟩
    intro g_2; replace h := cond_t g_2 h
    refine aw_skip (by kernel_rfl) ?_
    refine aw_seq (by kernel_rfl) ?_
    obtain ⟨o_2, h_3, h⟩ := bind_some h
    refine aw_conv (K1 := (fun e st' => match o_2 with | (.inl q0) => e = .normal ∧ Sub 0 st' (mk [(0, .sl false 6 (List.map e_T_api_Event l_1)), (3, .own 0 ((q0.1).length)), (4, .own 1 ((q0.2.1).length)), (5, .ptr 2 0 0 0), (6, .int .i64 i_1)] [(0, .live (.row 5 1 (List.map (AV.int .u8) q0.1))), (1, .live (.row 28 6 (List.map e_T_api_Event q0.2.1))), (2, .live (.var 25 [.sl false 1 (List.map AV.str q0.2.2.1), .sl false 2 (List.map e_Arr2_Int q0.2.2.2)]))] 3) | (.inr q1) => e = .ret ∧ FinR prog Go.Proofs.Try.f7 0 [] (.bool q1) st')) ?_ ?_
    · replace h := h_3
      refine aw_block (id := 1) (by kernel_rfl) ?_
      refine aw_seq (by kernel_rfl) ?_
      refine aw_seq (by kernel_rfl) ?_
      obtain ⟨x_1, h_4, h⟩ := bind_some h
      obtain ⟨r_2, h_5, h⟩ := bind_some h
      refine aw_region [(2, { av := e_T_api_Event x_1 }), (4, { av := .bool r_2, l := [e_T_api_Event x_1] })] [0, 3, 4, 5, 6, 32] [0, 1, 2] 3 (vals := [.sl false 6 (List.map e_T_api_Event l_1), .own 0 ((row_1).length), .own 1 ((row_2).length), .ptr 2 0 0 0, .int .i64 i_1, .bool (!r_2)]) (bxs := [.live (.row 5 1 (List.map (AV.int .u8) row_1)), .live (.row 28 6 (List.map e_T_api_Event row_2)), .live (.var 25 [.sl false 1 (List.map AV.str c_1), .sl false 2 (List.map e_Arr2_Int c_2)])]) (by kernel_rfl) hmix (ac (vc_idx h_4 : idxA (List.map e_T_api_Event l_1) i_1 = some (e_T_api_Event x_1)) (ac (rfl : ([e_T_api_Event x_1] : List AV) = [e_T_api_Event x_1]) (ac (rfl : ([] : List BoxSt) = []) (ac (L08_short_ok x_1 r_2 h_5 : TripleG prog 9 [] [] [e_T_api_Event x_1] [] (.bool r_2)) an)))) ?_
      refine aw_cond (t := 32) (b := (!r_2)) (by kernel_rfl) (by kernel_rfl) ?_ ?_
      · intro g_3; replace h := cond_t g_3 h
        refine aw_seq (by kernel_rfl) ?_
        obtain ⟨r_3, h_6, h⟩ := bind_some h
        refine aw_region [(0, { av := .bool r_3, l := [] })] [2] [] 3 (vals := [.bool r_3]) (bxs := []) (by kernel_rfl) hmix (ac (rfl : ([] : List AV) = []) (ac (rfl : ([] : List BoxSt) = []) (ac (L08_lives_ok F r_3 h_6 : TripleG prog 10 [] [] [] [] (.bool r_3)) an))) ?_
        refine aw_ret (by kernel_rfl) ?_
        replace h := Option.some.inj h; subst h
        exact ⟨rfl, Nat.le_of_ble_eq_true rfl, by kernel_rfl⟩
      intro g_3; replace h := cond_f g_3 h
      refine aw_skip (by kernel_rfl) ?_
      refine aw_seq (by kernel_rfl) ?_
      obtain ⟨x_2, h_7, h⟩ := bind_some h
      obtain ⟨r_4, h_8, h⟩ := bind_some h
      refine aw_region [(6, { av := e_T_api_Event x_2 }), (8, { av := .tuple [.own 0 ((r_4.1).length), .sl false 1 (List.map AV.str r_4.2.1), .sl false 2 (List.map e_Arr2_Int r_4.2.2.1), .int .i64 r_4.2.2.2], ids := [3], l := [.sl false 1 (List.map AV.str c_1), .sl false 2 (List.map e_Arr2_Int c_2), e_T_api_Event x_2], post := [(.row 5 1 (List.map (AV.int .u8) r_4.1))] })] [0, 3, 4, 5, 6, 7, 8, 9, 10] [0, 1, 2, 3] 4 (vals := [.sl false 6 (List.map e_T_api_Event l_1), .own 0 ((row_1).length), .own 1 ((row_2).length), .ptr 2 0 0 0, .int .i64 i_1, .own 3 ((r_4.1).length), .sl false 1 (List.map AV.str r_4.2.1), .sl false 2 (List.map e_Arr2_Int r_4.2.2.1), .int .i64 r_4.2.2.2]) (bxs := [.live (.row 5 1 (List.map (AV.int .u8) row_1)), .live (.row 28 6 (List.map e_T_api_Event row_2)), .live (.var 25 [.sl false 1 (List.map AV.str c_1), .sl false 2 (List.map e_Arr2_Int c_2)]), .live (.row 5 1 (List.map (AV.int .u8) r_4.1))]) (by kernel_rfl) hmix (ac (vc_idx h_7 : idxA (List.map e_T_api_Event l_1) i_1 = some (e_T_api_Event x_2)) (ac (rfl : ([.sl false 1 (List.map AV.str c_1), .sl false 2 (List.map e_Arr2_Int c_2), e_T_api_Event x_2] : List AV) = [.sl false 1 (List.map AV.str c_1), .sl false 2 (List.map e_Arr2_Int c_2), e_T_api_Event x_2]) (ac (rfl : ([] : List BoxSt) = []) (ac (record_Encode_ok F c_1 c_2 x_2 r_4 h_8 : TripleG prog 11 [] [] [.sl false 1 (List.map AV.str c_1), .sl false 2 (List.map e_Arr2_Int c_2), e_T_api_Event x_2] [(.row 5 1 (List.map (AV.int .u8) r_4.1))] (.tuple [.own 0 ((r_4.1).length), .sl false 1 (List.map AV.str r_4.2.1), .sl false 2 (List.map e_Arr2_Int r_4.2.2.1), .int .i64 r_4.2.2.2])) an)))) ?_
      refine aw_seq (by kernel_rfl) ?_
      refine aw_seq (by kernel_rfl) ?_
      refine aw_region [] [0, 3, 4, 5, 6, 7, 8, 9, 49] [0, 1, 2, 3] 4 (vals := [.sl false 6 (List.map e_T_api_Event l_1), .own 0 ((row_1).length), .own 1 ((row_2).length), .ptr 2 0 0 0, .int .i64 i_1, .own 3 ((r_4.1).length), .sl false 1 (List.map AV.str r_4.2.1), .sl false 2 (List.map e_Arr2_Int r_4.2.2.1), .bool (r_4.2.2.2 != (0 : Int))]) (bxs := [.live (.row 5 1 (List.map (AV.int .u8) row_1)), .live (.row 28 6 (List.map e_T_api_Event row_2)), .live (.var 25 [.sl false 1 (List.map AV.str c_1), .sl false 2 (List.map e_Arr2_Int c_2)]), .live (.row 5 1 (List.map (AV.int .u8) r_4.1))]) (by kernel_rfl) hmix an ?_
      refine aw_cond (t := 49) (b := (r_4.2.2.2 != (0 : Int))) (by kernel_rfl) (by kernel_rfl) ?_ ?_
      · intro g_4; replace h := cond_t g_4 h
        refine aw_exit (id := 1) (by kernel_rfl) ?_
        replace h := Option.some.inj h; subst h
        exact ⟨rfl, (sub_wkm [0, 1, 2] [] [.s 0, .s 3, .s 4, .s 5, .s 6] [.s 0, .s 1, .s 2] (by kernel_rfl) an)⟩
      intro g_4; replace h := cond_f g_4 h
      refine aw_skip (by kernel_rfl) ?_
      refine aw_seq (by kernel_rfl) ?_
      obtain ⟨_, h_9, h⟩ := bind_some h; replace h_9 := need_some h_9
      refine aw_region [(2, { id := 4, l := (List.map (AV.int .u8) (row_1 ++ r_4.1)), n := ((row_1 ++ r_4.1)).length })] [0, 3, 4, 5, 6, 8, 9] [1, 2, 4] 5 (vals := [.sl false 6 (List.map e_T_api_Event l_1), .own 4 (((row_1 ++ r_4.1)).length), .own 1 ((row_2).length), .ptr 2 0 0 0, .int .i64 i_1, .sl false 1 (List.map AV.str r_4.2.1), .sl false 2 (List.map e_Arr2_Int r_4.2.2.1)]) (bxs := [.live (.row 28 6 (List.map e_T_api_Event row_2)), .live (.var 25 [.sl false 1 (List.map AV.str c_1), .sl false 2 (List.map e_Arr2_Int c_2)]), .live (.row 5 1 (List.map (AV.int .u8) (row_1 ++ r_4.1)))]) (by kernel_rfl) hmix (ac (by first | (simp; done) | (simp; omega) : (row_1).length = ((List.map (AV.int .u8) row_1)).length) (ac (by first | (simp; done) | (simp; omega) : (r_4.1).length = ((List.map (AV.int .u8) r_4.1)).length) (ac (vc_app _ _ : (List.map (AV.int .u8) (row_1 ++ r_4.1)) = (List.map (AV.int .u8) row_1) ++ (List.map (AV.int .u8) r_4.1)) (ac (by simp : ((row_1 ++ r_4.1)).length = ((List.map (AV.int .u8) (row_1 ++ r_4.1))).length) (ac (by first | (simp; done) | simpa using h_9 : (((List.map (AV.int .u8) row_1) : List AV).length + ((List.map (AV.int .u8) r_4.1) : List AV).length) * 1 ≤ 140737488355328) an))))) ?_
      refine aw_seq (by kernel_rfl) ?_
      obtain ⟨x_3, h_10, h⟩ := bind_some h
      obtain ⟨_, h_11, h⟩ := bind_some h; replace h_11 := need_some h_11
      refine aw_region [(3, { av := e_T_api_Event x_3 }), (5, { id := 5 }), (6, { id := 6, l := (List.map e_T_api_Event (row_2 ++ ([x_3] : List T_api_Event))), n := ((row_2 ++ ([x_3] : List T_api_Event))).length })] [0, 3, 4, 5, 6, 8, 9] [2, 4, 6] 7 (vals := [.sl false 6 (List.map e_T_api_Event l_1), .own 4 (((row_1 ++ r_4.1)).length), .own 6 (((row_2 ++ ([x_3] : List T_api_Event))).length), .ptr 2 0 0 0, .int .i64 i_1, .sl false 1 (List.map AV.str r_4.2.1), .sl false 2 (List.map e_Arr2_Int r_4.2.2.1)]) (bxs := [.live (.var 25 [.sl false 1 (List.map AV.str c_1), .sl false 2 (List.map e_Arr2_Int c_2)]), .live (.row 5 1 (List.map (AV.int .u8) (row_1 ++ r_4.1))), .live (.row 28 6 (List.map e_T_api_Event (row_2 ++ ([x_3] : List T_api_Event))))]) (by kernel_rfl) hmix (ac (vc_idx h_10 : idxA (List.map e_T_api_Event l_1) i_1 = some (e_T_api_Event x_3)) (ac (by first | (simp; done) | (simp; omega) : (row_2).length = ((List.map e_T_api_Event row_2)).length) (ac (by first | (simp; done) | (simp; omega) : 1 = ((List.map e_T_api_Event ([x_3] : List T_api_Event))).length) (ac (vc_app _ _ : (List.map e_T_api_Event (row_2 ++ ([x_3] : List T_api_Event))) = (List.map e_T_api_Event row_2) ++ (List.map e_T_api_Event ([x_3] : List T_api_Event))) (ac (by simp : ((row_2 ++ ([x_3] : List T_api_Event))).length = ((List.map e_T_api_Event (row_2 ++ ([x_3] : List T_api_Event)))).length) (ac (by first | (simp; done) | simpa using h_11 : (((List.map e_T_api_Event row_2) : List AV).length + ((List.map e_T_api_Event ([x_3] : List T_api_Event)) : List AV).length) * 72 ≤ 140737488355328) an)))))) ?_
      refine aw_region [] [0, 3, 4, 5, 6] [2, 4, 6] 7 (vals := [.sl false 6 (List.map e_T_api_Event l_1), .own 4 (((row_1 ++ r_4.1)).length), .own 6 (((row_2 ++ ([x_3] : List T_api_Event))).length), .ptr 2 0 0 0, .int .i64 i_1]) (bxs := [.live (.var 25 [.sl false 1 (List.map AV.str r_4.2.1), .sl false 2 (List.map e_Arr2_Int r_4.2.2.1)]), .live (.row 5 1 (List.map (AV.int .u8) (row_1 ++ r_4.1))), .live (.row 28 6 (List.map e_T_api_Event (row_2 ++ ([x_3] : List T_api_Event))))]) (by kernel_rfl) hmix an ?_
      replace h := Option.some.inj h; subst h
      exact ⟨rfl, (sub_wkm [4, 6, 2] [] [.s 0, .s 3, .s 4, .s 5, .s 6] [.s 0, .s 1, .s 2] (by kernel_rfl) an)⟩
    intro e st1 hk
    rcases o_2 with q_1 | q_2
    rotate_left
    · obtain ⟨rfl, hf⟩ := hk
      replace h := Option.some.inj h; subst h
      exact ⟨_, Sub.refl _ _, rfl, hf⟩
    obtain ⟨rfl, hs⟩ := hk
    refine ⟨_, hs, ?_⟩
    refine aw_region [] [0, 3, 4, 5, 6] [0, 1, 2] 3 (vals := [.sl false 6 (List.map e_T_api_Event l_1), .own 0 ((q_1.1).length), .own 1 ((q_1.2.1).length), .ptr 2 0 0 0, .int .i64 (w_i64 (i_1 + (1 : Int)))]) (bxs := [.live (.row 5 1 (List.map (AV.int .u8) q_1.1)), .live (.row 28 6 (List.map e_T_api_Event q_1.2.1)), .live (.var 25 [.sl false 1 (List.map AV.str q_1.2.2.1), .sl false 2 (List.map e_Arr2_Int q_1.2.2.2)])]) (by kernel_rfl) hmix an ?_
    exact ⟨_, (sub_wkm [0, 1, 2] [] [.s 0, .s 3, .s 4, .s 5, .s 6] [.s 0, .s 1, .s 2] (by kernel_rfl) an), _, _, _, _, _, rfl, h⟩
  intro e st1 hk
  rcases o_1 with q_3 | q_4
  rotate_left
  · obtain ⟨rfl, hf⟩ := hk
    replace h := Option.some.inj h; subst h
    exact ⟨st1, Sub.refl _ _, .inr rfl, hf⟩
  obtain ⟨rfl, hs⟩ := hk
  refine ⟨_, hs, ?_⟩
  refine aw_seq (by kernel_rfl) ?_
  refine aw_region [] [3, 4, 5, 11] [0, 1, 2] 3 (vals := [.own 0 ((q_3.1).length), .own 1 ((q_3.2.1).length), .ptr 2 0 0 0, .int .i64 (0 : Int)]) (bxs := [.live (.row 5 1 (List.map (AV.int .u8) q_3.1)), .live (.row 28 6 (List.map e_T_api_Event q_3.2.1)), .live (.var 25 [.sl false 1 (List.map AV.str q_3.2.2.1), .sl false 2 (List.map e_Arr2_Int q_3.2.2.2)])]) (by kernel_rfl) hmix an ?_
  refine aw_seq (by kernel_rfl) ?_
  refine aw_seq (by kernel_rfl) ?_
  refine aw_region [] [3, 4, 5, 11, 12] [0, 1, 2] 3 (vals := [.own 0 ((q_3.1).length), .own 1 ((q_3.2.1).length), .ptr 2 0 0 0, .int .i64 (0 : Int), .int .i64 (0 : Int)]) (bxs := [.live (.row 5 1 (List.map (AV.int .u8) q_3.1)), .live (.row 28 6 (List.map e_T_api_Event q_3.2.1)), .live (.var 25 [.sl false 1 (List.map AV.str q_3.2.2.1), .sl false 2 (List.map e_Arr2_Int q_3.2.2.2)])]) (by kernel_rfl) hmix an ?_
  obtain ⟨o_3, h_12, h⟩ := bind_some h
  refine aw_conv (K1 := (fun e st' => match o_3 with | (.inl q0) => e = .normal ∧ Sub 0 st' (mk [(3, .sl false 1 (List.map (AV.int .u8) q_3.1)), (11, .int .i64 q0)] [] 0) | (.inr q1) => e = .ret ∧ FinR prog Go.Proofs.Try.f7 0 [] (.bool q1) st')) ?_ ?_
  · replace h := h_12
    refine aw_block (id := 2) (by kernel_rfl) ?_
    refine aw_sub (sub_wkm [1, 2] [0] [.a 3 (.sl false 1 (List.map (AV.int .u8) q_3.1)), .s 4, .s 5, .s 11, .s 12] [.s 0, .s 1] (sl2 := [(3, .sl false 1 (List.map (AV.int .u8) q_3.1)), (4, .own 0 ((q_3.2.1).length)), (5, .ptr 1 0 0 0), (11, .int .i64 (0 : Int)), (12, .int .i64 (0 : Int))]) (bx2 := [(0, .live (.row 28 6 (List.map e_T_api_Event q_3.2.1))), (1, .live (.var 25 [.sl false 1 (List.map AV.str q_3.2.2.1), .sl false 2 (List.map e_Arr2_Int q_3.2.2.2)]))]) (by kernel_rfl) (ac (by first | (simp; done) | (simp; omega) : (q_3.1).length = ((List.map (AV.int .u8) q_3.1)).length) (ac (rfl : 1 = 1) (ac (rfl : ((List.map (AV.int .u8) q_3.1) : List AV) = (List.map (AV.int .u8) q_3.1)) (ac (rfl : (!false || false) = true) an))))) ?_
    refine aw_sub (sub_wkm [0, 1] [] [.s 3, .s 4, .s 5, .s 11, .s 12] [.s 0, .s 1] (sl2 := [(3, .sl false 1 (List.map (AV.int .u8) q_3.1)), (4, .own 0 ((q_3.2.1).length)), (5, .ptr 1 0 0 0), (11, .int .i64 (0 : Int)), (12, .int .i64 (0 : Int))]) (bx2 := [(0, .live (.row 28 6 (List.map e_T_api_Event q_3.2.1))), (1, .live (.var 25 [.sl false 1 (List.map AV.str q_3.2.2.1), .sl false 2 (List.map e_Arr2_Int q_3.2.2.2)]))]) (by kernel_rfl) an) ?_
    refine aw_loopF (fun n st => ∃ (at__1 : Int), ∃ (i_2 : Int), st = mk [(3, .sl false 1 (List.map (AV.int .u8) q_3.1)), (4, .own 0 ((q_3.2.1).length)), (5, .ptr 1 0 0 0), (11, .int .i64 at__1), (12, .int .i64 i_2)] [(0, .live (.row 28 6 (List.map e_T_api_Event q_3.2.1))), (1, .live (.var 25 [.sl false 1 (List.map AV.str q_3.2.2.1), .sl false 2 (List.map e_Arr2_Int q_3.2.2.2)]))] 2 ∧ L08_RecordSequences_L2 F q_3 n at__1 i_2 = some o_3) F (by kernel_rfl) ⟨_, _, rfl, h⟩ ?_ ?_
    · rintro _ ⟨_, _, _, h⟩; exact none_ne (h : (none : Option (Int ⊕ Bool)) = some o_3)
    rintro n_2 _ ⟨at__1, i_2, rfl, h⟩
    replace h : L08_RecordSequences_L2_body F q_3 (L08_RecordSequences_L2 F q_3 n_2) at__1 i_2 = some o_3 := h
    unfold L08_RecordSequences_L2_body at h
    refine aw_seq (by kernel_rfl) ?_
    refine aw_seq (by kernel_rfl) ?_
    refine aw_region [] [3, 4, 5, 11, 12, 66] [0, 1] 2 (vals := [.sl false 1 (List.map (AV.int .u8) q_3.1), .own 0 ((q_3.2.1).length), .ptr 1 0 0 0, .int .i64 at__1, .int .i64 i_2, .bool (decide (i_2 < (((q_3.2.1).length : Nat) : Int)))]) (bxs := [.live (.row 28 6 (List.map e_T_api_Event q_3.2.1)), .live (.var 25 [.sl false 1 (List.map AV.str q_3.2.2.1), .sl false 2 (List.map e_Arr2_Int q_3.2.2.2)])]) (by kernel_rfl) hmix an ?_
    refine aw_cond (t := 66) (b := (decide (i_2 < (((q_3.2.1).length : Nat) : Int)))) (by kernel_rfl) (by kernel_rfl) ?_ ?_
    rotate_left
    · intro g_5; replace h := cond_f g_5 h
      refine aw_exit (id := 2) (by kernel_rfl) ?_
      replace h := Option.some.inj h; subst h
      exact ⟨rfl, (sub_wkm [] [] [.s 3, .s 11] [] (by kernel_rfl) an)⟩
    intro g_5; replace h := cond_t g_5 h
    refine aw_skip (by kernel_rfl) ?_
    refine aw_seq (by kernel_rfl) ?_
    refine aw_block (id := 3) (by kernel_rfl) ?_
    refine aw_seq (by kernel_rfl) ?_
    obtain ⟨_, h_13, h⟩ := bind_some h; replace h_13 := need_some h_13
    obtain ⟨r_5, h_14, h⟩ := bind_some h
    refine aw_region [(6, { l := (List.map (AV.int .u8) (sub q_3.1 at__1 (((q_3.1).length : Nat) : Int))) }), (7, { av := .tuple [e_T_api_Event r_5.1, .int .i64 r_5.2.1, .int .i64 r_5.2.2], l := [.sl false 1 (List.map AV.str q_3.2.2.1), .sl false 2 (List.map e_Arr2_Int q_3.2.2.2), .sl false 1 (List.map (AV.int .u8) (sub q_3.1 at__1 (((q_3.1).length : Nat) : Int)))] }), (12, { id := 2 })] [3, 4, 5, 11, 12, 13, 14, 15] [0, 1, 2] 3 (vals := [.sl false 1 (List.map (AV.int .u8) q_3.1), .own 0 ((q_3.2.1).length), .ptr 1 0 0 0, .int .i64 at__1, .int .i64 i_2, .ptr 2 0 0 0, .int .i64 r_5.2.1, .int .i64 r_5.2.2]) (bxs := [.live (.row 28 6 (List.map e_T_api_Event q_3.2.1)), .live (.var 25 [.sl false 1 (List.map AV.str q_3.2.2.1), .sl false 2 (List.map e_Arr2_Int q_3.2.2.2)]), .live (.var 28 (v_T_api_Event r_5.1))]) (by kernel_rfl) hmix (ac h_13.1 (ac (vc_lenle h_13.2 : at__1 ≤ ((((List.map (AV.int .u8) q_3.1)).length : Nat) : Int)) (ac (Int.le_refl _ : ((((List.map (AV.int .u8) q_3.1)).length : Nat) : Int) ≤ ((((List.map (AV.int .u8) q_3.1)).length : Nat) : Int)) (ac (vc_subn _ _ : (List.map (AV.int .u8) (sub q_3.1 at__1 (((q_3.1).length : Nat) : Int))) = (((List.map (AV.int .u8) q_3.1)).take (((((List.map (AV.int .u8) q_3.1)).length : Nat) : Int)).toNat).drop (at__1).toNat) (ac (rfl : ([.sl false 1 (List.map AV.str q_3.2.2.1), .sl false 2 (List.map e_Arr2_Int q_3.2.2.2), .sl false 1 (List.map (AV.int .u8) (sub q_3.1 at__1 (((q_3.1).length : Nat) : Int)))] : List AV) = [.sl false 1 (List.map AV.str q_3.2.2.1), .sl false 2 (List.map e_Arr2_Int q_3.2.2.2), .sl false 1 (List.map (AV.int .u8) (sub q_3.1 at__1 (((q_3.1).length : Nat) : Int)))]) (ac (rfl : ([] : List BoxSt) = []) (ac (record_Decode_ok F q_3.2.2.1 q_3.2.2.2 (sub q_3.1 at__1 (((q_3.1).length : Nat) : Int)) r_5 h_14 : TripleG prog 15 [] [] [.sl false 1 (List.map AV.str q_3.2.2.1), .sl false 2 (List.map e_Arr2_Int q_3.2.2.2), .sl false 1 (List.map (AV.int .u8) (sub q_3.1 at__1 (((q_3.1).length : Nat) : Int)))] [] (.tuple [e_T_api_Event r_5.1, .int .i64 r_5.2.1, .int .i64 r_5.2.2])) an))))))) ?_
    refine aw_seq (by kernel_rfl) ?_
    refine aw_seq (by kernel_rfl) ?_
    obtain ⟨p_1, h_17, h⟩ := bind_some h
    refine aw_mid (mk [(3, .sl false 1 (List.map (AV.int .u8) q_3.1)), (4, .own 0 ((q_3.2.1).length)), (5, .ptr 1 0 0 0), (11, .int .i64 at__1), (12, .int .i64 i_2), (14, .int .i64 r_5.2.1), (103, .bool p_1)] [(0, .live (.row 28 6 (List.map e_T_api_Event q_3.2.1))), (1, .live (.var 25 [.sl false 1 (List.map AV.str q_3.2.2.1), .sl false 2 (List.map e_Arr2_Int q_3.2.2.2)]))] 2) ?_ ?_
    · replace h := h_17
      rcases Bool.eq_false_or_eq_true (r_5.2.2 != (0 : Int)) with gg_13 | gg_13
      · replace h := cond_t gg_13 h
        refine aw_region [(3, { g := false }), (4, { g := false }), (5, { b := true }), (7, { g := false }), (8, { g := false }), (9, { g := false }), (10, { g := false }), (11, { g := false }), (12, { g := false }), (13, { b := true }), (15, { g := false }), (16, { g := false }), (17, { g := false }), (18, { g := false }), (19, { g := false }), (20, { g := false }), (21, { g := false }), (22, { b := true })] [3, 4, 5, 11, 12, 14, 84, 85, 88, 89, 90, 91, 92, 93, 96, 97, 98, 99, 100, 101, 102, 103] [0, 1] 3 (vals := [.sl false 1 (List.map (AV.int .u8) q_3.1), .own 0 ((q_3.2.1).length), .ptr 1 0 0 0, .int .i64 at__1, .int .i64 i_2, .int .i64 r_5.2.1, .tuple [], .tuple [], .tuple [], .tuple [], .tuple [], .tuple [], .tuple [], .tuple [], .tuple [], .tuple [], .tuple [], .tuple [], .tuple [], .tuple [], .tuple [], .bool true]) (bxs := [.live (.row 28 6 (List.map e_T_api_Event q_3.2.1)), .live (.var 25 [.sl false 1 (List.map AV.str q_3.2.2.1), .sl false 2 (List.map e_Arr2_Int q_3.2.2.2)])]) (by kernel_rfl) hmix (ac gg_13 (ac gg_13 (ac gg_13 (ac (rfl : true = !false) (ac (rfl : true = !false) (ac (rfl : true = !false) (ac (rfl : true = !false) (ac (rfl : true = !false) (ac (rfl : true = !false) (ac (rfl : true = true) (ac (rfl : true = !false) (ac (rfl : true = !false) (ac (rfl : true = !false) (ac (rfl : true = !false) (ac (rfl : true = !false) (ac (rfl : true = !false) (ac (rfl : true = !false) (ac (rfl : true = true) an)))))))))))))))))) ?_
        replace h := Option.some.inj h; subst h
        exact ⟨rfl, (sub_wkm [0, 1] [] [.s 3, .s 4, .s 5, .s 11, .s 12, .s 14, .s 103] [.s 0, .s 1] (by kernel_rfl) an)⟩
      · replace h := cond_f gg_13 h
        rcases Bool.eq_false_or_eq_true (decide (r_5.2.1 < (1 : Int))) with gg_14 | gg_14
        · replace h := cond_t gg_14 h
          refine aw_region [(5, { b := false }), (7, { g := false }), (8, { g := false }), (9, { g := false }), (10, { g := false }), (11, { g := false }), (12, { g := false }), (13, { b := true }), (15, { g := false }), (16, { g := false }), (17, { g := false }), (18, { g := false }), (19, { g := false }), (20, { g := false }), (21, { g := false }), (22, { b := true })] [3, 4, 5, 11, 12, 14, 84, 85, 88, 89, 90, 91, 92, 93, 96, 97, 98, 99, 100, 101, 102, 103] [0, 1] 3 (vals := [.sl false 1 (List.map (AV.int .u8) q_3.1), .own 0 ((q_3.2.1).length), .ptr 1 0 0 0, .int .i64 at__1, .int .i64 i_2, .int .i64 r_5.2.1, .int .i64 r_5.2.1, .bool (decide (r_5.2.1 < (1 : Int))), .tuple [], .tuple [], .tuple [], .tuple [], .tuple [], .tuple [], .tuple [], .tuple [], .tuple [], .tuple [], .tuple [], .tuple [], .tuple [], .bool true]) (bxs := [.live (.row 28 6 (List.map e_T_api_Event q_3.2.1)), .live (.var 25 [.sl false 1 (List.map AV.str q_3.2.2.1), .sl false 2 (List.map e_Arr2_Int q_3.2.2.2)])]) (by kernel_rfl) hmix (ac gg_13 (ac gg_13 (ac gg_13 (ac gg_14 (ac gg_14 (ac gg_14 (ac gg_14 (ac gg_14 (ac gg_14 (ac gg_14 (ac (rfl : true = !false) (ac (rfl : true = !false) (ac (rfl : true = !false) (ac (rfl : true = !false) (ac (rfl : true = !false) (ac (rfl : true = !false) (ac (rfl : true = !false) (ac (rfl : true = true) an)))))))))))))))))) ?_
          replace h := Option.some.inj h; subst h
          exact ⟨rfl, (sub_wkm [0, 1] [] [.s 3, .s 4, .s 5, .s 11, .s 12, .s 14, .s 103] [.s 0, .s 1] (by kernel_rfl) an)⟩
        · replace h := cond_f gg_14 h
          rcases Bool.eq_false_or_eq_true (decide (r_5.2.1 > (w_i64 ((((q_3.1).length : Nat) : Int) - at__1)))) with gg_15 | gg_15
          · replace h := cond_t gg_15 h
            refine aw_region [(5, { b := false }), (9, { n := (q_3.1).length }), (13, { b := false }), (15, { g := false }), (16, { g := false }), (17, { g := false }), (18, { g := false }), (19, { g := false }), (20, { g := false }), (21, { g := false }), (22, { b := true })] [3, 4, 5, 11, 12, 14, 84, 85, 88, 89, 90, 91, 92, 93, 96, 97, 98, 99, 100, 101, 102, 103] [0, 1] 3 (vals := [.sl false 1 (List.map (AV.int .u8) q_3.1), .own 0 ((q_3.2.1).length), .ptr 1 0 0 0, .int .i64 at__1, .int .i64 i_2, .int .i64 r_5.2.1, .int .i64 r_5.2.1, .bool (decide (r_5.2.1 < (1 : Int))), .int .i64 r_5.2.1, .sl false 1 (List.map (AV.int .u8) q_3.1), .int .i64 (((q_3.1).length : Nat) : Int), .int .i64 at__1, .int .i64 (w_i64 ((((q_3.1).length : Nat) : Int) - at__1)), .bool (decide (r_5.2.1 > (w_i64 ((((q_3.1).length : Nat) : Int) - at__1)))), .tuple [], .tuple [], .tuple [], .tuple [], .tuple [], .tuple [], .tuple [], .bool true]) (bxs := [.live (.row 28 6 (List.map e_T_api_Event q_3.2.1)), .live (.var 25 [.sl false 1 (List.map AV.str q_3.2.2.1), .sl false 2 (List.map e_Arr2_Int q_3.2.2.2)])]) (by kernel_rfl) hmix (ac gg_13 (ac gg_13 (ac gg_13 (ac gg_14 (ac gg_14 (ac gg_14 (ac (vc_len _ : ((List.map (AV.int .u8) q_3.1)).length = (q_3.1).length) (ac gg_14 (ac gg_14 (ac gg_14 (ac gg_14 (ac gg_15 (ac gg_15 (ac gg_15 (ac gg_15 (ac gg_15 (ac gg_15 (ac gg_15 (ac gg_15 an))))))))))))))))))) ?_
            replace h := Option.some.inj h; subst h
            exact ⟨rfl, (sub_wkm [0, 1] [] [.s 3, .s 4, .s 5, .s 11, .s 12, .s 14, .s 103] [.s 0, .s 1] (by kernel_rfl) an)⟩
          · replace h := cond_f gg_15 h
            obtain ⟨x_4, h_15, h⟩ := bind_some h
            obtain ⟨r_6, h_16, h⟩ := bind_some h
            refine aw_region [(5, { b := false }), (9, { n := (q_3.1).length }), (13, { b := false }), (19, { av := e_T_api_Event x_4 }), (20, { av := .bool r_6, l := [e_T_api_Event r_5.1, e_T_api_Event x_4] }), (22, { b := false })] [3, 4, 5, 11, 12, 14, 84, 85, 88, 89, 90, 91, 92, 93, 96, 97, 98, 99, 100, 101, 102, 103] [0, 1] 3 (vals := [.sl false 1 (List.map (AV.int .u8) q_3.1), .own 0 ((q_3.2.1).length), .ptr 1 0 0 0, .int .i64 at__1, .int .i64 i_2, .int .i64 r_5.2.1, .int .i64 r_5.2.1, .bool (decide (r_5.2.1 < (1 : Int))), .int .i64 r_5.2.1, .sl false 1 (List.map (AV.int .u8) q_3.1), .int .i64 (((q_3.1).length : Nat) : Int), .int .i64 at__1, .int .i64 (w_i64 ((((q_3.1).length : Nat) : Int) - at__1)), .bool (decide (r_5.2.1 > (w_i64 ((((q_3.1).length : Nat) : Int) - at__1)))), e_T_api_Event r_5.1, .own 0 ((q_3.2.1).length), .int .i64 i_2, .ptr 0 6 ((i_2).toNat) 0, e_T_api_Event x_4, .bool r_6, .bool (!r_6), .bool (!r_6)]) (bxs := [.live (.row 28 6 (List.map e_T_api_Event q_3.2.1)), .live (.var 25 [.sl false 1 (List.map AV.str q_3.2.2.1), .sl false 2 (List.map e_Arr2_Int q_3.2.2.2)])]) (by kernel_rfl) hmix (ac gg_13 (ac gg_13 (ac gg_13 (ac gg_14 (ac gg_14 (ac gg_14 (ac (vc_len _ : ((List.map (AV.int .u8) q_3.1)).length = (q_3.1).length) (ac gg_14 (ac gg_14 (ac gg_14 (ac gg_14 (ac gg_15 (ac gg_15 (ac gg_15 (ac gg_15 (ac (idxL_lo h_15 : (0 : Int) ≤ i_2) (ac (by first | (simp; done) | simpa using idxL_hi h_15 : i_2 < (((q_3.2.1).length : Nat) : Int)) (ac gg_15 (ac (vc_get h_15 : (List.map e_T_api_Event q_3.2.1)[(i_2).toNat]? = some (e_T_api_Event x_4)) (ac gg_15 (ac (rfl : ([e_T_api_Event r_5.1, e_T_api_Event x_4] : List AV) = [e_T_api_Event r_5.1, e_T_api_Event x_4]) (ac (rfl : ([] : List BoxSt) = []) (ac (event_Same_ok F r_5.1 x_4 r_6 h_16 : TripleG prog 17 [] [] [e_T_api_Event r_5.1, e_T_api_Event x_4] [] (.bool r_6)) (ac gg_15 (ac gg_15 an))))))))))))))))))))))))) ?_
            replace h := Option.some.inj h; subst h
            exact ⟨rfl, (sub_wkm [0, 1] [] [.s 3, .s 4, .s 5, .s 11, .s 12, .s 14, .s 103] [.s 0, .s 1] (by kernel_rfl) an)⟩
    refine aw_cond (t := 103) (b := p_1) (by kernel_rfl) (by kernel_rfl) ?_ ?_
    rotate_left
    · intro g_6; replace h := cond_f g_6 h
      refine aw_skip (by kernel_rfl) ?_
      refine aw_region [] [3, 4, 5, 11, 12] [0, 1] 2 (vals := [.sl false 1 (List.map (AV.int .u8) q_3.1), .own 0 ((q_3.2.1).length), .ptr 1 0 0 0, .int .i64 (w_i64 (at__1 + r_5.2.1)), .int .i64 i_2]) (bxs := [.live (.row 28 6 (List.map e_T_api_Event q_3.2.1)), .live (.var 25 [.sl false 1 (List.map AV.str q_3.2.2.1), .sl false 2 (List.map e_Arr2_Int q_3.2.2.2)])]) (by kernel_rfl) hmix an ?_
      refine aw_region [] [3, 4, 5, 11, 12] [0, 1] 2 (vals := [.sl false 1 (List.map (AV.int .u8) q_3.1), .own 0 ((q_3.2.1).length), .ptr 1 0 0 0, .int .i64 (w_i64 (at__1 + r_5.2.1)), .int .i64 (w_i64 (i_2 + (1 : Int)))]) (bxs := [.live (.row 28 6 (List.map e_T_api_Event q_3.2.1)), .live (.var 25 [.sl false 1 (List.map AV.str q_3.2.2.1), .sl false 2 (List.map e_Arr2_Int q_3.2.2.2)])]) (by kernel_rfl) hmix an ?_
      exact ⟨_, (sub_wkm [0, 1] [] [.s 3, .s 4, .s 5, .s 11, .s 12] [.s 0, .s 1] (by kernel_rfl) an), _, _, rfl, h⟩
    intro g_6; replace h := cond_t g_6 h
    refine aw_seq (by kernel_rfl) ?_
    refine aw_region [] [2] [] 2 (vals := [.bool false]) (bxs := []) (by kernel_rfl) hmix an ?_
    refine aw_ret (by kernel_rfl) ?_
    replace h := Option.some.inj h; subst h
    exact ⟨rfl, Nat.le_of_ble_eq_true rfl, by kernel_rfl⟩
  intro e st1 hk
  rcases o_3 with q_5 | q_6
  rotate_left
  · obtain ⟨rfl, hf⟩ := hk
    replace h := Option.some.inj h; subst h
    exact ⟨st1, Sub.refl _ _, .inr rfl, hf⟩
  obtain ⟨rfl, hs⟩ := hk
  refine ⟨_, hs, ?_⟩
  refine aw_seq (by kernel_rfl) ?_
  obtain ⟨p_2, h_19, h⟩ := bind_some h
  refine aw_mid (mk [(2, .bool p_2)] [] 0) ?_ ?_
  · replace h := h_19
    rcases Bool.eq_false_or_eq_true (q_5 == (((q_3.1).length : Nat) : Int)) with gg_16 | gg_16
    · replace h := cond_t gg_16 h
      obtain ⟨r_7, h_18, h⟩ := bind_some h
      refine aw_region [(2, { n := (q_3.1).length }), (5, { av := .bool r_7, l := [] }), (6, { b := true })] [2] [] 0 (vals := [.bool r_7]) (bxs := []) (by kernel_rfl) hmix (ac (vc_len _ : ((List.map (AV.int .u8) q_3.1)).length = (q_3.1).length) (ac gg_16 (ac (rfl : ([] : List AV) = []) (ac (rfl : ([] : List BoxSt) = []) (ac (L08_lives_ok F r_7 h_18 : TripleG prog 10 [] [] [] [] (.bool r_7)) (ac gg_16 an)))))) ?_
      replace h := Option.some.inj h; subst h
      exact ⟨rfl, (sub_wkm [] [] [.s 2] [] (by kernel_rfl) an)⟩
    · replace h := cond_f gg_16 h
      refine aw_region [(2, { n := (q_3.1).length }), (5, { g := false }), (6, { b := false })] [2] [] 0 (vals := [.bool false]) (bxs := []) (by kernel_rfl) hmix (ac (vc_len _ : ((List.map (AV.int .u8) q_3.1)).length = (q_3.1).length) (ac gg_16 (ac gg_16 an))) ?_
      replace h := Option.some.inj h; subst h
      exact ⟨rfl, (sub_wkm [] [] [.s 2] [] (by kernel_rfl) an)⟩
  refine aw_ret (by kernel_rfl) ?_
  replace h := Option.some.inj h; subst h
  exact ⟨.inr rfl, Nat.le_of_ble_eq_true rfl, by kernel_rfl⟩

end Go.Ab
