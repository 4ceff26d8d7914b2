/- Printed: the typed Lean functions of the Go functions, or the proofs that the Go functions meet them. No conditions but those that the theorems name. -/
import Derived.Test.YtollmoogggcmaaaP08x1
namespace Go.Ab
open Go
set_option linter.unusedVariables false
theorem record_input_num_ok (F : Nat) (x_1 : T_record_input) (r : Int × T_record_input) (h : record_input_num F x_1 = some r) : TripleG prog 31 [(.var 59 (v_T_record_input x_1))] [] [.ptr 0 0 0 0] [(.var 59 (v_T_record_input r.2))] (.int .i64 r.1) := by
  refine triple_intro (fn := Go.Proofs.Try.f31) (code := codeOf Go.Proofs.Try.f31) (by kernel_rfl) (by kernel_rfl) (Nat.le_of_ble_eq_true (by kernel_rfl)) ?_
  unfold record_input_num at h
  refine aw_seq (by kernel_rfl) ?_
  refine aw_region [] [0] [0] 1 (vals := [.ptr 0 0 0 0]) (bxs := [.live (.var 59 (v_T_record_input x_1))]) (by kernel_rfl) hmix an ?_
  refine aw_seq (by kernel_rfl) ?_
  refine aw_seq (by kernel_rfl) ?_
  refine aw_region [] [0, 10] [0] 1 (vals := [.ptr 0 0 0 0, .bool (x_1.fault != (0 : Int))]) (bxs := [.live (.var 59 (v_T_record_input x_1))]) (by kernel_rfl) hmix an ?_
  refine aw_cond (t := 10) (b := (x_1.fault != (0 : Int))) (by kernel_rfl) (by kernel_rfl) ?_ ?_
  · intro g_1; replace h := cond_t g_1 h
    refine aw_seq (by kernel_rfl) ?_
    refine aw_region [] [2] [0] 1 (vals := [.int .i64 (0 : Int)]) (bxs := [.live (.var 59 (v_T_record_input x_1))]) (by kernel_rfl) hmix an ?_
    refine aw_sub (sub_wkm [0] [] [.s 2] [.s 0] (sl2 := [(2, .int .i64 (0 : Int))]) (bx2 := [(0, .live (.var 59 (v_T_record_input x_1)))]) (by kernel_rfl) an) ?_
    refine aw_ret (by kernel_rfl) ?_
    replace h := Option.some.inj h; subst h
    exact ⟨.inr rfl, Nat.le_of_ble_eq_true rfl, by kernel_rfl⟩
  intro g_1; replace h := cond_f g_1 h
  refine aw_skip (by kernel_rfl) ?_
  refine aw_seq (by kernel_rfl) ?_
  obtain ⟨_, h_1, h⟩ := bind_some h; replace h_1 := need_some h_1
  obtain ⟨r_1, h_2, h⟩ := bind_some h
  refine aw_region [(8, { l := (List.map (AV.int .u8) (sub x_1.b x_1.used (((x_1.b).length : Nat) : Int))) }), (9, { av := .tuple [.int .i64 r_1.1, .int .i64 r_1.2.1, .int .i64 r_1.2.2], l := [.sl false 1 (List.map (AV.int .u8) (sub x_1.b x_1.used (((x_1.b).length : Nat) : Int)))] })] [0, 3, 4, 5] [0] 1 (vals := [.ptr 0 0 0 0, .int .i64 r_1.1, .int .i64 r_1.2.1, .int .i64 r_1.2.2]) (bxs := [.live (.var 59 (v_T_record_input x_1))]) (by kernel_rfl) hmix (ac h_1.1 (ac (vc_lenle h_1.2 : x_1.used ≤ ((((List.map (AV.int .u8) x_1.b)).length : Nat) : Int)) (ac (Int.le_refl _ : ((((List.map (AV.int .u8) x_1.b)).length : Nat) : Int) ≤ ((((List.map (AV.int .u8) x_1.b)).length : Nat) : Int)) (ac (vc_subn _ _ : (List.map (AV.int .u8) (sub x_1.b x_1.used (((x_1.b).length : Nat) : Int))) = (((List.map (AV.int .u8) x_1.b)).take (((((List.map (AV.int .u8) x_1.b)).length : Nat) : Int)).toNat).drop (x_1.used).toNat) (ac (rfl : ([.sl false 1 (List.map (AV.int .u8) (sub x_1.b x_1.used (((x_1.b).length : Nat) : Int)))] : List AV) = [.sl false 1 (List.map (AV.int .u8) (sub x_1.b x_1.used (((x_1.b).length : Nat) : Int)))]) (ac (rfl : ([] : List BoxSt) = []) (ac (codec_Int_ok F (sub x_1.b x_1.used (((x_1.b).length : Nat) : Int)) r_1 h_2 : TripleG prog 55 [] [] [.sl false 1 (List.map (AV.int .u8) (sub x_1.b x_1.used (((x_1.b).length : Nat) : Int)))] [] (.tuple [.int .i64 r_1.1, .int .i64 r_1.2.1, .int .i64 r_1.2.2])) an))))))) ?_
  refine aw_seq (by kernel_rfl) ?_
  refine aw_region [] [0, 3, 4] [0] 1 (vals := [.ptr 0 0 0 0, .int .i64 r_1.1, .int .i64 r_1.2.1]) (bxs := [.live (.var 59 [.sl false 1 (List.map (AV.int .u8) x_1.b), .int .i64 x_1.used, .int .i64 r_1.2.2])]) (by kernel_rfl) hmix an ?_
  refine aw_seq (by kernel_rfl) ?_
  refine aw_region [] [3] [0] 1 (vals := [.int .i64 r_1.1]) (bxs := [.live (.var 59 [.sl false 1 (List.map (AV.int .u8) x_1.b), .int .i64 (w_i64 (x_1.used + r_1.2.1)), .int .i64 r_1.2.2])]) (by kernel_rfl) hmix an ?_
  refine aw_seq (by kernel_rfl) ?_
  refine aw_region [] [2] [0] 1 (vals := [.int .i64 r_1.1]) (bxs := [.live (.var 59 [.sl false 1 (List.map (AV.int .u8) x_1.b), .int .i64 (w_i64 (x_1.used + r_1.2.1)), .int .i64 r_1.2.2])]) (by kernel_rfl) hmix an ?_
  refine aw_sub (sub_wkm [0] [] [.s 2] [.a 0 (.live (.var 59 (v_T_record_input (⟨x_1.b, w_i64 (x_1.used + r_1.2.1), r_1.2.2⟩ : T_record_input))))] (sl2 := [(2, .int .i64 r_1.1)]) (bx2 := [(0, .live (.var 59 (v_T_record_input (⟨x_1.b, w_i64 (x_1.used + r_1.2.1), r_1.2.2⟩ : T_record_input))))]) (by kernel_rfl) (ac (rfl : 59 = 59) (ac (rfl : ones [.sl false 1 (List.map (AV.int .u8) ((⟨x_1.b, w_i64 (x_1.used + r_1.2.1), r_1.2.2⟩ : T_record_input).b)), .int .i64 ((⟨x_1.b, w_i64 (x_1.used + r_1.2.1), r_1.2.2⟩ : T_record_input).used), .int .i64 ((⟨x_1.b, w_i64 (x_1.used + r_1.2.1), r_1.2.2⟩ : T_record_input).fault)] = true) (ac (rfl : 1 = 1) (ac (rfl : ((List.map (AV.int .u8) x_1.b) : List AV) = (List.map (AV.int .u8) ((⟨x_1.b, w_i64 (x_1.used + r_1.2.1), r_1.2.2⟩ : T_record_input).b))) (ac (rfl : (!false || false) = true) (ac (rfl : (.int .i64 (w_i64 (x_1.used + r_1.2.1)) : AV) = .int .i64 ((⟨x_1.b, w_i64 (x_1.used + r_1.2.1), r_1.2.2⟩ : T_record_input).used)) (ac (rfl : (.int .i64 r_1.2.2 : AV) = .int .i64 ((⟨x_1.b, w_i64 (x_1.used + r_1.2.1), r_1.2.2⟩ : T_record_input).fault)) an)))))))) ?_
  refine aw_ret (by kernel_rfl) ?_
  replace h := Option.some.inj h; subst h
  exact ⟨.inr rfl, Nat.le_of_ble_eq_true rfl, by kernel_rfl⟩

theorem slices_Reverse_string_string_ok (F : Nat) (s_1 : List (List Int)) (r : (List (List Int))) (h : slices_Reverse_string_string F s_1 = some r) : TripleG prog 56 [(.row 9 1 (List.map AV.str s_1))] [] [.own 0 ((s_1).length)] [(.row 9 1 (List.map AV.str r))] (.tuple []) := by
  refine triple_intro (fn := Go.Proofs.Try.f56) (code := codeOf Go.Proofs.Try.f56) (by kernel_rfl) (by kernel_rfl) (Nat.le_of_ble_eq_true (by kernel_rfl)) ?_
  unfold slices_Reverse_string_string at h
  refine aw_seq (by kernel_rfl) ?_
  refine aw_region [] [0, 2, 3] [0] 1 (vals := [.own 0 ((s_1).length), .int .i64 (0 : Int), .int .i64 (w_i64 ((((s_1).length : Nat) : Int) - (1 : Int)))]) (bxs := [.live (.row 9 1 (List.map AV.str s_1))]) (by kernel_rfl) hmix an ?_
  obtain ⟨o_1, h_1, h⟩ := bind_some h
  refine aw_mid (mk [] [(0, .live (.row 9 1 (List.map AV.str o_1)))] 1) ?_ ?_
  · replace h := h_1
    refine aw_block (id := 0) (by kernel_rfl) ?_
    refine aw_sub (sub_wkm [0] [] [.s 0, .s 2, .s 3] [.s 0] (sl2 := [(0, .own 0 ((s_1).length)), (2, .int .i64 (0 : Int)), (3, .int .i64 (w_i64 ((((s_1).length : Nat) : Int) - (1 : Int))))]) (bx2 := [(0, .live (.row 9 1 (List.map AV.str s_1)))]) (by kernel_rfl) an) ?_
    refine aw_loopF (fun n st => ∃ (i_1 : Int), ∃ (j_1 : Int), ∃ (row_1 : List (List Int)), st = mk [(0, .own 0 ((row_1).length)), (2, .int .i64 i_1), (3, .int .i64 j_1)] [(0, .live (.row 9 1 (List.map AV.str row_1)))] 1 ∧ slices_Reverse_string_string_L1 F n i_1 j_1 row_1 = some o_1) F (by kernel_rfl) ⟨_, _, _, rfl, h⟩ ?_ ?_
    · rintro _ ⟨_, _, _, _, h⟩; exact none_ne (h : (none : Option (List (List Int))) = some o_1)
    rintro n_1 _ ⟨i_1, j_1, row_1, rfl, h⟩
    replace h : slices_Reverse_string_string_L1_body F (slices_Reverse_string_string_L1 F n_1) i_1 j_1 row_1 = some o_1 := h
    unfold slices_Reverse_string_string_L1_body at h
    refine aw_seq (by kernel_rfl) ?_
    refine aw_seq (by kernel_rfl) ?_
    refine aw_region [] [0, 2, 3, 9] [0] 1 (vals := [.own 0 ((row_1).length), .int .i64 i_1, .int .i64 j_1, .bool (decide (i_1 < j_1))]) (bxs := [.live (.row 9 1 (List.map AV.str row_1))]) (by kernel_rfl) hmix an ?_
    refine aw_cond (t := 9) (b := (decide (i_1 < j_1))) (by kernel_rfl) (by kernel_rfl) ?_ ?_
    rotate_left
    · intro g_1; replace h := cond_f g_1 h
      refine aw_exit (id := 0) (by kernel_rfl) ?_
      replace h := Option.some.inj h; subst h
      exact ⟨rfl, (sub_wkm [0] [] [] [.s 0] (by kernel_rfl) an)⟩
    intro g_1; replace h := cond_t g_1 h
    refine aw_skip (by kernel_rfl) ?_
    refine aw_seq (by kernel_rfl) ?_
    refine aw_block (id := 1) (by kernel_rfl) ?_
    obtain ⟨x_1, h_2, h⟩ := bind_some h
    obtain ⟨x_2, h_3, h⟩ := bind_some h
    obtain ⟨x_3, h_4, h⟩ := bind_some h
    obtain ⟨x_4, h_5, h⟩ := bind_some h
    refine aw_region [(7, { av := .str x_1 }), (11, { av := .str x_2 }), (13, { av := .str x_3, l := (List.map AV.str ((row_1).set ((i_1).toNat) x_1)) }), (15, { av := .str x_4, l := (List.map AV.str (((row_1).set ((i_1).toNat) x_1).set ((j_1).toNat) x_2)) })] [0, 2, 3] [0] 1 (vals := [.own 0 ((row_1).length), .int .i64 i_1, .int .i64 j_1]) (bxs := [.live (.row 9 1 (List.map AV.str (((row_1).set ((i_1).toNat) x_1).set ((j_1).toNat) x_2)))]) (by kernel_rfl) hmix (ac (idxL_lo h_2 : (0 : Int) ≤ j_1) (ac (by first | (simp; done) | simpa using idxL_hi h_2 : j_1 < (((row_1).length : Nat) : Int)) (ac (vc_get h_2 : (List.map AV.str row_1)[(j_1).toNat]? = some (.str x_1)) (ac (idxL_lo h_3 : (0 : Int) ≤ i_1) (ac (by first | (simp; done) | simpa using idxL_hi h_3 : i_1 < (((row_1).length : Nat) : Int)) (ac (vc_get h_3 : (List.map AV.str row_1)[(i_1).toNat]? = some (.str x_2)) (ac (idxL_lo h_4 : (0 : Int) ≤ i_1) (ac (by first | (simp; done) | simpa using idxL_hi h_4 : i_1 < (((row_1).length : Nat) : Int)) (ac (vc_get h_4 : (List.map AV.str row_1)[(i_1).toNat]? = some (.str x_3)) (ac (vc_set _ _ _ : (List.map AV.str ((row_1).set ((i_1).toNat) x_1)) = List.set (List.map AV.str row_1) ((i_1).toNat) (setElem (.str x_3) 0 [.str x_1])) (ac (idxL_lo h_5 : (0 : Int) ≤ j_1) (ac (by first | (simp; done) | simpa using idxL_hi h_5 : j_1 < (((row_1).length : Nat) : Int)) (ac (vc_get h_5 : (List.map AV.str ((row_1).set ((i_1).toNat) x_1))[(j_1).toNat]? = some (.str x_4)) (ac (vc_set _ _ _ : (List.map AV.str (((row_1).set ((i_1).toNat) x_1).set ((j_1).toNat) x_2)) = List.set (List.map AV.str ((row_1).set ((i_1).toNat) x_1)) ((j_1).toNat) (setElem (.str x_4) 0 [.str x_2])) an)))))))))))))) ?_
    refine aw_region [] [0, 2, 3] [0] 1 (vals := [.own 0 ((row_1).length), .int .i64 (w_i64 (i_1 + (1 : Int))), .int .i64 (w_i64 (j_1 - (1 : Int)))]) (bxs := [.live (.row 9 1 (List.map AV.str (((row_1).set ((i_1).toNat) x_1).set ((j_1).toNat) x_2)))]) (by kernel_rfl) hmix an ?_
    exact ⟨_, (sub_wkm [0] [] [.a 0 (.own 0 ((((row_1).set ((i_1).toNat) x_1).set ((j_1).toNat) x_2).length)), .s 2, .s 3] [.s 0] (by kernel_rfl) (ac (congrArg (AV.own _) (by first | (simp; done) | (simp; omega)) : (.own 0 ((row_1).length) : AV) = .own 0 ((((row_1).set ((i_1).toNat) x_1).set ((j_1).toNat) x_2).length)) an)), _, _, _, rfl, h⟩
  replace h := Option.some.inj h; subst h
  exact ⟨.inl rfl, Nat.le_of_ble_eq_true rfl, by kernel_rfl⟩

theorem intern_Stack_ok (F : Nat) (names_1 : List (List Int)) (stacks_1 : List (Arr2_Int)) (i_1 : Int) (r : (List (List Int)) × Int) (h : intern_Stack F names_1 stacks_1 i_1 = some r) : TripleG prog 32 [] [] [.sl false 1 (List.map AV.str names_1), .sl false 2 (List.map e_Arr2_Int stacks_1), .int .i64 i_1] [.row 9 1 (List.map AV.str r.1)] (.tuple [.own 0 ((r.1).length), .int .i64 r.2]) := by
  refine triple_intro (fn := Go.Proofs.Try.f32) (code := codeOf Go.Proofs.Try.f32) (by kernel_rfl) (by kernel_rfl) (Nat.le_of_ble_eq_true (by kernel_rfl)) ?_
  unfold intern_Stack at h
  refine aw_seq (by kernel_rfl) ?_
  refine aw_region [(0, { id := 0, m := 1 })] [0, 1, 2] [] 1 (vals := [.sl false 1 (List.map AV.str names_1), .sl false 2 (List.map e_Arr2_Int stacks_1), .int .i64 i_1]) (bxs := []) (by kernel_rfl) hmix an ?_
  refine aw_seq (by kernel_rfl) ?_
  refine aw_block (id := 0) (by kernel_rfl) ?_
  refine aw_seq (by kernel_rfl) ?_
  obtain ⟨r_1, h_1, h⟩ := bind_some h
  refine aw_region [(2, { av := .int .i64 r_1, l := [.sl false 1 (List.map AV.str names_1), .sl false 2 (List.map e_Arr2_Int stacks_1)] })] [0, 1, 2, 9] [] 1 (vals := [.sl false 1 (List.map AV.str names_1), .sl false 2 (List.map e_Arr2_Int stacks_1), .int .i64 i_1, .bool (r_1 != (0 : Int))]) (bxs := []) (by kernel_rfl) hmix (ac (rfl : ([.sl false 1 (List.map AV.str names_1), .sl false 2 (List.map e_Arr2_Int stacks_1)] : List AV) = [.sl false 1 (List.map AV.str names_1), .sl false 2 (List.map e_Arr2_Int stacks_1)]) (ac (rfl : ([] : List BoxSt) = []) (ac (intern_Check_ok F names_1 stacks_1 r_1 h_1 : TripleG prog 19 [] [] [.sl false 1 (List.map AV.str names_1), .sl false 2 (List.map e_Arr2_Int stacks_1)] [] (.int .i64 r_1)) an))) ?_
  refine aw_cond (t := 9) (b := (r_1 != (0 : Int))) (by kernel_rfl) (by kernel_rfl) ?_ ?_
  · intro g_1; replace h := cond_t g_1 h
    refine aw_seq (by kernel_rfl) ?_
    refine aw_region [(0, { id := 1, m := 1 })] [6, 7] [1] 2 (vals := [.own 1 0, .int .i64 (1 : Int)]) (bxs := [.live (.row 9 1 [])]) (by kernel_rfl) hmix an ?_
    refine aw_sub (sub_wkm [1] [] [.a 6 (.own 0 ((([] : List (List Int))).length)), .s 7] [.s 0] (sl2 := [(6, .own 0 ((([] : List (List Int))).length)), (7, .int .i64 (1 : Int))]) (bx2 := [(0, .live (.row 9 1 []))]) (by kernel_rfl) (ac (congrArg (AV.own _) (by first | (simp; done) | (simp; omega)) : (.own 1 0 : AV) = .own 1 ((([] : List (List Int))).length)) an)) ?_
    refine aw_ret (by kernel_rfl) ?_
    replace h := Option.some.inj h; subst h
    exact ⟨.inr rfl, Nat.le_of_ble_eq_true rfl, by kernel_rfl⟩
  intro g_1; replace h := cond_f g_1 h
  refine aw_seq (by kernel_rfl) ?_
  refine aw_mid (mk [(0, .sl false 1 (List.map AV.str names_1)), (1, .sl false 2 (List.map e_Arr2_Int stacks_1)), (2, .int .i64 i_1), (14, .bool (decide (i_1 < (-1 : Int)) || decide (i_1 ≥ (((stacks_1).length : Nat) : Int))))] [] 0) ?_ ?_
  · rcases Bool.eq_false_or_eq_true (decide (i_1 < (-1 : Int))) with gg_2 | gg_2
    · refine aw_region [(3, { g := false }), (4, { g := false }), (5, { g := false }), (6, { g := false }), (7, { b := true })] [0, 1, 2, 14] [] 1 (vals := [.sl false 1 (List.map AV.str names_1), .sl false 2 (List.map e_Arr2_Int stacks_1), .int .i64 i_1, .bool true]) (bxs := []) (by kernel_rfl) hmix (ac gg_2 (ac gg_2 (ac gg_2 (ac gg_2 (ac gg_2 an))))) ?_
      exact ⟨rfl, (sub_wkm [] [] [.s 0, .s 1, .s 2, .a 14 (.bool (decide (i_1 < (-1 : Int)) || decide (i_1 ≥ (((stacks_1).length : Nat) : Int))))] [] (by kernel_rfl) (ac (congrArg AV.bool (ort gg_2) : (.bool true : AV) = .bool (decide (i_1 < (-1 : Int)) || decide (i_1 ≥ (((stacks_1).length : Nat) : Int)))) an))⟩
    · refine aw_region [(5, { n := (stacks_1).length }), (7, { b := false })] [0, 1, 2, 14] [] 1 (vals := [.sl false 1 (List.map AV.str names_1), .sl false 2 (List.map e_Arr2_Int stacks_1), .int .i64 i_1, .bool (decide (i_1 ≥ (((stacks_1).length : Nat) : Int)))]) (bxs := []) (by kernel_rfl) hmix (ac gg_2 (ac gg_2 (ac gg_2 (ac (vc_len _ : ((List.map e_Arr2_Int stacks_1)).length = (stacks_1).length) (ac gg_2 (ac gg_2 an)))))) ?_
      exact ⟨rfl, (sub_wkm [] [] [.s 0, .s 1, .s 2, .a 14 (.bool (decide (i_1 < (-1 : Int)) || decide (i_1 ≥ (((stacks_1).length : Nat) : Int))))] [] (by kernel_rfl) (ac (congrArg AV.bool (orf gg_2 rfl) : (.bool (decide (i_1 ≥ (((stacks_1).length : Nat) : Int))) : AV) = .bool (decide (i_1 < (-1 : Int)) || decide (i_1 ≥ (((stacks_1).length : Nat) : Int)))) an))⟩
  refine aw_cond (t := 14) (b := (decide (i_1 < (-1 : Int)) || decide (i_1 ≥ (((stacks_1).length : Nat) : Int)))) (by kernel_rfl) (by kernel_rfl) ?_ ?_
  · intro g_2; replace h := cond_t g_2 h
    refine aw_seq (by kernel_rfl) ?_
    refine aw_region [(0, { id := 0, m := 1 })] [6, 7] [0] 1 (vals := [.own 0 0, .int .i64 (2 : Int)]) (bxs := [.live (.row 9 1 [])]) (by kernel_rfl) hmix an ?_
    refine aw_sub (sub_wkm [0] [] [.a 6 (.own 0 ((([] : List (List Int))).length)), .s 7] [.s 0] (sl2 := [(6, .own 0 ((([] : List (List Int))).length)), (7, .int .i64 (2 : Int))]) (bx2 := [(0, .live (.row 9 1 []))]) (by kernel_rfl) (ac (congrArg (AV.own _) (by first | (simp; done) | (simp; omega)) : (.own 0 0 : AV) = .own 0 ((([] : List (List Int))).length)) an)) ?_
    refine aw_ret (by kernel_rfl) ?_
    replace h := Option.some.inj h; subst h
    exact ⟨.inr rfl, Nat.le_of_ble_eq_true rfl, by kernel_rfl⟩
  intro g_2; replace h := cond_f g_2 h
  refine aw_skip (by kernel_rfl) ?_
  refine aw_seq (by kernel_rfl) ?_
  refine aw_region [(0, { id := 0, m := 1 })] [0, 1, 2, 8] [0] 1 (vals := [.sl false 1 (List.map AV.str names_1), .sl false 2 (List.map e_Arr2_Int stacks_1), .int .i64 i_1, .own 0 0]) (bxs := [.live (.row 9 1 [])]) (by kernel_rfl) hmix an ?_
  refine aw_seq (by kernel_rfl) ?_
  obtain ⟨o_1, h_2, h⟩ := bind_some h
  refine aw_mid (mk [(8, .own 0 ((o_1).length))] [(0, .live (.row 9 1 (List.map AV.str o_1)))] 1) ?_ ?_
  · replace h := h_2
    refine aw_block (id := 1) (by kernel_rfl) ?_
    refine aw_sub (sub_wkm [0] [] [.s 0, .s 1, .s 2, .s 8] [.s 0] (sl2 := [(0, .sl false 1 (List.map AV.str names_1)), (1, .sl false 2 (List.map e_Arr2_Int stacks_1)), (2, .int .i64 i_1), (8, .own 0 0)]) (bx2 := [(0, .live (.row 9 1 []))]) (by kernel_rfl) an) ?_
    refine aw_loopF (fun n st => ∃ (i_2 : Int), ∃ (row_1 : List (List Int)), st = mk [(0, .sl false 1 (List.map AV.str names_1)), (1, .sl false 2 (List.map e_Arr2_Int stacks_1)), (2, .int .i64 i_2), (8, .own 0 ((row_1).length))] [(0, .live (.row 9 1 (List.map AV.str row_1)))] 1 ∧ intern_Stack_L1 F names_1 stacks_1 n i_2 row_1 = some o_1) F (by kernel_rfl) ⟨_, _, rfl, h⟩ ?_ ?_
    · rintro _ ⟨_, _, _, h⟩; exact none_ne (h : (none : Option (List (List Int))) = some o_1)
    rintro n_1 _ ⟨i_2, row_1, rfl, h⟩
    replace h : intern_Stack_L1_body F names_1 stacks_1 (intern_Stack_L1 F names_1 stacks_1 n_1) i_2 row_1 = some o_1 := h
    unfold intern_Stack_L1_body at h
    refine aw_seq (by kernel_rfl) ?_
    refine aw_seq (by kernel_rfl) ?_
    refine aw_region [] [0, 1, 2, 8, 24] [0] 1 (vals := [.sl false 1 (List.map AV.str names_1), .sl false 2 (List.map e_Arr2_Int stacks_1), .int .i64 i_2, .own 0 ((row_1).length), .bool (i_2 != (-1 : Int))]) (bxs := [.live (.row 9 1 (List.map AV.str row_1))]) (by kernel_rfl) hmix an ?_
    refine aw_cond (t := 24) (b := (i_2 != (-1 : Int))) (by kernel_rfl) (by kernel_rfl) ?_ ?_
    rotate_left
    · intro g_3; replace h := cond_f g_3 h
      refine aw_exit (id := 1) (by kernel_rfl) ?_
      replace h := Option.some.inj h; subst h
      exact ⟨rfl, (sub_wkm [0] [] [.s 8] [.s 0] (by kernel_rfl) an)⟩
    intro g_3; replace h := cond_t g_3 h
    refine aw_skip (by kernel_rfl) ?_
    refine aw_seq (by kernel_rfl) ?_
    refine aw_block (id := 2) (by kernel_rfl) ?_
    obtain ⟨x_1, h_3, h⟩ := bind_some h
    obtain ⟨x_2, h_4, h⟩ := bind_some h
    obtain ⟨_, h_5, h⟩ := bind_some h; replace h_5 := need_some h_5
    refine aw_region [(4, { av := .agg [.int .i64 x_1.c0, .int .i64 x_1.c1] }), (7, { av := .str x_2 }), (9, { id := 1 }), (10, { id := 2, l := (List.map AV.str (row_1 ++ ([x_2] : List (List Int)))), n := ((row_1 ++ ([x_2] : List (List Int)))).length })] [0, 1, 2, 8] [2] 3 (vals := [.sl false 1 (List.map AV.str names_1), .sl false 2 (List.map e_Arr2_Int stacks_1), .int .i64 i_2, .own 2 (((row_1 ++ ([x_2] : List (List Int)))).length)]) (bxs := [.live (.row 9 1 (List.map AV.str (row_1 ++ ([x_2] : List (List Int)))))]) (by kernel_rfl) hmix (ac (vc_idx h_3 : idxA (List.map e_Arr2_Int stacks_1) i_2 = some (.agg [.int .i64 x_1.c0, .int .i64 x_1.c1])) (ac (by decide : (0 : Int) ≤ (1 : Int)) (ac (by decide : (1 : Int) < ((2 : Nat) : Int)) (ac (vc_idx h_4 : idxA (List.map AV.str names_1) x_1.c1 = some (.str x_2)) (ac (by first | (simp; done) | (simp; omega) : (row_1).length = ((List.map AV.str row_1)).length) (ac (by first | (simp; done) | (simp; omega) : 1 = ((List.map AV.str ([x_2] : List (List Int)))).length) (ac (vc_app _ _ : (List.map AV.str (row_1 ++ ([x_2] : List (List Int)))) = (List.map AV.str row_1) ++ (List.map AV.str ([x_2] : List (List Int)))) (ac (by simp : ((row_1 ++ ([x_2] : List (List Int)))).length = ((List.map AV.str (row_1 ++ ([x_2] : List (List Int))))).length) (ac (by first | (simp; done) | simpa using h_5 : (((List.map AV.str row_1) : List AV).length + ((List.map AV.str ([x_2] : List (List Int))) : List AV).length) * 16 ≤ 140737488355328) an))))))))) ?_
    obtain ⟨x_3, h_6, h⟩ := bind_some h
    refine aw_region [(2, { av := .agg [.int .i64 x_3.c0, .int .i64 x_3.c1] })] [0, 1, 2, 8] [2] 3 (vals := [.sl false 1 (List.map AV.str names_1), .sl false 2 (List.map e_Arr2_Int stacks_1), .int .i64 x_3.c0, .own 2 (((row_1 ++ ([x_2] : List (List Int)))).length)]) (bxs := [.live (.row 9 1 (List.map AV.str (row_1 ++ ([x_2] : List (List Int)))))]) (by kernel_rfl) hmix (ac (vc_idx h_6 : idxA (List.map e_Arr2_Int stacks_1) i_2 = some (.agg [.int .i64 x_3.c0, .int .i64 x_3.c1])) (ac (by decide : (0 : Int) ≤ (0 : Int)) (ac (by decide : (0 : Int) < ((2 : Nat) : Int)) an))) ?_
    exact ⟨_, (sub_wkm [2] [] [.s 0, .s 1, .s 2, .s 8] [.s 0] (by kernel_rfl) an), _, _, rfl, h⟩
  refine aw_seq (by kernel_rfl) ?_
  obtain ⟨r_2, h_7, h⟩ := bind_some h
  obtain ⟨_, h_8, h⟩ := bind_some h; replace h_8 := need_some h_8
  refine aw_region [(1, { av := .tuple [], ids := [0], l := [.own 0 ((o_1).length)], post := [(.row 9 1 (List.map AV.str r_2))], pre := [(.row 9 1 (List.map AV.str o_1))] })] [8] [0] 1 (vals := [.own 0 ((o_1).length)]) (bxs := [.live (.row 9 1 (List.map AV.str r_2))]) (by kernel_rfl) hmix (ac (rfl : ([.own 0 ((o_1).length)] : List AV) = [.own 0 ((o_1).length)]) (ac (rfl : ([.live (.row 9 1 (List.map AV.str o_1))] : List BoxSt) = [.live (.row 9 1 (List.map AV.str o_1))]) (ac (slices_Reverse_string_string_ok F o_1 r_2 h_7 : TripleG prog 56 [(.row 9 1 (List.map AV.str o_1))] [] [.own 0 ((o_1).length)] [(.row 9 1 (List.map AV.str r_2))] (.tuple [])) an))) ?_
  refine aw_seq (by kernel_rfl) ?_
  refine aw_region [] [6, 7] [0] 1 (vals := [.own 0 ((o_1).length), .int .i64 (0 : Int)]) (bxs := [.live (.row 9 1 (List.map AV.str r_2))]) (by kernel_rfl) hmix an ?_
  refine aw_sub (sub_wkm [0] [] [.a 6 (.own 0 ((r_2).length)), .s 7] [.s 0] (sl2 := [(6, .own 0 ((r_2).length)), (7, .int .i64 (0 : Int))]) (bx2 := [(0, .live (.row 9 1 (List.map AV.str r_2)))]) (by kernel_rfl) (ac (congrArg (AV.own _) h_8.symm : (.own 0 ((o_1).length) : AV) = .own 0 ((r_2).length)) an)) ?_
  refine aw_ret (by kernel_rfl) ?_
  replace h := Option.some.inj h; subst h
  exact ⟨.inr rfl, Nat.le_of_ble_eq_true rfl, by kernel_rfl⟩

theorem record_Decode_ok (F : Nat) (names_1 : List (List Int)) (stacks_1 : List (Arr2_Int)) (b_1 : List (Int)) (r : T_api_Event × Int × Int) (h : record_Decode F names_1 stacks_1 b_1 = some r) : TripleG prog 15 [] [] [.sl false 1 (List.map AV.str names_1), .sl false 2 (List.map e_Arr2_Int stacks_1), .sl false 1 (List.map (AV.int .u8) b_1)] [] (.tuple [e_T_api_Event r.1, .int .i64 r.2.1, .int .i64 r.2.2]) := by
  refine triple_intro (fn := Go.Proofs.Try.f15) (code := codeOf Go.Proofs.Try.f15) (by kernel_rfl) (by kernel_rfl) (Nat.le_of_ble_eq_true (by kernel_rfl)) ?_
  unfold record_Decode at h
  refine aw_seq (by kernel_rfl) ?_
  refine aw_region [(0, { id := 0 })] [0, 1, 2, 6] [0] 1 (vals := [.sl false 1 (List.map AV.str names_1), .sl false 2 (List.map e_Arr2_Int stacks_1), .sl false 1 (List.map (AV.int .u8) b_1), .ptr 0 0 0 0]) (bxs := [.live (.var 28 [.int .i64 (0 : Int), .int .i64 (0 : Int), .str ([] : List Int), .int .i64 (0 : Int), .int .i64 (0 : Int), .nilsl])]) (by kernel_rfl) hmix an ?_
  refine aw_seq (by kernel_rfl) ?_
  refine aw_seq (by kernel_rfl) ?_
  obtain ⟨r_1, h_1, h⟩ := bind_some h
  refine aw_region [(2, { av := .int .i64 r_1, l := [.sl false 1 (List.map AV.str names_1), .sl false 2 (List.map e_Arr2_Int stacks_1)] })] [0, 1, 2, 6, 21] [0] 1 (vals := [.sl false 1 (List.map AV.str names_1), .sl false 2 (List.map e_Arr2_Int stacks_1), .sl false 1 (List.map (AV.int .u8) b_1), .ptr 0 0 0 0, .bool (r_1 != (0 : Int))]) (bxs := [.live (.var 28 [.int .i64 (0 : Int), .int .i64 (0 : Int), .str ([] : List Int), .int .i64 (0 : Int), .int .i64 (0 : Int), .nilsl])]) (by kernel_rfl) hmix (ac (rfl : ([.sl false 1 (List.map AV.str names_1), .sl false 2 (List.map e_Arr2_Int stacks_1)] : List AV) = [.sl false 1 (List.map AV.str names_1), .sl false 2 (List.map e_Arr2_Int stacks_1)]) (ac (rfl : ([] : List BoxSt) = []) (ac (intern_Check_ok F names_1 stacks_1 r_1 h_1 : TripleG prog 19 [] [] [.sl false 1 (List.map AV.str names_1), .sl false 2 (List.map e_Arr2_Int stacks_1)] [] (.int .i64 r_1)) an))) ?_
  refine aw_cond (t := 21) (b := (r_1 != (0 : Int))) (by kernel_rfl) (by kernel_rfl) ?_ ?_
  · intro g_1; replace h := cond_t g_1 h
    refine aw_seq (by kernel_rfl) ?_
    refine aw_region [] [6, 7, 8] [0] 1 (vals := [.ptr 0 0 0 0, .int .i64 (0 : Int), .int .i64 (1 : Int)]) (bxs := [.live (.var 28 [.int .i64 (0 : Int), .int .i64 (0 : Int), .str ([] : List Int), .int .i64 (0 : Int), .int .i64 (0 : Int), .nilsl])]) (by kernel_rfl) hmix an ?_
    refine aw_sub (sub_wkm [0] [] [.s 6, .s 7, .s 8] [.a 0 (.live (.var 28 (v_T_api_Event (⟨(0 : Int), (0 : Int), ([] : List Int), (0 : Int), (0 : Int), []⟩ : T_api_Event))))] (sl2 := [(6, .ptr 0 0 0 0), (7, .int .i64 (0 : Int)), (8, .int .i64 (1 : Int))]) (bx2 := [(0, .live (.var 28 (v_T_api_Event (⟨(0 : Int), (0 : Int), ([] : List Int), (0 : Int), (0 : Int), []⟩ : T_api_Event))))]) (by kernel_rfl) (ac (rfl : 28 = 28) (ac (rfl : ones [.int .i64 ((⟨(0 : Int), (0 : Int), ([] : List Int), (0 : Int), (0 : Int), []⟩ : T_api_Event).At), .int .i64 ((⟨(0 : Int), (0 : Int), ([] : List Int), (0 : Int), (0 : Int), []⟩ : T_api_Event).Kind), .str ((⟨(0 : Int), (0 : Int), ([] : List Int), (0 : Int), (0 : Int), []⟩ : T_api_Event).Name), .int .i64 ((⟨(0 : Int), (0 : Int), ([] : List Int), (0 : Int), (0 : Int), []⟩ : T_api_Event).N), .int .i64 ((⟨(0 : Int), (0 : Int), ([] : List Int), (0 : Int), (0 : Int), []⟩ : T_api_Event).M), .sl false 1 (List.map AV.str ((⟨(0 : Int), (0 : Int), ([] : List Int), (0 : Int), (0 : Int), []⟩ : T_api_Event).Stack))] = true) (ac (rfl : (.int .i64 (0 : Int) : AV) = .int .i64 ((⟨(0 : Int), (0 : Int), ([] : List Int), (0 : Int), (0 : Int), []⟩ : T_api_Event).At)) (ac (rfl : (.int .i64 (0 : Int) : AV) = .int .i64 ((⟨(0 : Int), (0 : Int), ([] : List Int), (0 : Int), (0 : Int), []⟩ : T_api_Event).Kind)) (ac (rfl : (.str ([] : List Int) : AV) = .str ((⟨(0 : Int), (0 : Int), ([] : List Int), (0 : Int), (0 : Int), []⟩ : T_api_Event).Name)) (ac (rfl : (.int .i64 (0 : Int) : AV) = .int .i64 ((⟨(0 : Int), (0 : Int), ([] : List Int), (0 : Int), (0 : Int), []⟩ : T_api_Event).N)) (ac (rfl : (.int .i64 (0 : Int) : AV) = .int .i64 ((⟨(0 : Int), (0 : Int), ([] : List Int), (0 : Int), (0 : Int), []⟩ : T_api_Event).M)) (ac (rfl : ((List.map AV.str ((⟨(0 : Int), (0 : Int), ([] : List Int), (0 : Int), (0 : Int), []⟩ : T_api_Event).Stack)) : List AV) = []) an))))))))) ?_
    refine aw_ret (by kernel_rfl) ?_
    replace h := Option.some.inj h; subst h
    exact ⟨.inr rfl, Nat.le_of_ble_eq_true rfl, by kernel_rfl⟩
  intro g_1; replace h := cond_f g_1 h
  refine aw_skip (by kernel_rfl) ?_
  refine aw_seq (by kernel_rfl) ?_
  refine aw_region [(2, { id := 1 })] [0, 1, 6, 9] [0, 1] 2 (vals := [.sl false 1 (List.map AV.str names_1), .sl false 2 (List.map e_Arr2_Int stacks_1), .ptr 0 0 0 0, .ptr 1 0 0 0]) (bxs := [.live (.var 28 [.int .i64 (0 : Int), .int .i64 (0 : Int), .str ([] : List Int), .int .i64 (0 : Int), .int .i64 (0 : Int), .nilsl]), .live (.var 59 [.sl false 1 (List.map (AV.int .u8) b_1), .int .i64 (0 : Int), .int .i64 (0 : Int)])]) (by kernel_rfl) hmix an ?_
  refine aw_seq (by kernel_rfl) ?_
  obtain ⟨r_2, h_2, h⟩ := bind_some h
  refine aw_region [(1, { av := .int .i64 r_2.1, ids := [1], l := [.ptr 0 0 0 0], post := [(.var 59 (v_T_record_input r_2.2))], pre := [(.var 59 [.sl false 1 (List.map (AV.int .u8) b_1), .int .i64 (0 : Int), .int .i64 (0 : Int)])] })] [0, 1, 6, 9, 10] [0, 1] 2 (vals := [.sl false 1 (List.map AV.str names_1), .sl false 2 (List.map e_Arr2_Int stacks_1), .ptr 0 0 0 0, .ptr 1 0 0 0, .int .i64 r_2.1]) (bxs := [.live (.var 28 [.int .i64 (0 : Int), .int .i64 (0 : Int), .str ([] : List Int), .int .i64 (0 : Int), .int .i64 (0 : Int), .nilsl]), .live (.var 59 (v_T_record_input r_2.2))]) (by kernel_rfl) hmix (ac (rfl : ([.ptr 1 0 0 0] : List AV) = [.ptr 1 0 0 0]) (ac (rfl : ([.live (.var 59 [.sl false 1 (List.map (AV.int .u8) b_1), .int .i64 (0 : Int), .int .i64 (0 : Int)])] : List BoxSt) = [.live (.var 59 [.sl false 1 (List.map (AV.int .u8) b_1), .int .i64 (0 : Int), .int .i64 (0 : Int)])]) (ac (record_input_num_ok F (⟨b_1, (0 : Int), (0 : Int)⟩ : T_record_input) r_2 h_2 : TripleG prog 31 [(.var 59 [.sl false 1 (List.map (AV.int .u8) b_1), .int .i64 (0 : Int), .int .i64 (0 : Int)])] [] [.ptr 0 0 0 0] [(.var 59 (v_T_record_input r_2.2))] (.int .i64 r_2.1)) an))) ?_
  refine aw_seq (by kernel_rfl) ?_
  obtain ⟨r_3, h_3, h⟩ := bind_some h
  refine aw_region [(2, { av := .int .i64 r_3.1, ids := [1], l := [.ptr 0 0 0 0], post := [(.var 59 (v_T_record_input r_3.2))], pre := [(.var 59 (v_T_record_input r_2.2))] }), (4, { id := 2 })] [0, 1, 6, 9, 10, 11] [0, 1, 2] 3 (vals := [.sl false 1 (List.map AV.str names_1), .sl false 2 (List.map e_Arr2_Int stacks_1), .ptr 0 0 0 0, .ptr 1 0 0 0, .int .i64 r_2.1, .ptr 2 0 0 0]) (bxs := [.live (.var 28 [.int .i64 (0 : Int), .int .i64 (0 : Int), .str ([] : List Int), .int .i64 (0 : Int), .int .i64 (0 : Int), .nilsl]), .live (.var 59 (v_T_record_input r_3.2)), .live (.var 28 [.int .i64 r_3.1, .int .i64 r_2.1, .str ([] : List Int), .int .i64 (0 : Int), .int .i64 (0 : Int), .nilsl])]) (by kernel_rfl) hmix (ac (rfl : ([.ptr 1 0 0 0] : List AV) = [.ptr 1 0 0 0]) (ac (rfl : ([.live (.var 59 (v_T_record_input r_2.2))] : List BoxSt) = [.live (.var 59 (v_T_record_input r_2.2))]) (ac (record_input_num_ok F r_2.2 r_3 h_3 : TripleG prog 31 [(.var 59 (v_T_record_input r_2.2))] [] [.ptr 0 0 0 0] [(.var 59 (v_T_record_input r_3.2))] (.int .i64 r_3.1)) an))) ?_
  refine aw_seq (by kernel_rfl) ?_
  refine aw_seq (by kernel_rfl) ?_
  refine aw_mid (mk [(0, .sl false 1 (List.map AV.str names_1)), (1, .sl false 2 (List.map e_Arr2_Int stacks_1)), (6, .ptr 0 0 0 0), (9, .ptr 1 0 0 0), (11, .ptr 2 0 0 0), (44, .bool ((r_3.2.fault == (0 : Int)) && (decide (r_2.1 < (1 : Int)) || decide (r_2.1 > (12 : Int)))))] [(0, .live (.var 28 [.int .i64 (0 : Int), .int .i64 (0 : Int), .str ([] : List Int), .int .i64 (0 : Int), .int .i64 (0 : Int), .nilsl])), (1, .live (.var 59 (v_T_record_input r_3.2))), (2, .live (.var 28 [.int .i64 r_3.1, .int .i64 r_2.1, .str ([] : List Int), .int .i64 (0 : Int), .int .i64 (0 : Int), .nilsl]))] 3) ?_ ?_
  · rcases Bool.eq_false_or_eq_true (r_3.2.fault == (0 : Int)) with gg_1 | gg_1
    · rcases Bool.eq_false_or_eq_true (decide (r_2.1 < (1 : Int))) with gg_2 | gg_2
      · refine aw_region [(9, { g := false }), (10, { g := false }), (11, { b := true }), (12, { b := true })] [0, 1, 6, 9, 11, 44] [0, 1, 2] 3 (vals := [.sl false 1 (List.map AV.str names_1), .sl false 2 (List.map e_Arr2_Int stacks_1), .ptr 0 0 0 0, .ptr 1 0 0 0, .ptr 2 0 0 0, .bool true]) (bxs := [.live (.var 28 [.int .i64 (0 : Int), .int .i64 (0 : Int), .str ([] : List Int), .int .i64 (0 : Int), .int .i64 (0 : Int), .nilsl]), .live (.var 59 (v_T_record_input r_3.2)), .live (.var 28 [.int .i64 r_3.1, .int .i64 r_2.1, .str ([] : List Int), .int .i64 (0 : Int), .int .i64 (0 : Int), .nilsl])]) (by kernel_rfl) hmix (ac gg_1 (ac gg_1 (ac gg_1 (ac gg_2 (ac gg_2 (ac gg_1 (ac gg_2 (ac gg_1 an)))))))) ?_
        exact ⟨rfl, (sub_wkm [0, 1, 2] [] [.s 0, .s 1, .s 6, .s 9, .s 11, .a 44 (.bool ((r_3.2.fault == (0 : Int)) && (decide (r_2.1 < (1 : Int)) || decide (r_2.1 > (12 : Int)))))] [.s 0, .s 1, .s 2] (by kernel_rfl) (ac (congrArg AV.bool (andt gg_1 (ort gg_2)) : (.bool true : AV) = .bool ((r_3.2.fault == (0 : Int)) && (decide (r_2.1 < (1 : Int)) || decide (r_2.1 > (12 : Int))))) an))⟩
      · refine aw_region [(11, { b := false }), (12, { b := true })] [0, 1, 6, 9, 11, 44] [0, 1, 2] 3 (vals := [.sl false 1 (List.map AV.str names_1), .sl false 2 (List.map e_Arr2_Int stacks_1), .ptr 0 0 0 0, .ptr 1 0 0 0, .ptr 2 0 0 0, .bool (decide (r_2.1 > (12 : Int)))]) (bxs := [.live (.var 28 [.int .i64 (0 : Int), .int .i64 (0 : Int), .str ([] : List Int), .int .i64 (0 : Int), .int .i64 (0 : Int), .nilsl]), .live (.var 59 (v_T_record_input r_3.2)), .live (.var 28 [.int .i64 r_3.1, .int .i64 r_2.1, .str ([] : List Int), .int .i64 (0 : Int), .int .i64 (0 : Int), .nilsl])]) (by kernel_rfl) hmix (ac gg_1 (ac gg_1 (ac gg_1 (ac gg_2 (ac gg_2 (ac gg_1 (ac gg_2 (ac gg_1 an)))))))) ?_
        exact ⟨rfl, (sub_wkm [0, 1, 2] [] [.s 0, .s 1, .s 6, .s 9, .s 11, .a 44 (.bool ((r_3.2.fault == (0 : Int)) && (decide (r_2.1 < (1 : Int)) || decide (r_2.1 > (12 : Int)))))] [.s 0, .s 1, .s 2] (by kernel_rfl) (ac (congrArg AV.bool (andt gg_1 (orf gg_2 rfl)) : (.bool (decide (r_2.1 > (12 : Int))) : AV) = .bool ((r_3.2.fault == (0 : Int)) && (decide (r_2.1 < (1 : Int)) || decide (r_2.1 > (12 : Int))))) an))⟩
    · refine aw_region [(6, { g := false }), (7, { g := false }), (8, { g := false }), (11, { g := false }), (12, { b := false })] [0, 1, 6, 9, 11, 44] [0, 1, 2] 3 (vals := [.sl false 1 (List.map AV.str names_1), .sl false 2 (List.map e_Arr2_Int stacks_1), .ptr 0 0 0 0, .ptr 1 0 0 0, .ptr 2 0 0 0, .bool false]) (bxs := [.live (.var 28 [.int .i64 (0 : Int), .int .i64 (0 : Int), .str ([] : List Int), .int .i64 (0 : Int), .int .i64 (0 : Int), .nilsl]), .live (.var 59 (v_T_record_input r_3.2)), .live (.var 28 [.int .i64 r_3.1, .int .i64 r_2.1, .str ([] : List Int), .int .i64 (0 : Int), .int .i64 (0 : Int), .nilsl])]) (by kernel_rfl) hmix (ac gg_1 (ac gg_1 (ac gg_1 (ac gg_1 (ac gg_1 an))))) ?_
      exact ⟨rfl, (sub_wkm [0, 1, 2] [] [.s 0, .s 1, .s 6, .s 9, .s 11, .a 44 (.bool ((r_3.2.fault == (0 : Int)) && (decide (r_2.1 < (1 : Int)) || decide (r_2.1 > (12 : Int)))))] [.s 0, .s 1, .s 2] (by kernel_rfl) (ac (congrArg AV.bool (andf gg_1) : (.bool false : AV) = .bool ((r_3.2.fault == (0 : Int)) && (decide (r_2.1 < (1 : Int)) || decide (r_2.1 > (12 : Int))))) an))⟩
  obtain ⟨o_1, h_4, h⟩ := bind_some h
  refine aw_mid (mk [(0, .sl false 1 (List.map AV.str names_1)), (1, .sl false 2 (List.map e_Arr2_Int stacks_1)), (6, .ptr 0 0 0 0), (9, .ptr 1 0 0 0), (11, .ptr 2 0 0 0)] [(0, .live (.var 28 [.int .i64 (0 : Int), .int .i64 (0 : Int), .str ([] : List Int), .int .i64 (0 : Int), .int .i64 (0 : Int), .nilsl])), (1, .live (.var 59 [.sl false 1 (List.map (AV.int .u8) r_3.2.b), .int .i64 r_3.2.used, .int .i64 o_1])), (2, .live (.var 28 [.int .i64 r_3.1, .int .i64 r_2.1, .str ([] : List Int), .int .i64 (0 : Int), .int .i64 (0 : Int), .nilsl]))] 3) ?_ ?_
  · replace h := h_4
    refine aw_cond (t := 44) (b := ((r_3.2.fault == (0 : Int)) && (decide (r_2.1 < (1 : Int)) || decide (r_2.1 > (12 : Int))))) (by kernel_rfl) (by kernel_rfl) ?_ ?_
    · intro g_2; replace h := cond_t g_2 h
      refine aw_region [] [0, 1, 6, 9, 11] [0, 1, 2] 3 (vals := [.sl false 1 (List.map AV.str names_1), .sl false 2 (List.map e_Arr2_Int stacks_1), .ptr 0 0 0 0, .ptr 1 0 0 0, .ptr 2 0 0 0]) (bxs := [.live (.var 28 [.int .i64 (0 : Int), .int .i64 (0 : Int), .str ([] : List Int), .int .i64 (0 : Int), .int .i64 (0 : Int), .nilsl]), .live (.var 59 [.sl false 1 (List.map (AV.int .u8) r_3.2.b), .int .i64 r_3.2.used, .int .i64 (10 : Int)]), .live (.var 28 [.int .i64 r_3.1, .int .i64 r_2.1, .str ([] : List Int), .int .i64 (0 : Int), .int .i64 (0 : Int), .nilsl])]) (by kernel_rfl) hmix an ?_
      replace h := Option.some.inj h; subst h
      exact ⟨rfl, (sub_wkm [0, 1, 2] [] [.s 0, .s 1, .s 6, .s 9, .s 11] [.s 0, .s 1, .s 2] (by kernel_rfl) an)⟩
    intro g_2; replace h := cond_f g_2 h
    refine aw_skip (by kernel_rfl) ?_
    replace h := Option.some.inj h; subst h
    exact ⟨rfl, (sub_wkm [0, 1, 2] [] [.s 0, .s 1, .s 6, .s 9, .s 11] [.s 0, .s 1, .s 2] (by kernel_rfl) an)⟩
  refine aw_seq (by kernel_rfl) ?_
  obtain ⟨r_4, h_5, h⟩ := bind_some h
  refine aw_region [(2, { av := .tuple [.bool r_4.1, .bool r_4.2.1, .bool r_4.2.2.1, .bool r_4.2.2.2], l := [.int .i64 r_2.1] })] [0, 1, 6, 9, 11, 12, 13, 14, 15] [0, 1, 2] 3 (vals := [.sl false 1 (List.map AV.str names_1), .sl false 2 (List.map e_Arr2_Int stacks_1), .ptr 0 0 0 0, .ptr 1 0 0 0, .ptr 2 0 0 0, .bool r_4.1, .bool r_4.2.1, .bool r_4.2.2.1, .bool r_4.2.2.2]) (bxs := [.live (.var 28 [.int .i64 (0 : Int), .int .i64 (0 : Int), .str ([] : List Int), .int .i64 (0 : Int), .int .i64 (0 : Int), .nilsl]), .live (.var 59 [.sl false 1 (List.map (AV.int .u8) r_3.2.b), .int .i64 r_3.2.used, .int .i64 o_1]), .live (.var 28 [.int .i64 r_3.1, .int .i64 r_2.1, .str ([] : List Int), .int .i64 (0 : Int), .int .i64 (0 : Int), .nilsl])]) (by kernel_rfl) hmix (ac (rfl : ([.int .i64 r_2.1] : List AV) = [.int .i64 r_2.1]) (ac (rfl : ([] : List BoxSt) = []) (ac (record_uses_ok r_2.1 r_4 h_5 : TripleG prog 21 [] [] [.int .i64 r_2.1] [] (.tuple [.bool r_4.1, .bool r_4.2.1, .bool r_4.2.2.1, .bool r_4.2.2.2])) an))) ?_
  refine aw_seq (by kernel_rfl) ?_
  refine aw_region [] [0, 1, 6, 9, 11, 12, 13, 14, 15, 16, 17] [0, 1, 2] 3 (vals := [.sl false 1 (List.map AV.str names_1), .sl false 2 (List.map e_Arr2_Int stacks_1), .ptr 0 0 0 0, .ptr 1 0 0 0, .ptr 2 0 0 0, .bool r_4.1, .bool r_4.2.1, .bool r_4.2.2.1, .bool r_4.2.2.2, .int .i64 (0 : Int), .int .i64 (-1 : Int)]) (bxs := [.live (.var 28 [.int .i64 (0 : Int), .int .i64 (0 : Int), .str ([] : List Int), .int .i64 (0 : Int), .int .i64 (0 : Int), .nilsl]), .live (.var 59 [.sl false 1 (List.map (AV.int .u8) r_3.2.b), .int .i64 r_3.2.used, .int .i64 o_1]), .live (.var 28 [.int .i64 r_3.1, .int .i64 r_2.1, .str ([] : List Int), .int .i64 (0 : Int), .int .i64 (0 : Int), .nilsl])]) (by kernel_rfl) hmix an ?_
  refine aw_seq (by kernel_rfl) ?_
  refine aw_seq (by kernel_rfl) ?_
  refine aw_region [] [0, 1, 6, 9, 11, 12, 13, 14, 15, 16, 17, 56] [0, 1, 2] 3 (vals := [.sl false 1 (List.map AV.str names_1), .sl false 2 (List.map e_Arr2_Int stacks_1), .ptr 0 0 0 0, .ptr 1 0 0 0, .ptr 2 0 0 0, .bool r_4.1, .bool r_4.2.1, .bool r_4.2.2.1, .bool r_4.2.2.2, .int .i64 (0 : Int), .int .i64 (-1 : Int), .bool r_4.1]) (bxs := [.live (.var 28 [.int .i64 (0 : Int), .int .i64 (0 : Int), .str ([] : List Int), .int .i64 (0 : Int), .int .i64 (0 : Int), .nilsl]), .live (.var 59 [.sl false 1 (List.map (AV.int .u8) r_3.2.b), .int .i64 r_3.2.used, .int .i64 o_1]), .live (.var 28 [.int .i64 r_3.1, .int .i64 r_2.1, .str ([] : List Int), .int .i64 (0 : Int), .int .i64 (0 : Int), .nilsl])]) (by kernel_rfl) hmix an ?_
  obtain ⟨o_2, h_6, h⟩ := bind_some h
  refine aw_mid (mk [(0, .sl false 1 (List.map AV.str names_1)), (1, .sl false 2 (List.map e_Arr2_Int stacks_1)), (6, .ptr 0 0 0 0), (9, .ptr 1 0 0 0), (11, .ptr 2 0 0 0), (12, .bool r_4.1), (13, .bool r_4.2.1), (14, .bool r_4.2.2.1), (15, .bool r_4.2.2.2), (16, .int .i64 o_2.1), (17, .int .i64 (-1 : Int))] [(0, .live (.var 28 [.int .i64 (0 : Int), .int .i64 (0 : Int), .str ([] : List Int), .int .i64 (0 : Int), .int .i64 (0 : Int), .nilsl])), (1, .live (.var 59 [.sl false 1 (List.map (AV.int .u8) o_2.2.1), .int .i64 o_2.2.2.1, .int .i64 o_2.2.2.2])), (2, .live (.var 28 [.int .i64 r_3.1, .int .i64 r_2.1, .str ([] : List Int), .int .i64 (0 : Int), .int .i64 (0 : Int), .nilsl]))] 3) ?_ ?_
  · replace h := h_6
    refine aw_cond (t := 56) (b := r_4.1) (by kernel_rfl) (by kernel_rfl) ?_ ?_
    rotate_left
    · intro g_3; replace h := cond_f g_3 h
      refine aw_skip (by kernel_rfl) ?_
      replace h := Option.some.inj h; subst h
      exact ⟨rfl, (sub_wkm [0, 1, 2] [] [.s 0, .s 1, .s 6, .s 9, .s 11, .s 12, .s 13, .s 14, .s 15, .s 16, .s 17] [.s 0, .s 1, .s 2] (by kernel_rfl) an)⟩
    intro g_3; replace h := cond_t g_3 h
    obtain ⟨r_5, h_7, h⟩ := bind_some h
    refine aw_region [(1, { av := .int .i64 r_5.1, ids := [1], l := [.ptr 0 0 0 0], post := [(.var 59 (v_T_record_input r_5.2))], pre := [(.var 59 [.sl false 1 (List.map (AV.int .u8) r_3.2.b), .int .i64 r_3.2.used, .int .i64 o_1])] })] [0, 1, 6, 9, 11, 12, 13, 14, 15, 16, 17] [0, 1, 2] 3 (vals := [.sl false 1 (List.map AV.str names_1), .sl false 2 (List.map e_Arr2_Int stacks_1), .ptr 0 0 0 0, .ptr 1 0 0 0, .ptr 2 0 0 0, .bool r_4.1, .bool r_4.2.1, .bool r_4.2.2.1, .bool r_4.2.2.2, .int .i64 r_5.1, .int .i64 (-1 : Int)]) (bxs := [.live (.var 28 [.int .i64 (0 : Int), .int .i64 (0 : Int), .str ([] : List Int), .int .i64 (0 : Int), .int .i64 (0 : Int), .nilsl]), .live (.var 59 (v_T_record_input r_5.2)), .live (.var 28 [.int .i64 r_3.1, .int .i64 r_2.1, .str ([] : List Int), .int .i64 (0 : Int), .int .i64 (0 : Int), .nilsl])]) (by kernel_rfl) hmix (ac (rfl : ([.ptr 1 0 0 0] : List AV) = [.ptr 1 0 0 0]) (ac (rfl : ([.live (.var 59 [.sl false 1 (List.map (AV.int .u8) r_3.2.b), .int .i64 r_3.2.used, .int .i64 o_1])] : List BoxSt) = [.live (.var 59 [.sl false 1 (List.map (AV.int .u8) r_3.2.b), .int .i64 r_3.2.used, .int .i64 o_1])]) (ac (record_input_num_ok F (⟨r_3.2.b, r_3.2.used, o_1⟩ : T_record_input) r_5 h_7 : TripleG prog 31 [(.var 59 [.sl false 1 (List.map (AV.int .u8) r_3.2.b), .int .i64 r_3.2.used, .int .i64 o_1])] [] [.ptr 0 0 0 0] [(.var 59 (v_T_record_input r_5.2))] (.int .i64 r_5.1)) an))) ?_
    replace h := Option.some.inj h; subst h
    exact ⟨rfl, (sub_wkm [0, 1, 2] [] [.s 0, .s 1, .s 6, .s 9, .s 11, .s 12, .s 13, .s 14, .s 15, .s 16, .s 17] [.s 0, .s 1, .s 2] (by kernel_rfl) an)⟩
  refine aw_seq (by kernel_rfl) ?_
  refine aw_seq (by kernel_rfl) ?_
  refine aw_region [] [0, 1, 6, 9, 11, 12, 14, 15, 16, 17, 59] [0, 1, 2] 3 (vals := [.sl false 1 (List.map AV.str names_1), .sl false 2 (List.map e_Arr2_Int stacks_1), .ptr 0 0 0 0, .ptr 1 0 0 0, .ptr 2 0 0 0, .bool r_4.1, .bool r_4.2.2.1, .bool r_4.2.2.2, .int .i64 o_2.1, .int .i64 (-1 : Int), .bool r_4.2.1]) (bxs := [.live (.var 28 [.int .i64 (0 : Int), .int .i64 (0 : Int), .str ([] : List Int), .int .i64 (0 : Int), .int .i64 (0 : Int), .nilsl]), .live (.var 59 [.sl false 1 (List.map (AV.int .u8) o_2.2.1), .int .i64 o_2.2.2.1, .int .i64 o_2.2.2.2]), .live (.var 28 [.int .i64 r_3.1, .int .i64 r_2.1, .str ([] : List Int), .int .i64 (0 : Int), .int .i64 (0 : Int), .nilsl])]) (by kernel_rfl) hmix an ?_
  obtain ⟨o_3, h_8, h⟩ := bind_some h
  refine aw_mid (mk [(0, .sl false 1 (List.map AV.str names_1)), (1, .sl false 2 (List.map e_Arr2_Int stacks_1)), (6, .ptr 0 0 0 0), (9, .ptr 1 0 0 0), (11, .ptr 2 0 0 0), (12, .bool r_4.1), (14, .bool r_4.2.2.1), (15, .bool r_4.2.2.2), (16, .int .i64 o_2.1), (17, .int .i64 (-1 : Int))] [(0, .live (.var 28 [.int .i64 (0 : Int), .int .i64 (0 : Int), .str ([] : List Int), .int .i64 (0 : Int), .int .i64 (0 : Int), .nilsl])), (1, .live (.var 59 [.sl false 1 (List.map (AV.int .u8) o_3.1), .int .i64 o_3.2.1, .int .i64 o_3.2.2.1])), (2, .live (.var 28 [.int .i64 r_3.1, .int .i64 r_2.1, .str ([] : List Int), .int .i64 o_3.2.2.2, .int .i64 (0 : Int), .nilsl]))] 3) ?_ ?_
  · replace h := h_8
    refine aw_cond (t := 59) (b := r_4.2.1) (by kernel_rfl) (by kernel_rfl) ?_ ?_
    rotate_left
    · intro g_4; replace h := cond_f g_4 h
      refine aw_skip (by kernel_rfl) ?_
      replace h := Option.some.inj h; subst h
      exact ⟨rfl, (sub_wkm [0, 1, 2] [] [.s 0, .s 1, .s 6, .s 9, .s 11, .s 12, .s 14, .s 15, .s 16, .s 17] [.s 0, .s 1, .s 2] (by kernel_rfl) an)⟩
    intro g_4; replace h := cond_t g_4 h
    obtain ⟨r_6, h_9, h⟩ := bind_some h
    refine aw_region [(1, { av := .int .i64 r_6.1, ids := [1], l := [.ptr 0 0 0 0], post := [(.var 59 (v_T_record_input r_6.2))], pre := [(.var 59 [.sl false 1 (List.map (AV.int .u8) o_2.2.1), .int .i64 o_2.2.2.1, .int .i64 o_2.2.2.2])] })] [0, 1, 6, 9, 11, 12, 14, 15, 16, 17] [0, 1, 2] 3 (vals := [.sl false 1 (List.map AV.str names_1), .sl false 2 (List.map e_Arr2_Int stacks_1), .ptr 0 0 0 0, .ptr 1 0 0 0, .ptr 2 0 0 0, .bool r_4.1, .bool r_4.2.2.1, .bool r_4.2.2.2, .int .i64 o_2.1, .int .i64 (-1 : Int)]) (bxs := [.live (.var 28 [.int .i64 (0 : Int), .int .i64 (0 : Int), .str ([] : List Int), .int .i64 (0 : Int), .int .i64 (0 : Int), .nilsl]), .live (.var 59 (v_T_record_input r_6.2)), .live (.var 28 [.int .i64 r_3.1, .int .i64 r_2.1, .str ([] : List Int), .int .i64 r_6.1, .int .i64 (0 : Int), .nilsl])]) (by kernel_rfl) hmix (ac (rfl : ([.ptr 1 0 0 0] : List AV) = [.ptr 1 0 0 0]) (ac (rfl : ([.live (.var 59 [.sl false 1 (List.map (AV.int .u8) o_2.2.1), .int .i64 o_2.2.2.1, .int .i64 o_2.2.2.2])] : List BoxSt) = [.live (.var 59 [.sl false 1 (List.map (AV.int .u8) o_2.2.1), .int .i64 o_2.2.2.1, .int .i64 o_2.2.2.2])]) (ac (record_input_num_ok F (⟨o_2.2.1, o_2.2.2.1, o_2.2.2.2⟩ : T_record_input) r_6 h_9 : TripleG prog 31 [(.var 59 [.sl false 1 (List.map (AV.int .u8) o_2.2.1), .int .i64 o_2.2.2.1, .int .i64 o_2.2.2.2])] [] [.ptr 0 0 0 0] [(.var 59 (v_T_record_input r_6.2))] (.int .i64 r_6.1)) an))) ?_
    replace h := Option.some.inj h; subst h
    exact ⟨rfl, (sub_wkm [0, 1, 2] [] [.s 0, .s 1, .s 6, .s 9, .s 11, .s 12, .s 14, .s 15, .s 16, .s 17] [.s 0, .s 1, .s 2] (by kernel_rfl) an)⟩
  refine aw_seq (by kernel_rfl) ?_
  refine aw_seq (by kernel_rfl) ?_
  refine aw_region [] [0, 1, 6, 9, 11, 12, 15, 16, 17, 63] [0, 1, 2] 3 (vals := [.sl false 1 (List.map AV.str names_1), .sl false 2 (List.map e_Arr2_Int stacks_1), .ptr 0 0 0 0, .ptr 1 0 0 0, .ptr 2 0 0 0, .bool r_4.1, .bool r_4.2.2.2, .int .i64 o_2.1, .int .i64 (-1 : Int), .bool r_4.2.2.1]) (bxs := [.live (.var 28 [.int .i64 (0 : Int), .int .i64 (0 : Int), .str ([] : List Int), .int .i64 (0 : Int), .int .i64 (0 : Int), .nilsl]), .live (.var 59 [.sl false 1 (List.map (AV.int .u8) o_3.1), .int .i64 o_3.2.1, .int .i64 o_3.2.2.1]), .live (.var 28 [.int .i64 r_3.1, .int .i64 r_2.1, .str ([] : List Int), .int .i64 o_3.2.2.2, .int .i64 (0 : Int), .nilsl])]) (by kernel_rfl) hmix an ?_
  obtain ⟨o_4, h_10, h⟩ := bind_some h
  refine aw_mid (mk [(0, .sl false 1 (List.map AV.str names_1)), (1, .sl false 2 (List.map e_Arr2_Int stacks_1)), (6, .ptr 0 0 0 0), (9, .ptr 1 0 0 0), (11, .ptr 2 0 0 0), (12, .bool r_4.1), (15, .bool r_4.2.2.2), (16, .int .i64 o_2.1), (17, .int .i64 (-1 : Int))] [(0, .live (.var 28 [.int .i64 (0 : Int), .int .i64 (0 : Int), .str ([] : List Int), .int .i64 (0 : Int), .int .i64 (0 : Int), .nilsl])), (1, .live (.var 59 [.sl false 1 (List.map (AV.int .u8) o_4.1), .int .i64 o_4.2.1, .int .i64 o_4.2.2.1])), (2, .live (.var 28 [.int .i64 r_3.1, .int .i64 r_2.1, .str ([] : List Int), .int .i64 o_3.2.2.2, .int .i64 o_4.2.2.2, .nilsl]))] 3) ?_ ?_
  · replace h := h_10
    refine aw_cond (t := 63) (b := r_4.2.2.1) (by kernel_rfl) (by kernel_rfl) ?_ ?_
    rotate_left
    · intro g_5; replace h := cond_f g_5 h
      refine aw_skip (by kernel_rfl) ?_
      replace h := Option.some.inj h; subst h
      exact ⟨rfl, (sub_wkm [0, 1, 2] [] [.s 0, .s 1, .s 6, .s 9, .s 11, .s 12, .s 15, .s 16, .s 17] [.s 0, .s 1, .s 2] (by kernel_rfl) an)⟩
    intro g_5; replace h := cond_t g_5 h
    obtain ⟨r_7, h_11, h⟩ := bind_some h
    refine aw_region [(1, { av := .int .i64 r_7.1, ids := [1], l := [.ptr 0 0 0 0], post := [(.var 59 (v_T_record_input r_7.2))], pre := [(.var 59 [.sl false 1 (List.map (AV.int .u8) o_3.1), .int .i64 o_3.2.1, .int .i64 o_3.2.2.1])] })] [0, 1, 6, 9, 11, 12, 15, 16, 17] [0, 1, 2] 3 (vals := [.sl false 1 (List.map AV.str names_1), .sl false 2 (List.map e_Arr2_Int stacks_1), .ptr 0 0 0 0, .ptr 1 0 0 0, .ptr 2 0 0 0, .bool r_4.1, .bool r_4.2.2.2, .int .i64 o_2.1, .int .i64 (-1 : Int)]) (bxs := [.live (.var 28 [.int .i64 (0 : Int), .int .i64 (0 : Int), .str ([] : List Int), .int .i64 (0 : Int), .int .i64 (0 : Int), .nilsl]), .live (.var 59 (v_T_record_input r_7.2)), .live (.var 28 [.int .i64 r_3.1, .int .i64 r_2.1, .str ([] : List Int), .int .i64 o_3.2.2.2, .int .i64 r_7.1, .nilsl])]) (by kernel_rfl) hmix (ac (rfl : ([.ptr 1 0 0 0] : List AV) = [.ptr 1 0 0 0]) (ac (rfl : ([.live (.var 59 [.sl false 1 (List.map (AV.int .u8) o_3.1), .int .i64 o_3.2.1, .int .i64 o_3.2.2.1])] : List BoxSt) = [.live (.var 59 [.sl false 1 (List.map (AV.int .u8) o_3.1), .int .i64 o_3.2.1, .int .i64 o_3.2.2.1])]) (ac (record_input_num_ok F (⟨o_3.1, o_3.2.1, o_3.2.2.1⟩ : T_record_input) r_7 h_11 : TripleG prog 31 [(.var 59 [.sl false 1 (List.map (AV.int .u8) o_3.1), .int .i64 o_3.2.1, .int .i64 o_3.2.2.1])] [] [.ptr 0 0 0 0] [(.var 59 (v_T_record_input r_7.2))] (.int .i64 r_7.1)) an))) ?_
    replace h := Option.some.inj h; subst h
    exact ⟨rfl, (sub_wkm [0, 1, 2] [] [.s 0, .s 1, .s 6, .s 9, .s 11, .s 12, .s 15, .s 16, .s 17] [.s 0, .s 1, .s 2] (by kernel_rfl) an)⟩
  refine aw_seq (by kernel_rfl) ?_
  refine aw_seq (by kernel_rfl) ?_
  refine aw_region [] [0, 1, 6, 9, 11, 12, 16, 17, 67] [0, 1, 2] 3 (vals := [.sl false 1 (List.map AV.str names_1), .sl false 2 (List.map e_Arr2_Int stacks_1), .ptr 0 0 0 0, .ptr 1 0 0 0, .ptr 2 0 0 0, .bool r_4.1, .int .i64 o_2.1, .int .i64 (-1 : Int), .bool r_4.2.2.2]) (bxs := [.live (.var 28 [.int .i64 (0 : Int), .int .i64 (0 : Int), .str ([] : List Int), .int .i64 (0 : Int), .int .i64 (0 : Int), .nilsl]), .live (.var 59 [.sl false 1 (List.map (AV.int .u8) o_4.1), .int .i64 o_4.2.1, .int .i64 o_4.2.2.1]), .live (.var 28 [.int .i64 r_3.1, .int .i64 r_2.1, .str ([] : List Int), .int .i64 o_3.2.2.2, .int .i64 o_4.2.2.2, .nilsl])]) (by kernel_rfl) hmix an ?_
  obtain ⟨o_5, h_12, h⟩ := bind_some h
  refine aw_mid (mk [(0, .sl false 1 (List.map AV.str names_1)), (1, .sl false 2 (List.map e_Arr2_Int stacks_1)), (6, .ptr 0 0 0 0), (9, .ptr 1 0 0 0), (11, .ptr 2 0 0 0), (12, .bool r_4.1), (16, .int .i64 o_2.1), (17, .int .i64 o_5.1)] [(0, .live (.var 28 [.int .i64 (0 : Int), .int .i64 (0 : Int), .str ([] : List Int), .int .i64 (0 : Int), .int .i64 (0 : Int), .nilsl])), (1, .live (.var 59 [.sl false 1 (List.map (AV.int .u8) o_5.2.1), .int .i64 o_5.2.2.1, .int .i64 o_5.2.2.2])), (2, .live (.var 28 [.int .i64 r_3.1, .int .i64 r_2.1, .str ([] : List Int), .int .i64 o_3.2.2.2, .int .i64 o_4.2.2.2, .nilsl]))] 3) ?_ ?_
  · replace h := h_12
    refine aw_cond (t := 67) (b := r_4.2.2.2) (by kernel_rfl) (by kernel_rfl) ?_ ?_
    rotate_left
    · intro g_6; replace h := cond_f g_6 h
      refine aw_skip (by kernel_rfl) ?_
      replace h := Option.some.inj h; subst h
      exact ⟨rfl, (sub_wkm [0, 1, 2] [] [.s 0, .s 1, .s 6, .s 9, .s 11, .s 12, .s 16, .s 17] [.s 0, .s 1, .s 2] (by kernel_rfl) an)⟩
    intro g_6; replace h := cond_t g_6 h
    obtain ⟨r_8, h_13, h⟩ := bind_some h
    refine aw_region [(1, { av := .int .i64 r_8.1, ids := [1], l := [.ptr 0 0 0 0], post := [(.var 59 (v_T_record_input r_8.2))], pre := [(.var 59 [.sl false 1 (List.map (AV.int .u8) o_4.1), .int .i64 o_4.2.1, .int .i64 o_4.2.2.1])] })] [0, 1, 6, 9, 11, 12, 16, 17] [0, 1, 2] 3 (vals := [.sl false 1 (List.map AV.str names_1), .sl false 2 (List.map e_Arr2_Int stacks_1), .ptr 0 0 0 0, .ptr 1 0 0 0, .ptr 2 0 0 0, .bool r_4.1, .int .i64 o_2.1, .int .i64 r_8.1]) (bxs := [.live (.var 28 [.int .i64 (0 : Int), .int .i64 (0 : Int), .str ([] : List Int), .int .i64 (0 : Int), .int .i64 (0 : Int), .nilsl]), .live (.var 59 (v_T_record_input r_8.2)), .live (.var 28 [.int .i64 r_3.1, .int .i64 r_2.1, .str ([] : List Int), .int .i64 o_3.2.2.2, .int .i64 o_4.2.2.2, .nilsl])]) (by kernel_rfl) hmix (ac (rfl : ([.ptr 1 0 0 0] : List AV) = [.ptr 1 0 0 0]) (ac (rfl : ([.live (.var 59 [.sl false 1 (List.map (AV.int .u8) o_4.1), .int .i64 o_4.2.1, .int .i64 o_4.2.2.1])] : List BoxSt) = [.live (.var 59 [.sl false 1 (List.map (AV.int .u8) o_4.1), .int .i64 o_4.2.1, .int .i64 o_4.2.2.1])]) (ac (record_input_num_ok F (⟨o_4.1, o_4.2.1, o_4.2.2.1⟩ : T_record_input) r_8 h_13 : TripleG prog 31 [(.var 59 [.sl false 1 (List.map (AV.int .u8) o_4.1), .int .i64 o_4.2.1, .int .i64 o_4.2.2.1])] [] [.ptr 0 0 0 0] [(.var 59 (v_T_record_input r_8.2))] (.int .i64 r_8.1)) an))) ?_
    replace h := Option.some.inj h; subst h
    exact ⟨rfl, (sub_wkm [0, 1, 2] [] [.s 0, .s 1, .s 6, .s 9, .s 11, .s 12, .s 16, .s 17] [.s 0, .s 1, .s 2] (by kernel_rfl) an)⟩
  refine aw_seq (by kernel_rfl) ?_
  obtain ⟨o_6, h_14, h⟩ := bind_some h
  refine aw_conv (K1 := (fun e st' => match o_6 with | (.inl q0) => e = .normal ∧ Sub 0 st' (mk [(0, .sl false 1 (List.map AV.str names_1)), (1, .sl false 2 (List.map e_Arr2_Int stacks_1)), (6, .ptr 0 0 0 0), (9, .ptr 1 0 0 0), (11, .ptr 2 0 0 0), (12, .bool r_4.1), (16, .int .i64 o_2.1), (17, .int .i64 o_5.1)] [(0, .live (.var 28 [.int .i64 (0 : Int), .int .i64 (0 : Int), .str ([] : List Int), .int .i64 (0 : Int), .int .i64 (0 : Int), .nilsl])), (1, .live (.var 59 [.sl false 1 (List.map (AV.int .u8) o_5.2.1), .int .i64 o_5.2.2.1, .int .i64 o_5.2.2.2])), (2, .live (.var 28 [.int .i64 r_3.1, .int .i64 r_2.1, .str ([] : List Int), .int .i64 o_3.2.2.2, .int .i64 o_4.2.2.2, .nilsl]))] 3) | (.inr q1) => e = .ret ∧ FinR prog Go.Proofs.Try.f15 0 [] (.tuple [e_T_api_Event q1.1, .int .i64 q1.2.1, .int .i64 q1.2.2]) st')) ?_ ?_
  · replace h := h_14
    refine aw_block (id := 0) (by kernel_rfl) ?_
    refine aw_seq (by kernel_rfl) ?_
    refine aw_region [] [0, 1, 6, 9, 11, 12, 16, 17, 70] [0, 1, 2] 3 (vals := [.sl false 1 (List.map AV.str names_1), .sl false 2 (List.map e_Arr2_Int stacks_1), .ptr 0 0 0 0, .ptr 1 0 0 0, .ptr 2 0 0 0, .bool r_4.1, .int .i64 o_2.1, .int .i64 o_5.1, .bool (o_5.2.2.2 != (0 : Int))]) (bxs := [.live (.var 28 [.int .i64 (0 : Int), .int .i64 (0 : Int), .str ([] : List Int), .int .i64 (0 : Int), .int .i64 (0 : Int), .nilsl]), .live (.var 59 [.sl false 1 (List.map (AV.int .u8) o_5.2.1), .int .i64 o_5.2.2.1, .int .i64 o_5.2.2.2]), .live (.var 28 [.int .i64 r_3.1, .int .i64 r_2.1, .str ([] : List Int), .int .i64 o_3.2.2.2, .int .i64 o_4.2.2.2, .nilsl])]) (by kernel_rfl) hmix an ?_
    refine aw_cond (t := 70) (b := (o_5.2.2.2 != (0 : Int))) (by kernel_rfl) (by kernel_rfl) ?_ ?_
    · intro g_7; replace h := cond_t g_7 h
      refine aw_seq (by kernel_rfl) ?_
      refine aw_region [] [6, 7, 8] [0] 3 (vals := [.ptr 0 0 0 0, .int .i64 (0 : Int), .int .i64 o_5.2.2.2]) (bxs := [.live (.var 28 [.int .i64 (0 : Int), .int .i64 (0 : Int), .str ([] : List Int), .int .i64 (0 : Int), .int .i64 (0 : Int), .nilsl])]) (by kernel_rfl) hmix an ?_
      refine aw_sub (sub_wkm [0] [] [.s 6, .s 7, .s 8] [.a 0 (.live (.var 28 (v_T_api_Event (⟨(0 : Int), (0 : Int), ([] : List Int), (0 : Int), (0 : Int), []⟩ : T_api_Event))))] (sl2 := [(6, .ptr 0 0 0 0), (7, .int .i64 (0 : Int)), (8, .int .i64 o_5.2.2.2)]) (bx2 := [(0, .live (.var 28 (v_T_api_Event (⟨(0 : Int), (0 : Int), ([] : List Int), (0 : Int), (0 : Int), []⟩ : T_api_Event))))]) (by kernel_rfl) (ac (rfl : 28 = 28) (ac (rfl : ones [.int .i64 ((⟨(0 : Int), (0 : Int), ([] : List Int), (0 : Int), (0 : Int), []⟩ : T_api_Event).At), .int .i64 ((⟨(0 : Int), (0 : Int), ([] : List Int), (0 : Int), (0 : Int), []⟩ : T_api_Event).Kind), .str ((⟨(0 : Int), (0 : Int), ([] : List Int), (0 : Int), (0 : Int), []⟩ : T_api_Event).Name), .int .i64 ((⟨(0 : Int), (0 : Int), ([] : List Int), (0 : Int), (0 : Int), []⟩ : T_api_Event).N), .int .i64 ((⟨(0 : Int), (0 : Int), ([] : List Int), (0 : Int), (0 : Int), []⟩ : T_api_Event).M), .sl false 1 (List.map AV.str ((⟨(0 : Int), (0 : Int), ([] : List Int), (0 : Int), (0 : Int), []⟩ : T_api_Event).Stack))] = true) (ac (rfl : (.int .i64 (0 : Int) : AV) = .int .i64 ((⟨(0 : Int), (0 : Int), ([] : List Int), (0 : Int), (0 : Int), []⟩ : T_api_Event).At)) (ac (rfl : (.int .i64 (0 : Int) : AV) = .int .i64 ((⟨(0 : Int), (0 : Int), ([] : List Int), (0 : Int), (0 : Int), []⟩ : T_api_Event).Kind)) (ac (rfl : (.str ([] : List Int) : AV) = .str ((⟨(0 : Int), (0 : Int), ([] : List Int), (0 : Int), (0 : Int), []⟩ : T_api_Event).Name)) (ac (rfl : (.int .i64 (0 : Int) : AV) = .int .i64 ((⟨(0 : Int), (0 : Int), ([] : List Int), (0 : Int), (0 : Int), []⟩ : T_api_Event).N)) (ac (rfl : (.int .i64 (0 : Int) : AV) = .int .i64 ((⟨(0 : Int), (0 : Int), ([] : List Int), (0 : Int), (0 : Int), []⟩ : T_api_Event).M)) (ac (rfl : ((List.map AV.str ((⟨(0 : Int), (0 : Int), ([] : List Int), (0 : Int), (0 : Int), []⟩ : T_api_Event).Stack)) : List AV) = []) an))))))))) ?_
      refine aw_ret (by kernel_rfl) ?_
      replace h := Option.some.inj h; subst h
      exact ⟨rfl, Nat.le_of_ble_eq_true rfl, by kernel_rfl⟩
    intro g_7; replace h := cond_f g_7 h
    refine aw_seq (by kernel_rfl) ?_
    refine aw_seq (by kernel_rfl) ?_
    refine aw_mid (mk [(0, .sl false 1 (List.map AV.str names_1)), (1, .sl false 2 (List.map e_Arr2_Int stacks_1)), (6, .ptr 0 0 0 0), (9, .ptr 1 0 0 0), (11, .ptr 2 0 0 0), (12, .bool r_4.1), (16, .int .i64 o_2.1), (17, .int .i64 o_5.1), (81, .bool (r_4.1 && (decide (o_2.1 < (0 : Int)) || decide (o_2.1 ≥ (((names_1).length : Nat) : Int)))))] [(0, .live (.var 28 [.int .i64 (0 : Int), .int .i64 (0 : Int), .str ([] : List Int), .int .i64 (0 : Int), .int .i64 (0 : Int), .nilsl])), (1, .live (.var 59 [.sl false 1 (List.map (AV.int .u8) o_5.2.1), .int .i64 o_5.2.2.1, .int .i64 o_5.2.2.2])), (2, .live (.var 28 [.int .i64 r_3.1, .int .i64 r_2.1, .str ([] : List Int), .int .i64 o_3.2.2.2, .int .i64 o_4.2.2.2, .nilsl]))] 3) ?_ ?_
    · rcases Bool.eq_false_or_eq_true r_4.1 with gg_6 | gg_6
      · rcases Bool.eq_false_or_eq_true (decide (o_2.1 < (0 : Int))) with gg_7 | gg_7
        · refine aw_region [(5, { g := false }), (6, { g := false }), (7, { g := false }), (8, { g := false }), (9, { b := true }), (10, { b := true })] [0, 1, 6, 9, 11, 12, 16, 17, 81] [0, 1, 2] 3 (vals := [.sl false 1 (List.map AV.str names_1), .sl false 2 (List.map e_Arr2_Int stacks_1), .ptr 0 0 0 0, .ptr 1 0 0 0, .ptr 2 0 0 0, .bool r_4.1, .int .i64 o_2.1, .int .i64 o_5.1, .bool true]) (bxs := [.live (.var 28 [.int .i64 (0 : Int), .int .i64 (0 : Int), .str ([] : List Int), .int .i64 (0 : Int), .int .i64 (0 : Int), .nilsl]), .live (.var 59 [.sl false 1 (List.map (AV.int .u8) o_5.2.1), .int .i64 o_5.2.2.1, .int .i64 o_5.2.2.2]), .live (.var 28 [.int .i64 r_3.1, .int .i64 r_2.1, .str ([] : List Int), .int .i64 o_3.2.2.2, .int .i64 o_4.2.2.2, .nilsl])]) (by kernel_rfl) hmix (ac gg_6 (ac gg_6 (ac gg_6 (ac gg_7 (ac gg_7 (ac gg_7 (ac gg_7 (ac gg_6 (ac gg_7 (ac gg_6 an)))))))))) ?_
          exact ⟨rfl, (sub_wkm [0, 1, 2] [] [.s 0, .s 1, .s 6, .s 9, .s 11, .s 12, .s 16, .s 17, .a 81 (.bool (r_4.1 && (decide (o_2.1 < (0 : Int)) || decide (o_2.1 ≥ (((names_1).length : Nat) : Int)))))] [.s 0, .s 1, .s 2] (by kernel_rfl) (ac (congrArg AV.bool (andt gg_6 (ort gg_7)) : (.bool true : AV) = .bool (r_4.1 && (decide (o_2.1 < (0 : Int)) || decide (o_2.1 ≥ (((names_1).length : Nat) : Int))))) an))⟩
        · refine aw_region [(7, { n := (names_1).length }), (9, { b := false }), (10, { b := true })] [0, 1, 6, 9, 11, 12, 16, 17, 81] [0, 1, 2] 3 (vals := [.sl false 1 (List.map AV.str names_1), .sl false 2 (List.map e_Arr2_Int stacks_1), .ptr 0 0 0 0, .ptr 1 0 0 0, .ptr 2 0 0 0, .bool r_4.1, .int .i64 o_2.1, .int .i64 o_5.1, .bool (decide (o_2.1 ≥ (((names_1).length : Nat) : Int)))]) (bxs := [.live (.var 28 [.int .i64 (0 : Int), .int .i64 (0 : Int), .str ([] : List Int), .int .i64 (0 : Int), .int .i64 (0 : Int), .nilsl]), .live (.var 59 [.sl false 1 (List.map (AV.int .u8) o_5.2.1), .int .i64 o_5.2.2.1, .int .i64 o_5.2.2.2]), .live (.var 28 [.int .i64 r_3.1, .int .i64 r_2.1, .str ([] : List Int), .int .i64 o_3.2.2.2, .int .i64 o_4.2.2.2, .nilsl])]) (by kernel_rfl) hmix (ac gg_6 (ac gg_6 (ac gg_6 (ac gg_7 (ac gg_7 (ac gg_7 (ac (vc_len _ : ((List.map AV.str names_1)).length = (names_1).length) (ac gg_7 (ac gg_6 (ac gg_7 (ac gg_6 an))))))))))) ?_
          exact ⟨rfl, (sub_wkm [0, 1, 2] [] [.s 0, .s 1, .s 6, .s 9, .s 11, .s 12, .s 16, .s 17, .a 81 (.bool (r_4.1 && (decide (o_2.1 < (0 : Int)) || decide (o_2.1 ≥ (((names_1).length : Nat) : Int)))))] [.s 0, .s 1, .s 2] (by kernel_rfl) (ac (congrArg AV.bool (andt gg_6 (orf gg_7 rfl)) : (.bool (decide (o_2.1 ≥ (((names_1).length : Nat) : Int))) : AV) = .bool (r_4.1 && (decide (o_2.1 < (0 : Int)) || decide (o_2.1 ≥ (((names_1).length : Nat) : Int))))) an))⟩
      · refine aw_region [(2, { g := false }), (3, { g := false }), (4, { g := false }), (9, { g := false }), (10, { b := false })] [0, 1, 6, 9, 11, 12, 16, 17, 81] [0, 1, 2] 3 (vals := [.sl false 1 (List.map AV.str names_1), .sl false 2 (List.map e_Arr2_Int stacks_1), .ptr 0 0 0 0, .ptr 1 0 0 0, .ptr 2 0 0 0, .bool r_4.1, .int .i64 o_2.1, .int .i64 o_5.1, .bool false]) (bxs := [.live (.var 28 [.int .i64 (0 : Int), .int .i64 (0 : Int), .str ([] : List Int), .int .i64 (0 : Int), .int .i64 (0 : Int), .nilsl]), .live (.var 59 [.sl false 1 (List.map (AV.int .u8) o_5.2.1), .int .i64 o_5.2.2.1, .int .i64 o_5.2.2.2]), .live (.var 28 [.int .i64 r_3.1, .int .i64 r_2.1, .str ([] : List Int), .int .i64 o_3.2.2.2, .int .i64 o_4.2.2.2, .nilsl])]) (by kernel_rfl) hmix (ac gg_6 (ac gg_6 (ac gg_6 (ac gg_6 (ac gg_6 an))))) ?_
        exact ⟨rfl, (sub_wkm [0, 1, 2] [] [.s 0, .s 1, .s 6, .s 9, .s 11, .s 12, .s 16, .s 17, .a 81 (.bool (r_4.1 && (decide (o_2.1 < (0 : Int)) || decide (o_2.1 ≥ (((names_1).length : Nat) : Int)))))] [.s 0, .s 1, .s 2] (by kernel_rfl) (ac (congrArg AV.bool (andf gg_6) : (.bool false : AV) = .bool (r_4.1 && (decide (o_2.1 < (0 : Int)) || decide (o_2.1 ≥ (((names_1).length : Nat) : Int))))) an))⟩
    refine aw_cond (t := 81) (b := (r_4.1 && (decide (o_2.1 < (0 : Int)) || decide (o_2.1 ≥ (((names_1).length : Nat) : Int))))) (by kernel_rfl) (by kernel_rfl) ?_ ?_
    · intro g_8; replace h := cond_t g_8 h
      refine aw_skip (by kernel_rfl) ?_
      refine aw_cond (t := 81) (b := (r_4.1 && (decide (o_2.1 < (0 : Int)) || decide (o_2.1 ≥ (((names_1).length : Nat) : Int))))) (by kernel_rfl) (by kernel_rfl) ?_ ?_
      rotate_left
      · intro hg; exact Bool.noConfusion ((g_8).symm.trans hg)
      intro _
      refine aw_seq (by kernel_rfl) ?_
      refine aw_region [] [6, 7, 8] [0] 3 (vals := [.ptr 0 0 0 0, .int .i64 (0 : Int), .int .i64 (2 : Int)]) (bxs := [.live (.var 28 [.int .i64 (0 : Int), .int .i64 (0 : Int), .str ([] : List Int), .int .i64 (0 : Int), .int .i64 (0 : Int), .nilsl])]) (by kernel_rfl) hmix an ?_
      refine aw_sub (sub_wkm [0] [] [.s 6, .s 7, .s 8] [.a 0 (.live (.var 28 (v_T_api_Event (⟨(0 : Int), (0 : Int), ([] : List Int), (0 : Int), (0 : Int), []⟩ : T_api_Event))))] (sl2 := [(6, .ptr 0 0 0 0), (7, .int .i64 (0 : Int)), (8, .int .i64 (2 : Int))]) (bx2 := [(0, .live (.var 28 (v_T_api_Event (⟨(0 : Int), (0 : Int), ([] : List Int), (0 : Int), (0 : Int), []⟩ : T_api_Event))))]) (by kernel_rfl) (ac (rfl : 28 = 28) (ac (rfl : ones [.int .i64 ((⟨(0 : Int), (0 : Int), ([] : List Int), (0 : Int), (0 : Int), []⟩ : T_api_Event).At), .int .i64 ((⟨(0 : Int), (0 : Int), ([] : List Int), (0 : Int), (0 : Int), []⟩ : T_api_Event).Kind), .str ((⟨(0 : Int), (0 : Int), ([] : List Int), (0 : Int), (0 : Int), []⟩ : T_api_Event).Name), .int .i64 ((⟨(0 : Int), (0 : Int), ([] : List Int), (0 : Int), (0 : Int), []⟩ : T_api_Event).N), .int .i64 ((⟨(0 : Int), (0 : Int), ([] : List Int), (0 : Int), (0 : Int), []⟩ : T_api_Event).M), .sl false 1 (List.map AV.str ((⟨(0 : Int), (0 : Int), ([] : List Int), (0 : Int), (0 : Int), []⟩ : T_api_Event).Stack))] = true) (ac (rfl : (.int .i64 (0 : Int) : AV) = .int .i64 ((⟨(0 : Int), (0 : Int), ([] : List Int), (0 : Int), (0 : Int), []⟩ : T_api_Event).At)) (ac (rfl : (.int .i64 (0 : Int) : AV) = .int .i64 ((⟨(0 : Int), (0 : Int), ([] : List Int), (0 : Int), (0 : Int), []⟩ : T_api_Event).Kind)) (ac (rfl : (.str ([] : List Int) : AV) = .str ((⟨(0 : Int), (0 : Int), ([] : List Int), (0 : Int), (0 : Int), []⟩ : T_api_Event).Name)) (ac (rfl : (.int .i64 (0 : Int) : AV) = .int .i64 ((⟨(0 : Int), (0 : Int), ([] : List Int), (0 : Int), (0 : Int), []⟩ : T_api_Event).N)) (ac (rfl : (.int .i64 (0 : Int) : AV) = .int .i64 ((⟨(0 : Int), (0 : Int), ([] : List Int), (0 : Int), (0 : Int), []⟩ : T_api_Event).M)) (ac (rfl : ((List.map AV.str ((⟨(0 : Int), (0 : Int), ([] : List Int), (0 : Int), (0 : Int), []⟩ : T_api_Event).Stack)) : List AV) = []) an))))))))) ?_
      refine aw_ret (by kernel_rfl) ?_
      replace h := Option.some.inj h; subst h
      exact ⟨rfl, Nat.le_of_ble_eq_true rfl, by kernel_rfl⟩
    intro g_8; replace h := cond_f g_8 h
    refine aw_mid (mk [(0, .sl false 1 (List.map AV.str names_1)), (1, .sl false 2 (List.map e_Arr2_Int stacks_1)), (6, .ptr 0 0 0 0), (9, .ptr 1 0 0 0), (11, .ptr 2 0 0 0), (12, .bool r_4.1), (16, .int .i64 o_2.1), (17, .int .i64 o_5.1), (81, .bool (decide (o_5.1 < (-1 : Int)) || decide (o_5.1 ≥ (((stacks_1).length : Nat) : Int))))] [(0, .live (.var 28 [.int .i64 (0 : Int), .int .i64 (0 : Int), .str ([] : List Int), .int .i64 (0 : Int), .int .i64 (0 : Int), .nilsl])), (1, .live (.var 59 [.sl false 1 (List.map (AV.int .u8) o_5.2.1), .int .i64 o_5.2.2.1, .int .i64 o_5.2.2.2])), (2, .live (.var 28 [.int .i64 r_3.1, .int .i64 r_2.1, .str ([] : List Int), .int .i64 o_3.2.2.2, .int .i64 o_4.2.2.2, .nilsl]))] 3) ?_ ?_
    · rcases Bool.eq_false_or_eq_true (decide (o_5.1 < (-1 : Int))) with gg_8 | gg_8
      · refine aw_region [(3, { g := false }), (4, { g := false }), (5, { g := false }), (6, { g := false }), (7, { b := true })] [0, 1, 6, 9, 11, 12, 16, 17, 81] [0, 1, 2] 3 (vals := [.sl false 1 (List.map AV.str names_1), .sl false 2 (List.map e_Arr2_Int stacks_1), .ptr 0 0 0 0, .ptr 1 0 0 0, .ptr 2 0 0 0, .bool r_4.1, .int .i64 o_2.1, .int .i64 o_5.1, .bool true]) (bxs := [.live (.var 28 [.int .i64 (0 : Int), .int .i64 (0 : Int), .str ([] : List Int), .int .i64 (0 : Int), .int .i64 (0 : Int), .nilsl]), .live (.var 59 [.sl false 1 (List.map (AV.int .u8) o_5.2.1), .int .i64 o_5.2.2.1, .int .i64 o_5.2.2.2]), .live (.var 28 [.int .i64 r_3.1, .int .i64 r_2.1, .str ([] : List Int), .int .i64 o_3.2.2.2, .int .i64 o_4.2.2.2, .nilsl])]) (by kernel_rfl) hmix (ac gg_8 (ac gg_8 (ac gg_8 (ac gg_8 (ac gg_8 an))))) ?_
        exact ⟨rfl, (sub_wkm [0, 1, 2] [] [.s 0, .s 1, .s 6, .s 9, .s 11, .s 12, .s 16, .s 17, .a 81 (.bool (decide (o_5.1 < (-1 : Int)) || decide (o_5.1 ≥ (((stacks_1).length : Nat) : Int))))] [.s 0, .s 1, .s 2] (by kernel_rfl) (ac (congrArg AV.bool (ort gg_8) : (.bool true : AV) = .bool (decide (o_5.1 < (-1 : Int)) || decide (o_5.1 ≥ (((stacks_1).length : Nat) : Int)))) an))⟩
      · refine aw_region [(5, { n := (stacks_1).length }), (7, { b := false })] [0, 1, 6, 9, 11, 12, 16, 17, 81] [0, 1, 2] 3 (vals := [.sl false 1 (List.map AV.str names_1), .sl false 2 (List.map e_Arr2_Int stacks_1), .ptr 0 0 0 0, .ptr 1 0 0 0, .ptr 2 0 0 0, .bool r_4.1, .int .i64 o_2.1, .int .i64 o_5.1, .bool (decide (o_5.1 ≥ (((stacks_1).length : Nat) : Int)))]) (bxs := [.live (.var 28 [.int .i64 (0 : Int), .int .i64 (0 : Int), .str ([] : List Int), .int .i64 (0 : Int), .int .i64 (0 : Int), .nilsl]), .live (.var 59 [.sl false 1 (List.map (AV.int .u8) o_5.2.1), .int .i64 o_5.2.2.1, .int .i64 o_5.2.2.2]), .live (.var 28 [.int .i64 r_3.1, .int .i64 r_2.1, .str ([] : List Int), .int .i64 o_3.2.2.2, .int .i64 o_4.2.2.2, .nilsl])]) (by kernel_rfl) hmix (ac gg_8 (ac gg_8 (ac gg_8 (ac (vc_len _ : ((List.map e_Arr2_Int stacks_1)).length = (stacks_1).length) (ac gg_8 (ac gg_8 an)))))) ?_
        exact ⟨rfl, (sub_wkm [0, 1, 2] [] [.s 0, .s 1, .s 6, .s 9, .s 11, .s 12, .s 16, .s 17, .a 81 (.bool (decide (o_5.1 < (-1 : Int)) || decide (o_5.1 ≥ (((stacks_1).length : Nat) : Int))))] [.s 0, .s 1, .s 2] (by kernel_rfl) (ac (congrArg AV.bool (orf gg_8 rfl) : (.bool (decide (o_5.1 ≥ (((stacks_1).length : Nat) : Int))) : AV) = .bool (decide (o_5.1 < (-1 : Int)) || decide (o_5.1 ≥ (((stacks_1).length : Nat) : Int)))) an))⟩
    refine aw_cond (t := 81) (b := (decide (o_5.1 < (-1 : Int)) || decide (o_5.1 ≥ (((stacks_1).length : Nat) : Int)))) (by kernel_rfl) (by kernel_rfl) ?_ ?_
    rotate_left
    · intro g_9; replace h := cond_f g_9 h
      refine aw_skip (by kernel_rfl) ?_
      replace h := Option.some.inj h; subst h
      exact ⟨rfl, (sub_wkm [0, 1, 2] [] [.s 0, .s 1, .s 6, .s 9, .s 11, .s 12, .s 16, .s 17] [.s 0, .s 1, .s 2] (by kernel_rfl) an)⟩
    intro g_9; replace h := cond_t g_9 h
    refine aw_seq (by kernel_rfl) ?_
    refine aw_region [] [6, 7, 8] [0] 3 (vals := [.ptr 0 0 0 0, .int .i64 (0 : Int), .int .i64 (2 : Int)]) (bxs := [.live (.var 28 [.int .i64 (0 : Int), .int .i64 (0 : Int), .str ([] : List Int), .int .i64 (0 : Int), .int .i64 (0 : Int), .nilsl])]) (by kernel_rfl) hmix an ?_
    refine aw_sub (sub_wkm [0] [] [.s 6, .s 7, .s 8] [.a 0 (.live (.var 28 (v_T_api_Event (⟨(0 : Int), (0 : Int), ([] : List Int), (0 : Int), (0 : Int), []⟩ : T_api_Event))))] (sl2 := [(6, .ptr 0 0 0 0), (7, .int .i64 (0 : Int)), (8, .int .i64 (2 : Int))]) (bx2 := [(0, .live (.var 28 (v_T_api_Event (⟨(0 : Int), (0 : Int), ([] : List Int), (0 : Int), (0 : Int), []⟩ : T_api_Event))))]) (by kernel_rfl) (ac (rfl : 28 = 28) (ac (rfl : ones [.int .i64 ((⟨(0 : Int), (0 : Int), ([] : List Int), (0 : Int), (0 : Int), []⟩ : T_api_Event).At), .int .i64 ((⟨(0 : Int), (0 : Int), ([] : List Int), (0 : Int), (0 : Int), []⟩ : T_api_Event).Kind), .str ((⟨(0 : Int), (0 : Int), ([] : List Int), (0 : Int), (0 : Int), []⟩ : T_api_Event).Name), .int .i64 ((⟨(0 : Int), (0 : Int), ([] : List Int), (0 : Int), (0 : Int), []⟩ : T_api_Event).N), .int .i64 ((⟨(0 : Int), (0 : Int), ([] : List Int), (0 : Int), (0 : Int), []⟩ : T_api_Event).M), .sl false 1 (List.map AV.str ((⟨(0 : Int), (0 : Int), ([] : List Int), (0 : Int), (0 : Int), []⟩ : T_api_Event).Stack))] = true) (ac (rfl : (.int .i64 (0 : Int) : AV) = .int .i64 ((⟨(0 : Int), (0 : Int), ([] : List Int), (0 : Int), (0 : Int), []⟩ : T_api_Event).At)) (ac (rfl : (.int .i64 (0 : Int) : AV) = .int .i64 ((⟨(0 : Int), (0 : Int), ([] : List Int), (0 : Int), (0 : Int), []⟩ : T_api_Event).Kind)) (ac (rfl : (.str ([] : List Int) : AV) = .str ((⟨(0 : Int), (0 : Int), ([] : List Int), (0 : Int), (0 : Int), []⟩ : T_api_Event).Name)) (ac (rfl : (.int .i64 (0 : Int) : AV) = .int .i64 ((⟨(0 : Int), (0 : Int), ([] : List Int), (0 : Int), (0 : Int), []⟩ : T_api_Event).N)) (ac (rfl : (.int .i64 (0 : Int) : AV) = .int .i64 ((⟨(0 : Int), (0 : Int), ([] : List Int), (0 : Int), (0 : Int), []⟩ : T_api_Event).M)) (ac (rfl : ((List.map AV.str ((⟨(0 : Int), (0 : Int), ([] : List Int), (0 : Int), (0 : Int), []⟩ : T_api_Event).Stack)) : List AV) = []) an))))))))) ?_
    refine aw_ret (by kernel_rfl) ?_
    replace h := Option.some.inj h; subst h
    exact ⟨rfl, Nat.le_of_ble_eq_true rfl, by kernel_rfl⟩
  intro e st1 hk
  rcases o_6 with q_1 | q_2
  rotate_left
  · obtain ⟨rfl, hf⟩ := hk
    replace h := Option.some.inj h; subst h
    exact ⟨st1, Sub.refl _ _, .inr rfl, hf⟩
  obtain ⟨rfl, hs⟩ := hk
  refine ⟨_, hs, ?_⟩
  refine aw_seq (by kernel_rfl) ?_
  refine aw_seq (by kernel_rfl) ?_
  refine aw_region [] [0, 1, 6, 9, 11, 16, 17, 102] [0, 1, 2] 3 (vals := [.sl false 1 (List.map AV.str names_1), .sl false 2 (List.map e_Arr2_Int stacks_1), .ptr 0 0 0 0, .ptr 1 0 0 0, .ptr 2 0 0 0, .int .i64 o_2.1, .int .i64 o_5.1, .bool r_4.1]) (bxs := [.live (.var 28 [.int .i64 (0 : Int), .int .i64 (0 : Int), .str ([] : List Int), .int .i64 (0 : Int), .int .i64 (0 : Int), .nilsl]), .live (.var 59 [.sl false 1 (List.map (AV.int .u8) o_5.2.1), .int .i64 o_5.2.2.1, .int .i64 o_5.2.2.2]), .live (.var 28 [.int .i64 r_3.1, .int .i64 r_2.1, .str ([] : List Int), .int .i64 o_3.2.2.2, .int .i64 o_4.2.2.2, .nilsl])]) (by kernel_rfl) hmix an ?_
  obtain ⟨o_7, h_15, h⟩ := bind_some h
  refine aw_mid (mk [(0, .sl false 1 (List.map AV.str names_1)), (1, .sl false 2 (List.map e_Arr2_Int stacks_1)), (6, .ptr 0 0 0 0), (9, .ptr 1 0 0 0), (11, .ptr 2 0 0 0), (17, .int .i64 o_5.1)] [(0, .live (.var 28 [.int .i64 (0 : Int), .int .i64 (0 : Int), .str ([] : List Int), .int .i64 (0 : Int), .int .i64 (0 : Int), .nilsl])), (1, .live (.var 59 [.sl false 1 (List.map (AV.int .u8) o_5.2.1), .int .i64 o_5.2.2.1, .int .i64 o_5.2.2.2])), (2, .live (.var 28 [.int .i64 r_3.1, .int .i64 r_2.1, .str o_7, .int .i64 o_3.2.2.2, .int .i64 o_4.2.2.2, .nilsl]))] 3) ?_ ?_
  · replace h := h_15
    refine aw_cond (t := 102) (b := r_4.1) (by kernel_rfl) (by kernel_rfl) ?_ ?_
    rotate_left
    · intro g_10; replace h := cond_f g_10 h
      refine aw_skip (by kernel_rfl) ?_
      replace h := Option.some.inj h; subst h
      exact ⟨rfl, (sub_wkm [0, 1, 2] [] [.s 0, .s 1, .s 6, .s 9, .s 11, .s 17] [.s 0, .s 1, .s 2] (by kernel_rfl) an)⟩
    intro g_10; replace h := cond_t g_10 h
    obtain ⟨x_1, h_16, h⟩ := bind_some h
    refine aw_region [(2, { av := .str x_1 })] [0, 1, 6, 9, 11, 17] [0, 1, 2] 3 (vals := [.sl false 1 (List.map AV.str names_1), .sl false 2 (List.map e_Arr2_Int stacks_1), .ptr 0 0 0 0, .ptr 1 0 0 0, .ptr 2 0 0 0, .int .i64 o_5.1]) (bxs := [.live (.var 28 [.int .i64 (0 : Int), .int .i64 (0 : Int), .str ([] : List Int), .int .i64 (0 : Int), .int .i64 (0 : Int), .nilsl]), .live (.var 59 [.sl false 1 (List.map (AV.int .u8) o_5.2.1), .int .i64 o_5.2.2.1, .int .i64 o_5.2.2.2]), .live (.var 28 [.int .i64 r_3.1, .int .i64 r_2.1, .str x_1, .int .i64 o_3.2.2.2, .int .i64 o_4.2.2.2, .nilsl])]) (by kernel_rfl) hmix (ac (vc_idx h_16 : idxA (List.map AV.str names_1) o_2.1 = some (.str x_1)) an) ?_
    replace h := Option.some.inj h; subst h
    exact ⟨rfl, (sub_wkm [0, 1, 2] [] [.s 0, .s 1, .s 6, .s 9, .s 11, .s 17] [.s 0, .s 1, .s 2] (by kernel_rfl) an)⟩
  refine aw_seq (by kernel_rfl) ?_
  obtain ⟨r_9, h_17, h⟩ := bind_some h
  refine aw_region [(3, { av := .tuple [.own 0 ((r_9.1).length), .int .i64 r_9.2], ids := [3], l := [.sl false 1 (List.map AV.str names_1), .sl false 2 (List.map e_Arr2_Int stacks_1), .int .i64 o_5.1], post := [(.row 9 1 (List.map AV.str r_9.1))] })] [6, 9, 11] [0, 1, 2, 3] 4 (vals := [.ptr 0 0 0 0, .ptr 1 0 0 0, .ptr 2 0 0 0]) (bxs := [.live (.var 28 [.int .i64 (0 : Int), .int .i64 (0 : Int), .str ([] : List Int), .int .i64 (0 : Int), .int .i64 (0 : Int), .nilsl]), .live (.var 59 [.sl false 1 (List.map (AV.int .u8) o_5.2.1), .int .i64 o_5.2.2.1, .int .i64 o_5.2.2.2]), .live (.var 28 [.int .i64 r_3.1, .int .i64 r_2.1, .str o_7, .int .i64 o_3.2.2.2, .int .i64 o_4.2.2.2, .own 3 ((r_9.1).length)]), .live (.row 9 1 (List.map AV.str r_9.1))]) (by kernel_rfl) hmix (ac (rfl : ([.sl false 1 (List.map AV.str names_1), .sl false 2 (List.map e_Arr2_Int stacks_1), .int .i64 o_5.1] : List AV) = [.sl false 1 (List.map AV.str names_1), .sl false 2 (List.map e_Arr2_Int stacks_1), .int .i64 o_5.1]) (ac (rfl : ([] : List BoxSt) = []) (ac (intern_Stack_ok F names_1 stacks_1 o_5.1 r_9 h_17 : TripleG prog 32 [] [] [.sl false 1 (List.map AV.str names_1), .sl false 2 (List.map e_Arr2_Int stacks_1), .int .i64 o_5.1] [(.row 9 1 (List.map AV.str r_9.1))] (.tuple [.own 0 ((r_9.1).length), .int .i64 r_9.2])) an))) ?_
  refine aw_seq (by kernel_rfl) ?_
  refine aw_seq (by kernel_rfl) ?_
  obtain ⟨r_10, h_18, h⟩ := bind_some h
  refine aw_region [(1, { av := .int .i64 r_10, l := [.agg [.int .i64 r_3.1, .int .i64 r_2.1, .str o_7, .int .i64 o_3.2.2.2, .int .i64 o_4.2.2.2, .sl false 1 (List.map AV.str r_9.1)]], lend := [3] })] [6, 9, 11, 118] [0, 1, 2, 3] 4 (vals := [.ptr 0 0 0 0, .ptr 1 0 0 0, .ptr 2 0 0 0, .bool (r_10 != (0 : Int))]) (bxs := [.live (.var 28 [.int .i64 (0 : Int), .int .i64 (0 : Int), .str ([] : List Int), .int .i64 (0 : Int), .int .i64 (0 : Int), .nilsl]), .live (.var 59 [.sl false 1 (List.map (AV.int .u8) o_5.2.1), .int .i64 o_5.2.2.1, .int .i64 o_5.2.2.2]), .live (.var 28 [.int .i64 r_3.1, .int .i64 r_2.1, .str o_7, .int .i64 o_3.2.2.2, .int .i64 o_4.2.2.2, .own 3 ((r_9.1).length)]), .live (.row 9 1 (List.map AV.str r_9.1))]) (by kernel_rfl) hmix (ac (by first | (simp; done) | (simp; omega) : (r_9.1).length = ((List.map AV.str r_9.1)).length) (ac (rfl : ([.agg [.int .i64 r_3.1, .int .i64 r_2.1, .str o_7, .int .i64 o_3.2.2.2, .int .i64 o_4.2.2.2, .sl false 1 (List.map AV.str r_9.1)]] : List AV) = [.agg [.int .i64 r_3.1, .int .i64 r_2.1, .str o_7, .int .i64 o_3.2.2.2, .int .i64 o_4.2.2.2, .sl false 1 (List.map AV.str r_9.1)]]) (ac (rfl : ([] : List BoxSt) = []) (ac (triple_lo (args' := [e_T_api_Event (⟨r_3.1, r_2.1, o_7, o_3.2.2.2, o_4.2.2.2, r_9.1⟩ : T_api_Event)]) (event_Check_ok F (⟨r_3.1, r_2.1, o_7, o_3.2.2.2, o_4.2.2.2, r_9.1⟩ : T_api_Event) r_10 h_18) rfl ⟨rfl, rfl, rfl, rfl, rfl, rfl, rfl, rfl, trivial⟩ : TripleG prog 20 [] [] [.agg [.int .i64 r_3.1, .int .i64 r_2.1, .str o_7, .int .i64 o_3.2.2.2, .int .i64 o_4.2.2.2, .sl false 1 (List.map AV.str r_9.1)]] [] (.int .i64 r_10)) an)))) ?_
  refine aw_cond (t := 118) (b := (r_10 != (0 : Int))) (by kernel_rfl) (by kernel_rfl) ?_ ?_
  · intro g_11; replace h := cond_t g_11 h
    refine aw_seq (by kernel_rfl) ?_
    refine aw_region [] [6, 7, 8] [0] 4 (vals := [.ptr 0 0 0 0, .int .i64 (0 : Int), .int .i64 (10 : Int)]) (bxs := [.live (.var 28 [.int .i64 (0 : Int), .int .i64 (0 : Int), .str ([] : List Int), .int .i64 (0 : Int), .int .i64 (0 : Int), .nilsl])]) (by kernel_rfl) hmix an ?_
    refine aw_sub (sub_wkm [0] [] [.s 6, .s 7, .s 8] [.a 0 (.live (.var 28 (v_T_api_Event (⟨(0 : Int), (0 : Int), ([] : List Int), (0 : Int), (0 : Int), []⟩ : T_api_Event))))] (sl2 := [(6, .ptr 0 0 0 0), (7, .int .i64 (0 : Int)), (8, .int .i64 (10 : Int))]) (bx2 := [(0, .live (.var 28 (v_T_api_Event (⟨(0 : Int), (0 : Int), ([] : List Int), (0 : Int), (0 : Int), []⟩ : T_api_Event))))]) (by kernel_rfl) (ac (rfl : 28 = 28) (ac (rfl : ones [.int .i64 ((⟨(0 : Int), (0 : Int), ([] : List Int), (0 : Int), (0 : Int), []⟩ : T_api_Event).At), .int .i64 ((⟨(0 : Int), (0 : Int), ([] : List Int), (0 : Int), (0 : Int), []⟩ : T_api_Event).Kind), .str ((⟨(0 : Int), (0 : Int), ([] : List Int), (0 : Int), (0 : Int), []⟩ : T_api_Event).Name), .int .i64 ((⟨(0 : Int), (0 : Int), ([] : List Int), (0 : Int), (0 : Int), []⟩ : T_api_Event).N), .int .i64 ((⟨(0 : Int), (0 : Int), ([] : List Int), (0 : Int), (0 : Int), []⟩ : T_api_Event).M), .sl false 1 (List.map AV.str ((⟨(0 : Int), (0 : Int), ([] : List Int), (0 : Int), (0 : Int), []⟩ : T_api_Event).Stack))] = true) (ac (rfl : (.int .i64 (0 : Int) : AV) = .int .i64 ((⟨(0 : Int), (0 : Int), ([] : List Int), (0 : Int), (0 : Int), []⟩ : T_api_Event).At)) (ac (rfl : (.int .i64 (0 : Int) : AV) = .int .i64 ((⟨(0 : Int), (0 : Int), ([] : List Int), (0 : Int), (0 : Int), []⟩ : T_api_Event).Kind)) (ac (rfl : (.str ([] : List Int) : AV) = .str ((⟨(0 : Int), (0 : Int), ([] : List Int), (0 : Int), (0 : Int), []⟩ : T_api_Event).Name)) (ac (rfl : (.int .i64 (0 : Int) : AV) = .int .i64 ((⟨(0 : Int), (0 : Int), ([] : List Int), (0 : Int), (0 : Int), []⟩ : T_api_Event).N)) (ac (rfl : (.int .i64 (0 : Int) : AV) = .int .i64 ((⟨(0 : Int), (0 : Int), ([] : List Int), (0 : Int), (0 : Int), []⟩ : T_api_Event).M)) (ac (rfl : ((List.map AV.str ((⟨(0 : Int), (0 : Int), ([] : List Int), (0 : Int), (0 : Int), []⟩ : T_api_Event).Stack)) : List AV) = []) an))))))))) ?_
    refine aw_ret (by kernel_rfl) ?_
    replace h := Option.some.inj h; subst h
    exact ⟨.inr rfl, Nat.le_of_ble_eq_true rfl, by kernel_rfl⟩
  intro g_11; replace h := cond_f g_11 h
  refine aw_skip (by kernel_rfl) ?_
  refine aw_seq (by kernel_rfl) ?_
  refine aw_region [] [6, 7, 8] [0, 3] 4 (vals := [.ptr 0 0 0 0, .int .i64 o_5.2.2.1, .int .i64 (0 : Int)]) (bxs := [.live (.var 28 [.int .i64 r_3.1, .int .i64 r_2.1, .str o_7, .int .i64 o_3.2.2.2, .int .i64 o_4.2.2.2, .own 3 ((r_9.1).length)]), .live (.row 9 1 (List.map AV.str r_9.1))]) (by kernel_rfl) hmix an ?_
  refine aw_sub (sub_wkm [0] [3] [.s 6, .s 7, .s 8] [.a 0 (.live (.var 28 (v_T_api_Event (⟨r_3.1, r_2.1, o_7, o_3.2.2.2, o_4.2.2.2, r_9.1⟩ : T_api_Event))))] (sl2 := [(6, .ptr 0 0 0 0), (7, .int .i64 o_5.2.2.1), (8, .int .i64 (0 : Int))]) (bx2 := [(0, .live (.var 28 (v_T_api_Event (⟨r_3.1, r_2.1, o_7, o_3.2.2.2, o_4.2.2.2, r_9.1⟩ : T_api_Event))))]) (by kernel_rfl) (ac (rfl : 28 = 28) (ac (rfl : ones [.int .i64 ((⟨r_3.1, r_2.1, o_7, o_3.2.2.2, o_4.2.2.2, r_9.1⟩ : T_api_Event).At), .int .i64 ((⟨r_3.1, r_2.1, o_7, o_3.2.2.2, o_4.2.2.2, r_9.1⟩ : T_api_Event).Kind), .str ((⟨r_3.1, r_2.1, o_7, o_3.2.2.2, o_4.2.2.2, r_9.1⟩ : T_api_Event).Name), .int .i64 ((⟨r_3.1, r_2.1, o_7, o_3.2.2.2, o_4.2.2.2, r_9.1⟩ : T_api_Event).N), .int .i64 ((⟨r_3.1, r_2.1, o_7, o_3.2.2.2, o_4.2.2.2, r_9.1⟩ : T_api_Event).M), .sl false 1 (List.map AV.str ((⟨r_3.1, r_2.1, o_7, o_3.2.2.2, o_4.2.2.2, r_9.1⟩ : T_api_Event).Stack))] = true) (ac (by first | (simp; done) | (simp; omega) : (r_9.1).length = ((List.map AV.str r_9.1)).length) (ac (rfl : (.int .i64 r_3.1 : AV) = .int .i64 ((⟨r_3.1, r_2.1, o_7, o_3.2.2.2, o_4.2.2.2, r_9.1⟩ : T_api_Event).At)) (ac (rfl : (.int .i64 r_2.1 : AV) = .int .i64 ((⟨r_3.1, r_2.1, o_7, o_3.2.2.2, o_4.2.2.2, r_9.1⟩ : T_api_Event).Kind)) (ac (rfl : (.str o_7 : AV) = .str ((⟨r_3.1, r_2.1, o_7, o_3.2.2.2, o_4.2.2.2, r_9.1⟩ : T_api_Event).Name)) (ac (rfl : (.int .i64 o_3.2.2.2 : AV) = .int .i64 ((⟨r_3.1, r_2.1, o_7, o_3.2.2.2, o_4.2.2.2, r_9.1⟩ : T_api_Event).N)) (ac (rfl : (.int .i64 o_4.2.2.2 : AV) = .int .i64 ((⟨r_3.1, r_2.1, o_7, o_3.2.2.2, o_4.2.2.2, r_9.1⟩ : T_api_Event).M)) (ac (rfl : 1 = 1) (ac (rfl : ((List.map AV.str r_9.1) : List AV) = (List.map AV.str ((⟨r_3.1, r_2.1, o_7, o_3.2.2.2, o_4.2.2.2, r_9.1⟩ : T_api_Event).Stack))) (ac (rfl : (!false || false) = true) an)))))))))))) ?_
  refine aw_ret (by kernel_rfl) ?_
  replace h := Option.some.inj h; subst h
  exact ⟨.inr rfl, Nat.le_of_ble_eq_true rfl, by kernel_rfl⟩

theorem slices_Equal_string_string_ok (F : Nat) (s1_1 : List (List Int)) (s2_1 : List (List Int)) (r : Bool) (h : slices_Equal_string_string F s1_1 s2_1 = some r) : TripleG prog 36 [] [] [.sl false 1 (List.map AV.str s1_1), .sl false 1 (List.map AV.str s2_1)] [] (.bool r) := by
  refine triple_intro (fn := Go.Proofs.Try.f36) (code := codeOf Go.Proofs.Try.f36) (by kernel_rfl) (by kernel_rfl) (Nat.le_of_ble_eq_true (by kernel_rfl)) ?_
  unfold slices_Equal_string_string at h
  refine aw_seq (by kernel_rfl) ?_
  refine aw_region [] [0, 1] [] 0 (vals := [.sl false 1 (List.map AV.str s1_1), .sl false 1 (List.map AV.str s2_1)]) (bxs := []) (by kernel_rfl) hmix an ?_
  refine aw_seq (by kernel_rfl) ?_
  refine aw_seq (by kernel_rfl) ?_
  refine aw_region [(1, { n := (s1_1).length }), (3, { n := (s2_1).length })] [0, 1, 10] [] 0 (vals := [.sl false 1 (List.map AV.str s1_1), .sl false 1 (List.map AV.str s2_1), .bool ((((s1_1).length : Nat) : Int) != (((s2_1).length : Nat) : Int))]) (bxs := []) (by kernel_rfl) hmix (ac (vc_len _ : ((List.map AV.str s1_1)).length = (s1_1).length) (ac (vc_len _ : ((List.map AV.str s2_1)).length = (s2_1).length) an)) ?_
  refine aw_cond (t := 10) (b := ((((s1_1).length : Nat) : Int) != (((s2_1).length : Nat) : Int))) (by kernel_rfl) (by kernel_rfl) ?_ ?_
  · intro g_1; replace h := cond_t g_1 h
    refine aw_seq (by kernel_rfl) ?_
    refine aw_region [] [4] [] 0 (vals := [.bool false]) (bxs := []) (by kernel_rfl) hmix an ?_
    refine aw_ret (by kernel_rfl) ?_
    replace h := Option.some.inj h; subst h
    exact ⟨.inr rfl, Nat.le_of_ble_eq_true rfl, by kernel_rfl⟩
  intro g_1; replace h := cond_f g_1 h
  refine aw_skip (by kernel_rfl) ?_
  refine aw_seq (by kernel_rfl) ?_
  refine aw_seq (by kernel_rfl) ?_
  refine aw_region [(1, { n := (s1_1).length })] [0, 1, 12, 13] [] 0 (vals := [.sl false 1 (List.map AV.str s1_1), .sl false 1 (List.map AV.str s2_1), .int .i64 (((s1_1).length : Nat) : Int), .int .i64 (0 : Int)]) (bxs := []) (by kernel_rfl) hmix (ac (vc_len _ : ((List.map AV.str s1_1)).length = (s1_1).length) an) ?_
  obtain ⟨o_1, h_1, h⟩ := bind_some h
  refine aw_conv (K1 := (fun e st' => match o_1 with | (.inl q0) => e = .normal ∧ Sub 0 st' (mk [] [] 0) | (.inr q1) => e = .ret ∧ FinR prog Go.Proofs.Try.f36 0 [] (.bool q1) st')) ?_ ?_
  · replace h := h_1
    refine aw_block (id := 0) (by kernel_rfl) ?_
    refine aw_sub (sub_wkm [] [] [.s 0, .s 1, .s 12, .s 13] [] (sl2 := [(0, .sl false 1 (List.map AV.str s1_1)), (1, .sl false 1 (List.map AV.str s2_1)), (12, .int .i64 (((s1_1).length : Nat) : Int)), (13, .int .i64 (0 : Int))]) (bx2 := []) (by kernel_rfl) an) ?_
    refine aw_loopF (fun n st => ∃ (v_1 : Int), st = mk [(0, .sl false 1 (List.map AV.str s1_1)), (1, .sl false 1 (List.map AV.str s2_1)), (12, .int .i64 (((s1_1).length : Nat) : Int)), (13, .int .i64 v_1)] [] 0 ∧ slices_Equal_string_string_L1 F s1_1 s2_1 n v_1 = some o_1) F (by kernel_rfl) ⟨_, rfl, h⟩ ?_ ?_
    · rintro _ ⟨_, _, h⟩; exact none_ne (h : (none : Option (Unit ⊕ Bool)) = some o_1)
    rintro n_1 _ ⟨v_1, rfl, h⟩
    replace h : slices_Equal_string_string_L1_body F s1_1 s2_1 (slices_Equal_string_string_L1 F s1_1 s2_1 n_1) v_1 = some o_1 := h
    unfold slices_Equal_string_string_L1_body at h
    refine aw_seq (by kernel_rfl) ?_
    refine aw_region [] [0, 1, 12, 13, 14] [] 0 (vals := [.sl false 1 (List.map AV.str s1_1), .sl false 1 (List.map AV.str s2_1), .int .i64 (((s1_1).length : Nat) : Int), .int .i64 v_1, .bool (decide (v_1 < (((s1_1).length : Nat) : Int)))]) (bxs := []) (by kernel_rfl) hmix an ?_
    refine aw_seq (by kernel_rfl) ?_
    refine aw_cond (t := 14) (b := (decide (v_1 < (((s1_1).length : Nat) : Int)))) (by kernel_rfl) (by kernel_rfl) ?_ ?_
    rotate_left
    · intro g_2; replace h := cond_f g_2 h
      refine aw_exit (id := 0) (by kernel_rfl) ?_
      replace h := Option.some.inj h; subst h
      exact ⟨rfl, (sub_wkm [] [] [] [] (by kernel_rfl) an)⟩
    intro g_2; replace h := cond_t g_2 h
    refine aw_skip (by kernel_rfl) ?_
    refine aw_seq (by kernel_rfl) ?_
    refine aw_block (id := 1) (by kernel_rfl) ?_
    refine aw_seq (by kernel_rfl) ?_
    refine aw_region [] [0, 1, 5, 12, 13] [] 0 (vals := [.sl false 1 (List.map AV.str s1_1), .sl false 1 (List.map AV.str s2_1), .int .i64 v_1, .int .i64 (((s1_1).length : Nat) : Int), .int .i64 v_1]) (bxs := []) (by kernel_rfl) hmix an ?_
    refine aw_seq (by kernel_rfl) ?_
    obtain ⟨x_1, h_2, h⟩ := bind_some h
    obtain ⟨x_2, h_3, h⟩ := bind_some h
    refine aw_region [(2, { av := .str x_1 }), (6, { av := .str x_2 })] [0, 1, 12, 13, 24] [] 0 (vals := [.sl false 1 (List.map AV.str s1_1), .sl false 1 (List.map AV.str s2_1), .int .i64 (((s1_1).length : Nat) : Int), .int .i64 v_1, .bool (!(x_1 == x_2))]) (bxs := []) (by kernel_rfl) hmix (ac (vc_idx h_2 : idxA (List.map AV.str s1_1) v_1 = some (.str x_1)) (ac (vc_idx h_3 : idxA (List.map AV.str s2_1) v_1 = some (.str x_2)) an)) ?_
    refine aw_cond (t := 24) (b := (!(x_1 == x_2))) (by kernel_rfl) (by kernel_rfl) ?_ ?_
    rotate_left
    · intro g_3; replace h := cond_f g_3 h
      refine aw_skip (by kernel_rfl) ?_
      refine aw_region [] [0, 1, 12, 13] [] 0 (vals := [.sl false 1 (List.map AV.str s1_1), .sl false 1 (List.map AV.str s2_1), .int .i64 (((s1_1).length : Nat) : Int), .int .i64 (w_i64 (v_1 + (1 : Int)))]) (bxs := []) (by kernel_rfl) hmix an ?_
      exact ⟨_, (sub_wkm [] [] [.s 0, .s 1, .s 12, .s 13] [] (by kernel_rfl) an), _, rfl, h⟩
    intro g_3; replace h := cond_t g_3 h
    refine aw_seq (by kernel_rfl) ?_
    refine aw_region [] [4] [] 0 (vals := [.bool false]) (bxs := []) (by kernel_rfl) hmix an ?_
    refine aw_ret (by kernel_rfl) ?_
    replace h := Option.some.inj h; subst h
    exact ⟨rfl, Nat.le_of_ble_eq_true rfl, by kernel_rfl⟩
  intro e st1 hk
  rcases o_1 with q_1 | q_2
  rotate_left
  · obtain ⟨rfl, hf⟩ := hk
    replace h := Option.some.inj h; subst h
    exact ⟨st1, Sub.refl _ _, .inr rfl, hf⟩
  obtain ⟨rfl, hs⟩ := hk
  refine ⟨_, hs, ?_⟩
  refine aw_seq (by kernel_rfl) ?_
  refine aw_region [] [4] [] 0 (vals := [.bool true]) (bxs := []) (by kernel_rfl) hmix an ?_
  refine aw_ret (by kernel_rfl) ?_
  replace h := Option.some.inj h; subst h
  exact ⟨.inr rfl, Nat.le_of_ble_eq_true rfl, by kernel_rfl⟩

theorem event_Same_ok (F : Nat) (a_1 : T_api_Event) (b_1 : T_api_Event) (r : Bool) (h : event_Same F a_1 b_1 = some r) : TripleG prog 17 [] [] [e_T_api_Event a_1, e_T_api_Event b_1] [] (.bool r) := by
  refine triple_intro (fn := Go.Proofs.Try.f17) (code := codeOf Go.Proofs.Try.f17) (by kernel_rfl) (by kernel_rfl) (Nat.le_of_ble_eq_true (by kernel_rfl)) ?_
  unfold event_Same at h
  refine aw_seq (by kernel_rfl) ?_
  refine aw_region [(0, { id := 0 }), (1, { id := 1 })] [2, 3] [0, 1] 2 (vals := [.ptr 0 0 0 0, .ptr 1 0 0 0]) (bxs := [.live (.var 28 (v_T_api_Event a_1)), .live (.var 28 (v_T_api_Event b_1))]) (by kernel_rfl) hmix an ?_
  refine aw_seq (by kernel_rfl) ?_
  obtain ⟨p_1, h_2, h⟩ := bind_some h
  refine aw_mid (mk [(4, .bool p_1)] [] 0) ?_ ?_
  · replace h := h_2
    rcases Bool.eq_false_or_eq_true (a_1.At == b_1.At) with gg_1 | gg_1
    · replace h := cond_t gg_1 h
      rcases Bool.eq_false_or_eq_true (a_1.Kind == b_1.Kind) with gg_2 | gg_2
      · replace h := cond_t gg_2 h
        rcases Bool.eq_false_or_eq_true (a_1.Name == b_1.Name) with gg_3 | gg_3
        · replace h := cond_t gg_3 h
          rcases Bool.eq_false_or_eq_true (a_1.N == b_1.N) with gg_4 | gg_4
          · replace h := cond_t gg_4 h
            rcases Bool.eq_false_or_eq_true (a_1.M == b_1.M) with gg_5 | gg_5
            · replace h := cond_t gg_5 h
              obtain ⟨r_1, h_1, h⟩ := bind_some h
              refine aw_region [(11, { b := true }), (18, { b := true }), (25, { b := true }), (32, { b := true }), (38, { av := .bool r_1, l := [.sl false 1 (List.map AV.str a_1.Stack), .sl false 1 (List.map AV.str b_1.Stack)] }), (39, { b := true })] [4] [] 2 (vals := [.bool r_1]) (bxs := []) (by kernel_rfl) hmix (ac gg_1 (ac gg_1 (ac gg_1 (ac gg_1 (ac gg_1 (ac gg_1 (ac gg_2 (ac gg_2 (ac gg_2 (ac gg_2 (ac gg_2 (ac gg_2 (ac gg_3 (ac gg_3 (ac gg_3 (ac gg_3 (ac gg_3 (ac gg_3 (ac gg_4 (ac gg_4 (ac gg_4 (ac gg_4 (ac gg_4 (ac gg_4 (ac gg_5 (ac gg_5 (ac gg_5 (ac gg_5 (ac gg_5 (ac (rfl : ([.sl false 1 (List.map AV.str a_1.Stack), .sl false 1 (List.map AV.str b_1.Stack)] : List AV) = [.sl false 1 (List.map AV.str a_1.Stack), .sl false 1 (List.map AV.str b_1.Stack)]) (ac (rfl : ([] : List BoxSt) = []) (ac (slices_Equal_string_string_ok F a_1.Stack b_1.Stack r_1 h_1 : TripleG prog 36 [] [] [.sl false 1 (List.map AV.str a_1.Stack), .sl false 1 (List.map AV.str b_1.Stack)] [] (.bool r_1)) (ac gg_5 an))))))))))))))))))))))))))))))))) ?_
              replace h := Option.some.inj h; subst h
              exact ⟨rfl, (sub_wkm [] [] [.s 4] [] (by kernel_rfl) an)⟩
            · replace h := cond_f gg_5 h
              refine aw_region [(11, { b := true }), (18, { b := true }), (25, { b := true }), (32, { b := true }), (34, { g := false }), (35, { g := false }), (36, { g := false }), (37, { g := false }), (38, { g := false }), (39, { b := false })] [4] [] 2 (vals := [.bool false]) (bxs := []) (by kernel_rfl) hmix (ac gg_1 (ac gg_1 (ac gg_1 (ac gg_1 (ac gg_1 (ac gg_1 (ac gg_2 (ac gg_2 (ac gg_2 (ac gg_2 (ac gg_2 (ac gg_2 (ac gg_3 (ac gg_3 (ac gg_3 (ac gg_3 (ac gg_3 (ac gg_3 (ac gg_4 (ac gg_4 (ac gg_4 (ac gg_4 (ac gg_4 (ac gg_4 (ac gg_5 (ac gg_5 (ac gg_5 (ac gg_5 (ac gg_5 (ac gg_5 an)))))))))))))))))))))))))))))) ?_
              replace h := Option.some.inj h; subst h
              exact ⟨rfl, (sub_wkm [] [] [.s 4] [] (by kernel_rfl) an)⟩
          · replace h := cond_f gg_4 h
            refine aw_region [(11, { b := true }), (18, { b := true }), (25, { b := true }), (27, { g := false }), (28, { g := false }), (29, { g := false }), (30, { g := false }), (31, { g := false }), (32, { b := false }), (34, { g := false }), (35, { g := false }), (36, { g := false }), (37, { g := false }), (38, { g := false }), (39, { b := false })] [4] [] 2 (vals := [.bool false]) (bxs := []) (by kernel_rfl) hmix (ac gg_1 (ac gg_1 (ac gg_1 (ac gg_1 (ac gg_1 (ac gg_1 (ac gg_2 (ac gg_2 (ac gg_2 (ac gg_2 (ac gg_2 (ac gg_2 (ac gg_3 (ac gg_3 (ac gg_3 (ac gg_3 (ac gg_3 (ac gg_3 (ac gg_4 (ac gg_4 (ac gg_4 (ac gg_4 (ac gg_4 (ac gg_4 (ac (rfl : false = !true) (ac (rfl : false = !true) (ac (rfl : false = !true) (ac (rfl : false = !true) (ac (rfl : false = !true) (ac (rfl : false = false) an)))))))))))))))))))))))))))))) ?_
            replace h := Option.some.inj h; subst h
            exact ⟨rfl, (sub_wkm [] [] [.s 4] [] (by kernel_rfl) an)⟩
        · replace h := cond_f gg_3 h
          refine aw_region [(11, { b := true }), (18, { b := true }), (20, { g := false }), (21, { g := false }), (22, { g := false }), (23, { g := false }), (24, { g := false }), (25, { b := false }), (27, { g := false }), (28, { g := false }), (29, { g := false }), (30, { g := false }), (31, { g := false }), (32, { b := false }), (34, { g := false }), (35, { g := false }), (36, { g := false }), (37, { g := false }), (38, { g := false }), (39, { b := false })] [4] [] 2 (vals := [.bool false]) (bxs := []) (by kernel_rfl) hmix (ac gg_1 (ac gg_1 (ac gg_1 (ac gg_1 (ac gg_1 (ac gg_1 (ac gg_2 (ac gg_2 (ac gg_2 (ac gg_2 (ac gg_2 (ac gg_2 (ac gg_3 (ac gg_3 (ac gg_3 (ac gg_3 (ac gg_3 (ac gg_3 (ac (rfl : false = !true) (ac (rfl : false = !true) (ac (rfl : false = !true) (ac (rfl : false = !true) (ac (rfl : false = !true) (ac (rfl : false = false) (ac (rfl : false = !true) (ac (rfl : false = !true) (ac (rfl : false = !true) (ac (rfl : false = !true) (ac (rfl : false = !true) (ac (rfl : false = false) an)))))))))))))))))))))))))))))) ?_
          replace h := Option.some.inj h; subst h
          exact ⟨rfl, (sub_wkm [] [] [.s 4] [] (by kernel_rfl) an)⟩
      · replace h := cond_f gg_2 h
        refine aw_region [(11, { b := true }), (13, { g := false }), (14, { g := false }), (15, { g := false }), (16, { g := false }), (17, { g := false }), (18, { b := false }), (20, { g := false }), (21, { g := false }), (22, { g := false }), (23, { g := false }), (24, { g := false }), (25, { b := false }), (27, { g := false }), (28, { g := false }), (29, { g := false }), (30, { g := false }), (31, { g := false }), (32, { b := false }), (34, { g := false }), (35, { g := false }), (36, { g := false }), (37, { g := false }), (38, { g := false }), (39, { b := false })] [4] [] 2 (vals := [.bool false]) (bxs := []) (by kernel_rfl) hmix (ac gg_1 (ac gg_1 (ac gg_1 (ac gg_1 (ac gg_1 (ac gg_1 (ac gg_2 (ac gg_2 (ac gg_2 (ac gg_2 (ac gg_2 (ac gg_2 (ac (rfl : false = !true) (ac (rfl : false = !true) (ac (rfl : false = !true) (ac (rfl : false = !true) (ac (rfl : false = !true) (ac (rfl : false = false) (ac (rfl : false = !true) (ac (rfl : false = !true) (ac (rfl : false = !true) (ac (rfl : false = !true) (ac (rfl : false = !true) (ac (rfl : false = false) (ac (rfl : false = !true) (ac (rfl : false = !true) (ac (rfl : false = !true) (ac (rfl : false = !true) (ac (rfl : false = !true) (ac (rfl : false = false) an)))))))))))))))))))))))))))))) ?_
        replace h := Option.some.inj h; subst h
        exact ⟨rfl, (sub_wkm [] [] [.s 4] [] (by kernel_rfl) an)⟩
    · replace h := cond_f gg_1 h
      refine aw_region [(6, { g := false }), (7, { g := false }), (8, { g := false }), (9, { g := false }), (10, { g := false }), (11, { b := false }), (13, { g := false }), (14, { g := false }), (15, { g := false }), (16, { g := false }), (17, { g := false }), (18, { b := false }), (20, { g := false }), (21, { g := false }), (22, { g := false }), (23, { g := false }), (24, { g := false }), (25, { b := false }), (27, { g := false }), (28, { g := false }), (29, { g := false }), (30, { g := false }), (31, { g := false }), (32, { b := false }), (34, { g := false }), (35, { g := false }), (36, { g := false }), (37, { g := false }), (38, { g := false }), (39, { b := false })] [4] [] 2 (vals := [.bool false]) (bxs := []) (by kernel_rfl) hmix (ac gg_1 (ac gg_1 (ac gg_1 (ac gg_1 (ac gg_1 (ac gg_1 (ac (rfl : false = !true) (ac (rfl : false = !true) (ac (rfl : false = !true) (ac (rfl : false = !true) (ac (rfl : false = !true) (ac (rfl : false = false) (ac (rfl : false = !true) (ac (rfl : false = !true) (ac (rfl : false = !true) (ac (rfl : false = !true) (ac (rfl : false = !true) (ac (rfl : false = false) (ac (rfl : false = !true) (ac (rfl : false = !true) (ac (rfl : false = !true) (ac (rfl : false = !true) (ac (rfl : false = !true) (ac (rfl : false = false) (ac (rfl : false = !true) (ac (rfl : false = !true) (ac (rfl : false = !true) (ac (rfl : false = !true) (ac (rfl : false = !true) (ac (rfl : false = false) an)))))))))))))))))))))))))))))) ?_
      replace h := Option.some.inj h; subst h
      exact ⟨rfl, (sub_wkm [] [] [.s 4] [] (by kernel_rfl) an)⟩
  refine aw_ret (by kernel_rfl) ?_
  replace h := Option.some.inj h; subst h
  exact ⟨.inr rfl, Nat.le_of_ble_eq_true rfl, by kernel_rfl⟩

theorem record_Size_ok (F : Nat) (names_1 : List (List Int)) (stacks_1 : List (Arr2_Int)) (e_1 : T_api_Event) (r : Int) (h : record_Size F names_1 stacks_1 e_1 = some r) : TripleG prog 14 [] [] [.sl false 1 (List.map AV.str names_1), .sl false 2 (List.map e_Arr2_Int stacks_1), e_T_api_Event e_1] [] (.int .i64 r) := by
  refine triple_intro (fn := Go.Proofs.Try.f14) (code := codeOf Go.Proofs.Try.f14) (by kernel_rfl) (by kernel_rfl) (Nat.le_of_ble_eq_true (by kernel_rfl)) ?_
  unfold record_Size at h
  refine aw_seq (by kernel_rfl) ?_
  refine aw_region [(0, { id := 0 })] [0, 1, 5] [0] 1 (vals := [.sl false 1 (List.map AV.str names_1), .sl false 2 (List.map e_Arr2_Int stacks_1), .ptr 0 0 0 0]) (bxs := [.live (.var 28 (v_T_api_Event e_1))]) (by kernel_rfl) hmix an ?_
  refine aw_seq (by kernel_rfl) ?_
  obtain ⟨r_1, h_1, h⟩ := bind_some h
  refine aw_region [(3, { av := .tuple [.own 0 ((r_1.1).length), .sl false 1 (List.map AV.str r_1.2.1), .sl false 2 (List.map e_Arr2_Int r_1.2.2.1), .int .i64 r_1.2.2.2], ids := [1], l := [.sl false 1 (List.map AV.str names_1), .sl false 2 (List.map e_Arr2_Int stacks_1), e_T_api_Event e_1], post := [(.row 5 1 (List.map (AV.int .u8) r_1.1))] })] [7] [1] 2 (vals := [.own 1 ((r_1.1).length)]) (bxs := [.live (.row 5 1 (List.map (AV.int .u8) r_1.1))]) (by kernel_rfl) hmix (ac (rfl : ([.sl false 1 (List.map AV.str names_1), .sl false 2 (List.map e_Arr2_Int stacks_1), e_T_api_Event e_1] : List AV) = [.sl false 1 (List.map AV.str names_1), .sl false 2 (List.map e_Arr2_Int stacks_1), e_T_api_Event e_1]) (ac (rfl : ([] : List BoxSt) = []) (ac (record_Encode_ok F names_1 stacks_1 e_1 r_1 h_1 : TripleG prog 11 [] [] [.sl false 1 (List.map AV.str names_1), .sl false 2 (List.map e_Arr2_Int stacks_1), e_T_api_Event e_1] [(.row 5 1 (List.map (AV.int .u8) r_1.1))] (.tuple [.own 0 ((r_1.1).length), .sl false 1 (List.map AV.str r_1.2.1), .sl false 2 (List.map e_Arr2_Int r_1.2.2.1), .int .i64 r_1.2.2.2])) an))) ?_
  refine aw_seq (by kernel_rfl) ?_
  refine aw_region [] [6] [] 2 (vals := [.int .i64 (((r_1.1).length : Nat) : Int)]) (bxs := []) (by kernel_rfl) hmix an ?_
  refine aw_ret (by kernel_rfl) ?_
  replace h := Option.some.inj h; subst h
  exact ⟨.inr rfl, Nat.le_of_ble_eq_true rfl, by kernel_rfl⟩

theorem L08_lives_ok (F : Nat) (r : Bool) (h : L08_lives F = some r) : TripleG prog 10 [] [] [] [] (.bool r) := by
  refine triple_intro (fn := Go.Proofs.Try.f10) (code := codeOf Go.Proofs.Try.f10) (by kernel_rfl) (by kernel_rfl) (Nat.le_of_ble_eq_true (by kernel_rfl)) ?_
  unfold L08_lives at h
  refine aw_seq (by kernel_rfl) ?_
  refine aw_region [] [] [] 0 (vals := []) (bxs := []) (by kernel_rfl) hmix an ?_
  refine aw_seq (by kernel_rfl) ?_
  refine aw_region [(1, { id := 0 })] [1] [0] 1 (vals := [.ptr 0 0 0 0]) (bxs := [.live (.var 28 [.int .i64 (5 : Int), .int .i64 (3 : Int), .str ([97] : List Int), .int .i64 (0 : Int), .int .i64 (0 : Int), .nilsl])]) (by kernel_rfl) hmix an ?_
  refine aw_seq (by kernel_rfl) ?_
  obtain ⟨r_1, h_1, h⟩ := bind_some h
  refine aw_region [(1, { av := .tuple [.own 0 ((r_1.1).length), .sl false 1 (List.map AV.str r_1.2.1), .sl false 2 (List.map e_Arr2_Int r_1.2.2.1), .int .i64 r_1.2.2.2], ids := [1], l := [.nilsl, .nilsl, .agg [.int .i64 (5 : Int), .int .i64 (3 : Int), .str ([97] : List Int), .int .i64 (0 : Int), .int .i64 (0 : Int), .nilsl]], post := [(.row 5 1 (List.map (AV.int .u8) r_1.1))] })] [1, 2, 3, 4, 5] [0, 1] 2 (vals := [.ptr 0 0 0 0, .own 1 ((r_1.1).length), .sl false 1 (List.map AV.str r_1.2.1), .sl false 2 (List.map e_Arr2_Int r_1.2.2.1), .int .i64 r_1.2.2.2]) (bxs := [.live (.var 28 [.int .i64 (5 : Int), .int .i64 (3 : Int), .str ([97] : List Int), .int .i64 (0 : Int), .int .i64 (0 : Int), .nilsl]), .live (.row 5 1 (List.map (AV.int .u8) r_1.1))]) (by kernel_rfl) hmix (ac (rfl : ([.nilsl, .nilsl, .agg [.int .i64 (5 : Int), .int .i64 (3 : Int), .str ([97] : List Int), .int .i64 (0 : Int), .int .i64 (0 : Int), .nilsl]] : List AV) = [.nilsl, .nilsl, .agg [.int .i64 (5 : Int), .int .i64 (3 : Int), .str ([97] : List Int), .int .i64 (0 : Int), .int .i64 (0 : Int), .nilsl]]) (ac (rfl : ([] : List BoxSt) = []) (ac (triple_lo (args' := [.sl false 1 [], .sl false 2 [], e_T_api_Event (⟨(5 : Int), (3 : Int), ([97] : List Int), (0 : Int), (0 : Int), []⟩ : T_api_Event)]) (record_Encode_ok F [] [] (⟨(5 : Int), (3 : Int), ([97] : List Int), (0 : Int), (0 : Int), []⟩ : T_api_Event) r_1 h_1) rfl ⟨rfl, rfl, rfl, rfl, rfl, rfl, rfl, rfl, trivial⟩ : TripleG prog 11 [] [] [.nilsl, .nilsl, .agg [.int .i64 (5 : Int), .int .i64 (3 : Int), .str ([97] : List Int), .int .i64 (0 : Int), .int .i64 (0 : Int), .nilsl]] [(.row 5 1 (List.map (AV.int .u8) r_1.1))] (.tuple [.own 0 ((r_1.1).length), .sl false 1 (List.map AV.str r_1.2.1), .sl false 2 (List.map e_Arr2_Int r_1.2.2.1), .int .i64 r_1.2.2.2])) an))) ?_
  refine aw_seq (by kernel_rfl) ?_
  refine aw_seq (by kernel_rfl) ?_
  obtain ⟨p_1, h_3, h⟩ := bind_some h
  refine aw_mid (mk [(1, .ptr 0 0 0 0), (3, .sl false 1 (List.map AV.str r_1.2.1)), (39, .bool p_1)] [(0, .live (.var 28 [.int .i64 (5 : Int), .int .i64 (3 : Int), .str ([97] : List Int), .int .i64 (0 : Int), .int .i64 (0 : Int), .nilsl]))] 1) ?_ ?_
  · replace h := h_3
    rcases Bool.eq_false_or_eq_true (!(r_1.1 == ([6, 10, 0] : List Int))) with gg_1 | gg_1
    · replace h := cond_t gg_1 h
      refine aw_region [(1, { s := r_1.1 }), (4, { g := false }), (5, { g := false }), (6, { g := false }), (7, { b := true }), (9, { g := false }), (10, { g := false }), (11, { g := false }), (12, { g := false }), (13, { b := true }), (15, { g := false }), (16, { g := false }), (17, { g := false }), (18, { b := true }), (20, { g := false }), (21, { g := false }), (22, { b := true })] [1, 3, 39] [0] 2 (vals := [.ptr 0 0 0 0, .sl false 1 (List.map AV.str r_1.2.1), .bool true]) (bxs := [.live (.var 28 [.int .i64 (5 : Int), .int .i64 (3 : Int), .str ([97] : List Int), .int .i64 (0 : Int), .int .i64 (0 : Int), .nilsl])]) (by kernel_rfl) hmix (ac (by first | (simp; done) | (simp; omega) : (r_1.1).length = ((List.map (AV.int .u8) r_1.1)).length) (ac (rfl : (List.map (AV.int .u8) r_1.1) = List.map (AV.int .u8) r_1.1) (ac gg_1 (ac gg_1 (ac gg_1 (ac gg_1 (ac (rfl : true = !false) (ac (rfl : true = !false) (ac (rfl : true = !false) (ac (rfl : true = !false) (ac (rfl : true = true) (ac (rfl : true = !false) (ac (rfl : true = !false) (ac (rfl : true = !false) (ac (rfl : true = true) (ac (rfl : true = !false) (ac (rfl : true = !false) (ac (rfl : true = true) an)))))))))))))))))) ?_
      replace h := Option.some.inj h; subst h
      exact ⟨rfl, (sub_wkm [0] [] [.s 1, .s 3, .s 39] [.s 0] (by kernel_rfl) an)⟩
    · replace h := cond_f gg_1 h
      rcases Bool.eq_false_or_eq_true ((((r_1.2.1).length : Nat) : Int) != (1 : Int)) with gg_2 | gg_2
      · replace h := cond_t gg_2 h
        refine aw_region [(1, { s := r_1.1 }), (5, { n := (r_1.2.1).length }), (7, { b := false }), (9, { g := false }), (10, { g := false }), (11, { g := false }), (12, { g := false }), (13, { b := true }), (15, { g := false }), (16, { g := false }), (17, { g := false }), (18, { b := true }), (20, { g := false }), (21, { g := false }), (22, { b := true })] [1, 3, 39] [0] 2 (vals := [.ptr 0 0 0 0, .sl false 1 (List.map AV.str r_1.2.1), .bool true]) (bxs := [.live (.var 28 [.int .i64 (5 : Int), .int .i64 (3 : Int), .str ([97] : List Int), .int .i64 (0 : Int), .int .i64 (0 : Int), .nilsl])]) (by kernel_rfl) hmix (ac (by first | (simp; done) | (simp; omega) : (r_1.1).length = ((List.map (AV.int .u8) r_1.1)).length) (ac (rfl : (List.map (AV.int .u8) r_1.1) = List.map (AV.int .u8) r_1.1) (ac gg_1 (ac gg_1 (ac (vc_len _ : ((List.map AV.str r_1.2.1)).length = (r_1.2.1).length) (ac gg_1 (ac gg_1 (ac gg_2 (ac gg_2 (ac gg_2 (ac gg_2 (ac gg_2 (ac (rfl : true = !false) (ac (rfl : true = !false) (ac (rfl : true = !false) (ac (rfl : true = true) (ac (rfl : true = !false) (ac (rfl : true = !false) (ac (rfl : true = true) an))))))))))))))))))) ?_
        replace h := Option.some.inj h; subst h
        exact ⟨rfl, (sub_wkm [0] [] [.s 1, .s 3, .s 39] [.s 0] (by kernel_rfl) an)⟩
      · replace h := cond_f gg_2 h
        obtain ⟨x_1, h_2, h⟩ := bind_some h
        rcases Bool.eq_false_or_eq_true (!(x_1 == ([97] : List Int))) with gg_3 | gg_3
        · replace h := cond_t gg_3 h
          refine aw_region [(1, { s := r_1.1 }), (5, { n := (r_1.2.1).length }), (7, { b := false }), (10, { av := .str x_1 }), (13, { b := false }), (15, { g := false }), (16, { g := false }), (17, { g := false }), (18, { b := true }), (20, { g := false }), (21, { g := false }), (22, { b := true })] [1, 3, 39] [0] 2 (vals := [.ptr 0 0 0 0, .sl false 1 (List.map AV.str r_1.2.1), .bool true]) (bxs := [.live (.var 28 [.int .i64 (5 : Int), .int .i64 (3 : Int), .str ([97] : List Int), .int .i64 (0 : Int), .int .i64 (0 : Int), .nilsl])]) (by kernel_rfl) hmix (ac (by first | (simp; done) | (simp; omega) : (r_1.1).length = ((List.map (AV.int .u8) r_1.1)).length) (ac (rfl : (List.map (AV.int .u8) r_1.1) = List.map (AV.int .u8) r_1.1) (ac gg_1 (ac gg_1 (ac (vc_len _ : ((List.map AV.str r_1.2.1)).length = (r_1.2.1).length) (ac gg_1 (ac gg_1 (ac gg_2 (ac gg_2 (ac (vc_idx h_2 : idxA (List.map AV.str r_1.2.1) (0 : Int) = some (.str x_1)) (ac gg_2 (ac gg_2 (ac gg_2 (ac gg_3 (ac gg_3 (ac gg_3 (ac gg_3 (ac (rfl : true = !false) (ac (rfl : true = !false) (ac (rfl : true = true) an)))))))))))))))))))) ?_
          replace h := Option.some.inj h; subst h
          exact ⟨rfl, (sub_wkm [0] [] [.s 1, .s 3, .s 39] [.s 0] (by kernel_rfl) an)⟩
        · replace h := cond_f gg_3 h
          rcases Bool.eq_false_or_eq_true ((((r_1.2.2.1).length : Nat) : Int) != (0 : Int)) with gg_4 | gg_4
          · replace h := cond_t gg_4 h
            refine aw_region [(1, { s := r_1.1 }), (5, { n := (r_1.2.1).length }), (7, { b := false }), (10, { av := .str x_1 }), (13, { b := false }), (16, { n := (r_1.2.2.1).length }), (18, { b := false }), (20, { g := false }), (21, { g := false }), (22, { b := true })] [1, 3, 39] [0] 2 (vals := [.ptr 0 0 0 0, .sl false 1 (List.map AV.str r_1.2.1), .bool true]) (bxs := [.live (.var 28 [.int .i64 (5 : Int), .int .i64 (3 : Int), .str ([97] : List Int), .int .i64 (0 : Int), .int .i64 (0 : Int), .nilsl])]) (by kernel_rfl) hmix (ac (by first | (simp; done) | (simp; omega) : (r_1.1).length = ((List.map (AV.int .u8) r_1.1)).length) (ac (rfl : (List.map (AV.int .u8) r_1.1) = List.map (AV.int .u8) r_1.1) (ac gg_1 (ac gg_1 (ac (vc_len _ : ((List.map AV.str r_1.2.1)).length = (r_1.2.1).length) (ac gg_1 (ac gg_1 (ac gg_2 (ac gg_2 (ac (vc_idx h_2 : idxA (List.map AV.str r_1.2.1) (0 : Int) = some (.str x_1)) (ac gg_2 (ac gg_2 (ac gg_2 (ac gg_3 (ac gg_3 (ac (vc_len _ : ((List.map e_Arr2_Int r_1.2.2.1)).length = (r_1.2.2.1).length) (ac gg_3 (ac gg_3 (ac gg_4 (ac gg_4 (ac gg_4 an))))))))))))))))))))) ?_
            replace h := Option.some.inj h; subst h
            exact ⟨rfl, (sub_wkm [0] [] [.s 1, .s 3, .s 39] [.s 0] (by kernel_rfl) an)⟩
          · replace h := cond_f gg_4 h
            refine aw_region [(1, { s := r_1.1 }), (5, { n := (r_1.2.1).length }), (7, { b := false }), (10, { av := .str x_1 }), (13, { b := false }), (16, { n := (r_1.2.2.1).length }), (18, { b := false }), (22, { b := false })] [1, 3, 39] [0] 2 (vals := [.ptr 0 0 0 0, .sl false 1 (List.map AV.str r_1.2.1), .bool (r_1.2.2.2 != (0 : Int))]) (bxs := [.live (.var 28 [.int .i64 (5 : Int), .int .i64 (3 : Int), .str ([97] : List Int), .int .i64 (0 : Int), .int .i64 (0 : Int), .nilsl])]) (by kernel_rfl) hmix (ac (by first | (simp; done) | (simp; omega) : (r_1.1).length = ((List.map (AV.int .u8) r_1.1)).length) (ac (rfl : (List.map (AV.int .u8) r_1.1) = List.map (AV.int .u8) r_1.1) (ac gg_1 (ac gg_1 (ac (vc_len _ : ((List.map AV.str r_1.2.1)).length = (r_1.2.1).length) (ac gg_1 (ac gg_1 (ac gg_2 (ac gg_2 (ac (vc_idx h_2 : idxA (List.map AV.str r_1.2.1) (0 : Int) = some (.str x_1)) (ac gg_2 (ac gg_2 (ac gg_2 (ac gg_3 (ac gg_3 (ac (vc_len _ : ((List.map e_Arr2_Int r_1.2.2.1)).length = (r_1.2.2.1).length) (ac gg_3 (ac gg_3 (ac gg_4 (ac gg_4 (ac gg_4 an))))))))))))))))))))) ?_
            replace h := Option.some.inj h; subst h
            exact ⟨rfl, (sub_wkm [0] [] [.s 1, .s 3, .s 39] [.s 0] (by kernel_rfl) an)⟩
  refine aw_cond (t := 39) (b := p_1) (by kernel_rfl) (by kernel_rfl) ?_ ?_
  · intro g_1; replace h := cond_t g_1 h
    refine aw_seq (by kernel_rfl) ?_
    refine aw_region [] [0] [] 1 (vals := [.bool false]) (bxs := []) (by kernel_rfl) hmix an ?_
    refine aw_ret (by kernel_rfl) ?_
    replace h := Option.some.inj h; subst h
    exact ⟨.inr rfl, Nat.le_of_ble_eq_true rfl, by kernel_rfl⟩
  intro g_1; replace h := cond_f g_1 h
  refine aw_skip (by kernel_rfl) ?_
  refine aw_seq (by kernel_rfl) ?_
  obtain ⟨r_2, h_4, h⟩ := bind_some h
  refine aw_region [(1, { id := 1 }), (2, { av := .tuple [e_T_api_Event r_2.1, .int .i64 r_2.2.1, .int .i64 r_2.2.2], frz := [1], l := [.sl false 1 (List.map AV.str r_1.2.1), .nilsl, .sl false 1 (List.map (AV.int .u8) ([(6 : Int), (10 : Int), (0 : Int), (9 : Int)] : List Int))] }), (7, { id := 2 })] [1, 6, 7, 8] [0, 2] 3 (vals := [.ptr 0 0 0 0, .ptr 2 0 0 0, .int .i64 r_2.2.1, .int .i64 r_2.2.2]) (bxs := [.live (.var 28 [.int .i64 (5 : Int), .int .i64 (3 : Int), .str ([97] : List Int), .int .i64 (0 : Int), .int .i64 (0 : Int), .nilsl]), .live (.var 28 (v_T_api_Event r_2.1))]) (by kernel_rfl) hmix (ac (by first | (simp; done) | (simp; omega) : 4 = ((List.map (AV.int .u8) ([(6 : Int), (10 : Int), (0 : Int), (9 : Int)] : List Int))).length) (ac (rfl : ([.sl false 1 (List.map AV.str r_1.2.1), .nilsl, .sl false 1 (List.map (AV.int .u8) ([(6 : Int), (10 : Int), (0 : Int), (9 : Int)] : List Int))] : List AV) = [.sl false 1 (List.map AV.str r_1.2.1), .nilsl, .sl false 1 (List.map (AV.int .u8) ([(6 : Int), (10 : Int), (0 : Int), (9 : Int)] : List Int))]) (ac (rfl : ([] : List BoxSt) = []) (ac (triple_lo (args' := [.sl false 1 (List.map AV.str r_1.2.1), .sl false 2 [], .sl false 1 (List.map (AV.int .u8) ([(6 : Int), (10 : Int), (0 : Int), (9 : Int)] : List Int))]) (record_Decode_ok F r_1.2.1 [] ([(6 : Int), (10 : Int), (0 : Int), (9 : Int)] : List Int) r_2 h_4) rfl ⟨rfl, rfl, rfl, rfl, rfl, rfl, rfl, trivial⟩ : TripleG prog 15 [] [] [.sl false 1 (List.map AV.str r_1.2.1), .nilsl, .sl false 1 (List.map (AV.int .u8) ([(6 : Int), (10 : Int), (0 : Int), (9 : Int)] : List Int))] [] (.tuple [e_T_api_Event r_2.1, .int .i64 r_2.2.1, .int .i64 r_2.2.2])) an)))) ?_
  refine aw_seq (by kernel_rfl) ?_
  obtain ⟨p_2, h_7, h⟩ := bind_some h
  refine aw_mid (mk [(0, .bool p_2)] [] 0) ?_ ?_
  · replace h := h_7
    obtain ⟨r_3, h_5, h⟩ := bind_some h
    rcases Bool.eq_false_or_eq_true r_3 with gg_5 | gg_5
    · replace h := cond_t gg_5 h
      rcases Bool.eq_false_or_eq_true (r_2.1.Name == ([97] : List Int)) with gg_6 | gg_6
      · replace h := cond_t gg_6 h
        rcases Bool.eq_false_or_eq_true (r_2.2.1 == (3 : Int)) with gg_7 | gg_7
        · replace h := cond_t gg_7 h
          rcases Bool.eq_false_or_eq_true (r_2.2.2 == (0 : Int)) with gg_8 | gg_8
          · replace h := cond_t gg_8 h
            obtain ⟨r_4, h_6, h⟩ := bind_some h
            refine aw_region [(2, { av := .bool r_3, l := [e_T_api_Event r_2.1, .agg [.int .i64 (5 : Int), .int .i64 (3 : Int), .str ([97] : List Int), .int .i64 (0 : Int), .int .i64 (0 : Int), .nilsl]] }), (7, { b := true }), (11, { b := true }), (15, { b := true }), (18, { av := .int .i64 r_4, l := [.nilsl, .nilsl, .agg [.int .i64 (5 : Int), .int .i64 (3 : Int), .str ([97] : List Int), .int .i64 (0 : Int), .int .i64 (0 : Int), .nilsl]] }), (20, { b := true })] [0] [] 3 (vals := [.bool (r_4 == (3 : Int))]) (bxs := []) (by kernel_rfl) hmix (ac (rfl : ([e_T_api_Event r_2.1, .agg [.int .i64 (5 : Int), .int .i64 (3 : Int), .str ([97] : List Int), .int .i64 (0 : Int), .int .i64 (0 : Int), .nilsl]] : List AV) = [e_T_api_Event r_2.1, .agg [.int .i64 (5 : Int), .int .i64 (3 : Int), .str ([97] : List Int), .int .i64 (0 : Int), .int .i64 (0 : Int), .nilsl]]) (ac (rfl : ([] : List BoxSt) = []) (ac (triple_lo (args' := [e_T_api_Event r_2.1, e_T_api_Event (⟨(5 : Int), (3 : Int), ([97] : List Int), (0 : Int), (0 : Int), []⟩ : T_api_Event)]) (event_Same_ok F r_2.1 (⟨(5 : Int), (3 : Int), ([97] : List Int), (0 : Int), (0 : Int), []⟩ : T_api_Event) r_3 h_5) rfl ⟨rfl, rfl, rfl, rfl, rfl, rfl, rfl, rfl, rfl, rfl, rfl, rfl, rfl, rfl, trivial⟩ : TripleG prog 17 [] [] [e_T_api_Event r_2.1, .agg [.int .i64 (5 : Int), .int .i64 (3 : Int), .str ([97] : List Int), .int .i64 (0 : Int), .int .i64 (0 : Int), .nilsl]] [] (.bool r_3)) (ac gg_5 (ac gg_5 (ac gg_5 (ac gg_5 (ac gg_6 (ac gg_6 (ac gg_6 (ac gg_7 (ac gg_7 (ac gg_7 (ac gg_8 (ac gg_8 (ac (rfl : ([.nilsl, .nilsl, .agg [.int .i64 (5 : Int), .int .i64 (3 : Int), .str ([97] : List Int), .int .i64 (0 : Int), .int .i64 (0 : Int), .nilsl]] : List AV) = [.nilsl, .nilsl, .agg [.int .i64 (5 : Int), .int .i64 (3 : Int), .str ([97] : List Int), .int .i64 (0 : Int), .int .i64 (0 : Int), .nilsl]]) (ac (rfl : ([] : List BoxSt) = []) (ac (triple_lo (args' := [.sl false 1 [], .sl false 2 [], e_T_api_Event (⟨(5 : Int), (3 : Int), ([97] : List Int), (0 : Int), (0 : Int), []⟩ : T_api_Event)]) (record_Size_ok F [] [] (⟨(5 : Int), (3 : Int), ([97] : List Int), (0 : Int), (0 : Int), []⟩ : T_api_Event) r_4 h_6) rfl ⟨rfl, rfl, rfl, rfl, rfl, rfl, rfl, rfl, trivial⟩ : TripleG prog 14 [] [] [.nilsl, .nilsl, .agg [.int .i64 (5 : Int), .int .i64 (3 : Int), .str ([97] : List Int), .int .i64 (0 : Int), .int .i64 (0 : Int), .nilsl]] [] (.int .i64 r_4)) (ac gg_8 (ac gg_8 an)))))))))))))))))))) ?_
            replace h := Option.some.inj h; subst h
            exact ⟨rfl, (sub_wkm [] [] [.s 0] [] (by kernel_rfl) an)⟩
          · replace h := cond_f gg_8 h
            refine aw_region [(2, { av := .bool r_3, l := [e_T_api_Event r_2.1, .agg [.int .i64 (5 : Int), .int .i64 (3 : Int), .str ([97] : List Int), .int .i64 (0 : Int), .int .i64 (0 : Int), .nilsl]] }), (7, { b := true }), (11, { b := true }), (15, { b := true }), (17, { g := false }), (18, { g := false }), (19, { g := false }), (20, { b := false })] [0] [] 3 (vals := [.bool false]) (bxs := []) (by kernel_rfl) hmix (ac (rfl : ([e_T_api_Event r_2.1, .agg [.int .i64 (5 : Int), .int .i64 (3 : Int), .str ([97] : List Int), .int .i64 (0 : Int), .int .i64 (0 : Int), .nilsl]] : List AV) = [e_T_api_Event r_2.1, .agg [.int .i64 (5 : Int), .int .i64 (3 : Int), .str ([97] : List Int), .int .i64 (0 : Int), .int .i64 (0 : Int), .nilsl]]) (ac (rfl : ([] : List BoxSt) = []) (ac (triple_lo (args' := [e_T_api_Event r_2.1, e_T_api_Event (⟨(5 : Int), (3 : Int), ([97] : List Int), (0 : Int), (0 : Int), []⟩ : T_api_Event)]) (event_Same_ok F r_2.1 (⟨(5 : Int), (3 : Int), ([97] : List Int), (0 : Int), (0 : Int), []⟩ : T_api_Event) r_3 h_5) rfl ⟨rfl, rfl, rfl, rfl, rfl, rfl, rfl, rfl, rfl, rfl, rfl, rfl, rfl, rfl, trivial⟩ : TripleG prog 17 [] [] [e_T_api_Event r_2.1, .agg [.int .i64 (5 : Int), .int .i64 (3 : Int), .str ([97] : List Int), .int .i64 (0 : Int), .int .i64 (0 : Int), .nilsl]] [] (.bool r_3)) (ac gg_5 (ac gg_5 (ac gg_5 (ac gg_5 (ac gg_6 (ac gg_6 (ac gg_6 (ac gg_7 (ac gg_7 (ac gg_7 (ac gg_8 (ac gg_8 (ac gg_8 (ac gg_8 an))))))))))))))))) ?_
            replace h := Option.some.inj h; subst h
            exact ⟨rfl, (sub_wkm [] [] [.s 0] [] (by kernel_rfl) an)⟩
        · replace h := cond_f gg_7 h
          refine aw_region [(2, { av := .bool r_3, l := [e_T_api_Event r_2.1, .agg [.int .i64 (5 : Int), .int .i64 (3 : Int), .str ([97] : List Int), .int .i64 (0 : Int), .int .i64 (0 : Int), .nilsl]] }), (7, { b := true }), (11, { b := true }), (13, { g := false }), (14, { g := false }), (15, { b := false }), (17, { g := false }), (18, { g := false }), (19, { g := false }), (20, { b := false })] [0] [] 3 (vals := [.bool false]) (bxs := []) (by kernel_rfl) hmix (ac (rfl : ([e_T_api_Event r_2.1, .agg [.int .i64 (5 : Int), .int .i64 (3 : Int), .str ([97] : List Int), .int .i64 (0 : Int), .int .i64 (0 : Int), .nilsl]] : List AV) = [e_T_api_Event r_2.1, .agg [.int .i64 (5 : Int), .int .i64 (3 : Int), .str ([97] : List Int), .int .i64 (0 : Int), .int .i64 (0 : Int), .nilsl]]) (ac (rfl : ([] : List BoxSt) = []) (ac (triple_lo (args' := [e_T_api_Event r_2.1, e_T_api_Event (⟨(5 : Int), (3 : Int), ([97] : List Int), (0 : Int), (0 : Int), []⟩ : T_api_Event)]) (event_Same_ok F r_2.1 (⟨(5 : Int), (3 : Int), ([97] : List Int), (0 : Int), (0 : Int), []⟩ : T_api_Event) r_3 h_5) rfl ⟨rfl, rfl, rfl, rfl, rfl, rfl, rfl, rfl, rfl, rfl, rfl, rfl, rfl, rfl, trivial⟩ : TripleG prog 17 [] [] [e_T_api_Event r_2.1, .agg [.int .i64 (5 : Int), .int .i64 (3 : Int), .str ([97] : List Int), .int .i64 (0 : Int), .int .i64 (0 : Int), .nilsl]] [] (.bool r_3)) (ac gg_5 (ac gg_5 (ac gg_5 (ac gg_5 (ac gg_6 (ac gg_6 (ac gg_6 (ac gg_7 (ac gg_7 (ac gg_7 (ac (rfl : false = !true) (ac (rfl : false = !true) (ac (rfl : false = !true) (ac (rfl : false = false) an))))))))))))))))) ?_
          replace h := Option.some.inj h; subst h
          exact ⟨rfl, (sub_wkm [] [] [.s 0] [] (by kernel_rfl) an)⟩
      · replace h := cond_f gg_6 h
        refine aw_region [(2, { av := .bool r_3, l := [e_T_api_Event r_2.1, .agg [.int .i64 (5 : Int), .int .i64 (3 : Int), .str ([97] : List Int), .int .i64 (0 : Int), .int .i64 (0 : Int), .nilsl]] }), (7, { b := true }), (9, { g := false }), (10, { g := false }), (11, { b := false }), (13, { g := false }), (14, { g := false }), (15, { b := false }), (17, { g := false }), (18, { g := false }), (19, { g := false }), (20, { b := false })] [0] [] 3 (vals := [.bool false]) (bxs := []) (by kernel_rfl) hmix (ac (rfl : ([e_T_api_Event r_2.1, .agg [.int .i64 (5 : Int), .int .i64 (3 : Int), .str ([97] : List Int), .int .i64 (0 : Int), .int .i64 (0 : Int), .nilsl]] : List AV) = [e_T_api_Event r_2.1, .agg [.int .i64 (5 : Int), .int .i64 (3 : Int), .str ([97] : List Int), .int .i64 (0 : Int), .int .i64 (0 : Int), .nilsl]]) (ac (rfl : ([] : List BoxSt) = []) (ac (triple_lo (args' := [e_T_api_Event r_2.1, e_T_api_Event (⟨(5 : Int), (3 : Int), ([97] : List Int), (0 : Int), (0 : Int), []⟩ : T_api_Event)]) (event_Same_ok F r_2.1 (⟨(5 : Int), (3 : Int), ([97] : List Int), (0 : Int), (0 : Int), []⟩ : T_api_Event) r_3 h_5) rfl ⟨rfl, rfl, rfl, rfl, rfl, rfl, rfl, rfl, rfl, rfl, rfl, rfl, rfl, rfl, trivial⟩ : TripleG prog 17 [] [] [e_T_api_Event r_2.1, .agg [.int .i64 (5 : Int), .int .i64 (3 : Int), .str ([97] : List Int), .int .i64 (0 : Int), .int .i64 (0 : Int), .nilsl]] [] (.bool r_3)) (ac gg_5 (ac gg_5 (ac gg_5 (ac gg_5 (ac gg_6 (ac gg_6 (ac gg_6 (ac (rfl : false = !true) (ac (rfl : false = !true) (ac (rfl : false = false) (ac (rfl : false = !true) (ac (rfl : false = !true) (ac (rfl : false = !true) (ac (rfl : false = false) an))))))))))))))))) ?_
        replace h := Option.some.inj h; subst h
        exact ⟨rfl, (sub_wkm [] [] [.s 0] [] (by kernel_rfl) an)⟩
    · replace h := cond_f gg_5 h
      refine aw_region [(2, { av := .bool r_3, l := [e_T_api_Event r_2.1, .agg [.int .i64 (5 : Int), .int .i64 (3 : Int), .str ([97] : List Int), .int .i64 (0 : Int), .int .i64 (0 : Int), .nilsl]] }), (4, { g := false }), (5, { g := false }), (6, { g := false }), (7, { b := false }), (9, { g := false }), (10, { g := false }), (11, { b := false }), (13, { g := false }), (14, { g := false }), (15, { b := false }), (17, { g := false }), (18, { g := false }), (19, { g := false }), (20, { b := false })] [0] [] 3 (vals := [.bool false]) (bxs := []) (by kernel_rfl) hmix (ac (rfl : ([e_T_api_Event r_2.1, .agg [.int .i64 (5 : Int), .int .i64 (3 : Int), .str ([97] : List Int), .int .i64 (0 : Int), .int .i64 (0 : Int), .nilsl]] : List AV) = [e_T_api_Event r_2.1, .agg [.int .i64 (5 : Int), .int .i64 (3 : Int), .str ([97] : List Int), .int .i64 (0 : Int), .int .i64 (0 : Int), .nilsl]]) (ac (rfl : ([] : List BoxSt) = []) (ac (triple_lo (args' := [e_T_api_Event r_2.1, e_T_api_Event (⟨(5 : Int), (3 : Int), ([97] : List Int), (0 : Int), (0 : Int), []⟩ : T_api_Event)]) (event_Same_ok F r_2.1 (⟨(5 : Int), (3 : Int), ([97] : List Int), (0 : Int), (0 : Int), []⟩ : T_api_Event) r_3 h_5) rfl ⟨rfl, rfl, rfl, rfl, rfl, rfl, rfl, rfl, rfl, rfl, rfl, rfl, rfl, rfl, trivial⟩ : TripleG prog 17 [] [] [e_T_api_Event r_2.1, .agg [.int .i64 (5 : Int), .int .i64 (3 : Int), .str ([97] : List Int), .int .i64 (0 : Int), .int .i64 (0 : Int), .nilsl]] [] (.bool r_3)) (ac gg_5 (ac gg_5 (ac gg_5 (ac gg_5 (ac (rfl : false = !true) (ac (rfl : false = !true) (ac (rfl : false = false) (ac (rfl : false = !true) (ac (rfl : false = !true) (ac (rfl : false = false) (ac (rfl : false = !true) (ac (rfl : false = !true) (ac (rfl : false = !true) (ac (rfl : false = false) an))))))))))))))))) ?_
      replace h := Option.some.inj h; subst h
      exact ⟨rfl, (sub_wkm [] [] [.s 0] [] (by kernel_rfl) an)⟩
  refine aw_ret (by kernel_rfl) ?_
  replace h := Option.some.inj h; subst h
  exact ⟨.inr rfl, Nat.le_of_ble_eq_true rfl, by kernel_rfl⟩

end Go.Ab
