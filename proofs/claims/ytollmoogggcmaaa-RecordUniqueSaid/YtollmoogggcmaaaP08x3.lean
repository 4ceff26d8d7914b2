/- Printed: the typed Lean functions of the Go functions, or the proofs that the Go functions meet them. No conditions but those that the theorems name. -/
import Derived.Test.YtollmoogggcmaaaP08x2
namespace Go.Ab
open Go
set_option linter.unusedVariables false
theorem R08_Begins_ok (F : Nat) (names_1 : List (List Int)) (stacks_1 : List (Arr2_Int)) (others_1 : List (List Int)) (more_1 : List (Arr2_Int)) (r : Bool) (h : R08_Begins F names_1 stacks_1 others_1 more_1 = some r) : TripleG prog 18 [] [] [.sl false 1 (List.map AV.str names_1), .sl false 2 (List.map e_Arr2_Int stacks_1), .sl false 1 (List.map AV.str others_1), .sl false 2 (List.map e_Arr2_Int more_1)] [] (.bool r) := by
  refine triple_intro (fn := Go.Proofs.Try.f18) (code := codeOf Go.Proofs.Try.f18) (by kernel_rfl) (by kernel_rfl) (Nat.le_of_ble_eq_true (by kernel_rfl)) ?_
  unfold R08_Begins at h
  refine aw_seq (by kernel_rfl) ?_
  refine aw_region [] [0, 1, 2, 3] [] 0 (vals := [.sl false 1 (List.map AV.str names_1), .sl false 2 (List.map e_Arr2_Int stacks_1), .sl false 1 (List.map AV.str others_1), .sl false 2 (List.map e_Arr2_Int more_1)]) (bxs := []) (by kernel_rfl) hmix an ?_
  refine aw_seq (by kernel_rfl) ?_
  refine aw_seq (by kernel_rfl) ?_
  refine aw_mid (mk [(0, .sl false 1 (List.map AV.str names_1)), (1, .sl false 2 (List.map e_Arr2_Int stacks_1)), (2, .sl false 1 (List.map AV.str others_1)), (3, .sl false 2 (List.map e_Arr2_Int more_1)), (22, .bool (decide ((((names_1).length : Nat) : Int) > (((others_1).length : Nat) : Int)) || decide ((((stacks_1).length : Nat) : Int) > (((more_1).length : Nat) : Int))))] [] 0) ?_ ?_
  · rcases Bool.eq_false_or_eq_true (decide ((((names_1).length : Nat) : Int) > (((others_1).length : Nat) : Int))) with gg_1 | gg_1
    · refine aw_region [(1, { n := (names_1).length }), (3, { n := (others_1).length }), (6, { g := false }), (7, { g := false }), (8, { g := false }), (9, { g := false }), (10, { g := false }), (11, { b := true })] [0, 1, 2, 3, 22] [] 0 (vals := [.sl false 1 (List.map AV.str names_1), .sl false 2 (List.map e_Arr2_Int stacks_1), .sl false 1 (List.map AV.str others_1), .sl false 2 (List.map e_Arr2_Int more_1), .bool true]) (bxs := []) (by kernel_rfl) hmix (ac (vc_len _ : ((List.map AV.str names_1)).length = (names_1).length) (ac (vc_len _ : ((List.map AV.str others_1)).length = (others_1).length) (ac gg_1 (ac gg_1 (ac gg_1 (ac gg_1 (ac gg_1 (ac gg_1 an)))))))) ?_
      exact ⟨rfl, (sub_wkm [] [] [.s 0, .s 1, .s 2, .s 3, .a 22 (.bool (decide ((((names_1).length : Nat) : Int) > (((others_1).length : Nat) : Int)) || decide ((((stacks_1).length : Nat) : Int) > (((more_1).length : Nat) : Int))))] [] (by kernel_rfl) (ac (congrArg AV.bool (ort gg_1) : (.bool true : AV) = .bool (decide ((((names_1).length : Nat) : Int) > (((others_1).length : Nat) : Int)) || decide ((((stacks_1).length : Nat) : Int) > (((more_1).length : Nat) : Int)))) an))⟩
    · refine aw_region [(1, { n := (names_1).length }), (3, { n := (others_1).length }), (7, { n := (stacks_1).length }), (9, { n := (more_1).length }), (11, { b := false })] [0, 1, 2, 3, 22] [] 0 (vals := [.sl false 1 (List.map AV.str names_1), .sl false 2 (List.map e_Arr2_Int stacks_1), .sl false 1 (List.map AV.str others_1), .sl false 2 (List.map e_Arr2_Int more_1), .bool (decide ((((stacks_1).length : Nat) : Int) > (((more_1).length : Nat) : Int)))]) (bxs := []) (by kernel_rfl) hmix (ac (vc_len _ : ((List.map AV.str names_1)).length = (names_1).length) (ac (vc_len _ : ((List.map AV.str others_1)).length = (others_1).length) (ac gg_1 (ac gg_1 (ac (vc_len _ : ((List.map e_Arr2_Int stacks_1)).length = (stacks_1).length) (ac gg_1 (ac gg_1 (ac (vc_len _ : ((List.map e_Arr2_Int more_1)).length = (more_1).length) (ac gg_1 (ac gg_1 an)))))))))) ?_
      exact ⟨rfl, (sub_wkm [] [] [.s 0, .s 1, .s 2, .s 3, .a 22 (.bool (decide ((((names_1).length : Nat) : Int) > (((others_1).length : Nat) : Int)) || decide ((((stacks_1).length : Nat) : Int) > (((more_1).length : Nat) : Int))))] [] (by kernel_rfl) (ac (congrArg AV.bool (orf gg_1 rfl) : (.bool (decide ((((stacks_1).length : Nat) : Int) > (((more_1).length : Nat) : Int))) : AV) = .bool (decide ((((names_1).length : Nat) : Int) > (((others_1).length : Nat) : Int)) || decide ((((stacks_1).length : Nat) : Int) > (((more_1).length : Nat) : Int)))) an))⟩
  refine aw_cond (t := 22) (b := (decide ((((names_1).length : Nat) : Int) > (((others_1).length : Nat) : Int)) || decide ((((stacks_1).length : Nat) : Int) > (((more_1).length : Nat) : Int)))) (by kernel_rfl) (by kernel_rfl) ?_ ?_
  · intro g_1; replace h := cond_t g_1 h
    refine aw_seq (by kernel_rfl) ?_
    refine aw_region [] [8] [] 0 (vals := [.bool false]) (bxs := []) (by kernel_rfl) hmix an ?_
    refine aw_ret (by kernel_rfl) ?_
    replace h := Option.some.inj h; subst h
    exact ⟨.inr rfl, Nat.le_of_ble_eq_true rfl, by kernel_rfl⟩
  intro g_1; replace h := cond_f g_1 h
  refine aw_skip (by kernel_rfl) ?_
  refine aw_seq (by kernel_rfl) ?_
  refine aw_seq (by kernel_rfl) ?_
  refine aw_region [] [0, 1, 2, 3, 9] [] 0 (vals := [.sl false 1 (List.map AV.str names_1), .sl false 2 (List.map e_Arr2_Int stacks_1), .sl false 1 (List.map AV.str others_1), .sl false 2 (List.map e_Arr2_Int more_1), .int .i64 (0 : Int)]) (bxs := []) (by kernel_rfl) hmix an ?_
  obtain ⟨o_1, h_1, h⟩ := bind_some h
  refine aw_conv (K1 := (fun e st' => match o_1 with | (.inl q0) => e = .normal ∧ Sub 0 st' (mk [(1, .sl false 2 (List.map e_Arr2_Int stacks_1)), (3, .sl false 2 (List.map e_Arr2_Int more_1))] [] 0) | (.inr q1) => e = .ret ∧ FinR prog Go.Proofs.Try.f18 0 [] (.bool q1) st')) ?_ ?_
  · replace h := h_1
    refine aw_block (id := 0) (by kernel_rfl) ?_
    refine aw_sub (sub_wkm [] [] [.s 0, .s 1, .s 2, .s 3, .s 9] [] (sl2 := [(0, .sl false 1 (List.map AV.str names_1)), (1, .sl false 2 (List.map e_Arr2_Int stacks_1)), (2, .sl false 1 (List.map AV.str others_1)), (3, .sl false 2 (List.map e_Arr2_Int more_1)), (9, .int .i64 (0 : Int))]) (bx2 := []) (by kernel_rfl) an) ?_
    refine aw_loopF (fun n st => ∃ (i_1 : Int), st = mk [(0, .sl false 1 (List.map AV.str names_1)), (1, .sl false 2 (List.map e_Arr2_Int stacks_1)), (2, .sl false 1 (List.map AV.str others_1)), (3, .sl false 2 (List.map e_Arr2_Int more_1)), (9, .int .i64 i_1)] [] 0 ∧ R08_Begins_L1 F names_1 others_1 n i_1 = some o_1) F (by kernel_rfl) ⟨_, rfl, h⟩ ?_ ?_
    · rintro _ ⟨_, _, h⟩; exact none_ne (h : (none : Option (Unit ⊕ Bool)) = some o_1)
    rintro n_1 _ ⟨i_1, rfl, h⟩
    replace h : R08_Begins_L1_body F names_1 others_1 (R08_Begins_L1 F names_1 others_1 n_1) i_1 = some o_1 := h
    unfold R08_Begins_L1_body at h
    refine aw_seq (by kernel_rfl) ?_
    refine aw_seq (by kernel_rfl) ?_
    refine aw_region [(2, { n := (names_1).length })] [0, 1, 2, 3, 9, 26] [] 0 (vals := [.sl false 1 (List.map AV.str names_1), .sl false 2 (List.map e_Arr2_Int stacks_1), .sl false 1 (List.map AV.str others_1), .sl false 2 (List.map e_Arr2_Int more_1), .int .i64 i_1, .bool (decide (i_1 < (((names_1).length : Nat) : Int)))]) (bxs := []) (by kernel_rfl) hmix (ac (vc_len _ : ((List.map AV.str names_1)).length = (names_1).length) an) ?_
    refine aw_cond (t := 26) (b := (decide (i_1 < (((names_1).length : Nat) : Int)))) (by kernel_rfl) (by kernel_rfl) ?_ ?_
    rotate_left
    · intro g_2; replace h := cond_f g_2 h
      refine aw_exit (id := 0) (by kernel_rfl) ?_
      replace h := Option.some.inj h; subst h
      exact ⟨rfl, (sub_wkm [] [] [.s 1, .s 3] [] (by kernel_rfl) an)⟩
    intro g_2; replace h := cond_t g_2 h
    refine aw_skip (by kernel_rfl) ?_
    refine aw_seq (by kernel_rfl) ?_
    refine aw_block (id := 1) (by kernel_rfl) ?_
    refine aw_seq (by kernel_rfl) ?_
    obtain ⟨x_1, h_2, h⟩ := bind_some h
    obtain ⟨x_2, h_3, h⟩ := bind_some h
    refine aw_region [(2, { av := .str x_1 }), (6, { av := .str x_2 })] [0, 1, 2, 3, 9, 37] [] 0 (vals := [.sl false 1 (List.map AV.str names_1), .sl false 2 (List.map e_Arr2_Int stacks_1), .sl false 1 (List.map AV.str others_1), .sl false 2 (List.map e_Arr2_Int more_1), .int .i64 i_1, .bool (!(x_1 == x_2))]) (bxs := []) (by kernel_rfl) hmix (ac (vc_idx h_2 : idxA (List.map AV.str names_1) i_1 = some (.str x_1)) (ac (vc_idx h_3 : idxA (List.map AV.str others_1) i_1 = some (.str x_2)) an)) ?_
    refine aw_cond (t := 37) (b := (!(x_1 == x_2))) (by kernel_rfl) (by kernel_rfl) ?_ ?_
    rotate_left
    · intro g_3; replace h := cond_f g_3 h
      refine aw_skip (by kernel_rfl) ?_
      refine aw_region [] [0, 1, 2, 3, 9] [] 0 (vals := [.sl false 1 (List.map AV.str names_1), .sl false 2 (List.map e_Arr2_Int stacks_1), .sl false 1 (List.map AV.str others_1), .sl false 2 (List.map e_Arr2_Int more_1), .int .i64 (w_i64 (i_1 + (1 : Int)))]) (bxs := []) (by kernel_rfl) hmix an ?_
      exact ⟨_, (sub_wkm [] [] [.s 0, .s 1, .s 2, .s 3, .s 9] [] (by kernel_rfl) an), _, rfl, h⟩
    intro g_3; replace h := cond_t g_3 h
    refine aw_seq (by kernel_rfl) ?_
    refine aw_region [] [8] [] 0 (vals := [.bool false]) (bxs := []) (by kernel_rfl) hmix an ?_
    refine aw_ret (by kernel_rfl) ?_
    replace h := Option.some.inj h; subst h
    exact ⟨rfl, Nat.le_of_ble_eq_true rfl, by kernel_rfl⟩
  intro e st1 hk
  rcases o_1 with q_1 | q_2
  rotate_left
  · obtain ⟨rfl, hf⟩ := hk
    replace h := Option.some.inj h; subst h
    exact ⟨st1, Sub.refl _ _, .inr rfl, hf⟩
  obtain ⟨rfl, hs⟩ := hk
  refine ⟨_, hs, ?_⟩
  refine aw_seq (by kernel_rfl) ?_
  refine aw_seq (by kernel_rfl) ?_
  refine aw_region [] [1, 3, 10] [] 0 (vals := [.sl false 2 (List.map e_Arr2_Int stacks_1), .sl false 2 (List.map e_Arr2_Int more_1), .int .i64 (0 : Int)]) (bxs := []) (by kernel_rfl) hmix an ?_
  obtain ⟨o_2, h_4, h⟩ := bind_some h
  refine aw_conv (K1 := (fun e st' => match o_2 with | (.inl q0) => e = .normal ∧ Sub 0 st' (mk [] [] 0) | (.inr q1) => e = .ret ∧ FinR prog Go.Proofs.Try.f18 0 [] (.bool q1) st')) ?_ ?_
  · replace h := h_4
    refine aw_block (id := 2) (by kernel_rfl) ?_
    refine aw_sub (sub_wkm [] [] [.s 1, .s 3, .s 10] [] (sl2 := [(1, .sl false 2 (List.map e_Arr2_Int stacks_1)), (3, .sl false 2 (List.map e_Arr2_Int more_1)), (10, .int .i64 (0 : Int))]) (bx2 := []) (by kernel_rfl) an) ?_
    refine aw_loopF (fun n st => ∃ (i_2 : Int), st = mk [(1, .sl false 2 (List.map e_Arr2_Int stacks_1)), (3, .sl false 2 (List.map e_Arr2_Int more_1)), (10, .int .i64 i_2)] [] 0 ∧ R08_Begins_L2 F stacks_1 more_1 n i_2 = some o_2) F (by kernel_rfl) ⟨_, rfl, h⟩ ?_ ?_
    · rintro _ ⟨_, _, h⟩; exact none_ne (h : (none : Option (Unit ⊕ Bool)) = some o_2)
    rintro n_2 _ ⟨i_2, rfl, h⟩
    replace h : R08_Begins_L2_body F stacks_1 more_1 (R08_Begins_L2 F stacks_1 more_1 n_2) i_2 = some o_2 := h
    unfold R08_Begins_L2_body at h
    refine aw_seq (by kernel_rfl) ?_
    refine aw_seq (by kernel_rfl) ?_
    refine aw_region [(2, { n := (stacks_1).length })] [1, 3, 10, 41] [] 0 (vals := [.sl false 2 (List.map e_Arr2_Int stacks_1), .sl false 2 (List.map e_Arr2_Int more_1), .int .i64 i_2, .bool (decide (i_2 < (((stacks_1).length : Nat) : Int)))]) (bxs := []) (by kernel_rfl) hmix (ac (vc_len _ : ((List.map e_Arr2_Int stacks_1)).length = (stacks_1).length) an) ?_
    refine aw_cond (t := 41) (b := (decide (i_2 < (((stacks_1).length : Nat) : Int)))) (by kernel_rfl) (by kernel_rfl) ?_ ?_
    rotate_left
    · intro g_4; replace h := cond_f g_4 h
      refine aw_exit (id := 2) (by kernel_rfl) ?_
      replace h := Option.some.inj h; subst h
      exact ⟨rfl, (sub_wkm [] [] [] [] (by kernel_rfl) an)⟩
    intro g_4; replace h := cond_t g_4 h
    refine aw_skip (by kernel_rfl) ?_
    refine aw_seq (by kernel_rfl) ?_
    refine aw_block (id := 3) (by kernel_rfl) ?_
    refine aw_seq (by kernel_rfl) ?_
    obtain ⟨x_3, h_5, h⟩ := bind_some h
    obtain ⟨x_4, h_6, h⟩ := bind_some h
    refine aw_region [(2, { av := .agg [.int .i64 x_3.c0, .int .i64 x_3.c1] }), (6, { av := .agg [.int .i64 x_4.c0, .int .i64 x_4.c1] }), (8, { b := (decide (x_3 = x_4)), mks := [.int .i64, .int .i64] })] [1, 3, 10, 52] [] 0 (vals := [.sl false 2 (List.map e_Arr2_Int stacks_1), .sl false 2 (List.map e_Arr2_Int more_1), .int .i64 i_2, .bool (!(decide (x_3 = x_4)))]) (bxs := []) (by kernel_rfl) hmix (ac (vc_idx h_5 : idxA (List.map e_Arr2_Int stacks_1) i_2 = some (.agg [.int .i64 x_3.c0, .int .i64 x_3.c1])) (ac (vc_idx h_6 : idxA (List.map e_Arr2_Int more_1) i_2 = some (.agg [.int .i64 x_4.c0, .int .i64 x_4.c1])) (ac (eqOk_67 : EqOk prog 67 [.int .i64, .int .i64]) (ac (vc_eqA (f := e_Arr2_Int) inj_Arr2_Int x_3 x_4 : ((decide (x_3 = x_4)) = true ↔ AV.agg [.int .i64 x_3.c0, .int .i64 x_3.c1] = AV.agg [.int .i64 x_4.c0, .int .i64 x_4.c1])) an)))) ?_
    refine aw_cond (t := 52) (b := (!(decide (x_3 = x_4)))) (by kernel_rfl) (by kernel_rfl) ?_ ?_
    rotate_left
    · intro g_5; replace h := cond_f g_5 h
      refine aw_skip (by kernel_rfl) ?_
      refine aw_region [] [1, 3, 10] [] 0 (vals := [.sl false 2 (List.map e_Arr2_Int stacks_1), .sl false 2 (List.map e_Arr2_Int more_1), .int .i64 (w_i64 (i_2 + (1 : Int)))]) (bxs := []) (by kernel_rfl) hmix an ?_
      exact ⟨_, (sub_wkm [] [] [.s 1, .s 3, .s 10] [] (by kernel_rfl) an), _, rfl, h⟩
    intro g_5; replace h := cond_t g_5 h
    refine aw_seq (by kernel_rfl) ?_
    refine aw_region [] [8] [] 0 (vals := [.bool false]) (bxs := []) (by kernel_rfl) hmix an ?_
    refine aw_ret (by kernel_rfl) ?_
    replace h := Option.some.inj h; subst h
    exact ⟨rfl, Nat.le_of_ble_eq_true rfl, by kernel_rfl⟩
  intro e st1 hk
  rcases o_2 with q_3 | q_4
  rotate_left
  · obtain ⟨rfl, hf⟩ := hk
    replace h := Option.some.inj h; subst h
    exact ⟨st1, Sub.refl _ _, .inr rfl, hf⟩
  obtain ⟨rfl, hs⟩ := hk
  refine ⟨_, hs, ?_⟩
  refine aw_seq (by kernel_rfl) ?_
  refine aw_region [] [8] [] 0 (vals := [.bool true]) (bxs := []) (by kernel_rfl) hmix an ?_
  refine aw_ret (by kernel_rfl) ?_
  replace h := Option.some.inj h; subst h
  exact ⟨.inr rfl, Nat.le_of_ble_eq_true rfl, by kernel_rfl⟩

theorem R08_SameTables_ok (F : Nat) (names_1 : List (List Int)) (stacks_1 : List (Arr2_Int)) (others_1 : List (List Int)) (more_1 : List (Arr2_Int)) (r : Bool) (h : R08_SameTables F names_1 stacks_1 others_1 more_1 = some r) : TripleG prog 13 [] [] [.sl false 1 (List.map AV.str names_1), .sl false 2 (List.map e_Arr2_Int stacks_1), .sl false 1 (List.map AV.str others_1), .sl false 2 (List.map e_Arr2_Int more_1)] [] (.bool r) := by
  refine triple_intro (fn := Go.Proofs.Try.f13) (code := codeOf Go.Proofs.Try.f13) (by kernel_rfl) (by kernel_rfl) (Nat.le_of_ble_eq_true (by kernel_rfl)) ?_
  unfold R08_SameTables at h
  refine aw_seq (by kernel_rfl) ?_
  refine aw_region [] [0, 1, 2, 3] [] 0 (vals := [.sl false 1 (List.map AV.str names_1), .sl false 2 (List.map e_Arr2_Int stacks_1), .sl false 1 (List.map AV.str others_1), .sl false 2 (List.map e_Arr2_Int more_1)]) (bxs := []) (by kernel_rfl) hmix an ?_
  refine aw_seq (by kernel_rfl) ?_
  refine aw_seq (by kernel_rfl) ?_
  refine aw_mid (mk [(0, .sl false 1 (List.map AV.str names_1)), (1, .sl false 2 (List.map e_Arr2_Int stacks_1)), (2, .sl false 1 (List.map AV.str others_1)), (3, .sl false 2 (List.map e_Arr2_Int more_1)), (20, .bool (((((names_1).length : Nat) : Int) != (((others_1).length : Nat) : Int)) || ((((stacks_1).length : Nat) : Int) != (((more_1).length : Nat) : Int))))] [] 0) ?_ ?_
  · rcases Bool.eq_false_or_eq_true ((((names_1).length : Nat) : Int) != (((others_1).length : Nat) : Int)) with gg_1 | gg_1
    · refine aw_region [(1, { n := (names_1).length }), (3, { n := (others_1).length }), (6, { g := false }), (7, { g := false }), (8, { g := false }), (9, { g := false }), (10, { g := false }), (11, { b := true })] [0, 1, 2, 3, 20] [] 0 (vals := [.sl false 1 (List.map AV.str names_1), .sl false 2 (List.map e_Arr2_Int stacks_1), .sl false 1 (List.map AV.str others_1), .sl false 2 (List.map e_Arr2_Int more_1), .bool true]) (bxs := []) (by kernel_rfl) hmix (ac (vc_len _ : ((List.map AV.str names_1)).length = (names_1).length) (ac (vc_len _ : ((List.map AV.str others_1)).length = (others_1).length) (ac gg_1 (ac gg_1 (ac gg_1 (ac gg_1 (ac gg_1 (ac gg_1 an)))))))) ?_
      exact ⟨rfl, (sub_wkm [] [] [.s 0, .s 1, .s 2, .s 3, .a 20 (.bool (((((names_1).length : Nat) : Int) != (((others_1).length : Nat) : Int)) || ((((stacks_1).length : Nat) : Int) != (((more_1).length : Nat) : Int))))] [] (by kernel_rfl) (ac (congrArg AV.bool (ort gg_1) : (.bool true : AV) = .bool (((((names_1).length : Nat) : Int) != (((others_1).length : Nat) : Int)) || ((((stacks_1).length : Nat) : Int) != (((more_1).length : Nat) : Int)))) an))⟩
    · refine aw_region [(1, { n := (names_1).length }), (3, { n := (others_1).length }), (7, { n := (stacks_1).length }), (9, { n := (more_1).length }), (11, { b := false })] [0, 1, 2, 3, 20] [] 0 (vals := [.sl false 1 (List.map AV.str names_1), .sl false 2 (List.map e_Arr2_Int stacks_1), .sl false 1 (List.map AV.str others_1), .sl false 2 (List.map e_Arr2_Int more_1), .bool ((((stacks_1).length : Nat) : Int) != (((more_1).length : Nat) : Int))]) (bxs := []) (by kernel_rfl) hmix (ac (vc_len _ : ((List.map AV.str names_1)).length = (names_1).length) (ac (vc_len _ : ((List.map AV.str others_1)).length = (others_1).length) (ac gg_1 (ac gg_1 (ac (vc_len _ : ((List.map e_Arr2_Int stacks_1)).length = (stacks_1).length) (ac gg_1 (ac gg_1 (ac (vc_len _ : ((List.map e_Arr2_Int more_1)).length = (more_1).length) (ac gg_1 (ac gg_1 an)))))))))) ?_
      exact ⟨rfl, (sub_wkm [] [] [.s 0, .s 1, .s 2, .s 3, .a 20 (.bool (((((names_1).length : Nat) : Int) != (((others_1).length : Nat) : Int)) || ((((stacks_1).length : Nat) : Int) != (((more_1).length : Nat) : Int))))] [] (by kernel_rfl) (ac (congrArg AV.bool (orf gg_1 rfl) : (.bool ((((stacks_1).length : Nat) : Int) != (((more_1).length : Nat) : Int)) : AV) = .bool (((((names_1).length : Nat) : Int) != (((others_1).length : Nat) : Int)) || ((((stacks_1).length : Nat) : Int) != (((more_1).length : Nat) : Int)))) an))⟩
  refine aw_cond (t := 20) (b := (((((names_1).length : Nat) : Int) != (((others_1).length : Nat) : Int)) || ((((stacks_1).length : Nat) : Int) != (((more_1).length : Nat) : Int)))) (by kernel_rfl) (by kernel_rfl) ?_ ?_
  · intro g_1; replace h := cond_t g_1 h
    refine aw_seq (by kernel_rfl) ?_
    refine aw_region [] [8] [] 0 (vals := [.bool false]) (bxs := []) (by kernel_rfl) hmix an ?_
    refine aw_ret (by kernel_rfl) ?_
    replace h := Option.some.inj h; subst h
    exact ⟨.inr rfl, Nat.le_of_ble_eq_true rfl, by kernel_rfl⟩
  intro g_1; replace h := cond_f g_1 h
  refine aw_skip (by kernel_rfl) ?_
  refine aw_seq (by kernel_rfl) ?_
  obtain ⟨r_1, h_1, h⟩ := bind_some h
  refine aw_region [(4, { av := .bool r_1, l := [.sl false 1 (List.map AV.str names_1), .sl false 2 (List.map e_Arr2_Int stacks_1), .sl false 1 (List.map AV.str others_1), .sl false 2 (List.map e_Arr2_Int more_1)] })] [8] [] 0 (vals := [.bool r_1]) (bxs := []) (by kernel_rfl) hmix (ac (rfl : ([.sl false 1 (List.map AV.str names_1), .sl false 2 (List.map e_Arr2_Int stacks_1), .sl false 1 (List.map AV.str others_1), .sl false 2 (List.map e_Arr2_Int more_1)] : List AV) = [.sl false 1 (List.map AV.str names_1), .sl false 2 (List.map e_Arr2_Int stacks_1), .sl false 1 (List.map AV.str others_1), .sl false 2 (List.map e_Arr2_Int more_1)]) (ac (rfl : ([] : List BoxSt) = []) (ac (R08_Begins_ok F names_1 stacks_1 others_1 more_1 r_1 h_1 : TripleG prog 18 [] [] [.sl false 1 (List.map AV.str names_1), .sl false 2 (List.map e_Arr2_Int stacks_1), .sl false 1 (List.map AV.str others_1), .sl false 2 (List.map e_Arr2_Int more_1)] [] (.bool r_1)) an))) ?_
  refine aw_ret (by kernel_rfl) ?_
  replace h := Option.some.inj h; subst h
  exact ⟨.inr rfl, Nat.le_of_ble_eq_true rfl, by kernel_rfl⟩

end Go.Ab
