/- Printed: the typed Lean functions of the Go functions, or the proofs that the Go functions meet them. No conditions but those that the theorems name. -/
import Derived.Test.YtngjbadoekamcaaP06x2
namespace Go.Ab
open Go
set_option linter.unusedVariables false
theorem R06_PutStack_ok (F : Nat) (names_1 : List (List Int)) (stacks_1 : List (Arr2_Int)) (l_1 : List (List Int)) (r : Int × (List (List Int)) × (List (Arr2_Int)) × Int) (h : R06_PutStack F names_1 stacks_1 l_1 = some r) : Triple prog 22 [] [.sl false 1 (List.map AV.str names_1), .sl false 2 (List.map e_Arr2_Int stacks_1), .sl false 1 (List.map AV.str l_1)] [] (.tuple [.int .i64 r.1, .sl false 1 (List.map AV.str r.2.1), .sl false 2 (List.map e_Arr2_Int r.2.2.1), .int .i64 r.2.2.2]) := by
  refine triple_intro (fn := Go.Proofs.Try.f22) (code := codeOf Go.Proofs.Try.f22) (by kernel_rfl) (by kernel_rfl) (Nat.le_of_ble_eq_true (by kernel_rfl)) ?_
  unfold R06_PutStack at h
  refine aw_seq (by kernel_rfl) ?_
  refine aw_region [] [0, 1, 2] [] 0 (vcs := []) (vals := [.sl false 1 (List.map AV.str names_1), .sl false 2 (List.map e_Arr2_Int stacks_1), .sl false 1 (List.map AV.str l_1)]) (bxs := []) (by kernel_rfl) hmix trivial ?_
  refine aw_seq (by kernel_rfl) ?_
  obtain ⟨r_1, h_1, h⟩ := bind_some h
  refine aw_region [(1, { av := .int .i64 r_1, l := [.sl false 1 (List.map AV.str l_1)] })] [0, 1, 2, 10] [] 0 (vcs := [([.sl false 1 (List.map AV.str l_1)] : List AV) = [.sl false 1 (List.map AV.str l_1)], ([] : List BoxSt) = [], Triple prog 15 [] [.sl false 1 (List.map AV.str l_1)] [] (.int .i64 r_1)]) (vals := [.sl false 1 (List.map AV.str names_1), .sl false 2 (List.map e_Arr2_Int stacks_1), .sl false 1 (List.map AV.str l_1), .int .i64 r_1]) (bxs := []) (by kernel_rfl) hmix ⟨rfl, rfl, (R06_Frames_ok F l_1 r_1 h_1), trivial⟩ ?_
  refine aw_seq (by kernel_rfl) ?_
  refine aw_seq (by kernel_rfl) ?_
  refine aw_region [] [0, 1, 2, 10, 22] [] 0 (vcs := []) (vals := [.sl false 1 (List.map AV.str names_1), .sl false 2 (List.map e_Arr2_Int stacks_1), .sl false 1 (List.map AV.str l_1), .int .i64 r_1, .bool (r_1 != (0 : Int))]) (bxs := []) (by kernel_rfl) hmix trivial ?_
  refine aw_cond (t := 22) (b := (r_1 != (0 : Int))) (by kernel_rfl) (by kernel_rfl) ?_ ?_
  · intro g_1; replace h := cond_t g_1 h
    refine aw_seq (by kernel_rfl) ?_
    refine aw_region [] [6, 7, 8, 9] [] 0 (vcs := []) (vals := [.int .i64 (0 : Int), .sl false 1 (List.map AV.str names_1), .sl false 2 (List.map e_Arr2_Int stacks_1), .int .i64 r_1]) (bxs := []) (by kernel_rfl) hmix trivial ?_
    refine aw_ret (by kernel_rfl) ?_
    replace h := Option.some.inj h; subst h
    exact ⟨.inr rfl, Nat.le_of_ble_eq_true rfl, by kernel_rfl⟩
  intro g_1; replace h := cond_f g_1 h
  refine aw_skip (by kernel_rfl) ?_
  refine aw_seq (by kernel_rfl) ?_
  refine aw_region [] [0, 1, 2, 11] [] 0 (vcs := []) (vals := [.sl false 1 (List.map AV.str names_1), .sl false 2 (List.map e_Arr2_Int stacks_1), .sl false 1 (List.map AV.str l_1), .int .i64 (-1 : Int)]) (bxs := []) (by kernel_rfl) hmix trivial ?_
  refine aw_seq (by kernel_rfl) ?_
  refine aw_region [] [0, 1, 2, 11, 12] [] 0 (vcs := []) (vals := [.sl false 1 (List.map AV.str names_1), .sl false 2 (List.map e_Arr2_Int stacks_1), .sl false 1 (List.map AV.str l_1), .int .i64 (-1 : Int), .sl false 1 (List.map AV.str names_1)]) (bxs := []) (by kernel_rfl) hmix trivial ?_
  refine aw_seq (by kernel_rfl) ?_
  obtain ⟨_, h_2, h⟩ := bind_some h; replace h_2 := need_some h_2
  refine aw_region [(0, { id := 0 }), (2, { id := 1, l := (List.map e_Arr2_Int ([] ++ stacks_1)), n := (([] ++ stacks_1)).length })] [0, 1, 2, 11, 12, 13] [1] 2 (vcs := [0 = (([] : List AV)).length, True, (List.map e_Arr2_Int ([] ++ stacks_1)) = [] ++ (List.map e_Arr2_Int stacks_1), (([] ++ stacks_1)).length = ((List.map e_Arr2_Int ([] ++ stacks_1))).length, (([] : List AV).length + ((List.map e_Arr2_Int stacks_1) : List AV).length) * 16 ≤ 140737488355328]) (vals := [.sl false 1 (List.map AV.str names_1), .sl false 2 (List.map e_Arr2_Int stacks_1), .sl false 1 (List.map AV.str l_1), .int .i64 (-1 : Int), .sl false 1 (List.map AV.str names_1), .own 1 ((([] ++ stacks_1)).length)]) (bxs := [.live (.row 46 2 (List.map e_Arr2_Int ([] ++ stacks_1)))]) (by kernel_rfl) hmix ⟨(by first | (simp; done) | (simp; omega)), trivial, (by simp), (by simp), (by simpa using h_2), trivial⟩ ?_
  refine aw_seq (by kernel_rfl) ?_
  refine aw_seq (by kernel_rfl) ?_
  refine aw_region [] [0, 1, 2, 11, 12, 13, 14] [1] 2 (vcs := []) (vals := [.sl false 1 (List.map AV.str names_1), .sl false 2 (List.map e_Arr2_Int stacks_1), .sl false 1 (List.map AV.str l_1), .int .i64 (-1 : Int), .sl false 1 (List.map AV.str names_1), .own 1 ((([] ++ stacks_1)).length), .int .i64 (0 : Int)]) (bxs := [.live (.row 46 2 (List.map e_Arr2_Int ([] ++ stacks_1)))]) (by kernel_rfl) hmix trivial ?_
  obtain ⟨o_1, h_3, h⟩ := bind_some h
  refine aw_conv (K1 := (fun e st' => match o_1 with | (.inl q0) => e = .normal ∧ Sub 0 st' (mk [(11, .int .i64 q0.1), (12, .sl false 1 (List.map AV.str q0.2.1)), (13, .own 0 ((q0.2.2).length))] [(0, .live (.row 46 2 (List.map e_Arr2_Int q0.2.2)))] 1) | (.inr q1) => e = .ret ∧ FinR prog Go.Proofs.Try.f22 0 [] (.tuple [.int .i64 q1.1, .sl false 1 (List.map AV.str q1.2.1), .sl false 2 (List.map e_Arr2_Int q1.2.2.1), .int .i64 q1.2.2.2]) st')) ?_ ?_
  · replace h := h_3
    refine aw_block (id := 0) (by kernel_rfl) ?_
    refine aw_sub (sub_wk [1] [] [(0, .sl false 1 (List.map AV.str names_1)), (1, .sl false 2 (List.map e_Arr2_Int stacks_1)), (2, .sl false 1 (List.map AV.str l_1)), (11, .int .i64 (-1 : Int)), (12, .sl false 1 (List.map AV.str names_1)), (13, .own 0 ((([] ++ stacks_1)).length)), (14, .int .i64 (0 : Int))] [(0, .live (.row 46 2 (List.map e_Arr2_Int ([] ++ stacks_1))))] (vcs := [(1 = 1 : Prop), (((List.map AV.str names_1) : List AV) = (List.map AV.str names_1) : Prop), ((!false || false) = true : Prop), (2 = 2 : Prop), (((List.map e_Arr2_Int stacks_1) : List AV) = (List.map e_Arr2_Int stacks_1) : Prop), ((!false || false) = true : Prop), (1 = 1 : Prop), (((List.map AV.str l_1) : List AV) = (List.map AV.str l_1) : Prop), ((!false || false) = true : Prop), ((.int .i64 (-1 : Int) : AV) = .int .i64 (-1 : Int) : Prop), (1 = 1 : Prop), (((List.map AV.str names_1) : List AV) = (List.map AV.str names_1) : Prop), ((!false || false) = true : Prop), ((.own 1 ((([] ++ stacks_1)).length) : AV) = .own 1 ((([] ++ stacks_1)).length) : Prop), ((.int .i64 (0 : Int) : AV) = .int .i64 (0 : Int) : Prop), (46 = 46 : Prop), (2 = 2 : Prop), (((List.map e_Arr2_Int ([] ++ stacks_1)) : List AV) = (List.map e_Arr2_Int ([] ++ stacks_1)) : Prop)]) (by kernel_rfl) ⟨rfl, rfl, rfl, rfl, rfl, rfl, rfl, rfl, rfl, rfl, rfl, rfl, rfl, rfl, rfl, rfl, rfl, rfl, trivial⟩) ?_
    refine aw_loopF (fun n st => ∃ (at__1 : Int), ∃ (n_1 : List (List Int)), ∃ (k_1 : Int), ∃ (row_1 : List Arr2_Int), st = mk [(0, .sl false 1 (List.map AV.str names_1)), (1, .sl false 2 (List.map e_Arr2_Int stacks_1)), (2, .sl false 1 (List.map AV.str l_1)), (11, .int .i64 at__1), (12, .sl false 1 (List.map AV.str n_1)), (13, .own 0 ((row_1).length)), (14, .int .i64 k_1)] [(0, .live (.row 46 2 (List.map e_Arr2_Int row_1)))] 1 ∧ R06_PutStack_L1 F names_1 stacks_1 l_1 n at__1 n_1 k_1 row_1 = some o_1) F (by kernel_rfl) ⟨_, _, _, _, rfl, h⟩ ?_ ?_
    · rintro _ ⟨_, _, _, _, _, h⟩; exact none_ne (h : (none : Option ((Int × (List (List Int)) × (List Arr2_Int)) ⊕ (Int × (List (List Int)) × (List (Arr2_Int)) × Int))) = some o_1)
    rintro n_2 _ ⟨at__1, n_1, k_1, row_1, rfl, h⟩
    replace h : R06_PutStack_L1_body F names_1 stacks_1 l_1 (R06_PutStack_L1 F names_1 stacks_1 l_1 n_2) at__1 n_1 k_1 row_1 = some o_1 := h
    unfold R06_PutStack_L1_body at h
    refine aw_seq (by kernel_rfl) ?_
    refine aw_seq (by kernel_rfl) ?_
    refine aw_region [(2, { n := (l_1).length })] [0, 1, 2, 11, 12, 13, 14, 33] [0] 1 (vcs := [((List.map AV.str l_1)).length = (l_1).length]) (vals := [.sl false 1 (List.map AV.str names_1), .sl false 2 (List.map e_Arr2_Int stacks_1), .sl false 1 (List.map AV.str l_1), .int .i64 at__1, .sl false 1 (List.map AV.str n_1), .own 0 ((row_1).length), .int .i64 k_1, .bool (decide (k_1 < (((l_1).length : Nat) : Int)))]) (bxs := [.live (.row 46 2 (List.map e_Arr2_Int row_1))]) (by kernel_rfl) hmix ⟨(vc_len _), trivial⟩ ?_
    refine aw_cond (t := 33) (b := (decide (k_1 < (((l_1).length : Nat) : Int)))) (by kernel_rfl) (by kernel_rfl) ?_ ?_
    rotate_left
    · intro g_2; replace h := cond_f g_2 h
      refine aw_exit (id := 0) (by kernel_rfl) ?_
      replace h := Option.some.inj h; subst h
      exact ⟨rfl, (sub_wk [0] [] [(11, .int .i64 at__1), (12, .sl false 1 (List.map AV.str n_1)), (13, .own 0 ((row_1).length))] [(0, .live (.row 46 2 (List.map e_Arr2_Int row_1)))] (vcs := [((.int .i64 at__1 : AV) = .int .i64 at__1 : Prop), (1 = 1 : Prop), (((List.map AV.str n_1) : List AV) = (List.map AV.str n_1) : Prop), ((!false || false) = true : Prop), ((.own 0 ((row_1).length) : AV) = .own 0 ((row_1).length) : Prop), (46 = 46 : Prop), (2 = 2 : Prop), (((List.map e_Arr2_Int row_1) : List AV) = (List.map e_Arr2_Int row_1) : Prop)]) (by kernel_rfl) ⟨rfl, rfl, rfl, rfl, rfl, rfl, rfl, rfl, trivial⟩)⟩
    intro g_2; replace h := cond_t g_2 h
    refine aw_skip (by kernel_rfl) ?_
    refine aw_seq (by kernel_rfl) ?_
    obtain ⟨o_2, h_4, h⟩ := bind_some h
    refine aw_conv (K1 := (fun e st' => match o_2 with | (.inl q0) => e = .normal ∧ Sub 0 st' (mk [(0, .sl false 1 (List.map AV.str names_1)), (1, .sl false 2 (List.map e_Arr2_Int stacks_1)), (2, .sl false 1 (List.map AV.str l_1)), (11, .int .i64 q0.1), (12, .sl false 1 (List.map AV.str q0.2.1)), (13, .own 0 ((q0.2.2).length)), (14, .int .i64 k_1)] [(0, .live (.row 46 2 (List.map e_Arr2_Int q0.2.2)))] 1) | (.inr q1) => e = .ret ∧ FinR prog Go.Proofs.Try.f22 0 [] (.tuple [.int .i64 q1.1, .sl false 1 (List.map AV.str q1.2.1), .sl false 2 (List.map e_Arr2_Int q1.2.2.1), .int .i64 q1.2.2.2]) st')) ?_ ?_
    · replace h := h_4
      refine aw_block (id := 1) (by kernel_rfl) ?_
      refine aw_seq (by kernel_rfl) ?_
      obtain ⟨x_1, h_5, h⟩ := bind_some h
      obtain ⟨r_2, h_6, h⟩ := bind_some h
      refine aw_region [(3, { av := .str x_1 }), (5, { av := .tuple [.int .i64 r_2.1, .sl false 1 (List.map AV.str r_2.2.1), .int .i64 r_2.2.2], l := [.sl false 1 (List.map AV.str n_1), .str x_1] })] [0, 1, 2, 11, 13, 14, 15, 16, 17] [0] 1 (vcs := [idxA (List.map AV.str l_1) k_1 = some (.str x_1), ([.sl false 1 (List.map AV.str n_1), .str x_1] : List AV) = [.sl false 1 (List.map AV.str n_1), .str x_1], ([] : List BoxSt) = [], Triple prog 20 [] [.sl false 1 (List.map AV.str n_1), .str x_1] [] (.tuple [.int .i64 r_2.1, .sl false 1 (List.map AV.str r_2.2.1), .int .i64 r_2.2.2])]) (vals := [.sl false 1 (List.map AV.str names_1), .sl false 2 (List.map e_Arr2_Int stacks_1), .sl false 1 (List.map AV.str l_1), .int .i64 at__1, .own 0 ((row_1).length), .int .i64 k_1, .int .i64 r_2.1, .sl false 1 (List.map AV.str r_2.2.1), .int .i64 r_2.2.2]) (bxs := [.live (.row 46 2 (List.map e_Arr2_Int row_1))]) (by kernel_rfl) hmix ⟨(vc_idx h_5), rfl, rfl, (R06_Put_ok F n_1 x_1 r_2 h_6), trivial⟩ ?_
      refine aw_seq (by kernel_rfl) ?_
      refine aw_seq (by kernel_rfl) ?_
      refine aw_region [] [0, 1, 2, 11, 13, 14, 15, 16, 17, 47] [0] 1 (vcs := []) (vals := [.sl false 1 (List.map AV.str names_1), .sl false 2 (List.map e_Arr2_Int stacks_1), .sl false 1 (List.map AV.str l_1), .int .i64 at__1, .own 0 ((row_1).length), .int .i64 k_1, .int .i64 r_2.1, .sl false 1 (List.map AV.str r_2.2.1), .int .i64 r_2.2.2, .bool (r_2.2.2 != (0 : Int))]) (bxs := [.live (.row 46 2 (List.map e_Arr2_Int row_1))]) (by kernel_rfl) hmix trivial ?_
      refine aw_cond (t := 47) (b := (r_2.2.2 != (0 : Int))) (by kernel_rfl) (by kernel_rfl) ?_ ?_
      · intro g_3; replace h := cond_t g_3 h
        refine aw_seq (by kernel_rfl) ?_
        refine aw_region [] [6, 7, 8, 9] [] 1 (vcs := []) (vals := [.int .i64 (0 : Int), .sl false 1 (List.map AV.str names_1), .sl false 2 (List.map e_Arr2_Int stacks_1), .int .i64 r_2.2.2]) (bxs := []) (by kernel_rfl) hmix trivial ?_
        refine aw_ret (by kernel_rfl) ?_
        replace h := Option.some.inj h; subst h
        exact ⟨rfl, Nat.le_of_ble_eq_true rfl, by kernel_rfl⟩
      intro g_3; replace h := cond_f g_3 h
      refine aw_skip (by kernel_rfl) ?_
      refine aw_seq (by kernel_rfl) ?_
      refine aw_region [] [0, 1, 2, 11, 12, 13, 14, 15] [0] 1 (vcs := []) (vals := [.sl false 1 (List.map AV.str names_1), .sl false 2 (List.map e_Arr2_Int stacks_1), .sl false 1 (List.map AV.str l_1), .int .i64 at__1, .sl false 1 (List.map AV.str r_2.2.1), .own 0 ((row_1).length), .int .i64 k_1, .int .i64 r_2.1]) (bxs := [.live (.row 46 2 (List.map e_Arr2_Int row_1))]) (by kernel_rfl) hmix trivial ?_
      refine aw_seq (by kernel_rfl) ?_
      refine aw_region [(3, { id := 1 })] [0, 1, 2, 12, 13, 14, 18] [0, 1] 2 (vcs := []) (vals := [.sl false 1 (List.map AV.str names_1), .sl false 2 (List.map e_Arr2_Int stacks_1), .sl false 1 (List.map AV.str l_1), .sl false 1 (List.map AV.str r_2.2.1), .own 0 ((row_1).length), .int .i64 k_1, .ptr 1 0 0 0]) (bxs := [.live (.row 46 2 (List.map e_Arr2_Int row_1)), .live (.var 46 [.int .i64 at__1, .int .i64 r_2.1])]) (by kernel_rfl) hmix trivial ?_
      refine aw_seq (by kernel_rfl) ?_
      obtain ⟨r_3, h_7, h⟩ := bind_some h
      refine aw_region [(2, { av := .int .i64 r_3, l := [.sl false 2 (List.map e_Arr2_Int row_1), .agg [.int .i64 at__1, .int .i64 r_2.1]], lend := [0] })] [0, 1, 2, 11, 12, 13, 14, 18] [0, 1] 2 (vcs := [(row_1).length = ((List.map e_Arr2_Int row_1)).length, ([.sl false 2 (List.map e_Arr2_Int row_1), .agg [.int .i64 at__1, .int .i64 r_2.1]] : List AV) = [.sl false 2 (List.map e_Arr2_Int row_1), .agg [.int .i64 at__1, .int .i64 r_2.1]], ([] : List BoxSt) = [], Triple prog 30 [] [.sl false 2 (List.map e_Arr2_Int row_1), .agg [.int .i64 at__1, .int .i64 r_2.1]] [] (.int .i64 r_3)]) (vals := [.sl false 1 (List.map AV.str names_1), .sl false 2 (List.map e_Arr2_Int stacks_1), .sl false 1 (List.map AV.str l_1), .int .i64 r_3, .sl false 1 (List.map AV.str r_2.2.1), .own 0 ((row_1).length), .int .i64 k_1, .ptr 1 0 0 0]) (bxs := [.live (.row 46 2 (List.map e_Arr2_Int row_1)), .live (.var 46 [.int .i64 at__1, .int .i64 r_2.1])]) (by kernel_rfl) hmix ⟨(by first | (simp; done) | (simp; omega)), rfl, rfl, (triple_lo (args' := [.sl false 2 (List.map e_Arr2_Int row_1), .agg [.int .i64 ((⟨at__1, r_2.1⟩ : Arr2_Int).c0), .int .i64 ((⟨at__1, r_2.1⟩ : Arr2_Int).c1)]]) (R06_FindStack_ok F row_1 (⟨at__1, r_2.1⟩ : Arr2_Int) r_3 h_7) rfl ⟨rfl, rfl, rfl, rfl, rfl, trivial⟩), trivial⟩ ?_
      refine aw_seq (by kernel_rfl) ?_
      refine aw_seq (by kernel_rfl) ?_
      refine aw_region [] [0, 1, 2, 11, 12, 13, 14, 18, 59] [0, 1] 2 (vcs := []) (vals := [.sl false 1 (List.map AV.str names_1), .sl false 2 (List.map e_Arr2_Int stacks_1), .sl false 1 (List.map AV.str l_1), .int .i64 r_3, .sl false 1 (List.map AV.str r_2.2.1), .own 0 ((row_1).length), .int .i64 k_1, .ptr 1 0 0 0, .bool (decide (r_3 ≥ (0 : Int)))]) (bxs := [.live (.row 46 2 (List.map e_Arr2_Int row_1)), .live (.var 46 [.int .i64 at__1, .int .i64 r_2.1])]) (by kernel_rfl) hmix trivial ?_
      refine aw_cond (t := 59) (b := (decide (r_3 ≥ (0 : Int)))) (by kernel_rfl) (by kernel_rfl) ?_ ?_
      · intro g_4; replace h := cond_t g_4 h
        refine aw_exit (id := 1) (by kernel_rfl) ?_
        replace h := Option.some.inj h; subst h
        exact ⟨rfl, (sub_wk [0] [] [(0, .sl false 1 (List.map AV.str names_1)), (1, .sl false 2 (List.map e_Arr2_Int stacks_1)), (2, .sl false 1 (List.map AV.str l_1)), (11, .int .i64 r_3), (12, .sl false 1 (List.map AV.str r_2.2.1)), (13, .own 0 ((row_1).length)), (14, .int .i64 k_1)] [(0, .live (.row 46 2 (List.map e_Arr2_Int row_1)))] (vcs := [(1 = 1 : Prop), (((List.map AV.str names_1) : List AV) = (List.map AV.str names_1) : Prop), ((!false || false) = true : Prop), (2 = 2 : Prop), (((List.map e_Arr2_Int stacks_1) : List AV) = (List.map e_Arr2_Int stacks_1) : Prop), ((!false || false) = true : Prop), (1 = 1 : Prop), (((List.map AV.str l_1) : List AV) = (List.map AV.str l_1) : Prop), ((!false || false) = true : Prop), ((.int .i64 r_3 : AV) = .int .i64 r_3 : Prop), (1 = 1 : Prop), (((List.map AV.str r_2.2.1) : List AV) = (List.map AV.str r_2.2.1) : Prop), ((!false || false) = true : Prop), ((.own 0 ((row_1).length) : AV) = .own 0 ((row_1).length) : Prop), ((.int .i64 k_1 : AV) = .int .i64 k_1 : Prop), (46 = 46 : Prop), (2 = 2 : Prop), (((List.map e_Arr2_Int row_1) : List AV) = (List.map e_Arr2_Int row_1) : Prop)]) (by kernel_rfl) ⟨rfl, rfl, rfl, rfl, rfl, rfl, rfl, rfl, rfl, rfl, rfl, rfl, rfl, rfl, rfl, rfl, rfl, rfl, trivial⟩)⟩
      intro g_4; replace h := cond_f g_4 h
      refine aw_skip (by kernel_rfl) ?_
      refine aw_seq (by kernel_rfl) ?_
      refine aw_seq (by kernel_rfl) ?_
      refine aw_region [] [0, 1, 2, 12, 13, 14, 18, 62] [0, 1] 2 (vcs := []) (vals := [.sl false 1 (List.map AV.str names_1), .sl false 2 (List.map e_Arr2_Int stacks_1), .sl false 1 (List.map AV.str l_1), .sl false 1 (List.map AV.str r_2.2.1), .own 0 ((row_1).length), .int .i64 k_1, .ptr 1 0 0 0, .bool (decide ((((row_1).length : Nat) : Int) ≥ (1000 : Int)))]) (bxs := [.live (.row 46 2 (List.map e_Arr2_Int row_1)), .live (.var 46 [.int .i64 at__1, .int .i64 r_2.1])]) (by kernel_rfl) hmix trivial ?_
      refine aw_cond (t := 62) (b := (decide ((((row_1).length : Nat) : Int) ≥ (1000 : Int)))) (by kernel_rfl) (by kernel_rfl) ?_ ?_
      · intro g_5; replace h := cond_t g_5 h
        refine aw_seq (by kernel_rfl) ?_
        refine aw_region [] [6, 7, 8, 9] [] 2 (vcs := []) (vals := [.int .i64 (0 : Int), .sl false 1 (List.map AV.str names_1), .sl false 2 (List.map e_Arr2_Int stacks_1), .int .i64 (6 : Int)]) (bxs := []) (by kernel_rfl) hmix trivial ?_
        refine aw_ret (by kernel_rfl) ?_
        replace h := Option.some.inj h; subst h
        exact ⟨rfl, Nat.le_of_ble_eq_true rfl, by kernel_rfl⟩
      intro g_5; replace h := cond_f g_5 h
      refine aw_skip (by kernel_rfl) ?_
      refine aw_seq (by kernel_rfl) ?_
      refine aw_region [] [0, 1, 2, 11, 12, 13, 14, 18] [0, 1] 2 (vcs := []) (vals := [.sl false 1 (List.map AV.str names_1), .sl false 2 (List.map e_Arr2_Int stacks_1), .sl false 1 (List.map AV.str l_1), .int .i64 (((row_1).length : Nat) : Int), .sl false 1 (List.map AV.str r_2.2.1), .own 0 ((row_1).length), .int .i64 k_1, .ptr 1 0 0 0]) (bxs := [.live (.row 46 2 (List.map e_Arr2_Int row_1)), .live (.var 46 [.int .i64 at__1, .int .i64 r_2.1])]) (by kernel_rfl) hmix trivial ?_
      obtain ⟨_, h_8, h⟩ := bind_some h; replace h_8 := need_some h_8
      refine aw_region [(2, { id := 2 }), (3, { id := 3, l := (List.map e_Arr2_Int (row_1 ++ ([(⟨at__1, r_2.1⟩ : Arr2_Int)] : List Arr2_Int))), n := ((row_1 ++ ([(⟨at__1, r_2.1⟩ : Arr2_Int)] : List Arr2_Int))).length })] [0, 1, 2, 11, 12, 13, 14] [3] 4 (vcs := [(row_1).length = ((List.map e_Arr2_Int row_1)).length, 1 = ((List.map e_Arr2_Int ([(⟨at__1, r_2.1⟩ : Arr2_Int)] : List Arr2_Int))).length, (List.map e_Arr2_Int (row_1 ++ ([(⟨at__1, r_2.1⟩ : Arr2_Int)] : List Arr2_Int))) = (List.map e_Arr2_Int row_1) ++ (List.map e_Arr2_Int ([(⟨at__1, r_2.1⟩ : Arr2_Int)] : List Arr2_Int)), ((row_1 ++ ([(⟨at__1, r_2.1⟩ : Arr2_Int)] : List Arr2_Int))).length = ((List.map e_Arr2_Int (row_1 ++ ([(⟨at__1, r_2.1⟩ : Arr2_Int)] : List Arr2_Int)))).length, (((List.map e_Arr2_Int row_1) : List AV).length + ((List.map e_Arr2_Int ([(⟨at__1, r_2.1⟩ : Arr2_Int)] : List Arr2_Int)) : List AV).length) * 16 ≤ 140737488355328]) (vals := [.sl false 1 (List.map AV.str names_1), .sl false 2 (List.map e_Arr2_Int stacks_1), .sl false 1 (List.map AV.str l_1), .int .i64 (((row_1).length : Nat) : Int), .sl false 1 (List.map AV.str r_2.2.1), .own 3 (((row_1 ++ ([(⟨at__1, r_2.1⟩ : Arr2_Int)] : List Arr2_Int))).length), .int .i64 k_1]) (bxs := [.live (.row 46 2 (List.map e_Arr2_Int (row_1 ++ ([(⟨at__1, r_2.1⟩ : Arr2_Int)] : List Arr2_Int))))]) (by kernel_rfl) hmix ⟨(by first | (simp; done) | (simp; omega)), (by first | (simp; done) | (simp; omega)), (vc_app _ _), (by simp), (by simpa using h_8), trivial⟩ ?_
      replace h := Option.some.inj h; subst h
      exact ⟨rfl, (sub_wk [3] [] [(0, .sl false 1 (List.map AV.str names_1)), (1, .sl false 2 (List.map e_Arr2_Int stacks_1)), (2, .sl false 1 (List.map AV.str l_1)), (11, .int .i64 (((row_1).length : Nat) : Int)), (12, .sl false 1 (List.map AV.str r_2.2.1)), (13, .own 0 (((row_1 ++ ([(⟨at__1, r_2.1⟩ : Arr2_Int)] : List Arr2_Int))).length)), (14, .int .i64 k_1)] [(0, .live (.row 46 2 (List.map e_Arr2_Int (row_1 ++ ([(⟨at__1, r_2.1⟩ : Arr2_Int)] : List Arr2_Int)))))] (vcs := [(1 = 1 : Prop), (((List.map AV.str names_1) : List AV) = (List.map AV.str names_1) : Prop), ((!false || false) = true : Prop), (2 = 2 : Prop), (((List.map e_Arr2_Int stacks_1) : List AV) = (List.map e_Arr2_Int stacks_1) : Prop), ((!false || false) = true : Prop), (1 = 1 : Prop), (((List.map AV.str l_1) : List AV) = (List.map AV.str l_1) : Prop), ((!false || false) = true : Prop), ((.int .i64 (((row_1).length : Nat) : Int) : AV) = .int .i64 (((row_1).length : Nat) : Int) : Prop), (1 = 1 : Prop), (((List.map AV.str r_2.2.1) : List AV) = (List.map AV.str r_2.2.1) : Prop), ((!false || false) = true : Prop), ((.own 3 (((row_1 ++ ([(⟨at__1, r_2.1⟩ : Arr2_Int)] : List Arr2_Int))).length) : AV) = .own 3 (((row_1 ++ ([(⟨at__1, r_2.1⟩ : Arr2_Int)] : List Arr2_Int))).length) : Prop), ((.int .i64 k_1 : AV) = .int .i64 k_1 : Prop), (46 = 46 : Prop), (2 = 2 : Prop), (((List.map e_Arr2_Int (row_1 ++ ([(⟨at__1, r_2.1⟩ : Arr2_Int)] : List Arr2_Int))) : List AV) = (List.map e_Arr2_Int (row_1 ++ ([(⟨at__1, r_2.1⟩ : Arr2_Int)] : List Arr2_Int))) : Prop)]) (by kernel_rfl) ⟨rfl, rfl, rfl, rfl, rfl, rfl, rfl, rfl, rfl, rfl, rfl, rfl, rfl, rfl, rfl, rfl, rfl, rfl, trivial⟩)⟩
    intro e st1 hk
    rcases o_2 with q_1 | q_2
    rotate_left
    · obtain ⟨rfl, hf⟩ := hk
      replace h := Option.some.inj h; subst h
      exact ⟨_, Sub.refl _ _, rfl, hf⟩
    obtain ⟨rfl, hs⟩ := hk
    refine ⟨_, hs, ?_⟩
    refine aw_region [] [0, 1, 2, 11, 12, 13, 14] [0] 1 (vcs := []) (vals := [.sl false 1 (List.map AV.str names_1), .sl false 2 (List.map e_Arr2_Int stacks_1), .sl false 1 (List.map AV.str l_1), .int .i64 q_1.1, .sl false 1 (List.map AV.str q_1.2.1), .own 0 ((q_1.2.2).length), .int .i64 (w_i64 (k_1 + (1 : Int)))]) (bxs := [.live (.row 46 2 (List.map e_Arr2_Int q_1.2.2))]) (by kernel_rfl) hmix trivial ?_
    exact ⟨_, (sub_wk [0] [] [(0, .sl false 1 (List.map AV.str names_1)), (1, .sl false 2 (List.map e_Arr2_Int stacks_1)), (2, .sl false 1 (List.map AV.str l_1)), (11, .int .i64 q_1.1), (12, .sl false 1 (List.map AV.str q_1.2.1)), (13, .own 0 ((q_1.2.2).length)), (14, .int .i64 (w_i64 (k_1 + (1 : Int))))] [(0, .live (.row 46 2 (List.map e_Arr2_Int q_1.2.2)))] (vcs := [(1 = 1 : Prop), (((List.map AV.str names_1) : List AV) = (List.map AV.str names_1) : Prop), ((!false || false) = true : Prop), (2 = 2 : Prop), (((List.map e_Arr2_Int stacks_1) : List AV) = (List.map e_Arr2_Int stacks_1) : Prop), ((!false || false) = true : Prop), (1 = 1 : Prop), (((List.map AV.str l_1) : List AV) = (List.map AV.str l_1) : Prop), ((!false || false) = true : Prop), ((.int .i64 q_1.1 : AV) = .int .i64 q_1.1 : Prop), (1 = 1 : Prop), (((List.map AV.str q_1.2.1) : List AV) = (List.map AV.str q_1.2.1) : Prop), ((!false || false) = true : Prop), ((.own 0 ((q_1.2.2).length) : AV) = .own 0 ((q_1.2.2).length) : Prop), ((.int .i64 (w_i64 (k_1 + (1 : Int))) : AV) = .int .i64 (w_i64 (k_1 + (1 : Int))) : Prop), (46 = 46 : Prop), (2 = 2 : Prop), (((List.map e_Arr2_Int q_1.2.2) : List AV) = (List.map e_Arr2_Int q_1.2.2) : Prop)]) (by kernel_rfl) ⟨rfl, rfl, rfl, rfl, rfl, rfl, rfl, rfl, rfl, rfl, rfl, rfl, rfl, rfl, rfl, rfl, rfl, rfl, trivial⟩), _, _, _, _, rfl, h⟩
  intro e st1 hk
  rcases o_1 with q_3 | q_4
  rotate_left
  · obtain ⟨rfl, hf⟩ := hk
    replace h := Option.some.inj h; subst h
    exact ⟨st1, Sub.refl _ _, .inr rfl, hf⟩
  obtain ⟨rfl, hs⟩ := hk
  refine ⟨_, hs, ?_⟩
  refine aw_seq (by kernel_rfl) ?_
  refine aw_region [] [6, 7, 8, 9] [0] 1 (vcs := []) (vals := [.int .i64 q_3.1, .sl false 1 (List.map AV.str q_3.2.1), .own 0 ((q_3.2.2).length), .int .i64 (0 : Int)]) (bxs := [.live (.row 46 2 (List.map e_Arr2_Int q_3.2.2))]) (by kernel_rfl) hmix trivial ?_
  refine aw_sub (sub_wk [] [0] [(6, .int .i64 q_3.1), (7, .sl false 1 (List.map AV.str q_3.2.1)), (8, .sl false 2 (List.map e_Arr2_Int q_3.2.2)), (9, .int .i64 (0 : Int))] [] (vcs := [((.int .i64 q_3.1 : AV) = .int .i64 q_3.1 : Prop), (1 = 1 : Prop), (((List.map AV.str q_3.2.1) : List AV) = (List.map AV.str q_3.2.1) : Prop), ((!false || false) = true : Prop), ((q_3.2.2).length = ((List.map e_Arr2_Int q_3.2.2)).length : Prop), (2 = 2 : Prop), (((List.map e_Arr2_Int q_3.2.2) : List AV) = (List.map e_Arr2_Int q_3.2.2) : Prop), ((!false || false) = true : Prop), ((.int .i64 (0 : Int) : AV) = .int .i64 (0 : Int) : Prop)]) (by kernel_rfl) ⟨rfl, rfl, rfl, rfl, (by first | (simp; done) | (simp; omega)), rfl, rfl, rfl, rfl, trivial⟩) ?_
  refine aw_ret (by kernel_rfl) ?_
  replace h := Option.some.inj h; subst h
  exact ⟨.inr rfl, Nat.le_of_ble_eq_true rfl, by kernel_rfl⟩

theorem L06_word_ok (F : Nat) (n_1 : Int) (r : (List Int)) (h : L06_word F n_1 = some r) : Triple prog 24 [] [.int .i64 n_1] [] (.str r) := by
  refine triple_intro (fn := Go.Proofs.Try.f24) (code := codeOf Go.Proofs.Try.f24) (by kernel_rfl) (by kernel_rfl) (Nat.le_of_ble_eq_true (by kernel_rfl)) ?_
  unfold L06_word at h
  refine aw_seq (by kernel_rfl) ?_
  refine aw_region [] [0] [] 0 (vcs := []) (vals := [.int .i64 n_1]) (bxs := []) (by kernel_rfl) hmix trivial ?_
  refine aw_seq (by kernel_rfl) ?_
  refine aw_region [] [0, 3] [] 0 (vcs := []) (vals := [.int .i64 n_1, .str ([] : List Int)]) (bxs := []) (by kernel_rfl) hmix trivial ?_
  refine aw_seq (by kernel_rfl) ?_
  obtain ⟨o_1, h_1, h⟩ := bind_some h
  refine aw_mid (mk [(0, .int .i64 o_1.1), (3, .str o_1.2)] [] 0) ?_ ?_
  · replace h := h_1
    refine aw_block (id := 0) (by kernel_rfl) ?_
    refine aw_sub (sub_wk [] [] [(0, .int .i64 n_1), (3, .str ([] : List Int))] [] (vcs := [((.int .i64 n_1 : AV) = .int .i64 n_1 : Prop), ((.str ([] : List Int) : AV) = .str ([] : List Int) : Prop)]) (by kernel_rfl) ⟨rfl, rfl, trivial⟩) ?_
    refine aw_loopF (fun n st => ∃ (n_2 : Int), ∃ (s_1 : List Int), st = mk [(0, .int .i64 n_2), (3, .str s_1)] [] 0 ∧ L06_word_L1 F n n_2 s_1 = some o_1) F (by kernel_rfl) ⟨_, _, rfl, h⟩ ?_ ?_
    · rintro _ ⟨_, _, _, h⟩; exact none_ne (h : (none : Option (Int × (List Int))) = some o_1)
    rintro n_3 _ ⟨n_2, s_1, rfl, h⟩
    replace h : L06_word_L1_body F (L06_word_L1 F n_3) n_2 s_1 = some o_1 := h
    unfold L06_word_L1_body at h
    refine aw_seq (by kernel_rfl) ?_
    refine aw_seq (by kernel_rfl) ?_
    refine aw_region [] [0, 3, 5] [] 0 (vcs := []) (vals := [.int .i64 n_2, .str s_1, .bool (decide (n_2 ≥ (10 : Int)))]) (bxs := []) (by kernel_rfl) hmix trivial ?_
    refine aw_cond (t := 5) (b := (decide (n_2 ≥ (10 : Int)))) (by kernel_rfl) (by kernel_rfl) ?_ ?_
    rotate_left
    · intro g_1; replace h := cond_f g_1 h
      refine aw_exit (id := 0) (by kernel_rfl) ?_
      replace h := Option.some.inj h; subst h
      exact ⟨rfl, (sub_wk [] [] [(0, .int .i64 n_2), (3, .str s_1)] [] (vcs := [((.int .i64 n_2 : AV) = .int .i64 n_2 : Prop), ((.str s_1 : AV) = .str s_1 : Prop)]) (by kernel_rfl) ⟨rfl, rfl, trivial⟩)⟩
    intro g_1; replace h := cond_t g_1 h
    refine aw_skip (by kernel_rfl) ?_
    refine aw_block (id := 1) (by kernel_rfl) ?_
    refine aw_seq (by kernel_rfl) ?_
    obtain ⟨_, h_2, h⟩ := bind_some h; replace h_2 := need_some h_2
    refine aw_region [(4, { id := 0 }), (5, { s := ([w_u8 (w_i64 ((48 : Int) + (irem n_2 (10 : Int))))] : List Int) })] [0, 3] [] 1 (vcs := [(10 : Int) ≠ (0 : Int), 1 = ((List.map (AV.int .u8) ([w_u8 (w_i64 ((48 : Int) + (irem n_2 (10 : Int))))] : List Int))).length, (List.map (AV.int .u8) ([w_u8 (w_i64 ((48 : Int) + (irem n_2 (10 : Int))))] : List Int)) = List.map (AV.int .u8) ([w_u8 (w_i64 ((48 : Int) + (irem n_2 (10 : Int))))] : List Int), ([w_u8 (w_i64 ((48 : Int) + (irem n_2 (10 : Int))))] : List Int).length + s_1.length ≤ 9223372036854775807]) (vals := [.int .i64 n_2, .str (([w_u8 (w_i64 ((48 : Int) + (irem n_2 (10 : Int))))] : List Int) ++ s_1)]) (bxs := []) (by kernel_rfl) hmix ⟨(by decide), (by first | (simp; done) | (simp; omega)), rfl, h_2, trivial⟩ ?_
    refine aw_region [] [0, 3] [] 1 (vcs := [(10 : Int) ≠ (0 : Int)]) (vals := [.int .i64 (iquo .i64 n_2 (10 : Int)), .str (([w_u8 (w_i64 ((48 : Int) + (irem n_2 (10 : Int))))] : List Int) ++ s_1)]) (bxs := []) (by kernel_rfl) hmix ⟨(by decide), trivial⟩ ?_
    exact ⟨_, (sub_wk [] [] [(0, .int .i64 (iquo .i64 n_2 (10 : Int))), (3, .str (([w_u8 (w_i64 ((48 : Int) + (irem n_2 (10 : Int))))] : List Int) ++ s_1))] [] (vcs := [((.int .i64 (iquo .i64 n_2 (10 : Int)) : AV) = .int .i64 (iquo .i64 n_2 (10 : Int)) : Prop), ((.str (([w_u8 (w_i64 ((48 : Int) + (irem n_2 (10 : Int))))] : List Int) ++ s_1) : AV) = .str (([w_u8 (w_i64 ((48 : Int) + (irem n_2 (10 : Int))))] : List Int) ++ s_1) : Prop)]) (by kernel_rfl) ⟨rfl, rfl, trivial⟩), _, _, rfl, h⟩
  refine aw_seq (by kernel_rfl) ?_
  obtain ⟨_, h_3, h⟩ := bind_some h; replace h_3 := need_some h_3
  obtain ⟨_, h_4, h⟩ := bind_some h; replace h_4 := need_some h_4
  refine aw_region [(3, { id := 0 }), (4, { s := ([w_u8 (w_i64 ((48 : Int) + o_1.1))] : List Int) })] [2] [] 1 (vcs := [1 = ((List.map (AV.int .u8) ([w_u8 (w_i64 ((48 : Int) + o_1.1))] : List Int))).length, (List.map (AV.int .u8) ([w_u8 (w_i64 ((48 : Int) + o_1.1))] : List Int)) = List.map (AV.int .u8) ([w_u8 (w_i64 ((48 : Int) + o_1.1))] : List Int), ([119] : List Int).length + ([w_u8 (w_i64 ((48 : Int) + o_1.1))] : List Int).length ≤ 9223372036854775807, (([119] : List Int) ++ ([w_u8 (w_i64 ((48 : Int) + o_1.1))] : List Int)).length + o_1.2.length ≤ 9223372036854775807]) (vals := [.str ((([119] : List Int) ++ ([w_u8 (w_i64 ((48 : Int) + o_1.1))] : List Int)) ++ o_1.2)]) (bxs := []) (by kernel_rfl) hmix ⟨(by first | (simp; done) | (simp; omega)), rfl, h_3, h_4, trivial⟩ ?_
  refine aw_ret (by kernel_rfl) ?_
  replace h := Option.some.inj h; subst h
  exact ⟨.inr rfl, Nat.le_of_ble_eq_true rfl, by kernel_rfl⟩

end Go.Ab
