/- Printed: the typed Lean functions of the Go functions, or the proofs that the Go functions meet them. No conditions but those that the theorems name. -/
import Derived.Test.YtlepgljlnlfknaaP29x1
namespace Go.Ab
open Go
set_option linter.unusedVariables false
theorem R07_Small_ok (F : Nat) (e_1 : T_api_Event) (r : Bool) (h : R07_Small F e_1 = some r) : Triple prog 9 [] [.agg [.int .i64 e_1.At, .int .i64 e_1.Kind, .str e_1.Name, .int .i64 e_1.N, .int .i64 e_1.M, .sl false 1 (List.map AV.str e_1.Stack)]] [] (.bool r) := by
  refine triple_intro (fn := Go.Proofs.Try.f9) (code := codeOf Go.Proofs.Try.f9) (by kernel_rfl) (by kernel_rfl) (Nat.le_of_ble_eq_true (by kernel_rfl)) ?_
  unfold R07_Small at h
  refine aw_seq (by kernel_rfl) ?_
  refine aw_region [(0, { id := 0 })] [1] [0] 1 (vcs := []) (vals := [.ptr 0 0 0 0]) (bxs := [.live (.var 30 [.int .i64 e_1.At, .int .i64 e_1.Kind, .str e_1.Name, .int .i64 e_1.N, .int .i64 e_1.M, .sl false 1 (List.map AV.str e_1.Stack)])]) (by kernel_rfl) hmix trivial ?_
  refine aw_seq (by kernel_rfl) ?_
  refine aw_seq (by kernel_rfl) ?_
  refine aw_mid (mk [(1, .ptr 0 0 0 0), (13, .bool (decide ((((e_1.Name).length : Nat) : Int) > (200 : Int)) || decide ((((e_1.Stack).length : Nat) : Int) > (60 : Int))))] [(0, .live (.var 30 [.int .i64 e_1.At, .int .i64 e_1.Kind, .str e_1.Name, .int .i64 e_1.N, .int .i64 e_1.M, .sl false 1 (List.map AV.str e_1.Stack)]))] 1) ?_ ?_
  · rcases Bool.eq_false_or_eq_true (decide ((((e_1.Name).length : Nat) : Int) > (200 : Int))) with gg_1 | gg_1
    · refine aw_region [(5, { g := false }), (6, { g := false }), (7, { g := false }), (8, { g := false }), (9, { b := true })] [1, 13] [0] 1 (vcs := [(decide ((((e_1.Name).length : Nat) : Int) > (200 : Int))) = !false, (decide ((((e_1.Name).length : Nat) : Int) > (200 : Int))) = !false, (decide ((((e_1.Name).length : Nat) : Int) > (200 : Int))) = !false, (decide ((((e_1.Name).length : Nat) : Int) > (200 : Int))) = !false, (decide ((((e_1.Name).length : Nat) : Int) > (200 : Int))) = true]) (vals := [.ptr 0 0 0 0, .bool true]) (bxs := [.live (.var 30 [.int .i64 e_1.At, .int .i64 e_1.Kind, .str e_1.Name, .int .i64 e_1.N, .int .i64 e_1.M, .sl false 1 (List.map AV.str e_1.Stack)])]) (by kernel_rfl) hmix ⟨gg_1, gg_1, gg_1, gg_1, gg_1, trivial⟩ ?_
      exact ⟨rfl, (sub_wk [0] [] [(1, .ptr 0 0 0 0), (13, .bool (decide ((((e_1.Name).length : Nat) : Int) > (200 : Int)) || decide ((((e_1.Stack).length : Nat) : Int) > (60 : Int))))] [(0, .live (.var 30 [.int .i64 e_1.At, .int .i64 e_1.Kind, .str e_1.Name, .int .i64 e_1.N, .int .i64 e_1.M, .sl false 1 (List.map AV.str e_1.Stack)]))] (vcs := [((.ptr 0 0 0 0 : AV) = .ptr 0 0 0 0 : Prop), ((.bool true : AV) = .bool (decide ((((e_1.Name).length : Nat) : Int) > (200 : Int)) || decide ((((e_1.Stack).length : Nat) : Int) > (60 : Int))) : Prop), (30 = 30 : Prop), (ones [.int .i64 e_1.At, .int .i64 e_1.Kind, .str e_1.Name, .int .i64 e_1.N, .int .i64 e_1.M, .sl false 1 (List.map AV.str e_1.Stack)] = true : Prop), ((.int .i64 e_1.At : AV) = .int .i64 e_1.At : Prop), ((.int .i64 e_1.Kind : AV) = .int .i64 e_1.Kind : Prop), ((.str e_1.Name : AV) = .str e_1.Name : Prop), ((.int .i64 e_1.N : AV) = .int .i64 e_1.N : Prop), ((.int .i64 e_1.M : AV) = .int .i64 e_1.M : Prop), (1 = 1 : Prop), ((List.map AV.str e_1.Stack) = (List.map AV.str e_1.Stack) : Prop), ((!false || false) = true : Prop)]) (by kernel_rfl) ⟨rfl, (congrArg AV.bool (ort gg_1)), rfl, rfl, rfl, rfl, rfl, rfl, rfl, rfl, rfl, rfl, trivial⟩)⟩
    · refine aw_region [(7, { n := (e_1.Stack).length }), (9, { b := false })] [1, 13] [0] 1 (vcs := [(decide ((((e_1.Name).length : Nat) : Int) > (200 : Int))) = false, (decide ((((e_1.Name).length : Nat) : Int) > (200 : Int))) = false, (decide ((((e_1.Name).length : Nat) : Int) > (200 : Int))) = false, ((List.map AV.str e_1.Stack)).length = (e_1.Stack).length, (decide ((((e_1.Name).length : Nat) : Int) > (200 : Int))) = false, (decide ((((e_1.Name).length : Nat) : Int) > (200 : Int))) = false]) (vals := [.ptr 0 0 0 0, .bool (decide ((((e_1.Stack).length : Nat) : Int) > (60 : Int)))]) (bxs := [.live (.var 30 [.int .i64 e_1.At, .int .i64 e_1.Kind, .str e_1.Name, .int .i64 e_1.N, .int .i64 e_1.M, .sl false 1 (List.map AV.str e_1.Stack)])]) (by kernel_rfl) hmix ⟨gg_1, gg_1, gg_1, (vc_len _), gg_1, gg_1, trivial⟩ ?_
      exact ⟨rfl, (sub_wk [0] [] [(1, .ptr 0 0 0 0), (13, .bool (decide ((((e_1.Name).length : Nat) : Int) > (200 : Int)) || decide ((((e_1.Stack).length : Nat) : Int) > (60 : Int))))] [(0, .live (.var 30 [.int .i64 e_1.At, .int .i64 e_1.Kind, .str e_1.Name, .int .i64 e_1.N, .int .i64 e_1.M, .sl false 1 (List.map AV.str e_1.Stack)]))] (vcs := [((.ptr 0 0 0 0 : AV) = .ptr 0 0 0 0 : Prop), ((.bool (decide ((((e_1.Stack).length : Nat) : Int) > (60 : Int))) : AV) = .bool (decide ((((e_1.Name).length : Nat) : Int) > (200 : Int)) || decide ((((e_1.Stack).length : Nat) : Int) > (60 : Int))) : Prop), (30 = 30 : Prop), (ones [.int .i64 e_1.At, .int .i64 e_1.Kind, .str e_1.Name, .int .i64 e_1.N, .int .i64 e_1.M, .sl false 1 (List.map AV.str e_1.Stack)] = true : Prop), ((.int .i64 e_1.At : AV) = .int .i64 e_1.At : Prop), ((.int .i64 e_1.Kind : AV) = .int .i64 e_1.Kind : Prop), ((.str e_1.Name : AV) = .str e_1.Name : Prop), ((.int .i64 e_1.N : AV) = .int .i64 e_1.N : Prop), ((.int .i64 e_1.M : AV) = .int .i64 e_1.M : Prop), (1 = 1 : Prop), ((List.map AV.str e_1.Stack) = (List.map AV.str e_1.Stack) : Prop), ((!false || false) = true : Prop)]) (by kernel_rfl) ⟨rfl, (congrArg AV.bool (orf gg_1 rfl)), rfl, rfl, rfl, rfl, rfl, rfl, rfl, rfl, rfl, rfl, trivial⟩)⟩
  refine aw_cond (t := 13) (b := (decide ((((e_1.Name).length : Nat) : Int) > (200 : Int)) || decide ((((e_1.Stack).length : Nat) : Int) > (60 : Int)))) (by kernel_rfl) (by kernel_rfl) ?_ ?_
  · intro g_1; replace h := cond_t g_1 h
    refine aw_seq (by kernel_rfl) ?_
    refine aw_region [] [2] [] 1 (vcs := []) (vals := [.bool false]) (bxs := []) (by kernel_rfl) hmix trivial ?_
    refine aw_ret (by kernel_rfl) ?_
    replace h := Option.some.inj h; subst h
    exact ⟨.inr rfl, Nat.le_of_ble_eq_true rfl, by kernel_rfl⟩
  intro g_1; replace h := cond_f g_1 h
  refine aw_skip (by kernel_rfl) ?_
  refine aw_seq (by kernel_rfl) ?_
  refine aw_seq (by kernel_rfl) ?_
  refine aw_region [] [1, 3] [0] 1 (vcs := []) (vals := [.ptr 0 0 0 0, .int .i64 (0 : Int)]) (bxs := [.live (.var 30 [.int .i64 e_1.At, .int .i64 e_1.Kind, .str e_1.Name, .int .i64 e_1.N, .int .i64 e_1.M, .sl false 1 (List.map AV.str e_1.Stack)])]) (by kernel_rfl) hmix trivial ?_
  obtain ⟨o_1, h_1, h⟩ := bind_some h
  refine aw_conv (K1 := (fun e st' => match o_1 with | (.inl q0) => e = .normal ∧ Sub 0 st' (mk [] [] 0) | (.inr q1) => e = .ret ∧ FinR prog Go.Proofs.Try.f9 0 [] (.bool q1) st')) ?_ ?_
  · replace h := h_1
    refine aw_block (id := 0) (by kernel_rfl) ?_
    refine aw_sub (sub_wk [0] [] [(1, .ptr 0 0 0 0), (3, .int .i64 (0 : Int))] [(0, .live (.var 30 [.int .i64 e_1.At, .int .i64 e_1.Kind, .str e_1.Name, .int .i64 e_1.N, .int .i64 e_1.M, .sl false 1 (List.map AV.str e_1.Stack)]))] (vcs := [((.ptr 0 0 0 0 : AV) = .ptr 0 0 0 0 : Prop), ((.int .i64 (0 : Int) : AV) = .int .i64 (0 : Int) : Prop), (30 = 30 : Prop), (ones [.int .i64 e_1.At, .int .i64 e_1.Kind, .str e_1.Name, .int .i64 e_1.N, .int .i64 e_1.M, .sl false 1 (List.map AV.str e_1.Stack)] = true : Prop), ((.int .i64 e_1.At : AV) = .int .i64 e_1.At : Prop), ((.int .i64 e_1.Kind : AV) = .int .i64 e_1.Kind : Prop), ((.str e_1.Name : AV) = .str e_1.Name : Prop), ((.int .i64 e_1.N : AV) = .int .i64 e_1.N : Prop), ((.int .i64 e_1.M : AV) = .int .i64 e_1.M : Prop), (1 = 1 : Prop), ((List.map AV.str e_1.Stack) = (List.map AV.str e_1.Stack) : Prop), ((!false || false) = true : Prop)]) (by kernel_rfl) ⟨rfl, rfl, rfl, rfl, rfl, rfl, rfl, rfl, rfl, rfl, rfl, rfl, trivial⟩) ?_
    refine aw_loopF (fun n st => ∃ (i_1 : Int), st = mk [(1, .ptr 0 0 0 0), (3, .int .i64 i_1)] [(0, .live (.var 30 [.int .i64 e_1.At, .int .i64 e_1.Kind, .str e_1.Name, .int .i64 e_1.N, .int .i64 e_1.M, .sl false 1 (List.map AV.str e_1.Stack)]))] 1 ∧ R07_Small_L1 F e_1 n i_1 = some o_1) F (by kernel_rfl) ⟨_, rfl, h⟩ ?_ ?_
    · rintro _ ⟨_, _, h⟩; exact none_ne (h : (none : Option (Unit ⊕ Bool)) = some o_1)
    rintro n_1 _ ⟨i_1, rfl, h⟩
    replace h : R07_Small_L1_body F e_1 (R07_Small_L1 F e_1 n_1) i_1 = some o_1 := h
    unfold R07_Small_L1_body at h
    refine aw_seq (by kernel_rfl) ?_
    refine aw_seq (by kernel_rfl) ?_
    refine aw_region [(3, { n := (e_1.Stack).length })] [1, 3, 18] [0] 1 (vcs := [((List.map AV.str e_1.Stack)).length = (e_1.Stack).length]) (vals := [.ptr 0 0 0 0, .int .i64 i_1, .bool (decide (i_1 < (((e_1.Stack).length : Nat) : Int)))]) (bxs := [.live (.var 30 [.int .i64 e_1.At, .int .i64 e_1.Kind, .str e_1.Name, .int .i64 e_1.N, .int .i64 e_1.M, .sl false 1 (List.map AV.str e_1.Stack)])]) (by kernel_rfl) hmix ⟨(vc_len _), trivial⟩ ?_
    refine aw_cond (t := 18) (b := (decide (i_1 < (((e_1.Stack).length : Nat) : Int)))) (by kernel_rfl) (by kernel_rfl) ?_ ?_
    rotate_left
    · intro g_2; replace h := cond_f g_2 h
      refine aw_exit (id := 0) (by kernel_rfl) ?_
      replace h := Option.some.inj h; subst h
      exact ⟨rfl, (sub_wk [] [] [] [] (vcs := []) (by kernel_rfl) trivial)⟩
    intro g_2; replace h := cond_t g_2 h
    refine aw_skip (by kernel_rfl) ?_
    refine aw_seq (by kernel_rfl) ?_
    refine aw_block (id := 1) (by kernel_rfl) ?_
    refine aw_seq (by kernel_rfl) ?_
    obtain ⟨x_1, h_2, h⟩ := bind_some h
    refine aw_region [(3, { av := .str x_1 })] [1, 3, 27] [0] 1 (vcs := [idxA (List.map AV.str e_1.Stack) i_1 = some (.str x_1)]) (vals := [.ptr 0 0 0 0, .int .i64 i_1, .bool (decide ((((x_1).length : Nat) : Int) > (200 : Int)))]) (bxs := [.live (.var 30 [.int .i64 e_1.At, .int .i64 e_1.Kind, .str e_1.Name, .int .i64 e_1.N, .int .i64 e_1.M, .sl false 1 (List.map AV.str e_1.Stack)])]) (by kernel_rfl) hmix ⟨(vc_idx h_2), trivial⟩ ?_
    refine aw_cond (t := 27) (b := (decide ((((x_1).length : Nat) : Int) > (200 : Int)))) (by kernel_rfl) (by kernel_rfl) ?_ ?_
    rotate_left
    · intro g_3; replace h := cond_f g_3 h
      refine aw_skip (by kernel_rfl) ?_
      refine aw_region [] [1, 3] [0] 1 (vcs := []) (vals := [.ptr 0 0 0 0, .int .i64 (w_i64 (i_1 + (1 : Int)))]) (bxs := [.live (.var 30 [.int .i64 e_1.At, .int .i64 e_1.Kind, .str e_1.Name, .int .i64 e_1.N, .int .i64 e_1.M, .sl false 1 (List.map AV.str e_1.Stack)])]) (by kernel_rfl) hmix trivial ?_
      exact ⟨_, (sub_wk [0] [] [(1, .ptr 0 0 0 0), (3, .int .i64 (w_i64 (i_1 + (1 : Int))))] [(0, .live (.var 30 [.int .i64 e_1.At, .int .i64 e_1.Kind, .str e_1.Name, .int .i64 e_1.N, .int .i64 e_1.M, .sl false 1 (List.map AV.str e_1.Stack)]))] (vcs := [((.ptr 0 0 0 0 : AV) = .ptr 0 0 0 0 : Prop), ((.int .i64 (w_i64 (i_1 + (1 : Int))) : AV) = .int .i64 (w_i64 (i_1 + (1 : Int))) : Prop), (30 = 30 : Prop), (ones [.int .i64 e_1.At, .int .i64 e_1.Kind, .str e_1.Name, .int .i64 e_1.N, .int .i64 e_1.M, .sl false 1 (List.map AV.str e_1.Stack)] = true : Prop), ((.int .i64 e_1.At : AV) = .int .i64 e_1.At : Prop), ((.int .i64 e_1.Kind : AV) = .int .i64 e_1.Kind : Prop), ((.str e_1.Name : AV) = .str e_1.Name : Prop), ((.int .i64 e_1.N : AV) = .int .i64 e_1.N : Prop), ((.int .i64 e_1.M : AV) = .int .i64 e_1.M : Prop), (1 = 1 : Prop), ((List.map AV.str e_1.Stack) = (List.map AV.str e_1.Stack) : Prop), ((!false || false) = true : Prop)]) (by kernel_rfl) ⟨rfl, rfl, rfl, rfl, rfl, rfl, rfl, rfl, rfl, rfl, rfl, rfl, trivial⟩), _, rfl, h⟩
    intro g_3; replace h := cond_t g_3 h
    refine aw_seq (by kernel_rfl) ?_
    refine aw_region [] [2] [] 1 (vcs := []) (vals := [.bool false]) (bxs := []) (by kernel_rfl) hmix trivial ?_
    refine aw_ret (by kernel_rfl) ?_
    replace h := Option.some.inj h; subst h
    exact ⟨rfl, Nat.le_of_ble_eq_true rfl, by kernel_rfl⟩
  intro e st1 hk
  rcases o_1 with q_1 | q_2
  rotate_left
  · obtain ⟨rfl, hf⟩ := hk
    replace h := Option.some.inj h; subst h
    exact ⟨st1, Sub.refl _ _, .inr rfl, hf⟩
  obtain ⟨rfl, hs⟩ := hk
  refine ⟨_, hs, ?_⟩
  refine aw_seq (by kernel_rfl) ?_
  refine aw_region [] [2] [] 0 (vcs := []) (vals := [.bool true]) (bxs := []) (by kernel_rfl) hmix trivial ?_
  refine aw_ret (by kernel_rfl) ?_
  replace h := Option.some.inj h; subst h
  exact ⟨.inr rfl, Nat.le_of_ble_eq_true rfl, by kernel_rfl⟩

theorem R29_Time_ok (e_1 : T_api_Timed) (r : Int) (h : R29_Time e_1 = some r) : Triple prog 23 [] [.agg [.int .i64 e_1.Id.Thread, .int .i64 e_1.Id.Serial, .int .i64 e_1.Event.At, .int .i64 e_1.Event.Kind, .str e_1.Event.Name, .int .i64 e_1.Event.N, .int .i64 e_1.Event.M, .sl false 1 (List.map AV.str e_1.Event.Stack), .int .i64 e_1.When.Lo, .int .i64 e_1.When.Hi]] [] (.int .i64 r) := by
  refine triple_intro (fn := Go.Proofs.Try.f23) (code := codeOf Go.Proofs.Try.f23) (by kernel_rfl) (by kernel_rfl) (Nat.le_of_ble_eq_true (by kernel_rfl)) ?_
  unfold R29_Time at h
  refine aw_seq (by kernel_rfl) ?_
  refine aw_region [(0, { id := 0 })] [1] [0] 1 (vcs := []) (vals := [.ptr 0 0 0 0]) (bxs := [.live (.var 34 [.int .i64 e_1.Id.Thread, .int .i64 e_1.Id.Serial, .int .i64 e_1.Event.At, .int .i64 e_1.Event.Kind, .str e_1.Event.Name, .int .i64 e_1.Event.N, .int .i64 e_1.Event.M, .sl false 1 (List.map AV.str e_1.Event.Stack), .int .i64 e_1.When.Lo, .int .i64 e_1.When.Hi])]) (by kernel_rfl) hmix trivial ?_
  refine aw_seq (by kernel_rfl) ?_
  refine aw_region [] [2] [] 1 (vcs := []) (vals := [.int .i64 (imax (0 : Int) (imin e_1.When.Lo (1000000000000 : Int)))]) (bxs := []) (by kernel_rfl) hmix trivial ?_
  refine aw_ret (by kernel_rfl) ?_
  replace h := Option.some.inj h; subst h
  exact ⟨.inr rfl, Nat.le_of_ble_eq_true rfl, by kernel_rfl⟩

theorem R29_Of_ok (F : Nat) (o_1 : List (T_api_Timed)) (r : (List (T_api_Sample))) (h : R29_Of F o_1 = some r) : Triple prog 12 [] [.sl false 10 (List.map e_T_api_Timed o_1)] [.row 42 4 (List.map e_T_api_Sample r)] (.own 0 ((r).length)) := by
  refine triple_intro (fn := Go.Proofs.Try.f12) (code := codeOf Go.Proofs.Try.f12) (by kernel_rfl) (by kernel_rfl) (Nat.le_of_ble_eq_true (by kernel_rfl)) ?_
  unfold R29_Of at h
  refine aw_seq (by kernel_rfl) ?_
  refine aw_region [(0, { id := 0, m := 1 })] [0] [] 1 (vcs := []) (vals := [.sl false 10 (List.map e_T_api_Timed o_1)]) (bxs := []) (by kernel_rfl) hmix trivial ?_
  refine aw_seq (by kernel_rfl) ?_
  refine aw_region [(0, { id := 1, m := 1 })] [0, 3] [1] 2 (vcs := []) (vals := [.sl false 10 (List.map e_T_api_Timed o_1), .own 1 0]) (bxs := [.live (.row 42 4 [])]) (by kernel_rfl) hmix trivial ?_
  refine aw_seq (by kernel_rfl) ?_
  refine aw_seq (by kernel_rfl) ?_
  refine aw_region [] [0, 3, 4] [1] 2 (vcs := []) (vals := [.sl false 10 (List.map e_T_api_Timed o_1), .own 1 0, .int .i64 (0 : Int)]) (bxs := [.live (.row 42 4 [])]) (by kernel_rfl) hmix trivial ?_
  obtain ⟨o_2, h_1, h⟩ := bind_some h
  refine aw_mid (mk [(3, .own 0 ((o_2).length))] [(0, .live (.row 42 4 (List.map e_T_api_Sample o_2)))] 1) ?_ ?_
  · replace h := h_1
    refine aw_block (id := 0) (by kernel_rfl) ?_
    refine aw_sub (sub_wk [1] [] [(0, .sl false 10 (List.map e_T_api_Timed o_1)), (3, .own 0 0), (4, .int .i64 (0 : Int))] [(0, .live (.row 42 4 []))] (vcs := [(10 = 10 : Prop), ((List.map e_T_api_Timed o_1) = (List.map e_T_api_Timed o_1) : Prop), ((!false || false) = true : Prop), ((.own 1 0 : AV) = .own 1 0 : Prop), ((.int .i64 (0 : Int) : AV) = .int .i64 (0 : Int) : Prop), (42 = 42 : Prop), (4 = 4 : Prop), (([] : List AV) = [] : Prop)]) (by kernel_rfl) ⟨rfl, rfl, rfl, rfl, rfl, rfl, rfl, rfl, trivial⟩) ?_
    refine aw_loopF (fun n st => ∃ (i_1 : Int), ∃ (row_1 : List T_api_Sample), st = mk [(0, .sl false 10 (List.map e_T_api_Timed o_1)), (3, .own 0 ((row_1).length)), (4, .int .i64 i_1)] [(0, .live (.row 42 4 (List.map e_T_api_Sample row_1)))] 1 ∧ R29_Of_L1 F o_1 n i_1 row_1 = some o_2) F (by kernel_rfl) ⟨_, _, rfl, h⟩ ?_ ?_
    · rintro _ ⟨_, _, _, h⟩; exact none_ne (h : (none : Option (List T_api_Sample)) = some o_2)
    rintro n_1 _ ⟨i_1, row_1, rfl, h⟩
    replace h : R29_Of_L1_body F o_1 (R29_Of_L1 F o_1 n_1) i_1 row_1 = some o_2 := h
    unfold R29_Of_L1_body at h
    refine aw_seq (by kernel_rfl) ?_
    refine aw_seq (by kernel_rfl) ?_
    refine aw_region [(2, { n := (o_1).length })] [0, 3, 4, 8] [0] 1 (vcs := [((List.map e_T_api_Timed o_1)).length = (o_1).length]) (vals := [.sl false 10 (List.map e_T_api_Timed o_1), .own 0 ((row_1).length), .int .i64 i_1, .bool (decide (i_1 < (((o_1).length : Nat) : Int)))]) (bxs := [.live (.row 42 4 (List.map e_T_api_Sample row_1))]) (by kernel_rfl) hmix ⟨(vc_len _), trivial⟩ ?_
    refine aw_cond (t := 8) (b := (decide (i_1 < (((o_1).length : Nat) : Int)))) (by kernel_rfl) (by kernel_rfl) ?_ ?_
    rotate_left
    · intro g_1; replace h := cond_f g_1 h
      refine aw_exit (id := 0) (by kernel_rfl) ?_
      replace h := Option.some.inj h; subst h
      exact ⟨rfl, (sub_wk [0] [] [(3, .own 0 ((row_1).length))] [(0, .live (.row 42 4 (List.map e_T_api_Sample row_1)))] (vcs := [((.own 0 ((row_1).length) : AV) = .own 0 ((row_1).length) : Prop), (42 = 42 : Prop), (4 = 4 : Prop), (((List.map e_T_api_Sample row_1) : List AV) = (List.map e_T_api_Sample row_1) : Prop)]) (by kernel_rfl) ⟨rfl, rfl, rfl, rfl, trivial⟩)⟩
    intro g_1; replace h := cond_t g_1 h
    refine aw_skip (by kernel_rfl) ?_
    refine aw_seq (by kernel_rfl) ?_
    obtain ⟨o_3, h_2, h⟩ := bind_some h
    refine aw_mid (mk [(0, .sl false 10 (List.map e_T_api_Timed o_1)), (3, .own 0 ((o_3).length)), (4, .int .i64 i_1)] [(0, .live (.row 42 4 (List.map e_T_api_Sample o_3)))] 1) ?_ ?_
    · replace h := h_2
      refine aw_block (id := 1) (by kernel_rfl) ?_
      refine aw_seq (by kernel_rfl) ?_
      obtain ⟨x_1, h_3, h⟩ := bind_some h
      refine aw_region [(2, { av := .agg [.int .i64 x_1.Id.Thread, .int .i64 x_1.Id.Serial, .int .i64 x_1.Event.At, .int .i64 x_1.Event.Kind, .str x_1.Event.Name, .int .i64 x_1.Event.N, .int .i64 x_1.Event.M, .sl false 1 (List.map AV.str x_1.Event.Stack), .int .i64 x_1.When.Lo, .int .i64 x_1.When.Hi] })] [0, 3, 4, 17] [0] 1 (vcs := [idxA (List.map e_T_api_Timed o_1) i_1 = some (.agg [.int .i64 x_1.Id.Thread, .int .i64 x_1.Id.Serial, .int .i64 x_1.Event.At, .int .i64 x_1.Event.Kind, .str x_1.Event.Name, .int .i64 x_1.Event.N, .int .i64 x_1.Event.M, .sl false 1 (List.map AV.str x_1.Event.Stack), .int .i64 x_1.When.Lo, .int .i64 x_1.When.Hi])]) (vals := [.sl false 10 (List.map e_T_api_Timed o_1), .own 0 ((row_1).length), .int .i64 i_1, .bool (x_1.Event.Kind == (5 : Int))]) (bxs := [.live (.row 42 4 (List.map e_T_api_Sample row_1))]) (by kernel_rfl) hmix ⟨(vc_idx h_3), trivial⟩ ?_
      refine aw_cond (t := 17) (b := (x_1.Event.Kind == (5 : Int))) (by kernel_rfl) (by kernel_rfl) ?_ ?_
      rotate_left
      · intro g_2; replace h := cond_f g_2 h
        refine aw_skip (by kernel_rfl) ?_
        replace h := Option.some.inj h; subst h
        exact ⟨rfl, (sub_wk [0] [] [(0, .sl false 10 (List.map e_T_api_Timed o_1)), (3, .own 0 ((row_1).length)), (4, .int .i64 i_1)] [(0, .live (.row 42 4 (List.map e_T_api_Sample row_1)))] (vcs := [(10 = 10 : Prop), ((List.map e_T_api_Timed o_1) = (List.map e_T_api_Timed o_1) : Prop), ((!false || false) = true : Prop), ((.own 0 ((row_1).length) : AV) = .own 0 ((row_1).length) : Prop), ((.int .i64 i_1 : AV) = .int .i64 i_1 : Prop), (42 = 42 : Prop), (4 = 4 : Prop), (((List.map e_T_api_Sample row_1) : List AV) = (List.map e_T_api_Sample row_1) : Prop)]) (by kernel_rfl) ⟨rfl, rfl, rfl, rfl, rfl, rfl, rfl, rfl, trivial⟩)⟩
      intro g_2; replace h := cond_t g_2 h
      obtain ⟨x_2, h_4, h⟩ := bind_some h
      obtain ⟨x_3, h_5, h⟩ := bind_some h
      obtain ⟨r_1, h_6, h⟩ := bind_some h
      obtain ⟨x_4, h_7, h⟩ := bind_some h
      obtain ⟨x_5, h_8, h⟩ := bind_some h
      obtain ⟨_, h_9, h⟩ := bind_some h; replace h_9 := need_some h_9
      refine aw_region [(3, { av := .agg [.int .i64 x_2.Id.Thread, .int .i64 x_2.Id.Serial, .int .i64 x_2.Event.At, .int .i64 x_2.Event.Kind, .str x_2.Event.Name, .int .i64 x_2.Event.N, .int .i64 x_2.Event.M, .sl false 1 (List.map AV.str x_2.Event.Stack), .int .i64 x_2.When.Lo, .int .i64 x_2.When.Hi] }), (9, { av := .agg [.int .i64 x_3.Id.Thread, .int .i64 x_3.Id.Serial, .int .i64 x_3.Event.At, .int .i64 x_3.Event.Kind, .str x_3.Event.Name, .int .i64 x_3.Event.N, .int .i64 x_3.Event.M, .sl false 1 (List.map AV.str x_3.Event.Stack), .int .i64 x_3.When.Lo, .int .i64 x_3.When.Hi] }), (11, { av := .int .i64 r_1, l := [.agg [.int .i64 x_3.Id.Thread, .int .i64 x_3.Id.Serial, .int .i64 x_3.Event.At, .int .i64 x_3.Event.Kind, .str x_3.Event.Name, .int .i64 x_3.Event.N, .int .i64 x_3.Event.M, .sl false 1 (List.map AV.str x_3.Event.Stack), .int .i64 x_3.When.Lo, .int .i64 x_3.When.Hi]] }), (14, { av := .agg [.int .i64 x_4.Id.Thread, .int .i64 x_4.Id.Serial, .int .i64 x_4.Event.At, .int .i64 x_4.Event.Kind, .str x_4.Event.Name, .int .i64 x_4.Event.N, .int .i64 x_4.Event.M, .sl false 1 (List.map AV.str x_4.Event.Stack), .int .i64 x_4.When.Lo, .int .i64 x_4.When.Hi] }), (20, { av := .agg [.int .i64 x_5.Id.Thread, .int .i64 x_5.Id.Serial, .int .i64 x_5.Event.At, .int .i64 x_5.Event.Kind, .str x_5.Event.Name, .int .i64 x_5.Event.N, .int .i64 x_5.Event.M, .sl false 1 (List.map AV.str x_5.Event.Stack), .int .i64 x_5.When.Lo, .int .i64 x_5.When.Hi] }), (25, { id := 1 }), (26, { id := 2, l := (List.map e_T_api_Sample (row_1 ++ ([(⟨x_2.Id.Thread, r_1, x_4.Event.N, x_5.Event.Stack⟩ : T_api_Sample)] : List T_api_Sample))), n := ((row_1 ++ ([(⟨x_2.Id.Thread, r_1, x_4.Event.N, x_5.Event.Stack⟩ : T_api_Sample)] : List T_api_Sample))).length })] [0, 3, 4] [2] 3 (vcs := [idxA (List.map e_T_api_Timed o_1) i_1 = some (.agg [.int .i64 x_2.Id.Thread, .int .i64 x_2.Id.Serial, .int .i64 x_2.Event.At, .int .i64 x_2.Event.Kind, .str x_2.Event.Name, .int .i64 x_2.Event.N, .int .i64 x_2.Event.M, .sl false 1 (List.map AV.str x_2.Event.Stack), .int .i64 x_2.When.Lo, .int .i64 x_2.When.Hi]), idxA (List.map e_T_api_Timed o_1) i_1 = some (.agg [.int .i64 x_3.Id.Thread, .int .i64 x_3.Id.Serial, .int .i64 x_3.Event.At, .int .i64 x_3.Event.Kind, .str x_3.Event.Name, .int .i64 x_3.Event.N, .int .i64 x_3.Event.M, .sl false 1 (List.map AV.str x_3.Event.Stack), .int .i64 x_3.When.Lo, .int .i64 x_3.When.Hi]), ([.agg [.int .i64 x_3.Id.Thread, .int .i64 x_3.Id.Serial, .int .i64 x_3.Event.At, .int .i64 x_3.Event.Kind, .str x_3.Event.Name, .int .i64 x_3.Event.N, .int .i64 x_3.Event.M, .sl false 1 (List.map AV.str x_3.Event.Stack), .int .i64 x_3.When.Lo, .int .i64 x_3.When.Hi]] : List AV) = [.agg [.int .i64 x_3.Id.Thread, .int .i64 x_3.Id.Serial, .int .i64 x_3.Event.At, .int .i64 x_3.Event.Kind, .str x_3.Event.Name, .int .i64 x_3.Event.N, .int .i64 x_3.Event.M, .sl false 1 (List.map AV.str x_3.Event.Stack), .int .i64 x_3.When.Lo, .int .i64 x_3.When.Hi]], ([] : List BoxSt) = [], Triple prog 23 [] [.agg [.int .i64 x_3.Id.Thread, .int .i64 x_3.Id.Serial, .int .i64 x_3.Event.At, .int .i64 x_3.Event.Kind, .str x_3.Event.Name, .int .i64 x_3.Event.N, .int .i64 x_3.Event.M, .sl false 1 (List.map AV.str x_3.Event.Stack), .int .i64 x_3.When.Lo, .int .i64 x_3.When.Hi]] [] (.int .i64 r_1), idxA (List.map e_T_api_Timed o_1) i_1 = some (.agg [.int .i64 x_4.Id.Thread, .int .i64 x_4.Id.Serial, .int .i64 x_4.Event.At, .int .i64 x_4.Event.Kind, .str x_4.Event.Name, .int .i64 x_4.Event.N, .int .i64 x_4.Event.M, .sl false 1 (List.map AV.str x_4.Event.Stack), .int .i64 x_4.When.Lo, .int .i64 x_4.When.Hi]), idxA (List.map e_T_api_Timed o_1) i_1 = some (.agg [.int .i64 x_5.Id.Thread, .int .i64 x_5.Id.Serial, .int .i64 x_5.Event.At, .int .i64 x_5.Event.Kind, .str x_5.Event.Name, .int .i64 x_5.Event.N, .int .i64 x_5.Event.M, .sl false 1 (List.map AV.str x_5.Event.Stack), .int .i64 x_5.When.Lo, .int .i64 x_5.When.Hi]), (row_1).length = ((List.map e_T_api_Sample row_1)).length, 1 = ((List.map e_T_api_Sample ([(⟨x_2.Id.Thread, r_1, x_4.Event.N, x_5.Event.Stack⟩ : T_api_Sample)] : List T_api_Sample))).length, (List.map e_T_api_Sample (row_1 ++ ([(⟨x_2.Id.Thread, r_1, x_4.Event.N, x_5.Event.Stack⟩ : T_api_Sample)] : List T_api_Sample))) = (List.map e_T_api_Sample row_1) ++ (List.map e_T_api_Sample ([(⟨x_2.Id.Thread, r_1, x_4.Event.N, x_5.Event.Stack⟩ : T_api_Sample)] : List T_api_Sample)), ((row_1 ++ ([(⟨x_2.Id.Thread, r_1, x_4.Event.N, x_5.Event.Stack⟩ : T_api_Sample)] : List T_api_Sample))).length = ((List.map e_T_api_Sample (row_1 ++ ([(⟨x_2.Id.Thread, r_1, x_4.Event.N, x_5.Event.Stack⟩ : T_api_Sample)] : List T_api_Sample)))).length, (((List.map e_T_api_Sample row_1) : List AV).length + ((List.map e_T_api_Sample ([(⟨x_2.Id.Thread, r_1, x_4.Event.N, x_5.Event.Stack⟩ : T_api_Sample)] : List T_api_Sample)) : List AV).length) * 48 ≤ 140737488355328]) (vals := [.sl false 10 (List.map e_T_api_Timed o_1), .own 2 (((row_1 ++ ([(⟨x_2.Id.Thread, r_1, x_4.Event.N, x_5.Event.Stack⟩ : T_api_Sample)] : List T_api_Sample))).length), .int .i64 i_1]) (bxs := [.live (.row 42 4 (List.map e_T_api_Sample (row_1 ++ ([(⟨x_2.Id.Thread, r_1, x_4.Event.N, x_5.Event.Stack⟩ : T_api_Sample)] : List T_api_Sample))))]) (by kernel_rfl) hmix ⟨(vc_idx h_4), (vc_idx h_5), rfl, rfl, (R29_Time_ok x_3 r_1 h_6), (vc_idx h_7), (vc_idx h_8), (by first | (simp; done) | (simp; omega)), (by first | (simp; done) | (simp; omega)), (vc_app _ _), (by simp), (by simpa using h_9), trivial⟩ ?_
      replace h := Option.some.inj h; subst h
      exact ⟨rfl, (sub_wk [2] [] [(0, .sl false 10 (List.map e_T_api_Timed o_1)), (3, .own 0 (((row_1 ++ ([(⟨x_2.Id.Thread, r_1, x_4.Event.N, x_5.Event.Stack⟩ : T_api_Sample)] : List T_api_Sample))).length)), (4, .int .i64 i_1)] [(0, .live (.row 42 4 (List.map e_T_api_Sample (row_1 ++ ([(⟨x_2.Id.Thread, r_1, x_4.Event.N, x_5.Event.Stack⟩ : T_api_Sample)] : List T_api_Sample)))))] (vcs := [(10 = 10 : Prop), ((List.map e_T_api_Timed o_1) = (List.map e_T_api_Timed o_1) : Prop), ((!false || false) = true : Prop), ((.own 2 (((row_1 ++ ([(⟨x_2.Id.Thread, r_1, x_4.Event.N, x_5.Event.Stack⟩ : T_api_Sample)] : List T_api_Sample))).length) : AV) = .own 2 (((row_1 ++ ([(⟨x_2.Id.Thread, r_1, x_4.Event.N, x_5.Event.Stack⟩ : T_api_Sample)] : List T_api_Sample))).length) : Prop), ((.int .i64 i_1 : AV) = .int .i64 i_1 : Prop), (42 = 42 : Prop), (4 = 4 : Prop), (((List.map e_T_api_Sample (row_1 ++ ([(⟨x_2.Id.Thread, r_1, x_4.Event.N, x_5.Event.Stack⟩ : T_api_Sample)] : List T_api_Sample))) : List AV) = (List.map e_T_api_Sample (row_1 ++ ([(⟨x_2.Id.Thread, r_1, x_4.Event.N, x_5.Event.Stack⟩ : T_api_Sample)] : List T_api_Sample))) : Prop)]) (by kernel_rfl) ⟨rfl, rfl, rfl, rfl, rfl, rfl, rfl, rfl, trivial⟩)⟩
    refine aw_region [] [0, 3, 4] [0] 1 (vcs := []) (vals := [.sl false 10 (List.map e_T_api_Timed o_1), .own 0 ((o_3).length), .int .i64 (w_i64 (i_1 + (1 : Int)))]) (bxs := [.live (.row 42 4 (List.map e_T_api_Sample o_3))]) (by kernel_rfl) hmix trivial ?_
    exact ⟨_, (sub_wk [0] [] [(0, .sl false 10 (List.map e_T_api_Timed o_1)), (3, .own 0 ((o_3).length)), (4, .int .i64 (w_i64 (i_1 + (1 : Int))))] [(0, .live (.row 42 4 (List.map e_T_api_Sample o_3)))] (vcs := [(10 = 10 : Prop), ((List.map e_T_api_Timed o_1) = (List.map e_T_api_Timed o_1) : Prop), ((!false || false) = true : Prop), ((.own 0 ((o_3).length) : AV) = .own 0 ((o_3).length) : Prop), ((.int .i64 (w_i64 (i_1 + (1 : Int))) : AV) = .int .i64 (w_i64 (i_1 + (1 : Int))) : Prop), (42 = 42 : Prop), (4 = 4 : Prop), (((List.map e_T_api_Sample o_3) : List AV) = (List.map e_T_api_Sample o_3) : Prop)]) (by kernel_rfl) ⟨rfl, rfl, rfl, rfl, rfl, rfl, rfl, rfl, trivial⟩), _, _, rfl, h⟩
  refine aw_seq (by kernel_rfl) ?_
  refine aw_region [] [2] [0] 1 (vcs := []) (vals := [.own 0 ((o_2).length)]) (bxs := [.live (.row 42 4 (List.map e_T_api_Sample o_2))]) (by kernel_rfl) hmix trivial ?_
  refine aw_sub (sub_wk [0] [] [(2, .own 0 ((o_2).length))] [(0, .live (.row 42 4 (List.map e_T_api_Sample o_2)))] (vcs := [((.own 0 ((o_2).length) : AV) = .own 0 ((o_2).length) : Prop), (42 = 42 : Prop), (4 = 4 : Prop), (((List.map e_T_api_Sample o_2) : List AV) = (List.map e_T_api_Sample o_2) : Prop)]) (by kernel_rfl) ⟨rfl, rfl, rfl, rfl, trivial⟩) ?_
  refine aw_ret (by kernel_rfl) ?_
  replace h := Option.some.inj h; subst h
  exact ⟨.inr rfl, Nat.le_of_ble_eq_true rfl, by kernel_rfl⟩

theorem R07_Texts_ok (F : Nat) (a_1 : List (List Int)) (b_1 : List (List Int)) (r : Bool) (h : R07_Texts F a_1 b_1 = some r) : Triple prog 22 [] [.sl false 1 (List.map AV.str a_1), .sl false 1 (List.map AV.str b_1)] [] (.bool r) := by
  refine triple_intro (fn := Go.Proofs.Try.f22) (code := codeOf Go.Proofs.Try.f22) (by kernel_rfl) (by kernel_rfl) (Nat.le_of_ble_eq_true (by kernel_rfl)) ?_
  unfold R07_Texts at h
  refine aw_seq (by kernel_rfl) ?_
  refine aw_region [] [0, 1] [] 0 (vcs := []) (vals := [.sl false 1 (List.map AV.str a_1), .sl false 1 (List.map AV.str b_1)]) (bxs := []) (by kernel_rfl) hmix trivial ?_
  refine aw_seq (by kernel_rfl) ?_
  refine aw_seq (by kernel_rfl) ?_
  refine aw_region [(1, { n := (a_1).length }), (3, { n := (b_1).length })] [0, 1, 10] [] 0 (vcs := [((List.map AV.str a_1)).length = (a_1).length, ((List.map AV.str b_1)).length = (b_1).length]) (vals := [.sl false 1 (List.map AV.str a_1), .sl false 1 (List.map AV.str b_1), .bool ((((a_1).length : Nat) : Int) != (((b_1).length : Nat) : Int))]) (bxs := []) (by kernel_rfl) hmix ⟨(vc_len _), (vc_len _), trivial⟩ ?_
  refine aw_cond (t := 10) (b := ((((a_1).length : Nat) : Int) != (((b_1).length : Nat) : Int))) (by kernel_rfl) (by kernel_rfl) ?_ ?_
  · intro g_1; replace h := cond_t g_1 h
    refine aw_seq (by kernel_rfl) ?_
    refine aw_region [] [4] [] 0 (vcs := []) (vals := [.bool false]) (bxs := []) (by kernel_rfl) hmix trivial ?_
    refine aw_ret (by kernel_rfl) ?_
    replace h := Option.some.inj h; subst h
    exact ⟨.inr rfl, Nat.le_of_ble_eq_true rfl, by kernel_rfl⟩
  intro g_1; replace h := cond_f g_1 h
  refine aw_skip (by kernel_rfl) ?_
  refine aw_seq (by kernel_rfl) ?_
  refine aw_seq (by kernel_rfl) ?_
  refine aw_region [] [0, 1, 5] [] 0 (vcs := []) (vals := [.sl false 1 (List.map AV.str a_1), .sl false 1 (List.map AV.str b_1), .int .i64 (0 : Int)]) (bxs := []) (by kernel_rfl) hmix trivial ?_
  obtain ⟨o_1, h_1, h⟩ := bind_some h
  refine aw_conv (K1 := (fun e st' => match o_1 with | (.inl q0) => e = .normal ∧ Sub 0 st' (mk [] [] 0) | (.inr q1) => e = .ret ∧ FinR prog Go.Proofs.Try.f22 0 [] (.bool q1) st')) ?_ ?_
  · replace h := h_1
    refine aw_block (id := 0) (by kernel_rfl) ?_
    refine aw_sub (sub_wk [] [] [(0, .sl false 1 (List.map AV.str a_1)), (1, .sl false 1 (List.map AV.str b_1)), (5, .int .i64 (0 : Int))] [] (vcs := [(1 = 1 : Prop), ((List.map AV.str a_1) = (List.map AV.str a_1) : Prop), ((!false || false) = true : Prop), (1 = 1 : Prop), ((List.map AV.str b_1) = (List.map AV.str b_1) : Prop), ((!false || false) = true : Prop), ((.int .i64 (0 : Int) : AV) = .int .i64 (0 : Int) : Prop)]) (by kernel_rfl) ⟨rfl, rfl, rfl, rfl, rfl, rfl, rfl, trivial⟩) ?_
    refine aw_loopF (fun n st => ∃ (i_1 : Int), st = mk [(0, .sl false 1 (List.map AV.str a_1)), (1, .sl false 1 (List.map AV.str b_1)), (5, .int .i64 i_1)] [] 0 ∧ R07_Texts_L1 F a_1 b_1 n i_1 = some o_1) F (by kernel_rfl) ⟨_, rfl, h⟩ ?_ ?_
    · rintro _ ⟨_, _, h⟩; exact none_ne (h : (none : Option (Unit ⊕ Bool)) = some o_1)
    rintro n_1 _ ⟨i_1, rfl, h⟩
    replace h : R07_Texts_L1_body F a_1 b_1 (R07_Texts_L1 F a_1 b_1 n_1) i_1 = some o_1 := h
    unfold R07_Texts_L1_body at h
    refine aw_seq (by kernel_rfl) ?_
    refine aw_seq (by kernel_rfl) ?_
    refine aw_region [(2, { n := (a_1).length })] [0, 1, 5, 14] [] 0 (vcs := [((List.map AV.str a_1)).length = (a_1).length]) (vals := [.sl false 1 (List.map AV.str a_1), .sl false 1 (List.map AV.str b_1), .int .i64 i_1, .bool (decide (i_1 < (((a_1).length : Nat) : Int)))]) (bxs := []) (by kernel_rfl) hmix ⟨(vc_len _), trivial⟩ ?_
    refine aw_cond (t := 14) (b := (decide (i_1 < (((a_1).length : Nat) : Int)))) (by kernel_rfl) (by kernel_rfl) ?_ ?_
    rotate_left
    · intro g_2; replace h := cond_f g_2 h
      refine aw_exit (id := 0) (by kernel_rfl) ?_
      replace h := Option.some.inj h; subst h
      exact ⟨rfl, (sub_wk [] [] [] [] (vcs := []) (by kernel_rfl) trivial)⟩
    intro g_2; replace h := cond_t g_2 h
    refine aw_skip (by kernel_rfl) ?_
    refine aw_seq (by kernel_rfl) ?_
    refine aw_block (id := 1) (by kernel_rfl) ?_
    refine aw_seq (by kernel_rfl) ?_
    obtain ⟨x_1, h_2, h⟩ := bind_some h
    obtain ⟨x_2, h_3, h⟩ := bind_some h
    refine aw_region [(2, { av := .str x_1 }), (6, { av := .str x_2 })] [0, 1, 5, 25] [] 0 (vcs := [idxA (List.map AV.str a_1) i_1 = some (.str x_1), idxA (List.map AV.str b_1) i_1 = some (.str x_2)]) (vals := [.sl false 1 (List.map AV.str a_1), .sl false 1 (List.map AV.str b_1), .int .i64 i_1, .bool (!(x_1 == x_2))]) (bxs := []) (by kernel_rfl) hmix ⟨(vc_idx h_2), (vc_idx h_3), trivial⟩ ?_
    refine aw_cond (t := 25) (b := (!(x_1 == x_2))) (by kernel_rfl) (by kernel_rfl) ?_ ?_
    rotate_left
    · intro g_3; replace h := cond_f g_3 h
      refine aw_skip (by kernel_rfl) ?_
      refine aw_region [] [0, 1, 5] [] 0 (vcs := []) (vals := [.sl false 1 (List.map AV.str a_1), .sl false 1 (List.map AV.str b_1), .int .i64 (w_i64 (i_1 + (1 : Int)))]) (bxs := []) (by kernel_rfl) hmix trivial ?_
      exact ⟨_, (sub_wk [] [] [(0, .sl false 1 (List.map AV.str a_1)), (1, .sl false 1 (List.map AV.str b_1)), (5, .int .i64 (w_i64 (i_1 + (1 : Int))))] [] (vcs := [(1 = 1 : Prop), ((List.map AV.str a_1) = (List.map AV.str a_1) : Prop), ((!false || false) = true : Prop), (1 = 1 : Prop), ((List.map AV.str b_1) = (List.map AV.str b_1) : Prop), ((!false || false) = true : Prop), ((.int .i64 (w_i64 (i_1 + (1 : Int))) : AV) = .int .i64 (w_i64 (i_1 + (1 : Int))) : Prop)]) (by kernel_rfl) ⟨rfl, rfl, rfl, rfl, rfl, rfl, rfl, trivial⟩), _, rfl, h⟩
    intro g_3; replace h := cond_t g_3 h
    refine aw_seq (by kernel_rfl) ?_
    refine aw_region [] [4] [] 0 (vcs := []) (vals := [.bool false]) (bxs := []) (by kernel_rfl) hmix trivial ?_
    refine aw_ret (by kernel_rfl) ?_
    replace h := Option.some.inj h; subst h
    exact ⟨rfl, Nat.le_of_ble_eq_true rfl, by kernel_rfl⟩
  intro e st1 hk
  rcases o_1 with q_1 | q_2
  rotate_left
  · obtain ⟨rfl, hf⟩ := hk
    replace h := Option.some.inj h; subst h
    exact ⟨st1, Sub.refl _ _, .inr rfl, hf⟩
  obtain ⟨rfl, hs⟩ := hk
  refine ⟨_, hs, ?_⟩
  refine aw_seq (by kernel_rfl) ?_
  refine aw_region [] [4] [] 0 (vcs := []) (vals := [.bool true]) (bxs := []) (by kernel_rfl) hmix trivial ?_
  refine aw_ret (by kernel_rfl) ?_
  replace h := Option.some.inj h; subst h
  exact ⟨.inr rfl, Nat.le_of_ble_eq_true rfl, by kernel_rfl⟩

theorem R29_Same_ok (F : Nat) (a_1 : List (T_api_Sample)) (b_1 : List (T_api_Sample)) (r : Bool) (h : R29_Same F a_1 b_1 = some r) : Triple prog 10 [] [.sl false 4 (List.map e_T_api_Sample a_1), .sl false 4 (List.map e_T_api_Sample b_1)] [] (.bool r) := by
  refine triple_intro (fn := Go.Proofs.Try.f10) (code := codeOf Go.Proofs.Try.f10) (by kernel_rfl) (by kernel_rfl) (Nat.le_of_ble_eq_true (by kernel_rfl)) ?_
  unfold R29_Same at h
  refine aw_seq (by kernel_rfl) ?_
  refine aw_region [] [0, 1] [] 0 (vcs := []) (vals := [.sl false 4 (List.map e_T_api_Sample a_1), .sl false 4 (List.map e_T_api_Sample b_1)]) (bxs := []) (by kernel_rfl) hmix trivial ?_
  refine aw_seq (by kernel_rfl) ?_
  refine aw_seq (by kernel_rfl) ?_
  refine aw_region [(1, { n := (a_1).length }), (3, { n := (b_1).length })] [0, 1, 10] [] 0 (vcs := [((List.map e_T_api_Sample a_1)).length = (a_1).length, ((List.map e_T_api_Sample b_1)).length = (b_1).length]) (vals := [.sl false 4 (List.map e_T_api_Sample a_1), .sl false 4 (List.map e_T_api_Sample b_1), .bool ((((a_1).length : Nat) : Int) != (((b_1).length : Nat) : Int))]) (bxs := []) (by kernel_rfl) hmix ⟨(vc_len _), (vc_len _), trivial⟩ ?_
  refine aw_cond (t := 10) (b := ((((a_1).length : Nat) : Int) != (((b_1).length : Nat) : Int))) (by kernel_rfl) (by kernel_rfl) ?_ ?_
  · intro g_1; replace h := cond_t g_1 h
    refine aw_seq (by kernel_rfl) ?_
    refine aw_region [] [4] [] 0 (vcs := []) (vals := [.bool false]) (bxs := []) (by kernel_rfl) hmix trivial ?_
    refine aw_ret (by kernel_rfl) ?_
    replace h := Option.some.inj h; subst h
    exact ⟨.inr rfl, Nat.le_of_ble_eq_true rfl, by kernel_rfl⟩
  intro g_1; replace h := cond_f g_1 h
  refine aw_skip (by kernel_rfl) ?_
  refine aw_seq (by kernel_rfl) ?_
  refine aw_seq (by kernel_rfl) ?_
  refine aw_region [] [0, 1, 5] [] 0 (vcs := []) (vals := [.sl false 4 (List.map e_T_api_Sample a_1), .sl false 4 (List.map e_T_api_Sample b_1), .int .i64 (0 : Int)]) (bxs := []) (by kernel_rfl) hmix trivial ?_
  obtain ⟨o_1, h_1, h⟩ := bind_some h
  refine aw_conv (K1 := (fun e st' => match o_1 with | (.inl q0) => e = .normal ∧ Sub 0 st' (mk [] [] 0) | (.inr q1) => e = .ret ∧ FinR prog Go.Proofs.Try.f10 0 [] (.bool q1) st')) ?_ ?_
  · replace h := h_1
    refine aw_block (id := 0) (by kernel_rfl) ?_
    refine aw_sub (sub_wk [] [] [(0, .sl false 4 (List.map e_T_api_Sample a_1)), (1, .sl false 4 (List.map e_T_api_Sample b_1)), (5, .int .i64 (0 : Int))] [] (vcs := [(4 = 4 : Prop), ((List.map e_T_api_Sample a_1) = (List.map e_T_api_Sample a_1) : Prop), ((!false || false) = true : Prop), (4 = 4 : Prop), ((List.map e_T_api_Sample b_1) = (List.map e_T_api_Sample b_1) : Prop), ((!false || false) = true : Prop), ((.int .i64 (0 : Int) : AV) = .int .i64 (0 : Int) : Prop)]) (by kernel_rfl) ⟨rfl, rfl, rfl, rfl, rfl, rfl, rfl, trivial⟩) ?_
    refine aw_loopF (fun n st => ∃ (i_1 : Int), st = mk [(0, .sl false 4 (List.map e_T_api_Sample a_1)), (1, .sl false 4 (List.map e_T_api_Sample b_1)), (5, .int .i64 i_1)] [] 0 ∧ R29_Same_L1 F a_1 b_1 n i_1 = some o_1) F (by kernel_rfl) ⟨_, rfl, h⟩ ?_ ?_
    · rintro _ ⟨_, _, h⟩; exact none_ne (h : (none : Option (Unit ⊕ Bool)) = some o_1)
    rintro n_1 _ ⟨i_1, rfl, h⟩
    replace h : R29_Same_L1_body F a_1 b_1 (R29_Same_L1 F a_1 b_1 n_1) i_1 = some o_1 := h
    unfold R29_Same_L1_body at h
    refine aw_seq (by kernel_rfl) ?_
    refine aw_seq (by kernel_rfl) ?_
    refine aw_region [(2, { n := (a_1).length })] [0, 1, 5, 14] [] 0 (vcs := [((List.map e_T_api_Sample a_1)).length = (a_1).length]) (vals := [.sl false 4 (List.map e_T_api_Sample a_1), .sl false 4 (List.map e_T_api_Sample b_1), .int .i64 i_1, .bool (decide (i_1 < (((a_1).length : Nat) : Int)))]) (bxs := []) (by kernel_rfl) hmix ⟨(vc_len _), trivial⟩ ?_
    refine aw_cond (t := 14) (b := (decide (i_1 < (((a_1).length : Nat) : Int)))) (by kernel_rfl) (by kernel_rfl) ?_ ?_
    rotate_left
    · intro g_2; replace h := cond_f g_2 h
      refine aw_exit (id := 0) (by kernel_rfl) ?_
      replace h := Option.some.inj h; subst h
      exact ⟨rfl, (sub_wk [] [] [] [] (vcs := []) (by kernel_rfl) trivial)⟩
    intro g_2; replace h := cond_t g_2 h
    refine aw_skip (by kernel_rfl) ?_
    refine aw_seq (by kernel_rfl) ?_
    refine aw_block (id := 1) (by kernel_rfl) ?_
    refine aw_seq (by kernel_rfl) ?_
    obtain ⟨p_1, h_11, h⟩ := bind_some h
    refine aw_mid (mk [(0, .sl false 4 (List.map e_T_api_Sample a_1)), (1, .sl false 4 (List.map e_T_api_Sample b_1)), (5, .int .i64 i_1), (67, .bool p_1)] [] 0) ?_ ?_
    · replace h := h_11
      obtain ⟨x_1, h_2, h⟩ := bind_some h
      obtain ⟨x_2, h_3, h⟩ := bind_some h
      rcases Bool.eq_false_or_eq_true (x_1.Thread != x_2.Thread) with gg_10 | gg_10
      · replace h := cond_t gg_10 h
        refine aw_region [(2, { av := .agg [.int .i64 x_1.Thread, .int .i64 x_1.At, .int .i64 x_1.Weight, .sl false 1 (List.map AV.str x_1.Stack)] }), (7, { av := .agg [.int .i64 x_2.Thread, .int .i64 x_2.At, .int .i64 x_2.Weight, .sl false 1 (List.map AV.str x_2.Stack)] }), (12, { g := false }), (13, { g := false }), (14, { g := false }), (15, { g := false }), (16, { g := false }), (17, { g := false }), (18, { g := false }), (19, { g := false }), (20, { g := false }), (21, { g := false }), (22, { g := false }), (23, { b := true }), (25, { g := false }), (26, { g := false }), (27, { g := false }), (28, { g := false }), (29, { g := false }), (30, { g := false }), (31, { g := false }), (32, { g := false }), (33, { g := false }), (34, { g := false }), (35, { g := false }), (36, { b := true }), (38, { g := false }), (39, { g := false }), (40, { g := false }), (41, { g := false }), (42, { g := false }), (43, { g := false }), (44, { g := false }), (45, { g := false }), (46, { g := false }), (47, { g := false }), (48, { g := false }), (49, { g := false }), (50, { b := true })] [0, 1, 5, 29, 30, 31, 32, 33, 34, 35, 36, 37, 38, 39, 42, 43, 44, 45, 46, 47, 48, 49, 50, 51, 52, 55, 56, 57, 58, 59, 60, 61, 62, 63, 64, 65, 66, 67] [] 0 (vcs := [idxA (List.map e_T_api_Sample a_1) i_1 = some (.agg [.int .i64 x_1.Thread, .int .i64 x_1.At, .int .i64 x_1.Weight, .sl false 1 (List.map AV.str x_1.Stack)]), idxA (List.map e_T_api_Sample b_1) i_1 = some (.agg [.int .i64 x_2.Thread, .int .i64 x_2.At, .int .i64 x_2.Weight, .sl false 1 (List.map AV.str x_2.Stack)]), (x_1.Thread != x_2.Thread) = !false, (x_1.Thread != x_2.Thread) = !false, (x_1.Thread != x_2.Thread) = !false, (x_1.Thread != x_2.Thread) = !false, (x_1.Thread != x_2.Thread) = !false, (x_1.Thread != x_2.Thread) = !false, (x_1.Thread != x_2.Thread) = !false, (x_1.Thread != x_2.Thread) = !false, (x_1.Thread != x_2.Thread) = !false, (x_1.Thread != x_2.Thread) = !false, (x_1.Thread != x_2.Thread) = !false, (x_1.Thread != x_2.Thread) = true, true = !false, true = !false, true = !false, true = !false, true = !false, true = !false, true = !false, true = !false, true = !false, true = !false, true = !false, true = true, true = !false, true = !false, true = !false, true = !false, true = !false, true = !false, true = !false, true = !false, true = !false, true = !false, true = !false, true = !false, true = true]) (vals := [.sl false 4 (List.map e_T_api_Sample a_1), .sl false 4 (List.map e_T_api_Sample b_1), .int .i64 i_1, .tuple [], .tuple [], .tuple [], .tuple [], .tuple [], .tuple [], .tuple [], .tuple [], .tuple [], .tuple [], .tuple [], .tuple [], .tuple [], .tuple [], .tuple [], .tuple [], .tuple [], .tuple [], .tuple [], .tuple [], .tuple [], .tuple [], .tuple [], .tuple [], .tuple [], .tuple [], .tuple [], .tuple [], .tuple [], .tuple [], .tuple [], .tuple [], .tuple [], .tuple [], .bool true]) (bxs := []) (by kernel_rfl) hmix ⟨(vc_idx h_2), (vc_idx h_3), gg_10, gg_10, gg_10, gg_10, gg_10, gg_10, gg_10, gg_10, gg_10, gg_10, gg_10, gg_10, rfl, rfl, rfl, rfl, rfl, rfl, rfl, rfl, rfl, rfl, rfl, rfl, rfl, rfl, rfl, rfl, rfl, rfl, rfl, rfl, rfl, rfl, rfl, rfl, rfl, trivial⟩ ?_
        replace h := Option.some.inj h; subst h
        exact ⟨rfl, (sub_wk [] [] [(0, .sl false 4 (List.map e_T_api_Sample a_1)), (1, .sl false 4 (List.map e_T_api_Sample b_1)), (5, .int .i64 i_1), (67, .bool true)] [] (vcs := [(4 = 4 : Prop), ((List.map e_T_api_Sample a_1) = (List.map e_T_api_Sample a_1) : Prop), ((!false || false) = true : Prop), (4 = 4 : Prop), ((List.map e_T_api_Sample b_1) = (List.map e_T_api_Sample b_1) : Prop), ((!false || false) = true : Prop), ((.int .i64 i_1 : AV) = .int .i64 i_1 : Prop), ((.bool true : AV) = .bool true : Prop)]) (by kernel_rfl) ⟨rfl, rfl, rfl, rfl, rfl, rfl, rfl, rfl, trivial⟩)⟩
      · replace h := cond_f gg_10 h
        obtain ⟨x_3, h_4, h⟩ := bind_some h
        obtain ⟨x_4, h_5, h⟩ := bind_some h
        rcases Bool.eq_false_or_eq_true (x_3.At != x_4.At) with gg_11 | gg_11
        · replace h := cond_t gg_11 h
          refine aw_region [(2, { av := .agg [.int .i64 x_1.Thread, .int .i64 x_1.At, .int .i64 x_1.Weight, .sl false 1 (List.map AV.str x_1.Stack)] }), (7, { av := .agg [.int .i64 x_2.Thread, .int .i64 x_2.At, .int .i64 x_2.Weight, .sl false 1 (List.map AV.str x_2.Stack)] }), (14, { av := .agg [.int .i64 x_3.Thread, .int .i64 x_3.At, .int .i64 x_3.Weight, .sl false 1 (List.map AV.str x_3.Stack)] }), (19, { av := .agg [.int .i64 x_4.Thread, .int .i64 x_4.At, .int .i64 x_4.Weight, .sl false 1 (List.map AV.str x_4.Stack)] }), (23, { b := false }), (25, { g := false }), (26, { g := false }), (27, { g := false }), (28, { g := false }), (29, { g := false }), (30, { g := false }), (31, { g := false }), (32, { g := false }), (33, { g := false }), (34, { g := false }), (35, { g := false }), (36, { b := true }), (38, { g := false }), (39, { g := false }), (40, { g := false }), (41, { g := false }), (42, { g := false }), (43, { g := false }), (44, { g := false }), (45, { g := false }), (46, { g := false }), (47, { g := false }), (48, { g := false }), (49, { g := false }), (50, { b := true })] [0, 1, 5, 29, 30, 31, 32, 33, 34, 35, 36, 37, 38, 39, 42, 43, 44, 45, 46, 47, 48, 49, 50, 51, 52, 55, 56, 57, 58, 59, 60, 61, 62, 63, 64, 65, 66, 67] [] 0 (vcs := [idxA (List.map e_T_api_Sample a_1) i_1 = some (.agg [.int .i64 x_1.Thread, .int .i64 x_1.At, .int .i64 x_1.Weight, .sl false 1 (List.map AV.str x_1.Stack)]), idxA (List.map e_T_api_Sample b_1) i_1 = some (.agg [.int .i64 x_2.Thread, .int .i64 x_2.At, .int .i64 x_2.Weight, .sl false 1 (List.map AV.str x_2.Stack)]), (x_1.Thread != x_2.Thread) = false, (x_1.Thread != x_2.Thread) = false, (x_1.Thread != x_2.Thread) = false, idxA (List.map e_T_api_Sample a_1) i_1 = some (.agg [.int .i64 x_3.Thread, .int .i64 x_3.At, .int .i64 x_3.Weight, .sl false 1 (List.map AV.str x_3.Stack)]), (x_1.Thread != x_2.Thread) = false, (x_1.Thread != x_2.Thread) = false, (x_1.Thread != x_2.Thread) = false, (x_1.Thread != x_2.Thread) = false, (x_1.Thread != x_2.Thread) = false, idxA (List.map e_T_api_Sample b_1) i_1 = some (.agg [.int .i64 x_4.Thread, .int .i64 x_4.At, .int .i64 x_4.Weight, .sl false 1 (List.map AV.str x_4.Stack)]), (x_1.Thread != x_2.Thread) = false, (x_1.Thread != x_2.Thread) = false, (x_1.Thread != x_2.Thread) = false, (x_1.Thread != x_2.Thread) = false, (x_3.At != x_4.At) = !false, (x_3.At != x_4.At) = !false, (x_3.At != x_4.At) = !false, (x_3.At != x_4.At) = !false, (x_3.At != x_4.At) = !false, (x_3.At != x_4.At) = !false, (x_3.At != x_4.At) = !false, (x_3.At != x_4.At) = !false, (x_3.At != x_4.At) = !false, (x_3.At != x_4.At) = !false, (x_3.At != x_4.At) = !false, (x_3.At != x_4.At) = true, true = !false, true = !false, true = !false, true = !false, true = !false, true = !false, true = !false, true = !false, true = !false, true = !false, true = !false, true = !false, true = true]) (vals := [.sl false 4 (List.map e_T_api_Sample a_1), .sl false 4 (List.map e_T_api_Sample b_1), .int .i64 i_1, .sl false 4 (List.map e_T_api_Sample a_1), .int .i64 i_1, .ref (.agg [.int .i64 x_3.Thread, .int .i64 x_3.At, .int .i64 x_3.Weight, .sl false 1 (List.map AV.str x_3.Stack)]), .ref (.int .i64 x_3.At), .int .i64 x_3.At, .sl false 4 (List.map e_T_api_Sample b_1), .int .i64 i_1, .ref (.agg [.int .i64 x_4.Thread, .int .i64 x_4.At, .int .i64 x_4.Weight, .sl false 1 (List.map AV.str x_4.Stack)]), .ref (.int .i64 x_4.At), .int .i64 x_4.At, .bool (x_3.At != x_4.At), .tuple [], .tuple [], .tuple [], .tuple [], .tuple [], .tuple [], .tuple [], .tuple [], .tuple [], .tuple [], .tuple [], .tuple [], .tuple [], .tuple [], .tuple [], .tuple [], .tuple [], .tuple [], .tuple [], .tuple [], .tuple [], .tuple [], .tuple [], .bool true]) (bxs := []) (by kernel_rfl) hmix ⟨(vc_idx h_2), (vc_idx h_3), gg_10, gg_10, gg_10, (vc_idx h_4), gg_10, gg_10, gg_10, gg_10, gg_10, (vc_idx h_5), gg_10, gg_10, gg_10, gg_10, gg_11, gg_11, gg_11, gg_11, gg_11, gg_11, gg_11, gg_11, gg_11, gg_11, gg_11, gg_11, rfl, rfl, rfl, rfl, rfl, rfl, rfl, rfl, rfl, rfl, rfl, rfl, rfl, trivial⟩ ?_
          replace h := Option.some.inj h; subst h
          exact ⟨rfl, (sub_wk [] [] [(0, .sl false 4 (List.map e_T_api_Sample a_1)), (1, .sl false 4 (List.map e_T_api_Sample b_1)), (5, .int .i64 i_1), (67, .bool true)] [] (vcs := [(4 = 4 : Prop), ((List.map e_T_api_Sample a_1) = (List.map e_T_api_Sample a_1) : Prop), ((!false || false) = true : Prop), (4 = 4 : Prop), ((List.map e_T_api_Sample b_1) = (List.map e_T_api_Sample b_1) : Prop), ((!false || false) = true : Prop), ((.int .i64 i_1 : AV) = .int .i64 i_1 : Prop), ((.bool true : AV) = .bool true : Prop)]) (by kernel_rfl) ⟨rfl, rfl, rfl, rfl, rfl, rfl, rfl, rfl, trivial⟩)⟩
        · replace h := cond_f gg_11 h
          obtain ⟨x_5, h_6, h⟩ := bind_some h
          obtain ⟨x_6, h_7, h⟩ := bind_some h
          rcases Bool.eq_false_or_eq_true (x_5.Weight != x_6.Weight) with gg_12 | gg_12
          · replace h := cond_t gg_12 h
            refine aw_region [(2, { av := .agg [.int .i64 x_1.Thread, .int .i64 x_1.At, .int .i64 x_1.Weight, .sl false 1 (List.map AV.str x_1.Stack)] }), (7, { av := .agg [.int .i64 x_2.Thread, .int .i64 x_2.At, .int .i64 x_2.Weight, .sl false 1 (List.map AV.str x_2.Stack)] }), (14, { av := .agg [.int .i64 x_3.Thread, .int .i64 x_3.At, .int .i64 x_3.Weight, .sl false 1 (List.map AV.str x_3.Stack)] }), (19, { av := .agg [.int .i64 x_4.Thread, .int .i64 x_4.At, .int .i64 x_4.Weight, .sl false 1 (List.map AV.str x_4.Stack)] }), (23, { b := false }), (27, { av := .agg [.int .i64 x_5.Thread, .int .i64 x_5.At, .int .i64 x_5.Weight, .sl false 1 (List.map AV.str x_5.Stack)] }), (32, { av := .agg [.int .i64 x_6.Thread, .int .i64 x_6.At, .int .i64 x_6.Weight, .sl false 1 (List.map AV.str x_6.Stack)] }), (36, { b := false }), (38, { g := false }), (39, { g := false }), (40, { g := false }), (41, { g := false }), (42, { g := false }), (43, { g := false }), (44, { g := false }), (45, { g := false }), (46, { g := false }), (47, { g := false }), (48, { g := false }), (49, { g := false }), (50, { b := true })] [0, 1, 5, 29, 30, 31, 32, 33, 34, 35, 36, 37, 38, 39, 42, 43, 44, 45, 46, 47, 48, 49, 50, 51, 52, 55, 56, 57, 58, 59, 60, 61, 62, 63, 64, 65, 66, 67] [] 0 (vcs := [idxA (List.map e_T_api_Sample a_1) i_1 = some (.agg [.int .i64 x_1.Thread, .int .i64 x_1.At, .int .i64 x_1.Weight, .sl false 1 (List.map AV.str x_1.Stack)]), idxA (List.map e_T_api_Sample b_1) i_1 = some (.agg [.int .i64 x_2.Thread, .int .i64 x_2.At, .int .i64 x_2.Weight, .sl false 1 (List.map AV.str x_2.Stack)]), (x_1.Thread != x_2.Thread) = false, (x_1.Thread != x_2.Thread) = false, (x_1.Thread != x_2.Thread) = false, idxA (List.map e_T_api_Sample a_1) i_1 = some (.agg [.int .i64 x_3.Thread, .int .i64 x_3.At, .int .i64 x_3.Weight, .sl false 1 (List.map AV.str x_3.Stack)]), (x_1.Thread != x_2.Thread) = false, (x_1.Thread != x_2.Thread) = false, (x_1.Thread != x_2.Thread) = false, (x_1.Thread != x_2.Thread) = false, (x_1.Thread != x_2.Thread) = false, idxA (List.map e_T_api_Sample b_1) i_1 = some (.agg [.int .i64 x_4.Thread, .int .i64 x_4.At, .int .i64 x_4.Weight, .sl false 1 (List.map AV.str x_4.Stack)]), (x_1.Thread != x_2.Thread) = false, (x_1.Thread != x_2.Thread) = false, (x_1.Thread != x_2.Thread) = false, (x_1.Thread != x_2.Thread) = false, (x_3.At != x_4.At) = false, (x_3.At != x_4.At) = false, (x_3.At != x_4.At) = false, idxA (List.map e_T_api_Sample a_1) i_1 = some (.agg [.int .i64 x_5.Thread, .int .i64 x_5.At, .int .i64 x_5.Weight, .sl false 1 (List.map AV.str x_5.Stack)]), (x_3.At != x_4.At) = false, (x_3.At != x_4.At) = false, (x_3.At != x_4.At) = false, (x_3.At != x_4.At) = false, (x_3.At != x_4.At) = false, idxA (List.map e_T_api_Sample b_1) i_1 = some (.agg [.int .i64 x_6.Thread, .int .i64 x_6.At, .int .i64 x_6.Weight, .sl false 1 (List.map AV.str x_6.Stack)]), (x_3.At != x_4.At) = false, (x_3.At != x_4.At) = false, (x_3.At != x_4.At) = false, (x_3.At != x_4.At) = false, (x_5.Weight != x_6.Weight) = !false, (x_5.Weight != x_6.Weight) = !false, (x_5.Weight != x_6.Weight) = !false, (x_5.Weight != x_6.Weight) = !false, (x_5.Weight != x_6.Weight) = !false, (x_5.Weight != x_6.Weight) = !false, (x_5.Weight != x_6.Weight) = !false, (x_5.Weight != x_6.Weight) = !false, (x_5.Weight != x_6.Weight) = !false, (x_5.Weight != x_6.Weight) = !false, (x_5.Weight != x_6.Weight) = !false, (x_5.Weight != x_6.Weight) = !false, (x_5.Weight != x_6.Weight) = true]) (vals := [.sl false 4 (List.map e_T_api_Sample a_1), .sl false 4 (List.map e_T_api_Sample b_1), .int .i64 i_1, .sl false 4 (List.map e_T_api_Sample a_1), .int .i64 i_1, .ref (.agg [.int .i64 x_3.Thread, .int .i64 x_3.At, .int .i64 x_3.Weight, .sl false 1 (List.map AV.str x_3.Stack)]), .ref (.int .i64 x_3.At), .int .i64 x_3.At, .sl false 4 (List.map e_T_api_Sample b_1), .int .i64 i_1, .ref (.agg [.int .i64 x_4.Thread, .int .i64 x_4.At, .int .i64 x_4.Weight, .sl false 1 (List.map AV.str x_4.Stack)]), .ref (.int .i64 x_4.At), .int .i64 x_4.At, .bool (x_3.At != x_4.At), .sl false 4 (List.map e_T_api_Sample a_1), .int .i64 i_1, .ref (.agg [.int .i64 x_5.Thread, .int .i64 x_5.At, .int .i64 x_5.Weight, .sl false 1 (List.map AV.str x_5.Stack)]), .ref (.int .i64 x_5.Weight), .int .i64 x_5.Weight, .sl false 4 (List.map e_T_api_Sample b_1), .int .i64 i_1, .ref (.agg [.int .i64 x_6.Thread, .int .i64 x_6.At, .int .i64 x_6.Weight, .sl false 1 (List.map AV.str x_6.Stack)]), .ref (.int .i64 x_6.Weight), .int .i64 x_6.Weight, .bool (x_5.Weight != x_6.Weight), .tuple [], .tuple [], .tuple [], .tuple [], .tuple [], .tuple [], .tuple [], .tuple [], .tuple [], .tuple [], .tuple [], .tuple [], .bool true]) (bxs := []) (by kernel_rfl) hmix ⟨(vc_idx h_2), (vc_idx h_3), gg_10, gg_10, gg_10, (vc_idx h_4), gg_10, gg_10, gg_10, gg_10, gg_10, (vc_idx h_5), gg_10, gg_10, gg_10, gg_10, gg_11, gg_11, gg_11, (vc_idx h_6), gg_11, gg_11, gg_11, gg_11, gg_11, (vc_idx h_7), gg_11, gg_11, gg_11, gg_11, gg_12, gg_12, gg_12, gg_12, gg_12, gg_12, gg_12, gg_12, gg_12, gg_12, gg_12, gg_12, gg_12, trivial⟩ ?_
            replace h := Option.some.inj h; subst h
            exact ⟨rfl, (sub_wk [] [] [(0, .sl false 4 (List.map e_T_api_Sample a_1)), (1, .sl false 4 (List.map e_T_api_Sample b_1)), (5, .int .i64 i_1), (67, .bool true)] [] (vcs := [(4 = 4 : Prop), ((List.map e_T_api_Sample a_1) = (List.map e_T_api_Sample a_1) : Prop), ((!false || false) = true : Prop), (4 = 4 : Prop), ((List.map e_T_api_Sample b_1) = (List.map e_T_api_Sample b_1) : Prop), ((!false || false) = true : Prop), ((.int .i64 i_1 : AV) = .int .i64 i_1 : Prop), ((.bool true : AV) = .bool true : Prop)]) (by kernel_rfl) ⟨rfl, rfl, rfl, rfl, rfl, rfl, rfl, rfl, trivial⟩)⟩
          · replace h := cond_f gg_12 h
            obtain ⟨x_7, h_8, h⟩ := bind_some h
            obtain ⟨x_8, h_9, h⟩ := bind_some h
            obtain ⟨r_1, h_10, h⟩ := bind_some h
            refine aw_region [(2, { av := .agg [.int .i64 x_1.Thread, .int .i64 x_1.At, .int .i64 x_1.Weight, .sl false 1 (List.map AV.str x_1.Stack)] }), (7, { av := .agg [.int .i64 x_2.Thread, .int .i64 x_2.At, .int .i64 x_2.Weight, .sl false 1 (List.map AV.str x_2.Stack)] }), (14, { av := .agg [.int .i64 x_3.Thread, .int .i64 x_3.At, .int .i64 x_3.Weight, .sl false 1 (List.map AV.str x_3.Stack)] }), (19, { av := .agg [.int .i64 x_4.Thread, .int .i64 x_4.At, .int .i64 x_4.Weight, .sl false 1 (List.map AV.str x_4.Stack)] }), (23, { b := false }), (27, { av := .agg [.int .i64 x_5.Thread, .int .i64 x_5.At, .int .i64 x_5.Weight, .sl false 1 (List.map AV.str x_5.Stack)] }), (32, { av := .agg [.int .i64 x_6.Thread, .int .i64 x_6.At, .int .i64 x_6.Weight, .sl false 1 (List.map AV.str x_6.Stack)] }), (36, { b := false }), (40, { av := .agg [.int .i64 x_7.Thread, .int .i64 x_7.At, .int .i64 x_7.Weight, .sl false 1 (List.map AV.str x_7.Stack)] }), (45, { av := .agg [.int .i64 x_8.Thread, .int .i64 x_8.At, .int .i64 x_8.Weight, .sl false 1 (List.map AV.str x_8.Stack)] }), (48, { av := .bool r_1, l := [.sl false 1 (List.map AV.str x_7.Stack), .sl false 1 (List.map AV.str x_8.Stack)] }), (50, { b := false })] [0, 1, 5, 29, 30, 31, 32, 33, 34, 35, 36, 37, 38, 39, 42, 43, 44, 45, 46, 47, 48, 49, 50, 51, 52, 55, 56, 57, 58, 59, 60, 61, 62, 63, 64, 65, 66, 67] [] 0 (vcs := [idxA (List.map e_T_api_Sample a_1) i_1 = some (.agg [.int .i64 x_1.Thread, .int .i64 x_1.At, .int .i64 x_1.Weight, .sl false 1 (List.map AV.str x_1.Stack)]), idxA (List.map e_T_api_Sample b_1) i_1 = some (.agg [.int .i64 x_2.Thread, .int .i64 x_2.At, .int .i64 x_2.Weight, .sl false 1 (List.map AV.str x_2.Stack)]), (x_1.Thread != x_2.Thread) = false, (x_1.Thread != x_2.Thread) = false, (x_1.Thread != x_2.Thread) = false, idxA (List.map e_T_api_Sample a_1) i_1 = some (.agg [.int .i64 x_3.Thread, .int .i64 x_3.At, .int .i64 x_3.Weight, .sl false 1 (List.map AV.str x_3.Stack)]), (x_1.Thread != x_2.Thread) = false, (x_1.Thread != x_2.Thread) = false, (x_1.Thread != x_2.Thread) = false, (x_1.Thread != x_2.Thread) = false, (x_1.Thread != x_2.Thread) = false, idxA (List.map e_T_api_Sample b_1) i_1 = some (.agg [.int .i64 x_4.Thread, .int .i64 x_4.At, .int .i64 x_4.Weight, .sl false 1 (List.map AV.str x_4.Stack)]), (x_1.Thread != x_2.Thread) = false, (x_1.Thread != x_2.Thread) = false, (x_1.Thread != x_2.Thread) = false, (x_1.Thread != x_2.Thread) = false, (x_3.At != x_4.At) = false, (x_3.At != x_4.At) = false, (x_3.At != x_4.At) = false, idxA (List.map e_T_api_Sample a_1) i_1 = some (.agg [.int .i64 x_5.Thread, .int .i64 x_5.At, .int .i64 x_5.Weight, .sl false 1 (List.map AV.str x_5.Stack)]), (x_3.At != x_4.At) = false, (x_3.At != x_4.At) = false, (x_3.At != x_4.At) = false, (x_3.At != x_4.At) = false, (x_3.At != x_4.At) = false, idxA (List.map e_T_api_Sample b_1) i_1 = some (.agg [.int .i64 x_6.Thread, .int .i64 x_6.At, .int .i64 x_6.Weight, .sl false 1 (List.map AV.str x_6.Stack)]), (x_3.At != x_4.At) = false, (x_3.At != x_4.At) = false, (x_3.At != x_4.At) = false, (x_3.At != x_4.At) = false, (x_5.Weight != x_6.Weight) = false, (x_5.Weight != x_6.Weight) = false, (x_5.Weight != x_6.Weight) = false, idxA (List.map e_T_api_Sample a_1) i_1 = some (.agg [.int .i64 x_7.Thread, .int .i64 x_7.At, .int .i64 x_7.Weight, .sl false 1 (List.map AV.str x_7.Stack)]), (x_5.Weight != x_6.Weight) = false, (x_5.Weight != x_6.Weight) = false, (x_5.Weight != x_6.Weight) = false, (x_5.Weight != x_6.Weight) = false, (x_5.Weight != x_6.Weight) = false, idxA (List.map e_T_api_Sample b_1) i_1 = some (.agg [.int .i64 x_8.Thread, .int .i64 x_8.At, .int .i64 x_8.Weight, .sl false 1 (List.map AV.str x_8.Stack)]), (x_5.Weight != x_6.Weight) = false, (x_5.Weight != x_6.Weight) = false, (x_5.Weight != x_6.Weight) = false, ([.sl false 1 (List.map AV.str x_7.Stack), .sl false 1 (List.map AV.str x_8.Stack)] : List AV) = [.sl false 1 (List.map AV.str x_7.Stack), .sl false 1 (List.map AV.str x_8.Stack)], ([] : List BoxSt) = [], Triple prog 22 [] [.sl false 1 (List.map AV.str x_7.Stack), .sl false 1 (List.map AV.str x_8.Stack)] [] (.bool r_1), (x_5.Weight != x_6.Weight) = false, (x_5.Weight != x_6.Weight) = false]) (vals := [.sl false 4 (List.map e_T_api_Sample a_1), .sl false 4 (List.map e_T_api_Sample b_1), .int .i64 i_1, .sl false 4 (List.map e_T_api_Sample a_1), .int .i64 i_1, .ref (.agg [.int .i64 x_3.Thread, .int .i64 x_3.At, .int .i64 x_3.Weight, .sl false 1 (List.map AV.str x_3.Stack)]), .ref (.int .i64 x_3.At), .int .i64 x_3.At, .sl false 4 (List.map e_T_api_Sample b_1), .int .i64 i_1, .ref (.agg [.int .i64 x_4.Thread, .int .i64 x_4.At, .int .i64 x_4.Weight, .sl false 1 (List.map AV.str x_4.Stack)]), .ref (.int .i64 x_4.At), .int .i64 x_4.At, .bool (x_3.At != x_4.At), .sl false 4 (List.map e_T_api_Sample a_1), .int .i64 i_1, .ref (.agg [.int .i64 x_5.Thread, .int .i64 x_5.At, .int .i64 x_5.Weight, .sl false 1 (List.map AV.str x_5.Stack)]), .ref (.int .i64 x_5.Weight), .int .i64 x_5.Weight, .sl false 4 (List.map e_T_api_Sample b_1), .int .i64 i_1, .ref (.agg [.int .i64 x_6.Thread, .int .i64 x_6.At, .int .i64 x_6.Weight, .sl false 1 (List.map AV.str x_6.Stack)]), .ref (.int .i64 x_6.Weight), .int .i64 x_6.Weight, .bool (x_5.Weight != x_6.Weight), .sl false 4 (List.map e_T_api_Sample a_1), .int .i64 i_1, .ref (.agg [.int .i64 x_7.Thread, .int .i64 x_7.At, .int .i64 x_7.Weight, .sl false 1 (List.map AV.str x_7.Stack)]), .ref (.sl false 1 (List.map AV.str x_7.Stack)), .sl false 1 (List.map AV.str x_7.Stack), .sl false 4 (List.map e_T_api_Sample b_1), .int .i64 i_1, .ref (.agg [.int .i64 x_8.Thread, .int .i64 x_8.At, .int .i64 x_8.Weight, .sl false 1 (List.map AV.str x_8.Stack)]), .ref (.sl false 1 (List.map AV.str x_8.Stack)), .sl false 1 (List.map AV.str x_8.Stack), .bool r_1, .bool (!r_1), .bool (!r_1)]) (bxs := []) (by kernel_rfl) hmix ⟨(vc_idx h_2), (vc_idx h_3), gg_10, gg_10, gg_10, (vc_idx h_4), gg_10, gg_10, gg_10, gg_10, gg_10, (vc_idx h_5), gg_10, gg_10, gg_10, gg_10, gg_11, gg_11, gg_11, (vc_idx h_6), gg_11, gg_11, gg_11, gg_11, gg_11, (vc_idx h_7), gg_11, gg_11, gg_11, gg_11, gg_12, gg_12, gg_12, (vc_idx h_8), gg_12, gg_12, gg_12, gg_12, gg_12, (vc_idx h_9), gg_12, gg_12, gg_12, rfl, rfl, (R07_Texts_ok F x_7.Stack x_8.Stack r_1 h_10), gg_12, gg_12, trivial⟩ ?_
            replace h := Option.some.inj h; subst h
            exact ⟨rfl, (sub_wk [] [] [(0, .sl false 4 (List.map e_T_api_Sample a_1)), (1, .sl false 4 (List.map e_T_api_Sample b_1)), (5, .int .i64 i_1), (67, .bool (!r_1))] [] (vcs := [(4 = 4 : Prop), ((List.map e_T_api_Sample a_1) = (List.map e_T_api_Sample a_1) : Prop), ((!false || false) = true : Prop), (4 = 4 : Prop), ((List.map e_T_api_Sample b_1) = (List.map e_T_api_Sample b_1) : Prop), ((!false || false) = true : Prop), ((.int .i64 i_1 : AV) = .int .i64 i_1 : Prop), ((.bool (!r_1) : AV) = .bool (!r_1) : Prop)]) (by kernel_rfl) ⟨rfl, rfl, rfl, rfl, rfl, rfl, rfl, rfl, trivial⟩)⟩
    refine aw_cond (t := 67) (b := p_1) (by kernel_rfl) (by kernel_rfl) ?_ ?_
    rotate_left
    · intro g_3; replace h := cond_f g_3 h
      refine aw_skip (by kernel_rfl) ?_
      refine aw_region [] [0, 1, 5] [] 0 (vcs := []) (vals := [.sl false 4 (List.map e_T_api_Sample a_1), .sl false 4 (List.map e_T_api_Sample b_1), .int .i64 (w_i64 (i_1 + (1 : Int)))]) (bxs := []) (by kernel_rfl) hmix trivial ?_
      exact ⟨_, (sub_wk [] [] [(0, .sl false 4 (List.map e_T_api_Sample a_1)), (1, .sl false 4 (List.map e_T_api_Sample b_1)), (5, .int .i64 (w_i64 (i_1 + (1 : Int))))] [] (vcs := [(4 = 4 : Prop), ((List.map e_T_api_Sample a_1) = (List.map e_T_api_Sample a_1) : Prop), ((!false || false) = true : Prop), (4 = 4 : Prop), ((List.map e_T_api_Sample b_1) = (List.map e_T_api_Sample b_1) : Prop), ((!false || false) = true : Prop), ((.int .i64 (w_i64 (i_1 + (1 : Int))) : AV) = .int .i64 (w_i64 (i_1 + (1 : Int))) : Prop)]) (by kernel_rfl) ⟨rfl, rfl, rfl, rfl, rfl, rfl, rfl, trivial⟩), _, rfl, h⟩
    intro g_3; replace h := cond_t g_3 h
    refine aw_seq (by kernel_rfl) ?_
    refine aw_region [] [4] [] 0 (vcs := []) (vals := [.bool false]) (bxs := []) (by kernel_rfl) hmix trivial ?_
    refine aw_ret (by kernel_rfl) ?_
    replace h := Option.some.inj h; subst h
    exact ⟨rfl, Nat.le_of_ble_eq_true rfl, by kernel_rfl⟩
  intro e st1 hk
  rcases o_1 with q_1 | q_2
  rotate_left
  · obtain ⟨rfl, hf⟩ := hk
    replace h := Option.some.inj h; subst h
    exact ⟨st1, Sub.refl _ _, .inr rfl, hf⟩
  obtain ⟨rfl, hs⟩ := hk
  refine ⟨_, hs, ?_⟩
  refine aw_seq (by kernel_rfl) ?_
  refine aw_region [] [4] [] 0 (vcs := []) (vals := [.bool true]) (bxs := []) (by kernel_rfl) hmix trivial ?_
  refine aw_ret (by kernel_rfl) ?_
  replace h := Option.some.inj h; subst h
  exact ⟨.inr rfl, Nat.le_of_ble_eq_true rfl, by kernel_rfl⟩

theorem L29_SampleOf_ok (F : Nat) (o_1 : List (T_api_Timed)) (r : Bool) (h : L29_SampleOf F o_1 = some r) : Triple prog 3 [] [.sl false 10 (List.map e_T_api_Timed o_1)] [] (.bool r) := by
  refine triple_intro (fn := Go.Proofs.Try.f3) (code := codeOf Go.Proofs.Try.f3) (by kernel_rfl) (by kernel_rfl) (Nat.le_of_ble_eq_true (by kernel_rfl)) ?_
  unfold L29_SampleOf at h
  refine aw_seq (by kernel_rfl) ?_
  refine aw_region [] [0] [] 0 (vcs := []) (vals := [.sl false 10 (List.map e_T_api_Timed o_1)]) (bxs := []) (by kernel_rfl) hmix trivial ?_
  refine aw_seq (by kernel_rfl) ?_
  refine aw_seq (by kernel_rfl) ?_
  obtain ⟨p_1, h_2, h⟩ := bind_some h
  refine aw_mid (mk [(0, .sl false 10 (List.map e_T_api_Timed o_1)), (10, .bool p_1)] [] 0) ?_ ?_
  · replace h := h_2
    obtain ⟨r_1, h_1, h⟩ := bind_some h
    rcases Bool.eq_false_or_eq_true (!r_1) with gg_1 | gg_1
    · replace h := cond_t gg_1 h
      refine aw_region [(0, { av := .bool r_1, l := [] }), (3, { g := false }), (4, { g := false }), (5, { g := false }), (6, { b := true })] [0, 10] [] 0 (vcs := [([] : List AV) = [], ([] : List BoxSt) = [], Triple prog 8 [] [] [] (.bool r_1), (!r_1) = !false, (!r_1) = !false, (!r_1) = !false, (!r_1) = true]) (vals := [.sl false 10 (List.map e_T_api_Timed o_1), .bool true]) (bxs := []) (by kernel_rfl) hmix ⟨rfl, rfl, (L29_awake_ok F r_1 h_1), gg_1, gg_1, gg_1, gg_1, trivial⟩ ?_
      replace h := Option.some.inj h; subst h
      exact ⟨rfl, (sub_wk [] [] [(0, .sl false 10 (List.map e_T_api_Timed o_1)), (10, .bool true)] [] (vcs := [(10 = 10 : Prop), ((List.map e_T_api_Timed o_1) = (List.map e_T_api_Timed o_1) : Prop), ((!false || false) = true : Prop), ((.bool true : AV) = .bool true : Prop)]) (by kernel_rfl) ⟨rfl, rfl, rfl, rfl, trivial⟩)⟩
    · replace h := cond_f gg_1 h
      refine aw_region [(0, { av := .bool r_1, l := [] }), (4, { n := (o_1).length }), (6, { b := false })] [0, 10] [] 0 (vcs := [([] : List AV) = [], ([] : List BoxSt) = [], Triple prog 8 [] [] [] (.bool r_1), (!r_1) = false, (!r_1) = false, ((List.map e_T_api_Timed o_1)).length = (o_1).length, (!r_1) = false, (!r_1) = false]) (vals := [.sl false 10 (List.map e_T_api_Timed o_1), .bool (decide ((((o_1).length : Nat) : Int) > (60 : Int)))]) (bxs := []) (by kernel_rfl) hmix ⟨rfl, rfl, (L29_awake_ok F r_1 h_1), gg_1, gg_1, (vc_len _), gg_1, gg_1, trivial⟩ ?_
      replace h := Option.some.inj h; subst h
      exact ⟨rfl, (sub_wk [] [] [(0, .sl false 10 (List.map e_T_api_Timed o_1)), (10, .bool (decide ((((o_1).length : Nat) : Int) > (60 : Int))))] [] (vcs := [(10 = 10 : Prop), ((List.map e_T_api_Timed o_1) = (List.map e_T_api_Timed o_1) : Prop), ((!false || false) = true : Prop), ((.bool (decide ((((o_1).length : Nat) : Int) > (60 : Int))) : AV) = .bool (decide ((((o_1).length : Nat) : Int) > (60 : Int))) : Prop)]) (by kernel_rfl) ⟨rfl, rfl, rfl, rfl, trivial⟩)⟩
  refine aw_cond (t := 10) (b := p_1) (by kernel_rfl) (by kernel_rfl) ?_ ?_
  · intro g_1; replace h := cond_t g_1 h
    refine aw_seq (by kernel_rfl) ?_
    obtain ⟨r_2, h_3, h⟩ := bind_some h
    refine aw_region [(0, { av := .bool r_2, l := [] })] [2] [] 0 (vcs := [([] : List AV) = [], ([] : List BoxSt) = [], Triple prog 8 [] [] [] (.bool r_2)]) (vals := [.bool r_2]) (bxs := []) (by kernel_rfl) hmix ⟨rfl, rfl, (L29_awake_ok F r_2 h_3), trivial⟩ ?_
    refine aw_ret (by kernel_rfl) ?_
    replace h := Option.some.inj h; subst h
    exact ⟨.inr rfl, Nat.le_of_ble_eq_true rfl, by kernel_rfl⟩
  intro g_1; replace h := cond_f g_1 h
  refine aw_skip (by kernel_rfl) ?_
  refine aw_seq (by kernel_rfl) ?_
  refine aw_seq (by kernel_rfl) ?_
  refine aw_region [] [0, 3] [] 0 (vcs := []) (vals := [.sl false 10 (List.map e_T_api_Timed o_1), .int .i64 (0 : Int)]) (bxs := []) (by kernel_rfl) hmix trivial ?_
  obtain ⟨o_2, h_4, h⟩ := bind_some h
  refine aw_conv (K1 := (fun e st' => match o_2 with | (.inl q0) => e = .normal ∧ Sub 0 st' (mk [(0, .sl false 10 (List.map e_T_api_Timed o_1))] [] 0) | (.inr q1) => e = .ret ∧ FinR prog Go.Proofs.Try.f3 0 [] (.bool q1) st')) ?_ ?_
  · replace h := h_4
    refine aw_block (id := 0) (by kernel_rfl) ?_
    refine aw_sub (sub_wk [] [] [(0, .sl false 10 (List.map e_T_api_Timed o_1)), (3, .int .i64 (0 : Int))] [] (vcs := [(10 = 10 : Prop), ((List.map e_T_api_Timed o_1) = (List.map e_T_api_Timed o_1) : Prop), ((!false || false) = true : Prop), ((.int .i64 (0 : Int) : AV) = .int .i64 (0 : Int) : Prop)]) (by kernel_rfl) ⟨rfl, rfl, rfl, rfl, trivial⟩) ?_
    refine aw_loopF (fun n st => ∃ (i_1 : Int), st = mk [(0, .sl false 10 (List.map e_T_api_Timed o_1)), (3, .int .i64 i_1)] [] 0 ∧ L29_SampleOf_L1 F o_1 n i_1 = some o_2) F (by kernel_rfl) ⟨_, rfl, h⟩ ?_ ?_
    · rintro _ ⟨_, _, h⟩; exact none_ne (h : (none : Option (Unit ⊕ Bool)) = some o_2)
    rintro n_1 _ ⟨i_1, rfl, h⟩
    replace h : L29_SampleOf_L1_body F o_1 (L29_SampleOf_L1 F o_1 n_1) i_1 = some o_2 := h
    unfold L29_SampleOf_L1_body at h
    refine aw_seq (by kernel_rfl) ?_
    refine aw_seq (by kernel_rfl) ?_
    refine aw_region [(2, { n := (o_1).length })] [0, 3, 15] [] 0 (vcs := [((List.map e_T_api_Timed o_1)).length = (o_1).length]) (vals := [.sl false 10 (List.map e_T_api_Timed o_1), .int .i64 i_1, .bool (decide (i_1 < (((o_1).length : Nat) : Int)))]) (bxs := []) (by kernel_rfl) hmix ⟨(vc_len _), trivial⟩ ?_
    refine aw_cond (t := 15) (b := (decide (i_1 < (((o_1).length : Nat) : Int)))) (by kernel_rfl) (by kernel_rfl) ?_ ?_
    rotate_left
    · intro g_2; replace h := cond_f g_2 h
      refine aw_exit (id := 0) (by kernel_rfl) ?_
      replace h := Option.some.inj h; subst h
      exact ⟨rfl, (sub_wk [] [] [(0, .sl false 10 (List.map e_T_api_Timed o_1))] [] (vcs := [(10 = 10 : Prop), ((List.map e_T_api_Timed o_1) = (List.map e_T_api_Timed o_1) : Prop), ((!false || false) = true : Prop)]) (by kernel_rfl) ⟨rfl, rfl, rfl, trivial⟩)⟩
    intro g_2; replace h := cond_t g_2 h
    refine aw_skip (by kernel_rfl) ?_
    refine aw_seq (by kernel_rfl) ?_
    refine aw_block (id := 1) (by kernel_rfl) ?_
    refine aw_seq (by kernel_rfl) ?_
    obtain ⟨x_1, h_5, h⟩ := bind_some h
    obtain ⟨r_3, h_6, h⟩ := bind_some h
    refine aw_region [(2, { av := .agg [.int .i64 x_1.Id.Thread, .int .i64 x_1.Id.Serial, .int .i64 x_1.Event.At, .int .i64 x_1.Event.Kind, .str x_1.Event.Name, .int .i64 x_1.Event.N, .int .i64 x_1.Event.M, .sl false 1 (List.map AV.str x_1.Event.Stack), .int .i64 x_1.When.Lo, .int .i64 x_1.When.Hi] }), (5, { av := .bool r_3, l := [.agg [.int .i64 x_1.Event.At, .int .i64 x_1.Event.Kind, .str x_1.Event.Name, .int .i64 x_1.Event.N, .int .i64 x_1.Event.M, .sl false 1 (List.map AV.str x_1.Event.Stack)]] })] [0, 3, 24] [] 0 (vcs := [idxA (List.map e_T_api_Timed o_1) i_1 = some (.agg [.int .i64 x_1.Id.Thread, .int .i64 x_1.Id.Serial, .int .i64 x_1.Event.At, .int .i64 x_1.Event.Kind, .str x_1.Event.Name, .int .i64 x_1.Event.N, .int .i64 x_1.Event.M, .sl false 1 (List.map AV.str x_1.Event.Stack), .int .i64 x_1.When.Lo, .int .i64 x_1.When.Hi]), ([.agg [.int .i64 x_1.Event.At, .int .i64 x_1.Event.Kind, .str x_1.Event.Name, .int .i64 x_1.Event.N, .int .i64 x_1.Event.M, .sl false 1 (List.map AV.str x_1.Event.Stack)]] : List AV) = [.agg [.int .i64 x_1.Event.At, .int .i64 x_1.Event.Kind, .str x_1.Event.Name, .int .i64 x_1.Event.N, .int .i64 x_1.Event.M, .sl false 1 (List.map AV.str x_1.Event.Stack)]], ([] : List BoxSt) = [], Triple prog 9 [] [.agg [.int .i64 x_1.Event.At, .int .i64 x_1.Event.Kind, .str x_1.Event.Name, .int .i64 x_1.Event.N, .int .i64 x_1.Event.M, .sl false 1 (List.map AV.str x_1.Event.Stack)]] [] (.bool r_3)]) (vals := [.sl false 10 (List.map e_T_api_Timed o_1), .int .i64 i_1, .bool (!r_3)]) (bxs := []) (by kernel_rfl) hmix ⟨(vc_idx h_5), rfl, rfl, (R07_Small_ok F x_1.Event r_3 h_6), trivial⟩ ?_
    refine aw_cond (t := 24) (b := (!r_3)) (by kernel_rfl) (by kernel_rfl) ?_ ?_
    rotate_left
    · intro g_3; replace h := cond_f g_3 h
      refine aw_skip (by kernel_rfl) ?_
      refine aw_region [] [0, 3] [] 0 (vcs := []) (vals := [.sl false 10 (List.map e_T_api_Timed o_1), .int .i64 (w_i64 (i_1 + (1 : Int)))]) (bxs := []) (by kernel_rfl) hmix trivial ?_
      exact ⟨_, (sub_wk [] [] [(0, .sl false 10 (List.map e_T_api_Timed o_1)), (3, .int .i64 (w_i64 (i_1 + (1 : Int))))] [] (vcs := [(10 = 10 : Prop), ((List.map e_T_api_Timed o_1) = (List.map e_T_api_Timed o_1) : Prop), ((!false || false) = true : Prop), ((.int .i64 (w_i64 (i_1 + (1 : Int))) : AV) = .int .i64 (w_i64 (i_1 + (1 : Int))) : Prop)]) (by kernel_rfl) ⟨rfl, rfl, rfl, rfl, trivial⟩), _, rfl, h⟩
    intro g_3; replace h := cond_t g_3 h
    refine aw_seq (by kernel_rfl) ?_
    refine aw_region [] [2] [] 0 (vcs := []) (vals := [.bool true]) (bxs := []) (by kernel_rfl) hmix trivial ?_
    refine aw_ret (by kernel_rfl) ?_
    replace h := Option.some.inj h; subst h
    exact ⟨rfl, Nat.le_of_ble_eq_true rfl, by kernel_rfl⟩
  intro e st1 hk
  rcases o_2 with q_1 | q_2
  rotate_left
  · obtain ⟨rfl, hf⟩ := hk
    replace h := Option.some.inj h; subst h
    exact ⟨st1, Sub.refl _ _, .inr rfl, hf⟩
  obtain ⟨rfl, hs⟩ := hk
  refine ⟨_, hs, ?_⟩
  refine aw_seq (by kernel_rfl) ?_
  obtain ⟨r_4, h_7, h⟩ := bind_some h
  obtain ⟨r_5, h_8, h⟩ := bind_some h
  obtain ⟨r_6, h_9, h⟩ := bind_some h
  refine aw_region [(1, { av := .own 0 ((r_4).length), ids := [0], l := [.sl false 10 (List.map e_T_api_Timed o_1)], post := [(.row 42 4 (List.map e_T_api_Sample r_4))] }), (3, { av := .own 0 ((r_5).length), ids := [1], l := [.sl false 10 (List.map e_T_api_Timed o_1)], post := [(.row 42 4 (List.map e_T_api_Sample r_5))] }), (4, { av := .bool r_6, frz := [0, 1], l := [.sl false 4 (List.map e_T_api_Sample r_4), .sl false 4 (List.map e_T_api_Sample r_5)] })] [2] [] 2 (vcs := [([.sl false 10 (List.map e_T_api_Timed o_1)] : List AV) = [.sl false 10 (List.map e_T_api_Timed o_1)], ([] : List BoxSt) = [], Triple prog 11 [] [.sl false 10 (List.map e_T_api_Timed o_1)] [(.row 42 4 (List.map e_T_api_Sample r_4))] (.own 0 ((r_4).length)), ([.sl false 10 (List.map e_T_api_Timed o_1)] : List AV) = [.sl false 10 (List.map e_T_api_Timed o_1)], ([] : List BoxSt) = [], Triple prog 12 [] [.sl false 10 (List.map e_T_api_Timed o_1)] [(.row 42 4 (List.map e_T_api_Sample r_5))] (.own 0 ((r_5).length)), (r_4).length = ((List.map e_T_api_Sample r_4)).length, (r_5).length = ((List.map e_T_api_Sample r_5)).length, ([.sl false 4 (List.map e_T_api_Sample r_4), .sl false 4 (List.map e_T_api_Sample r_5)] : List AV) = [.sl false 4 (List.map e_T_api_Sample r_4), .sl false 4 (List.map e_T_api_Sample r_5)], ([] : List BoxSt) = [], Triple prog 10 [] [.sl false 4 (List.map e_T_api_Sample r_4), .sl false 4 (List.map e_T_api_Sample r_5)] [] (.bool r_6)]) (vals := [.bool r_6]) (bxs := []) (by kernel_rfl) hmix ⟨rfl, rfl, (sample_Of_ok F o_1 r_4 h_7), rfl, rfl, (R29_Of_ok F o_1 r_5 h_8), (by first | (simp; done) | (simp; omega)), (by first | (simp; done) | (simp; omega)), rfl, rfl, (R29_Same_ok F r_4 r_5 r_6 h_9), trivial⟩ ?_
  refine aw_ret (by kernel_rfl) ?_
  replace h := Option.some.inj h; subst h
  exact ⟨.inr rfl, Nat.le_of_ble_eq_true rfl, by kernel_rfl⟩

theorem L29_SampleOrdered_ok (F : Nat) (o_1 : List (T_api_Timed)) (r : Bool) (h : L29_SampleOrdered F o_1 = some r) : Triple prog 4 [] [.sl false 10 (List.map e_T_api_Timed o_1)] [] (.bool r) := by
  refine triple_intro (fn := Go.Proofs.Try.f4) (code := codeOf Go.Proofs.Try.f4) (by kernel_rfl) (by kernel_rfl) (Nat.le_of_ble_eq_true (by kernel_rfl)) ?_
  unfold L29_SampleOrdered at h
  refine aw_seq (by kernel_rfl) ?_
  refine aw_region [] [0] [] 0 (vcs := []) (vals := [.sl false 10 (List.map e_T_api_Timed o_1)]) (bxs := []) (by kernel_rfl) hmix trivial ?_
  refine aw_seq (by kernel_rfl) ?_
  refine aw_seq (by kernel_rfl) ?_
  obtain ⟨p_1, h_2, h⟩ := bind_some h
  refine aw_mid (mk [(0, .sl false 10 (List.map e_T_api_Timed o_1)), (13, .bool p_1)] [] 0) ?_ ?_
  · replace h := h_2
    obtain ⟨r_1, h_1, h⟩ := bind_some h
    rcases Bool.eq_false_or_eq_true (!r_1) with gg_1 | gg_1
    · replace h := cond_t gg_1 h
      refine aw_region [(0, { av := .bool r_1, l := [] }), (3, { g := false }), (4, { g := false }), (5, { g := false }), (6, { b := true })] [0, 13] [] 0 (vcs := [([] : List AV) = [], ([] : List BoxSt) = [], Triple prog 8 [] [] [] (.bool r_1), (!r_1) = !false, (!r_1) = !false, (!r_1) = !false, (!r_1) = true]) (vals := [.sl false 10 (List.map e_T_api_Timed o_1), .bool true]) (bxs := []) (by kernel_rfl) hmix ⟨rfl, rfl, (L29_awake_ok F r_1 h_1), gg_1, gg_1, gg_1, gg_1, trivial⟩ ?_
      replace h := Option.some.inj h; subst h
      exact ⟨rfl, (sub_wk [] [] [(0, .sl false 10 (List.map e_T_api_Timed o_1)), (13, .bool true)] [] (vcs := [(10 = 10 : Prop), ((List.map e_T_api_Timed o_1) = (List.map e_T_api_Timed o_1) : Prop), ((!false || false) = true : Prop), ((.bool true : AV) = .bool true : Prop)]) (by kernel_rfl) ⟨rfl, rfl, rfl, rfl, trivial⟩)⟩
    · replace h := cond_f gg_1 h
      refine aw_region [(0, { av := .bool r_1, l := [] }), (4, { n := (o_1).length }), (6, { b := false })] [0, 13] [] 0 (vcs := [([] : List AV) = [], ([] : List BoxSt) = [], Triple prog 8 [] [] [] (.bool r_1), (!r_1) = false, (!r_1) = false, ((List.map e_T_api_Timed o_1)).length = (o_1).length, (!r_1) = false, (!r_1) = false]) (vals := [.sl false 10 (List.map e_T_api_Timed o_1), .bool (decide ((((o_1).length : Nat) : Int) > (60 : Int)))]) (bxs := []) (by kernel_rfl) hmix ⟨rfl, rfl, (L29_awake_ok F r_1 h_1), gg_1, gg_1, (vc_len _), gg_1, gg_1, trivial⟩ ?_
      replace h := Option.some.inj h; subst h
      exact ⟨rfl, (sub_wk [] [] [(0, .sl false 10 (List.map e_T_api_Timed o_1)), (13, .bool (decide ((((o_1).length : Nat) : Int) > (60 : Int))))] [] (vcs := [(10 = 10 : Prop), ((List.map e_T_api_Timed o_1) = (List.map e_T_api_Timed o_1) : Prop), ((!false || false) = true : Prop), ((.bool (decide ((((o_1).length : Nat) : Int) > (60 : Int))) : AV) = .bool (decide ((((o_1).length : Nat) : Int) > (60 : Int))) : Prop)]) (by kernel_rfl) ⟨rfl, rfl, rfl, rfl, trivial⟩)⟩
  refine aw_cond (t := 13) (b := p_1) (by kernel_rfl) (by kernel_rfl) ?_ ?_
  · intro g_1; replace h := cond_t g_1 h
    refine aw_seq (by kernel_rfl) ?_
    obtain ⟨r_2, h_3, h⟩ := bind_some h
    refine aw_region [(0, { av := .bool r_2, l := [] })] [2] [] 0 (vcs := [([] : List AV) = [], ([] : List BoxSt) = [], Triple prog 8 [] [] [] (.bool r_2)]) (vals := [.bool r_2]) (bxs := []) (by kernel_rfl) hmix ⟨rfl, rfl, (L29_awake_ok F r_2 h_3), trivial⟩ ?_
    refine aw_ret (by kernel_rfl) ?_
    replace h := Option.some.inj h; subst h
    exact ⟨.inr rfl, Nat.le_of_ble_eq_true rfl, by kernel_rfl⟩
  intro g_1; replace h := cond_f g_1 h
  refine aw_skip (by kernel_rfl) ?_
  refine aw_seq (by kernel_rfl) ?_
  refine aw_region [] [0, 3] [] 0 (vcs := []) (vals := [.sl false 10 (List.map e_T_api_Timed o_1), .int .i64 (0 : Int)]) (bxs := []) (by kernel_rfl) hmix trivial ?_
  refine aw_seq (by kernel_rfl) ?_
  refine aw_seq (by kernel_rfl) ?_
  refine aw_region [] [0, 3, 4] [] 0 (vcs := []) (vals := [.sl false 10 (List.map e_T_api_Timed o_1), .int .i64 (0 : Int), .int .i64 (0 : Int)]) (bxs := []) (by kernel_rfl) hmix trivial ?_
  obtain ⟨o_2, h_4, h⟩ := bind_some h
  refine aw_conv (K1 := (fun e st' => match o_2 with | (.inl q0) => e = .normal ∧ Sub 0 st' (mk [(0, .sl false 10 (List.map e_T_api_Timed o_1)), (3, .int .i64 q0)] [] 0) | (.inr q1) => e = .ret ∧ FinR prog Go.Proofs.Try.f4 0 [] (.bool q1) st')) ?_ ?_
  · replace h := h_4
    refine aw_block (id := 0) (by kernel_rfl) ?_
    refine aw_sub (sub_wk [] [] [(0, .sl false 10 (List.map e_T_api_Timed o_1)), (3, .int .i64 (0 : Int)), (4, .int .i64 (0 : Int))] [] (vcs := [(10 = 10 : Prop), ((List.map e_T_api_Timed o_1) = (List.map e_T_api_Timed o_1) : Prop), ((!false || false) = true : Prop), ((.int .i64 (0 : Int) : AV) = .int .i64 (0 : Int) : Prop), ((.int .i64 (0 : Int) : AV) = .int .i64 (0 : Int) : Prop)]) (by kernel_rfl) ⟨rfl, rfl, rfl, rfl, rfl, trivial⟩) ?_
    refine aw_loopF (fun n st => ∃ (n_1 : Int), ∃ (i_1 : Int), st = mk [(0, .sl false 10 (List.map e_T_api_Timed o_1)), (3, .int .i64 n_1), (4, .int .i64 i_1)] [] 0 ∧ L29_SampleOrdered_L1 F o_1 n n_1 i_1 = some o_2) F (by kernel_rfl) ⟨_, _, rfl, h⟩ ?_ ?_
    · rintro _ ⟨_, _, _, h⟩; exact none_ne (h : (none : Option (Int ⊕ Bool)) = some o_2)
    rintro n_2 _ ⟨n_1, i_1, rfl, h⟩
    replace h : L29_SampleOrdered_L1_body F o_1 (L29_SampleOrdered_L1 F o_1 n_2) n_1 i_1 = some o_2 := h
    unfold L29_SampleOrdered_L1_body at h
    refine aw_seq (by kernel_rfl) ?_
    refine aw_seq (by kernel_rfl) ?_
    refine aw_region [(2, { n := (o_1).length })] [0, 3, 4, 18] [] 0 (vcs := [((List.map e_T_api_Timed o_1)).length = (o_1).length]) (vals := [.sl false 10 (List.map e_T_api_Timed o_1), .int .i64 n_1, .int .i64 i_1, .bool (decide (i_1 < (((o_1).length : Nat) : Int)))]) (bxs := []) (by kernel_rfl) hmix ⟨(vc_len _), trivial⟩ ?_
    refine aw_cond (t := 18) (b := (decide (i_1 < (((o_1).length : Nat) : Int)))) (by kernel_rfl) (by kernel_rfl) ?_ ?_
    rotate_left
    · intro g_2; replace h := cond_f g_2 h
      refine aw_exit (id := 0) (by kernel_rfl) ?_
      replace h := Option.some.inj h; subst h
      exact ⟨rfl, (sub_wk [] [] [(0, .sl false 10 (List.map e_T_api_Timed o_1)), (3, .int .i64 n_1)] [] (vcs := [(10 = 10 : Prop), ((List.map e_T_api_Timed o_1) = (List.map e_T_api_Timed o_1) : Prop), ((!false || false) = true : Prop), ((.int .i64 n_1 : AV) = .int .i64 n_1 : Prop)]) (by kernel_rfl) ⟨rfl, rfl, rfl, rfl, trivial⟩)⟩
    intro g_2; replace h := cond_t g_2 h
    refine aw_skip (by kernel_rfl) ?_
    refine aw_seq (by kernel_rfl) ?_
    obtain ⟨o_3, h_5, h⟩ := bind_some h
    refine aw_conv (K1 := (fun e st' => match o_3 with | (.inl q0) => e = .normal ∧ Sub 0 st' (mk [(0, .sl false 10 (List.map e_T_api_Timed o_1)), (3, .int .i64 q0), (4, .int .i64 i_1)] [] 0) | (.inr q1) => e = .ret ∧ FinR prog Go.Proofs.Try.f4 0 [] (.bool q1) st')) ?_ ?_
    · replace h := h_5
      refine aw_block (id := 1) (by kernel_rfl) ?_
      refine aw_seq (by kernel_rfl) ?_
      obtain ⟨x_1, h_6, h⟩ := bind_some h
      refine aw_region [(2, { av := .agg [.int .i64 x_1.Id.Thread, .int .i64 x_1.Id.Serial, .int .i64 x_1.Event.At, .int .i64 x_1.Event.Kind, .str x_1.Event.Name, .int .i64 x_1.Event.N, .int .i64 x_1.Event.M, .sl false 1 (List.map AV.str x_1.Event.Stack), .int .i64 x_1.When.Lo, .int .i64 x_1.When.Hi] }), (5, { id := 0 })] [0, 3, 4, 5] [0] 1 (vcs := [idxA (List.map e_T_api_Timed o_1) i_1 = some (.agg [.int .i64 x_1.Id.Thread, .int .i64 x_1.Id.Serial, .int .i64 x_1.Event.At, .int .i64 x_1.Event.Kind, .str x_1.Event.Name, .int .i64 x_1.Event.N, .int .i64 x_1.Event.M, .sl false 1 (List.map AV.str x_1.Event.Stack), .int .i64 x_1.When.Lo, .int .i64 x_1.When.Hi])]) (vals := [.sl false 10 (List.map e_T_api_Timed o_1), .int .i64 n_1, .int .i64 i_1, .ptr 0 0 0 0]) (bxs := [.live (.var 30 [.int .i64 x_1.Event.At, .int .i64 x_1.Event.Kind, .str x_1.Event.Name, .int .i64 x_1.Event.N, .int .i64 x_1.Event.M, .sl false 1 (List.map AV.str x_1.Event.Stack)])]) (by kernel_rfl) hmix ⟨(vc_idx h_6), trivial⟩ ?_
      refine aw_seq (by kernel_rfl) ?_
      refine aw_seq (by kernel_rfl) ?_
      obtain ⟨p_2, h_10, h⟩ := bind_some h
      refine aw_mid (mk [(0, .sl false 10 (List.map e_T_api_Timed o_1)), (3, .int .i64 n_1), (4, .int .i64 i_1), (5, .ptr 0 0 0 0), (48, .bool p_2)] [(0, .live (.var 30 [.int .i64 x_1.Event.At, .int .i64 x_1.Event.Kind, .str x_1.Event.Name, .int .i64 x_1.Event.N, .int .i64 x_1.Event.M, .sl false 1 (List.map AV.str x_1.Event.Stack)]))] 1) ?_ ?_
      · replace h := h_10
        obtain ⟨r_3, h_7, h⟩ := bind_some h
        rcases Bool.eq_false_or_eq_true (!r_3) with gg_10 | gg_10
        · replace h := cond_t gg_10 h
          refine aw_region [(1, { av := .bool r_3, l := [.agg [.int .i64 x_1.Event.At, .int .i64 x_1.Event.Kind, .str x_1.Event.Name, .int .i64 x_1.Event.N, .int .i64 x_1.Event.M, .sl false 1 (List.map AV.str x_1.Event.Stack)]] }), (4, { g := false }), (5, { g := false }), (6, { g := false }), (21, { g := false }), (22, { b := true })] [0, 3, 4, 5, 30, 31, 32, 33, 34, 35, 36, 37, 38, 39, 40, 41, 42, 43, 44, 45, 46, 47, 48] [0] 1 (vcs := [([.agg [.int .i64 x_1.Event.At, .int .i64 x_1.Event.Kind, .str x_1.Event.Name, .int .i64 x_1.Event.N, .int .i64 x_1.Event.M, .sl false 1 (List.map AV.str x_1.Event.Stack)]] : List AV) = [.agg [.int .i64 x_1.Event.At, .int .i64 x_1.Event.Kind, .str x_1.Event.Name, .int .i64 x_1.Event.N, .int .i64 x_1.Event.M, .sl false 1 (List.map AV.str x_1.Event.Stack)]], ([] : List BoxSt) = [], Triple prog 9 [] [.agg [.int .i64 x_1.Event.At, .int .i64 x_1.Event.Kind, .str x_1.Event.Name, .int .i64 x_1.Event.N, .int .i64 x_1.Event.M, .sl false 1 (List.map AV.str x_1.Event.Stack)]] [] (.bool r_3), (!r_3) = !false, (!r_3) = !false, (!r_3) = !false, (!r_3) = !false, (!r_3) = true]) (vals := [.sl false 10 (List.map e_T_api_Timed o_1), .int .i64 n_1, .int .i64 i_1, .ptr 0 0 0 0, .tuple [], .tuple [], .tuple [], .tuple [], .tuple [], .tuple [], .tuple [], .tuple [], .tuple [], .tuple [], .tuple [], .tuple [], .tuple [], .tuple [], .tuple [], .tuple [], .tuple [], .tuple [], .bool true]) (bxs := [.live (.var 30 [.int .i64 x_1.Event.At, .int .i64 x_1.Event.Kind, .str x_1.Event.Name, .int .i64 x_1.Event.N, .int .i64 x_1.Event.M, .sl false 1 (List.map AV.str x_1.Event.Stack)])]) (by kernel_rfl) hmix ⟨rfl, rfl, (R07_Small_ok F x_1.Event r_3 h_7), gg_10, gg_10, gg_10, gg_10, gg_10, trivial⟩ ?_
          replace h := Option.some.inj h; subst h
          exact ⟨rfl, (sub_wk [0] [] [(0, .sl false 10 (List.map e_T_api_Timed o_1)), (3, .int .i64 n_1), (4, .int .i64 i_1), (5, .ptr 0 0 0 0), (48, .bool true)] [(0, .live (.var 30 [.int .i64 x_1.Event.At, .int .i64 x_1.Event.Kind, .str x_1.Event.Name, .int .i64 x_1.Event.N, .int .i64 x_1.Event.M, .sl false 1 (List.map AV.str x_1.Event.Stack)]))] (vcs := [(10 = 10 : Prop), ((List.map e_T_api_Timed o_1) = (List.map e_T_api_Timed o_1) : Prop), ((!false || false) = true : Prop), ((.int .i64 n_1 : AV) = .int .i64 n_1 : Prop), ((.int .i64 i_1 : AV) = .int .i64 i_1 : Prop), ((.ptr 0 0 0 0 : AV) = .ptr 0 0 0 0 : Prop), ((.bool true : AV) = .bool true : Prop), (30 = 30 : Prop), (ones [.int .i64 x_1.Event.At, .int .i64 x_1.Event.Kind, .str x_1.Event.Name, .int .i64 x_1.Event.N, .int .i64 x_1.Event.M, .sl false 1 (List.map AV.str x_1.Event.Stack)] = true : Prop), ((.int .i64 x_1.Event.At : AV) = .int .i64 x_1.Event.At : Prop), ((.int .i64 x_1.Event.Kind : AV) = .int .i64 x_1.Event.Kind : Prop), ((.str x_1.Event.Name : AV) = .str x_1.Event.Name : Prop), ((.int .i64 x_1.Event.N : AV) = .int .i64 x_1.Event.N : Prop), ((.int .i64 x_1.Event.M : AV) = .int .i64 x_1.Event.M : Prop), (1 = 1 : Prop), ((List.map AV.str x_1.Event.Stack) = (List.map AV.str x_1.Event.Stack) : Prop), ((!false || false) = true : Prop)]) (by kernel_rfl) ⟨rfl, rfl, rfl, rfl, rfl, rfl, rfl, rfl, rfl, rfl, rfl, rfl, rfl, rfl, rfl, rfl, rfl, trivial⟩)⟩
        · replace h := cond_f gg_10 h
          rcases Bool.eq_false_or_eq_true (decide (i_1 > (0 : Int))) with gg_11 | gg_11
          · replace h := cond_t gg_11 h
            obtain ⟨x_2, h_8, h⟩ := bind_some h
            obtain ⟨x_3, h_9, h⟩ := bind_some h
            refine aw_region [(1, { av := .bool r_3, l := [.agg [.int .i64 x_1.Event.At, .int .i64 x_1.Event.Kind, .str x_1.Event.Name, .int .i64 x_1.Event.N, .int .i64 x_1.Event.M, .sl false 1 (List.map AV.str x_1.Event.Stack)]] }), (9, { av := .agg [.int .i64 x_2.Id.Thread, .int .i64 x_2.Id.Serial, .int .i64 x_2.Event.At, .int .i64 x_2.Event.Kind, .str x_2.Event.Name, .int .i64 x_2.Event.N, .int .i64 x_2.Event.M, .sl false 1 (List.map AV.str x_2.Event.Stack), .int .i64 x_2.When.Lo, .int .i64 x_2.When.Hi] }), (16, { av := .agg [.int .i64 x_3.Id.Thread, .int .i64 x_3.Id.Serial, .int .i64 x_3.Event.At, .int .i64 x_3.Event.Kind, .str x_3.Event.Name, .int .i64 x_3.Event.N, .int .i64 x_3.Event.M, .sl false 1 (List.map AV.str x_3.Event.Stack), .int .i64 x_3.When.Lo, .int .i64 x_3.When.Hi] }), (21, { b := true }), (22, { b := false })] [0, 3, 4, 5, 30, 31, 32, 33, 34, 35, 36, 37, 38, 39, 40, 41, 42, 43, 44, 45, 46, 47, 48] [0] 1 (vcs := [([.agg [.int .i64 x_1.Event.At, .int .i64 x_1.Event.Kind, .str x_1.Event.Name, .int .i64 x_1.Event.N, .int .i64 x_1.Event.M, .sl false 1 (List.map AV.str x_1.Event.Stack)]] : List AV) = [.agg [.int .i64 x_1.Event.At, .int .i64 x_1.Event.Kind, .str x_1.Event.Name, .int .i64 x_1.Event.N, .int .i64 x_1.Event.M, .sl false 1 (List.map AV.str x_1.Event.Stack)]], ([] : List BoxSt) = [], Triple prog 9 [] [.agg [.int .i64 x_1.Event.At, .int .i64 x_1.Event.Kind, .str x_1.Event.Name, .int .i64 x_1.Event.N, .int .i64 x_1.Event.M, .sl false 1 (List.map AV.str x_1.Event.Stack)]] [] (.bool r_3), (!r_3) = false, (!r_3) = false, (!r_3) = false, (decide (i_1 > (0 : Int))) = true, (decide (i_1 > (0 : Int))) = true, (decide (i_1 > (0 : Int))) = true, idxA (List.map e_T_api_Timed o_1) i_1 = some (.agg [.int .i64 x_2.Id.Thread, .int .i64 x_2.Id.Serial, .int .i64 x_2.Event.At, .int .i64 x_2.Event.Kind, .str x_2.Event.Name, .int .i64 x_2.Event.N, .int .i64 x_2.Event.M, .sl false 1 (List.map AV.str x_2.Event.Stack), .int .i64 x_2.When.Lo, .int .i64 x_2.When.Hi]), (decide (i_1 > (0 : Int))) = true, (decide (i_1 > (0 : Int))) = true, (decide (i_1 > (0 : Int))) = true, (decide (i_1 > (0 : Int))) = true, (decide (i_1 > (0 : Int))) = true, (decide (i_1 > (0 : Int))) = true, (decide (i_1 > (0 : Int))) = true, idxA (List.map e_T_api_Timed o_1) (w_i64 (i_1 - (1 : Int))) = some (.agg [.int .i64 x_3.Id.Thread, .int .i64 x_3.Id.Serial, .int .i64 x_3.Event.At, .int .i64 x_3.Event.Kind, .str x_3.Event.Name, .int .i64 x_3.Event.N, .int .i64 x_3.Event.M, .sl false 1 (List.map AV.str x_3.Event.Stack), .int .i64 x_3.When.Lo, .int .i64 x_3.When.Hi]), (decide (i_1 > (0 : Int))) = true, (decide (i_1 > (0 : Int))) = true, (decide (i_1 > (0 : Int))) = true, (decide (i_1 > (0 : Int))) = true, (!r_3) = false, (decide (i_1 > (0 : Int))) = true, (!r_3) = false]) (vals := [.sl false 10 (List.map e_T_api_Timed o_1), .int .i64 n_1, .int .i64 i_1, .ptr 0 0 0 0, .int .i64 i_1, .bool (decide (i_1 > (0 : Int))), .bool (decide (i_1 > (0 : Int))), .sl false 10 (List.map e_T_api_Timed o_1), .int .i64 i_1, .ref (.agg [.int .i64 x_2.Id.Thread, .int .i64 x_2.Id.Serial, .int .i64 x_2.Event.At, .int .i64 x_2.Event.Kind, .str x_2.Event.Name, .int .i64 x_2.Event.N, .int .i64 x_2.Event.M, .sl false 1 (List.map AV.str x_2.Event.Stack), .int .i64 x_2.When.Lo, .int .i64 x_2.When.Hi]), .ref (.agg [.int .i64 x_2.When.Lo, .int .i64 x_2.When.Hi]), .ref (.int .i64 x_2.When.Lo), .int .i64 x_2.When.Lo, .sl false 10 (List.map e_T_api_Timed o_1), .int .i64 i_1, .int .i64 (w_i64 (i_1 - (1 : Int))), .ref (.agg [.int .i64 x_3.Id.Thread, .int .i64 x_3.Id.Serial, .int .i64 x_3.Event.At, .int .i64 x_3.Event.Kind, .str x_3.Event.Name, .int .i64 x_3.Event.N, .int .i64 x_3.Event.M, .sl false 1 (List.map AV.str x_3.Event.Stack), .int .i64 x_3.When.Lo, .int .i64 x_3.When.Hi]), .ref (.agg [.int .i64 x_3.When.Lo, .int .i64 x_3.When.Hi]), .ref (.int .i64 x_3.When.Lo), .int .i64 x_3.When.Lo, .bool (decide (x_2.When.Lo < x_3.When.Lo)), .bool (decide (x_2.When.Lo < x_3.When.Lo)), .bool (decide (x_2.When.Lo < x_3.When.Lo))]) (bxs := [.live (.var 30 [.int .i64 x_1.Event.At, .int .i64 x_1.Event.Kind, .str x_1.Event.Name, .int .i64 x_1.Event.N, .int .i64 x_1.Event.M, .sl false 1 (List.map AV.str x_1.Event.Stack)])]) (by kernel_rfl) hmix ⟨rfl, rfl, (R07_Small_ok F x_1.Event r_3 h_7), gg_10, gg_10, gg_10, gg_11, gg_11, gg_11, (vc_idx h_8), gg_11, gg_11, gg_11, gg_11, gg_11, gg_11, gg_11, (vc_idx h_9), gg_11, gg_11, gg_11, gg_11, gg_10, gg_11, gg_10, trivial⟩ ?_
            replace h := Option.some.inj h; subst h
            exact ⟨rfl, (sub_wk [0] [] [(0, .sl false 10 (List.map e_T_api_Timed o_1)), (3, .int .i64 n_1), (4, .int .i64 i_1), (5, .ptr 0 0 0 0), (48, .bool (decide (x_2.When.Lo < x_3.When.Lo)))] [(0, .live (.var 30 [.int .i64 x_1.Event.At, .int .i64 x_1.Event.Kind, .str x_1.Event.Name, .int .i64 x_1.Event.N, .int .i64 x_1.Event.M, .sl false 1 (List.map AV.str x_1.Event.Stack)]))] (vcs := [(10 = 10 : Prop), ((List.map e_T_api_Timed o_1) = (List.map e_T_api_Timed o_1) : Prop), ((!false || false) = true : Prop), ((.int .i64 n_1 : AV) = .int .i64 n_1 : Prop), ((.int .i64 i_1 : AV) = .int .i64 i_1 : Prop), ((.ptr 0 0 0 0 : AV) = .ptr 0 0 0 0 : Prop), ((.bool (decide (x_2.When.Lo < x_3.When.Lo)) : AV) = .bool (decide (x_2.When.Lo < x_3.When.Lo)) : Prop), (30 = 30 : Prop), (ones [.int .i64 x_1.Event.At, .int .i64 x_1.Event.Kind, .str x_1.Event.Name, .int .i64 x_1.Event.N, .int .i64 x_1.Event.M, .sl false 1 (List.map AV.str x_1.Event.Stack)] = true : Prop), ((.int .i64 x_1.Event.At : AV) = .int .i64 x_1.Event.At : Prop), ((.int .i64 x_1.Event.Kind : AV) = .int .i64 x_1.Event.Kind : Prop), ((.str x_1.Event.Name : AV) = .str x_1.Event.Name : Prop), ((.int .i64 x_1.Event.N : AV) = .int .i64 x_1.Event.N : Prop), ((.int .i64 x_1.Event.M : AV) = .int .i64 x_1.Event.M : Prop), (1 = 1 : Prop), ((List.map AV.str x_1.Event.Stack) = (List.map AV.str x_1.Event.Stack) : Prop), ((!false || false) = true : Prop)]) (by kernel_rfl) ⟨rfl, rfl, rfl, rfl, rfl, rfl, rfl, rfl, rfl, rfl, rfl, rfl, rfl, rfl, rfl, rfl, rfl, trivial⟩)⟩
          · replace h := cond_f gg_11 h
            refine aw_region [(1, { av := .bool r_3, l := [.agg [.int .i64 x_1.Event.At, .int .i64 x_1.Event.Kind, .str x_1.Event.Name, .int .i64 x_1.Event.N, .int .i64 x_1.Event.M, .sl false 1 (List.map AV.str x_1.Event.Stack)]] }), (7, { g := false }), (8, { g := false }), (9, { g := false }), (10, { g := false }), (11, { g := false }), (12, { g := false }), (13, { g := false }), (14, { g := false }), (15, { g := false }), (16, { g := false }), (17, { g := false }), (18, { g := false }), (19, { g := false }), (20, { g := false }), (21, { b := false }), (22, { b := false })] [0, 3, 4, 5, 30, 31, 32, 33, 34, 35, 36, 37, 38, 39, 40, 41, 42, 43, 44, 45, 46, 47, 48] [0] 1 (vcs := [([.agg [.int .i64 x_1.Event.At, .int .i64 x_1.Event.Kind, .str x_1.Event.Name, .int .i64 x_1.Event.N, .int .i64 x_1.Event.M, .sl false 1 (List.map AV.str x_1.Event.Stack)]] : List AV) = [.agg [.int .i64 x_1.Event.At, .int .i64 x_1.Event.Kind, .str x_1.Event.Name, .int .i64 x_1.Event.N, .int .i64 x_1.Event.M, .sl false 1 (List.map AV.str x_1.Event.Stack)]], ([] : List BoxSt) = [], Triple prog 9 [] [.agg [.int .i64 x_1.Event.At, .int .i64 x_1.Event.Kind, .str x_1.Event.Name, .int .i64 x_1.Event.N, .int .i64 x_1.Event.M, .sl false 1 (List.map AV.str x_1.Event.Stack)]] [] (.bool r_3), (!r_3) = false, (!r_3) = false, (!r_3) = false, (decide (i_1 > (0 : Int))) = !true, (decide (i_1 > (0 : Int))) = !true, (decide (i_1 > (0 : Int))) = !true, (decide (i_1 > (0 : Int))) = !true, (decide (i_1 > (0 : Int))) = !true, (decide (i_1 > (0 : Int))) = !true, (decide (i_1 > (0 : Int))) = !true, (decide (i_1 > (0 : Int))) = !true, (decide (i_1 > (0 : Int))) = !true, (decide (i_1 > (0 : Int))) = !true, (decide (i_1 > (0 : Int))) = !true, (decide (i_1 > (0 : Int))) = !true, (decide (i_1 > (0 : Int))) = !true, (decide (i_1 > (0 : Int))) = !true, (!r_3) = false, (decide (i_1 > (0 : Int))) = false, (!r_3) = false]) (vals := [.sl false 10 (List.map e_T_api_Timed o_1), .int .i64 n_1, .int .i64 i_1, .ptr 0 0 0 0, .int .i64 i_1, .bool (decide (i_1 > (0 : Int))), .bool (decide (i_1 > (0 : Int))), .tuple [], .tuple [], .tuple [], .tuple [], .tuple [], .tuple [], .tuple [], .tuple [], .tuple [], .tuple [], .tuple [], .tuple [], .tuple [], .tuple [], .bool false, .bool false]) (bxs := [.live (.var 30 [.int .i64 x_1.Event.At, .int .i64 x_1.Event.Kind, .str x_1.Event.Name, .int .i64 x_1.Event.N, .int .i64 x_1.Event.M, .sl false 1 (List.map AV.str x_1.Event.Stack)])]) (by kernel_rfl) hmix ⟨rfl, rfl, (R07_Small_ok F x_1.Event r_3 h_7), gg_10, gg_10, gg_10, gg_11, gg_11, gg_11, gg_11, gg_11, gg_11, gg_11, gg_11, gg_11, gg_11, gg_11, gg_11, gg_11, gg_11, gg_10, gg_11, gg_10, trivial⟩ ?_
            replace h := Option.some.inj h; subst h
            exact ⟨rfl, (sub_wk [0] [] [(0, .sl false 10 (List.map e_T_api_Timed o_1)), (3, .int .i64 n_1), (4, .int .i64 i_1), (5, .ptr 0 0 0 0), (48, .bool false)] [(0, .live (.var 30 [.int .i64 x_1.Event.At, .int .i64 x_1.Event.Kind, .str x_1.Event.Name, .int .i64 x_1.Event.N, .int .i64 x_1.Event.M, .sl false 1 (List.map AV.str x_1.Event.Stack)]))] (vcs := [(10 = 10 : Prop), ((List.map e_T_api_Timed o_1) = (List.map e_T_api_Timed o_1) : Prop), ((!false || false) = true : Prop), ((.int .i64 n_1 : AV) = .int .i64 n_1 : Prop), ((.int .i64 i_1 : AV) = .int .i64 i_1 : Prop), ((.ptr 0 0 0 0 : AV) = .ptr 0 0 0 0 : Prop), ((.bool false : AV) = .bool false : Prop), (30 = 30 : Prop), (ones [.int .i64 x_1.Event.At, .int .i64 x_1.Event.Kind, .str x_1.Event.Name, .int .i64 x_1.Event.N, .int .i64 x_1.Event.M, .sl false 1 (List.map AV.str x_1.Event.Stack)] = true : Prop), ((.int .i64 x_1.Event.At : AV) = .int .i64 x_1.Event.At : Prop), ((.int .i64 x_1.Event.Kind : AV) = .int .i64 x_1.Event.Kind : Prop), ((.str x_1.Event.Name : AV) = .str x_1.Event.Name : Prop), ((.int .i64 x_1.Event.N : AV) = .int .i64 x_1.Event.N : Prop), ((.int .i64 x_1.Event.M : AV) = .int .i64 x_1.Event.M : Prop), (1 = 1 : Prop), ((List.map AV.str x_1.Event.Stack) = (List.map AV.str x_1.Event.Stack) : Prop), ((!false || false) = true : Prop)]) (by kernel_rfl) ⟨rfl, rfl, rfl, rfl, rfl, rfl, rfl, rfl, rfl, rfl, rfl, rfl, rfl, rfl, rfl, rfl, rfl, trivial⟩)⟩
      refine aw_cond (t := 48) (b := p_2) (by kernel_rfl) (by kernel_rfl) ?_ ?_
      · intro g_3; replace h := cond_t g_3 h
        refine aw_seq (by kernel_rfl) ?_
        refine aw_region [] [2] [] 1 (vcs := []) (vals := [.bool true]) (bxs := []) (by kernel_rfl) hmix trivial ?_
        refine aw_ret (by kernel_rfl) ?_
        replace h := Option.some.inj h; subst h
        exact ⟨rfl, Nat.le_of_ble_eq_true rfl, by kernel_rfl⟩
      intro g_3; replace h := cond_f g_3 h
      refine aw_skip (by kernel_rfl) ?_
      refine aw_seq (by kernel_rfl) ?_
      refine aw_region [] [0, 3, 4, 5, 51] [0] 1 (vcs := []) (vals := [.sl false 10 (List.map e_T_api_Timed o_1), .int .i64 n_1, .int .i64 i_1, .ptr 0 0 0 0, .bool (x_1.Event.Kind == (5 : Int))]) (bxs := [.live (.var 30 [.int .i64 x_1.Event.At, .int .i64 x_1.Event.Kind, .str x_1.Event.Name, .int .i64 x_1.Event.N, .int .i64 x_1.Event.M, .sl false 1 (List.map AV.str x_1.Event.Stack)])]) (by kernel_rfl) hmix trivial ?_
      refine aw_cond (t := 51) (b := (x_1.Event.Kind == (5 : Int))) (by kernel_rfl) (by kernel_rfl) ?_ ?_
      rotate_left
      · intro g_4; replace h := cond_f g_4 h
        refine aw_skip (by kernel_rfl) ?_
        replace h := Option.some.inj h; subst h
        exact ⟨rfl, (sub_wk [] [] [(0, .sl false 10 (List.map e_T_api_Timed o_1)), (3, .int .i64 n_1), (4, .int .i64 i_1)] [] (vcs := [(10 = 10 : Prop), ((List.map e_T_api_Timed o_1) = (List.map e_T_api_Timed o_1) : Prop), ((!false || false) = true : Prop), ((.int .i64 n_1 : AV) = .int .i64 n_1 : Prop), ((.int .i64 i_1 : AV) = .int .i64 i_1 : Prop)]) (by kernel_rfl) ⟨rfl, rfl, rfl, rfl, rfl, trivial⟩)⟩
      intro g_4; replace h := cond_t g_4 h
      refine aw_seq (by kernel_rfl) ?_
      refine aw_region [] [0, 3, 4, 5] [0] 1 (vcs := []) (vals := [.sl false 10 (List.map e_T_api_Timed o_1), .int .i64 (w_i64 (n_1 + (1 : Int))), .int .i64 i_1, .ptr 0 0 0 0]) (bxs := [.live (.var 30 [.int .i64 x_1.Event.At, .int .i64 x_1.Event.Kind, .str x_1.Event.Name, .int .i64 x_1.Event.N, .int .i64 x_1.Event.M, .sl false 1 (List.map AV.str x_1.Event.Stack)])]) (by kernel_rfl) hmix trivial ?_
      refine aw_seq (by kernel_rfl) ?_
      obtain ⟨x_4, h_11, h⟩ := bind_some h
      obtain ⟨r_4, h_12, h⟩ := bind_some h
      refine aw_region [(2, { av := .agg [.int .i64 x_4.Id.Thread, .int .i64 x_4.Id.Serial, .int .i64 x_4.Event.At, .int .i64 x_4.Event.Kind, .str x_4.Event.Name, .int .i64 x_4.Event.N, .int .i64 x_4.Event.M, .sl false 1 (List.map AV.str x_4.Event.Stack), .int .i64 x_4.When.Lo, .int .i64 x_4.When.Hi] }), (11, { id := 1 }), (12, { av := .int .i64 r_4, frz := [1], l := [.sl false 4 (List.map e_T_api_Sample ([(⟨x_4.Id.Thread, (0 : Int), x_1.Event.N, x_1.Event.Stack⟩ : T_api_Sample)] : List T_api_Sample))] })] [0, 3, 4, 67] [] 2 (vcs := [idxA (List.map e_T_api_Timed o_1) i_1 = some (.agg [.int .i64 x_4.Id.Thread, .int .i64 x_4.Id.Serial, .int .i64 x_4.Event.At, .int .i64 x_4.Event.Kind, .str x_4.Event.Name, .int .i64 x_4.Event.N, .int .i64 x_4.Event.M, .sl false 1 (List.map AV.str x_4.Event.Stack), .int .i64 x_4.When.Lo, .int .i64 x_4.When.Hi]), 1 = ((List.map e_T_api_Sample ([(⟨x_4.Id.Thread, (0 : Int), x_1.Event.N, x_1.Event.Stack⟩ : T_api_Sample)] : List T_api_Sample))).length, ([.sl false 4 (List.map e_T_api_Sample ([(⟨x_4.Id.Thread, (0 : Int), x_1.Event.N, x_1.Event.Stack⟩ : T_api_Sample)] : List T_api_Sample))] : List AV) = [.sl false 4 (List.map e_T_api_Sample ([(⟨x_4.Id.Thread, (0 : Int), x_1.Event.N, x_1.Event.Stack⟩ : T_api_Sample)] : List T_api_Sample))], ([] : List BoxSt) = [], Triple prog 13 [] [.sl false 4 (List.map e_T_api_Sample ([(⟨x_4.Id.Thread, (0 : Int), x_1.Event.N, x_1.Event.Stack⟩ : T_api_Sample)] : List T_api_Sample))] [] (.int .i64 r_4)]) (vals := [.sl false 10 (List.map e_T_api_Timed o_1), .int .i64 (w_i64 (n_1 + (1 : Int))), .int .i64 i_1, .bool (r_4 != (0 : Int))]) (bxs := []) (by kernel_rfl) hmix ⟨(vc_idx h_11), (by first | (simp; done) | (simp; omega)), rfl, rfl, (sample_Check_ok F ([(⟨x_4.Id.Thread, (0 : Int), x_1.Event.N, x_1.Event.Stack⟩ : T_api_Sample)] : List T_api_Sample) r_4 h_12), trivial⟩ ?_
      refine aw_cond (t := 67) (b := (r_4 != (0 : Int))) (by kernel_rfl) (by kernel_rfl) ?_ ?_
      rotate_left
      · intro g_5; replace h := cond_f g_5 h
        refine aw_skip (by kernel_rfl) ?_
        replace h := Option.some.inj h; subst h
        exact ⟨rfl, (sub_wk [] [] [(0, .sl false 10 (List.map e_T_api_Timed o_1)), (3, .int .i64 (w_i64 (n_1 + (1 : Int)))), (4, .int .i64 i_1)] [] (vcs := [(10 = 10 : Prop), ((List.map e_T_api_Timed o_1) = (List.map e_T_api_Timed o_1) : Prop), ((!false || false) = true : Prop), ((.int .i64 (w_i64 (n_1 + (1 : Int))) : AV) = .int .i64 (w_i64 (n_1 + (1 : Int))) : Prop), ((.int .i64 i_1 : AV) = .int .i64 i_1 : Prop)]) (by kernel_rfl) ⟨rfl, rfl, rfl, rfl, rfl, trivial⟩)⟩
      intro g_5; replace h := cond_t g_5 h
      refine aw_seq (by kernel_rfl) ?_
      refine aw_region [] [2] [] 2 (vcs := []) (vals := [.bool true]) (bxs := []) (by kernel_rfl) hmix trivial ?_
      refine aw_ret (by kernel_rfl) ?_
      replace h := Option.some.inj h; subst h
      exact ⟨rfl, Nat.le_of_ble_eq_true rfl, by kernel_rfl⟩
    intro e st1 hk
    rcases o_3 with q_1 | q_2
    rotate_left
    · obtain ⟨rfl, hf⟩ := hk
      replace h := Option.some.inj h; subst h
      exact ⟨_, Sub.refl _ _, rfl, hf⟩
    obtain ⟨rfl, hs⟩ := hk
    refine ⟨_, hs, ?_⟩
    refine aw_region [] [0, 3, 4] [] 0 (vcs := []) (vals := [.sl false 10 (List.map e_T_api_Timed o_1), .int .i64 q_1, .int .i64 (w_i64 (i_1 + (1 : Int)))]) (bxs := []) (by kernel_rfl) hmix trivial ?_
    exact ⟨_, (sub_wk [] [] [(0, .sl false 10 (List.map e_T_api_Timed o_1)), (3, .int .i64 q_1), (4, .int .i64 (w_i64 (i_1 + (1 : Int))))] [] (vcs := [(10 = 10 : Prop), ((List.map e_T_api_Timed o_1) = (List.map e_T_api_Timed o_1) : Prop), ((!false || false) = true : Prop), ((.int .i64 q_1 : AV) = .int .i64 q_1 : Prop), ((.int .i64 (w_i64 (i_1 + (1 : Int))) : AV) = .int .i64 (w_i64 (i_1 + (1 : Int))) : Prop)]) (by kernel_rfl) ⟨rfl, rfl, rfl, rfl, rfl, trivial⟩), _, _, rfl, h⟩
  intro e st1 hk
  rcases o_2 with q_3 | q_4
  rotate_left
  · obtain ⟨rfl, hf⟩ := hk
    replace h := Option.some.inj h; subst h
    exact ⟨st1, Sub.refl _ _, .inr rfl, hf⟩
  obtain ⟨rfl, hs⟩ := hk
  refine ⟨_, hs, ?_⟩
  refine aw_seq (by kernel_rfl) ?_
  obtain ⟨r_5, h_13, h⟩ := bind_some h
  refine aw_region [(1, { av := .own 0 ((r_5).length), ids := [0], l := [.sl false 10 (List.map e_T_api_Timed o_1)], post := [(.row 42 4 (List.map e_T_api_Sample r_5))] })] [3, 6] [0] 1 (vcs := [([.sl false 10 (List.map e_T_api_Timed o_1)] : List AV) = [.sl false 10 (List.map e_T_api_Timed o_1)], ([] : List BoxSt) = [], Triple prog 11 [] [.sl false 10 (List.map e_T_api_Timed o_1)] [(.row 42 4 (List.map e_T_api_Sample r_5))] (.own 0 ((r_5).length))]) (vals := [.int .i64 q_3, .own 0 ((r_5).length)]) (bxs := [.live (.row 42 4 (List.map e_T_api_Sample r_5))]) (by kernel_rfl) hmix ⟨rfl, rfl, (sample_Of_ok F o_1 r_5 h_13), trivial⟩ ?_
  refine aw_seq (by kernel_rfl) ?_
  obtain ⟨p_3, h_15, h⟩ := bind_some h
  refine aw_mid (mk [(2, .bool p_3)] [] 0) ?_ ?_
  · replace h := h_15
    rcases Bool.eq_false_or_eq_true ((((r_5).length : Nat) : Int) == q_3) with gg_12 | gg_12
    · replace h := cond_t gg_12 h
      obtain ⟨r_6, h_14, h⟩ := bind_some h
      refine aw_region [(6, { av := .int .i64 r_6, frz := [0], l := [.sl false 4 (List.map e_T_api_Sample r_5)] }), (8, { b := true })] [2] [] 1 (vcs := [((((r_5).length : Nat) : Int) == q_3) = true, ((((r_5).length : Nat) : Int) == q_3) = true, (r_5).length = ((List.map e_T_api_Sample r_5)).length, ([.sl false 4 (List.map e_T_api_Sample r_5)] : List AV) = [.sl false 4 (List.map e_T_api_Sample r_5)], ([] : List BoxSt) = [], Triple prog 13 [] [.sl false 4 (List.map e_T_api_Sample r_5)] [] (.int .i64 r_6), ((((r_5).length : Nat) : Int) == q_3) = true, ((((r_5).length : Nat) : Int) == q_3) = true]) (vals := [.bool (r_6 == (0 : Int))]) (bxs := []) (by kernel_rfl) hmix ⟨gg_12, gg_12, (by first | (simp; done) | (simp; omega)), rfl, rfl, (sample_Check_ok F r_5 r_6 h_14), gg_12, gg_12, trivial⟩ ?_
      replace h := Option.some.inj h; subst h
      exact ⟨rfl, (sub_wk [] [] [(2, .bool (r_6 == (0 : Int)))] [] (vcs := [((.bool (r_6 == (0 : Int)) : AV) = .bool (r_6 == (0 : Int)) : Prop)]) (by kernel_rfl) ⟨rfl, trivial⟩)⟩
    · replace h := cond_f gg_12 h
      refine aw_region [(5, { g := false }), (6, { g := false }), (7, { g := false }), (8, { b := false })] [2] [] 1 (vcs := [((((r_5).length : Nat) : Int) == q_3) = !true, ((((r_5).length : Nat) : Int) == q_3) = !true, ((((r_5).length : Nat) : Int) == q_3) = !true, ((((r_5).length : Nat) : Int) == q_3) = false]) (vals := [.bool false]) (bxs := []) (by kernel_rfl) hmix ⟨gg_12, gg_12, gg_12, gg_12, trivial⟩ ?_
      replace h := Option.some.inj h; subst h
      exact ⟨rfl, (sub_wk [] [] [(2, .bool false)] [] (vcs := [((.bool false : AV) = .bool false : Prop)]) (by kernel_rfl) ⟨rfl, trivial⟩)⟩
  refine aw_ret (by kernel_rfl) ?_
  replace h := Option.some.inj h; subst h
  exact ⟨.inr rfl, Nat.le_of_ble_eq_true rfl, by kernel_rfl⟩

theorem R29_Few_ok (F : Nat) (l_1 : List (T_api_Sample)) (r : Bool) (h : R29_Few F l_1 = some r) : Triple prog 14 [] [.sl false 4 (List.map e_T_api_Sample l_1)] [] (.bool r) := by
  refine triple_intro (fn := Go.Proofs.Try.f14) (code := codeOf Go.Proofs.Try.f14) (by kernel_rfl) (by kernel_rfl) (Nat.le_of_ble_eq_true (by kernel_rfl)) ?_
  unfold R29_Few at h
  refine aw_seq (by kernel_rfl) ?_
  refine aw_region [] [0] [] 0 (vcs := []) (vals := [.sl false 4 (List.map e_T_api_Sample l_1)]) (bxs := []) (by kernel_rfl) hmix trivial ?_
  refine aw_seq (by kernel_rfl) ?_
  refine aw_seq (by kernel_rfl) ?_
  refine aw_region [(1, { n := (l_1).length })] [0, 6] [] 0 (vcs := [((List.map e_T_api_Sample l_1)).length = (l_1).length]) (vals := [.sl false 4 (List.map e_T_api_Sample l_1), .bool (decide ((((l_1).length : Nat) : Int) > (40 : Int)))]) (bxs := []) (by kernel_rfl) hmix ⟨(vc_len _), trivial⟩ ?_
  refine aw_cond (t := 6) (b := (decide ((((l_1).length : Nat) : Int) > (40 : Int)))) (by kernel_rfl) (by kernel_rfl) ?_ ?_
  · intro g_1; replace h := cond_t g_1 h
    refine aw_seq (by kernel_rfl) ?_
    refine aw_region [] [2] [] 0 (vcs := []) (vals := [.bool false]) (bxs := []) (by kernel_rfl) hmix trivial ?_
    refine aw_ret (by kernel_rfl) ?_
    replace h := Option.some.inj h; subst h
    exact ⟨.inr rfl, Nat.le_of_ble_eq_true rfl, by kernel_rfl⟩
  intro g_1; replace h := cond_f g_1 h
  refine aw_skip (by kernel_rfl) ?_
  refine aw_seq (by kernel_rfl) ?_
  refine aw_seq (by kernel_rfl) ?_
  refine aw_region [] [0, 3] [] 0 (vcs := []) (vals := [.sl false 4 (List.map e_T_api_Sample l_1), .int .i64 (0 : Int)]) (bxs := []) (by kernel_rfl) hmix trivial ?_
  obtain ⟨o_1, h_1, h⟩ := bind_some h
  refine aw_conv (K1 := (fun e st' => match o_1 with | (.inl q0) => e = .normal ∧ Sub 0 st' (mk [] [] 0) | (.inr q1) => e = .ret ∧ FinR prog Go.Proofs.Try.f14 0 [] (.bool q1) st')) ?_ ?_
  · replace h := h_1
    refine aw_block (id := 0) (by kernel_rfl) ?_
    refine aw_sub (sub_wk [] [] [(0, .sl false 4 (List.map e_T_api_Sample l_1)), (3, .int .i64 (0 : Int))] [] (vcs := [(4 = 4 : Prop), ((List.map e_T_api_Sample l_1) = (List.map e_T_api_Sample l_1) : Prop), ((!false || false) = true : Prop), ((.int .i64 (0 : Int) : AV) = .int .i64 (0 : Int) : Prop)]) (by kernel_rfl) ⟨rfl, rfl, rfl, rfl, trivial⟩) ?_
    refine aw_loopF (fun n st => ∃ (i_1 : Int), st = mk [(0, .sl false 4 (List.map e_T_api_Sample l_1)), (3, .int .i64 i_1)] [] 0 ∧ R29_Few_L1 F l_1 n i_1 = some o_1) F (by kernel_rfl) ⟨_, rfl, h⟩ ?_ ?_
    · rintro _ ⟨_, _, h⟩; exact none_ne (h : (none : Option (Unit ⊕ Bool)) = some o_1)
    rintro n_1 _ ⟨i_1, rfl, h⟩
    replace h : R29_Few_L1_body F l_1 (R29_Few_L1 F l_1 n_1) i_1 = some o_1 := h
    unfold R29_Few_L1_body at h
    refine aw_seq (by kernel_rfl) ?_
    refine aw_seq (by kernel_rfl) ?_
    refine aw_region [(2, { n := (l_1).length })] [0, 3, 10] [] 0 (vcs := [((List.map e_T_api_Sample l_1)).length = (l_1).length]) (vals := [.sl false 4 (List.map e_T_api_Sample l_1), .int .i64 i_1, .bool (decide (i_1 < (((l_1).length : Nat) : Int)))]) (bxs := []) (by kernel_rfl) hmix ⟨(vc_len _), trivial⟩ ?_
    refine aw_cond (t := 10) (b := (decide (i_1 < (((l_1).length : Nat) : Int)))) (by kernel_rfl) (by kernel_rfl) ?_ ?_
    rotate_left
    · intro g_2; replace h := cond_f g_2 h
      refine aw_exit (id := 0) (by kernel_rfl) ?_
      replace h := Option.some.inj h; subst h
      exact ⟨rfl, (sub_wk [] [] [] [] (vcs := []) (by kernel_rfl) trivial)⟩
    intro g_2; replace h := cond_t g_2 h
    refine aw_skip (by kernel_rfl) ?_
    refine aw_seq (by kernel_rfl) ?_
    refine aw_block (id := 1) (by kernel_rfl) ?_
    refine aw_seq (by kernel_rfl) ?_
    obtain ⟨x_1, h_2, h⟩ := bind_some h
    obtain ⟨r_1, h_3, h⟩ := bind_some h
    refine aw_region [(2, { av := .agg [.int .i64 x_1.Thread, .int .i64 x_1.At, .int .i64 x_1.Weight, .sl false 1 (List.map AV.str x_1.Stack)] }), (6, { av := .bool r_1, l := [.agg [.int .i64 (0 : Int), .int .i64 (0 : Int), .str ([] : List Int), .int .i64 (0 : Int), .int .i64 (0 : Int), .sl false 1 (List.map AV.str x_1.Stack)]] })] [0, 3, 20] [] 0 (vcs := [idxA (List.map e_T_api_Sample l_1) i_1 = some (.agg [.int .i64 x_1.Thread, .int .i64 x_1.At, .int .i64 x_1.Weight, .sl false 1 (List.map AV.str x_1.Stack)]), ([.agg [.int .i64 (0 : Int), .int .i64 (0 : Int), .str ([] : List Int), .int .i64 (0 : Int), .int .i64 (0 : Int), .sl false 1 (List.map AV.str x_1.Stack)]] : List AV) = [.agg [.int .i64 (0 : Int), .int .i64 (0 : Int), .str ([] : List Int), .int .i64 (0 : Int), .int .i64 (0 : Int), .sl false 1 (List.map AV.str x_1.Stack)]], ([] : List BoxSt) = [], Triple prog 9 [] [.agg [.int .i64 (0 : Int), .int .i64 (0 : Int), .str ([] : List Int), .int .i64 (0 : Int), .int .i64 (0 : Int), .sl false 1 (List.map AV.str x_1.Stack)]] [] (.bool r_1)]) (vals := [.sl false 4 (List.map e_T_api_Sample l_1), .int .i64 i_1, .bool (!r_1)]) (bxs := []) (by kernel_rfl) hmix ⟨(vc_idx h_2), rfl, rfl, (triple_lo (args' := [.agg [.int .i64 ((⟨(0 : Int), (0 : Int), ([] : List Int), (0 : Int), (0 : Int), x_1.Stack⟩ : T_api_Event).At), .int .i64 ((⟨(0 : Int), (0 : Int), ([] : List Int), (0 : Int), (0 : Int), x_1.Stack⟩ : T_api_Event).Kind), .str ((⟨(0 : Int), (0 : Int), ([] : List Int), (0 : Int), (0 : Int), x_1.Stack⟩ : T_api_Event).Name), .int .i64 ((⟨(0 : Int), (0 : Int), ([] : List Int), (0 : Int), (0 : Int), x_1.Stack⟩ : T_api_Event).N), .int .i64 ((⟨(0 : Int), (0 : Int), ([] : List Int), (0 : Int), (0 : Int), x_1.Stack⟩ : T_api_Event).M), .sl false 1 (List.map AV.str ((⟨(0 : Int), (0 : Int), ([] : List Int), (0 : Int), (0 : Int), x_1.Stack⟩ : T_api_Event).Stack))]]) (R07_Small_ok F (⟨(0 : Int), (0 : Int), ([] : List Int), (0 : Int), (0 : Int), x_1.Stack⟩ : T_api_Event) r_1 h_3) rfl ⟨rfl, rfl, rfl, rfl, rfl, rfl, rfl, rfl, trivial⟩), trivial⟩ ?_
    refine aw_cond (t := 20) (b := (!r_1)) (by kernel_rfl) (by kernel_rfl) ?_ ?_
    rotate_left
    · intro g_3; replace h := cond_f g_3 h
      refine aw_skip (by kernel_rfl) ?_
      refine aw_region [] [0, 3] [] 0 (vcs := []) (vals := [.sl false 4 (List.map e_T_api_Sample l_1), .int .i64 (w_i64 (i_1 + (1 : Int)))]) (bxs := []) (by kernel_rfl) hmix trivial ?_
      exact ⟨_, (sub_wk [] [] [(0, .sl false 4 (List.map e_T_api_Sample l_1)), (3, .int .i64 (w_i64 (i_1 + (1 : Int))))] [] (vcs := [(4 = 4 : Prop), ((List.map e_T_api_Sample l_1) = (List.map e_T_api_Sample l_1) : Prop), ((!false || false) = true : Prop), ((.int .i64 (w_i64 (i_1 + (1 : Int))) : AV) = .int .i64 (w_i64 (i_1 + (1 : Int))) : Prop)]) (by kernel_rfl) ⟨rfl, rfl, rfl, rfl, trivial⟩), _, rfl, h⟩
    intro g_3; replace h := cond_t g_3 h
    refine aw_seq (by kernel_rfl) ?_
    refine aw_region [] [2] [] 0 (vcs := []) (vals := [.bool false]) (bxs := []) (by kernel_rfl) hmix trivial ?_
    refine aw_ret (by kernel_rfl) ?_
    replace h := Option.some.inj h; subst h
    exact ⟨rfl, Nat.le_of_ble_eq_true rfl, by kernel_rfl⟩
  intro e st1 hk
  rcases o_1 with q_1 | q_2
  rotate_left
  · obtain ⟨rfl, hf⟩ := hk
    replace h := Option.some.inj h; subst h
    exact ⟨st1, Sub.refl _ _, .inr rfl, hf⟩
  obtain ⟨rfl, hs⟩ := hk
  refine ⟨_, hs, ?_⟩
  refine aw_seq (by kernel_rfl) ?_
  refine aw_region [] [2] [] 0 (vcs := []) (vals := [.bool true]) (bxs := []) (by kernel_rfl) hmix trivial ?_
  refine aw_ret (by kernel_rfl) ?_
  replace h := Option.some.inj h; subst h
  exact ⟨.inr rfl, Nat.le_of_ble_eq_true rfl, by kernel_rfl⟩

theorem R29_inRange_ok (s_1 : T_api_Sample) (r : Bool) (h : R29_inRange s_1 = some r) : Triple prog 26 [] [.agg [.int .i64 s_1.Thread, .int .i64 s_1.At, .int .i64 s_1.Weight, .sl false 1 (List.map AV.str s_1.Stack)]] [] (.bool r) := by
  refine triple_intro (fn := Go.Proofs.Try.f26) (code := codeOf Go.Proofs.Try.f26) (by kernel_rfl) (by kernel_rfl) (Nat.le_of_ble_eq_true (by kernel_rfl)) ?_
  unfold R29_inRange at h
  refine aw_seq (by kernel_rfl) ?_
  refine aw_region [(0, { id := 0 })] [1] [0] 1 (vcs := []) (vals := [.ptr 0 0 0 0]) (bxs := [.live (.var 42 [.int .i64 s_1.Thread, .int .i64 s_1.At, .int .i64 s_1.Weight, .sl false 1 (List.map AV.str s_1.Stack)])]) (by kernel_rfl) hmix trivial ?_
  refine aw_seq (by kernel_rfl) ?_
  refine aw_mid (mk [(2, .bool (decide (s_1.Thread ≥ (0 : Int)) && (decide (s_1.Thread ≤ (1000000000000000 : Int)) && (decide (s_1.At ≥ (0 : Int)) && (decide (s_1.At ≤ (1000000000000 : Int)) && (decide (s_1.Weight ≥ (1 : Int)) && decide (s_1.Weight ≤ (1000000000000 : Int))))))))] [] 0) ?_ ?_
  · rcases Bool.eq_false_or_eq_true (decide (s_1.Thread ≥ (0 : Int))) with gg_1 | gg_1
    · rcases Bool.eq_false_or_eq_true (decide (s_1.Thread ≤ (1000000000000000 : Int))) with gg_2 | gg_2
      · rcases Bool.eq_false_or_eq_true (decide (s_1.At ≥ (0 : Int))) with gg_3 | gg_3
        · rcases Bool.eq_false_or_eq_true (decide (s_1.At ≤ (1000000000000 : Int))) with gg_4 | gg_4
          · rcases Bool.eq_false_or_eq_true (decide (s_1.Weight ≥ (1 : Int))) with gg_5 | gg_5
            · refine aw_region [(7, { b := true }), (12, { b := true }), (17, { b := true }), (22, { b := true }), (27, { b := true })] [2] [] 1 (vcs := [(decide (s_1.Thread ≥ (0 : Int))) = true, (decide (s_1.Thread ≥ (0 : Int))) = true, (decide (s_1.Thread ≥ (0 : Int))) = true, (decide (s_1.Thread ≥ (0 : Int))) = true, (decide (s_1.Thread ≤ (1000000000000000 : Int))) = true, (decide (s_1.Thread ≤ (1000000000000000 : Int))) = true, (decide (s_1.Thread ≤ (1000000000000000 : Int))) = true, (decide (s_1.Thread ≤ (1000000000000000 : Int))) = true, (decide (s_1.At ≥ (0 : Int))) = true, (decide (s_1.At ≥ (0 : Int))) = true, (decide (s_1.At ≥ (0 : Int))) = true, (decide (s_1.At ≥ (0 : Int))) = true, (decide (s_1.At ≤ (1000000000000 : Int))) = true, (decide (s_1.At ≤ (1000000000000 : Int))) = true, (decide (s_1.At ≤ (1000000000000 : Int))) = true, (decide (s_1.At ≤ (1000000000000 : Int))) = true, (decide (s_1.Weight ≥ (1 : Int))) = true, (decide (s_1.Weight ≥ (1 : Int))) = true, (decide (s_1.Weight ≥ (1 : Int))) = true, (decide (s_1.Weight ≥ (1 : Int))) = true]) (vals := [.bool (decide (s_1.Weight ≤ (1000000000000 : Int)))]) (bxs := []) (by kernel_rfl) hmix ⟨gg_1, gg_1, gg_1, gg_1, gg_2, gg_2, gg_2, gg_2, gg_3, gg_3, gg_3, gg_3, gg_4, gg_4, gg_4, gg_4, gg_5, gg_5, gg_5, gg_5, trivial⟩ ?_
              exact ⟨rfl, (sub_wk [] [] [(2, .bool (decide (s_1.Thread ≥ (0 : Int)) && (decide (s_1.Thread ≤ (1000000000000000 : Int)) && (decide (s_1.At ≥ (0 : Int)) && (decide (s_1.At ≤ (1000000000000 : Int)) && (decide (s_1.Weight ≥ (1 : Int)) && decide (s_1.Weight ≤ (1000000000000 : Int))))))))] [] (vcs := [((.bool (decide (s_1.Weight ≤ (1000000000000 : Int))) : AV) = .bool (decide (s_1.Thread ≥ (0 : Int)) && (decide (s_1.Thread ≤ (1000000000000000 : Int)) && (decide (s_1.At ≥ (0 : Int)) && (decide (s_1.At ≤ (1000000000000 : Int)) && (decide (s_1.Weight ≥ (1 : Int)) && decide (s_1.Weight ≤ (1000000000000 : Int))))))) : Prop)]) (by kernel_rfl) ⟨(congrArg AV.bool (andt gg_1 (andt gg_2 (andt gg_3 (andt gg_4 (andt gg_5 rfl)))))), trivial⟩)⟩
            · refine aw_region [(7, { b := true }), (12, { b := true }), (17, { b := true }), (22, { b := true }), (24, { g := false }), (25, { g := false }), (26, { g := false }), (27, { b := false })] [2] [] 1 (vcs := [(decide (s_1.Thread ≥ (0 : Int))) = true, (decide (s_1.Thread ≥ (0 : Int))) = true, (decide (s_1.Thread ≥ (0 : Int))) = true, (decide (s_1.Thread ≥ (0 : Int))) = true, (decide (s_1.Thread ≤ (1000000000000000 : Int))) = true, (decide (s_1.Thread ≤ (1000000000000000 : Int))) = true, (decide (s_1.Thread ≤ (1000000000000000 : Int))) = true, (decide (s_1.Thread ≤ (1000000000000000 : Int))) = true, (decide (s_1.At ≥ (0 : Int))) = true, (decide (s_1.At ≥ (0 : Int))) = true, (decide (s_1.At ≥ (0 : Int))) = true, (decide (s_1.At ≥ (0 : Int))) = true, (decide (s_1.At ≤ (1000000000000 : Int))) = true, (decide (s_1.At ≤ (1000000000000 : Int))) = true, (decide (s_1.At ≤ (1000000000000 : Int))) = true, (decide (s_1.At ≤ (1000000000000 : Int))) = true, (decide (s_1.Weight ≥ (1 : Int))) = !true, (decide (s_1.Weight ≥ (1 : Int))) = !true, (decide (s_1.Weight ≥ (1 : Int))) = !true, (decide (s_1.Weight ≥ (1 : Int))) = false]) (vals := [.bool false]) (bxs := []) (by kernel_rfl) hmix ⟨gg_1, gg_1, gg_1, gg_1, gg_2, gg_2, gg_2, gg_2, gg_3, gg_3, gg_3, gg_3, gg_4, gg_4, gg_4, gg_4, gg_5, gg_5, gg_5, gg_5, trivial⟩ ?_
              exact ⟨rfl, (sub_wk [] [] [(2, .bool (decide (s_1.Thread ≥ (0 : Int)) && (decide (s_1.Thread ≤ (1000000000000000 : Int)) && (decide (s_1.At ≥ (0 : Int)) && (decide (s_1.At ≤ (1000000000000 : Int)) && (decide (s_1.Weight ≥ (1 : Int)) && decide (s_1.Weight ≤ (1000000000000 : Int))))))))] [] (vcs := [((.bool false : AV) = .bool (decide (s_1.Thread ≥ (0 : Int)) && (decide (s_1.Thread ≤ (1000000000000000 : Int)) && (decide (s_1.At ≥ (0 : Int)) && (decide (s_1.At ≤ (1000000000000 : Int)) && (decide (s_1.Weight ≥ (1 : Int)) && decide (s_1.Weight ≤ (1000000000000 : Int))))))) : Prop)]) (by kernel_rfl) ⟨(congrArg AV.bool (andt gg_1 (andt gg_2 (andt gg_3 (andt gg_4 (andf gg_5)))))), trivial⟩)⟩
          · refine aw_region [(7, { b := true }), (12, { b := true }), (17, { b := true }), (19, { g := false }), (20, { g := false }), (21, { g := false }), (22, { b := false }), (24, { g := false }), (25, { g := false }), (26, { g := false }), (27, { b := false })] [2] [] 1 (vcs := [(decide (s_1.Thread ≥ (0 : Int))) = true, (decide (s_1.Thread ≥ (0 : Int))) = true, (decide (s_1.Thread ≥ (0 : Int))) = true, (decide (s_1.Thread ≥ (0 : Int))) = true, (decide (s_1.Thread ≤ (1000000000000000 : Int))) = true, (decide (s_1.Thread ≤ (1000000000000000 : Int))) = true, (decide (s_1.Thread ≤ (1000000000000000 : Int))) = true, (decide (s_1.Thread ≤ (1000000000000000 : Int))) = true, (decide (s_1.At ≥ (0 : Int))) = true, (decide (s_1.At ≥ (0 : Int))) = true, (decide (s_1.At ≥ (0 : Int))) = true, (decide (s_1.At ≥ (0 : Int))) = true, (decide (s_1.At ≤ (1000000000000 : Int))) = !true, (decide (s_1.At ≤ (1000000000000 : Int))) = !true, (decide (s_1.At ≤ (1000000000000 : Int))) = !true, (decide (s_1.At ≤ (1000000000000 : Int))) = false, false = !true, false = !true, false = !true, false = false]) (vals := [.bool false]) (bxs := []) (by kernel_rfl) hmix ⟨gg_1, gg_1, gg_1, gg_1, gg_2, gg_2, gg_2, gg_2, gg_3, gg_3, gg_3, gg_3, gg_4, gg_4, gg_4, gg_4, rfl, rfl, rfl, rfl, trivial⟩ ?_
            exact ⟨rfl, (sub_wk [] [] [(2, .bool (decide (s_1.Thread ≥ (0 : Int)) && (decide (s_1.Thread ≤ (1000000000000000 : Int)) && (decide (s_1.At ≥ (0 : Int)) && (decide (s_1.At ≤ (1000000000000 : Int)) && (decide (s_1.Weight ≥ (1 : Int)) && decide (s_1.Weight ≤ (1000000000000 : Int))))))))] [] (vcs := [((.bool false : AV) = .bool (decide (s_1.Thread ≥ (0 : Int)) && (decide (s_1.Thread ≤ (1000000000000000 : Int)) && (decide (s_1.At ≥ (0 : Int)) && (decide (s_1.At ≤ (1000000000000 : Int)) && (decide (s_1.Weight ≥ (1 : Int)) && decide (s_1.Weight ≤ (1000000000000 : Int))))))) : Prop)]) (by kernel_rfl) ⟨(congrArg AV.bool (andt gg_1 (andt gg_2 (andt gg_3 (andf gg_4))))), trivial⟩)⟩
        · refine aw_region [(7, { b := true }), (12, { b := true }), (14, { g := false }), (15, { g := false }), (16, { g := false }), (17, { b := false }), (19, { g := false }), (20, { g := false }), (21, { g := false }), (22, { b := false }), (24, { g := false }), (25, { g := false }), (26, { g := false }), (27, { b := false })] [2] [] 1 (vcs := [(decide (s_1.Thread ≥ (0 : Int))) = true, (decide (s_1.Thread ≥ (0 : Int))) = true, (decide (s_1.Thread ≥ (0 : Int))) = true, (decide (s_1.Thread ≥ (0 : Int))) = true, (decide (s_1.Thread ≤ (1000000000000000 : Int))) = true, (decide (s_1.Thread ≤ (1000000000000000 : Int))) = true, (decide (s_1.Thread ≤ (1000000000000000 : Int))) = true, (decide (s_1.Thread ≤ (1000000000000000 : Int))) = true, (decide (s_1.At ≥ (0 : Int))) = !true, (decide (s_1.At ≥ (0 : Int))) = !true, (decide (s_1.At ≥ (0 : Int))) = !true, (decide (s_1.At ≥ (0 : Int))) = false, false = !true, false = !true, false = !true, false = false, false = !true, false = !true, false = !true, false = false]) (vals := [.bool false]) (bxs := []) (by kernel_rfl) hmix ⟨gg_1, gg_1, gg_1, gg_1, gg_2, gg_2, gg_2, gg_2, gg_3, gg_3, gg_3, gg_3, rfl, rfl, rfl, rfl, rfl, rfl, rfl, rfl, trivial⟩ ?_
          exact ⟨rfl, (sub_wk [] [] [(2, .bool (decide (s_1.Thread ≥ (0 : Int)) && (decide (s_1.Thread ≤ (1000000000000000 : Int)) && (decide (s_1.At ≥ (0 : Int)) && (decide (s_1.At ≤ (1000000000000 : Int)) && (decide (s_1.Weight ≥ (1 : Int)) && decide (s_1.Weight ≤ (1000000000000 : Int))))))))] [] (vcs := [((.bool false : AV) = .bool (decide (s_1.Thread ≥ (0 : Int)) && (decide (s_1.Thread ≤ (1000000000000000 : Int)) && (decide (s_1.At ≥ (0 : Int)) && (decide (s_1.At ≤ (1000000000000 : Int)) && (decide (s_1.Weight ≥ (1 : Int)) && decide (s_1.Weight ≤ (1000000000000 : Int))))))) : Prop)]) (by kernel_rfl) ⟨(congrArg AV.bool (andt gg_1 (andt gg_2 (andf gg_3)))), trivial⟩)⟩
      · refine aw_region [(7, { b := true }), (9, { g := false }), (10, { g := false }), (11, { g := false }), (12, { b := false }), (14, { g := false }), (15, { g := false }), (16, { g := false }), (17, { b := false }), (19, { g := false }), (20, { g := false }), (21, { g := false }), (22, { b := false }), (24, { g := false }), (25, { g := false }), (26, { g := false }), (27, { b := false })] [2] [] 1 (vcs := [(decide (s_1.Thread ≥ (0 : Int))) = true, (decide (s_1.Thread ≥ (0 : Int))) = true, (decide (s_1.Thread ≥ (0 : Int))) = true, (decide (s_1.Thread ≥ (0 : Int))) = true, (decide (s_1.Thread ≤ (1000000000000000 : Int))) = !true, (decide (s_1.Thread ≤ (1000000000000000 : Int))) = !true, (decide (s_1.Thread ≤ (1000000000000000 : Int))) = !true, (decide (s_1.Thread ≤ (1000000000000000 : Int))) = false, false = !true, false = !true, false = !true, false = false, false = !true, false = !true, false = !true, false = false, false = !true, false = !true, false = !true, false = false]) (vals := [.bool false]) (bxs := []) (by kernel_rfl) hmix ⟨gg_1, gg_1, gg_1, gg_1, gg_2, gg_2, gg_2, gg_2, rfl, rfl, rfl, rfl, rfl, rfl, rfl, rfl, rfl, rfl, rfl, rfl, trivial⟩ ?_
        exact ⟨rfl, (sub_wk [] [] [(2, .bool (decide (s_1.Thread ≥ (0 : Int)) && (decide (s_1.Thread ≤ (1000000000000000 : Int)) && (decide (s_1.At ≥ (0 : Int)) && (decide (s_1.At ≤ (1000000000000 : Int)) && (decide (s_1.Weight ≥ (1 : Int)) && decide (s_1.Weight ≤ (1000000000000 : Int))))))))] [] (vcs := [((.bool false : AV) = .bool (decide (s_1.Thread ≥ (0 : Int)) && (decide (s_1.Thread ≤ (1000000000000000 : Int)) && (decide (s_1.At ≥ (0 : Int)) && (decide (s_1.At ≤ (1000000000000 : Int)) && (decide (s_1.Weight ≥ (1 : Int)) && decide (s_1.Weight ≤ (1000000000000 : Int))))))) : Prop)]) (by kernel_rfl) ⟨(congrArg AV.bool (andt gg_1 (andf gg_2))), trivial⟩)⟩
    · refine aw_region [(4, { g := false }), (5, { g := false }), (6, { g := false }), (7, { b := false }), (9, { g := false }), (10, { g := false }), (11, { g := false }), (12, { b := false }), (14, { g := false }), (15, { g := false }), (16, { g := false }), (17, { b := false }), (19, { g := false }), (20, { g := false }), (21, { g := false }), (22, { b := false }), (24, { g := false }), (25, { g := false }), (26, { g := false }), (27, { b := false })] [2] [] 1 (vcs := [(decide (s_1.Thread ≥ (0 : Int))) = !true, (decide (s_1.Thread ≥ (0 : Int))) = !true, (decide (s_1.Thread ≥ (0 : Int))) = !true, (decide (s_1.Thread ≥ (0 : Int))) = false, false = !true, false = !true, false = !true, false = false, false = !true, false = !true, false = !true, false = false, false = !true, false = !true, false = !true, false = false, false = !true, false = !true, false = !true, false = false]) (vals := [.bool false]) (bxs := []) (by kernel_rfl) hmix ⟨gg_1, gg_1, gg_1, gg_1, rfl, rfl, rfl, rfl, rfl, rfl, rfl, rfl, rfl, rfl, rfl, rfl, rfl, rfl, rfl, rfl, trivial⟩ ?_
      exact ⟨rfl, (sub_wk [] [] [(2, .bool (decide (s_1.Thread ≥ (0 : Int)) && (decide (s_1.Thread ≤ (1000000000000000 : Int)) && (decide (s_1.At ≥ (0 : Int)) && (decide (s_1.At ≤ (1000000000000 : Int)) && (decide (s_1.Weight ≥ (1 : Int)) && decide (s_1.Weight ≤ (1000000000000 : Int))))))))] [] (vcs := [((.bool false : AV) = .bool (decide (s_1.Thread ≥ (0 : Int)) && (decide (s_1.Thread ≤ (1000000000000000 : Int)) && (decide (s_1.At ≥ (0 : Int)) && (decide (s_1.At ≤ (1000000000000 : Int)) && (decide (s_1.Weight ≥ (1 : Int)) && decide (s_1.Weight ≤ (1000000000000 : Int))))))) : Prop)]) (by kernel_rfl) ⟨(congrArg AV.bool (andf gg_1)), trivial⟩)⟩
  refine aw_ret (by kernel_rfl) ?_
  replace h := Option.some.inj h; subst h
  exact ⟨.inr rfl, Nat.le_of_ble_eq_true rfl, by kernel_rfl⟩

theorem R06_letter_ok (F : Nat) (c_1 : Int) (r : Bool) (h : R06_letter F c_1 = some r) : Triple prog 34 [] [.int .u8 c_1] [] (.bool r) := by
  refine triple_intro (fn := Go.Proofs.Try.f34) (code := codeOf Go.Proofs.Try.f34) (by kernel_rfl) (by kernel_rfl) (Nat.le_of_ble_eq_true (by kernel_rfl)) ?_
  unfold R06_letter at h
  refine aw_seq (by kernel_rfl) ?_
  refine aw_region [] [0] [] 0 (vcs := []) (vals := [.int .u8 c_1]) (bxs := []) (by kernel_rfl) hmix trivial ?_
  refine aw_seq (by kernel_rfl) ?_
  refine aw_seq (by kernel_rfl) ?_
  refine aw_mid (mk [(0, .int .u8 c_1), (26, .bool (bif decide (c_1 ≥ (97 : Int)) then (decide (c_1 ≤ (122 : Int)) || (bif decide (c_1 ≥ (65 : Int)) then (decide (c_1 ≤ (90 : Int)) || (decide (c_1 ≥ (48 : Int)) && decide (c_1 ≤ (57 : Int)))) else (decide (c_1 ≥ (48 : Int)) && decide (c_1 ≤ (57 : Int))))) else (bif decide (c_1 ≥ (65 : Int)) then (decide (c_1 ≤ (90 : Int)) || (decide (c_1 ≥ (48 : Int)) && decide (c_1 ≤ (57 : Int)))) else (decide (c_1 ≥ (48 : Int)) && decide (c_1 ≤ (57 : Int))))))] [] 0) ?_ ?_
  · rcases Bool.eq_false_or_eq_true (decide (c_1 ≥ (97 : Int))) with gg_1 | gg_1
    · rcases Bool.eq_false_or_eq_true (decide (c_1 ≤ (122 : Int))) with gg_2 | gg_2
      · refine aw_region [(5, { b := true }), (7, { g := false }), (8, { g := false }), (9, { g := false }), (12, { g := false }), (13, { b := true }), (15, { g := false }), (16, { g := false }), (17, { g := false }), (20, { g := false }), (21, { b := true })] [0, 26] [] 0 (vcs := [(decide (c_1 ≥ (97 : Int))) = true, (decide (c_1 ≥ (97 : Int))) = true, (decide (c_1 ≥ (97 : Int))) = true, (decide (c_1 ≤ (122 : Int))) = !false, (decide (c_1 ≤ (122 : Int))) = !false, (decide (c_1 ≤ (122 : Int))) = !false, (decide (c_1 ≤ (122 : Int))) = !false, (decide (c_1 ≤ (122 : Int))) = true, true = !false, true = !false, true = !false, true = !false, true = true]) (vals := [.int .u8 c_1, .bool true]) (bxs := []) (by kernel_rfl) hmix ⟨gg_1, gg_1, gg_1, gg_2, gg_2, gg_2, gg_2, gg_2, rfl, rfl, rfl, rfl, rfl, trivial⟩ ?_
        exact ⟨rfl, (sub_wk [] [] [(0, .int .u8 c_1), (26, .bool (bif decide (c_1 ≥ (97 : Int)) then (decide (c_1 ≤ (122 : Int)) || (bif decide (c_1 ≥ (65 : Int)) then (decide (c_1 ≤ (90 : Int)) || (decide (c_1 ≥ (48 : Int)) && decide (c_1 ≤ (57 : Int)))) else (decide (c_1 ≥ (48 : Int)) && decide (c_1 ≤ (57 : Int))))) else (bif decide (c_1 ≥ (65 : Int)) then (decide (c_1 ≤ (90 : Int)) || (decide (c_1 ≥ (48 : Int)) && decide (c_1 ≤ (57 : Int)))) else (decide (c_1 ≥ (48 : Int)) && decide (c_1 ≤ (57 : Int))))))] [] (vcs := [((.int .u8 c_1 : AV) = .int .u8 c_1 : Prop), ((.bool true : AV) = .bool (bif decide (c_1 ≥ (97 : Int)) then (decide (c_1 ≤ (122 : Int)) || (bif decide (c_1 ≥ (65 : Int)) then (decide (c_1 ≤ (90 : Int)) || (decide (c_1 ≥ (48 : Int)) && decide (c_1 ≤ (57 : Int)))) else (decide (c_1 ≥ (48 : Int)) && decide (c_1 ≤ (57 : Int))))) else (bif decide (c_1 ≥ (65 : Int)) then (decide (c_1 ≤ (90 : Int)) || (decide (c_1 ≥ (48 : Int)) && decide (c_1 ≤ (57 : Int)))) else (decide (c_1 ≥ (48 : Int)) && decide (c_1 ≤ (57 : Int))))) : Prop)]) (by kernel_rfl) ⟨rfl, (congrArg AV.bool (ctr gg_1 (ort gg_2))), trivial⟩)⟩
      · rcases Bool.eq_false_or_eq_true (decide (c_1 ≥ (65 : Int))) with gg_3 | gg_3
        · rcases Bool.eq_false_or_eq_true (decide (c_1 ≤ (90 : Int))) with gg_4 | gg_4
          · refine aw_region [(5, { b := true }), (12, { b := true }), (13, { b := false }), (15, { g := false }), (16, { g := false }), (17, { g := false }), (20, { g := false }), (21, { b := true })] [0, 26] [] 0 (vcs := [(decide (c_1 ≥ (97 : Int))) = true, (decide (c_1 ≥ (97 : Int))) = true, (decide (c_1 ≥ (97 : Int))) = true, (decide (c_1 ≤ (122 : Int))) = false, (decide (c_1 ≤ (122 : Int))) = false, (decide (c_1 ≤ (122 : Int))) = false, (decide (c_1 ≥ (65 : Int))) = true, (decide (c_1 ≥ (65 : Int))) = true, (decide (c_1 ≤ (122 : Int))) = false, (decide (c_1 ≥ (65 : Int))) = true, (decide (c_1 ≤ (122 : Int))) = false, (decide (c_1 ≤ (90 : Int))) = !false, (decide (c_1 ≤ (90 : Int))) = !false, (decide (c_1 ≤ (90 : Int))) = !false, (decide (c_1 ≤ (90 : Int))) = !false, (decide (c_1 ≤ (90 : Int))) = true]) (vals := [.int .u8 c_1, .bool true]) (bxs := []) (by kernel_rfl) hmix ⟨gg_1, gg_1, gg_1, gg_2, gg_2, gg_2, gg_3, gg_3, gg_2, gg_3, gg_2, gg_4, gg_4, gg_4, gg_4, gg_4, trivial⟩ ?_
            exact ⟨rfl, (sub_wk [] [] [(0, .int .u8 c_1), (26, .bool (bif decide (c_1 ≥ (97 : Int)) then (decide (c_1 ≤ (122 : Int)) || (bif decide (c_1 ≥ (65 : Int)) then (decide (c_1 ≤ (90 : Int)) || (decide (c_1 ≥ (48 : Int)) && decide (c_1 ≤ (57 : Int)))) else (decide (c_1 ≥ (48 : Int)) && decide (c_1 ≤ (57 : Int))))) else (bif decide (c_1 ≥ (65 : Int)) then (decide (c_1 ≤ (90 : Int)) || (decide (c_1 ≥ (48 : Int)) && decide (c_1 ≤ (57 : Int)))) else (decide (c_1 ≥ (48 : Int)) && decide (c_1 ≤ (57 : Int))))))] [] (vcs := [((.int .u8 c_1 : AV) = .int .u8 c_1 : Prop), ((.bool true : AV) = .bool (bif decide (c_1 ≥ (97 : Int)) then (decide (c_1 ≤ (122 : Int)) || (bif decide (c_1 ≥ (65 : Int)) then (decide (c_1 ≤ (90 : Int)) || (decide (c_1 ≥ (48 : Int)) && decide (c_1 ≤ (57 : Int)))) else (decide (c_1 ≥ (48 : Int)) && decide (c_1 ≤ (57 : Int))))) else (bif decide (c_1 ≥ (65 : Int)) then (decide (c_1 ≤ (90 : Int)) || (decide (c_1 ≥ (48 : Int)) && decide (c_1 ≤ (57 : Int)))) else (decide (c_1 ≥ (48 : Int)) && decide (c_1 ≤ (57 : Int))))) : Prop)]) (by kernel_rfl) ⟨rfl, (congrArg AV.bool (ctr gg_1 (orf gg_2 (ctr gg_3 (ort gg_4))))), trivial⟩)⟩
          · rcases Bool.eq_false_or_eq_true (decide (c_1 ≥ (48 : Int))) with gg_5 | gg_5
            · refine aw_region [(5, { b := true }), (12, { b := true }), (13, { b := false }), (20, { b := true }), (21, { b := false })] [0, 26] [] 0 (vcs := [(decide (c_1 ≥ (97 : Int))) = true, (decide (c_1 ≥ (97 : Int))) = true, (decide (c_1 ≥ (97 : Int))) = true, (decide (c_1 ≤ (122 : Int))) = false, (decide (c_1 ≤ (122 : Int))) = false, (decide (c_1 ≤ (122 : Int))) = false, (decide (c_1 ≥ (65 : Int))) = true, (decide (c_1 ≥ (65 : Int))) = true, (decide (c_1 ≤ (122 : Int))) = false, (decide (c_1 ≥ (65 : Int))) = true, (decide (c_1 ≤ (122 : Int))) = false, (decide (c_1 ≤ (90 : Int))) = false, (decide (c_1 ≤ (90 : Int))) = false, (decide (c_1 ≤ (90 : Int))) = false, (decide (c_1 ≥ (48 : Int))) = true, (decide (c_1 ≥ (48 : Int))) = true, (decide (c_1 ≤ (90 : Int))) = false, (decide (c_1 ≥ (48 : Int))) = true, (decide (c_1 ≤ (90 : Int))) = false]) (vals := [.int .u8 c_1, .bool (decide (c_1 ≤ (57 : Int)))]) (bxs := []) (by kernel_rfl) hmix ⟨gg_1, gg_1, gg_1, gg_2, gg_2, gg_2, gg_3, gg_3, gg_2, gg_3, gg_2, gg_4, gg_4, gg_4, gg_5, gg_5, gg_4, gg_5, gg_4, trivial⟩ ?_
              exact ⟨rfl, (sub_wk [] [] [(0, .int .u8 c_1), (26, .bool (bif decide (c_1 ≥ (97 : Int)) then (decide (c_1 ≤ (122 : Int)) || (bif decide (c_1 ≥ (65 : Int)) then (decide (c_1 ≤ (90 : Int)) || (decide (c_1 ≥ (48 : Int)) && decide (c_1 ≤ (57 : Int)))) else (decide (c_1 ≥ (48 : Int)) && decide (c_1 ≤ (57 : Int))))) else (bif decide (c_1 ≥ (65 : Int)) then (decide (c_1 ≤ (90 : Int)) || (decide (c_1 ≥ (48 : Int)) && decide (c_1 ≤ (57 : Int)))) else (decide (c_1 ≥ (48 : Int)) && decide (c_1 ≤ (57 : Int))))))] [] (vcs := [((.int .u8 c_1 : AV) = .int .u8 c_1 : Prop), ((.bool (decide (c_1 ≤ (57 : Int))) : AV) = .bool (bif decide (c_1 ≥ (97 : Int)) then (decide (c_1 ≤ (122 : Int)) || (bif decide (c_1 ≥ (65 : Int)) then (decide (c_1 ≤ (90 : Int)) || (decide (c_1 ≥ (48 : Int)) && decide (c_1 ≤ (57 : Int)))) else (decide (c_1 ≥ (48 : Int)) && decide (c_1 ≤ (57 : Int))))) else (bif decide (c_1 ≥ (65 : Int)) then (decide (c_1 ≤ (90 : Int)) || (decide (c_1 ≥ (48 : Int)) && decide (c_1 ≤ (57 : Int)))) else (decide (c_1 ≥ (48 : Int)) && decide (c_1 ≤ (57 : Int))))) : Prop)]) (by kernel_rfl) ⟨rfl, (congrArg AV.bool (ctr gg_1 (orf gg_2 (ctr gg_3 (orf gg_4 (andt gg_5 rfl)))))), trivial⟩)⟩
            · refine aw_region [(5, { b := true }), (12, { b := true }), (13, { b := false }), (18, { g := false }), (19, { g := false }), (20, { b := false }), (21, { b := false })] [0, 26] [] 0 (vcs := [(decide (c_1 ≥ (97 : Int))) = true, (decide (c_1 ≥ (97 : Int))) = true, (decide (c_1 ≥ (97 : Int))) = true, (decide (c_1 ≤ (122 : Int))) = false, (decide (c_1 ≤ (122 : Int))) = false, (decide (c_1 ≤ (122 : Int))) = false, (decide (c_1 ≥ (65 : Int))) = true, (decide (c_1 ≥ (65 : Int))) = true, (decide (c_1 ≤ (122 : Int))) = false, (decide (c_1 ≥ (65 : Int))) = true, (decide (c_1 ≤ (122 : Int))) = false, (decide (c_1 ≤ (90 : Int))) = false, (decide (c_1 ≤ (90 : Int))) = false, (decide (c_1 ≤ (90 : Int))) = false, (decide (c_1 ≥ (48 : Int))) = !true, (decide (c_1 ≥ (48 : Int))) = !true, (decide (c_1 ≤ (90 : Int))) = false, (decide (c_1 ≥ (48 : Int))) = false, (decide (c_1 ≤ (90 : Int))) = false]) (vals := [.int .u8 c_1, .bool false]) (bxs := []) (by kernel_rfl) hmix ⟨gg_1, gg_1, gg_1, gg_2, gg_2, gg_2, gg_3, gg_3, gg_2, gg_3, gg_2, gg_4, gg_4, gg_4, gg_5, gg_5, gg_4, gg_5, gg_4, trivial⟩ ?_
              exact ⟨rfl, (sub_wk [] [] [(0, .int .u8 c_1), (26, .bool (bif decide (c_1 ≥ (97 : Int)) then (decide (c_1 ≤ (122 : Int)) || (bif decide (c_1 ≥ (65 : Int)) then (decide (c_1 ≤ (90 : Int)) || (decide (c_1 ≥ (48 : Int)) && decide (c_1 ≤ (57 : Int)))) else (decide (c_1 ≥ (48 : Int)) && decide (c_1 ≤ (57 : Int))))) else (bif decide (c_1 ≥ (65 : Int)) then (decide (c_1 ≤ (90 : Int)) || (decide (c_1 ≥ (48 : Int)) && decide (c_1 ≤ (57 : Int)))) else (decide (c_1 ≥ (48 : Int)) && decide (c_1 ≤ (57 : Int))))))] [] (vcs := [((.int .u8 c_1 : AV) = .int .u8 c_1 : Prop), ((.bool false : AV) = .bool (bif decide (c_1 ≥ (97 : Int)) then (decide (c_1 ≤ (122 : Int)) || (bif decide (c_1 ≥ (65 : Int)) then (decide (c_1 ≤ (90 : Int)) || (decide (c_1 ≥ (48 : Int)) && decide (c_1 ≤ (57 : Int)))) else (decide (c_1 ≥ (48 : Int)) && decide (c_1 ≤ (57 : Int))))) else (bif decide (c_1 ≥ (65 : Int)) then (decide (c_1 ≤ (90 : Int)) || (decide (c_1 ≥ (48 : Int)) && decide (c_1 ≤ (57 : Int)))) else (decide (c_1 ≥ (48 : Int)) && decide (c_1 ≤ (57 : Int))))) : Prop)]) (by kernel_rfl) ⟨rfl, (congrArg AV.bool (ctr gg_1 (orf gg_2 (ctr gg_3 (orf gg_4 (andf gg_5)))))), trivial⟩)⟩
        · rcases Bool.eq_false_or_eq_true (decide (c_1 ≥ (48 : Int))) with gg_6 | gg_6
          · refine aw_region [(5, { b := true }), (10, { g := false }), (11, { g := false }), (12, { b := false }), (13, { b := false }), (20, { b := true }), (21, { b := false })] [0, 26] [] 0 (vcs := [(decide (c_1 ≥ (97 : Int))) = true, (decide (c_1 ≥ (97 : Int))) = true, (decide (c_1 ≥ (97 : Int))) = true, (decide (c_1 ≤ (122 : Int))) = false, (decide (c_1 ≤ (122 : Int))) = false, (decide (c_1 ≤ (122 : Int))) = false, (decide (c_1 ≥ (65 : Int))) = !true, (decide (c_1 ≥ (65 : Int))) = !true, (decide (c_1 ≤ (122 : Int))) = false, (decide (c_1 ≥ (65 : Int))) = false, (decide (c_1 ≤ (122 : Int))) = false, false = false, false = false, false = false, (decide (c_1 ≥ (48 : Int))) = true, (decide (c_1 ≥ (48 : Int))) = true, false = false, (decide (c_1 ≥ (48 : Int))) = true, false = false]) (vals := [.int .u8 c_1, .bool (decide (c_1 ≤ (57 : Int)))]) (bxs := []) (by kernel_rfl) hmix ⟨gg_1, gg_1, gg_1, gg_2, gg_2, gg_2, gg_3, gg_3, gg_2, gg_3, gg_2, rfl, rfl, rfl, gg_6, gg_6, rfl, gg_6, rfl, trivial⟩ ?_
            exact ⟨rfl, (sub_wk [] [] [(0, .int .u8 c_1), (26, .bool (bif decide (c_1 ≥ (97 : Int)) then (decide (c_1 ≤ (122 : Int)) || (bif decide (c_1 ≥ (65 : Int)) then (decide (c_1 ≤ (90 : Int)) || (decide (c_1 ≥ (48 : Int)) && decide (c_1 ≤ (57 : Int)))) else (decide (c_1 ≥ (48 : Int)) && decide (c_1 ≤ (57 : Int))))) else (bif decide (c_1 ≥ (65 : Int)) then (decide (c_1 ≤ (90 : Int)) || (decide (c_1 ≥ (48 : Int)) && decide (c_1 ≤ (57 : Int)))) else (decide (c_1 ≥ (48 : Int)) && decide (c_1 ≤ (57 : Int))))))] [] (vcs := [((.int .u8 c_1 : AV) = .int .u8 c_1 : Prop), ((.bool (decide (c_1 ≤ (57 : Int))) : AV) = .bool (bif decide (c_1 ≥ (97 : Int)) then (decide (c_1 ≤ (122 : Int)) || (bif decide (c_1 ≥ (65 : Int)) then (decide (c_1 ≤ (90 : Int)) || (decide (c_1 ≥ (48 : Int)) && decide (c_1 ≤ (57 : Int)))) else (decide (c_1 ≥ (48 : Int)) && decide (c_1 ≤ (57 : Int))))) else (bif decide (c_1 ≥ (65 : Int)) then (decide (c_1 ≤ (90 : Int)) || (decide (c_1 ≥ (48 : Int)) && decide (c_1 ≤ (57 : Int)))) else (decide (c_1 ≥ (48 : Int)) && decide (c_1 ≤ (57 : Int))))) : Prop)]) (by kernel_rfl) ⟨rfl, (congrArg AV.bool (ctr gg_1 (orf gg_2 (cfr gg_3 (andt gg_6 rfl))))), trivial⟩)⟩
          · refine aw_region [(5, { b := true }), (10, { g := false }), (11, { g := false }), (12, { b := false }), (13, { b := false }), (18, { g := false }), (19, { g := false }), (20, { b := false }), (21, { b := false })] [0, 26] [] 0 (vcs := [(decide (c_1 ≥ (97 : Int))) = true, (decide (c_1 ≥ (97 : Int))) = true, (decide (c_1 ≥ (97 : Int))) = true, (decide (c_1 ≤ (122 : Int))) = false, (decide (c_1 ≤ (122 : Int))) = false, (decide (c_1 ≤ (122 : Int))) = false, (decide (c_1 ≥ (65 : Int))) = !true, (decide (c_1 ≥ (65 : Int))) = !true, (decide (c_1 ≤ (122 : Int))) = false, (decide (c_1 ≥ (65 : Int))) = false, (decide (c_1 ≤ (122 : Int))) = false, false = false, false = false, false = false, (decide (c_1 ≥ (48 : Int))) = !true, (decide (c_1 ≥ (48 : Int))) = !true, false = false, (decide (c_1 ≥ (48 : Int))) = false, false = false]) (vals := [.int .u8 c_1, .bool false]) (bxs := []) (by kernel_rfl) hmix ⟨gg_1, gg_1, gg_1, gg_2, gg_2, gg_2, gg_3, gg_3, gg_2, gg_3, gg_2, rfl, rfl, rfl, gg_6, gg_6, rfl, gg_6, rfl, trivial⟩ ?_
            exact ⟨rfl, (sub_wk [] [] [(0, .int .u8 c_1), (26, .bool (bif decide (c_1 ≥ (97 : Int)) then (decide (c_1 ≤ (122 : Int)) || (bif decide (c_1 ≥ (65 : Int)) then (decide (c_1 ≤ (90 : Int)) || (decide (c_1 ≥ (48 : Int)) && decide (c_1 ≤ (57 : Int)))) else (decide (c_1 ≥ (48 : Int)) && decide (c_1 ≤ (57 : Int))))) else (bif decide (c_1 ≥ (65 : Int)) then (decide (c_1 ≤ (90 : Int)) || (decide (c_1 ≥ (48 : Int)) && decide (c_1 ≤ (57 : Int)))) else (decide (c_1 ≥ (48 : Int)) && decide (c_1 ≤ (57 : Int))))))] [] (vcs := [((.int .u8 c_1 : AV) = .int .u8 c_1 : Prop), ((.bool false : AV) = .bool (bif decide (c_1 ≥ (97 : Int)) then (decide (c_1 ≤ (122 : Int)) || (bif decide (c_1 ≥ (65 : Int)) then (decide (c_1 ≤ (90 : Int)) || (decide (c_1 ≥ (48 : Int)) && decide (c_1 ≤ (57 : Int)))) else (decide (c_1 ≥ (48 : Int)) && decide (c_1 ≤ (57 : Int))))) else (bif decide (c_1 ≥ (65 : Int)) then (decide (c_1 ≤ (90 : Int)) || (decide (c_1 ≥ (48 : Int)) && decide (c_1 ≤ (57 : Int)))) else (decide (c_1 ≥ (48 : Int)) && decide (c_1 ≤ (57 : Int))))) : Prop)]) (by kernel_rfl) ⟨rfl, (congrArg AV.bool (ctr gg_1 (orf gg_2 (cfr gg_3 (andf gg_6))))), trivial⟩)⟩
    · rcases Bool.eq_false_or_eq_true (decide (c_1 ≥ (65 : Int))) with gg_7 | gg_7
      · rcases Bool.eq_false_or_eq_true (decide (c_1 ≤ (90 : Int))) with gg_8 | gg_8
        · refine aw_region [(3, { g := false }), (4, { g := false }), (5, { b := false }), (12, { b := true }), (13, { b := false }), (15, { g := false }), (16, { g := false }), (17, { g := false }), (20, { g := false }), (21, { b := true })] [0, 26] [] 0 (vcs := [(decide (c_1 ≥ (97 : Int))) = !true, (decide (c_1 ≥ (97 : Int))) = !true, (decide (c_1 ≥ (97 : Int))) = false, false = false, false = false, false = false, (decide (c_1 ≥ (65 : Int))) = true, (decide (c_1 ≥ (65 : Int))) = true, false = false, (decide (c_1 ≥ (65 : Int))) = true, false = false, (decide (c_1 ≤ (90 : Int))) = !false, (decide (c_1 ≤ (90 : Int))) = !false, (decide (c_1 ≤ (90 : Int))) = !false, (decide (c_1 ≤ (90 : Int))) = !false, (decide (c_1 ≤ (90 : Int))) = true]) (vals := [.int .u8 c_1, .bool true]) (bxs := []) (by kernel_rfl) hmix ⟨gg_1, gg_1, gg_1, rfl, rfl, rfl, gg_7, gg_7, rfl, gg_7, rfl, gg_8, gg_8, gg_8, gg_8, gg_8, trivial⟩ ?_
          exact ⟨rfl, (sub_wk [] [] [(0, .int .u8 c_1), (26, .bool (bif decide (c_1 ≥ (97 : Int)) then (decide (c_1 ≤ (122 : Int)) || (bif decide (c_1 ≥ (65 : Int)) then (decide (c_1 ≤ (90 : Int)) || (decide (c_1 ≥ (48 : Int)) && decide (c_1 ≤ (57 : Int)))) else (decide (c_1 ≥ (48 : Int)) && decide (c_1 ≤ (57 : Int))))) else (bif decide (c_1 ≥ (65 : Int)) then (decide (c_1 ≤ (90 : Int)) || (decide (c_1 ≥ (48 : Int)) && decide (c_1 ≤ (57 : Int)))) else (decide (c_1 ≥ (48 : Int)) && decide (c_1 ≤ (57 : Int))))))] [] (vcs := [((.int .u8 c_1 : AV) = .int .u8 c_1 : Prop), ((.bool true : AV) = .bool (bif decide (c_1 ≥ (97 : Int)) then (decide (c_1 ≤ (122 : Int)) || (bif decide (c_1 ≥ (65 : Int)) then (decide (c_1 ≤ (90 : Int)) || (decide (c_1 ≥ (48 : Int)) && decide (c_1 ≤ (57 : Int)))) else (decide (c_1 ≥ (48 : Int)) && decide (c_1 ≤ (57 : Int))))) else (bif decide (c_1 ≥ (65 : Int)) then (decide (c_1 ≤ (90 : Int)) || (decide (c_1 ≥ (48 : Int)) && decide (c_1 ≤ (57 : Int)))) else (decide (c_1 ≥ (48 : Int)) && decide (c_1 ≤ (57 : Int))))) : Prop)]) (by kernel_rfl) ⟨rfl, (congrArg AV.bool (cfr gg_1 (ctr gg_7 (ort gg_8)))), trivial⟩)⟩
        · rcases Bool.eq_false_or_eq_true (decide (c_1 ≥ (48 : Int))) with gg_9 | gg_9
          · refine aw_region [(3, { g := false }), (4, { g := false }), (5, { b := false }), (12, { b := true }), (13, { b := false }), (20, { b := true }), (21, { b := false })] [0, 26] [] 0 (vcs := [(decide (c_1 ≥ (97 : Int))) = !true, (decide (c_1 ≥ (97 : Int))) = !true, (decide (c_1 ≥ (97 : Int))) = false, false = false, false = false, false = false, (decide (c_1 ≥ (65 : Int))) = true, (decide (c_1 ≥ (65 : Int))) = true, false = false, (decide (c_1 ≥ (65 : Int))) = true, false = false, (decide (c_1 ≤ (90 : Int))) = false, (decide (c_1 ≤ (90 : Int))) = false, (decide (c_1 ≤ (90 : Int))) = false, (decide (c_1 ≥ (48 : Int))) = true, (decide (c_1 ≥ (48 : Int))) = true, (decide (c_1 ≤ (90 : Int))) = false, (decide (c_1 ≥ (48 : Int))) = true, (decide (c_1 ≤ (90 : Int))) = false]) (vals := [.int .u8 c_1, .bool (decide (c_1 ≤ (57 : Int)))]) (bxs := []) (by kernel_rfl) hmix ⟨gg_1, gg_1, gg_1, rfl, rfl, rfl, gg_7, gg_7, rfl, gg_7, rfl, gg_8, gg_8, gg_8, gg_9, gg_9, gg_8, gg_9, gg_8, trivial⟩ ?_
            exact ⟨rfl, (sub_wk [] [] [(0, .int .u8 c_1), (26, .bool (bif decide (c_1 ≥ (97 : Int)) then (decide (c_1 ≤ (122 : Int)) || (bif decide (c_1 ≥ (65 : Int)) then (decide (c_1 ≤ (90 : Int)) || (decide (c_1 ≥ (48 : Int)) && decide (c_1 ≤ (57 : Int)))) else (decide (c_1 ≥ (48 : Int)) && decide (c_1 ≤ (57 : Int))))) else (bif decide (c_1 ≥ (65 : Int)) then (decide (c_1 ≤ (90 : Int)) || (decide (c_1 ≥ (48 : Int)) && decide (c_1 ≤ (57 : Int)))) else (decide (c_1 ≥ (48 : Int)) && decide (c_1 ≤ (57 : Int))))))] [] (vcs := [((.int .u8 c_1 : AV) = .int .u8 c_1 : Prop), ((.bool (decide (c_1 ≤ (57 : Int))) : AV) = .bool (bif decide (c_1 ≥ (97 : Int)) then (decide (c_1 ≤ (122 : Int)) || (bif decide (c_1 ≥ (65 : Int)) then (decide (c_1 ≤ (90 : Int)) || (decide (c_1 ≥ (48 : Int)) && decide (c_1 ≤ (57 : Int)))) else (decide (c_1 ≥ (48 : Int)) && decide (c_1 ≤ (57 : Int))))) else (bif decide (c_1 ≥ (65 : Int)) then (decide (c_1 ≤ (90 : Int)) || (decide (c_1 ≥ (48 : Int)) && decide (c_1 ≤ (57 : Int)))) else (decide (c_1 ≥ (48 : Int)) && decide (c_1 ≤ (57 : Int))))) : Prop)]) (by kernel_rfl) ⟨rfl, (congrArg AV.bool (cfr gg_1 (ctr gg_7 (orf gg_8 (andt gg_9 rfl))))), trivial⟩)⟩
          · refine aw_region [(3, { g := false }), (4, { g := false }), (5, { b := false }), (12, { b := true }), (13, { b := false }), (18, { g := false }), (19, { g := false }), (20, { b := false }), (21, { b := false })] [0, 26] [] 0 (vcs := [(decide (c_1 ≥ (97 : Int))) = !true, (decide (c_1 ≥ (97 : Int))) = !true, (decide (c_1 ≥ (97 : Int))) = false, false = false, false = false, false = false, (decide (c_1 ≥ (65 : Int))) = true, (decide (c_1 ≥ (65 : Int))) = true, false = false, (decide (c_1 ≥ (65 : Int))) = true, false = false, (decide (c_1 ≤ (90 : Int))) = false, (decide (c_1 ≤ (90 : Int))) = false, (decide (c_1 ≤ (90 : Int))) = false, (decide (c_1 ≥ (48 : Int))) = !true, (decide (c_1 ≥ (48 : Int))) = !true, (decide (c_1 ≤ (90 : Int))) = false, (decide (c_1 ≥ (48 : Int))) = false, (decide (c_1 ≤ (90 : Int))) = false]) (vals := [.int .u8 c_1, .bool false]) (bxs := []) (by kernel_rfl) hmix ⟨gg_1, gg_1, gg_1, rfl, rfl, rfl, gg_7, gg_7, rfl, gg_7, rfl, gg_8, gg_8, gg_8, gg_9, gg_9, gg_8, gg_9, gg_8, trivial⟩ ?_
            exact ⟨rfl, (sub_wk [] [] [(0, .int .u8 c_1), (26, .bool (bif decide (c_1 ≥ (97 : Int)) then (decide (c_1 ≤ (122 : Int)) || (bif decide (c_1 ≥ (65 : Int)) then (decide (c_1 ≤ (90 : Int)) || (decide (c_1 ≥ (48 : Int)) && decide (c_1 ≤ (57 : Int)))) else (decide (c_1 ≥ (48 : Int)) && decide (c_1 ≤ (57 : Int))))) else (bif decide (c_1 ≥ (65 : Int)) then (decide (c_1 ≤ (90 : Int)) || (decide (c_1 ≥ (48 : Int)) && decide (c_1 ≤ (57 : Int)))) else (decide (c_1 ≥ (48 : Int)) && decide (c_1 ≤ (57 : Int))))))] [] (vcs := [((.int .u8 c_1 : AV) = .int .u8 c_1 : Prop), ((.bool false : AV) = .bool (bif decide (c_1 ≥ (97 : Int)) then (decide (c_1 ≤ (122 : Int)) || (bif decide (c_1 ≥ (65 : Int)) then (decide (c_1 ≤ (90 : Int)) || (decide (c_1 ≥ (48 : Int)) && decide (c_1 ≤ (57 : Int)))) else (decide (c_1 ≥ (48 : Int)) && decide (c_1 ≤ (57 : Int))))) else (bif decide (c_1 ≥ (65 : Int)) then (decide (c_1 ≤ (90 : Int)) || (decide (c_1 ≥ (48 : Int)) && decide (c_1 ≤ (57 : Int)))) else (decide (c_1 ≥ (48 : Int)) && decide (c_1 ≤ (57 : Int))))) : Prop)]) (by kernel_rfl) ⟨rfl, (congrArg AV.bool (cfr gg_1 (ctr gg_7 (orf gg_8 (andf gg_9))))), trivial⟩)⟩
      · rcases Bool.eq_false_or_eq_true (decide (c_1 ≥ (48 : Int))) with gg_10 | gg_10
        · refine aw_region [(3, { g := false }), (4, { g := false }), (5, { b := false }), (10, { g := false }), (11, { g := false }), (12, { b := false }), (13, { b := false }), (20, { b := true }), (21, { b := false })] [0, 26] [] 0 (vcs := [(decide (c_1 ≥ (97 : Int))) = !true, (decide (c_1 ≥ (97 : Int))) = !true, (decide (c_1 ≥ (97 : Int))) = false, false = false, false = false, false = false, (decide (c_1 ≥ (65 : Int))) = !true, (decide (c_1 ≥ (65 : Int))) = !true, false = false, (decide (c_1 ≥ (65 : Int))) = false, false = false, false = false, false = false, false = false, (decide (c_1 ≥ (48 : Int))) = true, (decide (c_1 ≥ (48 : Int))) = true, false = false, (decide (c_1 ≥ (48 : Int))) = true, false = false]) (vals := [.int .u8 c_1, .bool (decide (c_1 ≤ (57 : Int)))]) (bxs := []) (by kernel_rfl) hmix ⟨gg_1, gg_1, gg_1, rfl, rfl, rfl, gg_7, gg_7, rfl, gg_7, rfl, rfl, rfl, rfl, gg_10, gg_10, rfl, gg_10, rfl, trivial⟩ ?_
          exact ⟨rfl, (sub_wk [] [] [(0, .int .u8 c_1), (26, .bool (bif decide (c_1 ≥ (97 : Int)) then (decide (c_1 ≤ (122 : Int)) || (bif decide (c_1 ≥ (65 : Int)) then (decide (c_1 ≤ (90 : Int)) || (decide (c_1 ≥ (48 : Int)) && decide (c_1 ≤ (57 : Int)))) else (decide (c_1 ≥ (48 : Int)) && decide (c_1 ≤ (57 : Int))))) else (bif decide (c_1 ≥ (65 : Int)) then (decide (c_1 ≤ (90 : Int)) || (decide (c_1 ≥ (48 : Int)) && decide (c_1 ≤ (57 : Int)))) else (decide (c_1 ≥ (48 : Int)) && decide (c_1 ≤ (57 : Int))))))] [] (vcs := [((.int .u8 c_1 : AV) = .int .u8 c_1 : Prop), ((.bool (decide (c_1 ≤ (57 : Int))) : AV) = .bool (bif decide (c_1 ≥ (97 : Int)) then (decide (c_1 ≤ (122 : Int)) || (bif decide (c_1 ≥ (65 : Int)) then (decide (c_1 ≤ (90 : Int)) || (decide (c_1 ≥ (48 : Int)) && decide (c_1 ≤ (57 : Int)))) else (decide (c_1 ≥ (48 : Int)) && decide (c_1 ≤ (57 : Int))))) else (bif decide (c_1 ≥ (65 : Int)) then (decide (c_1 ≤ (90 : Int)) || (decide (c_1 ≥ (48 : Int)) && decide (c_1 ≤ (57 : Int)))) else (decide (c_1 ≥ (48 : Int)) && decide (c_1 ≤ (57 : Int))))) : Prop)]) (by kernel_rfl) ⟨rfl, (congrArg AV.bool (cfr gg_1 (cfr gg_7 (andt gg_10 rfl)))), trivial⟩)⟩
        · refine aw_region [(3, { g := false }), (4, { g := false }), (5, { b := false }), (10, { g := false }), (11, { g := false }), (12, { b := false }), (13, { b := false }), (18, { g := false }), (19, { g := false }), (20, { b := false }), (21, { b := false })] [0, 26] [] 0 (vcs := [(decide (c_1 ≥ (97 : Int))) = !true, (decide (c_1 ≥ (97 : Int))) = !true, (decide (c_1 ≥ (97 : Int))) = false, false = false, false = false, false = false, (decide (c_1 ≥ (65 : Int))) = !true, (decide (c_1 ≥ (65 : Int))) = !true, false = false, (decide (c_1 ≥ (65 : Int))) = false, false = false, false = false, false = false, false = false, (decide (c_1 ≥ (48 : Int))) = !true, (decide (c_1 ≥ (48 : Int))) = !true, false = false, (decide (c_1 ≥ (48 : Int))) = false, false = false]) (vals := [.int .u8 c_1, .bool false]) (bxs := []) (by kernel_rfl) hmix ⟨gg_1, gg_1, gg_1, rfl, rfl, rfl, gg_7, gg_7, rfl, gg_7, rfl, rfl, rfl, rfl, gg_10, gg_10, rfl, gg_10, rfl, trivial⟩ ?_
          exact ⟨rfl, (sub_wk [] [] [(0, .int .u8 c_1), (26, .bool (bif decide (c_1 ≥ (97 : Int)) then (decide (c_1 ≤ (122 : Int)) || (bif decide (c_1 ≥ (65 : Int)) then (decide (c_1 ≤ (90 : Int)) || (decide (c_1 ≥ (48 : Int)) && decide (c_1 ≤ (57 : Int)))) else (decide (c_1 ≥ (48 : Int)) && decide (c_1 ≤ (57 : Int))))) else (bif decide (c_1 ≥ (65 : Int)) then (decide (c_1 ≤ (90 : Int)) || (decide (c_1 ≥ (48 : Int)) && decide (c_1 ≤ (57 : Int)))) else (decide (c_1 ≥ (48 : Int)) && decide (c_1 ≤ (57 : Int))))))] [] (vcs := [((.int .u8 c_1 : AV) = .int .u8 c_1 : Prop), ((.bool false : AV) = .bool (bif decide (c_1 ≥ (97 : Int)) then (decide (c_1 ≤ (122 : Int)) || (bif decide (c_1 ≥ (65 : Int)) then (decide (c_1 ≤ (90 : Int)) || (decide (c_1 ≥ (48 : Int)) && decide (c_1 ≤ (57 : Int)))) else (decide (c_1 ≥ (48 : Int)) && decide (c_1 ≤ (57 : Int))))) else (bif decide (c_1 ≥ (65 : Int)) then (decide (c_1 ≤ (90 : Int)) || (decide (c_1 ≥ (48 : Int)) && decide (c_1 ≤ (57 : Int)))) else (decide (c_1 ≥ (48 : Int)) && decide (c_1 ≤ (57 : Int))))) : Prop)]) (by kernel_rfl) ⟨rfl, (congrArg AV.bool (cfr gg_1 (cfr gg_7 (andf gg_10)))), trivial⟩)⟩
  refine aw_cond (t := 26) (b := (bif decide (c_1 ≥ (97 : Int)) then (decide (c_1 ≤ (122 : Int)) || (bif decide (c_1 ≥ (65 : Int)) then (decide (c_1 ≤ (90 : Int)) || (decide (c_1 ≥ (48 : Int)) && decide (c_1 ≤ (57 : Int)))) else (decide (c_1 ≥ (48 : Int)) && decide (c_1 ≤ (57 : Int))))) else (bif decide (c_1 ≥ (65 : Int)) then (decide (c_1 ≤ (90 : Int)) || (decide (c_1 ≥ (48 : Int)) && decide (c_1 ≤ (57 : Int)))) else (decide (c_1 ≥ (48 : Int)) && decide (c_1 ≤ (57 : Int)))))) (by kernel_rfl) (by kernel_rfl) ?_ ?_
  · intro g_1; replace h := cond_t g_1 h
    refine aw_seq (by kernel_rfl) ?_
    refine aw_region [] [2] [] 0 (vcs := []) (vals := [.bool true]) (bxs := []) (by kernel_rfl) hmix trivial ?_
    refine aw_ret (by kernel_rfl) ?_
    replace h := Option.some.inj h; subst h
    exact ⟨.inr rfl, Nat.le_of_ble_eq_true rfl, by kernel_rfl⟩
  intro g_1; replace h := cond_f g_1 h
  refine aw_skip (by kernel_rfl) ?_
  refine aw_seq (by kernel_rfl) ?_
  refine aw_region [] [0, 3] [] 0 (vcs := []) (vals := [.int .u8 c_1, .str ([95, 46, 58, 47, 60, 62, 36, 42, 126, 45] : List Int)]) (bxs := []) (by kernel_rfl) hmix trivial ?_
  refine aw_seq (by kernel_rfl) ?_
  refine aw_seq (by kernel_rfl) ?_
  refine aw_region [] [0, 3, 4] [] 0 (vcs := []) (vals := [.int .u8 c_1, .str ([95, 46, 58, 47, 60, 62, 36, 42, 126, 45] : List Int), .int .i64 (0 : Int)]) (bxs := []) (by kernel_rfl) hmix trivial ?_
  obtain ⟨o_1, h_1, h⟩ := bind_some h
  refine aw_conv (K1 := (fun e st' => match o_1 with | (.inl q0) => e = .normal ∧ Sub 0 st' (mk [] [] 0) | (.inr q1) => e = .ret ∧ FinR prog Go.Proofs.Try.f34 0 [] (.bool q1) st')) ?_ ?_
  · replace h := h_1
    refine aw_block (id := 0) (by kernel_rfl) ?_
    refine aw_sub (sub_wk [] [] [(0, .int .u8 c_1), (3, .str ([95, 46, 58, 47, 60, 62, 36, 42, 126, 45] : List Int)), (4, .int .i64 (0 : Int))] [] (vcs := [((.int .u8 c_1 : AV) = .int .u8 c_1 : Prop), ((.str ([95, 46, 58, 47, 60, 62, 36, 42, 126, 45] : List Int) : AV) = .str ([95, 46, 58, 47, 60, 62, 36, 42, 126, 45] : List Int) : Prop), ((.int .i64 (0 : Int) : AV) = .int .i64 (0 : Int) : Prop)]) (by kernel_rfl) ⟨rfl, rfl, rfl, trivial⟩) ?_
    refine aw_loopF (fun n st => ∃ (i_1 : Int), st = mk [(0, .int .u8 c_1), (3, .str ([95, 46, 58, 47, 60, 62, 36, 42, 126, 45] : List Int)), (4, .int .i64 i_1)] [] 0 ∧ R06_letter_L1 F c_1 n i_1 = some o_1) F (by kernel_rfl) ⟨_, rfl, h⟩ ?_ ?_
    · rintro _ ⟨_, _, h⟩; exact none_ne (h : (none : Option (Unit ⊕ Bool)) = some o_1)
    rintro n_1 _ ⟨i_1, rfl, h⟩
    replace h : R06_letter_L1_body F c_1 (R06_letter_L1 F c_1 n_1) i_1 = some o_1 := h
    unfold R06_letter_L1_body at h
    refine aw_seq (by kernel_rfl) ?_
    refine aw_seq (by kernel_rfl) ?_
    refine aw_region [] [0, 3, 4, 30] [] 0 (vcs := []) (vals := [.int .u8 c_1, .str ([95, 46, 58, 47, 60, 62, 36, 42, 126, 45] : List Int), .int .i64 i_1, .bool (decide (i_1 < (((([95, 46, 58, 47, 60, 62, 36, 42, 126, 45] : List Int)).length : Nat) : Int)))]) (bxs := []) (by kernel_rfl) hmix trivial ?_
    refine aw_cond (t := 30) (b := (decide (i_1 < (((([95, 46, 58, 47, 60, 62, 36, 42, 126, 45] : List Int)).length : Nat) : Int)))) (by kernel_rfl) (by kernel_rfl) ?_ ?_
    rotate_left
    · intro g_2; replace h := cond_f g_2 h
      refine aw_exit (id := 0) (by kernel_rfl) ?_
      replace h := Option.some.inj h; subst h
      exact ⟨rfl, (sub_wk [] [] [] [] (vcs := []) (by kernel_rfl) trivial)⟩
    intro g_2; replace h := cond_t g_2 h
    refine aw_skip (by kernel_rfl) ?_
    refine aw_seq (by kernel_rfl) ?_
    refine aw_block (id := 1) (by kernel_rfl) ?_
    refine aw_seq (by kernel_rfl) ?_
    obtain ⟨c_2, h_2, h⟩ := bind_some h
    refine aw_region [(2, { z := c_2 })] [0, 3, 4, 37] [] 0 (vcs := [idxI ([95, 46, 58, 47, 60, 62, 36, 42, 126, 45] : List Int) i_1 = some c_2]) (vals := [.int .u8 c_1, .str ([95, 46, 58, 47, 60, 62, 36, 42, 126, 45] : List Int), .int .i64 i_1, .bool (c_2 == c_1)]) (bxs := []) (by kernel_rfl) hmix ⟨h_2, trivial⟩ ?_
    refine aw_cond (t := 37) (b := (c_2 == c_1)) (by kernel_rfl) (by kernel_rfl) ?_ ?_
    rotate_left
    · intro g_3; replace h := cond_f g_3 h
      refine aw_skip (by kernel_rfl) ?_
      refine aw_region [] [0, 3, 4] [] 0 (vcs := []) (vals := [.int .u8 c_1, .str ([95, 46, 58, 47, 60, 62, 36, 42, 126, 45] : List Int), .int .i64 (w_i64 (i_1 + (1 : Int)))]) (bxs := []) (by kernel_rfl) hmix trivial ?_
      exact ⟨_, (sub_wk [] [] [(0, .int .u8 c_1), (3, .str ([95, 46, 58, 47, 60, 62, 36, 42, 126, 45] : List Int)), (4, .int .i64 (w_i64 (i_1 + (1 : Int))))] [] (vcs := [((.int .u8 c_1 : AV) = .int .u8 c_1 : Prop), ((.str ([95, 46, 58, 47, 60, 62, 36, 42, 126, 45] : List Int) : AV) = .str ([95, 46, 58, 47, 60, 62, 36, 42, 126, 45] : List Int) : Prop), ((.int .i64 (w_i64 (i_1 + (1 : Int))) : AV) = .int .i64 (w_i64 (i_1 + (1 : Int))) : Prop)]) (by kernel_rfl) ⟨rfl, rfl, rfl, trivial⟩), _, rfl, h⟩
    intro g_3; replace h := cond_t g_3 h
    refine aw_seq (by kernel_rfl) ?_
    refine aw_region [] [2] [] 0 (vcs := []) (vals := [.bool true]) (bxs := []) (by kernel_rfl) hmix trivial ?_
    refine aw_ret (by kernel_rfl) ?_
    replace h := Option.some.inj h; subst h
    exact ⟨rfl, Nat.le_of_ble_eq_true rfl, by kernel_rfl⟩
  intro e st1 hk
  rcases o_1 with q_1 | q_2
  rotate_left
  · obtain ⟨rfl, hf⟩ := hk
    replace h := Option.some.inj h; subst h
    exact ⟨st1, Sub.refl _ _, .inr rfl, hf⟩
  obtain ⟨rfl, hs⟩ := hk
  refine ⟨_, hs, ?_⟩
  refine aw_seq (by kernel_rfl) ?_
  refine aw_region [] [2] [] 0 (vcs := []) (vals := [.bool false]) (bxs := []) (by kernel_rfl) hmix trivial ?_
  refine aw_ret (by kernel_rfl) ?_
  replace h := Option.some.inj h; subst h
  exact ⟨.inr rfl, Nat.le_of_ble_eq_true rfl, by kernel_rfl⟩

theorem R06_Name_ok (F : Nat) (s_1 : List Int) (r : Int) (h : R06_Name F s_1 = some r) : Triple prog 32 [] [.str s_1] [] (.int .i64 r) := by
  refine triple_intro (fn := Go.Proofs.Try.f32) (code := codeOf Go.Proofs.Try.f32) (by kernel_rfl) (by kernel_rfl) (Nat.le_of_ble_eq_true (by kernel_rfl)) ?_
  unfold R06_Name at h
  refine aw_seq (by kernel_rfl) ?_
  refine aw_region [] [0] [] 0 (vcs := []) (vals := [.str s_1]) (bxs := []) (by kernel_rfl) hmix trivial ?_
  refine aw_seq (by kernel_rfl) ?_
  refine aw_seq (by kernel_rfl) ?_
  refine aw_mid (mk [(0, .str s_1), (11, .bool (decide ((((s_1).length : Nat) : Int) < (1 : Int)) || decide ((((s_1).length : Nat) : Int) > (40 : Int))))] [] 0) ?_ ?_
  · rcases Bool.eq_false_or_eq_true (decide ((((s_1).length : Nat) : Int) < (1 : Int))) with gg_1 | gg_1
    · refine aw_region [(4, { g := false }), (5, { g := false }), (6, { g := false }), (7, { b := true })] [0, 11] [] 0 (vcs := [(decide ((((s_1).length : Nat) : Int) < (1 : Int))) = !false, (decide ((((s_1).length : Nat) : Int) < (1 : Int))) = !false, (decide ((((s_1).length : Nat) : Int) < (1 : Int))) = !false, (decide ((((s_1).length : Nat) : Int) < (1 : Int))) = true]) (vals := [.str s_1, .bool true]) (bxs := []) (by kernel_rfl) hmix ⟨gg_1, gg_1, gg_1, gg_1, trivial⟩ ?_
      exact ⟨rfl, (sub_wk [] [] [(0, .str s_1), (11, .bool (decide ((((s_1).length : Nat) : Int) < (1 : Int)) || decide ((((s_1).length : Nat) : Int) > (40 : Int))))] [] (vcs := [((.str s_1 : AV) = .str s_1 : Prop), ((.bool true : AV) = .bool (decide ((((s_1).length : Nat) : Int) < (1 : Int)) || decide ((((s_1).length : Nat) : Int) > (40 : Int))) : Prop)]) (by kernel_rfl) ⟨rfl, (congrArg AV.bool (ort gg_1)), trivial⟩)⟩
    · refine aw_region [(7, { b := false })] [0, 11] [] 0 (vcs := [(decide ((((s_1).length : Nat) : Int) < (1 : Int))) = false, (decide ((((s_1).length : Nat) : Int) < (1 : Int))) = false, (decide ((((s_1).length : Nat) : Int) < (1 : Int))) = false, (decide ((((s_1).length : Nat) : Int) < (1 : Int))) = false]) (vals := [.str s_1, .bool (decide ((((s_1).length : Nat) : Int) > (40 : Int)))]) (bxs := []) (by kernel_rfl) hmix ⟨gg_1, gg_1, gg_1, gg_1, trivial⟩ ?_
      exact ⟨rfl, (sub_wk [] [] [(0, .str s_1), (11, .bool (decide ((((s_1).length : Nat) : Int) < (1 : Int)) || decide ((((s_1).length : Nat) : Int) > (40 : Int))))] [] (vcs := [((.str s_1 : AV) = .str s_1 : Prop), ((.bool (decide ((((s_1).length : Nat) : Int) > (40 : Int))) : AV) = .bool (decide ((((s_1).length : Nat) : Int) < (1 : Int)) || decide ((((s_1).length : Nat) : Int) > (40 : Int))) : Prop)]) (by kernel_rfl) ⟨rfl, (congrArg AV.bool (orf gg_1 rfl)), trivial⟩)⟩
  refine aw_cond (t := 11) (b := (decide ((((s_1).length : Nat) : Int) < (1 : Int)) || decide ((((s_1).length : Nat) : Int) > (40 : Int)))) (by kernel_rfl) (by kernel_rfl) ?_ ?_
  · intro g_1; replace h := cond_t g_1 h
    refine aw_seq (by kernel_rfl) ?_
    refine aw_region [] [2] [] 0 (vcs := []) (vals := [.int .i64 (3 : Int)]) (bxs := []) (by kernel_rfl) hmix trivial ?_
    refine aw_ret (by kernel_rfl) ?_
    replace h := Option.some.inj h; subst h
    exact ⟨.inr rfl, Nat.le_of_ble_eq_true rfl, by kernel_rfl⟩
  intro g_1; replace h := cond_f g_1 h
  refine aw_skip (by kernel_rfl) ?_
  refine aw_seq (by kernel_rfl) ?_
  refine aw_seq (by kernel_rfl) ?_
  refine aw_region [] [0, 3] [] 0 (vcs := []) (vals := [.str s_1, .int .i64 (0 : Int)]) (bxs := []) (by kernel_rfl) hmix trivial ?_
  obtain ⟨o_1, h_1, h⟩ := bind_some h
  refine aw_conv (K1 := (fun e st' => match o_1 with | (.inl q0) => e = .normal ∧ Sub 0 st' (mk [] [] 0) | (.inr q1) => e = .ret ∧ FinR prog Go.Proofs.Try.f32 0 [] (.int .i64 q1) st')) ?_ ?_
  · replace h := h_1
    refine aw_block (id := 0) (by kernel_rfl) ?_
    refine aw_sub (sub_wk [] [] [(0, .str s_1), (3, .int .i64 (0 : Int))] [] (vcs := [((.str s_1 : AV) = .str s_1 : Prop), ((.int .i64 (0 : Int) : AV) = .int .i64 (0 : Int) : Prop)]) (by kernel_rfl) ⟨rfl, rfl, trivial⟩) ?_
    refine aw_loopF (fun n st => ∃ (i_1 : Int), st = mk [(0, .str s_1), (3, .int .i64 i_1)] [] 0 ∧ R06_Name_L1 F s_1 n i_1 = some o_1) F (by kernel_rfl) ⟨_, rfl, h⟩ ?_ ?_
    · rintro _ ⟨_, _, h⟩; exact none_ne (h : (none : Option (Unit ⊕ Int)) = some o_1)
    rintro n_1 _ ⟨i_1, rfl, h⟩
    replace h : R06_Name_L1_body F s_1 (R06_Name_L1 F s_1 n_1) i_1 = some o_1 := h
    unfold R06_Name_L1_body at h
    refine aw_seq (by kernel_rfl) ?_
    refine aw_seq (by kernel_rfl) ?_
    refine aw_region [] [0, 3, 15] [] 0 (vcs := []) (vals := [.str s_1, .int .i64 i_1, .bool (decide (i_1 < (((s_1).length : Nat) : Int)))]) (bxs := []) (by kernel_rfl) hmix trivial ?_
    refine aw_cond (t := 15) (b := (decide (i_1 < (((s_1).length : Nat) : Int)))) (by kernel_rfl) (by kernel_rfl) ?_ ?_
    rotate_left
    · intro g_2; replace h := cond_f g_2 h
      refine aw_exit (id := 0) (by kernel_rfl) ?_
      replace h := Option.some.inj h; subst h
      exact ⟨rfl, (sub_wk [] [] [] [] (vcs := []) (by kernel_rfl) trivial)⟩
    intro g_2; replace h := cond_t g_2 h
    refine aw_skip (by kernel_rfl) ?_
    refine aw_seq (by kernel_rfl) ?_
    refine aw_block (id := 1) (by kernel_rfl) ?_
    refine aw_seq (by kernel_rfl) ?_
    obtain ⟨c_1, h_2, h⟩ := bind_some h
    obtain ⟨r_1, h_3, h⟩ := bind_some h
    refine aw_region [(2, { z := c_1 }), (3, { av := .bool r_1, l := [.int .u8 c_1] })] [0, 3, 22] [] 0 (vcs := [idxI s_1 i_1 = some c_1, ([.int .u8 c_1] : List AV) = [.int .u8 c_1], ([] : List BoxSt) = [], Triple prog 34 [] [.int .u8 c_1] [] (.bool r_1)]) (vals := [.str s_1, .int .i64 i_1, .bool (!r_1)]) (bxs := []) (by kernel_rfl) hmix ⟨h_2, rfl, rfl, (R06_letter_ok F c_1 r_1 h_3), trivial⟩ ?_
    refine aw_cond (t := 22) (b := (!r_1)) (by kernel_rfl) (by kernel_rfl) ?_ ?_
    rotate_left
    · intro g_3; replace h := cond_f g_3 h
      refine aw_skip (by kernel_rfl) ?_
      refine aw_region [] [0, 3] [] 0 (vcs := []) (vals := [.str s_1, .int .i64 (w_i64 (i_1 + (1 : Int)))]) (bxs := []) (by kernel_rfl) hmix trivial ?_
      exact ⟨_, (sub_wk [] [] [(0, .str s_1), (3, .int .i64 (w_i64 (i_1 + (1 : Int))))] [] (vcs := [((.str s_1 : AV) = .str s_1 : Prop), ((.int .i64 (w_i64 (i_1 + (1 : Int))) : AV) = .int .i64 (w_i64 (i_1 + (1 : Int))) : Prop)]) (by kernel_rfl) ⟨rfl, rfl, trivial⟩), _, rfl, h⟩
    intro g_3; replace h := cond_t g_3 h
    refine aw_seq (by kernel_rfl) ?_
    refine aw_region [] [2] [] 0 (vcs := []) (vals := [.int .i64 (3 : Int)]) (bxs := []) (by kernel_rfl) hmix trivial ?_
    refine aw_ret (by kernel_rfl) ?_
    replace h := Option.some.inj h; subst h
    exact ⟨rfl, Nat.le_of_ble_eq_true rfl, by kernel_rfl⟩
  intro e st1 hk
  rcases o_1 with q_1 | q_2
  rotate_left
  · obtain ⟨rfl, hf⟩ := hk
    replace h := Option.some.inj h; subst h
    exact ⟨st1, Sub.refl _ _, .inr rfl, hf⟩
  obtain ⟨rfl, hs⟩ := hk
  refine ⟨_, hs, ?_⟩
  refine aw_seq (by kernel_rfl) ?_
  refine aw_region [] [2] [] 0 (vcs := []) (vals := [.int .i64 (0 : Int)]) (bxs := []) (by kernel_rfl) hmix trivial ?_
  refine aw_ret (by kernel_rfl) ?_
  replace h := Option.some.inj h; subst h
  exact ⟨.inr rfl, Nat.le_of_ble_eq_true rfl, by kernel_rfl⟩

theorem R06_Frames_ok (F : Nat) (l_1 : List (List Int)) (r : Int) (h : R06_Frames F l_1 = some r) : Triple prog 27 [] [.sl false 1 (List.map AV.str l_1)] [] (.int .i64 r) := by
  refine triple_intro (fn := Go.Proofs.Try.f27) (code := codeOf Go.Proofs.Try.f27) (by kernel_rfl) (by kernel_rfl) (Nat.le_of_ble_eq_true (by kernel_rfl)) ?_
  unfold R06_Frames at h
  refine aw_seq (by kernel_rfl) ?_
  refine aw_region [] [0] [] 0 (vcs := []) (vals := [.sl false 1 (List.map AV.str l_1)]) (bxs := []) (by kernel_rfl) hmix trivial ?_
  refine aw_seq (by kernel_rfl) ?_
  refine aw_seq (by kernel_rfl) ?_
  refine aw_region [(1, { n := (l_1).length })] [0, 6] [] 0 (vcs := [((List.map AV.str l_1)).length = (l_1).length]) (vals := [.sl false 1 (List.map AV.str l_1), .bool (decide ((((l_1).length : Nat) : Int) > (32 : Int)))]) (bxs := []) (by kernel_rfl) hmix ⟨(vc_len _), trivial⟩ ?_
  refine aw_cond (t := 6) (b := (decide ((((l_1).length : Nat) : Int) > (32 : Int)))) (by kernel_rfl) (by kernel_rfl) ?_ ?_
  · intro g_1; replace h := cond_t g_1 h
    refine aw_seq (by kernel_rfl) ?_
    refine aw_region [] [2] [] 0 (vcs := []) (vals := [.int .i64 (7 : Int)]) (bxs := []) (by kernel_rfl) hmix trivial ?_
    refine aw_ret (by kernel_rfl) ?_
    replace h := Option.some.inj h; subst h
    exact ⟨.inr rfl, Nat.le_of_ble_eq_true rfl, by kernel_rfl⟩
  intro g_1; replace h := cond_f g_1 h
  refine aw_skip (by kernel_rfl) ?_
  refine aw_seq (by kernel_rfl) ?_
  refine aw_seq (by kernel_rfl) ?_
  refine aw_region [] [0, 3] [] 0 (vcs := []) (vals := [.sl false 1 (List.map AV.str l_1), .int .i64 (0 : Int)]) (bxs := []) (by kernel_rfl) hmix trivial ?_
  obtain ⟨o_1, h_1, h⟩ := bind_some h
  refine aw_conv (K1 := (fun e st' => match o_1 with | (.inl q0) => e = .normal ∧ Sub 0 st' (mk [] [] 0) | (.inr q1) => e = .ret ∧ FinR prog Go.Proofs.Try.f27 0 [] (.int .i64 q1) st')) ?_ ?_
  · replace h := h_1
    refine aw_block (id := 0) (by kernel_rfl) ?_
    refine aw_sub (sub_wk [] [] [(0, .sl false 1 (List.map AV.str l_1)), (3, .int .i64 (0 : Int))] [] (vcs := [(1 = 1 : Prop), ((List.map AV.str l_1) = (List.map AV.str l_1) : Prop), ((!false || false) = true : Prop), ((.int .i64 (0 : Int) : AV) = .int .i64 (0 : Int) : Prop)]) (by kernel_rfl) ⟨rfl, rfl, rfl, rfl, trivial⟩) ?_
    refine aw_loopF (fun n st => ∃ (i_1 : Int), st = mk [(0, .sl false 1 (List.map AV.str l_1)), (3, .int .i64 i_1)] [] 0 ∧ R06_Frames_L1 F l_1 n i_1 = some o_1) F (by kernel_rfl) ⟨_, rfl, h⟩ ?_ ?_
    · rintro _ ⟨_, _, h⟩; exact none_ne (h : (none : Option (Unit ⊕ Int)) = some o_1)
    rintro n_1 _ ⟨i_1, rfl, h⟩
    replace h : R06_Frames_L1_body F l_1 (R06_Frames_L1 F l_1 n_1) i_1 = some o_1 := h
    unfold R06_Frames_L1_body at h
    refine aw_seq (by kernel_rfl) ?_
    refine aw_seq (by kernel_rfl) ?_
    refine aw_region [(2, { n := (l_1).length })] [0, 3, 10] [] 0 (vcs := [((List.map AV.str l_1)).length = (l_1).length]) (vals := [.sl false 1 (List.map AV.str l_1), .int .i64 i_1, .bool (decide (i_1 < (((l_1).length : Nat) : Int)))]) (bxs := []) (by kernel_rfl) hmix ⟨(vc_len _), trivial⟩ ?_
    refine aw_cond (t := 10) (b := (decide (i_1 < (((l_1).length : Nat) : Int)))) (by kernel_rfl) (by kernel_rfl) ?_ ?_
    rotate_left
    · intro g_2; replace h := cond_f g_2 h
      refine aw_exit (id := 0) (by kernel_rfl) ?_
      replace h := Option.some.inj h; subst h
      exact ⟨rfl, (sub_wk [] [] [] [] (vcs := []) (by kernel_rfl) trivial)⟩
    intro g_2; replace h := cond_t g_2 h
    refine aw_skip (by kernel_rfl) ?_
    refine aw_seq (by kernel_rfl) ?_
    refine aw_block (id := 1) (by kernel_rfl) ?_
    refine aw_seq (by kernel_rfl) ?_
    obtain ⟨x_1, h_2, h⟩ := bind_some h
    obtain ⟨r_1, h_3, h⟩ := bind_some h
    refine aw_region [(2, { av := .str x_1 }), (4, { av := .int .i64 r_1, l := [.str x_1] })] [0, 3, 18] [] 0 (vcs := [idxA (List.map AV.str l_1) i_1 = some (.str x_1), ([.str x_1] : List AV) = [.str x_1], ([] : List BoxSt) = [], Triple prog 32 [] [.str x_1] [] (.int .i64 r_1)]) (vals := [.sl false 1 (List.map AV.str l_1), .int .i64 i_1, .bool (r_1 != (0 : Int))]) (bxs := []) (by kernel_rfl) hmix ⟨(vc_idx h_2), rfl, rfl, (R06_Name_ok F x_1 r_1 h_3), trivial⟩ ?_
    refine aw_cond (t := 18) (b := (r_1 != (0 : Int))) (by kernel_rfl) (by kernel_rfl) ?_ ?_
    rotate_left
    · intro g_3; replace h := cond_f g_3 h
      refine aw_skip (by kernel_rfl) ?_
      refine aw_region [] [0, 3] [] 0 (vcs := []) (vals := [.sl false 1 (List.map AV.str l_1), .int .i64 (w_i64 (i_1 + (1 : Int)))]) (bxs := []) (by kernel_rfl) hmix trivial ?_
      exact ⟨_, (sub_wk [] [] [(0, .sl false 1 (List.map AV.str l_1)), (3, .int .i64 (w_i64 (i_1 + (1 : Int))))] [] (vcs := [(1 = 1 : Prop), ((List.map AV.str l_1) = (List.map AV.str l_1) : Prop), ((!false || false) = true : Prop), ((.int .i64 (w_i64 (i_1 + (1 : Int))) : AV) = .int .i64 (w_i64 (i_1 + (1 : Int))) : Prop)]) (by kernel_rfl) ⟨rfl, rfl, rfl, rfl, trivial⟩), _, rfl, h⟩
    intro g_3; replace h := cond_t g_3 h
    refine aw_seq (by kernel_rfl) ?_
    refine aw_region [] [2] [] 0 (vcs := []) (vals := [.int .i64 (3 : Int)]) (bxs := []) (by kernel_rfl) hmix trivial ?_
    refine aw_ret (by kernel_rfl) ?_
    replace h := Option.some.inj h; subst h
    exact ⟨rfl, Nat.le_of_ble_eq_true rfl, by kernel_rfl⟩
  intro e st1 hk
  rcases o_1 with q_1 | q_2
  rotate_left
  · obtain ⟨rfl, hf⟩ := hk
    replace h := Option.some.inj h; subst h
    exact ⟨st1, Sub.refl _ _, .inr rfl, hf⟩
  obtain ⟨rfl, hs⟩ := hk
  refine ⟨_, hs, ?_⟩
  refine aw_seq (by kernel_rfl) ?_
  refine aw_region [] [2] [] 0 (vcs := []) (vals := [.int .i64 (0 : Int)]) (bxs := []) (by kernel_rfl) hmix trivial ?_
  refine aw_ret (by kernel_rfl) ?_
  replace h := Option.some.inj h; subst h
  exact ⟨.inr rfl, Nat.le_of_ble_eq_true rfl, by kernel_rfl⟩

theorem R29_Check_ok (F : Nat) (l_1 : List (T_api_Sample)) (r : Int) (h : R29_Check F l_1 = some r) : Triple prog 15 [] [.sl false 4 (List.map e_T_api_Sample l_1)] [] (.int .i64 r) := by
  refine triple_intro (fn := Go.Proofs.Try.f15) (code := codeOf Go.Proofs.Try.f15) (by kernel_rfl) (by kernel_rfl) (Nat.le_of_ble_eq_true (by kernel_rfl)) ?_
  unfold R29_Check at h
  refine aw_seq (by kernel_rfl) ?_
  refine aw_region [] [0] [] 0 (vcs := []) (vals := [.sl false 4 (List.map e_T_api_Sample l_1)]) (bxs := []) (by kernel_rfl) hmix trivial ?_
  refine aw_seq (by kernel_rfl) ?_
  refine aw_seq (by kernel_rfl) ?_
  refine aw_region [] [0, 3] [] 0 (vcs := []) (vals := [.sl false 4 (List.map e_T_api_Sample l_1), .int .i64 (0 : Int)]) (bxs := []) (by kernel_rfl) hmix trivial ?_
  obtain ⟨o_1, h_1, h⟩ := bind_some h
  refine aw_conv (K1 := (fun e st' => match o_1 with | (.inl q0) => e = .normal ∧ Sub 0 st' (mk [] [] 0) | (.inr q1) => e = .ret ∧ FinR prog Go.Proofs.Try.f15 0 [] (.int .i64 q1) st')) ?_ ?_
  · replace h := h_1
    refine aw_block (id := 0) (by kernel_rfl) ?_
    refine aw_sub (sub_wk [] [] [(0, .sl false 4 (List.map e_T_api_Sample l_1)), (3, .int .i64 (0 : Int))] [] (vcs := [(4 = 4 : Prop), ((List.map e_T_api_Sample l_1) = (List.map e_T_api_Sample l_1) : Prop), ((!false || false) = true : Prop), ((.int .i64 (0 : Int) : AV) = .int .i64 (0 : Int) : Prop)]) (by kernel_rfl) ⟨rfl, rfl, rfl, rfl, trivial⟩) ?_
    refine aw_loopF (fun n st => ∃ (i_1 : Int), st = mk [(0, .sl false 4 (List.map e_T_api_Sample l_1)), (3, .int .i64 i_1)] [] 0 ∧ R29_Check_L1 F l_1 n i_1 = some o_1) F (by kernel_rfl) ⟨_, rfl, h⟩ ?_ ?_
    · rintro _ ⟨_, _, h⟩; exact none_ne (h : (none : Option (Unit ⊕ Int)) = some o_1)
    rintro n_1 _ ⟨i_1, rfl, h⟩
    replace h : R29_Check_L1_body F l_1 (R29_Check_L1 F l_1 n_1) i_1 = some o_1 := h
    unfold R29_Check_L1_body at h
    refine aw_seq (by kernel_rfl) ?_
    refine aw_seq (by kernel_rfl) ?_
    refine aw_region [(2, { n := (l_1).length })] [0, 3, 8] [] 0 (vcs := [((List.map e_T_api_Sample l_1)).length = (l_1).length]) (vals := [.sl false 4 (List.map e_T_api_Sample l_1), .int .i64 i_1, .bool (decide (i_1 < (((l_1).length : Nat) : Int)))]) (bxs := []) (by kernel_rfl) hmix ⟨(vc_len _), trivial⟩ ?_
    refine aw_cond (t := 8) (b := (decide (i_1 < (((l_1).length : Nat) : Int)))) (by kernel_rfl) (by kernel_rfl) ?_ ?_
    rotate_left
    · intro g_1; replace h := cond_f g_1 h
      refine aw_exit (id := 0) (by kernel_rfl) ?_
      replace h := Option.some.inj h; subst h
      exact ⟨rfl, (sub_wk [] [] [] [] (vcs := []) (by kernel_rfl) trivial)⟩
    intro g_1; replace h := cond_t g_1 h
    refine aw_skip (by kernel_rfl) ?_
    refine aw_seq (by kernel_rfl) ?_
    refine aw_block (id := 1) (by kernel_rfl) ?_
    refine aw_seq (by kernel_rfl) ?_
    refine aw_seq (by kernel_rfl) ?_
    obtain ⟨x_1, h_2, h⟩ := bind_some h
    obtain ⟨r_1, h_3, h⟩ := bind_some h
    refine aw_region [(2, { av := .agg [.int .i64 x_1.Thread, .int .i64 x_1.At, .int .i64 x_1.Weight, .sl false 1 (List.map AV.str x_1.Stack)] }), (4, { av := .bool r_1, l := [.agg [.int .i64 x_1.Thread, .int .i64 x_1.At, .int .i64 x_1.Weight, .sl false 1 (List.map AV.str x_1.Stack)]] })] [0, 3, 16] [] 0 (vcs := [idxA (List.map e_T_api_Sample l_1) i_1 = some (.agg [.int .i64 x_1.Thread, .int .i64 x_1.At, .int .i64 x_1.Weight, .sl false 1 (List.map AV.str x_1.Stack)]), ([.agg [.int .i64 x_1.Thread, .int .i64 x_1.At, .int .i64 x_1.Weight, .sl false 1 (List.map AV.str x_1.Stack)]] : List AV) = [.agg [.int .i64 x_1.Thread, .int .i64 x_1.At, .int .i64 x_1.Weight, .sl false 1 (List.map AV.str x_1.Stack)]], ([] : List BoxSt) = [], Triple prog 26 [] [.agg [.int .i64 x_1.Thread, .int .i64 x_1.At, .int .i64 x_1.Weight, .sl false 1 (List.map AV.str x_1.Stack)]] [] (.bool r_1)]) (vals := [.sl false 4 (List.map e_T_api_Sample l_1), .int .i64 i_1, .bool (!r_1)]) (bxs := []) (by kernel_rfl) hmix ⟨(vc_idx h_2), rfl, rfl, (R29_inRange_ok x_1 r_1 h_3), trivial⟩ ?_
    refine aw_cond (t := 16) (b := (!r_1)) (by kernel_rfl) (by kernel_rfl) ?_ ?_
    · intro g_2; replace h := cond_t g_2 h
      refine aw_seq (by kernel_rfl) ?_
      refine aw_region [] [2] [] 0 (vcs := []) (vals := [.int .i64 (2 : Int)]) (bxs := []) (by kernel_rfl) hmix trivial ?_
      refine aw_ret (by kernel_rfl) ?_
      replace h := Option.some.inj h; subst h
      exact ⟨rfl, Nat.le_of_ble_eq_true rfl, by kernel_rfl⟩
    intro g_2; replace h := cond_f g_2 h
    refine aw_skip (by kernel_rfl) ?_
    refine aw_seq (by kernel_rfl) ?_
    obtain ⟨x_2, h_4, h⟩ := bind_some h
    obtain ⟨r_2, h_5, h⟩ := bind_some h
    refine aw_region [(2, { av := .agg [.int .i64 x_2.Thread, .int .i64 x_2.At, .int .i64 x_2.Weight, .sl false 1 (List.map AV.str x_2.Stack)] }), (5, { av := .int .i64 r_2, l := [.sl false 1 (List.map AV.str x_2.Stack)] })] [0, 3, 4] [] 0 (vcs := [idxA (List.map e_T_api_Sample l_1) i_1 = some (.agg [.int .i64 x_2.Thread, .int .i64 x_2.At, .int .i64 x_2.Weight, .sl false 1 (List.map AV.str x_2.Stack)]), ([.sl false 1 (List.map AV.str x_2.Stack)] : List AV) = [.sl false 1 (List.map AV.str x_2.Stack)], ([] : List BoxSt) = [], Triple prog 27 [] [.sl false 1 (List.map AV.str x_2.Stack)] [] (.int .i64 r_2)]) (vals := [.sl false 4 (List.map e_T_api_Sample l_1), .int .i64 i_1, .int .i64 r_2]) (bxs := []) (by kernel_rfl) hmix ⟨(vc_idx h_4), rfl, rfl, (R06_Frames_ok F x_2.Stack r_2 h_5), trivial⟩ ?_
    refine aw_seq (by kernel_rfl) ?_
    refine aw_seq (by kernel_rfl) ?_
    refine aw_region [] [0, 3, 4, 24] [] 0 (vcs := []) (vals := [.sl false 4 (List.map e_T_api_Sample l_1), .int .i64 i_1, .int .i64 r_2, .bool (r_2 != (0 : Int))]) (bxs := []) (by kernel_rfl) hmix trivial ?_
    refine aw_cond (t := 24) (b := (r_2 != (0 : Int))) (by kernel_rfl) (by kernel_rfl) ?_ ?_
    · intro g_3; replace h := cond_t g_3 h
      refine aw_seq (by kernel_rfl) ?_
      refine aw_region [] [2] [] 0 (vcs := []) (vals := [.int .i64 r_2]) (bxs := []) (by kernel_rfl) hmix trivial ?_
      refine aw_ret (by kernel_rfl) ?_
      replace h := Option.some.inj h; subst h
      exact ⟨rfl, Nat.le_of_ble_eq_true rfl, by kernel_rfl⟩
    intro g_3; replace h := cond_f g_3 h
    refine aw_skip (by kernel_rfl) ?_
    refine aw_seq (by kernel_rfl) ?_
    obtain ⟨p_1, h_8, h⟩ := bind_some h
    refine aw_mid (mk [(0, .sl false 4 (List.map e_T_api_Sample l_1)), (3, .int .i64 i_1), (41, .bool p_1)] [] 0) ?_ ?_
    · replace h := h_8
      rcases Bool.eq_false_or_eq_true (decide (i_1 > (0 : Int))) with gg_4 | gg_4
      · replace h := cond_t gg_4 h
        obtain ⟨x_3, h_6, h⟩ := bind_some h
        obtain ⟨x_4, h_7, h⟩ := bind_some h
        refine aw_region [(5, { av := .agg [.int .i64 x_3.Thread, .int .i64 x_3.At, .int .i64 x_3.Weight, .sl false 1 (List.map AV.str x_3.Stack)] }), (11, { av := .agg [.int .i64 x_4.Thread, .int .i64 x_4.At, .int .i64 x_4.Weight, .sl false 1 (List.map AV.str x_4.Stack)] }), (15, { b := true })] [0, 3, 29, 30, 31, 32, 33, 34, 35, 36, 37, 38, 39, 40, 41] [] 0 (vcs := [(decide (i_1 > (0 : Int))) = true, (decide (i_1 > (0 : Int))) = true, (decide (i_1 > (0 : Int))) = true, idxA (List.map e_T_api_Sample l_1) i_1 = some (.agg [.int .i64 x_3.Thread, .int .i64 x_3.At, .int .i64 x_3.Weight, .sl false 1 (List.map AV.str x_3.Stack)]), (decide (i_1 > (0 : Int))) = true, (decide (i_1 > (0 : Int))) = true, (decide (i_1 > (0 : Int))) = true, (decide (i_1 > (0 : Int))) = true, (decide (i_1 > (0 : Int))) = true, (decide (i_1 > (0 : Int))) = true, idxA (List.map e_T_api_Sample l_1) (w_i64 (i_1 - (1 : Int))) = some (.agg [.int .i64 x_4.Thread, .int .i64 x_4.At, .int .i64 x_4.Weight, .sl false 1 (List.map AV.str x_4.Stack)]), (decide (i_1 > (0 : Int))) = true, (decide (i_1 > (0 : Int))) = true, (decide (i_1 > (0 : Int))) = true, (decide (i_1 > (0 : Int))) = true]) (vals := [.sl false 4 (List.map e_T_api_Sample l_1), .int .i64 i_1, .sl false 4 (List.map e_T_api_Sample l_1), .int .i64 i_1, .ref (.agg [.int .i64 x_3.Thread, .int .i64 x_3.At, .int .i64 x_3.Weight, .sl false 1 (List.map AV.str x_3.Stack)]), .ref (.int .i64 x_3.At), .int .i64 x_3.At, .sl false 4 (List.map e_T_api_Sample l_1), .int .i64 i_1, .int .i64 (w_i64 (i_1 - (1 : Int))), .ref (.agg [.int .i64 x_4.Thread, .int .i64 x_4.At, .int .i64 x_4.Weight, .sl false 1 (List.map AV.str x_4.Stack)]), .ref (.int .i64 x_4.At), .int .i64 x_4.At, .bool (decide (x_3.At < x_4.At)), .bool (decide (x_3.At < x_4.At))]) (bxs := []) (by kernel_rfl) hmix ⟨gg_4, gg_4, gg_4, (vc_idx h_6), gg_4, gg_4, gg_4, gg_4, gg_4, gg_4, (vc_idx h_7), gg_4, gg_4, gg_4, gg_4, trivial⟩ ?_
        replace h := Option.some.inj h; subst h
        exact ⟨rfl, (sub_wk [] [] [(0, .sl false 4 (List.map e_T_api_Sample l_1)), (3, .int .i64 i_1), (41, .bool (decide (x_3.At < x_4.At)))] [] (vcs := [(4 = 4 : Prop), ((List.map e_T_api_Sample l_1) = (List.map e_T_api_Sample l_1) : Prop), ((!false || false) = true : Prop), ((.int .i64 i_1 : AV) = .int .i64 i_1 : Prop), ((.bool (decide (x_3.At < x_4.At)) : AV) = .bool (decide (x_3.At < x_4.At)) : Prop)]) (by kernel_rfl) ⟨rfl, rfl, rfl, rfl, rfl, trivial⟩)⟩
      · replace h := cond_f gg_4 h
        refine aw_region [(3, { g := false }), (4, { g := false }), (5, { g := false }), (6, { g := false }), (7, { g := false }), (8, { g := false }), (9, { g := false }), (10, { g := false }), (11, { g := false }), (12, { g := false }), (13, { g := false }), (14, { g := false }), (15, { b := false })] [0, 3, 29, 30, 31, 32, 33, 34, 35, 36, 37, 38, 39, 40, 41] [] 0 (vcs := [(decide (i_1 > (0 : Int))) = !true, (decide (i_1 > (0 : Int))) = !true, (decide (i_1 > (0 : Int))) = !true, (decide (i_1 > (0 : Int))) = !true, (decide (i_1 > (0 : Int))) = !true, (decide (i_1 > (0 : Int))) = !true, (decide (i_1 > (0 : Int))) = !true, (decide (i_1 > (0 : Int))) = !true, (decide (i_1 > (0 : Int))) = !true, (decide (i_1 > (0 : Int))) = !true, (decide (i_1 > (0 : Int))) = !true, (decide (i_1 > (0 : Int))) = !true, (decide (i_1 > (0 : Int))) = false]) (vals := [.sl false 4 (List.map e_T_api_Sample l_1), .int .i64 i_1, .tuple [], .tuple [], .tuple [], .tuple [], .tuple [], .tuple [], .tuple [], .tuple [], .tuple [], .tuple [], .tuple [], .tuple [], .bool false]) (bxs := []) (by kernel_rfl) hmix ⟨gg_4, gg_4, gg_4, gg_4, gg_4, gg_4, gg_4, gg_4, gg_4, gg_4, gg_4, gg_4, gg_4, trivial⟩ ?_
        replace h := Option.some.inj h; subst h
        exact ⟨rfl, (sub_wk [] [] [(0, .sl false 4 (List.map e_T_api_Sample l_1)), (3, .int .i64 i_1), (41, .bool false)] [] (vcs := [(4 = 4 : Prop), ((List.map e_T_api_Sample l_1) = (List.map e_T_api_Sample l_1) : Prop), ((!false || false) = true : Prop), ((.int .i64 i_1 : AV) = .int .i64 i_1 : Prop), ((.bool false : AV) = .bool false : Prop)]) (by kernel_rfl) ⟨rfl, rfl, rfl, rfl, rfl, trivial⟩)⟩
    refine aw_cond (t := 41) (b := p_1) (by kernel_rfl) (by kernel_rfl) ?_ ?_
    rotate_left
    · intro g_4; replace h := cond_f g_4 h
      refine aw_skip (by kernel_rfl) ?_
      refine aw_region [] [0, 3] [] 0 (vcs := []) (vals := [.sl false 4 (List.map e_T_api_Sample l_1), .int .i64 (w_i64 (i_1 + (1 : Int)))]) (bxs := []) (by kernel_rfl) hmix trivial ?_
      exact ⟨_, (sub_wk [] [] [(0, .sl false 4 (List.map e_T_api_Sample l_1)), (3, .int .i64 (w_i64 (i_1 + (1 : Int))))] [] (vcs := [(4 = 4 : Prop), ((List.map e_T_api_Sample l_1) = (List.map e_T_api_Sample l_1) : Prop), ((!false || false) = true : Prop), ((.int .i64 (w_i64 (i_1 + (1 : Int))) : AV) = .int .i64 (w_i64 (i_1 + (1 : Int))) : Prop)]) (by kernel_rfl) ⟨rfl, rfl, rfl, rfl, trivial⟩), _, rfl, h⟩
    intro g_4; replace h := cond_t g_4 h
    refine aw_seq (by kernel_rfl) ?_
    refine aw_region [] [2] [] 0 (vcs := []) (vals := [.int .i64 (11 : Int)]) (bxs := []) (by kernel_rfl) hmix trivial ?_
    refine aw_ret (by kernel_rfl) ?_
    replace h := Option.some.inj h; subst h
    exact ⟨rfl, Nat.le_of_ble_eq_true rfl, by kernel_rfl⟩
  intro e st1 hk
  rcases o_1 with q_1 | q_2
  rotate_left
  · obtain ⟨rfl, hf⟩ := hk
    replace h := Option.some.inj h; subst h
    exact ⟨st1, Sub.refl _ _, .inr rfl, hf⟩
  obtain ⟨rfl, hs⟩ := hk
  refine ⟨_, hs, ?_⟩
  refine aw_seq (by kernel_rfl) ?_
  refine aw_region [] [2] [] 0 (vcs := []) (vals := [.int .i64 (0 : Int)]) (bxs := []) (by kernel_rfl) hmix trivial ?_
  refine aw_ret (by kernel_rfl) ?_
  replace h := Option.some.inj h; subst h
  exact ⟨.inr rfl, Nat.le_of_ble_eq_true rfl, by kernel_rfl⟩

theorem R29_Within_ok (F : Nat) (l_1 : List (T_api_Sample)) (s_1 : T_api_Span) (r : (List (T_api_Sample))) (h : R29_Within F l_1 s_1 = some r) : Triple prog 17 [] [.sl false 4 (List.map e_T_api_Sample l_1), .agg [.int .i64 s_1.From, .int .i64 s_1.To]] [.row 42 4 (List.map e_T_api_Sample r)] (.own 0 ((r).length)) := by
  refine triple_intro (fn := Go.Proofs.Try.f17) (code := codeOf Go.Proofs.Try.f17) (by kernel_rfl) (by kernel_rfl) (Nat.le_of_ble_eq_true (by kernel_rfl)) ?_
  unfold R29_Within at h
  refine aw_seq (by kernel_rfl) ?_
  refine aw_region [(0, { id := 0 }), (1, { id := 1, m := 1 })] [0, 3] [0] 2 (vcs := []) (vals := [.sl false 4 (List.map e_T_api_Sample l_1), .ptr 0 0 0 0]) (bxs := [.live (.var 44 [.int .i64 s_1.From, .int .i64 s_1.To])]) (by kernel_rfl) hmix trivial ?_
  refine aw_seq (by kernel_rfl) ?_
  refine aw_region [(0, { id := 2, m := 1 })] [0, 3, 5] [0, 2] 3 (vcs := []) (vals := [.sl false 4 (List.map e_T_api_Sample l_1), .ptr 0 0 0 0, .own 2 0]) (bxs := [.live (.var 44 [.int .i64 s_1.From, .int .i64 s_1.To]), .live (.row 42 4 [])]) (by kernel_rfl) hmix trivial ?_
  refine aw_seq (by kernel_rfl) ?_
  refine aw_seq (by kernel_rfl) ?_
  refine aw_region [] [0, 3, 5, 6] [0, 2] 3 (vcs := []) (vals := [.sl false 4 (List.map e_T_api_Sample l_1), .ptr 0 0 0 0, .own 2 0, .int .i64 (0 : Int)]) (bxs := [.live (.var 44 [.int .i64 s_1.From, .int .i64 s_1.To]), .live (.row 42 4 [])]) (by kernel_rfl) hmix trivial ?_
  obtain ⟨o_1, h_1, h⟩ := bind_some h
  refine aw_mid (mk [(5, .own 0 ((o_1).length))] [(0, .live (.row 42 4 (List.map e_T_api_Sample o_1)))] 1) ?_ ?_
  · replace h := h_1
    refine aw_block (id := 0) (by kernel_rfl) ?_
    refine aw_sub (sub_wk [0, 2] [] [(0, .sl false 4 (List.map e_T_api_Sample l_1)), (3, .ptr 0 0 0 0), (5, .own 1 0), (6, .int .i64 (0 : Int))] [(0, .live (.var 44 [.int .i64 s_1.From, .int .i64 s_1.To])), (1, .live (.row 42 4 []))] (vcs := [(4 = 4 : Prop), ((List.map e_T_api_Sample l_1) = (List.map e_T_api_Sample l_1) : Prop), ((!false || false) = true : Prop), ((.ptr 0 0 0 0 : AV) = .ptr 0 0 0 0 : Prop), ((.own 2 0 : AV) = .own 2 0 : Prop), ((.int .i64 (0 : Int) : AV) = .int .i64 (0 : Int) : Prop), (44 = 44 : Prop), (ones [.int .i64 s_1.From, .int .i64 s_1.To] = true : Prop), ((.int .i64 s_1.From : AV) = .int .i64 s_1.From : Prop), ((.int .i64 s_1.To : AV) = .int .i64 s_1.To : Prop), (42 = 42 : Prop), (4 = 4 : Prop), (([] : List AV) = [] : Prop)]) (by kernel_rfl) ⟨rfl, rfl, rfl, rfl, rfl, rfl, rfl, rfl, rfl, rfl, rfl, rfl, rfl, trivial⟩) ?_
    refine aw_loopF (fun n st => ∃ (i_1 : Int), ∃ (row_1 : List T_api_Sample), st = mk [(0, .sl false 4 (List.map e_T_api_Sample l_1)), (3, .ptr 0 0 0 0), (5, .own 1 ((row_1).length)), (6, .int .i64 i_1)] [(0, .live (.var 44 [.int .i64 s_1.From, .int .i64 s_1.To])), (1, .live (.row 42 4 (List.map e_T_api_Sample row_1)))] 2 ∧ R29_Within_L1 F l_1 s_1 n i_1 row_1 = some o_1) F (by kernel_rfl) ⟨_, _, rfl, h⟩ ?_ ?_
    · rintro _ ⟨_, _, _, h⟩; exact none_ne (h : (none : Option (List T_api_Sample)) = some o_1)
    rintro n_1 _ ⟨i_1, row_1, rfl, h⟩
    replace h : R29_Within_L1_body F l_1 s_1 (R29_Within_L1 F l_1 s_1 n_1) i_1 row_1 = some o_1 := h
    unfold R29_Within_L1_body at h
    refine aw_seq (by kernel_rfl) ?_
    refine aw_seq (by kernel_rfl) ?_
    refine aw_region [(2, { n := (l_1).length })] [0, 3, 5, 6, 10] [0, 1] 2 (vcs := [((List.map e_T_api_Sample l_1)).length = (l_1).length]) (vals := [.sl false 4 (List.map e_T_api_Sample l_1), .ptr 0 0 0 0, .own 1 ((row_1).length), .int .i64 i_1, .bool (decide (i_1 < (((l_1).length : Nat) : Int)))]) (bxs := [.live (.var 44 [.int .i64 s_1.From, .int .i64 s_1.To]), .live (.row 42 4 (List.map e_T_api_Sample row_1))]) (by kernel_rfl) hmix ⟨(vc_len _), trivial⟩ ?_
    refine aw_cond (t := 10) (b := (decide (i_1 < (((l_1).length : Nat) : Int)))) (by kernel_rfl) (by kernel_rfl) ?_ ?_
    rotate_left
    · intro g_1; replace h := cond_f g_1 h
      refine aw_exit (id := 0) (by kernel_rfl) ?_
      replace h := Option.some.inj h; subst h
      exact ⟨rfl, (sub_wk [1] [] [(5, .own 0 ((row_1).length))] [(0, .live (.row 42 4 (List.map e_T_api_Sample row_1)))] (vcs := [((.own 1 ((row_1).length) : AV) = .own 1 ((row_1).length) : Prop), (42 = 42 : Prop), (4 = 4 : Prop), (((List.map e_T_api_Sample row_1) : List AV) = (List.map e_T_api_Sample row_1) : Prop)]) (by kernel_rfl) ⟨rfl, rfl, rfl, rfl, trivial⟩)⟩
    intro g_1; replace h := cond_t g_1 h
    refine aw_skip (by kernel_rfl) ?_
    refine aw_seq (by kernel_rfl) ?_
    obtain ⟨o_2, h_2, h⟩ := bind_some h
    refine aw_mid (mk [(0, .sl false 4 (List.map e_T_api_Sample l_1)), (3, .ptr 0 0 0 0), (5, .own 1 ((o_2).length)), (6, .int .i64 i_1)] [(0, .live (.var 44 [.int .i64 s_1.From, .int .i64 s_1.To])), (1, .live (.row 42 4 (List.map e_T_api_Sample o_2)))] 2) ?_ ?_
    · replace h := h_2
      refine aw_block (id := 1) (by kernel_rfl) ?_
      refine aw_seq (by kernel_rfl) ?_
      obtain ⟨p_1, h_5, h⟩ := bind_some h
      refine aw_mid (mk [(0, .sl false 4 (List.map e_T_api_Sample l_1)), (3, .ptr 0 0 0 0), (5, .own 1 ((row_1).length)), (6, .int .i64 i_1), (30, .bool p_1)] [(0, .live (.var 44 [.int .i64 s_1.From, .int .i64 s_1.To])), (1, .live (.row 42 4 (List.map e_T_api_Sample row_1)))] 2) ?_ ?_
      · replace h := h_5
        obtain ⟨x_1, h_3, h⟩ := bind_some h
        rcases Bool.eq_false_or_eq_true (decide (s_1.From ≤ x_1.At)) with gg_10 | gg_10
        · replace h := cond_t gg_10 h
          obtain ⟨x_2, h_4, h⟩ := bind_some h
          refine aw_region [(4, { av := .agg [.int .i64 x_1.Thread, .int .i64 x_1.At, .int .i64 x_1.Weight, .sl false 1 (List.map AV.str x_1.Stack)] }), (11, { av := .agg [.int .i64 x_2.Thread, .int .i64 x_2.At, .int .i64 x_2.Weight, .sl false 1 (List.map AV.str x_2.Stack)] }), (17, { b := true })] [0, 3, 5, 6, 22, 23, 24, 25, 26, 27, 28, 29, 30] [0, 1] 2 (vcs := [idxA (List.map e_T_api_Sample l_1) i_1 = some (.agg [.int .i64 x_1.Thread, .int .i64 x_1.At, .int .i64 x_1.Weight, .sl false 1 (List.map AV.str x_1.Stack)]), (decide (s_1.From ≤ x_1.At)) = true, (decide (s_1.From ≤ x_1.At)) = true, (decide (s_1.From ≤ x_1.At)) = true, idxA (List.map e_T_api_Sample l_1) i_1 = some (.agg [.int .i64 x_2.Thread, .int .i64 x_2.At, .int .i64 x_2.Weight, .sl false 1 (List.map AV.str x_2.Stack)]), (decide (s_1.From ≤ x_1.At)) = true, (decide (s_1.From ≤ x_1.At)) = true, (decide (s_1.From ≤ x_1.At)) = true, (decide (s_1.From ≤ x_1.At)) = true, (decide (s_1.From ≤ x_1.At)) = true, (decide (s_1.From ≤ x_1.At)) = true]) (vals := [.sl false 4 (List.map e_T_api_Sample l_1), .ptr 0 0 0 0, .own 1 ((row_1).length), .int .i64 i_1, .sl false 4 (List.map e_T_api_Sample l_1), .int .i64 i_1, .ref (.agg [.int .i64 x_2.Thread, .int .i64 x_2.At, .int .i64 x_2.Weight, .sl false 1 (List.map AV.str x_2.Stack)]), .ref (.int .i64 x_2.At), .int .i64 x_2.At, .ptr 0 0 0 1, .int .i64 s_1.To, .bool (decide (x_2.At < s_1.To)), .bool (decide (x_2.At < s_1.To))]) (bxs := [.live (.var 44 [.int .i64 s_1.From, .int .i64 s_1.To]), .live (.row 42 4 (List.map e_T_api_Sample row_1))]) (by kernel_rfl) hmix ⟨(vc_idx h_3), gg_10, gg_10, gg_10, (vc_idx h_4), gg_10, gg_10, gg_10, gg_10, gg_10, gg_10, trivial⟩ ?_
          replace h := Option.some.inj h; subst h
          exact ⟨rfl, (sub_wk [0, 1] [] [(0, .sl false 4 (List.map e_T_api_Sample l_1)), (3, .ptr 0 0 0 0), (5, .own 1 ((row_1).length)), (6, .int .i64 i_1), (30, .bool (decide (x_2.At < s_1.To)))] [(0, .live (.var 44 [.int .i64 s_1.From, .int .i64 s_1.To])), (1, .live (.row 42 4 (List.map e_T_api_Sample row_1)))] (vcs := [(4 = 4 : Prop), ((List.map e_T_api_Sample l_1) = (List.map e_T_api_Sample l_1) : Prop), ((!false || false) = true : Prop), ((.ptr 0 0 0 0 : AV) = .ptr 0 0 0 0 : Prop), ((.own 1 ((row_1).length) : AV) = .own 1 ((row_1).length) : Prop), ((.int .i64 i_1 : AV) = .int .i64 i_1 : Prop), ((.bool (decide (x_2.At < s_1.To)) : AV) = .bool (decide (x_2.At < s_1.To)) : Prop), (44 = 44 : Prop), (ones [.int .i64 s_1.From, .int .i64 s_1.To] = true : Prop), ((.int .i64 s_1.From : AV) = .int .i64 s_1.From : Prop), ((.int .i64 s_1.To : AV) = .int .i64 s_1.To : Prop), (42 = 42 : Prop), (4 = 4 : Prop), (((List.map e_T_api_Sample row_1) : List AV) = (List.map e_T_api_Sample row_1) : Prop)]) (by kernel_rfl) ⟨rfl, rfl, rfl, rfl, rfl, rfl, rfl, rfl, rfl, rfl, rfl, rfl, rfl, rfl, trivial⟩)⟩
        · replace h := cond_f gg_10 h
          refine aw_region [(4, { av := .agg [.int .i64 x_1.Thread, .int .i64 x_1.At, .int .i64 x_1.Weight, .sl false 1 (List.map AV.str x_1.Stack)] }), (9, { g := false }), (10, { g := false }), (11, { g := false }), (12, { g := false }), (13, { g := false }), (14, { g := false }), (15, { g := false }), (16, { g := false }), (17, { b := false })] [0, 3, 5, 6, 22, 23, 24, 25, 26, 27, 28, 29, 30] [0, 1] 2 (vcs := [idxA (List.map e_T_api_Sample l_1) i_1 = some (.agg [.int .i64 x_1.Thread, .int .i64 x_1.At, .int .i64 x_1.Weight, .sl false 1 (List.map AV.str x_1.Stack)]), (decide (s_1.From ≤ x_1.At)) = !true, (decide (s_1.From ≤ x_1.At)) = !true, (decide (s_1.From ≤ x_1.At)) = !true, (decide (s_1.From ≤ x_1.At)) = !true, (decide (s_1.From ≤ x_1.At)) = !true, (decide (s_1.From ≤ x_1.At)) = !true, (decide (s_1.From ≤ x_1.At)) = !true, (decide (s_1.From ≤ x_1.At)) = !true, (decide (s_1.From ≤ x_1.At)) = false]) (vals := [.sl false 4 (List.map e_T_api_Sample l_1), .ptr 0 0 0 0, .own 1 ((row_1).length), .int .i64 i_1, .tuple [], .tuple [], .tuple [], .tuple [], .tuple [], .tuple [], .tuple [], .tuple [], .bool false]) (bxs := [.live (.var 44 [.int .i64 s_1.From, .int .i64 s_1.To]), .live (.row 42 4 (List.map e_T_api_Sample row_1))]) (by kernel_rfl) hmix ⟨(vc_idx h_3), gg_10, gg_10, gg_10, gg_10, gg_10, gg_10, gg_10, gg_10, gg_10, trivial⟩ ?_
          replace h := Option.some.inj h; subst h
          exact ⟨rfl, (sub_wk [0, 1] [] [(0, .sl false 4 (List.map e_T_api_Sample l_1)), (3, .ptr 0 0 0 0), (5, .own 1 ((row_1).length)), (6, .int .i64 i_1), (30, .bool false)] [(0, .live (.var 44 [.int .i64 s_1.From, .int .i64 s_1.To])), (1, .live (.row 42 4 (List.map e_T_api_Sample row_1)))] (vcs := [(4 = 4 : Prop), ((List.map e_T_api_Sample l_1) = (List.map e_T_api_Sample l_1) : Prop), ((!false || false) = true : Prop), ((.ptr 0 0 0 0 : AV) = .ptr 0 0 0 0 : Prop), ((.own 1 ((row_1).length) : AV) = .own 1 ((row_1).length) : Prop), ((.int .i64 i_1 : AV) = .int .i64 i_1 : Prop), ((.bool false : AV) = .bool false : Prop), (44 = 44 : Prop), (ones [.int .i64 s_1.From, .int .i64 s_1.To] = true : Prop), ((.int .i64 s_1.From : AV) = .int .i64 s_1.From : Prop), ((.int .i64 s_1.To : AV) = .int .i64 s_1.To : Prop), (42 = 42 : Prop), (4 = 4 : Prop), (((List.map e_T_api_Sample row_1) : List AV) = (List.map e_T_api_Sample row_1) : Prop)]) (by kernel_rfl) ⟨rfl, rfl, rfl, rfl, rfl, rfl, rfl, rfl, rfl, rfl, rfl, rfl, rfl, rfl, trivial⟩)⟩
      refine aw_cond (t := 30) (b := p_1) (by kernel_rfl) (by kernel_rfl) ?_ ?_
      rotate_left
      · intro g_2; replace h := cond_f g_2 h
        refine aw_skip (by kernel_rfl) ?_
        replace h := Option.some.inj h; subst h
        exact ⟨rfl, (sub_wk [0, 1] [] [(0, .sl false 4 (List.map e_T_api_Sample l_1)), (3, .ptr 0 0 0 0), (5, .own 1 ((row_1).length)), (6, .int .i64 i_1)] [(0, .live (.var 44 [.int .i64 s_1.From, .int .i64 s_1.To])), (1, .live (.row 42 4 (List.map e_T_api_Sample row_1)))] (vcs := [(4 = 4 : Prop), ((List.map e_T_api_Sample l_1) = (List.map e_T_api_Sample l_1) : Prop), ((!false || false) = true : Prop), ((.ptr 0 0 0 0 : AV) = .ptr 0 0 0 0 : Prop), ((.own 1 ((row_1).length) : AV) = .own 1 ((row_1).length) : Prop), ((.int .i64 i_1 : AV) = .int .i64 i_1 : Prop), (44 = 44 : Prop), (ones [.int .i64 s_1.From, .int .i64 s_1.To] = true : Prop), ((.int .i64 s_1.From : AV) = .int .i64 s_1.From : Prop), ((.int .i64 s_1.To : AV) = .int .i64 s_1.To : Prop), (42 = 42 : Prop), (4 = 4 : Prop), (((List.map e_T_api_Sample row_1) : List AV) = (List.map e_T_api_Sample row_1) : Prop)]) (by kernel_rfl) ⟨rfl, rfl, rfl, rfl, rfl, rfl, rfl, rfl, rfl, rfl, rfl, rfl, rfl, trivial⟩)⟩
      intro g_2; replace h := cond_t g_2 h
      obtain ⟨x_3, h_6, h⟩ := bind_some h
      obtain ⟨_, h_7, h⟩ := bind_some h; replace h_7 := need_some h_7
      refine aw_region [(3, { av := .agg [.int .i64 x_3.Thread, .int .i64 x_3.At, .int .i64 x_3.Weight, .sl false 1 (List.map AV.str x_3.Stack)] }), (5, { id := 2 }), (6, { id := 3, l := (List.map e_T_api_Sample (row_1 ++ ([x_3] : List T_api_Sample))), n := ((row_1 ++ ([x_3] : List T_api_Sample))).length })] [0, 3, 5, 6] [0, 3] 4 (vcs := [idxA (List.map e_T_api_Sample l_1) i_1 = some (.agg [.int .i64 x_3.Thread, .int .i64 x_3.At, .int .i64 x_3.Weight, .sl false 1 (List.map AV.str x_3.Stack)]), (row_1).length = ((List.map e_T_api_Sample row_1)).length, 1 = ((List.map e_T_api_Sample ([x_3] : List T_api_Sample))).length, (List.map e_T_api_Sample (row_1 ++ ([x_3] : List T_api_Sample))) = (List.map e_T_api_Sample row_1) ++ (List.map e_T_api_Sample ([x_3] : List T_api_Sample)), ((row_1 ++ ([x_3] : List T_api_Sample))).length = ((List.map e_T_api_Sample (row_1 ++ ([x_3] : List T_api_Sample)))).length, (((List.map e_T_api_Sample row_1) : List AV).length + ((List.map e_T_api_Sample ([x_3] : List T_api_Sample)) : List AV).length) * 48 ≤ 140737488355328]) (vals := [.sl false 4 (List.map e_T_api_Sample l_1), .ptr 0 0 0 0, .own 3 (((row_1 ++ ([x_3] : List T_api_Sample))).length), .int .i64 i_1]) (bxs := [.live (.var 44 [.int .i64 s_1.From, .int .i64 s_1.To]), .live (.row 42 4 (List.map e_T_api_Sample (row_1 ++ ([x_3] : List T_api_Sample))))]) (by kernel_rfl) hmix ⟨(vc_idx h_6), (by first | (simp; done) | (simp; omega)), (by first | (simp; done) | (simp; omega)), (vc_app _ _), (by simp), (by simpa using h_7), trivial⟩ ?_
      replace h := Option.some.inj h; subst h
      exact ⟨rfl, (sub_wk [0, 3] [] [(0, .sl false 4 (List.map e_T_api_Sample l_1)), (3, .ptr 0 0 0 0), (5, .own 1 (((row_1 ++ ([x_3] : List T_api_Sample))).length)), (6, .int .i64 i_1)] [(0, .live (.var 44 [.int .i64 s_1.From, .int .i64 s_1.To])), (1, .live (.row 42 4 (List.map e_T_api_Sample (row_1 ++ ([x_3] : List T_api_Sample)))))] (vcs := [(4 = 4 : Prop), ((List.map e_T_api_Sample l_1) = (List.map e_T_api_Sample l_1) : Prop), ((!false || false) = true : Prop), ((.ptr 0 0 0 0 : AV) = .ptr 0 0 0 0 : Prop), ((.own 3 (((row_1 ++ ([x_3] : List T_api_Sample))).length) : AV) = .own 3 (((row_1 ++ ([x_3] : List T_api_Sample))).length) : Prop), ((.int .i64 i_1 : AV) = .int .i64 i_1 : Prop), (44 = 44 : Prop), (ones [.int .i64 s_1.From, .int .i64 s_1.To] = true : Prop), ((.int .i64 s_1.From : AV) = .int .i64 s_1.From : Prop), ((.int .i64 s_1.To : AV) = .int .i64 s_1.To : Prop), (42 = 42 : Prop), (4 = 4 : Prop), (((List.map e_T_api_Sample (row_1 ++ ([x_3] : List T_api_Sample))) : List AV) = (List.map e_T_api_Sample (row_1 ++ ([x_3] : List T_api_Sample))) : Prop)]) (by kernel_rfl) ⟨rfl, rfl, rfl, rfl, rfl, rfl, rfl, rfl, rfl, rfl, rfl, rfl, rfl, trivial⟩)⟩
    refine aw_region [] [0, 3, 5, 6] [0, 1] 2 (vcs := []) (vals := [.sl false 4 (List.map e_T_api_Sample l_1), .ptr 0 0 0 0, .own 1 ((o_2).length), .int .i64 (w_i64 (i_1 + (1 : Int)))]) (bxs := [.live (.var 44 [.int .i64 s_1.From, .int .i64 s_1.To]), .live (.row 42 4 (List.map e_T_api_Sample o_2))]) (by kernel_rfl) hmix trivial ?_
    exact ⟨_, (sub_wk [0, 1] [] [(0, .sl false 4 (List.map e_T_api_Sample l_1)), (3, .ptr 0 0 0 0), (5, .own 1 ((o_2).length)), (6, .int .i64 (w_i64 (i_1 + (1 : Int))))] [(0, .live (.var 44 [.int .i64 s_1.From, .int .i64 s_1.To])), (1, .live (.row 42 4 (List.map e_T_api_Sample o_2)))] (vcs := [(4 = 4 : Prop), ((List.map e_T_api_Sample l_1) = (List.map e_T_api_Sample l_1) : Prop), ((!false || false) = true : Prop), ((.ptr 0 0 0 0 : AV) = .ptr 0 0 0 0 : Prop), ((.own 1 ((o_2).length) : AV) = .own 1 ((o_2).length) : Prop), ((.int .i64 (w_i64 (i_1 + (1 : Int))) : AV) = .int .i64 (w_i64 (i_1 + (1 : Int))) : Prop), (44 = 44 : Prop), (ones [.int .i64 s_1.From, .int .i64 s_1.To] = true : Prop), ((.int .i64 s_1.From : AV) = .int .i64 s_1.From : Prop), ((.int .i64 s_1.To : AV) = .int .i64 s_1.To : Prop), (42 = 42 : Prop), (4 = 4 : Prop), (((List.map e_T_api_Sample o_2) : List AV) = (List.map e_T_api_Sample o_2) : Prop)]) (by kernel_rfl) ⟨rfl, rfl, rfl, rfl, rfl, rfl, rfl, rfl, rfl, rfl, rfl, rfl, rfl, trivial⟩), _, _, rfl, h⟩
  refine aw_seq (by kernel_rfl) ?_
  refine aw_region [] [4] [0] 1 (vcs := []) (vals := [.own 0 ((o_1).length)]) (bxs := [.live (.row 42 4 (List.map e_T_api_Sample o_1))]) (by kernel_rfl) hmix trivial ?_
  refine aw_sub (sub_wk [0] [] [(4, .own 0 ((o_1).length))] [(0, .live (.row 42 4 (List.map e_T_api_Sample o_1)))] (vcs := [((.own 0 ((o_1).length) : AV) = .own 0 ((o_1).length) : Prop), (42 = 42 : Prop), (4 = 4 : Prop), (((List.map e_T_api_Sample o_1) : List AV) = (List.map e_T_api_Sample o_1) : Prop)]) (by kernel_rfl) ⟨rfl, rfl, rfl, rfl, trivial⟩) ?_
  refine aw_ret (by kernel_rfl) ?_
  replace h := Option.some.inj h; subst h
  exact ⟨.inr rfl, Nat.le_of_ble_eq_true rfl, by kernel_rfl⟩

theorem R29_Leaf_ok (F : Nat) (l_1 : List (T_api_Sample)) (name_1 : List Int) (r : Int) (h : R29_Leaf F l_1 name_1 = some r) : Triple prog 19 [] [.sl false 4 (List.map e_T_api_Sample l_1), .str name_1] [] (.int .i64 r) := by
  refine triple_intro (fn := Go.Proofs.Try.f19) (code := codeOf Go.Proofs.Try.f19) (by kernel_rfl) (by kernel_rfl) (Nat.le_of_ble_eq_true (by kernel_rfl)) ?_
  unfold R29_Leaf at h
  refine aw_seq (by kernel_rfl) ?_
  refine aw_region [] [0, 1] [] 0 (vcs := []) (vals := [.sl false 4 (List.map e_T_api_Sample l_1), .str name_1]) (bxs := []) (by kernel_rfl) hmix trivial ?_
  refine aw_seq (by kernel_rfl) ?_
  refine aw_region [] [0, 1, 5] [] 0 (vcs := []) (vals := [.sl false 4 (List.map e_T_api_Sample l_1), .str name_1, .int .i64 (0 : Int)]) (bxs := []) (by kernel_rfl) hmix trivial ?_
  refine aw_seq (by kernel_rfl) ?_
  refine aw_seq (by kernel_rfl) ?_
  refine aw_region [] [0, 1, 5, 6] [] 0 (vcs := []) (vals := [.sl false 4 (List.map e_T_api_Sample l_1), .str name_1, .int .i64 (0 : Int), .int .i64 (0 : Int)]) (bxs := []) (by kernel_rfl) hmix trivial ?_
  obtain ⟨o_1, h_1, h⟩ := bind_some h
  refine aw_mid (mk [(5, .int .i64 o_1)] [] 0) ?_ ?_
  · replace h := h_1
    refine aw_block (id := 0) (by kernel_rfl) ?_
    refine aw_sub (sub_wk [] [] [(0, .sl false 4 (List.map e_T_api_Sample l_1)), (1, .str name_1), (5, .int .i64 (0 : Int)), (6, .int .i64 (0 : Int))] [] (vcs := [(4 = 4 : Prop), ((List.map e_T_api_Sample l_1) = (List.map e_T_api_Sample l_1) : Prop), ((!false || false) = true : Prop), ((.str name_1 : AV) = .str name_1 : Prop), ((.int .i64 (0 : Int) : AV) = .int .i64 (0 : Int) : Prop), ((.int .i64 (0 : Int) : AV) = .int .i64 (0 : Int) : Prop)]) (by kernel_rfl) ⟨rfl, rfl, rfl, rfl, rfl, rfl, trivial⟩) ?_
    refine aw_loopF (fun n st => ∃ (sum_1 : Int), ∃ (i_1 : Int), st = mk [(0, .sl false 4 (List.map e_T_api_Sample l_1)), (1, .str name_1), (5, .int .i64 sum_1), (6, .int .i64 i_1)] [] 0 ∧ R29_Leaf_L1 F l_1 name_1 n sum_1 i_1 = some o_1) F (by kernel_rfl) ⟨_, _, rfl, h⟩ ?_ ?_
    · rintro _ ⟨_, _, _, h⟩; exact none_ne (h : (none : Option Int) = some o_1)
    rintro n_1 _ ⟨sum_1, i_1, rfl, h⟩
    replace h : R29_Leaf_L1_body F l_1 name_1 (R29_Leaf_L1 F l_1 name_1 n_1) sum_1 i_1 = some o_1 := h
    unfold R29_Leaf_L1_body at h
    refine aw_seq (by kernel_rfl) ?_
    refine aw_seq (by kernel_rfl) ?_
    refine aw_region [(2, { n := (l_1).length })] [0, 1, 5, 6, 11] [] 0 (vcs := [((List.map e_T_api_Sample l_1)).length = (l_1).length]) (vals := [.sl false 4 (List.map e_T_api_Sample l_1), .str name_1, .int .i64 sum_1, .int .i64 i_1, .bool (decide (i_1 < (((l_1).length : Nat) : Int)))]) (bxs := []) (by kernel_rfl) hmix ⟨(vc_len _), trivial⟩ ?_
    refine aw_cond (t := 11) (b := (decide (i_1 < (((l_1).length : Nat) : Int)))) (by kernel_rfl) (by kernel_rfl) ?_ ?_
    rotate_left
    · intro g_1; replace h := cond_f g_1 h
      refine aw_exit (id := 0) (by kernel_rfl) ?_
      replace h := Option.some.inj h; subst h
      exact ⟨rfl, (sub_wk [] [] [(5, .int .i64 sum_1)] [] (vcs := [((.int .i64 sum_1 : AV) = .int .i64 sum_1 : Prop)]) (by kernel_rfl) ⟨rfl, trivial⟩)⟩
    intro g_1; replace h := cond_t g_1 h
    refine aw_skip (by kernel_rfl) ?_
    refine aw_seq (by kernel_rfl) ?_
    obtain ⟨o_2, h_2, h⟩ := bind_some h
    refine aw_mid (mk [(0, .sl false 4 (List.map e_T_api_Sample l_1)), (1, .str name_1), (5, .int .i64 o_2), (6, .int .i64 i_1)] [] 0) ?_ ?_
    · replace h := h_2
      refine aw_block (id := 1) (by kernel_rfl) ?_
      refine aw_seq (by kernel_rfl) ?_
      obtain ⟨x_1, h_3, h⟩ := bind_some h
      refine aw_region [(2, { av := .agg [.int .i64 x_1.Thread, .int .i64 x_1.At, .int .i64 x_1.Weight, .sl false 1 (List.map AV.str x_1.Stack)] }), (5, { n := (x_1.Stack).length })] [0, 1, 5, 6, 7] [] 0 (vcs := [idxA (List.map e_T_api_Sample l_1) i_1 = some (.agg [.int .i64 x_1.Thread, .int .i64 x_1.At, .int .i64 x_1.Weight, .sl false 1 (List.map AV.str x_1.Stack)]), ((List.map AV.str x_1.Stack)).length = (x_1.Stack).length]) (vals := [.sl false 4 (List.map e_T_api_Sample l_1), .str name_1, .int .i64 sum_1, .int .i64 i_1, .int .i64 (((x_1.Stack).length : Nat) : Int)]) (bxs := []) (by kernel_rfl) hmix ⟨(vc_idx h_3), (vc_len _), trivial⟩ ?_
      refine aw_seq (by kernel_rfl) ?_
      obtain ⟨p_1, h_8, h⟩ := bind_some h
      refine aw_mid (mk [(0, .sl false 4 (List.map e_T_api_Sample l_1)), (1, .str name_1), (5, .int .i64 sum_1), (6, .int .i64 i_1), (41, .bool p_1)] [] 0) ?_ ?_
      · replace h := h_8
        obtain ⟨x_2, h_4, h⟩ := bind_some h
        obtain ⟨r_1, h_5, h⟩ := bind_some h
        rcases Bool.eq_false_or_eq_true r_1 with gg_9 | gg_9
        · replace h := cond_t gg_9 h
          rcases Bool.eq_false_or_eq_true (decide ((((x_1.Stack).length : Nat) : Int) > (0 : Int))) with gg_10 | gg_10
          · replace h := cond_t gg_10 h
            obtain ⟨x_3, h_6, h⟩ := bind_some h
            obtain ⟨x_4, h_7, h⟩ := bind_some h
            refine aw_region [(2, { av := .agg [.int .i64 x_2.Thread, .int .i64 x_2.At, .int .i64 x_2.Weight, .sl false 1 (List.map AV.str x_2.Stack)] }), (4, { av := .bool r_1, l := [.agg [.int .i64 x_2.Thread, .int .i64 x_2.At, .int .i64 x_2.Weight, .sl false 1 (List.map AV.str x_2.Stack)]] }), (8, { b := true }), (12, { av := .agg [.int .i64 x_3.Thread, .int .i64 x_3.At, .int .i64 x_3.Weight, .sl false 1 (List.map AV.str x_3.Stack)] }), (17, { av := .str x_4 }), (21, { b := true })] [0, 1, 5, 6, 26, 27, 30, 31, 32, 33, 34, 35, 36, 37, 38, 39, 40, 41] [] 0 (vcs := [idxA (List.map e_T_api_Sample l_1) i_1 = some (.agg [.int .i64 x_2.Thread, .int .i64 x_2.At, .int .i64 x_2.Weight, .sl false 1 (List.map AV.str x_2.Stack)]), ([.agg [.int .i64 x_2.Thread, .int .i64 x_2.At, .int .i64 x_2.Weight, .sl false 1 (List.map AV.str x_2.Stack)]] : List AV) = [.agg [.int .i64 x_2.Thread, .int .i64 x_2.At, .int .i64 x_2.Weight, .sl false 1 (List.map AV.str x_2.Stack)]], ([] : List BoxSt) = [], Triple prog 26 [] [.agg [.int .i64 x_2.Thread, .int .i64 x_2.At, .int .i64 x_2.Weight, .sl false 1 (List.map AV.str x_2.Stack)]] [] (.bool r_1), r_1 = true, r_1 = true, r_1 = true, (decide ((((x_1.Stack).length : Nat) : Int) > (0 : Int))) = true, (decide ((((x_1.Stack).length : Nat) : Int) > (0 : Int))) = true, (decide ((((x_1.Stack).length : Nat) : Int) > (0 : Int))) = true, idxA (List.map e_T_api_Sample l_1) i_1 = some (.agg [.int .i64 x_3.Thread, .int .i64 x_3.At, .int .i64 x_3.Weight, .sl false 1 (List.map AV.str x_3.Stack)]), (decide ((((x_1.Stack).length : Nat) : Int) > (0 : Int))) = true, (decide ((((x_1.Stack).length : Nat) : Int) > (0 : Int))) = true, (decide ((((x_1.Stack).length : Nat) : Int) > (0 : Int))) = true, (decide ((((x_1.Stack).length : Nat) : Int) > (0 : Int))) = true, (decide ((((x_1.Stack).length : Nat) : Int) > (0 : Int))) = true, idxA (List.map AV.str x_3.Stack) (w_i64 ((((x_1.Stack).length : Nat) : Int) - (1 : Int))) = some (.str x_4), (decide ((((x_1.Stack).length : Nat) : Int) > (0 : Int))) = true, (decide ((((x_1.Stack).length : Nat) : Int) > (0 : Int))) = true, (decide ((((x_1.Stack).length : Nat) : Int) > (0 : Int))) = true, (decide ((((x_1.Stack).length : Nat) : Int) > (0 : Int))) = true]) (vals := [.sl false 4 (List.map e_T_api_Sample l_1), .str name_1, .int .i64 sum_1, .int .i64 i_1, .int .i64 (((x_1.Stack).length : Nat) : Int), .bool (decide ((((x_1.Stack).length : Nat) : Int) > (0 : Int))), .sl false 4 (List.map e_T_api_Sample l_1), .int .i64 i_1, .ref (.agg [.int .i64 x_3.Thread, .int .i64 x_3.At, .int .i64 x_3.Weight, .sl false 1 (List.map AV.str x_3.Stack)]), .ref (.sl false 1 (List.map AV.str x_3.Stack)), .sl false 1 (List.map AV.str x_3.Stack), .int .i64 (((x_1.Stack).length : Nat) : Int), .int .i64 (w_i64 ((((x_1.Stack).length : Nat) : Int) - (1 : Int))), .ref (.str x_4), .str x_4, .str name_1, .bool (x_4 == name_1), .bool (x_4 == name_1)]) (bxs := []) (by kernel_rfl) hmix ⟨(vc_idx h_4), rfl, rfl, (R29_inRange_ok x_2 r_1 h_5), gg_9, gg_9, gg_9, gg_10, gg_10, gg_10, (vc_idx h_6), gg_10, gg_10, gg_10, gg_10, gg_10, (vc_idx h_7), gg_10, gg_10, gg_10, gg_10, trivial⟩ ?_
            replace h := Option.some.inj h; subst h
            exact ⟨rfl, (sub_wk [] [] [(0, .sl false 4 (List.map e_T_api_Sample l_1)), (1, .str name_1), (5, .int .i64 sum_1), (6, .int .i64 i_1), (41, .bool (x_4 == name_1))] [] (vcs := [(4 = 4 : Prop), ((List.map e_T_api_Sample l_1) = (List.map e_T_api_Sample l_1) : Prop), ((!false || false) = true : Prop), ((.str name_1 : AV) = .str name_1 : Prop), ((.int .i64 sum_1 : AV) = .int .i64 sum_1 : Prop), ((.int .i64 i_1 : AV) = .int .i64 i_1 : Prop), ((.bool (x_4 == name_1) : AV) = .bool (x_4 == name_1) : Prop)]) (by kernel_rfl) ⟨rfl, rfl, rfl, rfl, rfl, rfl, rfl, trivial⟩)⟩
          · replace h := cond_f gg_10 h
            refine aw_region [(2, { av := .agg [.int .i64 x_2.Thread, .int .i64 x_2.At, .int .i64 x_2.Weight, .sl false 1 (List.map AV.str x_2.Stack)] }), (4, { av := .bool r_1, l := [.agg [.int .i64 x_2.Thread, .int .i64 x_2.At, .int .i64 x_2.Weight, .sl false 1 (List.map AV.str x_2.Stack)]] }), (8, { b := true }), (10, { g := false }), (11, { g := false }), (12, { g := false }), (13, { g := false }), (14, { g := false }), (15, { g := false }), (16, { g := false }), (17, { g := false }), (18, { g := false }), (19, { g := false }), (20, { g := false }), (21, { b := false })] [0, 1, 5, 6, 26, 27, 30, 31, 32, 33, 34, 35, 36, 37, 38, 39, 40, 41] [] 0 (vcs := [idxA (List.map e_T_api_Sample l_1) i_1 = some (.agg [.int .i64 x_2.Thread, .int .i64 x_2.At, .int .i64 x_2.Weight, .sl false 1 (List.map AV.str x_2.Stack)]), ([.agg [.int .i64 x_2.Thread, .int .i64 x_2.At, .int .i64 x_2.Weight, .sl false 1 (List.map AV.str x_2.Stack)]] : List AV) = [.agg [.int .i64 x_2.Thread, .int .i64 x_2.At, .int .i64 x_2.Weight, .sl false 1 (List.map AV.str x_2.Stack)]], ([] : List BoxSt) = [], Triple prog 26 [] [.agg [.int .i64 x_2.Thread, .int .i64 x_2.At, .int .i64 x_2.Weight, .sl false 1 (List.map AV.str x_2.Stack)]] [] (.bool r_1), r_1 = true, r_1 = true, r_1 = true, (decide ((((x_1.Stack).length : Nat) : Int) > (0 : Int))) = !true, (decide ((((x_1.Stack).length : Nat) : Int) > (0 : Int))) = !true, (decide ((((x_1.Stack).length : Nat) : Int) > (0 : Int))) = !true, (decide ((((x_1.Stack).length : Nat) : Int) > (0 : Int))) = !true, (decide ((((x_1.Stack).length : Nat) : Int) > (0 : Int))) = !true, (decide ((((x_1.Stack).length : Nat) : Int) > (0 : Int))) = !true, (decide ((((x_1.Stack).length : Nat) : Int) > (0 : Int))) = !true, (decide ((((x_1.Stack).length : Nat) : Int) > (0 : Int))) = !true, (decide ((((x_1.Stack).length : Nat) : Int) > (0 : Int))) = !true, (decide ((((x_1.Stack).length : Nat) : Int) > (0 : Int))) = !true, (decide ((((x_1.Stack).length : Nat) : Int) > (0 : Int))) = !true, (decide ((((x_1.Stack).length : Nat) : Int) > (0 : Int))) = false]) (vals := [.sl false 4 (List.map e_T_api_Sample l_1), .str name_1, .int .i64 sum_1, .int .i64 i_1, .int .i64 (((x_1.Stack).length : Nat) : Int), .bool (decide ((((x_1.Stack).length : Nat) : Int) > (0 : Int))), .tuple [], .tuple [], .tuple [], .tuple [], .tuple [], .tuple [], .tuple [], .tuple [], .tuple [], .tuple [], .tuple [], .bool false]) (bxs := []) (by kernel_rfl) hmix ⟨(vc_idx h_4), rfl, rfl, (R29_inRange_ok x_2 r_1 h_5), gg_9, gg_9, gg_9, gg_10, gg_10, gg_10, gg_10, gg_10, gg_10, gg_10, gg_10, gg_10, gg_10, gg_10, gg_10, trivial⟩ ?_
            replace h := Option.some.inj h; subst h
            exact ⟨rfl, (sub_wk [] [] [(0, .sl false 4 (List.map e_T_api_Sample l_1)), (1, .str name_1), (5, .int .i64 sum_1), (6, .int .i64 i_1), (41, .bool false)] [] (vcs := [(4 = 4 : Prop), ((List.map e_T_api_Sample l_1) = (List.map e_T_api_Sample l_1) : Prop), ((!false || false) = true : Prop), ((.str name_1 : AV) = .str name_1 : Prop), ((.int .i64 sum_1 : AV) = .int .i64 sum_1 : Prop), ((.int .i64 i_1 : AV) = .int .i64 i_1 : Prop), ((.bool false : AV) = .bool false : Prop)]) (by kernel_rfl) ⟨rfl, rfl, rfl, rfl, rfl, rfl, rfl, trivial⟩)⟩
        · replace h := cond_f gg_9 h
          refine aw_region [(2, { av := .agg [.int .i64 x_2.Thread, .int .i64 x_2.At, .int .i64 x_2.Weight, .sl false 1 (List.map AV.str x_2.Stack)] }), (4, { av := .bool r_1, l := [.agg [.int .i64 x_2.Thread, .int .i64 x_2.At, .int .i64 x_2.Weight, .sl false 1 (List.map AV.str x_2.Stack)]] }), (6, { g := false }), (7, { g := false }), (8, { b := false }), (10, { g := false }), (11, { g := false }), (12, { g := false }), (13, { g := false }), (14, { g := false }), (15, { g := false }), (16, { g := false }), (17, { g := false }), (18, { g := false }), (19, { g := false }), (20, { g := false }), (21, { b := false })] [0, 1, 5, 6, 26, 27, 30, 31, 32, 33, 34, 35, 36, 37, 38, 39, 40, 41] [] 0 (vcs := [idxA (List.map e_T_api_Sample l_1) i_1 = some (.agg [.int .i64 x_2.Thread, .int .i64 x_2.At, .int .i64 x_2.Weight, .sl false 1 (List.map AV.str x_2.Stack)]), ([.agg [.int .i64 x_2.Thread, .int .i64 x_2.At, .int .i64 x_2.Weight, .sl false 1 (List.map AV.str x_2.Stack)]] : List AV) = [.agg [.int .i64 x_2.Thread, .int .i64 x_2.At, .int .i64 x_2.Weight, .sl false 1 (List.map AV.str x_2.Stack)]], ([] : List BoxSt) = [], Triple prog 26 [] [.agg [.int .i64 x_2.Thread, .int .i64 x_2.At, .int .i64 x_2.Weight, .sl false 1 (List.map AV.str x_2.Stack)]] [] (.bool r_1), r_1 = !true, r_1 = !true, r_1 = false, false = !true, false = !true, false = !true, false = !true, false = !true, false = !true, false = !true, false = !true, false = !true, false = !true, false = !true, false = false]) (vals := [.sl false 4 (List.map e_T_api_Sample l_1), .str name_1, .int .i64 sum_1, .int .i64 i_1, .tuple [], .tuple [], .tuple [], .tuple [], .tuple [], .tuple [], .tuple [], .tuple [], .tuple [], .tuple [], .tuple [], .tuple [], .tuple [], .bool false]) (bxs := []) (by kernel_rfl) hmix ⟨(vc_idx h_4), rfl, rfl, (R29_inRange_ok x_2 r_1 h_5), gg_9, gg_9, gg_9, rfl, rfl, rfl, rfl, rfl, rfl, rfl, rfl, rfl, rfl, rfl, rfl, trivial⟩ ?_
          replace h := Option.some.inj h; subst h
          exact ⟨rfl, (sub_wk [] [] [(0, .sl false 4 (List.map e_T_api_Sample l_1)), (1, .str name_1), (5, .int .i64 sum_1), (6, .int .i64 i_1), (41, .bool false)] [] (vcs := [(4 = 4 : Prop), ((List.map e_T_api_Sample l_1) = (List.map e_T_api_Sample l_1) : Prop), ((!false || false) = true : Prop), ((.str name_1 : AV) = .str name_1 : Prop), ((.int .i64 sum_1 : AV) = .int .i64 sum_1 : Prop), ((.int .i64 i_1 : AV) = .int .i64 i_1 : Prop), ((.bool false : AV) = .bool false : Prop)]) (by kernel_rfl) ⟨rfl, rfl, rfl, rfl, rfl, rfl, rfl, trivial⟩)⟩
      refine aw_cond (t := 41) (b := p_1) (by kernel_rfl) (by kernel_rfl) ?_ ?_
      rotate_left
      · intro g_2; replace h := cond_f g_2 h
        refine aw_skip (by kernel_rfl) ?_
        replace h := Option.some.inj h; subst h
        exact ⟨rfl, (sub_wk [] [] [(0, .sl false 4 (List.map e_T_api_Sample l_1)), (1, .str name_1), (5, .int .i64 sum_1), (6, .int .i64 i_1)] [] (vcs := [(4 = 4 : Prop), ((List.map e_T_api_Sample l_1) = (List.map e_T_api_Sample l_1) : Prop), ((!false || false) = true : Prop), ((.str name_1 : AV) = .str name_1 : Prop), ((.int .i64 sum_1 : AV) = .int .i64 sum_1 : Prop), ((.int .i64 i_1 : AV) = .int .i64 i_1 : Prop)]) (by kernel_rfl) ⟨rfl, rfl, rfl, rfl, rfl, rfl, trivial⟩)⟩
      intro g_2; replace h := cond_t g_2 h
      obtain ⟨x_5, h_9, h⟩ := bind_some h
      refine aw_region [(3, { av := .agg [.int .i64 x_5.Thread, .int .i64 x_5.At, .int .i64 x_5.Weight, .sl false 1 (List.map AV.str x_5.Stack)] })] [0, 1, 5, 6] [] 0 (vcs := [idxA (List.map e_T_api_Sample l_1) i_1 = some (.agg [.int .i64 x_5.Thread, .int .i64 x_5.At, .int .i64 x_5.Weight, .sl false 1 (List.map AV.str x_5.Stack)])]) (vals := [.sl false 4 (List.map e_T_api_Sample l_1), .str name_1, .int .i64 (imin (1000000000000000 : Int) (w_i64 (sum_1 + x_5.Weight))), .int .i64 i_1]) (bxs := []) (by kernel_rfl) hmix ⟨(vc_idx h_9), trivial⟩ ?_
      replace h := Option.some.inj h; subst h
      exact ⟨rfl, (sub_wk [] [] [(0, .sl false 4 (List.map e_T_api_Sample l_1)), (1, .str name_1), (5, .int .i64 (imin (1000000000000000 : Int) (w_i64 (sum_1 + x_5.Weight)))), (6, .int .i64 i_1)] [] (vcs := [(4 = 4 : Prop), ((List.map e_T_api_Sample l_1) = (List.map e_T_api_Sample l_1) : Prop), ((!false || false) = true : Prop), ((.str name_1 : AV) = .str name_1 : Prop), ((.int .i64 (imin (1000000000000000 : Int) (w_i64 (sum_1 + x_5.Weight))) : AV) = .int .i64 (imin (1000000000000000 : Int) (w_i64 (sum_1 + x_5.Weight))) : Prop), ((.int .i64 i_1 : AV) = .int .i64 i_1 : Prop)]) (by kernel_rfl) ⟨rfl, rfl, rfl, rfl, rfl, rfl, trivial⟩)⟩
    refine aw_region [] [0, 1, 5, 6] [] 0 (vcs := []) (vals := [.sl false 4 (List.map e_T_api_Sample l_1), .str name_1, .int .i64 o_2, .int .i64 (w_i64 (i_1 + (1 : Int)))]) (bxs := []) (by kernel_rfl) hmix trivial ?_
    exact ⟨_, (sub_wk [] [] [(0, .sl false 4 (List.map e_T_api_Sample l_1)), (1, .str name_1), (5, .int .i64 o_2), (6, .int .i64 (w_i64 (i_1 + (1 : Int))))] [] (vcs := [(4 = 4 : Prop), ((List.map e_T_api_Sample l_1) = (List.map e_T_api_Sample l_1) : Prop), ((!false || false) = true : Prop), ((.str name_1 : AV) = .str name_1 : Prop), ((.int .i64 o_2 : AV) = .int .i64 o_2 : Prop), ((.int .i64 (w_i64 (i_1 + (1 : Int))) : AV) = .int .i64 (w_i64 (i_1 + (1 : Int))) : Prop)]) (by kernel_rfl) ⟨rfl, rfl, rfl, rfl, rfl, rfl, trivial⟩), _, _, rfl, h⟩
  refine aw_seq (by kernel_rfl) ?_
  refine aw_region [] [4] [] 0 (vcs := []) (vals := [.int .i64 o_1]) (bxs := []) (by kernel_rfl) hmix trivial ?_
  refine aw_ret (by kernel_rfl) ?_
  replace h := Option.some.inj h; subst h
  exact ⟨.inr rfl, Nat.le_of_ble_eq_true rfl, by kernel_rfl⟩

theorem R29_Total_ok (F : Nat) (l_1 : List (T_api_Sample)) (r : Int) (h : R29_Total F l_1 = some r) : Triple prog 21 [] [.sl false 4 (List.map e_T_api_Sample l_1)] [] (.int .i64 r) := by
  refine triple_intro (fn := Go.Proofs.Try.f21) (code := codeOf Go.Proofs.Try.f21) (by kernel_rfl) (by kernel_rfl) (Nat.le_of_ble_eq_true (by kernel_rfl)) ?_
  unfold R29_Total at h
  refine aw_seq (by kernel_rfl) ?_
  refine aw_region [] [0] [] 0 (vcs := []) (vals := [.sl false 4 (List.map e_T_api_Sample l_1)]) (bxs := []) (by kernel_rfl) hmix trivial ?_
  refine aw_seq (by kernel_rfl) ?_
  refine aw_region [] [0, 3] [] 0 (vcs := []) (vals := [.sl false 4 (List.map e_T_api_Sample l_1), .int .i64 (0 : Int)]) (bxs := []) (by kernel_rfl) hmix trivial ?_
  refine aw_seq (by kernel_rfl) ?_
  refine aw_seq (by kernel_rfl) ?_
  refine aw_region [] [0, 3, 4] [] 0 (vcs := []) (vals := [.sl false 4 (List.map e_T_api_Sample l_1), .int .i64 (0 : Int), .int .i64 (0 : Int)]) (bxs := []) (by kernel_rfl) hmix trivial ?_
  obtain ⟨o_1, h_1, h⟩ := bind_some h
  refine aw_mid (mk [(3, .int .i64 o_1)] [] 0) ?_ ?_
  · replace h := h_1
    refine aw_block (id := 0) (by kernel_rfl) ?_
    refine aw_sub (sub_wk [] [] [(0, .sl false 4 (List.map e_T_api_Sample l_1)), (3, .int .i64 (0 : Int)), (4, .int .i64 (0 : Int))] [] (vcs := [(4 = 4 : Prop), ((List.map e_T_api_Sample l_1) = (List.map e_T_api_Sample l_1) : Prop), ((!false || false) = true : Prop), ((.int .i64 (0 : Int) : AV) = .int .i64 (0 : Int) : Prop), ((.int .i64 (0 : Int) : AV) = .int .i64 (0 : Int) : Prop)]) (by kernel_rfl) ⟨rfl, rfl, rfl, rfl, rfl, trivial⟩) ?_
    refine aw_loopF (fun n st => ∃ (sum_1 : Int), ∃ (i_1 : Int), st = mk [(0, .sl false 4 (List.map e_T_api_Sample l_1)), (3, .int .i64 sum_1), (4, .int .i64 i_1)] [] 0 ∧ R29_Total_L1 F l_1 n sum_1 i_1 = some o_1) F (by kernel_rfl) ⟨_, _, rfl, h⟩ ?_ ?_
    · rintro _ ⟨_, _, _, h⟩; exact none_ne (h : (none : Option Int) = some o_1)
    rintro n_1 _ ⟨sum_1, i_1, rfl, h⟩
    replace h : R29_Total_L1_body F l_1 (R29_Total_L1 F l_1 n_1) sum_1 i_1 = some o_1 := h
    unfold R29_Total_L1_body at h
    refine aw_seq (by kernel_rfl) ?_
    refine aw_seq (by kernel_rfl) ?_
    refine aw_region [(2, { n := (l_1).length })] [0, 3, 4, 8] [] 0 (vcs := [((List.map e_T_api_Sample l_1)).length = (l_1).length]) (vals := [.sl false 4 (List.map e_T_api_Sample l_1), .int .i64 sum_1, .int .i64 i_1, .bool (decide (i_1 < (((l_1).length : Nat) : Int)))]) (bxs := []) (by kernel_rfl) hmix ⟨(vc_len _), trivial⟩ ?_
    refine aw_cond (t := 8) (b := (decide (i_1 < (((l_1).length : Nat) : Int)))) (by kernel_rfl) (by kernel_rfl) ?_ ?_
    rotate_left
    · intro g_1; replace h := cond_f g_1 h
      refine aw_exit (id := 0) (by kernel_rfl) ?_
      replace h := Option.some.inj h; subst h
      exact ⟨rfl, (sub_wk [] [] [(3, .int .i64 sum_1)] [] (vcs := [((.int .i64 sum_1 : AV) = .int .i64 sum_1 : Prop)]) (by kernel_rfl) ⟨rfl, trivial⟩)⟩
    intro g_1; replace h := cond_t g_1 h
    refine aw_skip (by kernel_rfl) ?_
    refine aw_seq (by kernel_rfl) ?_
    obtain ⟨o_2, h_2, h⟩ := bind_some h
    refine aw_mid (mk [(0, .sl false 4 (List.map e_T_api_Sample l_1)), (3, .int .i64 o_2), (4, .int .i64 i_1)] [] 0) ?_ ?_
    · replace h := h_2
      refine aw_block (id := 1) (by kernel_rfl) ?_
      refine aw_seq (by kernel_rfl) ?_
      obtain ⟨x_1, h_3, h⟩ := bind_some h
      obtain ⟨r_1, h_4, h⟩ := bind_some h
      refine aw_region [(2, { av := .agg [.int .i64 x_1.Thread, .int .i64 x_1.At, .int .i64 x_1.Weight, .sl false 1 (List.map AV.str x_1.Stack)] }), (4, { av := .bool r_1, l := [.agg [.int .i64 x_1.Thread, .int .i64 x_1.At, .int .i64 x_1.Weight, .sl false 1 (List.map AV.str x_1.Stack)]] })] [0, 3, 4, 15] [] 0 (vcs := [idxA (List.map e_T_api_Sample l_1) i_1 = some (.agg [.int .i64 x_1.Thread, .int .i64 x_1.At, .int .i64 x_1.Weight, .sl false 1 (List.map AV.str x_1.Stack)]), ([.agg [.int .i64 x_1.Thread, .int .i64 x_1.At, .int .i64 x_1.Weight, .sl false 1 (List.map AV.str x_1.Stack)]] : List AV) = [.agg [.int .i64 x_1.Thread, .int .i64 x_1.At, .int .i64 x_1.Weight, .sl false 1 (List.map AV.str x_1.Stack)]], ([] : List BoxSt) = [], Triple prog 26 [] [.agg [.int .i64 x_1.Thread, .int .i64 x_1.At, .int .i64 x_1.Weight, .sl false 1 (List.map AV.str x_1.Stack)]] [] (.bool r_1)]) (vals := [.sl false 4 (List.map e_T_api_Sample l_1), .int .i64 sum_1, .int .i64 i_1, .bool r_1]) (bxs := []) (by kernel_rfl) hmix ⟨(vc_idx h_3), rfl, rfl, (R29_inRange_ok x_1 r_1 h_4), trivial⟩ ?_
      refine aw_cond (t := 15) (b := r_1) (by kernel_rfl) (by kernel_rfl) ?_ ?_
      rotate_left
      · intro g_2; replace h := cond_f g_2 h
        refine aw_skip (by kernel_rfl) ?_
        replace h := Option.some.inj h; subst h
        exact ⟨rfl, (sub_wk [] [] [(0, .sl false 4 (List.map e_T_api_Sample l_1)), (3, .int .i64 sum_1), (4, .int .i64 i_1)] [] (vcs := [(4 = 4 : Prop), ((List.map e_T_api_Sample l_1) = (List.map e_T_api_Sample l_1) : Prop), ((!false || false) = true : Prop), ((.int .i64 sum_1 : AV) = .int .i64 sum_1 : Prop), ((.int .i64 i_1 : AV) = .int .i64 i_1 : Prop)]) (by kernel_rfl) ⟨rfl, rfl, rfl, rfl, rfl, trivial⟩)⟩
      intro g_2; replace h := cond_t g_2 h
      obtain ⟨x_2, h_5, h⟩ := bind_some h
      refine aw_region [(3, { av := .agg [.int .i64 x_2.Thread, .int .i64 x_2.At, .int .i64 x_2.Weight, .sl false 1 (List.map AV.str x_2.Stack)] })] [0, 3, 4] [] 0 (vcs := [idxA (List.map e_T_api_Sample l_1) i_1 = some (.agg [.int .i64 x_2.Thread, .int .i64 x_2.At, .int .i64 x_2.Weight, .sl false 1 (List.map AV.str x_2.Stack)])]) (vals := [.sl false 4 (List.map e_T_api_Sample l_1), .int .i64 (imin (1000000000000000 : Int) (w_i64 (sum_1 + x_2.Weight))), .int .i64 i_1]) (bxs := []) (by kernel_rfl) hmix ⟨(vc_idx h_5), trivial⟩ ?_
      replace h := Option.some.inj h; subst h
      exact ⟨rfl, (sub_wk [] [] [(0, .sl false 4 (List.map e_T_api_Sample l_1)), (3, .int .i64 (imin (1000000000000000 : Int) (w_i64 (sum_1 + x_2.Weight)))), (4, .int .i64 i_1)] [] (vcs := [(4 = 4 : Prop), ((List.map e_T_api_Sample l_1) = (List.map e_T_api_Sample l_1) : Prop), ((!false || false) = true : Prop), ((.int .i64 (imin (1000000000000000 : Int) (w_i64 (sum_1 + x_2.Weight))) : AV) = .int .i64 (imin (1000000000000000 : Int) (w_i64 (sum_1 + x_2.Weight))) : Prop), ((.int .i64 i_1 : AV) = .int .i64 i_1 : Prop)]) (by kernel_rfl) ⟨rfl, rfl, rfl, rfl, rfl, trivial⟩)⟩
    refine aw_region [] [0, 3, 4] [] 0 (vcs := []) (vals := [.sl false 4 (List.map e_T_api_Sample l_1), .int .i64 o_2, .int .i64 (w_i64 (i_1 + (1 : Int)))]) (bxs := []) (by kernel_rfl) hmix trivial ?_
    exact ⟨_, (sub_wk [] [] [(0, .sl false 4 (List.map e_T_api_Sample l_1)), (3, .int .i64 o_2), (4, .int .i64 (w_i64 (i_1 + (1 : Int))))] [] (vcs := [(4 = 4 : Prop), ((List.map e_T_api_Sample l_1) = (List.map e_T_api_Sample l_1) : Prop), ((!false || false) = true : Prop), ((.int .i64 o_2 : AV) = .int .i64 o_2 : Prop), ((.int .i64 (w_i64 (i_1 + (1 : Int))) : AV) = .int .i64 (w_i64 (i_1 + (1 : Int))) : Prop)]) (by kernel_rfl) ⟨rfl, rfl, rfl, rfl, rfl, trivial⟩), _, _, rfl, h⟩
  refine aw_seq (by kernel_rfl) ?_
  refine aw_region [] [2] [] 0 (vcs := []) (vals := [.int .i64 o_1]) (bxs := []) (by kernel_rfl) hmix trivial ?_
  refine aw_ret (by kernel_rfl) ?_
  replace h := Option.some.inj h; subst h
  exact ⟨.inr rfl, Nat.le_of_ble_eq_true rfl, by kernel_rfl⟩

theorem L29_SampleChecks_ok (F : Nat) (l_1 : List (T_api_Sample)) (s_1 : T_api_Span) (name_1 : List Int) (r : Bool) (h : L29_SampleChecks F l_1 s_1 name_1 = some r) : Triple prog 5 [] [.sl false 4 (List.map e_T_api_Sample l_1), .agg [.int .i64 s_1.From, .int .i64 s_1.To], .str name_1] [] (.bool r) := by
  refine triple_intro (fn := Go.Proofs.Try.f5) (code := codeOf Go.Proofs.Try.f5) (by kernel_rfl) (by kernel_rfl) (Nat.le_of_ble_eq_true (by kernel_rfl)) ?_
  unfold L29_SampleChecks at h
  refine aw_seq (by kernel_rfl) ?_
  refine aw_region [(0, { id := 0 })] [0, 2, 4] [0] 1 (vcs := []) (vals := [.sl false 4 (List.map e_T_api_Sample l_1), .str name_1, .ptr 0 0 0 0]) (bxs := [.live (.var 44 [.int .i64 s_1.From, .int .i64 s_1.To])]) (by kernel_rfl) hmix trivial ?_
  refine aw_seq (by kernel_rfl) ?_
  refine aw_seq (by kernel_rfl) ?_
  obtain ⟨p_1, h_3, h⟩ := bind_some h
  refine aw_mid (mk [(0, .sl false 4 (List.map e_T_api_Sample l_1)), (2, .str name_1), (4, .ptr 0 0 0 0), (18, .bool p_1)] [(0, .live (.var 44 [.int .i64 s_1.From, .int .i64 s_1.To]))] 1) ?_ ?_
  · replace h := h_3
    obtain ⟨r_1, h_1, h⟩ := bind_some h
    rcases Bool.eq_false_or_eq_true (!r_1) with gg_1 | gg_1
    · replace h := cond_t gg_1 h
      refine aw_region [(0, { av := .bool r_1, l := [] }), (3, { g := false }), (4, { g := false }), (5, { g := false }), (6, { b := true }), (8, { g := false }), (9, { g := false }), (10, { g := false }), (11, { b := true })] [0, 2, 4, 18] [0] 1 (vcs := [([] : List AV) = [], ([] : List BoxSt) = [], Triple prog 8 [] [] [] (.bool r_1), (!r_1) = !false, (!r_1) = !false, (!r_1) = !false, (!r_1) = true, true = !false, true = !false, true = !false, true = true]) (vals := [.sl false 4 (List.map e_T_api_Sample l_1), .str name_1, .ptr 0 0 0 0, .bool true]) (bxs := [.live (.var 44 [.int .i64 s_1.From, .int .i64 s_1.To])]) (by kernel_rfl) hmix ⟨rfl, rfl, (L29_awake_ok F r_1 h_1), gg_1, gg_1, gg_1, gg_1, rfl, rfl, rfl, rfl, trivial⟩ ?_
      replace h := Option.some.inj h; subst h
      exact ⟨rfl, (sub_wk [0] [] [(0, .sl false 4 (List.map e_T_api_Sample l_1)), (2, .str name_1), (4, .ptr 0 0 0 0), (18, .bool true)] [(0, .live (.var 44 [.int .i64 s_1.From, .int .i64 s_1.To]))] (vcs := [(4 = 4 : Prop), ((List.map e_T_api_Sample l_1) = (List.map e_T_api_Sample l_1) : Prop), ((!false || false) = true : Prop), ((.str name_1 : AV) = .str name_1 : Prop), ((.ptr 0 0 0 0 : AV) = .ptr 0 0 0 0 : Prop), ((.bool true : AV) = .bool true : Prop), (44 = 44 : Prop), (ones [.int .i64 s_1.From, .int .i64 s_1.To] = true : Prop), ((.int .i64 s_1.From : AV) = .int .i64 s_1.From : Prop), ((.int .i64 s_1.To : AV) = .int .i64 s_1.To : Prop)]) (by kernel_rfl) ⟨rfl, rfl, rfl, rfl, rfl, rfl, rfl, rfl, rfl, rfl, trivial⟩)⟩
    · replace h := cond_f gg_1 h
      obtain ⟨r_2, h_2, h⟩ := bind_some h
      rcases Bool.eq_false_or_eq_true (!r_2) with gg_2 | gg_2
      · replace h := cond_t gg_2 h
        refine aw_region [(0, { av := .bool r_1, l := [] }), (4, { av := .bool r_2, l := [.sl false 4 (List.map e_T_api_Sample l_1)] }), (6, { b := false }), (8, { g := false }), (9, { g := false }), (10, { g := false }), (11, { b := true })] [0, 2, 4, 18] [0] 1 (vcs := [([] : List AV) = [], ([] : List BoxSt) = [], Triple prog 8 [] [] [] (.bool r_1), (!r_1) = false, (!r_1) = false, ([.sl false 4 (List.map e_T_api_Sample l_1)] : List AV) = [.sl false 4 (List.map e_T_api_Sample l_1)], ([] : List BoxSt) = [], Triple prog 14 [] [.sl false 4 (List.map e_T_api_Sample l_1)] [] (.bool r_2), (!r_1) = false, (!r_1) = false, (!r_2) = !false, (!r_2) = !false, (!r_2) = !false, (!r_2) = true]) (vals := [.sl false 4 (List.map e_T_api_Sample l_1), .str name_1, .ptr 0 0 0 0, .bool true]) (bxs := [.live (.var 44 [.int .i64 s_1.From, .int .i64 s_1.To])]) (by kernel_rfl) hmix ⟨rfl, rfl, (L29_awake_ok F r_1 h_1), gg_1, gg_1, rfl, rfl, (R29_Few_ok F l_1 r_2 h_2), gg_1, gg_1, gg_2, gg_2, gg_2, gg_2, trivial⟩ ?_
        replace h := Option.some.inj h; subst h
        exact ⟨rfl, (sub_wk [0] [] [(0, .sl false 4 (List.map e_T_api_Sample l_1)), (2, .str name_1), (4, .ptr 0 0 0 0), (18, .bool true)] [(0, .live (.var 44 [.int .i64 s_1.From, .int .i64 s_1.To]))] (vcs := [(4 = 4 : Prop), ((List.map e_T_api_Sample l_1) = (List.map e_T_api_Sample l_1) : Prop), ((!false || false) = true : Prop), ((.str name_1 : AV) = .str name_1 : Prop), ((.ptr 0 0 0 0 : AV) = .ptr 0 0 0 0 : Prop), ((.bool true : AV) = .bool true : Prop), (44 = 44 : Prop), (ones [.int .i64 s_1.From, .int .i64 s_1.To] = true : Prop), ((.int .i64 s_1.From : AV) = .int .i64 s_1.From : Prop), ((.int .i64 s_1.To : AV) = .int .i64 s_1.To : Prop)]) (by kernel_rfl) ⟨rfl, rfl, rfl, rfl, rfl, rfl, rfl, rfl, rfl, rfl, trivial⟩)⟩
      · replace h := cond_f gg_2 h
        refine aw_region [(0, { av := .bool r_1, l := [] }), (4, { av := .bool r_2, l := [.sl false 4 (List.map e_T_api_Sample l_1)] }), (6, { b := false }), (11, { b := false })] [0, 2, 4, 18] [0] 1 (vcs := [([] : List AV) = [], ([] : List BoxSt) = [], Triple prog 8 [] [] [] (.bool r_1), (!r_1) = false, (!r_1) = false, ([.sl false 4 (List.map e_T_api_Sample l_1)] : List AV) = [.sl false 4 (List.map e_T_api_Sample l_1)], ([] : List BoxSt) = [], Triple prog 14 [] [.sl false 4 (List.map e_T_api_Sample l_1)] [] (.bool r_2), (!r_1) = false, (!r_1) = false, (!r_2) = false, (!r_2) = false, (!r_2) = false, (!r_2) = false]) (vals := [.sl false 4 (List.map e_T_api_Sample l_1), .str name_1, .ptr 0 0 0 0, .bool (decide ((((name_1).length : Nat) : Int) > (200 : Int)))]) (bxs := [.live (.var 44 [.int .i64 s_1.From, .int .i64 s_1.To])]) (by kernel_rfl) hmix ⟨rfl, rfl, (L29_awake_ok F r_1 h_1), gg_1, gg_1, rfl, rfl, (R29_Few_ok F l_1 r_2 h_2), gg_1, gg_1, gg_2, gg_2, gg_2, gg_2, trivial⟩ ?_
        replace h := Option.some.inj h; subst h
        exact ⟨rfl, (sub_wk [0] [] [(0, .sl false 4 (List.map e_T_api_Sample l_1)), (2, .str name_1), (4, .ptr 0 0 0 0), (18, .bool (decide ((((name_1).length : Nat) : Int) > (200 : Int))))] [(0, .live (.var 44 [.int .i64 s_1.From, .int .i64 s_1.To]))] (vcs := [(4 = 4 : Prop), ((List.map e_T_api_Sample l_1) = (List.map e_T_api_Sample l_1) : Prop), ((!false || false) = true : Prop), ((.str name_1 : AV) = .str name_1 : Prop), ((.ptr 0 0 0 0 : AV) = .ptr 0 0 0 0 : Prop), ((.bool (decide ((((name_1).length : Nat) : Int) > (200 : Int))) : AV) = .bool (decide ((((name_1).length : Nat) : Int) > (200 : Int))) : Prop), (44 = 44 : Prop), (ones [.int .i64 s_1.From, .int .i64 s_1.To] = true : Prop), ((.int .i64 s_1.From : AV) = .int .i64 s_1.From : Prop), ((.int .i64 s_1.To : AV) = .int .i64 s_1.To : Prop)]) (by kernel_rfl) ⟨rfl, rfl, rfl, rfl, rfl, rfl, rfl, rfl, rfl, rfl, trivial⟩)⟩
  refine aw_cond (t := 18) (b := p_1) (by kernel_rfl) (by kernel_rfl) ?_ ?_
  · intro g_1; replace h := cond_t g_1 h
    refine aw_seq (by kernel_rfl) ?_
    obtain ⟨r_3, h_4, h⟩ := bind_some h
    refine aw_region [(0, { av := .bool r_3, l := [] })] [6] [] 1 (vcs := [([] : List AV) = [], ([] : List BoxSt) = [], Triple prog 8 [] [] [] (.bool r_3)]) (vals := [.bool r_3]) (bxs := []) (by kernel_rfl) hmix ⟨rfl, rfl, (L29_awake_ok F r_3 h_4), trivial⟩ ?_
    refine aw_ret (by kernel_rfl) ?_
    replace h := Option.some.inj h; subst h
    exact ⟨.inr rfl, Nat.le_of_ble_eq_true rfl, by kernel_rfl⟩
  intro g_1; replace h := cond_f g_1 h
  refine aw_skip (by kernel_rfl) ?_
  refine aw_seq (by kernel_rfl) ?_
  obtain ⟨p_2, h_14, h⟩ := bind_some h
  refine aw_mid (mk [(6, .bool p_2)] [] 0) ?_ ?_
  · replace h := h_14
    obtain ⟨r_4, h_5, h⟩ := bind_some h
    obtain ⟨r_5, h_6, h⟩ := bind_some h
    rcases Bool.eq_false_or_eq_true (r_4 == r_5) with gg_3 | gg_3
    · replace h := cond_t gg_3 h
      obtain ⟨r_6, h_7, h⟩ := bind_some h
      obtain ⟨r_7, h_8, h⟩ := bind_some h
      obtain ⟨r_8, h_9, h⟩ := bind_some h
      rcases Bool.eq_false_or_eq_true r_8 with gg_4 | gg_4
      · replace h := cond_t gg_4 h
        obtain ⟨r_9, h_10, h⟩ := bind_some h
        obtain ⟨r_10, h_11, h⟩ := bind_some h
        rcases Bool.eq_false_or_eq_true (r_9 == r_10) with gg_5 | gg_5
        · replace h := cond_t gg_5 h
          obtain ⟨r_11, h_12, h⟩ := bind_some h
          obtain ⟨r_12, h_13, h⟩ := bind_some h
          refine aw_region [(1, { av := .int .i64 r_4, l := [.sl false 4 (List.map e_T_api_Sample l_1)] }), (3, { av := .int .i64 r_5, l := [.sl false 4 (List.map e_T_api_Sample l_1)] }), (8, { av := .own 0 ((r_6).length), ids := [1], l := [.sl false 4 (List.map e_T_api_Sample l_1), .agg [.int .i64 s_1.From, .int .i64 s_1.To]], post := [(.row 42 4 (List.map e_T_api_Sample r_6))] }), (11, { av := .own 0 ((r_7).length), ids := [2], l := [.sl false 4 (List.map e_T_api_Sample l_1), .agg [.int .i64 s_1.From, .int .i64 s_1.To]], post := [(.row 42 4 (List.map e_T_api_Sample r_7))] }), (12, { av := .bool r_8, frz := [1, 2], l := [.sl false 4 (List.map e_T_api_Sample r_6), .sl false 4 (List.map e_T_api_Sample r_7)] }), (13, { b := true }), (17, { av := .int .i64 r_9, l := [.sl false 4 (List.map e_T_api_Sample l_1), .str name_1] }), (20, { av := .int .i64 r_10, l := [.sl false 4 (List.map e_T_api_Sample l_1), .str name_1] }), (22, { b := true }), (25, { av := .int .i64 r_11, l := [.sl false 4 (List.map e_T_api_Sample l_1)] }), (27, { av := .int .i64 r_12, l := [.sl false 4 (List.map e_T_api_Sample l_1)] }), (29, { b := true })] [6] [] 3 (vcs := [([.sl false 4 (List.map e_T_api_Sample l_1)] : List AV) = [.sl false 4 (List.map e_T_api_Sample l_1)], ([] : List BoxSt) = [], Triple prog 13 [] [.sl false 4 (List.map e_T_api_Sample l_1)] [] (.int .i64 r_4), ([.sl false 4 (List.map e_T_api_Sample l_1)] : List AV) = [.sl false 4 (List.map e_T_api_Sample l_1)], ([] : List BoxSt) = [], Triple prog 15 [] [.sl false 4 (List.map e_T_api_Sample l_1)] [] (.int .i64 r_5), (r_4 == r_5) = true, (r_4 == r_5) = true, (r_4 == r_5) = true, ([.sl false 4 (List.map e_T_api_Sample l_1), .agg [.int .i64 s_1.From, .int .i64 s_1.To]] : List AV) = [.sl false 4 (List.map e_T_api_Sample l_1), .agg [.int .i64 s_1.From, .int .i64 s_1.To]], ([] : List BoxSt) = [], Triple prog 16 [] [.sl false 4 (List.map e_T_api_Sample l_1), .agg [.int .i64 s_1.From, .int .i64 s_1.To]] [(.row 42 4 (List.map e_T_api_Sample r_6))] (.own 0 ((r_6).length)), (r_4 == r_5) = true, (r_4 == r_5) = true, (r_4 == r_5) = true, ([.sl false 4 (List.map e_T_api_Sample l_1), .agg [.int .i64 s_1.From, .int .i64 s_1.To]] : List AV) = [.sl false 4 (List.map e_T_api_Sample l_1), .agg [.int .i64 s_1.From, .int .i64 s_1.To]], ([] : List BoxSt) = [], Triple prog 17 [] [.sl false 4 (List.map e_T_api_Sample l_1), .agg [.int .i64 s_1.From, .int .i64 s_1.To]] [(.row 42 4 (List.map e_T_api_Sample r_7))] (.own 0 ((r_7).length)), (r_4 == r_5) = true, (r_6).length = ((List.map e_T_api_Sample r_6)).length, (r_7).length = ((List.map e_T_api_Sample r_7)).length, ([.sl false 4 (List.map e_T_api_Sample r_6), .sl false 4 (List.map e_T_api_Sample r_7)] : List AV) = [.sl false 4 (List.map e_T_api_Sample r_6), .sl false 4 (List.map e_T_api_Sample r_7)], ([] : List BoxSt) = [], Triple prog 10 [] [.sl false 4 (List.map e_T_api_Sample r_6), .sl false 4 (List.map e_T_api_Sample r_7)] [] (.bool r_8), (r_4 == r_5) = true, r_8 = true, r_8 = true, r_8 = true, ([.sl false 4 (List.map e_T_api_Sample l_1), .str name_1] : List AV) = [.sl false 4 (List.map e_T_api_Sample l_1), .str name_1], ([] : List BoxSt) = [], Triple prog 18 [] [.sl false 4 (List.map e_T_api_Sample l_1), .str name_1] [] (.int .i64 r_9), r_8 = true, r_8 = true, r_8 = true, ([.sl false 4 (List.map e_T_api_Sample l_1), .str name_1] : List AV) = [.sl false 4 (List.map e_T_api_Sample l_1), .str name_1], ([] : List BoxSt) = [], Triple prog 19 [] [.sl false 4 (List.map e_T_api_Sample l_1), .str name_1] [] (.int .i64 r_10), r_8 = true, r_8 = true, (r_9 == r_10) = true, (r_9 == r_10) = true, ([.sl false 4 (List.map e_T_api_Sample l_1)] : List AV) = [.sl false 4 (List.map e_T_api_Sample l_1)], ([] : List BoxSt) = [], Triple prog 20 [] [.sl false 4 (List.map e_T_api_Sample l_1)] [] (.int .i64 r_11), (r_9 == r_10) = true, (r_9 == r_10) = true, ([.sl false 4 (List.map e_T_api_Sample l_1)] : List AV) = [.sl false 4 (List.map e_T_api_Sample l_1)], ([] : List BoxSt) = [], Triple prog 21 [] [.sl false 4 (List.map e_T_api_Sample l_1)] [] (.int .i64 r_12), (r_9 == r_10) = true, (r_9 == r_10) = true]) (vals := [.bool (r_11 == r_12)]) (bxs := []) (by kernel_rfl) hmix ⟨rfl, rfl, (sample_Check_ok F l_1 r_4 h_5), rfl, rfl, (R29_Check_ok F l_1 r_5 h_6), gg_3, gg_3, gg_3, rfl, rfl, (sample_Within_ok F l_1 s_1 r_6 h_7), gg_3, gg_3, gg_3, rfl, rfl, (R29_Within_ok F l_1 s_1 r_7 h_8), gg_3, (by first | (simp; done) | (simp; omega)), (by first | (simp; done) | (simp; omega)), rfl, rfl, (R29_Same_ok F r_6 r_7 r_8 h_9), gg_3, gg_4, gg_4, gg_4, rfl, rfl, (sample_Leaf_ok F l_1 name_1 r_9 h_10), gg_4, gg_4, gg_4, rfl, rfl, (R29_Leaf_ok F l_1 name_1 r_10 h_11), gg_4, gg_4, gg_5, gg_5, rfl, rfl, (sample_Total_ok F l_1 r_11 h_12), gg_5, gg_5, rfl, rfl, (R29_Total_ok F l_1 r_12 h_13), gg_5, gg_5, trivial⟩ ?_
          replace h := Option.some.inj h; subst h
          exact ⟨rfl, (sub_wk [] [] [(6, .bool (r_11 == r_12))] [] (vcs := [((.bool (r_11 == r_12) : AV) = .bool (r_11 == r_12) : Prop)]) (by kernel_rfl) ⟨rfl, trivial⟩)⟩
        · replace h := cond_f gg_5 h
          refine aw_region [(1, { av := .int .i64 r_4, l := [.sl false 4 (List.map e_T_api_Sample l_1)] }), (3, { av := .int .i64 r_5, l := [.sl false 4 (List.map e_T_api_Sample l_1)] }), (8, { av := .own 0 ((r_6).length), ids := [1], l := [.sl false 4 (List.map e_T_api_Sample l_1), .agg [.int .i64 s_1.From, .int .i64 s_1.To]], post := [(.row 42 4 (List.map e_T_api_Sample r_6))] }), (11, { av := .own 0 ((r_7).length), ids := [2], l := [.sl false 4 (List.map e_T_api_Sample l_1), .agg [.int .i64 s_1.From, .int .i64 s_1.To]], post := [(.row 42 4 (List.map e_T_api_Sample r_7))] }), (12, { av := .bool r_8, frz := [1, 2], l := [.sl false 4 (List.map e_T_api_Sample r_6), .sl false 4 (List.map e_T_api_Sample r_7)] }), (13, { b := true }), (17, { av := .int .i64 r_9, l := [.sl false 4 (List.map e_T_api_Sample l_1), .str name_1] }), (20, { av := .int .i64 r_10, l := [.sl false 4 (List.map e_T_api_Sample l_1), .str name_1] }), (22, { b := true }), (24, { g := false }), (25, { g := false }), (26, { g := false }), (27, { g := false }), (28, { g := false }), (29, { b := false })] [6] [] 3 (vcs := [([.sl false 4 (List.map e_T_api_Sample l_1)] : List AV) = [.sl false 4 (List.map e_T_api_Sample l_1)], ([] : List BoxSt) = [], Triple prog 13 [] [.sl false 4 (List.map e_T_api_Sample l_1)] [] (.int .i64 r_4), ([.sl false 4 (List.map e_T_api_Sample l_1)] : List AV) = [.sl false 4 (List.map e_T_api_Sample l_1)], ([] : List BoxSt) = [], Triple prog 15 [] [.sl false 4 (List.map e_T_api_Sample l_1)] [] (.int .i64 r_5), (r_4 == r_5) = true, (r_4 == r_5) = true, (r_4 == r_5) = true, ([.sl false 4 (List.map e_T_api_Sample l_1), .agg [.int .i64 s_1.From, .int .i64 s_1.To]] : List AV) = [.sl false 4 (List.map e_T_api_Sample l_1), .agg [.int .i64 s_1.From, .int .i64 s_1.To]], ([] : List BoxSt) = [], Triple prog 16 [] [.sl false 4 (List.map e_T_api_Sample l_1), .agg [.int .i64 s_1.From, .int .i64 s_1.To]] [(.row 42 4 (List.map e_T_api_Sample r_6))] (.own 0 ((r_6).length)), (r_4 == r_5) = true, (r_4 == r_5) = true, (r_4 == r_5) = true, ([.sl false 4 (List.map e_T_api_Sample l_1), .agg [.int .i64 s_1.From, .int .i64 s_1.To]] : List AV) = [.sl false 4 (List.map e_T_api_Sample l_1), .agg [.int .i64 s_1.From, .int .i64 s_1.To]], ([] : List BoxSt) = [], Triple prog 17 [] [.sl false 4 (List.map e_T_api_Sample l_1), .agg [.int .i64 s_1.From, .int .i64 s_1.To]] [(.row 42 4 (List.map e_T_api_Sample r_7))] (.own 0 ((r_7).length)), (r_4 == r_5) = true, (r_6).length = ((List.map e_T_api_Sample r_6)).length, (r_7).length = ((List.map e_T_api_Sample r_7)).length, ([.sl false 4 (List.map e_T_api_Sample r_6), .sl false 4 (List.map e_T_api_Sample r_7)] : List AV) = [.sl false 4 (List.map e_T_api_Sample r_6), .sl false 4 (List.map e_T_api_Sample r_7)], ([] : List BoxSt) = [], Triple prog 10 [] [.sl false 4 (List.map e_T_api_Sample r_6), .sl false 4 (List.map e_T_api_Sample r_7)] [] (.bool r_8), (r_4 == r_5) = true, r_8 = true, r_8 = true, r_8 = true, ([.sl false 4 (List.map e_T_api_Sample l_1), .str name_1] : List AV) = [.sl false 4 (List.map e_T_api_Sample l_1), .str name_1], ([] : List BoxSt) = [], Triple prog 18 [] [.sl false 4 (List.map e_T_api_Sample l_1), .str name_1] [] (.int .i64 r_9), r_8 = true, r_8 = true, r_8 = true, ([.sl false 4 (List.map e_T_api_Sample l_1), .str name_1] : List AV) = [.sl false 4 (List.map e_T_api_Sample l_1), .str name_1], ([] : List BoxSt) = [], Triple prog 19 [] [.sl false 4 (List.map e_T_api_Sample l_1), .str name_1] [] (.int .i64 r_10), r_8 = true, r_8 = true, (r_9 == r_10) = !true, (r_9 == r_10) = !true, (r_9 == r_10) = !true, (r_9 == r_10) = !true, (r_9 == r_10) = !true, (r_9 == r_10) = false]) (vals := [.bool false]) (bxs := []) (by kernel_rfl) hmix ⟨rfl, rfl, (sample_Check_ok F l_1 r_4 h_5), rfl, rfl, (R29_Check_ok F l_1 r_5 h_6), gg_3, gg_3, gg_3, rfl, rfl, (sample_Within_ok F l_1 s_1 r_6 h_7), gg_3, gg_3, gg_3, rfl, rfl, (R29_Within_ok F l_1 s_1 r_7 h_8), gg_3, (by first | (simp; done) | (simp; omega)), (by first | (simp; done) | (simp; omega)), rfl, rfl, (R29_Same_ok F r_6 r_7 r_8 h_9), gg_3, gg_4, gg_4, gg_4, rfl, rfl, (sample_Leaf_ok F l_1 name_1 r_9 h_10), gg_4, gg_4, gg_4, rfl, rfl, (R29_Leaf_ok F l_1 name_1 r_10 h_11), gg_4, gg_4, gg_5, gg_5, gg_5, gg_5, gg_5, gg_5, trivial⟩ ?_
          replace h := Option.some.inj h; subst h
          exact ⟨rfl, (sub_wk [] [] [(6, .bool false)] [] (vcs := [((.bool false : AV) = .bool false : Prop)]) (by kernel_rfl) ⟨rfl, trivial⟩)⟩
      · replace h := cond_f gg_4 h
        refine aw_region [(1, { av := .int .i64 r_4, l := [.sl false 4 (List.map e_T_api_Sample l_1)] }), (3, { av := .int .i64 r_5, l := [.sl false 4 (List.map e_T_api_Sample l_1)] }), (8, { av := .own 0 ((r_6).length), ids := [1], l := [.sl false 4 (List.map e_T_api_Sample l_1), .agg [.int .i64 s_1.From, .int .i64 s_1.To]], post := [(.row 42 4 (List.map e_T_api_Sample r_6))] }), (11, { av := .own 0 ((r_7).length), ids := [2], l := [.sl false 4 (List.map e_T_api_Sample l_1), .agg [.int .i64 s_1.From, .int .i64 s_1.To]], post := [(.row 42 4 (List.map e_T_api_Sample r_7))] }), (12, { av := .bool r_8, frz := [1, 2], l := [.sl false 4 (List.map e_T_api_Sample r_6), .sl false 4 (List.map e_T_api_Sample r_7)] }), (13, { b := true }), (15, { g := false }), (16, { g := false }), (17, { g := false }), (18, { g := false }), (19, { g := false }), (20, { g := false }), (21, { g := false }), (22, { b := false }), (24, { g := false }), (25, { g := false }), (26, { g := false }), (27, { g := false }), (28, { g := false }), (29, { b := false })] [6] [] 3 (vcs := [([.sl false 4 (List.map e_T_api_Sample l_1)] : List AV) = [.sl false 4 (List.map e_T_api_Sample l_1)], ([] : List BoxSt) = [], Triple prog 13 [] [.sl false 4 (List.map e_T_api_Sample l_1)] [] (.int .i64 r_4), ([.sl false 4 (List.map e_T_api_Sample l_1)] : List AV) = [.sl false 4 (List.map e_T_api_Sample l_1)], ([] : List BoxSt) = [], Triple prog 15 [] [.sl false 4 (List.map e_T_api_Sample l_1)] [] (.int .i64 r_5), (r_4 == r_5) = true, (r_4 == r_5) = true, (r_4 == r_5) = true, ([.sl false 4 (List.map e_T_api_Sample l_1), .agg [.int .i64 s_1.From, .int .i64 s_1.To]] : List AV) = [.sl false 4 (List.map e_T_api_Sample l_1), .agg [.int .i64 s_1.From, .int .i64 s_1.To]], ([] : List BoxSt) = [], Triple prog 16 [] [.sl false 4 (List.map e_T_api_Sample l_1), .agg [.int .i64 s_1.From, .int .i64 s_1.To]] [(.row 42 4 (List.map e_T_api_Sample r_6))] (.own 0 ((r_6).length)), (r_4 == r_5) = true, (r_4 == r_5) = true, (r_4 == r_5) = true, ([.sl false 4 (List.map e_T_api_Sample l_1), .agg [.int .i64 s_1.From, .int .i64 s_1.To]] : List AV) = [.sl false 4 (List.map e_T_api_Sample l_1), .agg [.int .i64 s_1.From, .int .i64 s_1.To]], ([] : List BoxSt) = [], Triple prog 17 [] [.sl false 4 (List.map e_T_api_Sample l_1), .agg [.int .i64 s_1.From, .int .i64 s_1.To]] [(.row 42 4 (List.map e_T_api_Sample r_7))] (.own 0 ((r_7).length)), (r_4 == r_5) = true, (r_6).length = ((List.map e_T_api_Sample r_6)).length, (r_7).length = ((List.map e_T_api_Sample r_7)).length, ([.sl false 4 (List.map e_T_api_Sample r_6), .sl false 4 (List.map e_T_api_Sample r_7)] : List AV) = [.sl false 4 (List.map e_T_api_Sample r_6), .sl false 4 (List.map e_T_api_Sample r_7)], ([] : List BoxSt) = [], Triple prog 10 [] [.sl false 4 (List.map e_T_api_Sample r_6), .sl false 4 (List.map e_T_api_Sample r_7)] [] (.bool r_8), (r_4 == r_5) = true, r_8 = !true, r_8 = !true, r_8 = !true, r_8 = !true, r_8 = !true, r_8 = !true, r_8 = !true, r_8 = false, false = !true, false = !true, false = !true, false = !true, false = !true, false = false]) (vals := [.bool false]) (bxs := []) (by kernel_rfl) hmix ⟨rfl, rfl, (sample_Check_ok F l_1 r_4 h_5), rfl, rfl, (R29_Check_ok F l_1 r_5 h_6), gg_3, gg_3, gg_3, rfl, rfl, (sample_Within_ok F l_1 s_1 r_6 h_7), gg_3, gg_3, gg_3, rfl, rfl, (R29_Within_ok F l_1 s_1 r_7 h_8), gg_3, (by first | (simp; done) | (simp; omega)), (by first | (simp; done) | (simp; omega)), rfl, rfl, (R29_Same_ok F r_6 r_7 r_8 h_9), gg_3, gg_4, gg_4, gg_4, gg_4, gg_4, gg_4, gg_4, gg_4, rfl, rfl, rfl, rfl, rfl, rfl, trivial⟩ ?_
        replace h := Option.some.inj h; subst h
        exact ⟨rfl, (sub_wk [] [] [(6, .bool false)] [] (vcs := [((.bool false : AV) = .bool false : Prop)]) (by kernel_rfl) ⟨rfl, trivial⟩)⟩
    · replace h := cond_f gg_3 h
      refine aw_region [(1, { av := .int .i64 r_4, l := [.sl false 4 (List.map e_T_api_Sample l_1)] }), (3, { av := .int .i64 r_5, l := [.sl false 4 (List.map e_T_api_Sample l_1)] }), (6, { g := false }), (7, { g := false }), (8, { g := false }), (9, { g := false }), (10, { g := false }), (11, { g := false }), (12, { g := false }), (13, { b := false }), (15, { g := false }), (16, { g := false }), (17, { g := false }), (18, { g := false }), (19, { g := false }), (20, { g := false }), (21, { g := false }), (22, { b := false }), (24, { g := false }), (25, { g := false }), (26, { g := false }), (27, { g := false }), (28, { g := false }), (29, { b := false })] [6] [] 1 (vcs := [([.sl false 4 (List.map e_T_api_Sample l_1)] : List AV) = [.sl false 4 (List.map e_T_api_Sample l_1)], ([] : List BoxSt) = [], Triple prog 13 [] [.sl false 4 (List.map e_T_api_Sample l_1)] [] (.int .i64 r_4), ([.sl false 4 (List.map e_T_api_Sample l_1)] : List AV) = [.sl false 4 (List.map e_T_api_Sample l_1)], ([] : List BoxSt) = [], Triple prog 15 [] [.sl false 4 (List.map e_T_api_Sample l_1)] [] (.int .i64 r_5), (r_4 == r_5) = !true, (r_4 == r_5) = !true, (r_4 == r_5) = !true, (r_4 == r_5) = !true, (r_4 == r_5) = !true, (r_4 == r_5) = !true, (r_4 == r_5) = !true, (r_4 == r_5) = false, false = !true, false = !true, false = !true, false = !true, false = !true, false = !true, false = !true, false = false, false = !true, false = !true, false = !true, false = !true, false = !true, false = false]) (vals := [.bool false]) (bxs := []) (by kernel_rfl) hmix ⟨rfl, rfl, (sample_Check_ok F l_1 r_4 h_5), rfl, rfl, (R29_Check_ok F l_1 r_5 h_6), gg_3, gg_3, gg_3, gg_3, gg_3, gg_3, gg_3, gg_3, rfl, rfl, rfl, rfl, rfl, rfl, rfl, rfl, rfl, rfl, rfl, rfl, rfl, rfl, trivial⟩ ?_
      replace h := Option.some.inj h; subst h
      exact ⟨rfl, (sub_wk [] [] [(6, .bool false)] [] (vcs := [((.bool false : AV) = .bool false : Prop)]) (by kernel_rfl) ⟨rfl, trivial⟩)⟩
  refine aw_ret (by kernel_rfl) ?_
  replace h := Option.some.inj h; subst h
  exact ⟨.inr rfl, Nat.le_of_ble_eq_true rfl, by kernel_rfl⟩

end Go.Ab
