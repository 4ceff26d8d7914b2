/- Printed: the typed Lean functions of the Go functions, or the proofs that the Go functions meet them. No conditions but those that the theorems name. -/
import Derived.Test.YtbmhiadpagpjmaaP05xD
import Derived.Test.YtbmhiadpagpjmaaProg
namespace Go.Ab
open Go
set_option linter.unusedVariables false
noncomputable abbrev prog := Go.Proofs.Try.prog
theorem hmix : prog.follows .mixedOrders = true := by kernel_rfl

theorem ci_ok (u_1 : Int) (r : Int) (h : ci u_1 = some r) : Triple prog 22 [] [.int .u64 u_1] [] (.int .i64 r) := by
  refine triple_intro (fn := Go.Proofs.Try.f22) (code := codeOf Go.Proofs.Try.f22) (by kernel_rfl) (by kernel_rfl) (Nat.le_of_ble_eq_true (by kernel_rfl)) ?_
  unfold ci at h
  refine aw_seq (by kernel_rfl) ?_
  refine aw_region [] [0] [] 0 (vcs := []) (vals := [.int .u64 u_1]) (bxs := []) (by kernel_rfl) hmix trivial ?_
  refine aw_seq (by kernel_rfl) ?_
  refine aw_region [] [2] [] 0 (vcs := [(0 : Int) ≤ (1 : Int)]) (vals := [.int .i64 (ixor .i64 (w_i64 (ishr .u64 u_1 (1 : Int))) (w_i64 (0 - (w_i64 (iand .u64 u_1 (1 : Int))))))]) (bxs := []) (by kernel_rfl) hmix ⟨(by decide), trivial⟩ ?_
  refine aw_ret (by kernel_rfl) ?_
  replace h := Option.some.inj h; subst h
  exact ⟨.inr rfl, Nat.le_of_ble_eq_true rfl, by kernel_rfl⟩

theorem ri_ok (u_1 : Int) (r : Int) (h : ri u_1 = some r) : Triple prog 23 [] [.int .u64 u_1] [] (.int .i64 r) := by
  refine triple_intro (fn := Go.Proofs.Try.f23) (code := codeOf Go.Proofs.Try.f23) (by kernel_rfl) (by kernel_rfl) (Nat.le_of_ble_eq_true (by kernel_rfl)) ?_
  unfold ri at h
  refine aw_seq (by kernel_rfl) ?_
  refine aw_region [] [0] [] 0 (vcs := []) (vals := [.int .u64 u_1]) (bxs := []) (by kernel_rfl) hmix trivial ?_
  refine aw_seq (by kernel_rfl) ?_
  refine aw_seq (by kernel_rfl) ?_
  refine aw_region [] [0, 5] [] 0 (vcs := [(2 : Int) ≠ (0 : Int)]) (vals := [.int .u64 u_1, .bool ((irem u_1 (2 : Int)) == (1 : Int))]) (bxs := []) (by kernel_rfl) hmix ⟨(by decide), trivial⟩ ?_
  refine aw_cond (t := 5) (b := ((irem u_1 (2 : Int)) == (1 : Int))) (by kernel_rfl) (by kernel_rfl) ?_ ?_
  · intro g_1; replace h := cond_t g_1 h
    refine aw_seq (by kernel_rfl) ?_
    refine aw_region [] [2] [] 0 (vcs := [(2 : Int) ≠ (0 : Int)]) (vals := [.int .i64 (w_i64 ((w_i64 (0 - (w_i64 (iquo .u64 u_1 (2 : Int))))) - (1 : Int)))]) (bxs := []) (by kernel_rfl) hmix ⟨(by decide), trivial⟩ ?_
    refine aw_ret (by kernel_rfl) ?_
    replace h := Option.some.inj h; subst h
    exact ⟨.inr rfl, Nat.le_of_ble_eq_true rfl, by kernel_rfl⟩
  intro g_1; replace h := cond_f g_1 h
  refine aw_skip (by kernel_rfl) ?_
  refine aw_seq (by kernel_rfl) ?_
  refine aw_region [] [2] [] 0 (vcs := [(2 : Int) ≠ (0 : Int)]) (vals := [.int .i64 (w_i64 (iquo .u64 u_1 (2 : Int)))]) (bxs := []) (by kernel_rfl) hmix ⟨(by decide), trivial⟩ ?_
  refine aw_ret (by kernel_rfl) ?_
  replace h := Option.some.inj h; subst h
  exact ⟨.inr rfl, Nat.le_of_ble_eq_true rfl, by kernel_rfl⟩

theorem cn_ok (n_1 : Int) (r : Int) (h : cn n_1 = some r) : Triple prog 24 [] [.int .i64 n_1] [] (.int .u64 r) := by
  refine triple_intro (fn := Go.Proofs.Try.f24) (code := codeOf Go.Proofs.Try.f24) (by kernel_rfl) (by kernel_rfl) (Nat.le_of_ble_eq_true (by kernel_rfl)) ?_
  unfold cn at h
  refine aw_seq (by kernel_rfl) ?_
  refine aw_region [] [0] [] 0 (vcs := []) (vals := [.int .i64 n_1]) (bxs := []) (by kernel_rfl) hmix trivial ?_
  refine aw_seq (by kernel_rfl) ?_
  refine aw_region [] [2] [] 0 (vcs := [(0 : Int) ≤ (1 : Int), (0 : Int) ≤ (63 : Int)]) (vals := [.int .u64 (ixor .u64 (ishl .u64 (w_u64 n_1) (1 : Int)) (w_u64 (ishr .i64 n_1 (63 : Int))))]) (bxs := []) (by kernel_rfl) hmix ⟨(by decide), (by decide), trivial⟩ ?_
  refine aw_ret (by kernel_rfl) ?_
  replace h := Option.some.inj h; subst h
  exact ⟨.inr rfl, Nat.le_of_ble_eq_true rfl, by kernel_rfl⟩

theorem rn_ok (n_1 : Int) (r : Int) (h : rn n_1 = some r) : Triple prog 25 [] [.int .i64 n_1] [] (.int .u64 r) := by
  refine triple_intro (fn := Go.Proofs.Try.f25) (code := codeOf Go.Proofs.Try.f25) (by kernel_rfl) (by kernel_rfl) (Nat.le_of_ble_eq_true (by kernel_rfl)) ?_
  unfold rn at h
  refine aw_seq (by kernel_rfl) ?_
  refine aw_region [] [0] [] 0 (vcs := []) (vals := [.int .i64 n_1]) (bxs := []) (by kernel_rfl) hmix trivial ?_
  refine aw_seq (by kernel_rfl) ?_
  refine aw_seq (by kernel_rfl) ?_
  refine aw_region [] [0, 4] [] 0 (vcs := []) (vals := [.int .i64 n_1, .bool (decide (n_1 < (0 : Int)))]) (bxs := []) (by kernel_rfl) hmix trivial ?_
  refine aw_cond (t := 4) (b := (decide (n_1 < (0 : Int)))) (by kernel_rfl) (by kernel_rfl) ?_ ?_
  · intro g_1; replace h := cond_t g_1 h
    refine aw_seq (by kernel_rfl) ?_
    refine aw_region [] [2] [] 0 (vcs := []) (vals := [.int .u64 (w_u64 ((w_u64 ((2 : Int) * (w_u64 (w_i64 (0 - (w_i64 (n_1 + (1 : Int)))))))) + (1 : Int)))]) (bxs := []) (by kernel_rfl) hmix trivial ?_
    refine aw_ret (by kernel_rfl) ?_
    replace h := Option.some.inj h; subst h
    exact ⟨.inr rfl, Nat.le_of_ble_eq_true rfl, by kernel_rfl⟩
  intro g_1; replace h := cond_f g_1 h
  refine aw_skip (by kernel_rfl) ?_
  refine aw_seq (by kernel_rfl) ?_
  refine aw_region [] [2] [] 0 (vcs := []) (vals := [.int .u64 (w_u64 ((2 : Int) * (w_u64 n_1)))]) (bxs := []) (by kernel_rfl) hmix trivial ?_
  refine aw_ret (by kernel_rfl) ?_
  replace h := Option.some.inj h; subst h
  exact ⟨.inr rfl, Nat.le_of_ble_eq_true rfl, by kernel_rfl⟩

theorem cInt_ok (F : Nat) (b_1 : List (Int)) (r : Int × Int × Int) (h : cInt F b_1 = some r) : Triple prog 12 [] [.sl false 1 (List.map (AV.int .u8) b_1)] [] (.tuple [.int .i64 r.1, .int .i64 r.2.1, .int .i64 r.2.2]) := by
  refine triple_intro (fn := Go.Proofs.Try.f12) (code := codeOf Go.Proofs.Try.f12) (by kernel_rfl) (by kernel_rfl) (Nat.le_of_ble_eq_true (by kernel_rfl)) ?_
  unfold cInt at h
  refine aw_seq (by kernel_rfl) ?_
  refine aw_region [] [0] [] 0 (vcs := []) (vals := [.sl false 1 (List.map (AV.int .u8) b_1)]) (bxs := []) (by kernel_rfl) hmix trivial ?_
  refine aw_seq (by kernel_rfl) ?_
  refine aw_region [] [0, 5] [] 0 (vcs := []) (vals := [.sl false 1 (List.map (AV.int .u8) b_1), .int .u64 (0 : Int)]) (bxs := []) (by kernel_rfl) hmix trivial ?_
  refine aw_seq (by kernel_rfl) ?_
  refine aw_seq (by kernel_rfl) ?_
  refine aw_region [(1, { n := (b_1).length })] [5, 8, 9, 10] [] 0 (vcs := [((List.map (AV.int .u8) b_1)).length = (b_1).length]) (vals := [.int .u64 (0 : Int), .sl false 1 (List.map (AV.int .u8) b_1), .int .i64 (((b_1).length : Nat) : Int), .int .i64 (0 : Int)]) (bxs := []) (by kernel_rfl) hmix ⟨(vc_len _), trivial⟩ ?_
  obtain ⟨o_1, h_1, h⟩ := bind_some h
  refine aw_conv (K1 := (fun e st' => match o_1 with | (.inl q0) => e = .normal ∧ Sub 0 st' (mk [] [] 0) | (.inr q1) => e = .ret ∧ FinR prog Go.Proofs.Try.f12 0 [] (.tuple [.int .i64 q1.1, .int .i64 q1.2.1, .int .i64 q1.2.2]) st')) ?_ ?_
  · replace h := h_1
    refine aw_block (id := 0) (by kernel_rfl) ?_
    refine aw_sub (sub_wk [] [] [(5, .int .u64 (0 : Int)), (8, .sl false 1 (List.map (AV.int .u8) b_1)), (9, .int .i64 (((b_1).length : Nat) : Int)), (10, .int .i64 (0 : Int))] [] (vcs := [((.int .u64 (0 : Int) : AV) = .int .u64 (0 : Int) : Prop), (1 = 1 : Prop), ((List.map (AV.int .u8) b_1) = (List.map (AV.int .u8) b_1) : Prop), ((!false || false) = true : Prop), ((.int .i64 (((b_1).length : Nat) : Int) : AV) = .int .i64 (((b_1).length : Nat) : Int) : Prop), ((.int .i64 (0 : Int) : AV) = .int .i64 (0 : Int) : Prop)]) (by kernel_rfl) ⟨rfl, rfl, rfl, rfl, rfl, rfl, trivial⟩) ?_
    refine aw_loopF (fun n st => ∃ (u_1 : Int), ∃ (v_1 : Int), st = mk [(5, .int .u64 u_1), (8, .sl false 1 (List.map (AV.int .u8) b_1)), (9, .int .i64 (((b_1).length : Nat) : Int)), (10, .int .i64 v_1)] [] 0 ∧ cInt_L1 F b_1 n u_1 v_1 = some o_1) F (by kernel_rfl) ⟨_, _, rfl, h⟩ ?_ ?_
    · rintro _ ⟨_, _, _, h⟩; exact none_ne (h : (none : Option (Unit ⊕ (Int × Int × Int))) = some o_1)
    rintro n_1 _ ⟨u_1, v_1, rfl, h⟩
    replace h : cInt_L1_body F b_1 (cInt_L1 F b_1 n_1) u_1 v_1 = some o_1 := h
    unfold cInt_L1_body at h
    refine aw_seq (by kernel_rfl) ?_
    refine aw_region [] [5, 8, 9, 10, 11] [] 0 (vcs := []) (vals := [.int .u64 u_1, .sl false 1 (List.map (AV.int .u8) b_1), .int .i64 (((b_1).length : Nat) : Int), .int .i64 v_1, .bool (decide (v_1 < (((b_1).length : Nat) : Int)))]) (bxs := []) (by kernel_rfl) hmix trivial ?_
    refine aw_seq (by kernel_rfl) ?_
    refine aw_cond (t := 11) (b := (decide (v_1 < (((b_1).length : Nat) : Int)))) (by kernel_rfl) (by kernel_rfl) ?_ ?_
    rotate_left
    · intro g_1; replace h := cond_f g_1 h
      refine aw_exit (id := 0) (by kernel_rfl) ?_
      replace h := Option.some.inj h; subst h
      exact ⟨rfl, (sub_wk [] [] [] [] (vcs := []) (by kernel_rfl) trivial)⟩
    intro g_1; replace h := cond_t g_1 h
    refine aw_skip (by kernel_rfl) ?_
    refine aw_seq (by kernel_rfl) ?_
    refine aw_block (id := 1) (by kernel_rfl) ?_
    refine aw_seq (by kernel_rfl) ?_
    obtain ⟨x_1, h_2, h⟩ := bind_some h
    refine aw_region [(1, { av := .int .u8 x_1 })] [5, 6, 7, 8, 9, 10] [] 0 (vcs := [idxA (List.map (AV.int .u8) b_1) v_1 = some (.int .u8 x_1)]) (vals := [.int .u64 u_1, .int .i64 v_1, .int .u8 x_1, .sl false 1 (List.map (AV.int .u8) b_1), .int .i64 (((b_1).length : Nat) : Int), .int .i64 v_1]) (bxs := []) (by kernel_rfl) hmix ⟨(vc_idx h_2), trivial⟩ ?_
    refine aw_seq (by kernel_rfl) ?_
    refine aw_seq (by kernel_rfl) ?_
    refine aw_mid (mk [(5, .int .u64 u_1), (6, .int .i64 v_1), (7, .int .u8 x_1), (8, .sl false 1 (List.map (AV.int .u8) b_1)), (9, .int .i64 (((b_1).length : Nat) : Int)), (10, .int .i64 v_1), (20, .bool ((v_1 == (9 : Int)) && decide (x_1 > (1 : Int))))] [] 0) ?_ ?_
    · rcases Bool.eq_false_or_eq_true (v_1 == (9 : Int)) with gg_7 | gg_7
      · refine aw_region [(5, { b := true })] [5, 6, 7, 8, 9, 10, 18, 19, 20] [] 0 (vcs := [(v_1 == (9 : Int)) = true, (v_1 == (9 : Int)) = true, (v_1 == (9 : Int)) = true]) (vals := [.int .u64 u_1, .int .i64 v_1, .int .u8 x_1, .sl false 1 (List.map (AV.int .u8) b_1), .int .i64 (((b_1).length : Nat) : Int), .int .i64 v_1, .int .u8 x_1, .bool (decide (x_1 > (1 : Int))), .bool (decide (x_1 > (1 : Int)))]) (bxs := []) (by kernel_rfl) hmix ⟨gg_7, gg_7, gg_7, trivial⟩ ?_
        exact ⟨rfl, (sub_wk [] [] [(5, .int .u64 u_1), (6, .int .i64 v_1), (7, .int .u8 x_1), (8, .sl false 1 (List.map (AV.int .u8) b_1)), (9, .int .i64 (((b_1).length : Nat) : Int)), (10, .int .i64 v_1), (20, .bool ((v_1 == (9 : Int)) && decide (x_1 > (1 : Int))))] [] (vcs := [((.int .u64 u_1 : AV) = .int .u64 u_1 : Prop), ((.int .i64 v_1 : AV) = .int .i64 v_1 : Prop), ((.int .u8 x_1 : AV) = .int .u8 x_1 : Prop), (1 = 1 : Prop), ((List.map (AV.int .u8) b_1) = (List.map (AV.int .u8) b_1) : Prop), ((!false || false) = true : Prop), ((.int .i64 (((b_1).length : Nat) : Int) : AV) = .int .i64 (((b_1).length : Nat) : Int) : Prop), ((.int .i64 v_1 : AV) = .int .i64 v_1 : Prop), ((.bool (decide (x_1 > (1 : Int))) : AV) = .bool ((v_1 == (9 : Int)) && decide (x_1 > (1 : Int))) : Prop)]) (by kernel_rfl) ⟨rfl, rfl, rfl, rfl, rfl, rfl, rfl, rfl, (congrArg AV.bool (andt gg_7 rfl)), trivial⟩)⟩
      · refine aw_region [(3, { g := false }), (4, { g := false }), (5, { b := false })] [5, 6, 7, 8, 9, 10, 18, 19, 20] [] 0 (vcs := [(v_1 == (9 : Int)) = !true, (v_1 == (9 : Int)) = !true, (v_1 == (9 : Int)) = false]) (vals := [.int .u64 u_1, .int .i64 v_1, .int .u8 x_1, .sl false 1 (List.map (AV.int .u8) b_1), .int .i64 (((b_1).length : Nat) : Int), .int .i64 v_1, .tuple [], .tuple [], .bool false]) (bxs := []) (by kernel_rfl) hmix ⟨gg_7, gg_7, gg_7, trivial⟩ ?_
        exact ⟨rfl, (sub_wk [] [] [(5, .int .u64 u_1), (6, .int .i64 v_1), (7, .int .u8 x_1), (8, .sl false 1 (List.map (AV.int .u8) b_1)), (9, .int .i64 (((b_1).length : Nat) : Int)), (10, .int .i64 v_1), (20, .bool ((v_1 == (9 : Int)) && decide (x_1 > (1 : Int))))] [] (vcs := [((.int .u64 u_1 : AV) = .int .u64 u_1 : Prop), ((.int .i64 v_1 : AV) = .int .i64 v_1 : Prop), ((.int .u8 x_1 : AV) = .int .u8 x_1 : Prop), (1 = 1 : Prop), ((List.map (AV.int .u8) b_1) = (List.map (AV.int .u8) b_1) : Prop), ((!false || false) = true : Prop), ((.int .i64 (((b_1).length : Nat) : Int) : AV) = .int .i64 (((b_1).length : Nat) : Int) : Prop), ((.int .i64 v_1 : AV) = .int .i64 v_1 : Prop), ((.bool false : AV) = .bool ((v_1 == (9 : Int)) && decide (x_1 > (1 : Int))) : Prop)]) (by kernel_rfl) ⟨rfl, rfl, rfl, rfl, rfl, rfl, rfl, rfl, (congrArg AV.bool (andf gg_7)), trivial⟩)⟩
    refine aw_cond (t := 20) (b := ((v_1 == (9 : Int)) && decide (x_1 > (1 : Int)))) (by kernel_rfl) (by kernel_rfl) ?_ ?_
    · intro g_2; replace h := cond_t g_2 h
      refine aw_seq (by kernel_rfl) ?_
      refine aw_region [] [2, 3, 4] [] 0 (vcs := []) (vals := [.int .i64 (0 : Int), .int .i64 (0 : Int), .int .i64 (10 : Int)]) (bxs := []) (by kernel_rfl) hmix trivial ?_
      refine aw_ret (by kernel_rfl) ?_
      replace h := Option.some.inj h; subst h
      exact ⟨rfl, Nat.le_of_ble_eq_true rfl, by kernel_rfl⟩
    intro g_2; replace h := cond_f g_2 h
    refine aw_skip (by kernel_rfl) ?_
    refine aw_seq (by kernel_rfl) ?_
    obtain ⟨_, h_3, h⟩ := bind_some h; replace h_3 := need_some h_3
    refine aw_region [] [5, 6, 7, 8, 9, 10] [] 0 (vcs := [(0 : Int) ≤ (w_i64 ((7 : Int) * v_1))]) (vals := [.int .u64 (ior .u64 u_1 (ishl .u64 (w_u64 (iand .u8 x_1 (127 : Int))) (w_i64 ((7 : Int) * v_1)))), .int .i64 v_1, .int .u8 x_1, .sl false 1 (List.map (AV.int .u8) b_1), .int .i64 (((b_1).length : Nat) : Int), .int .i64 v_1]) (bxs := []) (by kernel_rfl) hmix ⟨h_3, trivial⟩ ?_
    refine aw_seq (by kernel_rfl) ?_
    refine aw_seq (by kernel_rfl) ?_
    refine aw_region [] [5, 6, 7, 8, 9, 10, 30] [] 0 (vcs := []) (vals := [.int .u64 (ior .u64 u_1 (ishl .u64 (w_u64 (iand .u8 x_1 (127 : Int))) (w_i64 ((7 : Int) * v_1)))), .int .i64 v_1, .int .u8 x_1, .sl false 1 (List.map (AV.int .u8) b_1), .int .i64 (((b_1).length : Nat) : Int), .int .i64 v_1, .bool (decide (x_1 ≥ (128 : Int)))]) (bxs := []) (by kernel_rfl) hmix trivial ?_
    refine aw_cond (t := 30) (b := (decide (x_1 ≥ (128 : Int)))) (by kernel_rfl) (by kernel_rfl) ?_ ?_
    · intro g_3; replace h := cond_t g_3 h
      refine aw_exit (id := 1) (by kernel_rfl) ?_
      refine aw_region [] [5, 8, 9, 10] [] 0 (vcs := []) (vals := [.int .u64 (ior .u64 u_1 (ishl .u64 (w_u64 (iand .u8 x_1 (127 : Int))) (w_i64 ((7 : Int) * v_1)))), .sl false 1 (List.map (AV.int .u8) b_1), .int .i64 (((b_1).length : Nat) : Int), .int .i64 (w_i64 (v_1 + (1 : Int)))]) (bxs := []) (by kernel_rfl) hmix trivial ?_
      exact ⟨_, (sub_wk [] [] [(5, .int .u64 (ior .u64 u_1 (ishl .u64 (w_u64 (iand .u8 x_1 (127 : Int))) (w_i64 ((7 : Int) * v_1))))), (8, .sl false 1 (List.map (AV.int .u8) b_1)), (9, .int .i64 (((b_1).length : Nat) : Int)), (10, .int .i64 (w_i64 (v_1 + (1 : Int))))] [] (vcs := [((.int .u64 (ior .u64 u_1 (ishl .u64 (w_u64 (iand .u8 x_1 (127 : Int))) (w_i64 ((7 : Int) * v_1)))) : AV) = .int .u64 (ior .u64 u_1 (ishl .u64 (w_u64 (iand .u8 x_1 (127 : Int))) (w_i64 ((7 : Int) * v_1)))) : Prop), (1 = 1 : Prop), ((List.map (AV.int .u8) b_1) = (List.map (AV.int .u8) b_1) : Prop), ((!false || false) = true : Prop), ((.int .i64 (((b_1).length : Nat) : Int) : AV) = .int .i64 (((b_1).length : Nat) : Int) : Prop), ((.int .i64 (w_i64 (v_1 + (1 : Int))) : AV) = .int .i64 (w_i64 (v_1 + (1 : Int))) : Prop)]) (by kernel_rfl) ⟨rfl, rfl, rfl, rfl, rfl, rfl, trivial⟩), _, _, rfl, h⟩
    intro g_3; replace h := cond_f g_3 h
    refine aw_skip (by kernel_rfl) ?_
    refine aw_seq (by kernel_rfl) ?_
    refine aw_seq (by kernel_rfl) ?_
    refine aw_mid (mk [(5, .int .u64 (ior .u64 u_1 (ishl .u64 (w_u64 (iand .u8 x_1 (127 : Int))) (w_i64 ((7 : Int) * v_1))))), (6, .int .i64 v_1), (36, .bool ((x_1 == (0 : Int)) && decide (v_1 > (0 : Int))))] [] 0) ?_ ?_
    · rcases Bool.eq_false_or_eq_true (x_1 == (0 : Int)) with gg_8 | gg_8
      · refine aw_region [(5, { b := true })] [5, 6, 36] [] 0 (vcs := [(x_1 == (0 : Int)) = true, (x_1 == (0 : Int)) = true, (x_1 == (0 : Int)) = true]) (vals := [.int .u64 (ior .u64 u_1 (ishl .u64 (w_u64 (iand .u8 x_1 (127 : Int))) (w_i64 ((7 : Int) * v_1)))), .int .i64 v_1, .bool (decide (v_1 > (0 : Int)))]) (bxs := []) (by kernel_rfl) hmix ⟨gg_8, gg_8, gg_8, trivial⟩ ?_
        exact ⟨rfl, (sub_wk [] [] [(5, .int .u64 (ior .u64 u_1 (ishl .u64 (w_u64 (iand .u8 x_1 (127 : Int))) (w_i64 ((7 : Int) * v_1))))), (6, .int .i64 v_1), (36, .bool ((x_1 == (0 : Int)) && decide (v_1 > (0 : Int))))] [] (vcs := [((.int .u64 (ior .u64 u_1 (ishl .u64 (w_u64 (iand .u8 x_1 (127 : Int))) (w_i64 ((7 : Int) * v_1)))) : AV) = .int .u64 (ior .u64 u_1 (ishl .u64 (w_u64 (iand .u8 x_1 (127 : Int))) (w_i64 ((7 : Int) * v_1)))) : Prop), ((.int .i64 v_1 : AV) = .int .i64 v_1 : Prop), ((.bool (decide (v_1 > (0 : Int))) : AV) = .bool ((x_1 == (0 : Int)) && decide (v_1 > (0 : Int))) : Prop)]) (by kernel_rfl) ⟨rfl, rfl, (congrArg AV.bool (andt gg_8 rfl)), trivial⟩)⟩
      · refine aw_region [(3, { g := false }), (4, { g := false }), (5, { b := false })] [5, 6, 36] [] 0 (vcs := [(x_1 == (0 : Int)) = !true, (x_1 == (0 : Int)) = !true, (x_1 == (0 : Int)) = false]) (vals := [.int .u64 (ior .u64 u_1 (ishl .u64 (w_u64 (iand .u8 x_1 (127 : Int))) (w_i64 ((7 : Int) * v_1)))), .int .i64 v_1, .bool false]) (bxs := []) (by kernel_rfl) hmix ⟨gg_8, gg_8, gg_8, trivial⟩ ?_
        exact ⟨rfl, (sub_wk [] [] [(5, .int .u64 (ior .u64 u_1 (ishl .u64 (w_u64 (iand .u8 x_1 (127 : Int))) (w_i64 ((7 : Int) * v_1))))), (6, .int .i64 v_1), (36, .bool ((x_1 == (0 : Int)) && decide (v_1 > (0 : Int))))] [] (vcs := [((.int .u64 (ior .u64 u_1 (ishl .u64 (w_u64 (iand .u8 x_1 (127 : Int))) (w_i64 ((7 : Int) * v_1)))) : AV) = .int .u64 (ior .u64 u_1 (ishl .u64 (w_u64 (iand .u8 x_1 (127 : Int))) (w_i64 ((7 : Int) * v_1)))) : Prop), ((.int .i64 v_1 : AV) = .int .i64 v_1 : Prop), ((.bool false : AV) = .bool ((x_1 == (0 : Int)) && decide (v_1 > (0 : Int))) : Prop)]) (by kernel_rfl) ⟨rfl, rfl, (congrArg AV.bool (andf gg_8)), trivial⟩)⟩
    refine aw_cond (t := 36) (b := ((x_1 == (0 : Int)) && decide (v_1 > (0 : Int)))) (by kernel_rfl) (by kernel_rfl) ?_ ?_
    · intro g_4; replace h := cond_t g_4 h
      refine aw_seq (by kernel_rfl) ?_
      refine aw_region [] [2, 3, 4] [] 0 (vcs := []) (vals := [.int .i64 (0 : Int), .int .i64 (0 : Int), .int .i64 (10 : Int)]) (bxs := []) (by kernel_rfl) hmix trivial ?_
      refine aw_ret (by kernel_rfl) ?_
      replace h := Option.some.inj h; subst h
      exact ⟨rfl, Nat.le_of_ble_eq_true rfl, by kernel_rfl⟩
    intro g_4; replace h := cond_f g_4 h
    refine aw_skip (by kernel_rfl) ?_
    refine aw_seq (by kernel_rfl) ?_
    obtain ⟨r_1, h_4, h⟩ := bind_some h
    refine aw_region [(1, { av := .int .i64 r_1, l := [.int .u64 (ior .u64 u_1 (ishl .u64 (w_u64 (iand .u8 x_1 (127 : Int))) (w_i64 ((7 : Int) * v_1))))] })] [2, 3, 4] [] 0 (vcs := [([.int .u64 (ior .u64 u_1 (ishl .u64 (w_u64 (iand .u8 x_1 (127 : Int))) (w_i64 ((7 : Int) * v_1))))] : List AV) = [.int .u64 (ior .u64 u_1 (ishl .u64 (w_u64 (iand .u8 x_1 (127 : Int))) (w_i64 ((7 : Int) * v_1))))], ([] : List BoxSt) = [], Triple prog 22 [] [.int .u64 (ior .u64 u_1 (ishl .u64 (w_u64 (iand .u8 x_1 (127 : Int))) (w_i64 ((7 : Int) * v_1))))] [] (.int .i64 r_1)]) (vals := [.int .i64 r_1, .int .i64 (w_i64 (v_1 + (1 : Int))), .int .i64 (0 : Int)]) (bxs := []) (by kernel_rfl) hmix ⟨rfl, rfl, (ci_ok (ior .u64 u_1 (ishl .u64 (w_u64 (iand .u8 x_1 (127 : Int))) (w_i64 ((7 : Int) * v_1)))) r_1 h_4), trivial⟩ ?_
    refine aw_ret (by kernel_rfl) ?_
    replace h := Option.some.inj h; subst h
    exact ⟨rfl, Nat.le_of_ble_eq_true rfl, by kernel_rfl⟩
  intro e st1 hk
  rcases o_1 with q_1 | q_2
  rotate_left
  · obtain ⟨rfl, hf⟩ := hk
    replace h := Option.some.inj h; subst h
    exact ⟨st1, Sub.refl _ _, .inr rfl, hf⟩
  obtain ⟨rfl, hs⟩ := hk
  refine ⟨_, hs, ?_⟩
  refine aw_seq (by kernel_rfl) ?_
  refine aw_region [] [2, 3, 4] [] 0 (vcs := []) (vals := [.int .i64 (0 : Int), .int .i64 (0 : Int), .int .i64 (8 : Int)]) (bxs := []) (by kernel_rfl) hmix trivial ?_
  refine aw_ret (by kernel_rfl) ?_
  replace h := Option.some.inj h; subst h
  exact ⟨.inr rfl, Nat.le_of_ble_eq_true rfl, by kernel_rfl⟩

theorem rInt_ok (F : Nat) (b_1 : List (Int)) (r : Int × Int × Int) (h : rInt F b_1 = some r) : Triple prog 13 [] [.sl false 1 (List.map (AV.int .u8) b_1)] [] (.tuple [.int .i64 r.1, .int .i64 r.2.1, .int .i64 r.2.2]) := by
  refine triple_intro (fn := Go.Proofs.Try.f13) (code := codeOf Go.Proofs.Try.f13) (by kernel_rfl) (by kernel_rfl) (Nat.le_of_ble_eq_true (by kernel_rfl)) ?_
  unfold rInt at h
  refine aw_seq (by kernel_rfl) ?_
  refine aw_region [] [0] [] 0 (vcs := []) (vals := [.sl false 1 (List.map (AV.int .u8) b_1)]) (bxs := []) (by kernel_rfl) hmix trivial ?_
  refine aw_seq (by kernel_rfl) ?_
  refine aw_region [] [0, 5] [] 0 (vcs := []) (vals := [.sl false 1 (List.map (AV.int .u8) b_1), .int .u64 (0 : Int)]) (bxs := []) (by kernel_rfl) hmix trivial ?_
  refine aw_seq (by kernel_rfl) ?_
  refine aw_region [] [0, 5, 6] [] 0 (vcs := []) (vals := [.sl false 1 (List.map (AV.int .u8) b_1), .int .u64 (0 : Int), .int .u64 (1 : Int)]) (bxs := []) (by kernel_rfl) hmix trivial ?_
  refine aw_seq (by kernel_rfl) ?_
  refine aw_seq (by kernel_rfl) ?_
  refine aw_region [] [0, 5, 6, 7] [] 0 (vcs := []) (vals := [.sl false 1 (List.map (AV.int .u8) b_1), .int .u64 (0 : Int), .int .u64 (1 : Int), .int .i64 (0 : Int)]) (bxs := []) (by kernel_rfl) hmix trivial ?_
  obtain ⟨o_1, h_1, h⟩ := bind_some h
  refine aw_conv (K1 := (fun e st' => match o_1 with | (.inl q0) => e = .normal ∧ Sub 0 st' (mk [] [] 0) | (.inr q1) => e = .ret ∧ FinR prog Go.Proofs.Try.f13 0 [] (.tuple [.int .i64 q1.1, .int .i64 q1.2.1, .int .i64 q1.2.2]) st')) ?_ ?_
  · replace h := h_1
    refine aw_block (id := 0) (by kernel_rfl) ?_
    refine aw_sub (sub_wk [] [] [(0, .sl false 1 (List.map (AV.int .u8) b_1)), (5, .int .u64 (0 : Int)), (6, .int .u64 (1 : Int)), (7, .int .i64 (0 : Int))] [] (vcs := [(1 = 1 : Prop), ((List.map (AV.int .u8) b_1) = (List.map (AV.int .u8) b_1) : Prop), ((!false || false) = true : Prop), ((.int .u64 (0 : Int) : AV) = .int .u64 (0 : Int) : Prop), ((.int .u64 (1 : Int) : AV) = .int .u64 (1 : Int) : Prop), ((.int .i64 (0 : Int) : AV) = .int .i64 (0 : Int) : Prop)]) (by kernel_rfl) ⟨rfl, rfl, rfl, rfl, rfl, rfl, trivial⟩) ?_
    refine aw_loopF (fun n st => ∃ (u_1 : Int), ∃ (unit_1 : Int), ∃ (i_1 : Int), st = mk [(0, .sl false 1 (List.map (AV.int .u8) b_1)), (5, .int .u64 u_1), (6, .int .u64 unit_1), (7, .int .i64 i_1)] [] 0 ∧ rInt_L1 F b_1 n u_1 unit_1 i_1 = some o_1) F (by kernel_rfl) ⟨_, _, _, rfl, h⟩ ?_ ?_
    · rintro _ ⟨_, _, _, _, h⟩; exact none_ne (h : (none : Option (Unit ⊕ (Int × Int × Int))) = some o_1)
    rintro n_1 _ ⟨u_1, unit_1, i_1, rfl, h⟩
    replace h : rInt_L1_body F b_1 (rInt_L1 F b_1 n_1) u_1 unit_1 i_1 = some o_1 := h
    unfold rInt_L1_body at h
    refine aw_seq (by kernel_rfl) ?_
    refine aw_seq (by kernel_rfl) ?_
    refine aw_region [] [0, 5, 6, 7, 10] [] 0 (vcs := []) (vals := [.sl false 1 (List.map (AV.int .u8) b_1), .int .u64 u_1, .int .u64 unit_1, .int .i64 i_1, .bool (decide (i_1 < (10 : Int)))]) (bxs := []) (by kernel_rfl) hmix trivial ?_
    refine aw_cond (t := 10) (b := (decide (i_1 < (10 : Int)))) (by kernel_rfl) (by kernel_rfl) ?_ ?_
    rotate_left
    · intro g_1; replace h := cond_f g_1 h
      refine aw_exit (id := 0) (by kernel_rfl) ?_
      replace h := Option.some.inj h; subst h
      exact ⟨rfl, (sub_wk [] [] [] [] (vcs := []) (by kernel_rfl) trivial)⟩
    intro g_1; replace h := cond_t g_1 h
    refine aw_skip (by kernel_rfl) ?_
    refine aw_seq (by kernel_rfl) ?_
    refine aw_block (id := 1) (by kernel_rfl) ?_
    refine aw_seq (by kernel_rfl) ?_
    refine aw_seq (by kernel_rfl) ?_
    refine aw_region [(2, { n := (b_1).length })] [0, 5, 6, 7, 16] [] 0 (vcs := [((List.map (AV.int .u8) b_1)).length = (b_1).length]) (vals := [.sl false 1 (List.map (AV.int .u8) b_1), .int .u64 u_1, .int .u64 unit_1, .int .i64 i_1, .bool (decide (i_1 ≥ (((b_1).length : Nat) : Int)))]) (bxs := []) (by kernel_rfl) hmix ⟨(vc_len _), trivial⟩ ?_
    refine aw_cond (t := 16) (b := (decide (i_1 ≥ (((b_1).length : Nat) : Int)))) (by kernel_rfl) (by kernel_rfl) ?_ ?_
    · intro g_2; replace h := cond_t g_2 h
      refine aw_seq (by kernel_rfl) ?_
      refine aw_region [] [2, 3, 4] [] 0 (vcs := []) (vals := [.int .i64 (0 : Int), .int .i64 (0 : Int), .int .i64 (8 : Int)]) (bxs := []) (by kernel_rfl) hmix trivial ?_
      refine aw_ret (by kernel_rfl) ?_
      replace h := Option.some.inj h; subst h
      exact ⟨rfl, Nat.le_of_ble_eq_true rfl, by kernel_rfl⟩
    intro g_2; replace h := cond_f g_2 h
    refine aw_skip (by kernel_rfl) ?_
    refine aw_seq (by kernel_rfl) ?_
    obtain ⟨x_1, h_2, h⟩ := bind_some h
    refine aw_region [(2, { av := .int .u8 x_1 })] [0, 5, 6, 7, 8] [] 0 (vcs := [idxA (List.map (AV.int .u8) b_1) i_1 = some (.int .u8 x_1)]) (vals := [.sl false 1 (List.map (AV.int .u8) b_1), .int .u64 u_1, .int .u64 unit_1, .int .i64 i_1, .int .u64 (w_u64 x_1)]) (bxs := []) (by kernel_rfl) hmix ⟨(vc_idx h_2), trivial⟩ ?_
    refine aw_seq (by kernel_rfl) ?_
    refine aw_seq (by kernel_rfl) ?_
    refine aw_mid (mk [(0, .sl false 1 (List.map (AV.int .u8) b_1)), (5, .int .u64 u_1), (6, .int .u64 unit_1), (7, .int .i64 i_1), (8, .int .u64 (w_u64 x_1)), (27, .bool ((i_1 == (9 : Int)) && decide ((w_u64 x_1) > (1 : Int))))] [] 0) ?_ ?_
    · rcases Bool.eq_false_or_eq_true (i_1 == (9 : Int)) with gg_10 | gg_10
      · refine aw_region [(5, { b := true })] [0, 5, 6, 7, 8, 25, 26, 27] [] 0 (vcs := [(i_1 == (9 : Int)) = true, (i_1 == (9 : Int)) = true, (i_1 == (9 : Int)) = true]) (vals := [.sl false 1 (List.map (AV.int .u8) b_1), .int .u64 u_1, .int .u64 unit_1, .int .i64 i_1, .int .u64 (w_u64 x_1), .int .u64 (w_u64 x_1), .bool (decide ((w_u64 x_1) > (1 : Int))), .bool (decide ((w_u64 x_1) > (1 : Int)))]) (bxs := []) (by kernel_rfl) hmix ⟨gg_10, gg_10, gg_10, trivial⟩ ?_
        exact ⟨rfl, (sub_wk [] [] [(0, .sl false 1 (List.map (AV.int .u8) b_1)), (5, .int .u64 u_1), (6, .int .u64 unit_1), (7, .int .i64 i_1), (8, .int .u64 (w_u64 x_1)), (27, .bool ((i_1 == (9 : Int)) && decide ((w_u64 x_1) > (1 : Int))))] [] (vcs := [(1 = 1 : Prop), ((List.map (AV.int .u8) b_1) = (List.map (AV.int .u8) b_1) : Prop), ((!false || false) = true : Prop), ((.int .u64 u_1 : AV) = .int .u64 u_1 : Prop), ((.int .u64 unit_1 : AV) = .int .u64 unit_1 : Prop), ((.int .i64 i_1 : AV) = .int .i64 i_1 : Prop), ((.int .u64 (w_u64 x_1) : AV) = .int .u64 (w_u64 x_1) : Prop), ((.bool (decide ((w_u64 x_1) > (1 : Int))) : AV) = .bool ((i_1 == (9 : Int)) && decide ((w_u64 x_1) > (1 : Int))) : Prop)]) (by kernel_rfl) ⟨rfl, rfl, rfl, rfl, rfl, rfl, rfl, (congrArg AV.bool (andt gg_10 rfl)), trivial⟩)⟩
      · refine aw_region [(3, { g := false }), (4, { g := false }), (5, { b := false })] [0, 5, 6, 7, 8, 25, 26, 27] [] 0 (vcs := [(i_1 == (9 : Int)) = !true, (i_1 == (9 : Int)) = !true, (i_1 == (9 : Int)) = false]) (vals := [.sl false 1 (List.map (AV.int .u8) b_1), .int .u64 u_1, .int .u64 unit_1, .int .i64 i_1, .int .u64 (w_u64 x_1), .tuple [], .tuple [], .bool false]) (bxs := []) (by kernel_rfl) hmix ⟨gg_10, gg_10, gg_10, trivial⟩ ?_
        exact ⟨rfl, (sub_wk [] [] [(0, .sl false 1 (List.map (AV.int .u8) b_1)), (5, .int .u64 u_1), (6, .int .u64 unit_1), (7, .int .i64 i_1), (8, .int .u64 (w_u64 x_1)), (27, .bool ((i_1 == (9 : Int)) && decide ((w_u64 x_1) > (1 : Int))))] [] (vcs := [(1 = 1 : Prop), ((List.map (AV.int .u8) b_1) = (List.map (AV.int .u8) b_1) : Prop), ((!false || false) = true : Prop), ((.int .u64 u_1 : AV) = .int .u64 u_1 : Prop), ((.int .u64 unit_1 : AV) = .int .u64 unit_1 : Prop), ((.int .i64 i_1 : AV) = .int .i64 i_1 : Prop), ((.int .u64 (w_u64 x_1) : AV) = .int .u64 (w_u64 x_1) : Prop), ((.bool false : AV) = .bool ((i_1 == (9 : Int)) && decide ((w_u64 x_1) > (1 : Int))) : Prop)]) (by kernel_rfl) ⟨rfl, rfl, rfl, rfl, rfl, rfl, rfl, (congrArg AV.bool (andf gg_10)), trivial⟩)⟩
    refine aw_cond (t := 27) (b := ((i_1 == (9 : Int)) && decide ((w_u64 x_1) > (1 : Int)))) (by kernel_rfl) (by kernel_rfl) ?_ ?_
    · intro g_3; replace h := cond_t g_3 h
      refine aw_seq (by kernel_rfl) ?_
      refine aw_region [] [2, 3, 4] [] 0 (vcs := []) (vals := [.int .i64 (0 : Int), .int .i64 (0 : Int), .int .i64 (10 : Int)]) (bxs := []) (by kernel_rfl) hmix trivial ?_
      refine aw_ret (by kernel_rfl) ?_
      replace h := Option.some.inj h; subst h
      exact ⟨rfl, Nat.le_of_ble_eq_true rfl, by kernel_rfl⟩
    intro g_3; replace h := cond_f g_3 h
    refine aw_skip (by kernel_rfl) ?_
    refine aw_seq (by kernel_rfl) ?_
    refine aw_region [] [0, 5, 6, 7, 8] [] 0 (vcs := [(128 : Int) ≠ (0 : Int)]) (vals := [.sl false 1 (List.map (AV.int .u8) b_1), .int .u64 (w_u64 (u_1 + (w_u64 ((irem (w_u64 x_1) (128 : Int)) * unit_1)))), .int .u64 unit_1, .int .i64 i_1, .int .u64 (w_u64 x_1)]) (bxs := []) (by kernel_rfl) hmix ⟨(by decide), trivial⟩ ?_
    refine aw_seq (by kernel_rfl) ?_
    refine aw_region [] [0, 5, 6, 7, 8] [] 0 (vcs := []) (vals := [.sl false 1 (List.map (AV.int .u8) b_1), .int .u64 (w_u64 (u_1 + (w_u64 ((irem (w_u64 x_1) (128 : Int)) * unit_1)))), .int .u64 (w_u64 (unit_1 * (128 : Int))), .int .i64 i_1, .int .u64 (w_u64 x_1)]) (bxs := []) (by kernel_rfl) hmix trivial ?_
    refine aw_seq (by kernel_rfl) ?_
    refine aw_seq (by kernel_rfl) ?_
    refine aw_mid (mk [(0, .sl false 1 (List.map (AV.int .u8) b_1)), (5, .int .u64 (w_u64 (u_1 + (w_u64 ((irem (w_u64 x_1) (128 : Int)) * unit_1))))), (6, .int .u64 (w_u64 (unit_1 * (128 : Int)))), (7, .int .i64 i_1), (8, .int .u64 (w_u64 x_1)), (45, .bool (decide ((w_u64 x_1) < (128 : Int)) && (((w_u64 x_1) == (0 : Int)) && decide (i_1 > (0 : Int)))))] [] 0) ?_ ?_
    · rcases Bool.eq_false_or_eq_true (decide ((w_u64 x_1) < (128 : Int))) with gg_11 | gg_11
      · rcases Bool.eq_false_or_eq_true ((w_u64 x_1) == (0 : Int)) with gg_12 | gg_12
        · refine aw_region [(5, { b := true }), (9, { b := true })] [0, 5, 6, 7, 8, 39, 40, 43, 44, 45] [] 0 (vcs := [(decide ((w_u64 x_1) < (128 : Int))) = true, (decide ((w_u64 x_1) < (128 : Int))) = true, (decide ((w_u64 x_1) < (128 : Int))) = true, ((w_u64 x_1) == (0 : Int)) = true, ((w_u64 x_1) == (0 : Int)) = true, ((w_u64 x_1) == (0 : Int)) = true]) (vals := [.sl false 1 (List.map (AV.int .u8) b_1), .int .u64 (w_u64 (u_1 + (w_u64 ((irem (w_u64 x_1) (128 : Int)) * unit_1)))), .int .u64 (w_u64 (unit_1 * (128 : Int))), .int .i64 i_1, .int .u64 (w_u64 x_1), .int .u64 (w_u64 x_1), .bool ((w_u64 x_1) == (0 : Int)), .int .i64 i_1, .bool (decide (i_1 > (0 : Int))), .bool (decide (i_1 > (0 : Int)))]) (bxs := []) (by kernel_rfl) hmix ⟨gg_11, gg_11, gg_11, gg_12, gg_12, gg_12, trivial⟩ ?_
          exact ⟨rfl, (sub_wk [] [] [(0, .sl false 1 (List.map (AV.int .u8) b_1)), (5, .int .u64 (w_u64 (u_1 + (w_u64 ((irem (w_u64 x_1) (128 : Int)) * unit_1))))), (6, .int .u64 (w_u64 (unit_1 * (128 : Int)))), (7, .int .i64 i_1), (8, .int .u64 (w_u64 x_1)), (45, .bool (decide ((w_u64 x_1) < (128 : Int)) && (((w_u64 x_1) == (0 : Int)) && decide (i_1 > (0 : Int)))))] [] (vcs := [(1 = 1 : Prop), ((List.map (AV.int .u8) b_1) = (List.map (AV.int .u8) b_1) : Prop), ((!false || false) = true : Prop), ((.int .u64 (w_u64 (u_1 + (w_u64 ((irem (w_u64 x_1) (128 : Int)) * unit_1)))) : AV) = .int .u64 (w_u64 (u_1 + (w_u64 ((irem (w_u64 x_1) (128 : Int)) * unit_1)))) : Prop), ((.int .u64 (w_u64 (unit_1 * (128 : Int))) : AV) = .int .u64 (w_u64 (unit_1 * (128 : Int))) : Prop), ((.int .i64 i_1 : AV) = .int .i64 i_1 : Prop), ((.int .u64 (w_u64 x_1) : AV) = .int .u64 (w_u64 x_1) : Prop), ((.bool (decide (i_1 > (0 : Int))) : AV) = .bool (decide ((w_u64 x_1) < (128 : Int)) && (((w_u64 x_1) == (0 : Int)) && decide (i_1 > (0 : Int)))) : Prop)]) (by kernel_rfl) ⟨rfl, rfl, rfl, rfl, rfl, rfl, rfl, (congrArg AV.bool (andt gg_11 (andt gg_12 rfl))), trivial⟩)⟩
        · refine aw_region [(5, { b := true }), (7, { g := false }), (8, { g := false }), (9, { b := false })] [0, 5, 6, 7, 8, 39, 40, 43, 44, 45] [] 0 (vcs := [(decide ((w_u64 x_1) < (128 : Int))) = true, (decide ((w_u64 x_1) < (128 : Int))) = true, (decide ((w_u64 x_1) < (128 : Int))) = true, ((w_u64 x_1) == (0 : Int)) = !true, ((w_u64 x_1) == (0 : Int)) = !true, ((w_u64 x_1) == (0 : Int)) = false]) (vals := [.sl false 1 (List.map (AV.int .u8) b_1), .int .u64 (w_u64 (u_1 + (w_u64 ((irem (w_u64 x_1) (128 : Int)) * unit_1)))), .int .u64 (w_u64 (unit_1 * (128 : Int))), .int .i64 i_1, .int .u64 (w_u64 x_1), .int .u64 (w_u64 x_1), .bool ((w_u64 x_1) == (0 : Int)), .tuple [], .tuple [], .bool false]) (bxs := []) (by kernel_rfl) hmix ⟨gg_11, gg_11, gg_11, gg_12, gg_12, gg_12, trivial⟩ ?_
          exact ⟨rfl, (sub_wk [] [] [(0, .sl false 1 (List.map (AV.int .u8) b_1)), (5, .int .u64 (w_u64 (u_1 + (w_u64 ((irem (w_u64 x_1) (128 : Int)) * unit_1))))), (6, .int .u64 (w_u64 (unit_1 * (128 : Int)))), (7, .int .i64 i_1), (8, .int .u64 (w_u64 x_1)), (45, .bool (decide ((w_u64 x_1) < (128 : Int)) && (((w_u64 x_1) == (0 : Int)) && decide (i_1 > (0 : Int)))))] [] (vcs := [(1 = 1 : Prop), ((List.map (AV.int .u8) b_1) = (List.map (AV.int .u8) b_1) : Prop), ((!false || false) = true : Prop), ((.int .u64 (w_u64 (u_1 + (w_u64 ((irem (w_u64 x_1) (128 : Int)) * unit_1)))) : AV) = .int .u64 (w_u64 (u_1 + (w_u64 ((irem (w_u64 x_1) (128 : Int)) * unit_1)))) : Prop), ((.int .u64 (w_u64 (unit_1 * (128 : Int))) : AV) = .int .u64 (w_u64 (unit_1 * (128 : Int))) : Prop), ((.int .i64 i_1 : AV) = .int .i64 i_1 : Prop), ((.int .u64 (w_u64 x_1) : AV) = .int .u64 (w_u64 x_1) : Prop), ((.bool false : AV) = .bool (decide ((w_u64 x_1) < (128 : Int)) && (((w_u64 x_1) == (0 : Int)) && decide (i_1 > (0 : Int)))) : Prop)]) (by kernel_rfl) ⟨rfl, rfl, rfl, rfl, rfl, rfl, rfl, (congrArg AV.bool (andt gg_11 (andf gg_12))), trivial⟩)⟩
      · refine aw_region [(3, { g := false }), (4, { g := false }), (5, { b := false }), (7, { g := false }), (8, { g := false }), (9, { b := false })] [0, 5, 6, 7, 8, 39, 40, 43, 44, 45] [] 0 (vcs := [(decide ((w_u64 x_1) < (128 : Int))) = !true, (decide ((w_u64 x_1) < (128 : Int))) = !true, (decide ((w_u64 x_1) < (128 : Int))) = false, false = !true, false = !true, false = false]) (vals := [.sl false 1 (List.map (AV.int .u8) b_1), .int .u64 (w_u64 (u_1 + (w_u64 ((irem (w_u64 x_1) (128 : Int)) * unit_1)))), .int .u64 (w_u64 (unit_1 * (128 : Int))), .int .i64 i_1, .int .u64 (w_u64 x_1), .tuple [], .tuple [], .tuple [], .tuple [], .bool false]) (bxs := []) (by kernel_rfl) hmix ⟨gg_11, gg_11, gg_11, rfl, rfl, rfl, trivial⟩ ?_
        exact ⟨rfl, (sub_wk [] [] [(0, .sl false 1 (List.map (AV.int .u8) b_1)), (5, .int .u64 (w_u64 (u_1 + (w_u64 ((irem (w_u64 x_1) (128 : Int)) * unit_1))))), (6, .int .u64 (w_u64 (unit_1 * (128 : Int)))), (7, .int .i64 i_1), (8, .int .u64 (w_u64 x_1)), (45, .bool (decide ((w_u64 x_1) < (128 : Int)) && (((w_u64 x_1) == (0 : Int)) && decide (i_1 > (0 : Int)))))] [] (vcs := [(1 = 1 : Prop), ((List.map (AV.int .u8) b_1) = (List.map (AV.int .u8) b_1) : Prop), ((!false || false) = true : Prop), ((.int .u64 (w_u64 (u_1 + (w_u64 ((irem (w_u64 x_1) (128 : Int)) * unit_1)))) : AV) = .int .u64 (w_u64 (u_1 + (w_u64 ((irem (w_u64 x_1) (128 : Int)) * unit_1)))) : Prop), ((.int .u64 (w_u64 (unit_1 * (128 : Int))) : AV) = .int .u64 (w_u64 (unit_1 * (128 : Int))) : Prop), ((.int .i64 i_1 : AV) = .int .i64 i_1 : Prop), ((.int .u64 (w_u64 x_1) : AV) = .int .u64 (w_u64 x_1) : Prop), ((.bool false : AV) = .bool (decide ((w_u64 x_1) < (128 : Int)) && (((w_u64 x_1) == (0 : Int)) && decide (i_1 > (0 : Int)))) : Prop)]) (by kernel_rfl) ⟨rfl, rfl, rfl, rfl, rfl, rfl, rfl, (congrArg AV.bool (andf gg_11)), trivial⟩)⟩
    refine aw_cond (t := 45) (b := (decide ((w_u64 x_1) < (128 : Int)) && (((w_u64 x_1) == (0 : Int)) && decide (i_1 > (0 : Int))))) (by kernel_rfl) (by kernel_rfl) ?_ ?_
    · intro g_4; replace h := cond_t g_4 h
      refine aw_seq (by kernel_rfl) ?_
      refine aw_region [] [2, 3, 4] [] 0 (vcs := []) (vals := [.int .i64 (0 : Int), .int .i64 (0 : Int), .int .i64 (10 : Int)]) (bxs := []) (by kernel_rfl) hmix trivial ?_
      refine aw_ret (by kernel_rfl) ?_
      replace h := Option.some.inj h; subst h
      exact ⟨rfl, Nat.le_of_ble_eq_true rfl, by kernel_rfl⟩
    intro g_4; replace h := cond_f g_4 h
    refine aw_skip (by kernel_rfl) ?_
    refine aw_seq (by kernel_rfl) ?_
    refine aw_region [] [0, 5, 6, 7, 47] [] 0 (vcs := []) (vals := [.sl false 1 (List.map (AV.int .u8) b_1), .int .u64 (w_u64 (u_1 + (w_u64 ((irem (w_u64 x_1) (128 : Int)) * unit_1)))), .int .u64 (w_u64 (unit_1 * (128 : Int))), .int .i64 i_1, .bool (decide ((w_u64 x_1) < (128 : Int)))]) (bxs := []) (by kernel_rfl) hmix trivial ?_
    refine aw_cond (t := 47) (b := (decide ((w_u64 x_1) < (128 : Int)))) (by kernel_rfl) (by kernel_rfl) ?_ ?_
    rotate_left
    · intro g_5; replace h := cond_f g_5 h
      refine aw_skip (by kernel_rfl) ?_
      refine aw_region [] [0, 5, 6, 7] [] 0 (vcs := []) (vals := [.sl false 1 (List.map (AV.int .u8) b_1), .int .u64 (w_u64 (u_1 + (w_u64 ((irem (w_u64 x_1) (128 : Int)) * unit_1)))), .int .u64 (w_u64 (unit_1 * (128 : Int))), .int .i64 (w_i64 (i_1 + (1 : Int)))]) (bxs := []) (by kernel_rfl) hmix trivial ?_
      exact ⟨_, (sub_wk [] [] [(0, .sl false 1 (List.map (AV.int .u8) b_1)), (5, .int .u64 (w_u64 (u_1 + (w_u64 ((irem (w_u64 x_1) (128 : Int)) * unit_1))))), (6, .int .u64 (w_u64 (unit_1 * (128 : Int)))), (7, .int .i64 (w_i64 (i_1 + (1 : Int))))] [] (vcs := [(1 = 1 : Prop), ((List.map (AV.int .u8) b_1) = (List.map (AV.int .u8) b_1) : Prop), ((!false || false) = true : Prop), ((.int .u64 (w_u64 (u_1 + (w_u64 ((irem (w_u64 x_1) (128 : Int)) * unit_1)))) : AV) = .int .u64 (w_u64 (u_1 + (w_u64 ((irem (w_u64 x_1) (128 : Int)) * unit_1)))) : Prop), ((.int .u64 (w_u64 (unit_1 * (128 : Int))) : AV) = .int .u64 (w_u64 (unit_1 * (128 : Int))) : Prop), ((.int .i64 (w_i64 (i_1 + (1 : Int))) : AV) = .int .i64 (w_i64 (i_1 + (1 : Int))) : Prop)]) (by kernel_rfl) ⟨rfl, rfl, rfl, rfl, rfl, rfl, trivial⟩), _, _, _, rfl, h⟩
    intro g_5; replace h := cond_t g_5 h
    refine aw_seq (by kernel_rfl) ?_
    obtain ⟨r_1, h_3, h⟩ := bind_some h
    refine aw_region [(1, { av := .int .i64 r_1, l := [.int .u64 (w_u64 (u_1 + (w_u64 ((irem (w_u64 x_1) (128 : Int)) * unit_1))))] })] [2, 3, 4] [] 0 (vcs := [([.int .u64 (w_u64 (u_1 + (w_u64 ((irem (w_u64 x_1) (128 : Int)) * unit_1))))] : List AV) = [.int .u64 (w_u64 (u_1 + (w_u64 ((irem (w_u64 x_1) (128 : Int)) * unit_1))))], ([] : List BoxSt) = [], Triple prog 23 [] [.int .u64 (w_u64 (u_1 + (w_u64 ((irem (w_u64 x_1) (128 : Int)) * unit_1))))] [] (.int .i64 r_1)]) (vals := [.int .i64 r_1, .int .i64 (w_i64 (i_1 + (1 : Int))), .int .i64 (0 : Int)]) (bxs := []) (by kernel_rfl) hmix ⟨rfl, rfl, (ri_ok (w_u64 (u_1 + (w_u64 ((irem (w_u64 x_1) (128 : Int)) * unit_1)))) r_1 h_3), trivial⟩ ?_
    refine aw_ret (by kernel_rfl) ?_
    replace h := Option.some.inj h; subst h
    exact ⟨rfl, Nat.le_of_ble_eq_true rfl, by kernel_rfl⟩
  intro e st1 hk
  rcases o_1 with q_1 | q_2
  rotate_left
  · obtain ⟨rfl, hf⟩ := hk
    replace h := Option.some.inj h; subst h
    exact ⟨st1, Sub.refl _ _, .inr rfl, hf⟩
  obtain ⟨rfl, hs⟩ := hk
  refine ⟨_, hs, ?_⟩
  refine aw_seq (by kernel_rfl) ?_
  refine aw_region [] [2, 3, 4] [] 0 (vcs := []) (vals := [.int .i64 (0 : Int), .int .i64 (0 : Int), .int .i64 (10 : Int)]) (bxs := []) (by kernel_rfl) hmix trivial ?_
  refine aw_ret (by kernel_rfl) ?_
  replace h := Option.some.inj h; subst h
  exact ⟨.inr rfl, Nat.le_of_ble_eq_true rfl, by kernel_rfl⟩

theorem cText_ok (F : Nat) (b_1 : List (Int)) (most_1 : Int) (r : (List Int) × Int × Int) (h : cText F b_1 most_1 = some r) : Triple prog 14 [] [.sl false 1 (List.map (AV.int .u8) b_1), .int .i64 most_1] [] (.tuple [.str r.1, .int .i64 r.2.1, .int .i64 r.2.2]) := by
  refine triple_intro (fn := Go.Proofs.Try.f14) (code := codeOf Go.Proofs.Try.f14) (by kernel_rfl) (by kernel_rfl) (Nat.le_of_ble_eq_true (by kernel_rfl)) ?_
  unfold cText at h
  refine aw_seq (by kernel_rfl) ?_
  refine aw_region [] [0, 1] [] 0 (vcs := []) (vals := [.sl false 1 (List.map (AV.int .u8) b_1), .int .i64 most_1]) (bxs := []) (by kernel_rfl) hmix trivial ?_
  refine aw_seq (by kernel_rfl) ?_
  obtain ⟨r_1, h_1, h⟩ := bind_some h
  refine aw_region [(1, { av := .tuple [.int .i64 r_1.1, .int .i64 r_1.2.1, .int .i64 r_1.2.2], l := [.sl false 1 (List.map (AV.int .u8) b_1)] })] [0, 1, 7, 8, 9] [] 0 (vcs := [([.sl false 1 (List.map (AV.int .u8) b_1)] : List AV) = [.sl false 1 (List.map (AV.int .u8) b_1)], ([] : List BoxSt) = [], Triple prog 12 [] [.sl false 1 (List.map (AV.int .u8) b_1)] [] (.tuple [.int .i64 r_1.1, .int .i64 r_1.2.1, .int .i64 r_1.2.2])]) (vals := [.sl false 1 (List.map (AV.int .u8) b_1), .int .i64 most_1, .int .i64 r_1.1, .int .i64 r_1.2.1, .int .i64 r_1.2.2]) (bxs := []) (by kernel_rfl) hmix ⟨rfl, rfl, (cInt_ok F b_1 r_1 h_1), trivial⟩ ?_
  refine aw_seq (by kernel_rfl) ?_
  refine aw_block (id := 0) (by kernel_rfl) ?_
  refine aw_seq (by kernel_rfl) ?_
  refine aw_region [] [0, 1, 7, 8, 9, 16] [] 0 (vcs := []) (vals := [.sl false 1 (List.map (AV.int .u8) b_1), .int .i64 most_1, .int .i64 r_1.1, .int .i64 r_1.2.1, .int .i64 r_1.2.2, .bool (r_1.2.2 != (0 : Int))]) (bxs := []) (by kernel_rfl) hmix trivial ?_
  refine aw_cond (t := 16) (b := (r_1.2.2 != (0 : Int))) (by kernel_rfl) (by kernel_rfl) ?_ ?_
  · intro g_1; replace h := cond_t g_1 h
    refine aw_seq (by kernel_rfl) ?_
    refine aw_region [] [4, 5, 6] [] 0 (vcs := []) (vals := [.str ([] : List Int), .int .i64 (0 : Int), .int .i64 r_1.2.2]) (bxs := []) (by kernel_rfl) hmix trivial ?_
    refine aw_ret (by kernel_rfl) ?_
    replace h := Option.some.inj h; subst h
    exact ⟨.inr rfl, Nat.le_of_ble_eq_true rfl, by kernel_rfl⟩
  intro g_1; replace h := cond_f g_1 h
  refine aw_seq (by kernel_rfl) ?_
  refine aw_region [] [0, 1, 7, 8, 20] [] 0 (vcs := []) (vals := [.sl false 1 (List.map (AV.int .u8) b_1), .int .i64 most_1, .int .i64 r_1.1, .int .i64 r_1.2.1, .bool (decide (r_1.1 < (0 : Int)))]) (bxs := []) (by kernel_rfl) hmix trivial ?_
  refine aw_cond (t := 20) (b := (decide (r_1.1 < (0 : Int)))) (by kernel_rfl) (by kernel_rfl) ?_ ?_
  · intro g_2; replace h := cond_t g_2 h
    refine aw_seq (by kernel_rfl) ?_
    refine aw_region [] [4, 5, 6] [] 0 (vcs := []) (vals := [.str ([] : List Int), .int .i64 (0 : Int), .int .i64 (10 : Int)]) (bxs := []) (by kernel_rfl) hmix trivial ?_
    refine aw_ret (by kernel_rfl) ?_
    replace h := Option.some.inj h; subst h
    exact ⟨.inr rfl, Nat.le_of_ble_eq_true rfl, by kernel_rfl⟩
  intro g_2; replace h := cond_f g_2 h
  refine aw_seq (by kernel_rfl) ?_
  refine aw_region [] [0, 7, 8, 23] [] 0 (vcs := []) (vals := [.sl false 1 (List.map (AV.int .u8) b_1), .int .i64 r_1.1, .int .i64 r_1.2.1, .bool (decide (r_1.1 > most_1))]) (bxs := []) (by kernel_rfl) hmix trivial ?_
  refine aw_cond (t := 23) (b := (decide (r_1.1 > most_1))) (by kernel_rfl) (by kernel_rfl) ?_ ?_
  · intro g_3; replace h := cond_t g_3 h
    refine aw_seq (by kernel_rfl) ?_
    refine aw_region [] [4, 5, 6] [] 0 (vcs := []) (vals := [.str ([] : List Int), .int .i64 (0 : Int), .int .i64 (7 : Int)]) (bxs := []) (by kernel_rfl) hmix trivial ?_
    refine aw_ret (by kernel_rfl) ?_
    replace h := Option.some.inj h; subst h
    exact ⟨.inr rfl, Nat.le_of_ble_eq_true rfl, by kernel_rfl⟩
  intro g_3; replace h := cond_f g_3 h
  refine aw_seq (by kernel_rfl) ?_
  refine aw_region [(2, { n := (b_1).length })] [0, 7, 8, 27] [] 0 (vcs := [((List.map (AV.int .u8) b_1)).length = (b_1).length]) (vals := [.sl false 1 (List.map (AV.int .u8) b_1), .int .i64 r_1.1, .int .i64 r_1.2.1, .bool (decide (r_1.1 > (w_i64 ((((b_1).length : Nat) : Int) - r_1.2.1))))]) (bxs := []) (by kernel_rfl) hmix ⟨(vc_len _), trivial⟩ ?_
  refine aw_cond (t := 27) (b := (decide (r_1.1 > (w_i64 ((((b_1).length : Nat) : Int) - r_1.2.1))))) (by kernel_rfl) (by kernel_rfl) ?_ ?_
  · intro g_4; replace h := cond_t g_4 h
    refine aw_seq (by kernel_rfl) ?_
    refine aw_region [] [4, 5, 6] [] 0 (vcs := []) (vals := [.str ([] : List Int), .int .i64 (0 : Int), .int .i64 (8 : Int)]) (bxs := []) (by kernel_rfl) hmix trivial ?_
    refine aw_ret (by kernel_rfl) ?_
    replace h := Option.some.inj h; subst h
    exact ⟨.inr rfl, Nat.le_of_ble_eq_true rfl, by kernel_rfl⟩
  intro g_4; replace h := cond_f g_4 h
  refine aw_skip (by kernel_rfl) ?_
  refine aw_seq (by kernel_rfl) ?_
  obtain ⟨_, h_2, h⟩ := bind_some h; replace h_2 := need_some h_2
  refine aw_region [(5, { l := (List.map (AV.int .u8) (sub b_1 r_1.2.1 (w_i64 (r_1.2.1 + r_1.1)))) }), (6, { s := sub b_1 r_1.2.1 (w_i64 (r_1.2.1 + r_1.1)) })] [4, 5, 6] [] 0 (vcs := [(0 : Int) ≤ r_1.2.1, r_1.2.1 ≤ (w_i64 (r_1.2.1 + r_1.1)), (w_i64 (r_1.2.1 + r_1.1)) ≤ ((((List.map (AV.int .u8) b_1)).length : Nat) : Int), (List.map (AV.int .u8) (sub b_1 r_1.2.1 (w_i64 (r_1.2.1 + r_1.1)))) = (((List.map (AV.int .u8) b_1)).take (w_i64 (r_1.2.1 + r_1.1)).toNat).drop (r_1.2.1).toNat, (List.map (AV.int .u8) (sub b_1 r_1.2.1 (w_i64 (r_1.2.1 + r_1.1)))) = List.map (AV.int .u8) (sub b_1 r_1.2.1 (w_i64 (r_1.2.1 + r_1.1)))]) (vals := [.str (sub b_1 r_1.2.1 (w_i64 (r_1.2.1 + r_1.1))), .int .i64 (w_i64 (r_1.2.1 + r_1.1)), .int .i64 (0 : Int)]) (bxs := []) (by kernel_rfl) hmix ⟨h_2.1, h_2.2.1, (vc_lenle h_2.2.2), (vc_sub _ _ _), rfl, trivial⟩ ?_
  refine aw_ret (by kernel_rfl) ?_
  replace h := Option.some.inj h; subst h
  exact ⟨.inr rfl, Nat.le_of_ble_eq_true rfl, by kernel_rfl⟩

theorem rText_ok (F : Nat) (b_1 : List (Int)) (most_1 : Int) (r : (List Int) × Int × Int) (h : rText F b_1 most_1 = some r) : Triple prog 15 [] [.sl false 1 (List.map (AV.int .u8) b_1), .int .i64 most_1] [] (.tuple [.str r.1, .int .i64 r.2.1, .int .i64 r.2.2]) := by
  refine triple_intro (fn := Go.Proofs.Try.f15) (code := codeOf Go.Proofs.Try.f15) (by kernel_rfl) (by kernel_rfl) (Nat.le_of_ble_eq_true (by kernel_rfl)) ?_
  unfold rText at h
  refine aw_seq (by kernel_rfl) ?_
  refine aw_region [] [0, 1] [] 0 (vcs := []) (vals := [.sl false 1 (List.map (AV.int .u8) b_1), .int .i64 most_1]) (bxs := []) (by kernel_rfl) hmix trivial ?_
  refine aw_seq (by kernel_rfl) ?_
  obtain ⟨r_1, h_1, h⟩ := bind_some h
  refine aw_region [(1, { av := .tuple [.int .i64 r_1.1, .int .i64 r_1.2.1, .int .i64 r_1.2.2], l := [.sl false 1 (List.map (AV.int .u8) b_1)] })] [0, 1, 7, 8, 9] [] 0 (vcs := [([.sl false 1 (List.map (AV.int .u8) b_1)] : List AV) = [.sl false 1 (List.map (AV.int .u8) b_1)], ([] : List BoxSt) = [], Triple prog 13 [] [.sl false 1 (List.map (AV.int .u8) b_1)] [] (.tuple [.int .i64 r_1.1, .int .i64 r_1.2.1, .int .i64 r_1.2.2])]) (vals := [.sl false 1 (List.map (AV.int .u8) b_1), .int .i64 most_1, .int .i64 r_1.1, .int .i64 r_1.2.1, .int .i64 r_1.2.2]) (bxs := []) (by kernel_rfl) hmix ⟨rfl, rfl, (rInt_ok F b_1 r_1 h_1), trivial⟩ ?_
  refine aw_seq (by kernel_rfl) ?_
  refine aw_block (id := 0) (by kernel_rfl) ?_
  refine aw_seq (by kernel_rfl) ?_
  refine aw_region [] [0, 1, 7, 8, 9, 16] [] 0 (vcs := []) (vals := [.sl false 1 (List.map (AV.int .u8) b_1), .int .i64 most_1, .int .i64 r_1.1, .int .i64 r_1.2.1, .int .i64 r_1.2.2, .bool (r_1.2.2 != (0 : Int))]) (bxs := []) (by kernel_rfl) hmix trivial ?_
  refine aw_cond (t := 16) (b := (r_1.2.2 != (0 : Int))) (by kernel_rfl) (by kernel_rfl) ?_ ?_
  · intro g_1; replace h := cond_t g_1 h
    refine aw_seq (by kernel_rfl) ?_
    refine aw_region [] [4, 5, 6] [] 0 (vcs := []) (vals := [.str ([] : List Int), .int .i64 (0 : Int), .int .i64 r_1.2.2]) (bxs := []) (by kernel_rfl) hmix trivial ?_
    refine aw_ret (by kernel_rfl) ?_
    replace h := Option.some.inj h; subst h
    exact ⟨.inr rfl, Nat.le_of_ble_eq_true rfl, by kernel_rfl⟩
  intro g_1; replace h := cond_f g_1 h
  refine aw_seq (by kernel_rfl) ?_
  refine aw_region [] [0, 1, 7, 8, 20] [] 0 (vcs := []) (vals := [.sl false 1 (List.map (AV.int .u8) b_1), .int .i64 most_1, .int .i64 r_1.1, .int .i64 r_1.2.1, .bool (decide (r_1.1 < (0 : Int)))]) (bxs := []) (by kernel_rfl) hmix trivial ?_
  refine aw_cond (t := 20) (b := (decide (r_1.1 < (0 : Int)))) (by kernel_rfl) (by kernel_rfl) ?_ ?_
  · intro g_2; replace h := cond_t g_2 h
    refine aw_seq (by kernel_rfl) ?_
    refine aw_region [] [4, 5, 6] [] 0 (vcs := []) (vals := [.str ([] : List Int), .int .i64 (0 : Int), .int .i64 (10 : Int)]) (bxs := []) (by kernel_rfl) hmix trivial ?_
    refine aw_ret (by kernel_rfl) ?_
    replace h := Option.some.inj h; subst h
    exact ⟨.inr rfl, Nat.le_of_ble_eq_true rfl, by kernel_rfl⟩
  intro g_2; replace h := cond_f g_2 h
  refine aw_seq (by kernel_rfl) ?_
  refine aw_region [] [0, 7, 8, 23] [] 0 (vcs := []) (vals := [.sl false 1 (List.map (AV.int .u8) b_1), .int .i64 r_1.1, .int .i64 r_1.2.1, .bool (decide (r_1.1 > most_1))]) (bxs := []) (by kernel_rfl) hmix trivial ?_
  refine aw_cond (t := 23) (b := (decide (r_1.1 > most_1))) (by kernel_rfl) (by kernel_rfl) ?_ ?_
  · intro g_3; replace h := cond_t g_3 h
    refine aw_seq (by kernel_rfl) ?_
    refine aw_region [] [4, 5, 6] [] 0 (vcs := []) (vals := [.str ([] : List Int), .int .i64 (0 : Int), .int .i64 (7 : Int)]) (bxs := []) (by kernel_rfl) hmix trivial ?_
    refine aw_ret (by kernel_rfl) ?_
    replace h := Option.some.inj h; subst h
    exact ⟨.inr rfl, Nat.le_of_ble_eq_true rfl, by kernel_rfl⟩
  intro g_3; replace h := cond_f g_3 h
  refine aw_seq (by kernel_rfl) ?_
  refine aw_region [(2, { n := (b_1).length })] [0, 7, 8, 27] [] 0 (vcs := [((List.map (AV.int .u8) b_1)).length = (b_1).length]) (vals := [.sl false 1 (List.map (AV.int .u8) b_1), .int .i64 r_1.1, .int .i64 r_1.2.1, .bool (decide (r_1.1 > (w_i64 ((((b_1).length : Nat) : Int) - r_1.2.1))))]) (bxs := []) (by kernel_rfl) hmix ⟨(vc_len _), trivial⟩ ?_
  refine aw_cond (t := 27) (b := (decide (r_1.1 > (w_i64 ((((b_1).length : Nat) : Int) - r_1.2.1))))) (by kernel_rfl) (by kernel_rfl) ?_ ?_
  · intro g_4; replace h := cond_t g_4 h
    refine aw_seq (by kernel_rfl) ?_
    refine aw_region [] [4, 5, 6] [] 0 (vcs := []) (vals := [.str ([] : List Int), .int .i64 (0 : Int), .int .i64 (8 : Int)]) (bxs := []) (by kernel_rfl) hmix trivial ?_
    refine aw_ret (by kernel_rfl) ?_
    replace h := Option.some.inj h; subst h
    exact ⟨.inr rfl, Nat.le_of_ble_eq_true rfl, by kernel_rfl⟩
  intro g_4; replace h := cond_f g_4 h
  refine aw_skip (by kernel_rfl) ?_
  refine aw_seq (by kernel_rfl) ?_
  obtain ⟨_, h_2, h⟩ := bind_some h; replace h_2 := need_some h_2
  refine aw_region [(5, { l := (List.map (AV.int .u8) (sub b_1 r_1.2.1 (w_i64 (r_1.2.1 + r_1.1)))) }), (6, { s := sub b_1 r_1.2.1 (w_i64 (r_1.2.1 + r_1.1)) })] [4, 5, 6] [] 0 (vcs := [(0 : Int) ≤ r_1.2.1, r_1.2.1 ≤ (w_i64 (r_1.2.1 + r_1.1)), (w_i64 (r_1.2.1 + r_1.1)) ≤ ((((List.map (AV.int .u8) b_1)).length : Nat) : Int), (List.map (AV.int .u8) (sub b_1 r_1.2.1 (w_i64 (r_1.2.1 + r_1.1)))) = (((List.map (AV.int .u8) b_1)).take (w_i64 (r_1.2.1 + r_1.1)).toNat).drop (r_1.2.1).toNat, (List.map (AV.int .u8) (sub b_1 r_1.2.1 (w_i64 (r_1.2.1 + r_1.1)))) = List.map (AV.int .u8) (sub b_1 r_1.2.1 (w_i64 (r_1.2.1 + r_1.1)))]) (vals := [.str (sub b_1 r_1.2.1 (w_i64 (r_1.2.1 + r_1.1))), .int .i64 (w_i64 (r_1.2.1 + r_1.1)), .int .i64 (0 : Int)]) (bxs := []) (by kernel_rfl) hmix ⟨h_2.1, h_2.2.1, (vc_lenle h_2.2.2), (vc_sub _ _ _), rfl, trivial⟩ ?_
  refine aw_ret (by kernel_rfl) ?_
  replace h := Option.some.inj h; subst h
  exact ⟨.inr rfl, Nat.le_of_ble_eq_true rfl, by kernel_rfl⟩

theorem cSum_ok (F : Nat) (b_1 : List (Int)) (r : Int) (h : cSum F b_1 = some r) : Triple prog 16 [] [.sl false 1 (List.map (AV.int .u8) b_1)] [] (.int .i64 r) := by
  refine triple_intro (fn := Go.Proofs.Try.f16) (code := codeOf Go.Proofs.Try.f16) (by kernel_rfl) (by kernel_rfl) (Nat.le_of_ble_eq_true (by kernel_rfl)) ?_
  unfold cSum at h
  refine aw_seq (by kernel_rfl) ?_
  refine aw_region [] [0] [] 0 (vcs := []) (vals := [.sl false 1 (List.map (AV.int .u8) b_1)]) (bxs := []) (by kernel_rfl) hmix trivial ?_
  refine aw_seq (by kernel_rfl) ?_
  refine aw_region [] [0, 3] [] 0 (vcs := []) (vals := [.sl false 1 (List.map (AV.int .u8) b_1), .int .u32 (4294967295 : Int)]) (bxs := []) (by kernel_rfl) hmix trivial ?_
  refine aw_seq (by kernel_rfl) ?_
  refine aw_seq (by kernel_rfl) ?_
  refine aw_region [(1, { n := (b_1).length })] [3, 7, 8, 9] [] 0 (vcs := [((List.map (AV.int .u8) b_1)).length = (b_1).length]) (vals := [.int .u32 (4294967295 : Int), .sl false 1 (List.map (AV.int .u8) b_1), .int .i64 (((b_1).length : Nat) : Int), .int .i64 (0 : Int)]) (bxs := []) (by kernel_rfl) hmix ⟨(vc_len _), trivial⟩ ?_
  obtain ⟨o_1, h_1, h⟩ := bind_some h
  refine aw_mid (mk [(3, .int .u32 o_1)] [] 0) ?_ ?_
  · replace h := h_1
    refine aw_block (id := 0) (by kernel_rfl) ?_
    refine aw_sub (sub_wk [] [] [(3, .int .u32 (4294967295 : Int)), (7, .sl false 1 (List.map (AV.int .u8) b_1)), (8, .int .i64 (((b_1).length : Nat) : Int)), (9, .int .i64 (0 : Int))] [] (vcs := [((.int .u32 (4294967295 : Int) : AV) = .int .u32 (4294967295 : Int) : Prop), (1 = 1 : Prop), ((List.map (AV.int .u8) b_1) = (List.map (AV.int .u8) b_1) : Prop), ((!false || false) = true : Prop), ((.int .i64 (((b_1).length : Nat) : Int) : AV) = .int .i64 (((b_1).length : Nat) : Int) : Prop), ((.int .i64 (0 : Int) : AV) = .int .i64 (0 : Int) : Prop)]) (by kernel_rfl) ⟨rfl, rfl, rfl, rfl, rfl, rfl, trivial⟩) ?_
    refine aw_loopF (fun n st => ∃ (x_1 : Int), ∃ (v_1 : Int), st = mk [(3, .int .u32 x_1), (7, .sl false 1 (List.map (AV.int .u8) b_1)), (8, .int .i64 (((b_1).length : Nat) : Int)), (9, .int .i64 v_1)] [] 0 ∧ cSum_L1 F b_1 n x_1 v_1 = some o_1) F (by kernel_rfl) ⟨_, _, rfl, h⟩ ?_ ?_
    · rintro _ ⟨_, _, _, h⟩; exact none_ne (h : (none : Option Int) = some o_1)
    rintro n_1 _ ⟨x_1, v_1, rfl, h⟩
    replace h : cSum_L1_body F b_1 (cSum_L1 F b_1 n_1) x_1 v_1 = some o_1 := h
    unfold cSum_L1_body at h
    refine aw_seq (by kernel_rfl) ?_
    refine aw_region [] [3, 7, 8, 9, 10] [] 0 (vcs := []) (vals := [.int .u32 x_1, .sl false 1 (List.map (AV.int .u8) b_1), .int .i64 (((b_1).length : Nat) : Int), .int .i64 v_1, .bool (decide (v_1 < (((b_1).length : Nat) : Int)))]) (bxs := []) (by kernel_rfl) hmix trivial ?_
    refine aw_seq (by kernel_rfl) ?_
    refine aw_cond (t := 10) (b := (decide (v_1 < (((b_1).length : Nat) : Int)))) (by kernel_rfl) (by kernel_rfl) ?_ ?_
    rotate_left
    · intro g_1; replace h := cond_f g_1 h
      refine aw_exit (id := 0) (by kernel_rfl) ?_
      replace h := Option.some.inj h; subst h
      exact ⟨rfl, (sub_wk [] [] [(3, .int .u32 x_1)] [] (vcs := [((.int .u32 x_1 : AV) = .int .u32 x_1 : Prop)]) (by kernel_rfl) ⟨rfl, trivial⟩)⟩
    intro g_1; replace h := cond_t g_1 h
    refine aw_skip (by kernel_rfl) ?_
    refine aw_seq (by kernel_rfl) ?_
    refine aw_block (id := 1) (by kernel_rfl) ?_
    refine aw_seq (by kernel_rfl) ?_
    obtain ⟨x_2, h_2, h⟩ := bind_some h
    refine aw_region [(0, { av := .int .u8 x_2 })] [3, 5, 7, 8, 9] [] 0 (vcs := [idxA (List.map (AV.int .u8) b_1) v_1 = some (.int .u8 x_2)]) (vals := [.int .u32 x_1, .int .u8 x_2, .sl false 1 (List.map (AV.int .u8) b_1), .int .i64 (((b_1).length : Nat) : Int), .int .i64 v_1]) (bxs := []) (by kernel_rfl) hmix ⟨(vc_idx h_2), trivial⟩ ?_
    refine aw_seq (by kernel_rfl) ?_
    refine aw_region [] [3, 7, 8, 9] [] 0 (vcs := []) (vals := [.int .u32 (ixor .u32 x_1 (w_u32 x_2)), .sl false 1 (List.map (AV.int .u8) b_1), .int .i64 (((b_1).length : Nat) : Int), .int .i64 v_1]) (bxs := []) (by kernel_rfl) hmix trivial ?_
    refine aw_seq (by kernel_rfl) ?_
    refine aw_region [] [3, 7, 8, 9, 17] [] 0 (vcs := []) (vals := [.int .u32 (ixor .u32 x_1 (w_u32 x_2)), .sl false 1 (List.map (AV.int .u8) b_1), .int .i64 (((b_1).length : Nat) : Int), .int .i64 v_1, .int .i64 (0 : Int)]) (bxs := []) (by kernel_rfl) hmix trivial ?_
    obtain ⟨o_2, h_3, h⟩ := bind_some h
    refine aw_mid (mk [(3, .int .u32 o_2), (7, .sl false 1 (List.map (AV.int .u8) b_1)), (8, .int .i64 (((b_1).length : Nat) : Int)), (9, .int .i64 v_1)] [] 0) ?_ ?_
    · replace h := h_3
      refine aw_block (id := 2) (by kernel_rfl) ?_
      refine aw_sub (sub_wk [] [] [(3, .int .u32 (ixor .u32 x_1 (w_u32 x_2))), (7, .sl false 1 (List.map (AV.int .u8) b_1)), (8, .int .i64 (((b_1).length : Nat) : Int)), (9, .int .i64 v_1), (17, .int .i64 (0 : Int))] [] (vcs := [((.int .u32 (ixor .u32 x_1 (w_u32 x_2)) : AV) = .int .u32 (ixor .u32 x_1 (w_u32 x_2)) : Prop), (1 = 1 : Prop), ((List.map (AV.int .u8) b_1) = (List.map (AV.int .u8) b_1) : Prop), ((!false || false) = true : Prop), ((.int .i64 (((b_1).length : Nat) : Int) : AV) = .int .i64 (((b_1).length : Nat) : Int) : Prop), ((.int .i64 v_1 : AV) = .int .i64 v_1 : Prop), ((.int .i64 (0 : Int) : AV) = .int .i64 (0 : Int) : Prop)]) (by kernel_rfl) ⟨rfl, rfl, rfl, rfl, rfl, rfl, rfl, trivial⟩) ?_
      refine aw_loopF (fun n st => ∃ (x_3 : Int), ∃ (v_2 : Int), st = mk [(3, .int .u32 x_3), (7, .sl false 1 (List.map (AV.int .u8) b_1)), (8, .int .i64 (((b_1).length : Nat) : Int)), (9, .int .i64 v_1), (17, .int .i64 v_2)] [] 0 ∧ cSum_L2 F n x_3 v_2 = some o_2) F (by kernel_rfl) ⟨_, _, rfl, h⟩ ?_ ?_
      · rintro _ ⟨_, _, _, h⟩; exact none_ne (h : (none : Option Int) = some o_2)
      rintro n_2 _ ⟨x_3, v_2, rfl, h⟩
      replace h : cSum_L2_body F (cSum_L2 F n_2) x_3 v_2 = some o_2 := h
      unfold cSum_L2_body at h
      refine aw_seq (by kernel_rfl) ?_
      refine aw_region [] [3, 7, 8, 9, 17, 18] [] 0 (vcs := []) (vals := [.int .u32 x_3, .sl false 1 (List.map (AV.int .u8) b_1), .int .i64 (((b_1).length : Nat) : Int), .int .i64 v_1, .int .i64 v_2, .bool (decide (v_2 < (8 : Int)))]) (bxs := []) (by kernel_rfl) hmix trivial ?_
      refine aw_seq (by kernel_rfl) ?_
      refine aw_cond (t := 18) (b := (decide (v_2 < (8 : Int)))) (by kernel_rfl) (by kernel_rfl) ?_ ?_
      rotate_left
      · intro g_2; replace h := cond_f g_2 h
        refine aw_exit (id := 2) (by kernel_rfl) ?_
        replace h := Option.some.inj h; subst h
        exact ⟨rfl, (sub_wk [] [] [(3, .int .u32 x_3), (7, .sl false 1 (List.map (AV.int .u8) b_1)), (8, .int .i64 (((b_1).length : Nat) : Int)), (9, .int .i64 v_1)] [] (vcs := [((.int .u32 x_3 : AV) = .int .u32 x_3 : Prop), (1 = 1 : Prop), ((List.map (AV.int .u8) b_1) = (List.map (AV.int .u8) b_1) : Prop), ((!false || false) = true : Prop), ((.int .i64 (((b_1).length : Nat) : Int) : AV) = .int .i64 (((b_1).length : Nat) : Int) : Prop), ((.int .i64 v_1 : AV) = .int .i64 v_1 : Prop)]) (by kernel_rfl) ⟨rfl, rfl, rfl, rfl, rfl, rfl, trivial⟩)⟩
      intro g_2; replace h := cond_t g_2 h
      refine aw_skip (by kernel_rfl) ?_
      refine aw_seq (by kernel_rfl) ?_
      refine aw_block (id := 3) (by kernel_rfl) ?_
      refine aw_seq (by kernel_rfl) ?_
      refine aw_region [] [3, 6, 7, 8, 9, 17] [] 0 (vcs := []) (vals := [.int .u32 x_3, .int .u32 (iand .u32 x_3 (1 : Int)), .sl false 1 (List.map (AV.int .u8) b_1), .int .i64 (((b_1).length : Nat) : Int), .int .i64 v_1, .int .i64 v_2]) (bxs := []) (by kernel_rfl) hmix trivial ?_
      refine aw_seq (by kernel_rfl) ?_
      refine aw_region [] [3, 6, 7, 8, 9, 17] [] 0 (vcs := [(0 : Int) ≤ (1 : Int)]) (vals := [.int .u32 (ishr .u32 x_3 (1 : Int)), .int .u32 (iand .u32 x_3 (1 : Int)), .sl false 1 (List.map (AV.int .u8) b_1), .int .i64 (((b_1).length : Nat) : Int), .int .i64 v_1, .int .i64 v_2]) (bxs := []) (by kernel_rfl) hmix ⟨(by decide), trivial⟩ ?_
      refine aw_seq (by kernel_rfl) ?_
      refine aw_region [] [3, 7, 8, 9, 17, 24] [] 0 (vcs := []) (vals := [.int .u32 (ishr .u32 x_3 (1 : Int)), .sl false 1 (List.map (AV.int .u8) b_1), .int .i64 (((b_1).length : Nat) : Int), .int .i64 v_1, .int .i64 v_2, .bool ((iand .u32 x_3 (1 : Int)) == (1 : Int))]) (bxs := []) (by kernel_rfl) hmix trivial ?_
      refine aw_cond (t := 24) (b := ((iand .u32 x_3 (1 : Int)) == (1 : Int))) (by kernel_rfl) (by kernel_rfl) ?_ ?_
      · intro g_3; replace h := cond_t g_3 h
        refine aw_region [] [3, 7, 8, 9, 17] [] 0 (vcs := []) (vals := [.int .u32 (ixor .u32 (ishr .u32 x_3 (1 : Int)) (3988292384 : Int)), .sl false 1 (List.map (AV.int .u8) b_1), .int .i64 (((b_1).length : Nat) : Int), .int .i64 v_1, .int .i64 v_2]) (bxs := []) (by kernel_rfl) hmix trivial ?_
        refine aw_region [] [3, 7, 8, 9, 17] [] 0 (vcs := []) (vals := [.int .u32 (ixor .u32 (ishr .u32 x_3 (1 : Int)) (3988292384 : Int)), .sl false 1 (List.map (AV.int .u8) b_1), .int .i64 (((b_1).length : Nat) : Int), .int .i64 v_1, .int .i64 (w_i64 (v_2 + (1 : Int)))]) (bxs := []) (by kernel_rfl) hmix trivial ?_
        exact ⟨_, (sub_wk [] [] [(3, .int .u32 (ixor .u32 (ishr .u32 x_3 (1 : Int)) (3988292384 : Int))), (7, .sl false 1 (List.map (AV.int .u8) b_1)), (8, .int .i64 (((b_1).length : Nat) : Int)), (9, .int .i64 v_1), (17, .int .i64 (w_i64 (v_2 + (1 : Int))))] [] (vcs := [((.int .u32 (ixor .u32 (ishr .u32 x_3 (1 : Int)) (3988292384 : Int)) : AV) = .int .u32 (ixor .u32 (ishr .u32 x_3 (1 : Int)) (3988292384 : Int)) : Prop), (1 = 1 : Prop), ((List.map (AV.int .u8) b_1) = (List.map (AV.int .u8) b_1) : Prop), ((!false || false) = true : Prop), ((.int .i64 (((b_1).length : Nat) : Int) : AV) = .int .i64 (((b_1).length : Nat) : Int) : Prop), ((.int .i64 v_1 : AV) = .int .i64 v_1 : Prop), ((.int .i64 (w_i64 (v_2 + (1 : Int))) : AV) = .int .i64 (w_i64 (v_2 + (1 : Int))) : Prop)]) (by kernel_rfl) ⟨rfl, rfl, rfl, rfl, rfl, rfl, rfl, trivial⟩), _, _, rfl, h⟩
      intro g_3; replace h := cond_f g_3 h
      refine aw_skip (by kernel_rfl) ?_
      refine aw_region [] [3, 7, 8, 9, 17] [] 0 (vcs := []) (vals := [.int .u32 (ishr .u32 x_3 (1 : Int)), .sl false 1 (List.map (AV.int .u8) b_1), .int .i64 (((b_1).length : Nat) : Int), .int .i64 v_1, .int .i64 (w_i64 (v_2 + (1 : Int)))]) (bxs := []) (by kernel_rfl) hmix trivial ?_
      exact ⟨_, (sub_wk [] [] [(3, .int .u32 (ishr .u32 x_3 (1 : Int))), (7, .sl false 1 (List.map (AV.int .u8) b_1)), (8, .int .i64 (((b_1).length : Nat) : Int)), (9, .int .i64 v_1), (17, .int .i64 (w_i64 (v_2 + (1 : Int))))] [] (vcs := [((.int .u32 (ishr .u32 x_3 (1 : Int)) : AV) = .int .u32 (ishr .u32 x_3 (1 : Int)) : Prop), (1 = 1 : Prop), ((List.map (AV.int .u8) b_1) = (List.map (AV.int .u8) b_1) : Prop), ((!false || false) = true : Prop), ((.int .i64 (((b_1).length : Nat) : Int) : AV) = .int .i64 (((b_1).length : Nat) : Int) : Prop), ((.int .i64 v_1 : AV) = .int .i64 v_1 : Prop), ((.int .i64 (w_i64 (v_2 + (1 : Int))) : AV) = .int .i64 (w_i64 (v_2 + (1 : Int))) : Prop)]) (by kernel_rfl) ⟨rfl, rfl, rfl, rfl, rfl, rfl, rfl, trivial⟩), _, _, rfl, h⟩
    refine aw_region [] [3, 7, 8, 9] [] 0 (vcs := []) (vals := [.int .u32 o_2, .sl false 1 (List.map (AV.int .u8) b_1), .int .i64 (((b_1).length : Nat) : Int), .int .i64 (w_i64 (v_1 + (1 : Int)))]) (bxs := []) (by kernel_rfl) hmix trivial ?_
    exact ⟨_, (sub_wk [] [] [(3, .int .u32 o_2), (7, .sl false 1 (List.map (AV.int .u8) b_1)), (8, .int .i64 (((b_1).length : Nat) : Int)), (9, .int .i64 (w_i64 (v_1 + (1 : Int))))] [] (vcs := [((.int .u32 o_2 : AV) = .int .u32 o_2 : Prop), (1 = 1 : Prop), ((List.map (AV.int .u8) b_1) = (List.map (AV.int .u8) b_1) : Prop), ((!false || false) = true : Prop), ((.int .i64 (((b_1).length : Nat) : Int) : AV) = .int .i64 (((b_1).length : Nat) : Int) : Prop), ((.int .i64 (w_i64 (v_1 + (1 : Int))) : AV) = .int .i64 (w_i64 (v_1 + (1 : Int))) : Prop)]) (by kernel_rfl) ⟨rfl, rfl, rfl, rfl, rfl, rfl, trivial⟩), _, _, rfl, h⟩
  refine aw_seq (by kernel_rfl) ?_
  refine aw_region [] [2] [] 0 (vcs := []) (vals := [.int .i64 (w_i64 (ixor .u32 (4294967295 : Int) o_1))]) (bxs := []) (by kernel_rfl) hmix trivial ?_
  refine aw_ret (by kernel_rfl) ?_
  replace h := Option.some.inj h; subst h
  exact ⟨.inr rfl, Nat.le_of_ble_eq_true rfl, by kernel_rfl⟩

theorem rSum_ok (F : Nat) (b_1 : List (Int)) (r : Int) (h : rSum F b_1 = some r) : Triple prog 17 [] [.sl false 1 (List.map (AV.int .u8) b_1)] [] (.int .i64 r) := by
  refine triple_intro (fn := Go.Proofs.Try.f17) (code := codeOf Go.Proofs.Try.f17) (by kernel_rfl) (by kernel_rfl) (Nat.le_of_ble_eq_true (by kernel_rfl)) ?_
  unfold rSum at h
  refine aw_seq (by kernel_rfl) ?_
  refine aw_region [] [0] [] 0 (vcs := []) (vals := [.sl false 1 (List.map (AV.int .u8) b_1)]) (bxs := []) (by kernel_rfl) hmix trivial ?_
  refine aw_seq (by kernel_rfl) ?_
  refine aw_region [] [0, 3] [] 0 (vcs := []) (vals := [.sl false 1 (List.map (AV.int .u8) b_1), .int .u32 (4294967295 : Int)]) (bxs := []) (by kernel_rfl) hmix trivial ?_
  refine aw_seq (by kernel_rfl) ?_
  refine aw_seq (by kernel_rfl) ?_
  refine aw_region [] [0, 3, 4] [] 0 (vcs := []) (vals := [.sl false 1 (List.map (AV.int .u8) b_1), .int .u32 (4294967295 : Int), .int .i64 (0 : Int)]) (bxs := []) (by kernel_rfl) hmix trivial ?_
  obtain ⟨o_1, h_1, h⟩ := bind_some h
  refine aw_mid (mk [(3, .int .u32 o_1)] [] 0) ?_ ?_
  · replace h := h_1
    refine aw_block (id := 0) (by kernel_rfl) ?_
    refine aw_sub (sub_wk [] [] [(0, .sl false 1 (List.map (AV.int .u8) b_1)), (3, .int .u32 (4294967295 : Int)), (4, .int .i64 (0 : Int))] [] (vcs := [(1 = 1 : Prop), ((List.map (AV.int .u8) b_1) = (List.map (AV.int .u8) b_1) : Prop), ((!false || false) = true : Prop), ((.int .u32 (4294967295 : Int) : AV) = .int .u32 (4294967295 : Int) : Prop), ((.int .i64 (0 : Int) : AV) = .int .i64 (0 : Int) : Prop)]) (by kernel_rfl) ⟨rfl, rfl, rfl, rfl, rfl, trivial⟩) ?_
    refine aw_loopF (fun n st => ∃ (x_1 : Int), ∃ (i_1 : Int), st = mk [(0, .sl false 1 (List.map (AV.int .u8) b_1)), (3, .int .u32 x_1), (4, .int .i64 i_1)] [] 0 ∧ rSum_L1 F b_1 n x_1 i_1 = some o_1) F (by kernel_rfl) ⟨_, _, rfl, h⟩ ?_ ?_
    · rintro _ ⟨_, _, _, h⟩; exact none_ne (h : (none : Option Int) = some o_1)
    rintro n_1 _ ⟨x_1, i_1, rfl, h⟩
    replace h : rSum_L1_body F b_1 (rSum_L1 F b_1 n_1) x_1 i_1 = some o_1 := h
    unfold rSum_L1_body at h
    refine aw_seq (by kernel_rfl) ?_
    refine aw_seq (by kernel_rfl) ?_
    refine aw_region [(2, { n := (b_1).length })] [0, 3, 4, 10] [] 0 (vcs := [((List.map (AV.int .u8) b_1)).length = (b_1).length]) (vals := [.sl false 1 (List.map (AV.int .u8) b_1), .int .u32 x_1, .int .i64 i_1, .bool (decide (i_1 < (((b_1).length : Nat) : Int)))]) (bxs := []) (by kernel_rfl) hmix ⟨(vc_len _), trivial⟩ ?_
    refine aw_cond (t := 10) (b := (decide (i_1 < (((b_1).length : Nat) : Int)))) (by kernel_rfl) (by kernel_rfl) ?_ ?_
    rotate_left
    · intro g_1; replace h := cond_f g_1 h
      refine aw_exit (id := 0) (by kernel_rfl) ?_
      replace h := Option.some.inj h; subst h
      exact ⟨rfl, (sub_wk [] [] [(3, .int .u32 x_1)] [] (vcs := [((.int .u32 x_1 : AV) = .int .u32 x_1 : Prop)]) (by kernel_rfl) ⟨rfl, trivial⟩)⟩
    intro g_1; replace h := cond_t g_1 h
    refine aw_skip (by kernel_rfl) ?_
    refine aw_seq (by kernel_rfl) ?_
    refine aw_block (id := 1) (by kernel_rfl) ?_
    refine aw_seq (by kernel_rfl) ?_
    obtain ⟨x_2, h_2, h⟩ := bind_some h
    refine aw_region [(3, { av := .int .u8 x_2 })] [0, 3, 4] [] 0 (vcs := [idxA (List.map (AV.int .u8) b_1) i_1 = some (.int .u8 x_2)]) (vals := [.sl false 1 (List.map (AV.int .u8) b_1), .int .u32 (ixor .u32 x_1 (w_u32 x_2)), .int .i64 i_1]) (bxs := []) (by kernel_rfl) hmix ⟨(vc_idx h_2), trivial⟩ ?_
    refine aw_seq (by kernel_rfl) ?_
    refine aw_region [] [0, 3, 4, 5] [] 0 (vcs := []) (vals := [.sl false 1 (List.map (AV.int .u8) b_1), .int .u32 (ixor .u32 x_1 (w_u32 x_2)), .int .i64 i_1, .int .i64 (0 : Int)]) (bxs := []) (by kernel_rfl) hmix trivial ?_
    obtain ⟨o_2, h_3, h⟩ := bind_some h
    refine aw_mid (mk [(0, .sl false 1 (List.map (AV.int .u8) b_1)), (3, .int .u32 o_2), (4, .int .i64 i_1)] [] 0) ?_ ?_
    · replace h := h_3
      refine aw_block (id := 2) (by kernel_rfl) ?_
      refine aw_sub (sub_wk [] [] [(0, .sl false 1 (List.map (AV.int .u8) b_1)), (3, .int .u32 (ixor .u32 x_1 (w_u32 x_2))), (4, .int .i64 i_1), (5, .int .i64 (0 : Int))] [] (vcs := [(1 = 1 : Prop), ((List.map (AV.int .u8) b_1) = (List.map (AV.int .u8) b_1) : Prop), ((!false || false) = true : Prop), ((.int .u32 (ixor .u32 x_1 (w_u32 x_2)) : AV) = .int .u32 (ixor .u32 x_1 (w_u32 x_2)) : Prop), ((.int .i64 i_1 : AV) = .int .i64 i_1 : Prop), ((.int .i64 (0 : Int) : AV) = .int .i64 (0 : Int) : Prop)]) (by kernel_rfl) ⟨rfl, rfl, rfl, rfl, rfl, rfl, trivial⟩) ?_
      refine aw_loopF (fun n st => ∃ (x_3 : Int), ∃ (k_1 : Int), st = mk [(0, .sl false 1 (List.map (AV.int .u8) b_1)), (3, .int .u32 x_3), (4, .int .i64 i_1), (5, .int .i64 k_1)] [] 0 ∧ rSum_L2 F n x_3 k_1 = some o_2) F (by kernel_rfl) ⟨_, _, rfl, h⟩ ?_ ?_
      · rintro _ ⟨_, _, _, h⟩; exact none_ne (h : (none : Option Int) = some o_2)
      rintro n_2 _ ⟨x_3, k_1, rfl, h⟩
      replace h : rSum_L2_body F (rSum_L2 F n_2) x_3 k_1 = some o_2 := h
      unfold rSum_L2_body at h
      refine aw_seq (by kernel_rfl) ?_
      refine aw_seq (by kernel_rfl) ?_
      refine aw_region [] [0, 3, 4, 5, 21] [] 0 (vcs := []) (vals := [.sl false 1 (List.map (AV.int .u8) b_1), .int .u32 x_3, .int .i64 i_1, .int .i64 k_1, .bool (decide (k_1 < (8 : Int)))]) (bxs := []) (by kernel_rfl) hmix trivial ?_
      refine aw_cond (t := 21) (b := (decide (k_1 < (8 : Int)))) (by kernel_rfl) (by kernel_rfl) ?_ ?_
      rotate_left
      · intro g_2; replace h := cond_f g_2 h
        refine aw_exit (id := 2) (by kernel_rfl) ?_
        replace h := Option.some.inj h; subst h
        exact ⟨rfl, (sub_wk [] [] [(0, .sl false 1 (List.map (AV.int .u8) b_1)), (3, .int .u32 x_3), (4, .int .i64 i_1)] [] (vcs := [(1 = 1 : Prop), ((List.map (AV.int .u8) b_1) = (List.map (AV.int .u8) b_1) : Prop), ((!false || false) = true : Prop), ((.int .u32 x_3 : AV) = .int .u32 x_3 : Prop), ((.int .i64 i_1 : AV) = .int .i64 i_1 : Prop)]) (by kernel_rfl) ⟨rfl, rfl, rfl, rfl, rfl, trivial⟩)⟩
      intro g_2; replace h := cond_t g_2 h
      refine aw_skip (by kernel_rfl) ?_
      refine aw_seq (by kernel_rfl) ?_
      obtain ⟨o_3, h_4, h⟩ := bind_some h
      refine aw_mid (mk [(0, .sl false 1 (List.map (AV.int .u8) b_1)), (3, .int .u32 o_3), (4, .int .i64 i_1), (5, .int .i64 k_1)] [] 0) ?_ ?_
      · replace h := h_4
        refine aw_block (id := 3) (by kernel_rfl) ?_
        refine aw_seq (by kernel_rfl) ?_
        refine aw_region [] [0, 3, 4, 5, 6] [] 0 (vcs := [(2 : Int) ≠ (0 : Int)]) (vals := [.sl false 1 (List.map (AV.int .u8) b_1), .int .u32 x_3, .int .i64 i_1, .int .i64 k_1, .int .u32 (irem x_3 (2 : Int))]) (bxs := []) (by kernel_rfl) hmix ⟨(by decide), trivial⟩ ?_
        refine aw_seq (by kernel_rfl) ?_
        refine aw_region [] [0, 3, 4, 5, 6] [] 0 (vcs := [(2 : Int) ≠ (0 : Int)]) (vals := [.sl false 1 (List.map (AV.int .u8) b_1), .int .u32 (iquo .u32 x_3 (2 : Int)), .int .i64 i_1, .int .i64 k_1, .int .u32 (irem x_3 (2 : Int))]) (bxs := []) (by kernel_rfl) hmix ⟨(by decide), trivial⟩ ?_
        refine aw_seq (by kernel_rfl) ?_
        refine aw_region [] [0, 3, 4, 5, 29] [] 0 (vcs := []) (vals := [.sl false 1 (List.map (AV.int .u8) b_1), .int .u32 (iquo .u32 x_3 (2 : Int)), .int .i64 i_1, .int .i64 k_1, .bool ((irem x_3 (2 : Int)) == (1 : Int))]) (bxs := []) (by kernel_rfl) hmix trivial ?_
        refine aw_cond (t := 29) (b := ((irem x_3 (2 : Int)) == (1 : Int))) (by kernel_rfl) (by kernel_rfl) ?_ ?_
        · intro g_3; replace h := cond_t g_3 h
          refine aw_region [] [0, 3, 4, 5] [] 0 (vcs := []) (vals := [.sl false 1 (List.map (AV.int .u8) b_1), .int .u32 (ixor .u32 (iquo .u32 x_3 (2 : Int)) (3988292384 : Int)), .int .i64 i_1, .int .i64 k_1]) (bxs := []) (by kernel_rfl) hmix trivial ?_
          replace h := Option.some.inj h; subst h
          exact ⟨rfl, (sub_wk [] [] [(0, .sl false 1 (List.map (AV.int .u8) b_1)), (3, .int .u32 (ixor .u32 (iquo .u32 x_3 (2 : Int)) (3988292384 : Int))), (4, .int .i64 i_1), (5, .int .i64 k_1)] [] (vcs := [(1 = 1 : Prop), ((List.map (AV.int .u8) b_1) = (List.map (AV.int .u8) b_1) : Prop), ((!false || false) = true : Prop), ((.int .u32 (ixor .u32 (iquo .u32 x_3 (2 : Int)) (3988292384 : Int)) : AV) = .int .u32 (ixor .u32 (iquo .u32 x_3 (2 : Int)) (3988292384 : Int)) : Prop), ((.int .i64 i_1 : AV) = .int .i64 i_1 : Prop), ((.int .i64 k_1 : AV) = .int .i64 k_1 : Prop)]) (by kernel_rfl) ⟨rfl, rfl, rfl, rfl, rfl, rfl, trivial⟩)⟩
        intro g_3; replace h := cond_f g_3 h
        refine aw_skip (by kernel_rfl) ?_
        replace h := Option.some.inj h; subst h
        exact ⟨rfl, (sub_wk [] [] [(0, .sl false 1 (List.map (AV.int .u8) b_1)), (3, .int .u32 (iquo .u32 x_3 (2 : Int))), (4, .int .i64 i_1), (5, .int .i64 k_1)] [] (vcs := [(1 = 1 : Prop), ((List.map (AV.int .u8) b_1) = (List.map (AV.int .u8) b_1) : Prop), ((!false || false) = true : Prop), ((.int .u32 (iquo .u32 x_3 (2 : Int)) : AV) = .int .u32 (iquo .u32 x_3 (2 : Int)) : Prop), ((.int .i64 i_1 : AV) = .int .i64 i_1 : Prop), ((.int .i64 k_1 : AV) = .int .i64 k_1 : Prop)]) (by kernel_rfl) ⟨rfl, rfl, rfl, rfl, rfl, rfl, trivial⟩)⟩
      refine aw_region [] [0, 3, 4, 5] [] 0 (vcs := []) (vals := [.sl false 1 (List.map (AV.int .u8) b_1), .int .u32 o_3, .int .i64 i_1, .int .i64 (w_i64 (k_1 + (1 : Int)))]) (bxs := []) (by kernel_rfl) hmix trivial ?_
      exact ⟨_, (sub_wk [] [] [(0, .sl false 1 (List.map (AV.int .u8) b_1)), (3, .int .u32 o_3), (4, .int .i64 i_1), (5, .int .i64 (w_i64 (k_1 + (1 : Int))))] [] (vcs := [(1 = 1 : Prop), ((List.map (AV.int .u8) b_1) = (List.map (AV.int .u8) b_1) : Prop), ((!false || false) = true : Prop), ((.int .u32 o_3 : AV) = .int .u32 o_3 : Prop), ((.int .i64 i_1 : AV) = .int .i64 i_1 : Prop), ((.int .i64 (w_i64 (k_1 + (1 : Int))) : AV) = .int .i64 (w_i64 (k_1 + (1 : Int))) : Prop)]) (by kernel_rfl) ⟨rfl, rfl, rfl, rfl, rfl, rfl, trivial⟩), _, _, rfl, h⟩
    refine aw_region [] [0, 3, 4] [] 0 (vcs := []) (vals := [.sl false 1 (List.map (AV.int .u8) b_1), .int .u32 o_2, .int .i64 (w_i64 (i_1 + (1 : Int)))]) (bxs := []) (by kernel_rfl) hmix trivial ?_
    exact ⟨_, (sub_wk [] [] [(0, .sl false 1 (List.map (AV.int .u8) b_1)), (3, .int .u32 o_2), (4, .int .i64 (w_i64 (i_1 + (1 : Int))))] [] (vcs := [(1 = 1 : Prop), ((List.map (AV.int .u8) b_1) = (List.map (AV.int .u8) b_1) : Prop), ((!false || false) = true : Prop), ((.int .u32 o_2 : AV) = .int .u32 o_2 : Prop), ((.int .i64 (w_i64 (i_1 + (1 : Int))) : AV) = .int .i64 (w_i64 (i_1 + (1 : Int))) : Prop)]) (by kernel_rfl) ⟨rfl, rfl, rfl, rfl, rfl, trivial⟩), _, _, rfl, h⟩
  refine aw_seq (by kernel_rfl) ?_
  refine aw_region [] [2] [] 0 (vcs := []) (vals := [.int .i64 (w_i64 (ixor .u32 o_1 (4294967295 : Int)))]) (bxs := []) (by kernel_rfl) hmix trivial ?_
  refine aw_ret (by kernel_rfl) ?_
  replace h := Option.some.inj h; subst h
  exact ⟨.inr rfl, Nat.le_of_ble_eq_true rfl, by kernel_rfl⟩

theorem cPutInt_ok (F : Nat) (b_1 : List (Int)) (n_1 : Int) (r : (List (Int))) (h : cPutInt F b_1 n_1 = some r) : Triple prog 18 [] [.sl false 1 (List.map (AV.int .u8) b_1), .int .i64 n_1] [] (.sl false 1 (List.map (AV.int .u8) r)) := by
  refine triple_intro (fn := Go.Proofs.Try.f18) (code := codeOf Go.Proofs.Try.f18) (by kernel_rfl) (by kernel_rfl) (Nat.le_of_ble_eq_true (by kernel_rfl)) ?_
  unfold cPutInt at h
  refine aw_seq (by kernel_rfl) ?_
  refine aw_region [] [0, 1] [] 0 (vcs := []) (vals := [.sl false 1 (List.map (AV.int .u8) b_1), .int .i64 n_1]) (bxs := []) (by kernel_rfl) hmix trivial ?_
  refine aw_seq (by kernel_rfl) ?_
  refine aw_region [(0, { b := true, id := 0 })] [0, 1, 5] [0] 1 (vcs := []) (vals := [.sl false 1 (List.map (AV.int .u8) b_1), .int .i64 n_1, .ptr 0 0 0 0]) (bxs := [.live (.row 44 1 (List.map (AV.int .u8) (List.replicate 10 (0 : Int))))]) (by kernel_rfl) hmix trivial ?_
  refine aw_seq (by kernel_rfl) ?_
  refine aw_region [] [0, 1, 5, 6] [0] 1 (vcs := []) (vals := [.sl false 1 (List.map (AV.int .u8) b_1), .int .i64 n_1, .ptr 0 0 0 0, .int .i64 (0 : Int)]) (bxs := [.live (.row 44 1 (List.map (AV.int .u8) (List.replicate 10 (0 : Int))))]) (by kernel_rfl) hmix trivial ?_
  refine aw_seq (by kernel_rfl) ?_
  refine aw_seq (by kernel_rfl) ?_
  obtain ⟨r_1, h_1, h⟩ := bind_some h
  refine aw_region [(1, { av := .int .u64 r_1, l := [.int .i64 n_1] })] [0, 5, 6, 7] [0] 1 (vcs := [([.int .i64 n_1] : List AV) = [.int .i64 n_1], ([] : List BoxSt) = [], Triple prog 24 [] [.int .i64 n_1] [] (.int .u64 r_1)]) (vals := [.sl false 1 (List.map (AV.int .u8) b_1), .ptr 0 0 0 0, .int .i64 (0 : Int), .int .u64 r_1]) (bxs := [.live (.row 44 1 (List.map (AV.int .u8) (List.replicate 10 (0 : Int))))]) (by kernel_rfl) hmix ⟨rfl, rfl, (cn_ok n_1 r_1 h_1), trivial⟩ ?_
  obtain ⟨o_1, h_2, h⟩ := bind_some h
  refine aw_mid (mk [(0, .sl false 1 (List.map (AV.int .u8) b_1)), (5, .ptr 0 0 0 0), (6, .int .i64 o_1.1)] [(0, .live (.row 44 1 (List.map (AV.int .u8) o_1.2)))] 1) ?_ ?_
  · replace h := h_2
    refine aw_block (id := 0) (by kernel_rfl) ?_
    refine aw_sub (sub_wk [0] [] [(0, .sl false 1 (List.map (AV.int .u8) b_1)), (5, .ptr 0 0 0 0), (6, .int .i64 (0 : Int)), (7, .int .u64 r_1)] [(0, .live (.row 44 1 (List.map (AV.int .u8) (List.replicate 10 (0 : Int)))))] (vcs := [(1 = 1 : Prop), ((List.map (AV.int .u8) b_1) = (List.map (AV.int .u8) b_1) : Prop), ((!false || false) = true : Prop), ((.ptr 0 0 0 0 : AV) = .ptr 0 0 0 0 : Prop), ((.int .i64 (0 : Int) : AV) = .int .i64 (0 : Int) : Prop), ((.int .u64 r_1 : AV) = .int .u64 r_1 : Prop), (44 = 44 : Prop), (1 = 1 : Prop), (((List.map (AV.int .u8) (List.replicate 10 (0 : Int))) : List AV) = (List.map (AV.int .u8) (List.replicate 10 (0 : Int))) : Prop)]) (by kernel_rfl) ⟨rfl, rfl, rfl, rfl, rfl, rfl, rfl, rfl, rfl, trivial⟩) ?_
    refine aw_loopF (fun n st => ∃ (size_1 : Int), ∃ (u_1 : Int), ∃ (row_1 : List Int), st = mk [(0, .sl false 1 (List.map (AV.int .u8) b_1)), (5, .ptr 0 0 0 0), (6, .int .i64 size_1), (7, .int .u64 u_1)] [(0, .live (.row 44 1 (List.map (AV.int .u8) row_1)))] 1 ∧ cPutInt_L1 F n size_1 u_1 row_1 = some o_1) F (by kernel_rfl) ⟨_, _, _, rfl, h⟩ ?_ ?_
    · rintro _ ⟨_, _, _, _, h⟩; exact none_ne (h : (none : Option (Int × (List Int))) = some o_1)
    rintro n_2 _ ⟨size_1, u_1, row_1, rfl, h⟩
    replace h : cPutInt_L1_body F (cPutInt_L1 F n_2) size_1 u_1 row_1 = some o_1 := h
    unfold cPutInt_L1_body at h
    refine aw_seq (by kernel_rfl) ?_
    refine aw_block (id := 1) (by kernel_rfl) ?_
    refine aw_seq (by kernel_rfl) ?_
    obtain ⟨_, h_3, h⟩ := bind_some h; replace h_3 := need_some h_3
    obtain ⟨x_1, h_4, h⟩ := bind_some h
    refine aw_region [(4, { b := true }), (5, { av := .int .u8 x_1, l := (List.map (AV.int .u8) ((row_1).set ((size_1).toNat) (w_u8 (iand .u64 u_1 (127 : Int))))) })] [0, 5, 6, 7] [0] 1 (vcs := [(0 : Int) ≤ size_1, size_1 < ((10 : Nat) : Int), (List.map (AV.int .u8) row_1)[(size_1).toNat]? = some (.int .u8 x_1), (List.map (AV.int .u8) ((row_1).set ((size_1).toNat) (w_u8 (iand .u64 u_1 (127 : Int))))) = List.set (List.map (AV.int .u8) row_1) ((size_1).toNat) (setElem (.int .u8 x_1) 0 [.int .u8 (w_u8 (iand .u64 u_1 (127 : Int)))])]) (vals := [.sl false 1 (List.map (AV.int .u8) b_1), .ptr 0 0 0 0, .int .i64 size_1, .int .u64 u_1]) (bxs := [.live (.row 44 1 (List.map (AV.int .u8) ((row_1).set ((size_1).toNat) (w_u8 (iand .u64 u_1 (127 : Int))))))]) (by kernel_rfl) hmix ⟨h_3.1, h_3.2, (vc_getN h_4), (vc_set _ _ _), trivial⟩ ?_
    refine aw_seq (by kernel_rfl) ?_
    refine aw_region [] [0, 5, 6, 7] [0] 1 (vcs := []) (vals := [.sl false 1 (List.map (AV.int .u8) b_1), .ptr 0 0 0 0, .int .i64 (w_i64 (size_1 + (1 : Int))), .int .u64 u_1]) (bxs := [.live (.row 44 1 (List.map (AV.int .u8) ((row_1).set ((size_1).toNat) (w_u8 (iand .u64 u_1 (127 : Int))))))]) (by kernel_rfl) hmix trivial ?_
    refine aw_seq (by kernel_rfl) ?_
    refine aw_seq (by kernel_rfl) ?_
    refine aw_region [] [0, 5, 6, 7, 20] [0] 1 (vcs := []) (vals := [.sl false 1 (List.map (AV.int .u8) b_1), .ptr 0 0 0 0, .int .i64 (w_i64 (size_1 + (1 : Int))), .int .u64 u_1, .bool (decide (u_1 < (128 : Int)))]) (bxs := [.live (.row 44 1 (List.map (AV.int .u8) ((row_1).set ((size_1).toNat) (w_u8 (iand .u64 u_1 (127 : Int))))))]) (by kernel_rfl) hmix trivial ?_
    refine aw_cond (t := 20) (b := (decide (u_1 < (128 : Int)))) (by kernel_rfl) (by kernel_rfl) ?_ ?_
    · intro g_1; replace h := cond_t g_1 h
      refine aw_exit (id := 0) (by kernel_rfl) ?_
      replace h := Option.some.inj h; subst h
      exact ⟨rfl, (sub_wk [0] [] [(0, .sl false 1 (List.map (AV.int .u8) b_1)), (5, .ptr 0 0 0 0), (6, .int .i64 (w_i64 (size_1 + (1 : Int))))] [(0, .live (.row 44 1 (List.map (AV.int .u8) ((row_1).set ((size_1).toNat) (w_u8 (iand .u64 u_1 (127 : Int)))))))] (vcs := [(1 = 1 : Prop), ((List.map (AV.int .u8) b_1) = (List.map (AV.int .u8) b_1) : Prop), ((!false || false) = true : Prop), ((.ptr 0 0 0 0 : AV) = .ptr 0 0 0 0 : Prop), ((.int .i64 (w_i64 (size_1 + (1 : Int))) : AV) = .int .i64 (w_i64 (size_1 + (1 : Int))) : Prop), (44 = 44 : Prop), (1 = 1 : Prop), (((List.map (AV.int .u8) ((row_1).set ((size_1).toNat) (w_u8 (iand .u64 u_1 (127 : Int))))) : List AV) = (List.map (AV.int .u8) ((row_1).set ((size_1).toNat) (w_u8 (iand .u64 u_1 (127 : Int))))) : Prop)]) (by kernel_rfl) ⟨rfl, rfl, rfl, rfl, rfl, rfl, rfl, rfl, trivial⟩)⟩
    intro g_1; replace h := cond_f g_1 h
    refine aw_skip (by kernel_rfl) ?_
    obtain ⟨_, h_5, h⟩ := bind_some h; replace h_5 := need_some h_5
    obtain ⟨x_2, h_6, h⟩ := bind_some h
    obtain ⟨_, h_7, h⟩ := bind_some h; replace h_7 := need_some h_7
    obtain ⟨x_3, h_8, h⟩ := bind_some h
    refine aw_region [(2, { b := true }), (3, { av := .int .u8 x_2 }), (5, { b := true }), (6, { av := .int .u8 x_3, l := (List.map (AV.int .u8) (((row_1).set ((size_1).toNat) (w_u8 (iand .u64 u_1 (127 : Int)))).set ((w_i64 ((w_i64 (size_1 + (1 : Int))) - (1 : Int))).toNat) (ior .u8 x_2 (128 : Int)))) })] [0, 5, 6, 7] [0] 1 (vcs := [(0 : Int) ≤ (w_i64 ((w_i64 (size_1 + (1 : Int))) - (1 : Int))), (w_i64 ((w_i64 (size_1 + (1 : Int))) - (1 : Int))) < ((10 : Nat) : Int), (List.map (AV.int .u8) ((row_1).set ((size_1).toNat) (w_u8 (iand .u64 u_1 (127 : Int)))))[(w_i64 ((w_i64 (size_1 + (1 : Int))) - (1 : Int))).toNat]? = some (.int .u8 x_2), (0 : Int) ≤ (w_i64 ((w_i64 (size_1 + (1 : Int))) - (1 : Int))), (w_i64 ((w_i64 (size_1 + (1 : Int))) - (1 : Int))) < ((10 : Nat) : Int), (List.map (AV.int .u8) ((row_1).set ((size_1).toNat) (w_u8 (iand .u64 u_1 (127 : Int)))))[(w_i64 ((w_i64 (size_1 + (1 : Int))) - (1 : Int))).toNat]? = some (.int .u8 x_3), (List.map (AV.int .u8) (((row_1).set ((size_1).toNat) (w_u8 (iand .u64 u_1 (127 : Int)))).set ((w_i64 ((w_i64 (size_1 + (1 : Int))) - (1 : Int))).toNat) (ior .u8 x_2 (128 : Int)))) = List.set (List.map (AV.int .u8) ((row_1).set ((size_1).toNat) (w_u8 (iand .u64 u_1 (127 : Int))))) ((w_i64 ((w_i64 (size_1 + (1 : Int))) - (1 : Int))).toNat) (setElem (.int .u8 x_3) 0 [.int .u8 (ior .u8 x_2 (128 : Int))])]) (vals := [.sl false 1 (List.map (AV.int .u8) b_1), .ptr 0 0 0 0, .int .i64 (w_i64 (size_1 + (1 : Int))), .int .u64 u_1]) (bxs := [.live (.row 44 1 (List.map (AV.int .u8) (((row_1).set ((size_1).toNat) (w_u8 (iand .u64 u_1 (127 : Int)))).set ((w_i64 ((w_i64 (size_1 + (1 : Int))) - (1 : Int))).toNat) (ior .u8 x_2 (128 : Int)))))]) (by kernel_rfl) hmix ⟨h_5.1, h_5.2, (vc_getN h_6), h_7.1, h_7.2, (vc_getN h_8), (vc_set _ _ _), trivial⟩ ?_
    refine aw_region [] [0, 5, 6, 7] [0] 1 (vcs := [(0 : Int) ≤ (7 : Int)]) (vals := [.sl false 1 (List.map (AV.int .u8) b_1), .ptr 0 0 0 0, .int .i64 (w_i64 (size_1 + (1 : Int))), .int .u64 (ishr .u64 u_1 (7 : Int))]) (bxs := [.live (.row 44 1 (List.map (AV.int .u8) (((row_1).set ((size_1).toNat) (w_u8 (iand .u64 u_1 (127 : Int)))).set ((w_i64 ((w_i64 (size_1 + (1 : Int))) - (1 : Int))).toNat) (ior .u8 x_2 (128 : Int)))))]) (by kernel_rfl) hmix ⟨(by decide), trivial⟩ ?_
    exact ⟨_, (sub_wk [0] [] [(0, .sl false 1 (List.map (AV.int .u8) b_1)), (5, .ptr 0 0 0 0), (6, .int .i64 (w_i64 (size_1 + (1 : Int)))), (7, .int .u64 (ishr .u64 u_1 (7 : Int)))] [(0, .live (.row 44 1 (List.map (AV.int .u8) (((row_1).set ((size_1).toNat) (w_u8 (iand .u64 u_1 (127 : Int)))).set ((w_i64 ((w_i64 (size_1 + (1 : Int))) - (1 : Int))).toNat) (ior .u8 x_2 (128 : Int))))))] (vcs := [(1 = 1 : Prop), ((List.map (AV.int .u8) b_1) = (List.map (AV.int .u8) b_1) : Prop), ((!false || false) = true : Prop), ((.ptr 0 0 0 0 : AV) = .ptr 0 0 0 0 : Prop), ((.int .i64 (w_i64 (size_1 + (1 : Int))) : AV) = .int .i64 (w_i64 (size_1 + (1 : Int))) : Prop), ((.int .u64 (ishr .u64 u_1 (7 : Int)) : AV) = .int .u64 (ishr .u64 u_1 (7 : Int)) : Prop), (44 = 44 : Prop), (1 = 1 : Prop), (((List.map (AV.int .u8) (((row_1).set ((size_1).toNat) (w_u8 (iand .u64 u_1 (127 : Int)))).set ((w_i64 ((w_i64 (size_1 + (1 : Int))) - (1 : Int))).toNat) (ior .u8 x_2 (128 : Int)))) : List AV) = (List.map (AV.int .u8) (((row_1).set ((size_1).toNat) (w_u8 (iand .u64 u_1 (127 : Int)))).set ((w_i64 ((w_i64 (size_1 + (1 : Int))) - (1 : Int))).toNat) (ior .u8 x_2 (128 : Int)))) : Prop)]) (by kernel_rfl) ⟨rfl, rfl, rfl, rfl, rfl, rfl, rfl, rfl, rfl, trivial⟩), _, _, _, rfl, h⟩
  refine aw_seq (by kernel_rfl) ?_
  obtain ⟨_, h_9, h⟩ := bind_some h; replace h_9 := need_some h_9
  obtain ⟨_, h_10, h⟩ := bind_some h; replace h_10 := need_some h_10
  obtain ⟨_, h_11, h⟩ := bind_some h; replace h_11 := need_some h_11
  refine aw_region [(2, { n := (b_1).length }), (4, { n := (b_1).length }), (5, { l := (List.map (AV.int .u8) (sub b_1 (0 : Int) (((b_1).length : Nat) : Int))) }), (8, { l := (List.map (AV.int .u8) ((sub b_1 (0 : Int) (((b_1).length : Nat) : Int)) ++ (((o_1.2).take ((o_1.1).toNat)).drop 0))) })] [4] [] 1 (vcs := [((List.map (AV.int .u8) b_1)).length = (b_1).length, ((List.map (AV.int .u8) b_1)).length = (b_1).length, (0 : Int) ≤ (0 : Int), (0 : Int) ≤ (((b_1).length : Nat) : Int), (((b_1).length : Nat) : Int) ≤ ((((List.map (AV.int .u8) b_1)).length : Nat) : Int), (((b_1).length : Nat) : Int) = (((b_1).length : Nat) : Int), (List.map (AV.int .u8) (sub b_1 (0 : Int) (((b_1).length : Nat) : Int))) = (((List.map (AV.int .u8) b_1)).take ((((b_1).length : Nat) : Int)).toNat).drop ((0 : Int)).toNat, (0 : Int) ≤ (0 : Int), (0 : Int) ≤ o_1.1, o_1.1 ≤ ((10 : Nat) : Int), 10 ≤ ((List.map (AV.int .u8) o_1.2)).length, ((o_1.1).toNat) ≤ ((List.map (AV.int .u8) o_1.2)).length, 0 ≤ ((o_1.1).toNat), (List.map (AV.int .u8) ((sub b_1 (0 : Int) (((b_1).length : Nat) : Int)) ++ (((o_1.2).take ((o_1.1).toNat)).drop 0))) = (List.map (AV.int .u8) (sub b_1 (0 : Int) (((b_1).length : Nat) : Int))) ++ (((List.map (AV.int .u8) o_1.2)).take ((o_1.1).toNat)).drop 0, (((List.map (AV.int .u8) (sub b_1 (0 : Int) (((b_1).length : Nat) : Int))) : List AV).length + ((((List.map (AV.int .u8) o_1.2)).take ((o_1.1).toNat)).drop 0 : List AV).length) * 1 ≤ 140737488355328]) (vals := [.sl false 1 (List.map (AV.int .u8) ((sub b_1 (0 : Int) (((b_1).length : Nat) : Int)) ++ (((o_1.2).take ((o_1.1).toNat)).drop 0)))]) (bxs := []) (by kernel_rfl) hmix ⟨(vc_len _), (vc_len _), (by decide), (Int.natCast_nonneg _), (vc_lenle (Int.le_refl _)), rfl, (vc_sub _ _ _), (by decide), h_9.1, h_9.2.1, (vc_lenle' h_9.2.2), (vc_lenle' h_10.2), h_10.1, (by simp), (by simpa using h_11), trivial⟩ ?_
  refine aw_ret (by kernel_rfl) ?_
  replace h := Option.some.inj h; subst h
  exact ⟨.inr rfl, Nat.le_of_ble_eq_true rfl, by kernel_rfl⟩

theorem rPutInt_ok (F : Nat) (b_1 : List (Int)) (n_1 : Int) (r : (List (Int))) (h : rPutInt F b_1 n_1 = some r) : Triple prog 20 [] [.sl false 1 (List.map (AV.int .u8) b_1), .int .i64 n_1] [.row 5 1 (List.map (AV.int .u8) r)] (.own 0 ((r).length)) := by
  refine triple_intro (fn := Go.Proofs.Try.f20) (code := codeOf Go.Proofs.Try.f20) (by kernel_rfl) (by kernel_rfl) (Nat.le_of_ble_eq_true (by kernel_rfl)) ?_
  unfold rPutInt at h
  refine aw_seq (by kernel_rfl) ?_
  refine aw_region [(0, { id := 0, m := 1 })] [0, 1] [] 1 (vcs := []) (vals := [.sl false 1 (List.map (AV.int .u8) b_1), .int .i64 n_1]) (bxs := []) (by kernel_rfl) hmix trivial ?_
  refine aw_seq (by kernel_rfl) ?_
  obtain ⟨_, h_1, h⟩ := bind_some h; replace h_1 := need_some h_1
  refine aw_region [(0, { id := 1 }), (2, { id := 2, l := (List.map (AV.int .u8) ([] ++ b_1)), n := (([] ++ b_1)).length })] [1, 5] [2] 3 (vcs := [0 = (([] : List AV)).length, True, (List.map (AV.int .u8) ([] ++ b_1)) = [] ++ (List.map (AV.int .u8) b_1), (([] ++ b_1)).length = ((List.map (AV.int .u8) ([] ++ b_1))).length, (([] : List AV).length + ((List.map (AV.int .u8) b_1) : List AV).length) * 1 ≤ 140737488355328]) (vals := [.int .i64 n_1, .own 2 ((([] ++ b_1)).length)]) (bxs := [.live (.row 5 1 (List.map (AV.int .u8) ([] ++ b_1)))]) (by kernel_rfl) hmix ⟨(by first | (simp; done) | (simp; omega)), trivial, (by simp), (by simp), (by simpa using h_1), trivial⟩ ?_
  refine aw_seq (by kernel_rfl) ?_
  obtain ⟨r_1, h_2, h⟩ := bind_some h
  refine aw_region [(1, { av := .int .u64 r_1, l := [.int .i64 n_1] })] [5, 6] [2] 3 (vcs := [([.int .i64 n_1] : List AV) = [.int .i64 n_1], ([] : List BoxSt) = [], Triple prog 25 [] [.int .i64 n_1] [] (.int .u64 r_1)]) (vals := [.own 2 ((([] ++ b_1)).length), .int .u64 r_1]) (bxs := [.live (.row 5 1 (List.map (AV.int .u8) ([] ++ b_1)))]) (by kernel_rfl) hmix ⟨rfl, rfl, (rn_ok n_1 r_1 h_2), trivial⟩ ?_
  refine aw_seq (by kernel_rfl) ?_
  obtain ⟨o_1, h_3, h⟩ := bind_some h
  refine aw_mid (mk [(5, .own 0 ((o_1.2).length)), (6, .int .u64 o_1.1)] [(0, .live (.row 5 1 (List.map (AV.int .u8) o_1.2)))] 1) ?_ ?_
  · replace h := h_3
    refine aw_block (id := 0) (by kernel_rfl) ?_
    refine aw_sub (sub_wk [2] [] [(5, .own 0 ((([] ++ b_1)).length)), (6, .int .u64 r_1)] [(0, .live (.row 5 1 (List.map (AV.int .u8) ([] ++ b_1))))] (vcs := [((.own 2 ((([] ++ b_1)).length) : AV) = .own 2 ((([] ++ b_1)).length) : Prop), ((.int .u64 r_1 : AV) = .int .u64 r_1 : Prop), (5 = 5 : Prop), (1 = 1 : Prop), (((List.map (AV.int .u8) ([] ++ b_1)) : List AV) = (List.map (AV.int .u8) ([] ++ b_1)) : Prop)]) (by kernel_rfl) ⟨rfl, rfl, rfl, rfl, rfl, trivial⟩) ?_
    refine aw_loopF (fun n st => ∃ (u_1 : Int), ∃ (row_1 : List Int), st = mk [(5, .own 0 ((row_1).length)), (6, .int .u64 u_1)] [(0, .live (.row 5 1 (List.map (AV.int .u8) row_1)))] 1 ∧ rPutInt_L1 F n u_1 row_1 = some o_1) F (by kernel_rfl) ⟨_, _, rfl, h⟩ ?_ ?_
    · rintro _ ⟨_, _, _, h⟩; exact none_ne (h : (none : Option (Int × (List Int))) = some o_1)
    rintro n_2 _ ⟨u_1, row_1, rfl, h⟩
    replace h : rPutInt_L1_body F (rPutInt_L1 F n_2) u_1 row_1 = some o_1 := h
    unfold rPutInt_L1_body at h
    refine aw_seq (by kernel_rfl) ?_
    refine aw_seq (by kernel_rfl) ?_
    refine aw_region [] [5, 6, 13] [0] 1 (vcs := []) (vals := [.own 0 ((row_1).length), .int .u64 u_1, .bool (decide (u_1 ≥ (128 : Int)))]) (bxs := [.live (.row 5 1 (List.map (AV.int .u8) row_1))]) (by kernel_rfl) hmix trivial ?_
    refine aw_cond (t := 13) (b := (decide (u_1 ≥ (128 : Int)))) (by kernel_rfl) (by kernel_rfl) ?_ ?_
    rotate_left
    · intro g_1; replace h := cond_f g_1 h
      refine aw_exit (id := 0) (by kernel_rfl) ?_
      replace h := Option.some.inj h; subst h
      exact ⟨rfl, (sub_wk [0] [] [(5, .own 0 ((row_1).length)), (6, .int .u64 u_1)] [(0, .live (.row 5 1 (List.map (AV.int .u8) row_1)))] (vcs := [((.own 0 ((row_1).length) : AV) = .own 0 ((row_1).length) : Prop), ((.int .u64 u_1 : AV) = .int .u64 u_1 : Prop), (5 = 5 : Prop), (1 = 1 : Prop), (((List.map (AV.int .u8) row_1) : List AV) = (List.map (AV.int .u8) row_1) : Prop)]) (by kernel_rfl) ⟨rfl, rfl, rfl, rfl, rfl, trivial⟩)⟩
    intro g_1; replace h := cond_t g_1 h
    refine aw_skip (by kernel_rfl) ?_
    refine aw_block (id := 1) (by kernel_rfl) ?_
    refine aw_seq (by kernel_rfl) ?_
    obtain ⟨_, h_4, h⟩ := bind_some h; replace h_4 := need_some h_4
    refine aw_region [(5, { id := 1 }), (6, { id := 2, l := (List.map (AV.int .u8) (row_1 ++ ([w_u8 ((w_u8 (irem u_1 (128 : Int))) + (128 : Int))] : List Int))), n := ((row_1 ++ ([w_u8 ((w_u8 (irem u_1 (128 : Int))) + (128 : Int))] : List Int))).length })] [5, 6] [2] 3 (vcs := [(128 : Int) ≠ (0 : Int), (row_1).length = ((List.map (AV.int .u8) row_1)).length, 1 = ((List.map (AV.int .u8) ([w_u8 ((w_u8 (irem u_1 (128 : Int))) + (128 : Int))] : List Int))).length, (List.map (AV.int .u8) (row_1 ++ ([w_u8 ((w_u8 (irem u_1 (128 : Int))) + (128 : Int))] : List Int))) = (List.map (AV.int .u8) row_1) ++ (List.map (AV.int .u8) ([w_u8 ((w_u8 (irem u_1 (128 : Int))) + (128 : Int))] : List Int)), ((row_1 ++ ([w_u8 ((w_u8 (irem u_1 (128 : Int))) + (128 : Int))] : List Int))).length = ((List.map (AV.int .u8) (row_1 ++ ([w_u8 ((w_u8 (irem u_1 (128 : Int))) + (128 : Int))] : List Int)))).length, (((List.map (AV.int .u8) row_1) : List AV).length + ((List.map (AV.int .u8) ([w_u8 ((w_u8 (irem u_1 (128 : Int))) + (128 : Int))] : List Int)) : List AV).length) * 1 ≤ 140737488355328]) (vals := [.own 2 (((row_1 ++ ([w_u8 ((w_u8 (irem u_1 (128 : Int))) + (128 : Int))] : List Int))).length), .int .u64 u_1]) (bxs := [.live (.row 5 1 (List.map (AV.int .u8) (row_1 ++ ([w_u8 ((w_u8 (irem u_1 (128 : Int))) + (128 : Int))] : List Int))))]) (by kernel_rfl) hmix ⟨(by decide), (by first | (simp; done) | (simp; omega)), (by first | (simp; done) | (simp; omega)), (vc_app _ _), (by simp), (by simpa using h_4), trivial⟩ ?_
    refine aw_region [] [5, 6] [2] 3 (vcs := [(128 : Int) ≠ (0 : Int)]) (vals := [.own 2 (((row_1 ++ ([w_u8 ((w_u8 (irem u_1 (128 : Int))) + (128 : Int))] : List Int))).length), .int .u64 (iquo .u64 u_1 (128 : Int))]) (bxs := [.live (.row 5 1 (List.map (AV.int .u8) (row_1 ++ ([w_u8 ((w_u8 (irem u_1 (128 : Int))) + (128 : Int))] : List Int))))]) (by kernel_rfl) hmix ⟨(by decide), trivial⟩ ?_
    exact ⟨_, (sub_wk [2] [] [(5, .own 0 (((row_1 ++ ([w_u8 ((w_u8 (irem u_1 (128 : Int))) + (128 : Int))] : List Int))).length)), (6, .int .u64 (iquo .u64 u_1 (128 : Int)))] [(0, .live (.row 5 1 (List.map (AV.int .u8) (row_1 ++ ([w_u8 ((w_u8 (irem u_1 (128 : Int))) + (128 : Int))] : List Int)))))] (vcs := [((.own 2 (((row_1 ++ ([w_u8 ((w_u8 (irem u_1 (128 : Int))) + (128 : Int))] : List Int))).length) : AV) = .own 2 (((row_1 ++ ([w_u8 ((w_u8 (irem u_1 (128 : Int))) + (128 : Int))] : List Int))).length) : Prop), ((.int .u64 (iquo .u64 u_1 (128 : Int)) : AV) = .int .u64 (iquo .u64 u_1 (128 : Int)) : Prop), (5 = 5 : Prop), (1 = 1 : Prop), (((List.map (AV.int .u8) (row_1 ++ ([w_u8 ((w_u8 (irem u_1 (128 : Int))) + (128 : Int))] : List Int))) : List AV) = (List.map (AV.int .u8) (row_1 ++ ([w_u8 ((w_u8 (irem u_1 (128 : Int))) + (128 : Int))] : List Int))) : Prop)]) (by kernel_rfl) ⟨rfl, rfl, rfl, rfl, rfl, trivial⟩), _, _, rfl, h⟩
  refine aw_seq (by kernel_rfl) ?_
  obtain ⟨_, h_5, h⟩ := bind_some h; replace h_5 := need_some h_5
  refine aw_region [(3, { id := 1 }), (4, { id := 2, l := (List.map (AV.int .u8) (o_1.2 ++ ([w_u8 o_1.1] : List Int))), n := ((o_1.2 ++ ([w_u8 o_1.1] : List Int))).length })] [5] [2] 3 (vcs := [(o_1.2).length = ((List.map (AV.int .u8) o_1.2)).length, 1 = ((List.map (AV.int .u8) ([w_u8 o_1.1] : List Int))).length, (List.map (AV.int .u8) (o_1.2 ++ ([w_u8 o_1.1] : List Int))) = (List.map (AV.int .u8) o_1.2) ++ (List.map (AV.int .u8) ([w_u8 o_1.1] : List Int)), ((o_1.2 ++ ([w_u8 o_1.1] : List Int))).length = ((List.map (AV.int .u8) (o_1.2 ++ ([w_u8 o_1.1] : List Int)))).length, (((List.map (AV.int .u8) o_1.2) : List AV).length + ((List.map (AV.int .u8) ([w_u8 o_1.1] : List Int)) : List AV).length) * 1 ≤ 140737488355328]) (vals := [.own 2 (((o_1.2 ++ ([w_u8 o_1.1] : List Int))).length)]) (bxs := [.live (.row 5 1 (List.map (AV.int .u8) (o_1.2 ++ ([w_u8 o_1.1] : List Int))))]) (by kernel_rfl) hmix ⟨(by first | (simp; done) | (simp; omega)), (by first | (simp; done) | (simp; omega)), (vc_app _ _), (by simp), (by simpa using h_5), trivial⟩ ?_
  refine aw_seq (by kernel_rfl) ?_
  refine aw_region [] [4] [2] 3 (vcs := []) (vals := [.own 2 (((o_1.2 ++ ([w_u8 o_1.1] : List Int))).length)]) (bxs := [.live (.row 5 1 (List.map (AV.int .u8) (o_1.2 ++ ([w_u8 o_1.1] : List Int))))]) (by kernel_rfl) hmix trivial ?_
  refine aw_sub (sub_wk [2] [] [(4, .own 0 (((o_1.2 ++ ([w_u8 o_1.1] : List Int))).length))] [(0, .live (.row 5 1 (List.map (AV.int .u8) (o_1.2 ++ ([w_u8 o_1.1] : List Int)))))] (vcs := [((.own 2 (((o_1.2 ++ ([w_u8 o_1.1] : List Int))).length) : AV) = .own 2 (((o_1.2 ++ ([w_u8 o_1.1] : List Int))).length) : Prop), (5 = 5 : Prop), (1 = 1 : Prop), (((List.map (AV.int .u8) (o_1.2 ++ ([w_u8 o_1.1] : List Int))) : List AV) = (List.map (AV.int .u8) (o_1.2 ++ ([w_u8 o_1.1] : List Int))) : Prop)]) (by kernel_rfl) ⟨rfl, rfl, rfl, rfl, trivial⟩) ?_
  refine aw_ret (by kernel_rfl) ?_
  replace h := Option.some.inj h; subst h
  exact ⟨.inr rfl, Nat.le_of_ble_eq_true rfl, by kernel_rfl⟩

theorem cPutText_ok (F : Nat) (b_1 : List (Int)) (s_1 : List Int) (r : (List (Int))) (h : cPutText F b_1 s_1 = some r) : Triple prog 19 [] [.sl false 1 (List.map (AV.int .u8) b_1), .str s_1] [.row 5 1 (List.map (AV.int .u8) r)] (.own 0 ((r).length)) := by
  refine triple_intro (fn := Go.Proofs.Try.f19) (code := codeOf Go.Proofs.Try.f19) (by kernel_rfl) (by kernel_rfl) (Nat.le_of_ble_eq_true (by kernel_rfl)) ?_
  unfold cPutText at h
  refine aw_seq (by kernel_rfl) ?_
  refine aw_region [(0, { id := 0, m := 1 })] [0, 1] [] 1 (vcs := []) (vals := [.sl false 1 (List.map (AV.int .u8) b_1), .str s_1]) (bxs := []) (by kernel_rfl) hmix trivial ?_
  refine aw_seq (by kernel_rfl) ?_
  obtain ⟨r_1, h_1, h⟩ := bind_some h
  refine aw_region [(3, { av := .sl false 1 (List.map (AV.int .u8) r_1), l := [.sl false 1 (List.map (AV.int .u8) b_1), .int .i64 (((s_1).length : Nat) : Int)] })] [1, 5] [] 1 (vcs := [([.sl false 1 (List.map (AV.int .u8) b_1), .int .i64 (((s_1).length : Nat) : Int)] : List AV) = [.sl false 1 (List.map (AV.int .u8) b_1), .int .i64 (((s_1).length : Nat) : Int)], ([] : List BoxSt) = [], Triple prog 18 [] [.sl false 1 (List.map (AV.int .u8) b_1), .int .i64 (((s_1).length : Nat) : Int)] [] (.sl false 1 (List.map (AV.int .u8) r_1))]) (vals := [.str s_1, .sl false 1 (List.map (AV.int .u8) r_1)]) (bxs := []) (by kernel_rfl) hmix ⟨rfl, rfl, (cPutInt_ok F b_1 (((s_1).length : Nat) : Int) r_1 h_1), trivial⟩ ?_
  refine aw_seq (by kernel_rfl) ?_
  obtain ⟨_, h_2, h⟩ := bind_some h; replace h_2 := need_some h_2
  refine aw_region [(1, { n := (r_1).length }), (5, { id := 1, l := (List.map (AV.int .u8) (List.replicate ((w_i64 ((((r_1).length : Nat) : Int) + (((s_1).length : Nat) : Int))).toNat) (0 : Int))), m := (w_i64 ((((r_1).length : Nat) : Int) + (((s_1).length : Nat) : Int))).toNat, n := (w_i64 ((((r_1).length : Nat) : Int) + (((s_1).length : Nat) : Int))).toNat })] [1, 5, 6] [1] 2 (vcs := [((List.map (AV.int .u8) r_1)).length = (r_1).length, w_i64 ((((r_1).length : Nat) : Int) + (((s_1).length : Nat) : Int)) = (((w_i64 ((((r_1).length : Nat) : Int) + (((s_1).length : Nat) : Int))).toNat : Nat) : Int), w_i64 ((((r_1).length : Nat) : Int) + (((s_1).length : Nat) : Int)) = (((w_i64 ((((r_1).length : Nat) : Int) + (((s_1).length : Nat) : Int))).toNat : Nat) : Int), ((w_i64 ((((r_1).length : Nat) : Int) + (((s_1).length : Nat) : Int))).toNat) ≤ ((w_i64 ((((r_1).length : Nat) : Int) + (((s_1).length : Nat) : Int))).toNat), ((w_i64 ((((r_1).length : Nat) : Int) + (((s_1).length : Nat) : Int))).toNat) * 1 ≤ 281474976710656, (List.map (AV.int .u8) (List.replicate ((w_i64 ((((r_1).length : Nat) : Int) + (((s_1).length : Nat) : Int))).toNat) (0 : Int))) = List.replicate ((w_i64 ((((r_1).length : Nat) : Int) + (((s_1).length : Nat) : Int))).toNat) (.int .u8 (0 : Int))]) (vals := [.str s_1, .sl false 1 (List.map (AV.int .u8) r_1), .own 1 ((w_i64 ((((r_1).length : Nat) : Int) + (((s_1).length : Nat) : Int))).toNat)]) (bxs := [.live (.row 5 1 (List.map (AV.int .u8) (List.replicate ((w_i64 ((((r_1).length : Nat) : Int) + (((s_1).length : Nat) : Int))).toNat) (0 : Int))))]) (by kernel_rfl) hmix ⟨(vc_len _), (Int.toNat_of_nonneg h_2.1).symm, (Int.toNat_of_nonneg h_2.1).symm, (Nat.le_refl _), h_2.2, vc_rep, trivial⟩ ?_
  refine aw_seq (by kernel_rfl) ?_
  obtain ⟨_, h_3, h⟩ := bind_some h; replace h_3 := need_some h_3
  refine aw_region [(2, { l := (List.map (AV.int .u8) (((List.replicate ((w_i64 ((((r_1).length : Nat) : Int) + (((s_1).length : Nat) : Int))).toNat) (0 : Int))).take 0 ++ (r_1).take (min (r_1).length ((w_i64 ((((r_1).length : Nat) : Int) + (((s_1).length : Nat) : Int))).toNat - 0)) ++ ((List.replicate ((w_i64 ((((r_1).length : Nat) : Int) + (((s_1).length : Nat) : Int))).toNat) (0 : Int))).drop (0 + (min (r_1).length ((w_i64 ((((r_1).length : Nat) : Int) + (((s_1).length : Nat) : Int))).toNat - 0))))), n := (min (r_1).length ((w_i64 ((((r_1).length : Nat) : Int) + (((s_1).length : Nat) : Int))).toNat - 0)) })] [1, 5, 6] [1] 2 (vcs := [True, 0 ≤ ((w_i64 ((((r_1).length : Nat) : Int) + (((s_1).length : Nat) : Int))).toNat), ((w_i64 ((((r_1).length : Nat) : Int) + (((s_1).length : Nat) : Int))).toNat) ≤ ((List.map (AV.int .u8) (List.replicate ((w_i64 ((((r_1).length : Nat) : Int) + (((s_1).length : Nat) : Int))).toNat) (0 : Int)))).length, (min (r_1).length ((w_i64 ((((r_1).length : Nat) : Int) + (((s_1).length : Nat) : Int))).toNat - 0)) = min ((List.map (AV.int .u8) r_1) : List AV).length ((w_i64 ((((r_1).length : Nat) : Int) + (((s_1).length : Nat) : Int))).toNat - 0), (List.map (AV.int .u8) (((List.replicate ((w_i64 ((((r_1).length : Nat) : Int) + (((s_1).length : Nat) : Int))).toNat) (0 : Int))).take 0 ++ (r_1).take (min (r_1).length ((w_i64 ((((r_1).length : Nat) : Int) + (((s_1).length : Nat) : Int))).toNat - 0)) ++ ((List.replicate ((w_i64 ((((r_1).length : Nat) : Int) + (((s_1).length : Nat) : Int))).toNat) (0 : Int))).drop (0 + (min (r_1).length ((w_i64 ((((r_1).length : Nat) : Int) + (((s_1).length : Nat) : Int))).toNat - 0))))) = ((List.map (AV.int .u8) (List.replicate ((w_i64 ((((r_1).length : Nat) : Int) + (((s_1).length : Nat) : Int))).toNat) (0 : Int)))).take 0 ++ ((List.map (AV.int .u8) r_1) : List AV).take (min (r_1).length ((w_i64 ((((r_1).length : Nat) : Int) + (((s_1).length : Nat) : Int))).toNat - 0)) ++ ((List.map (AV.int .u8) (List.replicate ((w_i64 ((((r_1).length : Nat) : Int) + (((s_1).length : Nat) : Int))).toNat) (0 : Int)))).drop (0 + (min (r_1).length ((w_i64 ((((r_1).length : Nat) : Int) + (((s_1).length : Nat) : Int))).toNat - 0)))]) (vals := [.str s_1, .sl false 1 (List.map (AV.int .u8) r_1), .own 1 ((w_i64 ((((r_1).length : Nat) : Int) + (((s_1).length : Nat) : Int))).toNat)]) (bxs := [.live (.row 5 1 (List.map (AV.int .u8) (((List.replicate ((w_i64 ((((r_1).length : Nat) : Int) + (((s_1).length : Nat) : Int))).toNat) (0 : Int))).take 0 ++ (r_1).take (min (r_1).length ((w_i64 ((((r_1).length : Nat) : Int) + (((s_1).length : Nat) : Int))).toNat - 0)) ++ ((List.replicate ((w_i64 ((((r_1).length : Nat) : Int) + (((s_1).length : Nat) : Int))).toNat) (0 : Int))).drop (0 + (min (r_1).length ((w_i64 ((((r_1).length : Nat) : Int) + (((s_1).length : Nat) : Int))).toNat - 0))))))]) (by kernel_rfl) hmix ⟨trivial, h_3.1, (vc_lenle' h_3.2), (by simp), (by simp), trivial⟩ ?_
  refine aw_seq (by kernel_rfl) ?_
  obtain ⟨_, h_4, h⟩ := bind_some h; replace h_4 := need_some h_4
  obtain ⟨_, h_5, h⟩ := bind_some h; replace h_5 := need_some h_5
  refine aw_region [(2, { n := (r_1).length }), (5, { l := (List.map (AV.int .u8) (((((List.replicate ((w_i64 ((((r_1).length : Nat) : Int) + (((s_1).length : Nat) : Int))).toNat) (0 : Int))).take 0 ++ (r_1).take (min (r_1).length ((w_i64 ((((r_1).length : Nat) : Int) + (((s_1).length : Nat) : Int))).toNat - 0)) ++ ((List.replicate ((w_i64 ((((r_1).length : Nat) : Int) + (((s_1).length : Nat) : Int))).toNat) (0 : Int))).drop (0 + (min (r_1).length ((w_i64 ((((r_1).length : Nat) : Int) + (((s_1).length : Nat) : Int))).toNat - 0))))).take ((r_1).length) ++ (s_1).take (min (s_1).length ((w_i64 ((((r_1).length : Nat) : Int) + (((s_1).length : Nat) : Int))).toNat - (r_1).length)) ++ ((((List.replicate ((w_i64 ((((r_1).length : Nat) : Int) + (((s_1).length : Nat) : Int))).toNat) (0 : Int))).take 0 ++ (r_1).take (min (r_1).length ((w_i64 ((((r_1).length : Nat) : Int) + (((s_1).length : Nat) : Int))).toNat - 0)) ++ ((List.replicate ((w_i64 ((((r_1).length : Nat) : Int) + (((s_1).length : Nat) : Int))).toNat) (0 : Int))).drop (0 + (min (r_1).length ((w_i64 ((((r_1).length : Nat) : Int) + (((s_1).length : Nat) : Int))).toNat - 0))))).drop ((r_1).length + (min (s_1).length ((w_i64 ((((r_1).length : Nat) : Int) + (((s_1).length : Nat) : Int))).toNat - (r_1).length))))), n := (min (s_1).length ((w_i64 ((((r_1).length : Nat) : Int) + (((s_1).length : Nat) : Int))).toNat - (r_1).length)) })] [6] [1] 2 (vcs := [((List.map (AV.int .u8) r_1)).length = (r_1).length, (0 : Int) ≤ (((r_1).length : Nat) : Int), (((r_1).length : Nat) : Int) ≤ (((w_i64 ((((r_1).length : Nat) : Int) + (((s_1).length : Nat) : Int))).toNat : Nat) : Int), (((w_i64 ((((r_1).length : Nat) : Int) + (((s_1).length : Nat) : Int))).toNat : Nat) : Int) ≤ (((w_i64 ((((r_1).length : Nat) : Int) + (((s_1).length : Nat) : Int))).toNat : Nat) : Int), True, ((r_1).length) ≤ ((w_i64 ((((r_1).length : Nat) : Int) + (((s_1).length : Nat) : Int))).toNat), ((w_i64 ((((r_1).length : Nat) : Int) + (((s_1).length : Nat) : Int))).toNat) ≤ ((List.map (AV.int .u8) (((List.replicate ((w_i64 ((((r_1).length : Nat) : Int) + (((s_1).length : Nat) : Int))).toNat) (0 : Int))).take 0 ++ (r_1).take (min (r_1).length ((w_i64 ((((r_1).length : Nat) : Int) + (((s_1).length : Nat) : Int))).toNat - 0)) ++ ((List.replicate ((w_i64 ((((r_1).length : Nat) : Int) + (((s_1).length : Nat) : Int))).toNat) (0 : Int))).drop (0 + (min (r_1).length ((w_i64 ((((r_1).length : Nat) : Int) + (((s_1).length : Nat) : Int))).toNat - 0)))))).length, (min (s_1).length ((w_i64 ((((r_1).length : Nat) : Int) + (((s_1).length : Nat) : Int))).toNat - (r_1).length)) = min ((List.map (AV.int .u8) s_1) : List AV).length ((w_i64 ((((r_1).length : Nat) : Int) + (((s_1).length : Nat) : Int))).toNat - (r_1).length), (List.map (AV.int .u8) (((((List.replicate ((w_i64 ((((r_1).length : Nat) : Int) + (((s_1).length : Nat) : Int))).toNat) (0 : Int))).take 0 ++ (r_1).take (min (r_1).length ((w_i64 ((((r_1).length : Nat) : Int) + (((s_1).length : Nat) : Int))).toNat - 0)) ++ ((List.replicate ((w_i64 ((((r_1).length : Nat) : Int) + (((s_1).length : Nat) : Int))).toNat) (0 : Int))).drop (0 + (min (r_1).length ((w_i64 ((((r_1).length : Nat) : Int) + (((s_1).length : Nat) : Int))).toNat - 0))))).take ((r_1).length) ++ (s_1).take (min (s_1).length ((w_i64 ((((r_1).length : Nat) : Int) + (((s_1).length : Nat) : Int))).toNat - (r_1).length)) ++ ((((List.replicate ((w_i64 ((((r_1).length : Nat) : Int) + (((s_1).length : Nat) : Int))).toNat) (0 : Int))).take 0 ++ (r_1).take (min (r_1).length ((w_i64 ((((r_1).length : Nat) : Int) + (((s_1).length : Nat) : Int))).toNat - 0)) ++ ((List.replicate ((w_i64 ((((r_1).length : Nat) : Int) + (((s_1).length : Nat) : Int))).toNat) (0 : Int))).drop (0 + (min (r_1).length ((w_i64 ((((r_1).length : Nat) : Int) + (((s_1).length : Nat) : Int))).toNat - 0))))).drop ((r_1).length + (min (s_1).length ((w_i64 ((((r_1).length : Nat) : Int) + (((s_1).length : Nat) : Int))).toNat - (r_1).length))))) = ((List.map (AV.int .u8) (((List.replicate ((w_i64 ((((r_1).length : Nat) : Int) + (((s_1).length : Nat) : Int))).toNat) (0 : Int))).take 0 ++ (r_1).take (min (r_1).length ((w_i64 ((((r_1).length : Nat) : Int) + (((s_1).length : Nat) : Int))).toNat - 0)) ++ ((List.replicate ((w_i64 ((((r_1).length : Nat) : Int) + (((s_1).length : Nat) : Int))).toNat) (0 : Int))).drop (0 + (min (r_1).length ((w_i64 ((((r_1).length : Nat) : Int) + (((s_1).length : Nat) : Int))).toNat - 0)))))).take ((r_1).length) ++ ((List.map (AV.int .u8) s_1) : List AV).take (min (s_1).length ((w_i64 ((((r_1).length : Nat) : Int) + (((s_1).length : Nat) : Int))).toNat - (r_1).length)) ++ ((List.map (AV.int .u8) (((List.replicate ((w_i64 ((((r_1).length : Nat) : Int) + (((s_1).length : Nat) : Int))).toNat) (0 : Int))).take 0 ++ (r_1).take (min (r_1).length ((w_i64 ((((r_1).length : Nat) : Int) + (((s_1).length : Nat) : Int))).toNat - 0)) ++ ((List.replicate ((w_i64 ((((r_1).length : Nat) : Int) + (((s_1).length : Nat) : Int))).toNat) (0 : Int))).drop (0 + (min (r_1).length ((w_i64 ((((r_1).length : Nat) : Int) + (((s_1).length : Nat) : Int))).toNat - 0)))))).drop ((r_1).length + (min (s_1).length ((w_i64 ((((r_1).length : Nat) : Int) + (((s_1).length : Nat) : Int))).toNat - (r_1).length)))]) (vals := [.own 1 ((w_i64 ((((r_1).length : Nat) : Int) + (((s_1).length : Nat) : Int))).toNat)]) (bxs := [.live (.row 5 1 (List.map (AV.int .u8) (((((List.replicate ((w_i64 ((((r_1).length : Nat) : Int) + (((s_1).length : Nat) : Int))).toNat) (0 : Int))).take 0 ++ (r_1).take (min (r_1).length ((w_i64 ((((r_1).length : Nat) : Int) + (((s_1).length : Nat) : Int))).toNat - 0)) ++ ((List.replicate ((w_i64 ((((r_1).length : Nat) : Int) + (((s_1).length : Nat) : Int))).toNat) (0 : Int))).drop (0 + (min (r_1).length ((w_i64 ((((r_1).length : Nat) : Int) + (((s_1).length : Nat) : Int))).toNat - 0))))).take ((r_1).length) ++ (s_1).take (min (s_1).length ((w_i64 ((((r_1).length : Nat) : Int) + (((s_1).length : Nat) : Int))).toNat - (r_1).length)) ++ ((((List.replicate ((w_i64 ((((r_1).length : Nat) : Int) + (((s_1).length : Nat) : Int))).toNat) (0 : Int))).take 0 ++ (r_1).take (min (r_1).length ((w_i64 ((((r_1).length : Nat) : Int) + (((s_1).length : Nat) : Int))).toNat - 0)) ++ ((List.replicate ((w_i64 ((((r_1).length : Nat) : Int) + (((s_1).length : Nat) : Int))).toNat) (0 : Int))).drop (0 + (min (r_1).length ((w_i64 ((((r_1).length : Nat) : Int) + (((s_1).length : Nat) : Int))).toNat - 0))))).drop ((r_1).length + (min (s_1).length ((w_i64 ((((r_1).length : Nat) : Int) + (((s_1).length : Nat) : Int))).toNat - (r_1).length))))))]) (by kernel_rfl) hmix ⟨(vc_len _), (Int.natCast_nonneg _), h_4, (Int.le_refl _), trivial, h_5.1, (vc_lenle' h_5.2), (by simp), (by simp), trivial⟩ ?_
  refine aw_seq (by kernel_rfl) ?_
  refine aw_region [] [4] [1] 2 (vcs := []) (vals := [.own 1 ((w_i64 ((((r_1).length : Nat) : Int) + (((s_1).length : Nat) : Int))).toNat)]) (bxs := [.live (.row 5 1 (List.map (AV.int .u8) (((((List.replicate ((w_i64 ((((r_1).length : Nat) : Int) + (((s_1).length : Nat) : Int))).toNat) (0 : Int))).take 0 ++ (r_1).take (min (r_1).length ((w_i64 ((((r_1).length : Nat) : Int) + (((s_1).length : Nat) : Int))).toNat - 0)) ++ ((List.replicate ((w_i64 ((((r_1).length : Nat) : Int) + (((s_1).length : Nat) : Int))).toNat) (0 : Int))).drop (0 + (min (r_1).length ((w_i64 ((((r_1).length : Nat) : Int) + (((s_1).length : Nat) : Int))).toNat - 0))))).take ((r_1).length) ++ (s_1).take (min (s_1).length ((w_i64 ((((r_1).length : Nat) : Int) + (((s_1).length : Nat) : Int))).toNat - (r_1).length)) ++ ((((List.replicate ((w_i64 ((((r_1).length : Nat) : Int) + (((s_1).length : Nat) : Int))).toNat) (0 : Int))).take 0 ++ (r_1).take (min (r_1).length ((w_i64 ((((r_1).length : Nat) : Int) + (((s_1).length : Nat) : Int))).toNat - 0)) ++ ((List.replicate ((w_i64 ((((r_1).length : Nat) : Int) + (((s_1).length : Nat) : Int))).toNat) (0 : Int))).drop (0 + (min (r_1).length ((w_i64 ((((r_1).length : Nat) : Int) + (((s_1).length : Nat) : Int))).toNat - 0))))).drop ((r_1).length + (min (s_1).length ((w_i64 ((((r_1).length : Nat) : Int) + (((s_1).length : Nat) : Int))).toNat - (r_1).length))))))]) (by kernel_rfl) hmix trivial ?_
  refine aw_sub (sub_wk [1] [] [(4, .own 0 (((((((List.replicate ((w_i64 ((((r_1).length : Nat) : Int) + (((s_1).length : Nat) : Int))).toNat) (0 : Int))).take 0 ++ (r_1).take (min (r_1).length ((w_i64 ((((r_1).length : Nat) : Int) + (((s_1).length : Nat) : Int))).toNat - 0)) ++ ((List.replicate ((w_i64 ((((r_1).length : Nat) : Int) + (((s_1).length : Nat) : Int))).toNat) (0 : Int))).drop (0 + (min (r_1).length ((w_i64 ((((r_1).length : Nat) : Int) + (((s_1).length : Nat) : Int))).toNat - 0))))).take ((r_1).length) ++ (s_1).take (min (s_1).length ((w_i64 ((((r_1).length : Nat) : Int) + (((s_1).length : Nat) : Int))).toNat - (r_1).length)) ++ ((((List.replicate ((w_i64 ((((r_1).length : Nat) : Int) + (((s_1).length : Nat) : Int))).toNat) (0 : Int))).take 0 ++ (r_1).take (min (r_1).length ((w_i64 ((((r_1).length : Nat) : Int) + (((s_1).length : Nat) : Int))).toNat - 0)) ++ ((List.replicate ((w_i64 ((((r_1).length : Nat) : Int) + (((s_1).length : Nat) : Int))).toNat) (0 : Int))).drop (0 + (min (r_1).length ((w_i64 ((((r_1).length : Nat) : Int) + (((s_1).length : Nat) : Int))).toNat - 0))))).drop ((r_1).length + (min (s_1).length ((w_i64 ((((r_1).length : Nat) : Int) + (((s_1).length : Nat) : Int))).toNat - (r_1).length))))).length))] [(0, .live (.row 5 1 (List.map (AV.int .u8) (((((List.replicate ((w_i64 ((((r_1).length : Nat) : Int) + (((s_1).length : Nat) : Int))).toNat) (0 : Int))).take 0 ++ (r_1).take (min (r_1).length ((w_i64 ((((r_1).length : Nat) : Int) + (((s_1).length : Nat) : Int))).toNat - 0)) ++ ((List.replicate ((w_i64 ((((r_1).length : Nat) : Int) + (((s_1).length : Nat) : Int))).toNat) (0 : Int))).drop (0 + (min (r_1).length ((w_i64 ((((r_1).length : Nat) : Int) + (((s_1).length : Nat) : Int))).toNat - 0))))).take ((r_1).length) ++ (s_1).take (min (s_1).length ((w_i64 ((((r_1).length : Nat) : Int) + (((s_1).length : Nat) : Int))).toNat - (r_1).length)) ++ ((((List.replicate ((w_i64 ((((r_1).length : Nat) : Int) + (((s_1).length : Nat) : Int))).toNat) (0 : Int))).take 0 ++ (r_1).take (min (r_1).length ((w_i64 ((((r_1).length : Nat) : Int) + (((s_1).length : Nat) : Int))).toNat - 0)) ++ ((List.replicate ((w_i64 ((((r_1).length : Nat) : Int) + (((s_1).length : Nat) : Int))).toNat) (0 : Int))).drop (0 + (min (r_1).length ((w_i64 ((((r_1).length : Nat) : Int) + (((s_1).length : Nat) : Int))).toNat - 0))))).drop ((r_1).length + (min (s_1).length ((w_i64 ((((r_1).length : Nat) : Int) + (((s_1).length : Nat) : Int))).toNat - (r_1).length)))))))] (vcs := [((.own 1 ((w_i64 ((((r_1).length : Nat) : Int) + (((s_1).length : Nat) : Int))).toNat) : AV) = .own 1 (((((((List.replicate ((w_i64 ((((r_1).length : Nat) : Int) + (((s_1).length : Nat) : Int))).toNat) (0 : Int))).take 0 ++ (r_1).take (min (r_1).length ((w_i64 ((((r_1).length : Nat) : Int) + (((s_1).length : Nat) : Int))).toNat - 0)) ++ ((List.replicate ((w_i64 ((((r_1).length : Nat) : Int) + (((s_1).length : Nat) : Int))).toNat) (0 : Int))).drop (0 + (min (r_1).length ((w_i64 ((((r_1).length : Nat) : Int) + (((s_1).length : Nat) : Int))).toNat - 0))))).take ((r_1).length) ++ (s_1).take (min (s_1).length ((w_i64 ((((r_1).length : Nat) : Int) + (((s_1).length : Nat) : Int))).toNat - (r_1).length)) ++ ((((List.replicate ((w_i64 ((((r_1).length : Nat) : Int) + (((s_1).length : Nat) : Int))).toNat) (0 : Int))).take 0 ++ (r_1).take (min (r_1).length ((w_i64 ((((r_1).length : Nat) : Int) + (((s_1).length : Nat) : Int))).toNat - 0)) ++ ((List.replicate ((w_i64 ((((r_1).length : Nat) : Int) + (((s_1).length : Nat) : Int))).toNat) (0 : Int))).drop (0 + (min (r_1).length ((w_i64 ((((r_1).length : Nat) : Int) + (((s_1).length : Nat) : Int))).toNat - 0))))).drop ((r_1).length + (min (s_1).length ((w_i64 ((((r_1).length : Nat) : Int) + (((s_1).length : Nat) : Int))).toNat - (r_1).length))))).length) : Prop), (5 = 5 : Prop), (1 = 1 : Prop), (((List.map (AV.int .u8) (((((List.replicate ((w_i64 ((((r_1).length : Nat) : Int) + (((s_1).length : Nat) : Int))).toNat) (0 : Int))).take 0 ++ (r_1).take (min (r_1).length ((w_i64 ((((r_1).length : Nat) : Int) + (((s_1).length : Nat) : Int))).toNat - 0)) ++ ((List.replicate ((w_i64 ((((r_1).length : Nat) : Int) + (((s_1).length : Nat) : Int))).toNat) (0 : Int))).drop (0 + (min (r_1).length ((w_i64 ((((r_1).length : Nat) : Int) + (((s_1).length : Nat) : Int))).toNat - 0))))).take ((r_1).length) ++ (s_1).take (min (s_1).length ((w_i64 ((((r_1).length : Nat) : Int) + (((s_1).length : Nat) : Int))).toNat - (r_1).length)) ++ ((((List.replicate ((w_i64 ((((r_1).length : Nat) : Int) + (((s_1).length : Nat) : Int))).toNat) (0 : Int))).take 0 ++ (r_1).take (min (r_1).length ((w_i64 ((((r_1).length : Nat) : Int) + (((s_1).length : Nat) : Int))).toNat - 0)) ++ ((List.replicate ((w_i64 ((((r_1).length : Nat) : Int) + (((s_1).length : Nat) : Int))).toNat) (0 : Int))).drop (0 + (min (r_1).length ((w_i64 ((((r_1).length : Nat) : Int) + (((s_1).length : Nat) : Int))).toNat - 0))))).drop ((r_1).length + (min (s_1).length ((w_i64 ((((r_1).length : Nat) : Int) + (((s_1).length : Nat) : Int))).toNat - (r_1).length))))) : List AV) = (List.map (AV.int .u8) (((((List.replicate ((w_i64 ((((r_1).length : Nat) : Int) + (((s_1).length : Nat) : Int))).toNat) (0 : Int))).take 0 ++ (r_1).take (min (r_1).length ((w_i64 ((((r_1).length : Nat) : Int) + (((s_1).length : Nat) : Int))).toNat - 0)) ++ ((List.replicate ((w_i64 ((((r_1).length : Nat) : Int) + (((s_1).length : Nat) : Int))).toNat) (0 : Int))).drop (0 + (min (r_1).length ((w_i64 ((((r_1).length : Nat) : Int) + (((s_1).length : Nat) : Int))).toNat - 0))))).take ((r_1).length) ++ (s_1).take (min (s_1).length ((w_i64 ((((r_1).length : Nat) : Int) + (((s_1).length : Nat) : Int))).toNat - (r_1).length)) ++ ((((List.replicate ((w_i64 ((((r_1).length : Nat) : Int) + (((s_1).length : Nat) : Int))).toNat) (0 : Int))).take 0 ++ (r_1).take (min (r_1).length ((w_i64 ((((r_1).length : Nat) : Int) + (((s_1).length : Nat) : Int))).toNat - 0)) ++ ((List.replicate ((w_i64 ((((r_1).length : Nat) : Int) + (((s_1).length : Nat) : Int))).toNat) (0 : Int))).drop (0 + (min (r_1).length ((w_i64 ((((r_1).length : Nat) : Int) + (((s_1).length : Nat) : Int))).toNat - 0))))).drop ((r_1).length + (min (s_1).length ((w_i64 ((((r_1).length : Nat) : Int) + (((s_1).length : Nat) : Int))).toNat - (r_1).length))))) : Prop)]) (by kernel_rfl) ⟨(congrArg (AV.own _) (by first | (simp; done) | (simp; omega))), rfl, rfl, rfl, trivial⟩) ?_
  refine aw_ret (by kernel_rfl) ?_
  replace h := Option.some.inj h; subst h
  exact ⟨.inr rfl, Nat.le_of_ble_eq_true rfl, by kernel_rfl⟩

theorem rPutText_ok (F : Nat) (b_1 : List (Int)) (s_1 : List Int) (r : (List (Int))) (h : rPutText F b_1 s_1 = some r) : Triple prog 21 [] [.sl false 1 (List.map (AV.int .u8) b_1), .str s_1] [.row 5 1 (List.map (AV.int .u8) r)] (.own 0 ((r).length)) := by
  refine triple_intro (fn := Go.Proofs.Try.f21) (code := codeOf Go.Proofs.Try.f21) (by kernel_rfl) (by kernel_rfl) (Nat.le_of_ble_eq_true (by kernel_rfl)) ?_
  unfold rPutText at h
  refine aw_seq (by kernel_rfl) ?_
  refine aw_region [(0, { id := 0, m := 1 })] [0, 1] [] 1 (vcs := []) (vals := [.sl false 1 (List.map (AV.int .u8) b_1), .str s_1]) (bxs := []) (by kernel_rfl) hmix trivial ?_
  refine aw_seq (by kernel_rfl) ?_
  obtain ⟨r_1, h_1, h⟩ := bind_some h
  refine aw_region [(3, { av := .own 0 ((r_1).length), ids := [1], l := [.sl false 1 (List.map (AV.int .u8) b_1), .int .i64 (((s_1).length : Nat) : Int)], post := [(.row 5 1 (List.map (AV.int .u8) r_1))] })] [1, 5] [1] 2 (vcs := [([.sl false 1 (List.map (AV.int .u8) b_1), .int .i64 (((s_1).length : Nat) : Int)] : List AV) = [.sl false 1 (List.map (AV.int .u8) b_1), .int .i64 (((s_1).length : Nat) : Int)], ([] : List BoxSt) = [], Triple prog 20 [] [.sl false 1 (List.map (AV.int .u8) b_1), .int .i64 (((s_1).length : Nat) : Int)] [.row 5 1 (List.map (AV.int .u8) r_1)] (.own 0 ((r_1).length))]) (vals := [.str s_1, .own 1 ((r_1).length)]) (bxs := [.live (.row 5 1 (List.map (AV.int .u8) r_1))]) (by kernel_rfl) hmix ⟨rfl, rfl, (rPutInt_ok F b_1 (((s_1).length : Nat) : Int) r_1 h_1), trivial⟩ ?_
  refine aw_seq (by kernel_rfl) ?_
  refine aw_seq (by kernel_rfl) ?_
  refine aw_region [] [1, 5, 6] [1] 2 (vcs := []) (vals := [.str s_1, .own 1 ((r_1).length), .int .i64 (0 : Int)]) (bxs := [.live (.row 5 1 (List.map (AV.int .u8) r_1))]) (by kernel_rfl) hmix trivial ?_
  obtain ⟨o_1, h_2, h⟩ := bind_some h
  refine aw_mid (mk [(5, .own 0 ((o_1).length))] [(0, .live (.row 5 1 (List.map (AV.int .u8) o_1)))] 1) ?_ ?_
  · replace h := h_2
    refine aw_block (id := 0) (by kernel_rfl) ?_
    refine aw_sub (sub_wk [1] [] [(1, .str s_1), (5, .own 0 ((r_1).length)), (6, .int .i64 (0 : Int))] [(0, .live (.row 5 1 (List.map (AV.int .u8) r_1)))] (vcs := [((.str s_1 : AV) = .str s_1 : Prop), ((.own 1 ((r_1).length) : AV) = .own 1 ((r_1).length) : Prop), ((.int .i64 (0 : Int) : AV) = .int .i64 (0 : Int) : Prop), (5 = 5 : Prop), (1 = 1 : Prop), (((List.map (AV.int .u8) r_1) : List AV) = (List.map (AV.int .u8) r_1) : Prop)]) (by kernel_rfl) ⟨rfl, rfl, rfl, rfl, rfl, rfl, trivial⟩) ?_
    refine aw_loopF (fun n st => ∃ (i_1 : Int), ∃ (row_1 : List Int), st = mk [(1, .str s_1), (5, .own 0 ((row_1).length)), (6, .int .i64 i_1)] [(0, .live (.row 5 1 (List.map (AV.int .u8) row_1)))] 1 ∧ rPutText_L1 F s_1 n i_1 row_1 = some o_1) F (by kernel_rfl) ⟨_, _, rfl, h⟩ ?_ ?_
    · rintro _ ⟨_, _, _, h⟩; exact none_ne (h : (none : Option (List Int)) = some o_1)
    rintro n_1 _ ⟨i_1, row_1, rfl, h⟩
    replace h : rPutText_L1_body F s_1 (rPutText_L1 F s_1 n_1) i_1 row_1 = some o_1 := h
    unfold rPutText_L1_body at h
    refine aw_seq (by kernel_rfl) ?_
    refine aw_seq (by kernel_rfl) ?_
    refine aw_region [] [1, 5, 6, 14] [0] 1 (vcs := []) (vals := [.str s_1, .own 0 ((row_1).length), .int .i64 i_1, .bool (decide (i_1 < (((s_1).length : Nat) : Int)))]) (bxs := [.live (.row 5 1 (List.map (AV.int .u8) row_1))]) (by kernel_rfl) hmix trivial ?_
    refine aw_cond (t := 14) (b := (decide (i_1 < (((s_1).length : Nat) : Int)))) (by kernel_rfl) (by kernel_rfl) ?_ ?_
    rotate_left
    · intro g_1; replace h := cond_f g_1 h
      refine aw_exit (id := 0) (by kernel_rfl) ?_
      replace h := Option.some.inj h; subst h
      exact ⟨rfl, (sub_wk [0] [] [(5, .own 0 ((row_1).length))] [(0, .live (.row 5 1 (List.map (AV.int .u8) row_1)))] (vcs := [((.own 0 ((row_1).length) : AV) = .own 0 ((row_1).length) : Prop), (5 = 5 : Prop), (1 = 1 : Prop), (((List.map (AV.int .u8) row_1) : List AV) = (List.map (AV.int .u8) row_1) : Prop)]) (by kernel_rfl) ⟨rfl, rfl, rfl, rfl, trivial⟩)⟩
    intro g_1; replace h := cond_t g_1 h
    refine aw_skip (by kernel_rfl) ?_
    refine aw_seq (by kernel_rfl) ?_
    refine aw_block (id := 1) (by kernel_rfl) ?_
    obtain ⟨c_1, h_3, h⟩ := bind_some h
    obtain ⟨_, h_4, h⟩ := bind_some h; replace h_4 := need_some h_4
    refine aw_region [(3, { z := c_1 }), (4, { id := 1 }), (5, { id := 2, l := (List.map (AV.int .u8) (row_1 ++ ([c_1] : List Int))), n := ((row_1 ++ ([c_1] : List Int))).length })] [1, 5, 6] [2] 3 (vcs := [idxI s_1 i_1 = some c_1, (row_1).length = ((List.map (AV.int .u8) row_1)).length, 1 = ((List.map (AV.int .u8) ([c_1] : List Int))).length, (List.map (AV.int .u8) (row_1 ++ ([c_1] : List Int))) = (List.map (AV.int .u8) row_1) ++ (List.map (AV.int .u8) ([c_1] : List Int)), ((row_1 ++ ([c_1] : List Int))).length = ((List.map (AV.int .u8) (row_1 ++ ([c_1] : List Int)))).length, (((List.map (AV.int .u8) row_1) : List AV).length + ((List.map (AV.int .u8) ([c_1] : List Int)) : List AV).length) * 1 ≤ 140737488355328]) (vals := [.str s_1, .own 2 (((row_1 ++ ([c_1] : List Int))).length), .int .i64 i_1]) (bxs := [.live (.row 5 1 (List.map (AV.int .u8) (row_1 ++ ([c_1] : List Int))))]) (by kernel_rfl) hmix ⟨h_3, (by first | (simp; done) | (simp; omega)), (by first | (simp; done) | (simp; omega)), (vc_app _ _), (by simp), (by simpa using h_4), trivial⟩ ?_
    refine aw_region [] [1, 5, 6] [2] 3 (vcs := []) (vals := [.str s_1, .own 2 (((row_1 ++ ([c_1] : List Int))).length), .int .i64 (w_i64 (i_1 + (1 : Int)))]) (bxs := [.live (.row 5 1 (List.map (AV.int .u8) (row_1 ++ ([c_1] : List Int))))]) (by kernel_rfl) hmix trivial ?_
    exact ⟨_, (sub_wk [2] [] [(1, .str s_1), (5, .own 0 (((row_1 ++ ([c_1] : List Int))).length)), (6, .int .i64 (w_i64 (i_1 + (1 : Int))))] [(0, .live (.row 5 1 (List.map (AV.int .u8) (row_1 ++ ([c_1] : List Int)))))] (vcs := [((.str s_1 : AV) = .str s_1 : Prop), ((.own 2 (((row_1 ++ ([c_1] : List Int))).length) : AV) = .own 2 (((row_1 ++ ([c_1] : List Int))).length) : Prop), ((.int .i64 (w_i64 (i_1 + (1 : Int))) : AV) = .int .i64 (w_i64 (i_1 + (1 : Int))) : Prop), (5 = 5 : Prop), (1 = 1 : Prop), (((List.map (AV.int .u8) (row_1 ++ ([c_1] : List Int))) : List AV) = (List.map (AV.int .u8) (row_1 ++ ([c_1] : List Int))) : Prop)]) (by kernel_rfl) ⟨rfl, rfl, rfl, rfl, rfl, rfl, trivial⟩), _, _, rfl, h⟩
  refine aw_seq (by kernel_rfl) ?_
  refine aw_region [] [4] [0] 1 (vcs := []) (vals := [.own 0 ((o_1).length)]) (bxs := [.live (.row 5 1 (List.map (AV.int .u8) o_1))]) (by kernel_rfl) hmix trivial ?_
  refine aw_sub (sub_wk [0] [] [(4, .own 0 ((o_1).length))] [(0, .live (.row 5 1 (List.map (AV.int .u8) o_1)))] (vcs := [((.own 0 ((o_1).length) : AV) = .own 0 ((o_1).length) : Prop), (5 = 5 : Prop), (1 = 1 : Prop), (((List.map (AV.int .u8) o_1) : List AV) = (List.map (AV.int .u8) o_1) : Prop)]) (by kernel_rfl) ⟨rfl, rfl, rfl, rfl, trivial⟩) ?_
  refine aw_ret (by kernel_rfl) ?_
  replace h := Option.some.inj h; subst h
  exact ⟨.inr rfl, Nat.le_of_ble_eq_true rfl, by kernel_rfl⟩

theorem lives_ok (F : Nat) (r : Bool) (h : lives F = some r) : Triple prog 11 [] [] [] (.bool r) := by
  refine triple_intro (fn := Go.Proofs.Try.f11) (code := codeOf Go.Proofs.Try.f11) (by kernel_rfl) (by kernel_rfl) (Nat.le_of_ble_eq_true (by kernel_rfl)) ?_
  unfold lives at h
  refine aw_seq (by kernel_rfl) ?_
  refine aw_region [] [] [] 0 (vcs := []) (vals := []) (bxs := []) (by kernel_rfl) hmix trivial ?_
  refine aw_seq (by kernel_rfl) ?_
  obtain ⟨r_1, h_1, h⟩ := bind_some h
  refine aw_region [(0, { id := 0 }), (1, { av := .tuple [.int .i64 r_1.1, .int .i64 r_1.2.1, .int .i64 r_1.2.2], frz := [0], l := [.sl false 1 (List.map (AV.int .u8) ([(216 : Int), (4 : Int), (9 : Int)] : List Int))] })] [1, 2, 3] [] 1 (vcs := [3 = ((List.map (AV.int .u8) ([(216 : Int), (4 : Int), (9 : Int)] : List Int))).length, ([.sl false 1 (List.map (AV.int .u8) ([(216 : Int), (4 : Int), (9 : Int)] : List Int))] : List AV) = [.sl false 1 (List.map (AV.int .u8) ([(216 : Int), (4 : Int), (9 : Int)] : List Int))], ([] : List BoxSt) = [], Triple prog 12 [] [.sl false 1 (List.map (AV.int .u8) ([(216 : Int), (4 : Int), (9 : Int)] : List Int))] [] (.tuple [.int .i64 r_1.1, .int .i64 r_1.2.1, .int .i64 r_1.2.2])]) (vals := [.int .i64 r_1.1, .int .i64 r_1.2.1, .int .i64 r_1.2.2]) (bxs := []) (by kernel_rfl) hmix ⟨(by first | (simp; done) | (simp; omega)), rfl, rfl, (cInt_ok F ([(216 : Int), (4 : Int), (9 : Int)] : List Int) r_1 h_1), trivial⟩ ?_
  refine aw_seq (by kernel_rfl) ?_
  obtain ⟨r_2, h_2, h⟩ := bind_some h
  refine aw_region [(0, { id := 1 }), (1, { av := .tuple [.str r_2.1, .int .i64 r_2.2.1, .int .i64 r_2.2.2], frz := [1], l := [.sl false 1 (List.map (AV.int .u8) ([(4 : Int), (97 : Int), (98 : Int), (7 : Int)] : List Int)), .int .i64 (2 : Int)] })] [1, 2, 3, 4, 5, 6] [] 2 (vcs := [4 = ((List.map (AV.int .u8) ([(4 : Int), (97 : Int), (98 : Int), (7 : Int)] : List Int))).length, ([.sl false 1 (List.map (AV.int .u8) ([(4 : Int), (97 : Int), (98 : Int), (7 : Int)] : List Int)), .int .i64 (2 : Int)] : List AV) = [.sl false 1 (List.map (AV.int .u8) ([(4 : Int), (97 : Int), (98 : Int), (7 : Int)] : List Int)), .int .i64 (2 : Int)], ([] : List BoxSt) = [], Triple prog 14 [] [.sl false 1 (List.map (AV.int .u8) ([(4 : Int), (97 : Int), (98 : Int), (7 : Int)] : List Int)), .int .i64 (2 : Int)] [] (.tuple [.str r_2.1, .int .i64 r_2.2.1, .int .i64 r_2.2.2])]) (vals := [.int .i64 r_1.1, .int .i64 r_1.2.1, .int .i64 r_1.2.2, .str r_2.1, .int .i64 r_2.2.1, .int .i64 r_2.2.2]) (bxs := []) (by kernel_rfl) hmix ⟨(by first | (simp; done) | (simp; omega)), rfl, rfl, (cText_ok F ([(4 : Int), (97 : Int), (98 : Int), (7 : Int)] : List Int) (2 : Int) r_2 h_2), trivial⟩ ?_
  refine aw_seq (by kernel_rfl) ?_
  obtain ⟨p_1, h_5, h⟩ := bind_some h
  refine aw_mid (mk [(0, .bool p_1)] [] 0) ?_ ?_
  · replace h := h_5
    obtain ⟨r_3, h_3, h⟩ := bind_some h
    rcases Bool.eq_false_or_eq_true (r_3 == ([216, 4] : List Int)) with gg_1 | gg_1
    · replace h := cond_t gg_1 h
      rcases Bool.eq_false_or_eq_true (r_1.1 == (300 : Int)) with gg_2 | gg_2
      · replace h := cond_t gg_2 h
        rcases Bool.eq_false_or_eq_true (r_1.2.1 == (2 : Int)) with gg_3 | gg_3
        · replace h := cond_t gg_3 h
          rcases Bool.eq_false_or_eq_true (r_1.2.2 == (0 : Int)) with gg_4 | gg_4
          · replace h := cond_t gg_4 h
            rcases Bool.eq_false_or_eq_true (r_2.1 == ([97, 98] : List Int)) with gg_5 | gg_5
            · replace h := cond_t gg_5 h
              rcases Bool.eq_false_or_eq_true (r_2.2.1 == (3 : Int)) with gg_6 | gg_6
              · replace h := cond_t gg_6 h
                rcases Bool.eq_false_or_eq_true (r_2.2.2 == (0 : Int)) with gg_7 | gg_7
                · replace h := cond_t gg_7 h
                  obtain ⟨r_4, h_4, h⟩ := bind_some h
                  refine aw_region [(0, { av := .sl false 1 (List.map (AV.int .u8) r_3), l := [.nilsl, .int .i64 (300 : Int)] }), (1, { s := r_3 }), (6, { b := true }), (10, { b := true }), (14, { b := true }), (18, { b := true }), (22, { b := true }), (26, { b := true }), (28, { id := 2 }), (30, { av := .int .i64 r_4, l := [.sl false 1 (List.map (AV.int .u8) ([(49 : Int), (50 : Int), (51 : Int), (52 : Int), (53 : Int), (54 : Int), (55 : Int), (56 : Int), (57 : Int)] : List Int))] }), (32, { b := true })] [0] [] 3 (vcs := [([.nilsl, .int .i64 (300 : Int)] : List AV) = [.nilsl, .int .i64 (300 : Int)], ([] : List BoxSt) = [], Triple prog 18 [] [.nilsl, .int .i64 (300 : Int)] [] (.sl false 1 (List.map (AV.int .u8) r_3)), (List.map (AV.int .u8) r_3) = List.map (AV.int .u8) r_3, (r_3 == ([216, 4] : List Int)) = true, (r_3 == ([216, 4] : List Int)) = true, (r_3 == ([216, 4] : List Int)) = true, (r_1.1 == (300 : Int)) = true, (r_1.1 == (300 : Int)) = true, (r_1.1 == (300 : Int)) = true, (r_1.2.1 == (2 : Int)) = true, (r_1.2.1 == (2 : Int)) = true, (r_1.2.1 == (2 : Int)) = true, (r_1.2.2 == (0 : Int)) = true, (r_1.2.2 == (0 : Int)) = true, (r_1.2.2 == (0 : Int)) = true, (r_2.1 == ([97, 98] : List Int)) = true, (r_2.1 == ([97, 98] : List Int)) = true, (r_2.1 == ([97, 98] : List Int)) = true, (r_2.2.1 == (3 : Int)) = true, (r_2.2.1 == (3 : Int)) = true, (r_2.2.1 == (3 : Int)) = true, (r_2.2.2 == (0 : Int)) = true, (r_2.2.2 == (0 : Int)) = true, 9 = ((List.map (AV.int .u8) ([(49 : Int), (50 : Int), (51 : Int), (52 : Int), (53 : Int), (54 : Int), (55 : Int), (56 : Int), (57 : Int)] : List Int))).length, 0 < 9, (r_2.2.2 == (0 : Int)) = true, ([.sl false 1 (List.map (AV.int .u8) ([(49 : Int), (50 : Int), (51 : Int), (52 : Int), (53 : Int), (54 : Int), (55 : Int), (56 : Int), (57 : Int)] : List Int))] : List AV) = [.sl false 1 (List.map (AV.int .u8) ([(49 : Int), (50 : Int), (51 : Int), (52 : Int), (53 : Int), (54 : Int), (55 : Int), (56 : Int), (57 : Int)] : List Int))], ([] : List BoxSt) = [], Triple prog 16 [] [.sl false 1 (List.map (AV.int .u8) ([(49 : Int), (50 : Int), (51 : Int), (52 : Int), (53 : Int), (54 : Int), (55 : Int), (56 : Int), (57 : Int)] : List Int))] [] (.int .i64 r_4), (r_2.2.2 == (0 : Int)) = true, (r_2.2.2 == (0 : Int)) = true]) (vals := [.bool (r_4 == (3421780262 : Int))]) (bxs := []) (by kernel_rfl) hmix ⟨rfl, rfl, (triple_lo (args' := [.sl false 1 [], .int .i64 (300 : Int)]) (cPutInt_ok F [] (300 : Int) r_3 h_3) rfl ⟨rfl, rfl, trivial⟩), rfl, gg_1, gg_1, gg_1, gg_2, gg_2, gg_2, gg_3, gg_3, gg_3, gg_4, gg_4, gg_4, gg_5, gg_5, gg_5, gg_6, gg_6, gg_6, gg_7, gg_7, (by first | (simp; done) | (simp; omega)), (by decide), gg_7, rfl, rfl, (cSum_ok F ([(49 : Int), (50 : Int), (51 : Int), (52 : Int), (53 : Int), (54 : Int), (55 : Int), (56 : Int), (57 : Int)] : List Int) r_4 h_4), gg_7, gg_7, trivial⟩ ?_
                  replace h := Option.some.inj h; subst h
                  exact ⟨rfl, (sub_wk [] [] [(0, .bool (r_4 == (3421780262 : Int)))] [] (vcs := [((.bool (r_4 == (3421780262 : Int)) : AV) = .bool (r_4 == (3421780262 : Int)) : Prop)]) (by kernel_rfl) ⟨rfl, trivial⟩)⟩
                · replace h := cond_f gg_7 h
                  refine aw_region [(0, { av := .sl false 1 (List.map (AV.int .u8) r_3), l := [.nilsl, .int .i64 (300 : Int)] }), (1, { s := r_3 }), (6, { b := true }), (10, { b := true }), (14, { b := true }), (18, { b := true }), (22, { b := true }), (26, { b := true }), (28, { g := false }), (29, { g := false }), (30, { g := false }), (31, { g := false }), (32, { b := false })] [0] [] 2 (vcs := [([.nilsl, .int .i64 (300 : Int)] : List AV) = [.nilsl, .int .i64 (300 : Int)], ([] : List BoxSt) = [], Triple prog 18 [] [.nilsl, .int .i64 (300 : Int)] [] (.sl false 1 (List.map (AV.int .u8) r_3)), (List.map (AV.int .u8) r_3) = List.map (AV.int .u8) r_3, (r_3 == ([216, 4] : List Int)) = true, (r_3 == ([216, 4] : List Int)) = true, (r_3 == ([216, 4] : List Int)) = true, (r_1.1 == (300 : Int)) = true, (r_1.1 == (300 : Int)) = true, (r_1.1 == (300 : Int)) = true, (r_1.2.1 == (2 : Int)) = true, (r_1.2.1 == (2 : Int)) = true, (r_1.2.1 == (2 : Int)) = true, (r_1.2.2 == (0 : Int)) = true, (r_1.2.2 == (0 : Int)) = true, (r_1.2.2 == (0 : Int)) = true, (r_2.1 == ([97, 98] : List Int)) = true, (r_2.1 == ([97, 98] : List Int)) = true, (r_2.1 == ([97, 98] : List Int)) = true, (r_2.2.1 == (3 : Int)) = true, (r_2.2.1 == (3 : Int)) = true, (r_2.2.1 == (3 : Int)) = true, (r_2.2.2 == (0 : Int)) = !true, (r_2.2.2 == (0 : Int)) = !true, (r_2.2.2 == (0 : Int)) = !true, (r_2.2.2 == (0 : Int)) = !true, (r_2.2.2 == (0 : Int)) = false]) (vals := [.bool false]) (bxs := []) (by kernel_rfl) hmix ⟨rfl, rfl, (triple_lo (args' := [.sl false 1 [], .int .i64 (300 : Int)]) (cPutInt_ok F [] (300 : Int) r_3 h_3) rfl ⟨rfl, rfl, trivial⟩), rfl, gg_1, gg_1, gg_1, gg_2, gg_2, gg_2, gg_3, gg_3, gg_3, gg_4, gg_4, gg_4, gg_5, gg_5, gg_5, gg_6, gg_6, gg_6, gg_7, gg_7, gg_7, gg_7, gg_7, trivial⟩ ?_
                  replace h := Option.some.inj h; subst h
                  exact ⟨rfl, (sub_wk [] [] [(0, .bool false)] [] (vcs := [((.bool false : AV) = .bool false : Prop)]) (by kernel_rfl) ⟨rfl, trivial⟩)⟩
              · replace h := cond_f gg_6 h
                refine aw_region [(0, { av := .sl false 1 (List.map (AV.int .u8) r_3), l := [.nilsl, .int .i64 (300 : Int)] }), (1, { s := r_3 }), (6, { b := true }), (10, { b := true }), (14, { b := true }), (18, { b := true }), (22, { b := true }), (24, { g := false }), (25, { g := false }), (26, { b := false }), (28, { g := false }), (29, { g := false }), (30, { g := false }), (31, { g := false }), (32, { b := false })] [0] [] 2 (vcs := [([.nilsl, .int .i64 (300 : Int)] : List AV) = [.nilsl, .int .i64 (300 : Int)], ([] : List BoxSt) = [], Triple prog 18 [] [.nilsl, .int .i64 (300 : Int)] [] (.sl false 1 (List.map (AV.int .u8) r_3)), (List.map (AV.int .u8) r_3) = List.map (AV.int .u8) r_3, (r_3 == ([216, 4] : List Int)) = true, (r_3 == ([216, 4] : List Int)) = true, (r_3 == ([216, 4] : List Int)) = true, (r_1.1 == (300 : Int)) = true, (r_1.1 == (300 : Int)) = true, (r_1.1 == (300 : Int)) = true, (r_1.2.1 == (2 : Int)) = true, (r_1.2.1 == (2 : Int)) = true, (r_1.2.1 == (2 : Int)) = true, (r_1.2.2 == (0 : Int)) = true, (r_1.2.2 == (0 : Int)) = true, (r_1.2.2 == (0 : Int)) = true, (r_2.1 == ([97, 98] : List Int)) = true, (r_2.1 == ([97, 98] : List Int)) = true, (r_2.1 == ([97, 98] : List Int)) = true, (r_2.2.1 == (3 : Int)) = !true, (r_2.2.1 == (3 : Int)) = !true, (r_2.2.1 == (3 : Int)) = false, false = !true, false = !true, false = !true, false = !true, false = false]) (vals := [.bool false]) (bxs := []) (by kernel_rfl) hmix ⟨rfl, rfl, (triple_lo (args' := [.sl false 1 [], .int .i64 (300 : Int)]) (cPutInt_ok F [] (300 : Int) r_3 h_3) rfl ⟨rfl, rfl, trivial⟩), rfl, gg_1, gg_1, gg_1, gg_2, gg_2, gg_2, gg_3, gg_3, gg_3, gg_4, gg_4, gg_4, gg_5, gg_5, gg_5, gg_6, gg_6, gg_6, rfl, rfl, rfl, rfl, rfl, trivial⟩ ?_
                replace h := Option.some.inj h; subst h
                exact ⟨rfl, (sub_wk [] [] [(0, .bool false)] [] (vcs := [((.bool false : AV) = .bool false : Prop)]) (by kernel_rfl) ⟨rfl, trivial⟩)⟩
            · replace h := cond_f gg_5 h
              refine aw_region [(0, { av := .sl false 1 (List.map (AV.int .u8) r_3), l := [.nilsl, .int .i64 (300 : Int)] }), (1, { s := r_3 }), (6, { b := true }), (10, { b := true }), (14, { b := true }), (18, { b := true }), (20, { g := false }), (21, { g := false }), (22, { b := false }), (24, { g := false }), (25, { g := false }), (26, { b := false }), (28, { g := false }), (29, { g := false }), (30, { g := false }), (31, { g := false }), (32, { b := false })] [0] [] 2 (vcs := [([.nilsl, .int .i64 (300 : Int)] : List AV) = [.nilsl, .int .i64 (300 : Int)], ([] : List BoxSt) = [], Triple prog 18 [] [.nilsl, .int .i64 (300 : Int)] [] (.sl false 1 (List.map (AV.int .u8) r_3)), (List.map (AV.int .u8) r_3) = List.map (AV.int .u8) r_3, (r_3 == ([216, 4] : List Int)) = true, (r_3 == ([216, 4] : List Int)) = true, (r_3 == ([216, 4] : List Int)) = true, (r_1.1 == (300 : Int)) = true, (r_1.1 == (300 : Int)) = true, (r_1.1 == (300 : Int)) = true, (r_1.2.1 == (2 : Int)) = true, (r_1.2.1 == (2 : Int)) = true, (r_1.2.1 == (2 : Int)) = true, (r_1.2.2 == (0 : Int)) = true, (r_1.2.2 == (0 : Int)) = true, (r_1.2.2 == (0 : Int)) = true, (r_2.1 == ([97, 98] : List Int)) = !true, (r_2.1 == ([97, 98] : List Int)) = !true, (r_2.1 == ([97, 98] : List Int)) = false, false = !true, false = !true, false = false, false = !true, false = !true, false = !true, false = !true, false = false]) (vals := [.bool false]) (bxs := []) (by kernel_rfl) hmix ⟨rfl, rfl, (triple_lo (args' := [.sl false 1 [], .int .i64 (300 : Int)]) (cPutInt_ok F [] (300 : Int) r_3 h_3) rfl ⟨rfl, rfl, trivial⟩), rfl, gg_1, gg_1, gg_1, gg_2, gg_2, gg_2, gg_3, gg_3, gg_3, gg_4, gg_4, gg_4, gg_5, gg_5, gg_5, rfl, rfl, rfl, rfl, rfl, rfl, rfl, rfl, trivial⟩ ?_
              replace h := Option.some.inj h; subst h
              exact ⟨rfl, (sub_wk [] [] [(0, .bool false)] [] (vcs := [((.bool false : AV) = .bool false : Prop)]) (by kernel_rfl) ⟨rfl, trivial⟩)⟩
          · replace h := cond_f gg_4 h
            refine aw_region [(0, { av := .sl false 1 (List.map (AV.int .u8) r_3), l := [.nilsl, .int .i64 (300 : Int)] }), (1, { s := r_3 }), (6, { b := true }), (10, { b := true }), (14, { b := true }), (16, { g := false }), (17, { g := false }), (18, { b := false }), (20, { g := false }), (21, { g := false }), (22, { b := false }), (24, { g := false }), (25, { g := false }), (26, { b := false }), (28, { g := false }), (29, { g := false }), (30, { g := false }), (31, { g := false }), (32, { b := false })] [0] [] 2 (vcs := [([.nilsl, .int .i64 (300 : Int)] : List AV) = [.nilsl, .int .i64 (300 : Int)], ([] : List BoxSt) = [], Triple prog 18 [] [.nilsl, .int .i64 (300 : Int)] [] (.sl false 1 (List.map (AV.int .u8) r_3)), (List.map (AV.int .u8) r_3) = List.map (AV.int .u8) r_3, (r_3 == ([216, 4] : List Int)) = true, (r_3 == ([216, 4] : List Int)) = true, (r_3 == ([216, 4] : List Int)) = true, (r_1.1 == (300 : Int)) = true, (r_1.1 == (300 : Int)) = true, (r_1.1 == (300 : Int)) = true, (r_1.2.1 == (2 : Int)) = true, (r_1.2.1 == (2 : Int)) = true, (r_1.2.1 == (2 : Int)) = true, (r_1.2.2 == (0 : Int)) = !true, (r_1.2.2 == (0 : Int)) = !true, (r_1.2.2 == (0 : Int)) = false, false = !true, false = !true, false = false, false = !true, false = !true, false = false, false = !true, false = !true, false = !true, false = !true, false = false]) (vals := [.bool false]) (bxs := []) (by kernel_rfl) hmix ⟨rfl, rfl, (triple_lo (args' := [.sl false 1 [], .int .i64 (300 : Int)]) (cPutInt_ok F [] (300 : Int) r_3 h_3) rfl ⟨rfl, rfl, trivial⟩), rfl, gg_1, gg_1, gg_1, gg_2, gg_2, gg_2, gg_3, gg_3, gg_3, gg_4, gg_4, gg_4, rfl, rfl, rfl, rfl, rfl, rfl, rfl, rfl, rfl, rfl, rfl, trivial⟩ ?_
            replace h := Option.some.inj h; subst h
            exact ⟨rfl, (sub_wk [] [] [(0, .bool false)] [] (vcs := [((.bool false : AV) = .bool false : Prop)]) (by kernel_rfl) ⟨rfl, trivial⟩)⟩
        · replace h := cond_f gg_3 h
          refine aw_region [(0, { av := .sl false 1 (List.map (AV.int .u8) r_3), l := [.nilsl, .int .i64 (300 : Int)] }), (1, { s := r_3 }), (6, { b := true }), (10, { b := true }), (12, { g := false }), (13, { g := false }), (14, { b := false }), (16, { g := false }), (17, { g := false }), (18, { b := false }), (20, { g := false }), (21, { g := false }), (22, { b := false }), (24, { g := false }), (25, { g := false }), (26, { b := false }), (28, { g := false }), (29, { g := false }), (30, { g := false }), (31, { g := false }), (32, { b := false })] [0] [] 2 (vcs := [([.nilsl, .int .i64 (300 : Int)] : List AV) = [.nilsl, .int .i64 (300 : Int)], ([] : List BoxSt) = [], Triple prog 18 [] [.nilsl, .int .i64 (300 : Int)] [] (.sl false 1 (List.map (AV.int .u8) r_3)), (List.map (AV.int .u8) r_3) = List.map (AV.int .u8) r_3, (r_3 == ([216, 4] : List Int)) = true, (r_3 == ([216, 4] : List Int)) = true, (r_3 == ([216, 4] : List Int)) = true, (r_1.1 == (300 : Int)) = true, (r_1.1 == (300 : Int)) = true, (r_1.1 == (300 : Int)) = true, (r_1.2.1 == (2 : Int)) = !true, (r_1.2.1 == (2 : Int)) = !true, (r_1.2.1 == (2 : Int)) = false, false = !true, false = !true, false = false, false = !true, false = !true, false = false, false = !true, false = !true, false = false, false = !true, false = !true, false = !true, false = !true, false = false]) (vals := [.bool false]) (bxs := []) (by kernel_rfl) hmix ⟨rfl, rfl, (triple_lo (args' := [.sl false 1 [], .int .i64 (300 : Int)]) (cPutInt_ok F [] (300 : Int) r_3 h_3) rfl ⟨rfl, rfl, trivial⟩), rfl, gg_1, gg_1, gg_1, gg_2, gg_2, gg_2, gg_3, gg_3, gg_3, rfl, rfl, rfl, rfl, rfl, rfl, rfl, rfl, rfl, rfl, rfl, rfl, rfl, rfl, trivial⟩ ?_
          replace h := Option.some.inj h; subst h
          exact ⟨rfl, (sub_wk [] [] [(0, .bool false)] [] (vcs := [((.bool false : AV) = .bool false : Prop)]) (by kernel_rfl) ⟨rfl, trivial⟩)⟩
      · replace h := cond_f gg_2 h
        refine aw_region [(0, { av := .sl false 1 (List.map (AV.int .u8) r_3), l := [.nilsl, .int .i64 (300 : Int)] }), (1, { s := r_3 }), (6, { b := true }), (8, { g := false }), (9, { g := false }), (10, { b := false }), (12, { g := false }), (13, { g := false }), (14, { b := false }), (16, { g := false }), (17, { g := false }), (18, { b := false }), (20, { g := false }), (21, { g := false }), (22, { b := false }), (24, { g := false }), (25, { g := false }), (26, { b := false }), (28, { g := false }), (29, { g := false }), (30, { g := false }), (31, { g := false }), (32, { b := false })] [0] [] 2 (vcs := [([.nilsl, .int .i64 (300 : Int)] : List AV) = [.nilsl, .int .i64 (300 : Int)], ([] : List BoxSt) = [], Triple prog 18 [] [.nilsl, .int .i64 (300 : Int)] [] (.sl false 1 (List.map (AV.int .u8) r_3)), (List.map (AV.int .u8) r_3) = List.map (AV.int .u8) r_3, (r_3 == ([216, 4] : List Int)) = true, (r_3 == ([216, 4] : List Int)) = true, (r_3 == ([216, 4] : List Int)) = true, (r_1.1 == (300 : Int)) = !true, (r_1.1 == (300 : Int)) = !true, (r_1.1 == (300 : Int)) = false, false = !true, false = !true, false = false, false = !true, false = !true, false = false, false = !true, false = !true, false = false, false = !true, false = !true, false = false, false = !true, false = !true, false = !true, false = !true, false = false]) (vals := [.bool false]) (bxs := []) (by kernel_rfl) hmix ⟨rfl, rfl, (triple_lo (args' := [.sl false 1 [], .int .i64 (300 : Int)]) (cPutInt_ok F [] (300 : Int) r_3 h_3) rfl ⟨rfl, rfl, trivial⟩), rfl, gg_1, gg_1, gg_1, gg_2, gg_2, gg_2, rfl, rfl, rfl, rfl, rfl, rfl, rfl, rfl, rfl, rfl, rfl, rfl, rfl, rfl, rfl, rfl, rfl, trivial⟩ ?_
        replace h := Option.some.inj h; subst h
        exact ⟨rfl, (sub_wk [] [] [(0, .bool false)] [] (vcs := [((.bool false : AV) = .bool false : Prop)]) (by kernel_rfl) ⟨rfl, trivial⟩)⟩
    · replace h := cond_f gg_1 h
      refine aw_region [(0, { av := .sl false 1 (List.map (AV.int .u8) r_3), l := [.nilsl, .int .i64 (300 : Int)] }), (1, { s := r_3 }), (4, { g := false }), (5, { g := false }), (6, { b := false }), (8, { g := false }), (9, { g := false }), (10, { b := false }), (12, { g := false }), (13, { g := false }), (14, { b := false }), (16, { g := false }), (17, { g := false }), (18, { b := false }), (20, { g := false }), (21, { g := false }), (22, { b := false }), (24, { g := false }), (25, { g := false }), (26, { b := false }), (28, { g := false }), (29, { g := false }), (30, { g := false }), (31, { g := false }), (32, { b := false })] [0] [] 2 (vcs := [([.nilsl, .int .i64 (300 : Int)] : List AV) = [.nilsl, .int .i64 (300 : Int)], ([] : List BoxSt) = [], Triple prog 18 [] [.nilsl, .int .i64 (300 : Int)] [] (.sl false 1 (List.map (AV.int .u8) r_3)), (List.map (AV.int .u8) r_3) = List.map (AV.int .u8) r_3, (r_3 == ([216, 4] : List Int)) = !true, (r_3 == ([216, 4] : List Int)) = !true, (r_3 == ([216, 4] : List Int)) = false, false = !true, false = !true, false = false, false = !true, false = !true, false = false, false = !true, false = !true, false = false, false = !true, false = !true, false = false, false = !true, false = !true, false = false, false = !true, false = !true, false = !true, false = !true, false = false]) (vals := [.bool false]) (bxs := []) (by kernel_rfl) hmix ⟨rfl, rfl, (triple_lo (args' := [.sl false 1 [], .int .i64 (300 : Int)]) (cPutInt_ok F [] (300 : Int) r_3 h_3) rfl ⟨rfl, rfl, trivial⟩), rfl, gg_1, gg_1, gg_1, rfl, rfl, rfl, rfl, rfl, rfl, rfl, rfl, rfl, rfl, rfl, rfl, rfl, rfl, rfl, rfl, rfl, rfl, rfl, rfl, trivial⟩ ?_
      replace h := Option.some.inj h; subst h
      exact ⟨rfl, (sub_wk [] [] [(0, .bool false)] [] (vcs := [((.bool false : AV) = .bool false : Prop)]) (by kernel_rfl) ⟨rfl, trivial⟩)⟩
  refine aw_ret (by kernel_rfl) ?_
  replace h := Option.some.inj h; subst h
  exact ⟨.inr rfl, Nat.le_of_ble_eq_true rfl, by kernel_rfl⟩

theorem lReads_ok (F : Nat) (a_1 : List (Int)) (a_2 : Int) (r : Bool) (h : lReads F a_1 a_2 = some r) : Triple prog 3 [] [.sl false 1 (List.map (AV.int .u8) a_1), .int .i64 a_2] [] (.bool r) := by
  refine triple_intro (fn := Go.Proofs.Try.f3) (code := codeOf Go.Proofs.Try.f3) (by kernel_rfl) (by kernel_rfl) (Nat.le_of_ble_eq_true (by kernel_rfl)) ?_
  unfold lReads at h
  refine aw_seq (by kernel_rfl) ?_
  refine aw_region [] [0, 1] [] 0 (vcs := []) (vals := [.sl false 1 (List.map (AV.int .u8) a_1), .int .i64 a_2]) (bxs := []) (by kernel_rfl) hmix trivial ?_
  refine aw_seq (by kernel_rfl) ?_
  refine aw_seq (by kernel_rfl) ?_
  refine aw_region [(1, { n := (a_1).length })] [0, 1, 19] [] 0 (vcs := [((List.map (AV.int .u8) a_1)).length = (a_1).length]) (vals := [.sl false 1 (List.map (AV.int .u8) a_1), .int .i64 a_2, .bool (decide ((((a_1).length : Nat) : Int) > (300 : Int)))]) (bxs := []) (by kernel_rfl) hmix ⟨(vc_len _), trivial⟩ ?_
  refine aw_cond (t := 19) (b := (decide ((((a_1).length : Nat) : Int) > (300 : Int)))) (by kernel_rfl) (by kernel_rfl) ?_ ?_
  · intro g_1; replace h := cond_t g_1 h
    refine aw_seq (by kernel_rfl) ?_
    obtain ⟨r_1, h_1, h⟩ := bind_some h
    refine aw_region [(0, { av := .bool r_1, l := [] })] [4] [] 0 (vcs := [([] : List AV) = [], ([] : List BoxSt) = [], Triple prog 11 [] [] [] (.bool r_1)]) (vals := [.bool r_1]) (bxs := []) (by kernel_rfl) hmix ⟨rfl, rfl, (lives_ok F r_1 h_1), trivial⟩ ?_
    refine aw_ret (by kernel_rfl) ?_
    replace h := Option.some.inj h; subst h
    exact ⟨.inr rfl, Nat.le_of_ble_eq_true rfl, by kernel_rfl⟩
  intro g_1; replace h := cond_f g_1 h
  refine aw_skip (by kernel_rfl) ?_
  refine aw_seq (by kernel_rfl) ?_
  obtain ⟨r_2, h_2, h⟩ := bind_some h
  refine aw_region [(1, { av := .tuple [.int .i64 r_2.1, .int .i64 r_2.2.1, .int .i64 r_2.2.2], l := [.sl false 1 (List.map (AV.int .u8) a_1)] })] [0, 1, 5, 6, 7] [] 0 (vcs := [([.sl false 1 (List.map (AV.int .u8) a_1)] : List AV) = [.sl false 1 (List.map (AV.int .u8) a_1)], ([] : List BoxSt) = [], Triple prog 12 [] [.sl false 1 (List.map (AV.int .u8) a_1)] [] (.tuple [.int .i64 r_2.1, .int .i64 r_2.2.1, .int .i64 r_2.2.2])]) (vals := [.sl false 1 (List.map (AV.int .u8) a_1), .int .i64 a_2, .int .i64 r_2.1, .int .i64 r_2.2.1, .int .i64 r_2.2.2]) (bxs := []) (by kernel_rfl) hmix ⟨rfl, rfl, (cInt_ok F a_1 r_2 h_2), trivial⟩ ?_
  refine aw_seq (by kernel_rfl) ?_
  obtain ⟨r_3, h_3, h⟩ := bind_some h
  refine aw_region [(1, { av := .tuple [.int .i64 r_3.1, .int .i64 r_3.2.1, .int .i64 r_3.2.2], l := [.sl false 1 (List.map (AV.int .u8) a_1)] })] [0, 1, 5, 6, 7, 8, 9, 10] [] 0 (vcs := [([.sl false 1 (List.map (AV.int .u8) a_1)] : List AV) = [.sl false 1 (List.map (AV.int .u8) a_1)], ([] : List BoxSt) = [], Triple prog 13 [] [.sl false 1 (List.map (AV.int .u8) a_1)] [] (.tuple [.int .i64 r_3.1, .int .i64 r_3.2.1, .int .i64 r_3.2.2])]) (vals := [.sl false 1 (List.map (AV.int .u8) a_1), .int .i64 a_2, .int .i64 r_2.1, .int .i64 r_2.2.1, .int .i64 r_2.2.2, .int .i64 r_3.1, .int .i64 r_3.2.1, .int .i64 r_3.2.2]) (bxs := []) (by kernel_rfl) hmix ⟨rfl, rfl, (rInt_ok F a_1 r_3 h_3), trivial⟩ ?_
  refine aw_seq (by kernel_rfl) ?_
  obtain ⟨r_4, h_4, h⟩ := bind_some h
  refine aw_region [(2, { av := .tuple [.str r_4.1, .int .i64 r_4.2.1, .int .i64 r_4.2.2], l := [.sl false 1 (List.map (AV.int .u8) a_1), .int .i64 a_2] })] [0, 1, 5, 6, 7, 8, 9, 10, 11, 12, 13] [] 0 (vcs := [([.sl false 1 (List.map (AV.int .u8) a_1), .int .i64 a_2] : List AV) = [.sl false 1 (List.map (AV.int .u8) a_1), .int .i64 a_2], ([] : List BoxSt) = [], Triple prog 14 [] [.sl false 1 (List.map (AV.int .u8) a_1), .int .i64 a_2] [] (.tuple [.str r_4.1, .int .i64 r_4.2.1, .int .i64 r_4.2.2])]) (vals := [.sl false 1 (List.map (AV.int .u8) a_1), .int .i64 a_2, .int .i64 r_2.1, .int .i64 r_2.2.1, .int .i64 r_2.2.2, .int .i64 r_3.1, .int .i64 r_3.2.1, .int .i64 r_3.2.2, .str r_4.1, .int .i64 r_4.2.1, .int .i64 r_4.2.2]) (bxs := []) (by kernel_rfl) hmix ⟨rfl, rfl, (cText_ok F a_1 a_2 r_4 h_4), trivial⟩ ?_
  refine aw_seq (by kernel_rfl) ?_
  obtain ⟨r_5, h_5, h⟩ := bind_some h
  refine aw_region [(2, { av := .tuple [.str r_5.1, .int .i64 r_5.2.1, .int .i64 r_5.2.2], l := [.sl false 1 (List.map (AV.int .u8) a_1), .int .i64 a_2] })] [5, 6, 7, 8, 9, 10, 11, 12, 13, 14, 15, 16] [] 0 (vcs := [([.sl false 1 (List.map (AV.int .u8) a_1), .int .i64 a_2] : List AV) = [.sl false 1 (List.map (AV.int .u8) a_1), .int .i64 a_2], ([] : List BoxSt) = [], Triple prog 15 [] [.sl false 1 (List.map (AV.int .u8) a_1), .int .i64 a_2] [] (.tuple [.str r_5.1, .int .i64 r_5.2.1, .int .i64 r_5.2.2])]) (vals := [.int .i64 r_2.1, .int .i64 r_2.2.1, .int .i64 r_2.2.2, .int .i64 r_3.1, .int .i64 r_3.2.1, .int .i64 r_3.2.2, .str r_4.1, .int .i64 r_4.2.1, .int .i64 r_4.2.2, .str r_5.1, .int .i64 r_5.2.1, .int .i64 r_5.2.2]) (bxs := []) (by kernel_rfl) hmix ⟨rfl, rfl, (rText_ok F a_1 a_2 r_5 h_5), trivial⟩ ?_
  refine aw_seq (by kernel_rfl) ?_
  obtain ⟨p_1, h_7, h⟩ := bind_some h
  refine aw_mid (mk [(4, .bool p_1)] [] 0) ?_ ?_
  · replace h := h_7
    rcases Bool.eq_false_or_eq_true (r_2.1 == r_3.1) with gg_1 | gg_1
    · replace h := cond_t gg_1 h
      rcases Bool.eq_false_or_eq_true (r_2.2.1 == r_3.2.1) with gg_2 | gg_2
      · replace h := cond_t gg_2 h
        rcases Bool.eq_false_or_eq_true (r_2.2.2 == r_3.2.2) with gg_3 | gg_3
        · replace h := cond_t gg_3 h
          rcases Bool.eq_false_or_eq_true (r_4.1 == r_5.1) with gg_4 | gg_4
          · replace h := cond_t gg_4 h
            rcases Bool.eq_false_or_eq_true (r_4.2.1 == r_5.2.1) with gg_5 | gg_5
            · replace h := cond_t gg_5 h
              rcases Bool.eq_false_or_eq_true (r_4.2.2 == r_5.2.2) with gg_6 | gg_6
              · replace h := cond_t gg_6 h
                obtain ⟨r_6, h_6, h⟩ := bind_some h
                refine aw_region [(7, { b := true }), (12, { b := true }), (17, { b := true }), (22, { b := true }), (27, { b := true }), (29, { av := .bool r_6, l := [] }), (30, { b := true })] [4] [] 0 (vcs := [(r_2.1 == r_3.1) = true, (r_2.1 == r_3.1) = true, (r_2.1 == r_3.1) = true, (r_2.1 == r_3.1) = true, (r_2.2.1 == r_3.2.1) = true, (r_2.2.1 == r_3.2.1) = true, (r_2.2.1 == r_3.2.1) = true, (r_2.2.1 == r_3.2.1) = true, (r_2.2.2 == r_3.2.2) = true, (r_2.2.2 == r_3.2.2) = true, (r_2.2.2 == r_3.2.2) = true, (r_2.2.2 == r_3.2.2) = true, (r_4.1 == r_5.1) = true, (r_4.1 == r_5.1) = true, (r_4.1 == r_5.1) = true, (r_4.1 == r_5.1) = true, (r_4.2.1 == r_5.2.1) = true, (r_4.2.1 == r_5.2.1) = true, (r_4.2.1 == r_5.2.1) = true, (r_4.2.1 == r_5.2.1) = true, (r_4.2.2 == r_5.2.2) = true, ([] : List AV) = [], ([] : List BoxSt) = [], Triple prog 11 [] [] [] (.bool r_6), (r_4.2.2 == r_5.2.2) = true]) (vals := [.bool r_6]) (bxs := []) (by kernel_rfl) hmix ⟨gg_1, gg_1, gg_1, gg_1, gg_2, gg_2, gg_2, gg_2, gg_3, gg_3, gg_3, gg_3, gg_4, gg_4, gg_4, gg_4, gg_5, gg_5, gg_5, gg_5, gg_6, rfl, rfl, (lives_ok F r_6 h_6), gg_6, trivial⟩ ?_
                replace h := Option.some.inj h; subst h
                exact ⟨rfl, (sub_wk [] [] [(4, .bool r_6)] [] (vcs := [((.bool r_6 : AV) = .bool r_6 : Prop)]) (by kernel_rfl) ⟨rfl, trivial⟩)⟩
              · replace h := cond_f gg_6 h
                refine aw_region [(7, { b := true }), (12, { b := true }), (17, { b := true }), (22, { b := true }), (27, { b := true }), (29, { g := false }), (30, { b := false })] [4] [] 0 (vcs := [(r_2.1 == r_3.1) = true, (r_2.1 == r_3.1) = true, (r_2.1 == r_3.1) = true, (r_2.1 == r_3.1) = true, (r_2.2.1 == r_3.2.1) = true, (r_2.2.1 == r_3.2.1) = true, (r_2.2.1 == r_3.2.1) = true, (r_2.2.1 == r_3.2.1) = true, (r_2.2.2 == r_3.2.2) = true, (r_2.2.2 == r_3.2.2) = true, (r_2.2.2 == r_3.2.2) = true, (r_2.2.2 == r_3.2.2) = true, (r_4.1 == r_5.1) = true, (r_4.1 == r_5.1) = true, (r_4.1 == r_5.1) = true, (r_4.1 == r_5.1) = true, (r_4.2.1 == r_5.2.1) = true, (r_4.2.1 == r_5.2.1) = true, (r_4.2.1 == r_5.2.1) = true, (r_4.2.1 == r_5.2.1) = true, (r_4.2.2 == r_5.2.2) = !true, (r_4.2.2 == r_5.2.2) = false]) (vals := [.bool false]) (bxs := []) (by kernel_rfl) hmix ⟨gg_1, gg_1, gg_1, gg_1, gg_2, gg_2, gg_2, gg_2, gg_3, gg_3, gg_3, gg_3, gg_4, gg_4, gg_4, gg_4, gg_5, gg_5, gg_5, gg_5, gg_6, gg_6, trivial⟩ ?_
                replace h := Option.some.inj h; subst h
                exact ⟨rfl, (sub_wk [] [] [(4, .bool false)] [] (vcs := [((.bool false : AV) = .bool false : Prop)]) (by kernel_rfl) ⟨rfl, trivial⟩)⟩
            · replace h := cond_f gg_5 h
              refine aw_region [(7, { b := true }), (12, { b := true }), (17, { b := true }), (22, { b := true }), (24, { g := false }), (25, { g := false }), (26, { g := false }), (27, { b := false }), (29, { g := false }), (30, { b := false })] [4] [] 0 (vcs := [(r_2.1 == r_3.1) = true, (r_2.1 == r_3.1) = true, (r_2.1 == r_3.1) = true, (r_2.1 == r_3.1) = true, (r_2.2.1 == r_3.2.1) = true, (r_2.2.1 == r_3.2.1) = true, (r_2.2.1 == r_3.2.1) = true, (r_2.2.1 == r_3.2.1) = true, (r_2.2.2 == r_3.2.2) = true, (r_2.2.2 == r_3.2.2) = true, (r_2.2.2 == r_3.2.2) = true, (r_2.2.2 == r_3.2.2) = true, (r_4.1 == r_5.1) = true, (r_4.1 == r_5.1) = true, (r_4.1 == r_5.1) = true, (r_4.1 == r_5.1) = true, (r_4.2.1 == r_5.2.1) = !true, (r_4.2.1 == r_5.2.1) = !true, (r_4.2.1 == r_5.2.1) = !true, (r_4.2.1 == r_5.2.1) = false, false = !true, false = false]) (vals := [.bool false]) (bxs := []) (by kernel_rfl) hmix ⟨gg_1, gg_1, gg_1, gg_1, gg_2, gg_2, gg_2, gg_2, gg_3, gg_3, gg_3, gg_3, gg_4, gg_4, gg_4, gg_4, gg_5, gg_5, gg_5, gg_5, rfl, rfl, trivial⟩ ?_
              replace h := Option.some.inj h; subst h
              exact ⟨rfl, (sub_wk [] [] [(4, .bool false)] [] (vcs := [((.bool false : AV) = .bool false : Prop)]) (by kernel_rfl) ⟨rfl, trivial⟩)⟩
          · replace h := cond_f gg_4 h
            refine aw_region [(7, { b := true }), (12, { b := true }), (17, { b := true }), (19, { g := false }), (20, { g := false }), (21, { g := false }), (22, { b := false }), (24, { g := false }), (25, { g := false }), (26, { g := false }), (27, { b := false }), (29, { g := false }), (30, { b := false })] [4] [] 0 (vcs := [(r_2.1 == r_3.1) = true, (r_2.1 == r_3.1) = true, (r_2.1 == r_3.1) = true, (r_2.1 == r_3.1) = true, (r_2.2.1 == r_3.2.1) = true, (r_2.2.1 == r_3.2.1) = true, (r_2.2.1 == r_3.2.1) = true, (r_2.2.1 == r_3.2.1) = true, (r_2.2.2 == r_3.2.2) = true, (r_2.2.2 == r_3.2.2) = true, (r_2.2.2 == r_3.2.2) = true, (r_2.2.2 == r_3.2.2) = true, (r_4.1 == r_5.1) = !true, (r_4.1 == r_5.1) = !true, (r_4.1 == r_5.1) = !true, (r_4.1 == r_5.1) = false, false = !true, false = !true, false = !true, false = false, false = !true, false = false]) (vals := [.bool false]) (bxs := []) (by kernel_rfl) hmix ⟨gg_1, gg_1, gg_1, gg_1, gg_2, gg_2, gg_2, gg_2, gg_3, gg_3, gg_3, gg_3, gg_4, gg_4, gg_4, gg_4, rfl, rfl, rfl, rfl, rfl, rfl, trivial⟩ ?_
            replace h := Option.some.inj h; subst h
            exact ⟨rfl, (sub_wk [] [] [(4, .bool false)] [] (vcs := [((.bool false : AV) = .bool false : Prop)]) (by kernel_rfl) ⟨rfl, trivial⟩)⟩
        · replace h := cond_f gg_3 h
          refine aw_region [(7, { b := true }), (12, { b := true }), (14, { g := false }), (15, { g := false }), (16, { g := false }), (17, { b := false }), (19, { g := false }), (20, { g := false }), (21, { g := false }), (22, { b := false }), (24, { g := false }), (25, { g := false }), (26, { g := false }), (27, { b := false }), (29, { g := false }), (30, { b := false })] [4] [] 0 (vcs := [(r_2.1 == r_3.1) = true, (r_2.1 == r_3.1) = true, (r_2.1 == r_3.1) = true, (r_2.1 == r_3.1) = true, (r_2.2.1 == r_3.2.1) = true, (r_2.2.1 == r_3.2.1) = true, (r_2.2.1 == r_3.2.1) = true, (r_2.2.1 == r_3.2.1) = true, (r_2.2.2 == r_3.2.2) = !true, (r_2.2.2 == r_3.2.2) = !true, (r_2.2.2 == r_3.2.2) = !true, (r_2.2.2 == r_3.2.2) = false, false = !true, false = !true, false = !true, false = false, false = !true, false = !true, false = !true, false = false, false = !true, false = false]) (vals := [.bool false]) (bxs := []) (by kernel_rfl) hmix ⟨gg_1, gg_1, gg_1, gg_1, gg_2, gg_2, gg_2, gg_2, gg_3, gg_3, gg_3, gg_3, rfl, rfl, rfl, rfl, rfl, rfl, rfl, rfl, rfl, rfl, trivial⟩ ?_
          replace h := Option.some.inj h; subst h
          exact ⟨rfl, (sub_wk [] [] [(4, .bool false)] [] (vcs := [((.bool false : AV) = .bool false : Prop)]) (by kernel_rfl) ⟨rfl, trivial⟩)⟩
      · replace h := cond_f gg_2 h
        refine aw_region [(7, { b := true }), (9, { g := false }), (10, { g := false }), (11, { g := false }), (12, { b := false }), (14, { g := false }), (15, { g := false }), (16, { g := false }), (17, { b := false }), (19, { g := false }), (20, { g := false }), (21, { g := false }), (22, { b := false }), (24, { g := false }), (25, { g := false }), (26, { g := false }), (27, { b := false }), (29, { g := false }), (30, { b := false })] [4] [] 0 (vcs := [(r_2.1 == r_3.1) = true, (r_2.1 == r_3.1) = true, (r_2.1 == r_3.1) = true, (r_2.1 == r_3.1) = true, (r_2.2.1 == r_3.2.1) = !true, (r_2.2.1 == r_3.2.1) = !true, (r_2.2.1 == r_3.2.1) = !true, (r_2.2.1 == r_3.2.1) = false, false = !true, false = !true, false = !true, false = false, false = !true, false = !true, false = !true, false = false, false = !true, false = !true, false = !true, false = false, false = !true, false = false]) (vals := [.bool false]) (bxs := []) (by kernel_rfl) hmix ⟨gg_1, gg_1, gg_1, gg_1, gg_2, gg_2, gg_2, gg_2, rfl, rfl, rfl, rfl, rfl, rfl, rfl, rfl, rfl, rfl, rfl, rfl, rfl, rfl, trivial⟩ ?_
        replace h := Option.some.inj h; subst h
        exact ⟨rfl, (sub_wk [] [] [(4, .bool false)] [] (vcs := [((.bool false : AV) = .bool false : Prop)]) (by kernel_rfl) ⟨rfl, trivial⟩)⟩
    · replace h := cond_f gg_1 h
      refine aw_region [(4, { g := false }), (5, { g := false }), (6, { g := false }), (7, { b := false }), (9, { g := false }), (10, { g := false }), (11, { g := false }), (12, { b := false }), (14, { g := false }), (15, { g := false }), (16, { g := false }), (17, { b := false }), (19, { g := false }), (20, { g := false }), (21, { g := false }), (22, { b := false }), (24, { g := false }), (25, { g := false }), (26, { g := false }), (27, { b := false }), (29, { g := false }), (30, { b := false })] [4] [] 0 (vcs := [(r_2.1 == r_3.1) = !true, (r_2.1 == r_3.1) = !true, (r_2.1 == r_3.1) = !true, (r_2.1 == r_3.1) = false, false = !true, false = !true, false = !true, false = false, false = !true, false = !true, false = !true, false = false, false = !true, false = !true, false = !true, false = false, false = !true, false = !true, false = !true, false = false, false = !true, false = false]) (vals := [.bool false]) (bxs := []) (by kernel_rfl) hmix ⟨gg_1, gg_1, gg_1, gg_1, rfl, rfl, rfl, rfl, rfl, rfl, rfl, rfl, rfl, rfl, rfl, rfl, rfl, rfl, rfl, rfl, rfl, rfl, trivial⟩ ?_
      replace h := Option.some.inj h; subst h
      exact ⟨rfl, (sub_wk [] [] [(4, .bool false)] [] (vcs := [((.bool false : AV) = .bool false : Prop)]) (by kernel_rfl) ⟨rfl, trivial⟩)⟩
  refine aw_ret (by kernel_rfl) ?_
  replace h := Option.some.inj h; subst h
  exact ⟨.inr rfl, Nat.le_of_ble_eq_true rfl, by kernel_rfl⟩

theorem lSums_ok (F : Nat) (b_1 : List (Int)) (r : Bool) (h : lSums F b_1 = some r) : Triple prog 4 [] [.sl false 1 (List.map (AV.int .u8) b_1)] [] (.bool r) := by
  refine triple_intro (fn := Go.Proofs.Try.f4) (code := codeOf Go.Proofs.Try.f4) (by kernel_rfl) (by kernel_rfl) (Nat.le_of_ble_eq_true (by kernel_rfl)) ?_
  unfold lSums at h
  refine aw_seq (by kernel_rfl) ?_
  refine aw_region [] [0] [] 0 (vcs := []) (vals := [.sl false 1 (List.map (AV.int .u8) b_1)]) (bxs := []) (by kernel_rfl) hmix trivial ?_
  refine aw_seq (by kernel_rfl) ?_
  refine aw_seq (by kernel_rfl) ?_
  refine aw_region [(1, { n := (b_1).length })] [0, 6] [] 0 (vcs := [((List.map (AV.int .u8) b_1)).length = (b_1).length]) (vals := [.sl false 1 (List.map (AV.int .u8) b_1), .bool (decide ((((b_1).length : Nat) : Int) > (600 : Int)))]) (bxs := []) (by kernel_rfl) hmix ⟨(vc_len _), trivial⟩ ?_
  refine aw_cond (t := 6) (b := (decide ((((b_1).length : Nat) : Int) > (600 : Int)))) (by kernel_rfl) (by kernel_rfl) ?_ ?_
  · intro g_1; replace h := cond_t g_1 h
    refine aw_seq (by kernel_rfl) ?_
    obtain ⟨r_1, h_1, h⟩ := bind_some h
    refine aw_region [(0, { av := .bool r_1, l := [] })] [2] [] 0 (vcs := [([] : List AV) = [], ([] : List BoxSt) = [], Triple prog 11 [] [] [] (.bool r_1)]) (vals := [.bool r_1]) (bxs := []) (by kernel_rfl) hmix ⟨rfl, rfl, (lives_ok F r_1 h_1), trivial⟩ ?_
    refine aw_ret (by kernel_rfl) ?_
    replace h := Option.some.inj h; subst h
    exact ⟨.inr rfl, Nat.le_of_ble_eq_true rfl, by kernel_rfl⟩
  intro g_1; replace h := cond_f g_1 h
  refine aw_skip (by kernel_rfl) ?_
  refine aw_seq (by kernel_rfl) ?_
  refine aw_region [(1, { s := b_1 })] [0, 3] [] 0 (vcs := [(List.map (AV.int .u8) b_1) = List.map (AV.int .u8) b_1]) (vals := [.sl false 1 (List.map (AV.int .u8) b_1), .str b_1]) (bxs := []) (by kernel_rfl) hmix ⟨rfl, trivial⟩ ?_
  refine aw_seq (by kernel_rfl) ?_
  obtain ⟨p_1, h_5, h⟩ := bind_some h
  refine aw_mid (mk [(2, .bool p_1)] [] 0) ?_ ?_
  · replace h := h_5
    obtain ⟨r_2, h_2, h⟩ := bind_some h
    obtain ⟨r_3, h_3, h⟩ := bind_some h
    rcases Bool.eq_false_or_eq_true (r_2 == r_3) with gg_1 | gg_1
    · replace h := cond_t gg_1 h
      rcases Bool.eq_false_or_eq_true (b_1 == b_1) with gg_2 | gg_2
      · replace h := cond_t gg_2 h
        obtain ⟨r_4, h_4, h⟩ := bind_some h
        refine aw_region [(1, { av := .int .i64 r_2, l := [.sl false 1 (List.map (AV.int .u8) b_1)] }), (4, { av := .int .i64 r_3, l := [.sl false 1 (List.map (AV.int .u8) b_1)] }), (8, { s := b_1 }), (11, { b := true }), (13, { av := .bool r_4, l := [] }), (14, { b := true })] [2] [] 0 (vcs := [([.sl false 1 (List.map (AV.int .u8) b_1)] : List AV) = [.sl false 1 (List.map (AV.int .u8) b_1)], ([] : List BoxSt) = [], Triple prog 16 [] [.sl false 1 (List.map (AV.int .u8) b_1)] [] (.int .i64 r_2), ([.sl false 1 (List.map (AV.int .u8) b_1)] : List AV) = [.sl false 1 (List.map (AV.int .u8) b_1)], ([] : List BoxSt) = [], Triple prog 17 [] [.sl false 1 (List.map (AV.int .u8) b_1)] [] (.int .i64 r_3), (r_2 == r_3) = true, (r_2 == r_3) = true, (List.map (AV.int .u8) b_1) = List.map (AV.int .u8) b_1, (r_2 == r_3) = true, (r_2 == r_3) = true, (r_2 == r_3) = true, (b_1 == b_1) = true, ([] : List AV) = [], ([] : List BoxSt) = [], Triple prog 11 [] [] [] (.bool r_4), (b_1 == b_1) = true]) (vals := [.bool r_4]) (bxs := []) (by kernel_rfl) hmix ⟨rfl, rfl, (cSum_ok F b_1 r_2 h_2), rfl, rfl, (rSum_ok F b_1 r_3 h_3), gg_1, gg_1, rfl, gg_1, gg_1, gg_1, gg_2, rfl, rfl, (lives_ok F r_4 h_4), gg_2, trivial⟩ ?_
        replace h := Option.some.inj h; subst h
        exact ⟨rfl, (sub_wk [] [] [(2, .bool r_4)] [] (vcs := [((.bool r_4 : AV) = .bool r_4 : Prop)]) (by kernel_rfl) ⟨rfl, trivial⟩)⟩
      · replace h := cond_f gg_2 h
        refine aw_region [(1, { av := .int .i64 r_2, l := [.sl false 1 (List.map (AV.int .u8) b_1)] }), (4, { av := .int .i64 r_3, l := [.sl false 1 (List.map (AV.int .u8) b_1)] }), (8, { s := b_1 }), (11, { b := true }), (13, { g := false }), (14, { b := false })] [2] [] 0 (vcs := [([.sl false 1 (List.map (AV.int .u8) b_1)] : List AV) = [.sl false 1 (List.map (AV.int .u8) b_1)], ([] : List BoxSt) = [], Triple prog 16 [] [.sl false 1 (List.map (AV.int .u8) b_1)] [] (.int .i64 r_2), ([.sl false 1 (List.map (AV.int .u8) b_1)] : List AV) = [.sl false 1 (List.map (AV.int .u8) b_1)], ([] : List BoxSt) = [], Triple prog 17 [] [.sl false 1 (List.map (AV.int .u8) b_1)] [] (.int .i64 r_3), (r_2 == r_3) = true, (r_2 == r_3) = true, (List.map (AV.int .u8) b_1) = List.map (AV.int .u8) b_1, (r_2 == r_3) = true, (r_2 == r_3) = true, (r_2 == r_3) = true, (b_1 == b_1) = !true, (b_1 == b_1) = false]) (vals := [.bool false]) (bxs := []) (by kernel_rfl) hmix ⟨rfl, rfl, (cSum_ok F b_1 r_2 h_2), rfl, rfl, (rSum_ok F b_1 r_3 h_3), gg_1, gg_1, rfl, gg_1, gg_1, gg_1, gg_2, gg_2, trivial⟩ ?_
        replace h := Option.some.inj h; subst h
        exact ⟨rfl, (sub_wk [] [] [(2, .bool false)] [] (vcs := [((.bool false : AV) = .bool false : Prop)]) (by kernel_rfl) ⟨rfl, trivial⟩)⟩
    · replace h := cond_f gg_1 h
      refine aw_region [(1, { av := .int .i64 r_2, l := [.sl false 1 (List.map (AV.int .u8) b_1)] }), (4, { av := .int .i64 r_3, l := [.sl false 1 (List.map (AV.int .u8) b_1)] }), (7, { g := false }), (8, { g := false }), (9, { g := false }), (10, { g := false }), (11, { b := false }), (13, { g := false }), (14, { b := false })] [2] [] 0 (vcs := [([.sl false 1 (List.map (AV.int .u8) b_1)] : List AV) = [.sl false 1 (List.map (AV.int .u8) b_1)], ([] : List BoxSt) = [], Triple prog 16 [] [.sl false 1 (List.map (AV.int .u8) b_1)] [] (.int .i64 r_2), ([.sl false 1 (List.map (AV.int .u8) b_1)] : List AV) = [.sl false 1 (List.map (AV.int .u8) b_1)], ([] : List BoxSt) = [], Triple prog 17 [] [.sl false 1 (List.map (AV.int .u8) b_1)] [] (.int .i64 r_3), (r_2 == r_3) = !true, (r_2 == r_3) = !true, (r_2 == r_3) = !true, (r_2 == r_3) = !true, (r_2 == r_3) = false, false = !true, false = false]) (vals := [.bool false]) (bxs := []) (by kernel_rfl) hmix ⟨rfl, rfl, (cSum_ok F b_1 r_2 h_2), rfl, rfl, (rSum_ok F b_1 r_3 h_3), gg_1, gg_1, gg_1, gg_1, gg_1, rfl, rfl, trivial⟩ ?_
      replace h := Option.some.inj h; subst h
      exact ⟨rfl, (sub_wk [] [] [(2, .bool false)] [] (vcs := [((.bool false : AV) = .bool false : Prop)]) (by kernel_rfl) ⟨rfl, trivial⟩)⟩
  refine aw_ret (by kernel_rfl) ?_
  replace h := Option.some.inj h; subst h
  exact ⟨.inr rfl, Nat.le_of_ble_eq_true rfl, by kernel_rfl⟩

theorem lChanges_ok (F : Nat) (a_1 : List (Int)) (a_2 : Int) (a_3 : Arr4_Int) (r : Bool) (h : lChanges F a_1 a_2 a_3 = some r) : Triple prog 5 [] [.sl false 1 (List.map (AV.int .u8) a_1), .int .i64 a_2, .agg [.int .u8 a_3.c0, .int .u8 a_3.c1, .int .u8 a_3.c2, .int .u8 a_3.c3]] [] (.bool r) := by
  refine triple_intro (fn := Go.Proofs.Try.f5) (code := codeOf Go.Proofs.Try.f5) (by kernel_rfl) (by kernel_rfl) (Nat.le_of_ble_eq_true (by kernel_rfl)) ?_
  unfold lChanges at h
  refine aw_seq (by kernel_rfl) ?_
  refine aw_region [(0, { b := true, id := 0 })] [0, 1, 5] [0] 1 (vcs := []) (vals := [.sl false 1 (List.map (AV.int .u8) a_1), .int .i64 a_2, .ptr 0 0 0 0]) (bxs := [.live (.row 32 1 (List.map (AV.int .u8) ([a_3.c0, a_3.c1, a_3.c2, a_3.c3] : List Int)))]) (by kernel_rfl) hmix trivial ?_
  refine aw_seq (by kernel_rfl) ?_
  refine aw_seq (by kernel_rfl) ?_
  refine aw_mid (mk [(0, .sl false 1 (List.map (AV.int .u8) a_1)), (1, .int .i64 a_2), (5, .ptr 0 0 0 0), (24, .bool (decide ((((a_1).length : Nat) : Int) > (300 : Int)) || (decide (a_2 < (0 : Int)) || decide (a_2 ≥ (((a_1).length : Nat) : Int)))))] [(0, .live (.row 32 1 (List.map (AV.int .u8) ([a_3.c0, a_3.c1, a_3.c2, a_3.c3] : List Int))))] 1) ?_ ?_
  · rcases Bool.eq_false_or_eq_true (decide ((((a_1).length : Nat) : Int) > (300 : Int))) with gg_1 | gg_1
    · refine aw_region [(1, { n := (a_1).length }), (4, { g := false }), (5, { g := false }), (6, { b := true }), (8, { g := false }), (9, { g := false }), (10, { g := false }), (11, { g := false }), (12, { b := true })] [0, 1, 5, 24] [0] 1 (vcs := [((List.map (AV.int .u8) a_1)).length = (a_1).length, (decide ((((a_1).length : Nat) : Int) > (300 : Int))) = !false, (decide ((((a_1).length : Nat) : Int) > (300 : Int))) = !false, (decide ((((a_1).length : Nat) : Int) > (300 : Int))) = true, true = !false, true = !false, true = !false, true = !false, true = true]) (vals := [.sl false 1 (List.map (AV.int .u8) a_1), .int .i64 a_2, .ptr 0 0 0 0, .bool true]) (bxs := [.live (.row 32 1 (List.map (AV.int .u8) ([a_3.c0, a_3.c1, a_3.c2, a_3.c3] : List Int)))]) (by kernel_rfl) hmix ⟨(vc_len _), gg_1, gg_1, gg_1, rfl, rfl, rfl, rfl, rfl, trivial⟩ ?_
      exact ⟨rfl, (sub_wk [0] [] [(0, .sl false 1 (List.map (AV.int .u8) a_1)), (1, .int .i64 a_2), (5, .ptr 0 0 0 0), (24, .bool (decide ((((a_1).length : Nat) : Int) > (300 : Int)) || (decide (a_2 < (0 : Int)) || decide (a_2 ≥ (((a_1).length : Nat) : Int)))))] [(0, .live (.row 32 1 (List.map (AV.int .u8) ([a_3.c0, a_3.c1, a_3.c2, a_3.c3] : List Int))))] (vcs := [(1 = 1 : Prop), ((List.map (AV.int .u8) a_1) = (List.map (AV.int .u8) a_1) : Prop), ((!false || false) = true : Prop), ((.int .i64 a_2 : AV) = .int .i64 a_2 : Prop), ((.ptr 0 0 0 0 : AV) = .ptr 0 0 0 0 : Prop), ((.bool true : AV) = .bool (decide ((((a_1).length : Nat) : Int) > (300 : Int)) || (decide (a_2 < (0 : Int)) || decide (a_2 ≥ (((a_1).length : Nat) : Int)))) : Prop), (32 = 32 : Prop), (1 = 1 : Prop), (((List.map (AV.int .u8) ([a_3.c0, a_3.c1, a_3.c2, a_3.c3] : List Int)) : List AV) = (List.map (AV.int .u8) ([a_3.c0, a_3.c1, a_3.c2, a_3.c3] : List Int)) : Prop)]) (by kernel_rfl) ⟨rfl, rfl, rfl, rfl, rfl, (congrArg AV.bool (ort gg_1)), rfl, rfl, rfl, trivial⟩)⟩
    · rcases Bool.eq_false_or_eq_true (decide (a_2 < (0 : Int))) with gg_2 | gg_2
      · refine aw_region [(1, { n := (a_1).length }), (6, { b := false }), (8, { g := false }), (9, { g := false }), (10, { g := false }), (11, { g := false }), (12, { b := true })] [0, 1, 5, 24] [0] 1 (vcs := [((List.map (AV.int .u8) a_1)).length = (a_1).length, (decide ((((a_1).length : Nat) : Int) > (300 : Int))) = false, (decide ((((a_1).length : Nat) : Int) > (300 : Int))) = false, (decide ((((a_1).length : Nat) : Int) > (300 : Int))) = false, (decide (a_2 < (0 : Int))) = !false, (decide (a_2 < (0 : Int))) = !false, (decide (a_2 < (0 : Int))) = !false, (decide (a_2 < (0 : Int))) = !false, (decide (a_2 < (0 : Int))) = true]) (vals := [.sl false 1 (List.map (AV.int .u8) a_1), .int .i64 a_2, .ptr 0 0 0 0, .bool true]) (bxs := [.live (.row 32 1 (List.map (AV.int .u8) ([a_3.c0, a_3.c1, a_3.c2, a_3.c3] : List Int)))]) (by kernel_rfl) hmix ⟨(vc_len _), gg_1, gg_1, gg_1, gg_2, gg_2, gg_2, gg_2, gg_2, trivial⟩ ?_
        exact ⟨rfl, (sub_wk [0] [] [(0, .sl false 1 (List.map (AV.int .u8) a_1)), (1, .int .i64 a_2), (5, .ptr 0 0 0 0), (24, .bool (decide ((((a_1).length : Nat) : Int) > (300 : Int)) || (decide (a_2 < (0 : Int)) || decide (a_2 ≥ (((a_1).length : Nat) : Int)))))] [(0, .live (.row 32 1 (List.map (AV.int .u8) ([a_3.c0, a_3.c1, a_3.c2, a_3.c3] : List Int))))] (vcs := [(1 = 1 : Prop), ((List.map (AV.int .u8) a_1) = (List.map (AV.int .u8) a_1) : Prop), ((!false || false) = true : Prop), ((.int .i64 a_2 : AV) = .int .i64 a_2 : Prop), ((.ptr 0 0 0 0 : AV) = .ptr 0 0 0 0 : Prop), ((.bool true : AV) = .bool (decide ((((a_1).length : Nat) : Int) > (300 : Int)) || (decide (a_2 < (0 : Int)) || decide (a_2 ≥ (((a_1).length : Nat) : Int)))) : Prop), (32 = 32 : Prop), (1 = 1 : Prop), (((List.map (AV.int .u8) ([a_3.c0, a_3.c1, a_3.c2, a_3.c3] : List Int)) : List AV) = (List.map (AV.int .u8) ([a_3.c0, a_3.c1, a_3.c2, a_3.c3] : List Int)) : Prop)]) (by kernel_rfl) ⟨rfl, rfl, rfl, rfl, rfl, (congrArg AV.bool (orf gg_1 (ort gg_2))), rfl, rfl, rfl, trivial⟩)⟩
      · refine aw_region [(1, { n := (a_1).length }), (6, { b := false }), (10, { n := (a_1).length }), (12, { b := false })] [0, 1, 5, 24] [0] 1 (vcs := [((List.map (AV.int .u8) a_1)).length = (a_1).length, (decide ((((a_1).length : Nat) : Int) > (300 : Int))) = false, (decide ((((a_1).length : Nat) : Int) > (300 : Int))) = false, (decide ((((a_1).length : Nat) : Int) > (300 : Int))) = false, (decide (a_2 < (0 : Int))) = false, (decide (a_2 < (0 : Int))) = false, (decide (a_2 < (0 : Int))) = false, ((List.map (AV.int .u8) a_1)).length = (a_1).length, (decide (a_2 < (0 : Int))) = false, (decide (a_2 < (0 : Int))) = false]) (vals := [.sl false 1 (List.map (AV.int .u8) a_1), .int .i64 a_2, .ptr 0 0 0 0, .bool (decide (a_2 ≥ (((a_1).length : Nat) : Int)))]) (bxs := [.live (.row 32 1 (List.map (AV.int .u8) ([a_3.c0, a_3.c1, a_3.c2, a_3.c3] : List Int)))]) (by kernel_rfl) hmix ⟨(vc_len _), gg_1, gg_1, gg_1, gg_2, gg_2, gg_2, (vc_len _), gg_2, gg_2, trivial⟩ ?_
        exact ⟨rfl, (sub_wk [0] [] [(0, .sl false 1 (List.map (AV.int .u8) a_1)), (1, .int .i64 a_2), (5, .ptr 0 0 0 0), (24, .bool (decide ((((a_1).length : Nat) : Int) > (300 : Int)) || (decide (a_2 < (0 : Int)) || decide (a_2 ≥ (((a_1).length : Nat) : Int)))))] [(0, .live (.row 32 1 (List.map (AV.int .u8) ([a_3.c0, a_3.c1, a_3.c2, a_3.c3] : List Int))))] (vcs := [(1 = 1 : Prop), ((List.map (AV.int .u8) a_1) = (List.map (AV.int .u8) a_1) : Prop), ((!false || false) = true : Prop), ((.int .i64 a_2 : AV) = .int .i64 a_2 : Prop), ((.ptr 0 0 0 0 : AV) = .ptr 0 0 0 0 : Prop), ((.bool (decide (a_2 ≥ (((a_1).length : Nat) : Int))) : AV) = .bool (decide ((((a_1).length : Nat) : Int) > (300 : Int)) || (decide (a_2 < (0 : Int)) || decide (a_2 ≥ (((a_1).length : Nat) : Int)))) : Prop), (32 = 32 : Prop), (1 = 1 : Prop), (((List.map (AV.int .u8) ([a_3.c0, a_3.c1, a_3.c2, a_3.c3] : List Int)) : List AV) = (List.map (AV.int .u8) ([a_3.c0, a_3.c1, a_3.c2, a_3.c3] : List Int)) : Prop)]) (by kernel_rfl) ⟨rfl, rfl, rfl, rfl, rfl, (congrArg AV.bool (orf gg_1 (orf gg_2 rfl))), rfl, rfl, rfl, trivial⟩)⟩
  refine aw_cond (t := 24) (b := (decide ((((a_1).length : Nat) : Int) > (300 : Int)) || (decide (a_2 < (0 : Int)) || decide (a_2 ≥ (((a_1).length : Nat) : Int))))) (by kernel_rfl) (by kernel_rfl) ?_ ?_
  · intro g_1; replace h := cond_t g_1 h
    refine aw_seq (by kernel_rfl) ?_
    obtain ⟨r_1, h_1, h⟩ := bind_some h
    refine aw_region [(0, { av := .bool r_1, l := [] })] [6] [] 1 (vcs := [([] : List AV) = [], ([] : List BoxSt) = [], Triple prog 11 [] [] [] (.bool r_1)]) (vals := [.bool r_1]) (bxs := []) (by kernel_rfl) hmix ⟨rfl, rfl, (lives_ok F r_1 h_1), trivial⟩ ?_
    refine aw_ret (by kernel_rfl) ?_
    replace h := Option.some.inj h; subst h
    exact ⟨.inr rfl, Nat.le_of_ble_eq_true rfl, by kernel_rfl⟩
  intro g_1; replace h := cond_f g_1 h
  refine aw_skip (by kernel_rfl) ?_
  refine aw_seq (by kernel_rfl) ?_
  obtain ⟨_, h_2, h⟩ := bind_some h; replace h_2 := need_some h_2
  refine aw_region [(0, { id := 1 }), (2, { id := 2, l := (List.map (AV.int .u8) ([] ++ a_1)), n := (([] ++ a_1)).length })] [0, 1, 5, 7] [0, 2] 3 (vcs := [0 = (([] : List AV)).length, True, (List.map (AV.int .u8) ([] ++ a_1)) = [] ++ (List.map (AV.int .u8) a_1), (([] ++ a_1)).length = ((List.map (AV.int .u8) ([] ++ a_1))).length, (([] : List AV).length + ((List.map (AV.int .u8) a_1) : List AV).length) * 1 ≤ 140737488355328]) (vals := [.sl false 1 (List.map (AV.int .u8) a_1), .int .i64 a_2, .ptr 0 0 0 0, .own 2 ((([] ++ a_1)).length)]) (bxs := [.live (.row 32 1 (List.map (AV.int .u8) ([a_3.c0, a_3.c1, a_3.c2, a_3.c3] : List Int))), .live (.row 5 1 (List.map (AV.int .u8) ([] ++ a_1)))]) (by kernel_rfl) hmix ⟨(by first | (simp; done) | (simp; omega)), trivial, (by simp), (by simp), (by simpa using h_2), trivial⟩ ?_
  refine aw_seq (by kernel_rfl) ?_
  refine aw_region [] [0, 1, 5, 7, 8] [0, 2] 3 (vcs := []) (vals := [.sl false 1 (List.map (AV.int .u8) a_1), .int .i64 a_2, .ptr 0 0 0 0, .own 2 ((([] ++ a_1)).length), .bool false]) (bxs := [.live (.row 32 1 (List.map (AV.int .u8) ([a_3.c0, a_3.c1, a_3.c2, a_3.c3] : List Int))), .live (.row 5 1 (List.map (AV.int .u8) ([] ++ a_1)))]) (by kernel_rfl) hmix trivial ?_
  refine aw_seq (by kernel_rfl) ?_
  refine aw_seq (by kernel_rfl) ?_
  refine aw_region [] [0, 1, 5, 7, 8, 9] [0, 2] 3 (vcs := []) (vals := [.sl false 1 (List.map (AV.int .u8) a_1), .int .i64 a_2, .ptr 0 0 0 0, .own 2 ((([] ++ a_1)).length), .bool false, .int .i64 (0 : Int)]) (bxs := [.live (.row 32 1 (List.map (AV.int .u8) ([a_3.c0, a_3.c1, a_3.c2, a_3.c3] : List Int))), .live (.row 5 1 (List.map (AV.int .u8) ([] ++ a_1)))]) (by kernel_rfl) hmix trivial ?_
  obtain ⟨o_1, h_3, h⟩ := bind_some h
  refine aw_mid (mk [(0, .sl false 1 (List.map (AV.int .u8) a_1)), (7, .own 0 ((o_1.2).length)), (8, .bool o_1.1)] [(0, .live (.row 5 1 (List.map (AV.int .u8) o_1.2)))] 1) ?_ ?_
  · replace h := h_3
    refine aw_block (id := 0) (by kernel_rfl) ?_
    refine aw_sub (sub_wk [0, 2] [] [(0, .sl false 1 (List.map (AV.int .u8) a_1)), (1, .int .i64 a_2), (5, .ptr 0 0 0 0), (7, .own 1 ((([] ++ a_1)).length)), (8, .bool false), (9, .int .i64 (0 : Int))] [(0, .live (.row 32 1 (List.map (AV.int .u8) ([a_3.c0, a_3.c1, a_3.c2, a_3.c3] : List Int)))), (1, .live (.row 5 1 (List.map (AV.int .u8) ([] ++ a_1))))] (vcs := [(1 = 1 : Prop), ((List.map (AV.int .u8) a_1) = (List.map (AV.int .u8) a_1) : Prop), ((!false || false) = true : Prop), ((.int .i64 a_2 : AV) = .int .i64 a_2 : Prop), ((.ptr 0 0 0 0 : AV) = .ptr 0 0 0 0 : Prop), ((.own 2 ((([] ++ a_1)).length) : AV) = .own 2 ((([] ++ a_1)).length) : Prop), ((.bool false : AV) = .bool false : Prop), ((.int .i64 (0 : Int) : AV) = .int .i64 (0 : Int) : Prop), (32 = 32 : Prop), (1 = 1 : Prop), (((List.map (AV.int .u8) ([a_3.c0, a_3.c1, a_3.c2, a_3.c3] : List Int)) : List AV) = (List.map (AV.int .u8) ([a_3.c0, a_3.c1, a_3.c2, a_3.c3] : List Int)) : Prop), (5 = 5 : Prop), (1 = 1 : Prop), (((List.map (AV.int .u8) ([] ++ a_1)) : List AV) = (List.map (AV.int .u8) ([] ++ a_1)) : Prop)]) (by kernel_rfl) ⟨rfl, rfl, rfl, rfl, rfl, rfl, rfl, rfl, rfl, rfl, rfl, rfl, rfl, rfl, trivial⟩) ?_
    refine aw_loopF (fun n st => ∃ (v_1 : Bool), ∃ (v_2 : Int), ∃ (row_1 : List Int), st = mk [(0, .sl false 1 (List.map (AV.int .u8) a_1)), (1, .int .i64 a_2), (5, .ptr 0 0 0 0), (7, .own 1 ((row_1).length)), (8, .bool v_1), (9, .int .i64 v_2)] [(0, .live (.row 32 1 (List.map (AV.int .u8) ([a_3.c0, a_3.c1, a_3.c2, a_3.c3] : List Int)))), (1, .live (.row 5 1 (List.map (AV.int .u8) row_1)))] 2 ∧ lChanges_L1 F a_1 a_2 a_3 n v_1 v_2 row_1 = some o_1) F (by kernel_rfl) ⟨_, _, _, rfl, h⟩ ?_ ?_
    · rintro _ ⟨_, _, _, _, h⟩; exact none_ne (h : (none : Option (Bool × (List Int))) = some o_1)
    rintro n_1 _ ⟨v_1, v_2, row_1, rfl, h⟩
    replace h : lChanges_L1_body F a_1 a_2 a_3 (lChanges_L1 F a_1 a_2 a_3 n_1) v_1 v_2 row_1 = some o_1 := h
    unfold lChanges_L1_body at h
    refine aw_seq (by kernel_rfl) ?_
    refine aw_seq (by kernel_rfl) ?_
    refine aw_mid (mk [(0, .sl false 1 (List.map (AV.int .u8) a_1)), (1, .int .i64 a_2), (5, .ptr 0 0 0 0), (7, .own 1 ((row_1).length)), (8, .bool v_1), (9, .int .i64 v_2), (38, .bool (decide (v_2 < (4 : Int)) && decide ((w_i64 (a_2 + v_2)) < (((a_1).length : Nat) : Int))))] [(0, .live (.row 32 1 (List.map (AV.int .u8) ([a_3.c0, a_3.c1, a_3.c2, a_3.c3] : List Int)))), (1, .live (.row 5 1 (List.map (AV.int .u8) row_1)))] 2) ?_ ?_
    · rcases Bool.eq_false_or_eq_true (decide (v_2 < (4 : Int))) with gg_8 | gg_8
      · refine aw_region [(7, { n := (a_1).length }), (9, { b := true })] [0, 1, 5, 7, 8, 9, 32, 33, 34, 35, 36, 37, 38] [0, 1] 2 (vcs := [(decide (v_2 < (4 : Int))) = true, (decide (v_2 < (4 : Int))) = true, (decide (v_2 < (4 : Int))) = true, (decide (v_2 < (4 : Int))) = true, (decide (v_2 < (4 : Int))) = true, ((List.map (AV.int .u8) a_1)).length = (a_1).length, (decide (v_2 < (4 : Int))) = true, (decide (v_2 < (4 : Int))) = true]) (vals := [.sl false 1 (List.map (AV.int .u8) a_1), .int .i64 a_2, .ptr 0 0 0 0, .own 1 ((row_1).length), .bool v_1, .int .i64 v_2, .int .i64 a_2, .int .i64 v_2, .int .i64 (w_i64 (a_2 + v_2)), .sl false 1 (List.map (AV.int .u8) a_1), .int .i64 (((a_1).length : Nat) : Int), .bool (decide ((w_i64 (a_2 + v_2)) < (((a_1).length : Nat) : Int))), .bool (decide ((w_i64 (a_2 + v_2)) < (((a_1).length : Nat) : Int)))]) (bxs := [.live (.row 32 1 (List.map (AV.int .u8) ([a_3.c0, a_3.c1, a_3.c2, a_3.c3] : List Int))), .live (.row 5 1 (List.map (AV.int .u8) row_1))]) (by kernel_rfl) hmix ⟨gg_8, gg_8, gg_8, gg_8, gg_8, (vc_len _), gg_8, gg_8, trivial⟩ ?_
        exact ⟨rfl, (sub_wk [0, 1] [] [(0, .sl false 1 (List.map (AV.int .u8) a_1)), (1, .int .i64 a_2), (5, .ptr 0 0 0 0), (7, .own 1 ((row_1).length)), (8, .bool v_1), (9, .int .i64 v_2), (38, .bool (decide (v_2 < (4 : Int)) && decide ((w_i64 (a_2 + v_2)) < (((a_1).length : Nat) : Int))))] [(0, .live (.row 32 1 (List.map (AV.int .u8) ([a_3.c0, a_3.c1, a_3.c2, a_3.c3] : List Int)))), (1, .live (.row 5 1 (List.map (AV.int .u8) row_1)))] (vcs := [(1 = 1 : Prop), ((List.map (AV.int .u8) a_1) = (List.map (AV.int .u8) a_1) : Prop), ((!false || false) = true : Prop), ((.int .i64 a_2 : AV) = .int .i64 a_2 : Prop), ((.ptr 0 0 0 0 : AV) = .ptr 0 0 0 0 : Prop), ((.own 1 ((row_1).length) : AV) = .own 1 ((row_1).length) : Prop), ((.bool v_1 : AV) = .bool v_1 : Prop), ((.int .i64 v_2 : AV) = .int .i64 v_2 : Prop), ((.bool (decide ((w_i64 (a_2 + v_2)) < (((a_1).length : Nat) : Int))) : AV) = .bool (decide (v_2 < (4 : Int)) && decide ((w_i64 (a_2 + v_2)) < (((a_1).length : Nat) : Int))) : Prop), (32 = 32 : Prop), (1 = 1 : Prop), (((List.map (AV.int .u8) ([a_3.c0, a_3.c1, a_3.c2, a_3.c3] : List Int)) : List AV) = (List.map (AV.int .u8) ([a_3.c0, a_3.c1, a_3.c2, a_3.c3] : List Int)) : Prop), (5 = 5 : Prop), (1 = 1 : Prop), (((List.map (AV.int .u8) row_1) : List AV) = (List.map (AV.int .u8) row_1) : Prop)]) (by kernel_rfl) ⟨rfl, rfl, rfl, rfl, rfl, rfl, rfl, rfl, (congrArg AV.bool (andt gg_8 rfl)), rfl, rfl, rfl, rfl, rfl, rfl, trivial⟩)⟩
      · refine aw_region [(3, { g := false }), (4, { g := false }), (5, { g := false }), (6, { g := false }), (7, { g := false }), (8, { g := false }), (9, { b := false })] [0, 1, 5, 7, 8, 9, 32, 33, 34, 35, 36, 37, 38] [0, 1] 2 (vcs := [(decide (v_2 < (4 : Int))) = !true, (decide (v_2 < (4 : Int))) = !true, (decide (v_2 < (4 : Int))) = !true, (decide (v_2 < (4 : Int))) = !true, (decide (v_2 < (4 : Int))) = !true, (decide (v_2 < (4 : Int))) = !true, (decide (v_2 < (4 : Int))) = false]) (vals := [.sl false 1 (List.map (AV.int .u8) a_1), .int .i64 a_2, .ptr 0 0 0 0, .own 1 ((row_1).length), .bool v_1, .int .i64 v_2, .tuple [], .tuple [], .tuple [], .tuple [], .tuple [], .tuple [], .bool false]) (bxs := [.live (.row 32 1 (List.map (AV.int .u8) ([a_3.c0, a_3.c1, a_3.c2, a_3.c3] : List Int))), .live (.row 5 1 (List.map (AV.int .u8) row_1))]) (by kernel_rfl) hmix ⟨gg_8, gg_8, gg_8, gg_8, gg_8, gg_8, gg_8, trivial⟩ ?_
        exact ⟨rfl, (sub_wk [0, 1] [] [(0, .sl false 1 (List.map (AV.int .u8) a_1)), (1, .int .i64 a_2), (5, .ptr 0 0 0 0), (7, .own 1 ((row_1).length)), (8, .bool v_1), (9, .int .i64 v_2), (38, .bool (decide (v_2 < (4 : Int)) && decide ((w_i64 (a_2 + v_2)) < (((a_1).length : Nat) : Int))))] [(0, .live (.row 32 1 (List.map (AV.int .u8) ([a_3.c0, a_3.c1, a_3.c2, a_3.c3] : List Int)))), (1, .live (.row 5 1 (List.map (AV.int .u8) row_1)))] (vcs := [(1 = 1 : Prop), ((List.map (AV.int .u8) a_1) = (List.map (AV.int .u8) a_1) : Prop), ((!false || false) = true : Prop), ((.int .i64 a_2 : AV) = .int .i64 a_2 : Prop), ((.ptr 0 0 0 0 : AV) = .ptr 0 0 0 0 : Prop), ((.own 1 ((row_1).length) : AV) = .own 1 ((row_1).length) : Prop), ((.bool v_1 : AV) = .bool v_1 : Prop), ((.int .i64 v_2 : AV) = .int .i64 v_2 : Prop), ((.bool false : AV) = .bool (decide (v_2 < (4 : Int)) && decide ((w_i64 (a_2 + v_2)) < (((a_1).length : Nat) : Int))) : Prop), (32 = 32 : Prop), (1 = 1 : Prop), (((List.map (AV.int .u8) ([a_3.c0, a_3.c1, a_3.c2, a_3.c3] : List Int)) : List AV) = (List.map (AV.int .u8) ([a_3.c0, a_3.c1, a_3.c2, a_3.c3] : List Int)) : Prop), (5 = 5 : Prop), (1 = 1 : Prop), (((List.map (AV.int .u8) row_1) : List AV) = (List.map (AV.int .u8) row_1) : Prop)]) (by kernel_rfl) ⟨rfl, rfl, rfl, rfl, rfl, rfl, rfl, rfl, (congrArg AV.bool (andf gg_8)), rfl, rfl, rfl, rfl, rfl, rfl, trivial⟩)⟩
    refine aw_cond (t := 38) (b := (decide (v_2 < (4 : Int)) && decide ((w_i64 (a_2 + v_2)) < (((a_1).length : Nat) : Int)))) (by kernel_rfl) (by kernel_rfl) ?_ ?_
    rotate_left
    · intro g_2; replace h := cond_f g_2 h
      refine aw_exit (id := 0) (by kernel_rfl) ?_
      replace h := Option.some.inj h; subst h
      exact ⟨rfl, (sub_wk [1] [] [(0, .sl false 1 (List.map (AV.int .u8) a_1)), (7, .own 0 ((row_1).length)), (8, .bool v_1)] [(0, .live (.row 5 1 (List.map (AV.int .u8) row_1)))] (vcs := [(1 = 1 : Prop), ((List.map (AV.int .u8) a_1) = (List.map (AV.int .u8) a_1) : Prop), ((!false || false) = true : Prop), ((.own 1 ((row_1).length) : AV) = .own 1 ((row_1).length) : Prop), ((.bool v_1 : AV) = .bool v_1 : Prop), (5 = 5 : Prop), (1 = 1 : Prop), (((List.map (AV.int .u8) row_1) : List AV) = (List.map (AV.int .u8) row_1) : Prop)]) (by kernel_rfl) ⟨rfl, rfl, rfl, rfl, rfl, rfl, rfl, rfl, trivial⟩)⟩
    intro g_2; replace h := cond_t g_2 h
    refine aw_skip (by kernel_rfl) ?_
    refine aw_seq (by kernel_rfl) ?_
    refine aw_block (id := 1) (by kernel_rfl) ?_
    refine aw_seq (by kernel_rfl) ?_
    obtain ⟨x_1, h_4, h⟩ := bind_some h
    obtain ⟨_, h_5, h⟩ := bind_some h; replace h_5 := need_some h_5
    obtain ⟨x_2, h_6, h⟩ := bind_some h
    obtain ⟨x_3, h_7, h⟩ := bind_some h
    refine aw_region [(8, { av := .int .u8 x_1 }), (11, { b := true }), (12, { av := .int .u8 x_2 }), (15, { av := .int .u8 x_3, l := (List.map (AV.int .u8) ((row_1).set ((w_i64 (a_2 + v_2)).toNat) (ixor .u8 x_1 x_2))) })] [0, 1, 5, 7, 8, 9] [0, 1] 2 (vcs := [idxA (List.map (AV.int .u8) a_1) (w_i64 (a_2 + v_2)) = some (.int .u8 x_1), (0 : Int) ≤ v_2, v_2 < ((4 : Nat) : Int), (List.map (AV.int .u8) ([a_3.c0, a_3.c1, a_3.c2, a_3.c3] : List Int))[(v_2).toNat]? = some (.int .u8 x_2), (0 : Int) ≤ (w_i64 (a_2 + v_2)), (w_i64 (a_2 + v_2)) < (((row_1).length : Nat) : Int), (List.map (AV.int .u8) row_1)[(w_i64 (a_2 + v_2)).toNat]? = some (.int .u8 x_3), (List.map (AV.int .u8) ((row_1).set ((w_i64 (a_2 + v_2)).toNat) (ixor .u8 x_1 x_2))) = List.set (List.map (AV.int .u8) row_1) ((w_i64 (a_2 + v_2)).toNat) (setElem (.int .u8 x_3) 0 [.int .u8 (ixor .u8 x_1 x_2)])]) (vals := [.sl false 1 (List.map (AV.int .u8) a_1), .int .i64 a_2, .ptr 0 0 0 0, .own 1 ((row_1).length), .bool v_1, .int .i64 v_2]) (bxs := [.live (.row 32 1 (List.map (AV.int .u8) ([a_3.c0, a_3.c1, a_3.c2, a_3.c3] : List Int))), .live (.row 5 1 (List.map (AV.int .u8) ((row_1).set ((w_i64 (a_2 + v_2)).toNat) (ixor .u8 x_1 x_2))))]) (by kernel_rfl) hmix ⟨(vc_idx h_4), h_5.1, h_5.2, (vc_getN h_6), (idxL_lo h_7), (by simpa using idxL_hi h_7), (vc_get h_7), (vc_set _ _ _), trivial⟩ ?_
    obtain ⟨p_1, h_10, h⟩ := bind_some h
    refine aw_mid (mk [(0, .sl false 1 (List.map (AV.int .u8) a_1)), (1, .int .i64 a_2), (5, .ptr 0 0 0 0), (7, .own 1 (((row_1).set ((w_i64 (a_2 + v_2)).toNat) (ixor .u8 x_1 x_2)).length)), (8, .bool p_1), (9, .int .i64 v_2)] [(0, .live (.row 32 1 (List.map (AV.int .u8) ([a_3.c0, a_3.c1, a_3.c2, a_3.c3] : List Int)))), (1, .live (.row 5 1 (List.map (AV.int .u8) ((row_1).set ((w_i64 (a_2 + v_2)).toNat) (ixor .u8 x_1 x_2)))))] 2) ?_ ?_
    · replace h := h_10
      rcases Bool.eq_false_or_eq_true v_1 with gg_9 | gg_9
      · replace h := cond_t gg_9 h
        refine aw_region [(2, { g := false }), (3, { g := false }), (4, { g := false }), (5, { g := false }), (6, { b := true })] [0, 1, 5, 7, 8, 9, 58, 59, 60, 61] [0, 1] 2 (vcs := [v_1 = !false, v_1 = !false, v_1 = !false, v_1 = !false, v_1 = true]) (vals := [.sl false 1 (List.map (AV.int .u8) a_1), .int .i64 a_2, .ptr 0 0 0 0, .own 1 ((row_1).length), .bool true, .int .i64 v_2, .tuple [], .tuple [], .tuple [], .tuple []]) (bxs := [.live (.row 32 1 (List.map (AV.int .u8) ([a_3.c0, a_3.c1, a_3.c2, a_3.c3] : List Int))), .live (.row 5 1 (List.map (AV.int .u8) ((row_1).set ((w_i64 (a_2 + v_2)).toNat) (ixor .u8 x_1 x_2))))]) (by kernel_rfl) hmix ⟨gg_9, gg_9, gg_9, gg_9, gg_9, trivial⟩ ?_
        replace h := Option.some.inj h; subst h
        exact ⟨rfl, (sub_wk [0, 1] [] [(0, .sl false 1 (List.map (AV.int .u8) a_1)), (1, .int .i64 a_2), (5, .ptr 0 0 0 0), (7, .own 1 (((row_1).set ((w_i64 (a_2 + v_2)).toNat) (ixor .u8 x_1 x_2)).length)), (8, .bool true), (9, .int .i64 v_2)] [(0, .live (.row 32 1 (List.map (AV.int .u8) ([a_3.c0, a_3.c1, a_3.c2, a_3.c3] : List Int)))), (1, .live (.row 5 1 (List.map (AV.int .u8) ((row_1).set ((w_i64 (a_2 + v_2)).toNat) (ixor .u8 x_1 x_2)))))] (vcs := [(1 = 1 : Prop), ((List.map (AV.int .u8) a_1) = (List.map (AV.int .u8) a_1) : Prop), ((!false || false) = true : Prop), ((.int .i64 a_2 : AV) = .int .i64 a_2 : Prop), ((.ptr 0 0 0 0 : AV) = .ptr 0 0 0 0 : Prop), ((.own 1 ((row_1).length) : AV) = .own 1 (((row_1).set ((w_i64 (a_2 + v_2)).toNat) (ixor .u8 x_1 x_2)).length) : Prop), ((.bool true : AV) = .bool true : Prop), ((.int .i64 v_2 : AV) = .int .i64 v_2 : Prop), (32 = 32 : Prop), (1 = 1 : Prop), (((List.map (AV.int .u8) ([a_3.c0, a_3.c1, a_3.c2, a_3.c3] : List Int)) : List AV) = (List.map (AV.int .u8) ([a_3.c0, a_3.c1, a_3.c2, a_3.c3] : List Int)) : Prop), (5 = 5 : Prop), (1 = 1 : Prop), (((List.map (AV.int .u8) ((row_1).set ((w_i64 (a_2 + v_2)).toNat) (ixor .u8 x_1 x_2))) : List AV) = (List.map (AV.int .u8) ((row_1).set ((w_i64 (a_2 + v_2)).toNat) (ixor .u8 x_1 x_2))) : Prop)]) (by kernel_rfl) ⟨rfl, rfl, rfl, rfl, rfl, (congrArg (AV.own _) (by first | (simp; done) | (simp; omega))), rfl, rfl, rfl, rfl, rfl, rfl, rfl, rfl, trivial⟩)⟩
      · replace h := cond_f gg_9 h
        obtain ⟨_, h_8, h⟩ := bind_some h; replace h_8 := need_some h_8
        obtain ⟨x_4, h_9, h⟩ := bind_some h
        refine aw_region [(3, { b := true }), (4, { av := .int .u8 x_4 }), (6, { b := false })] [0, 1, 5, 7, 8, 9, 58, 59, 60, 61] [0, 1] 2 (vcs := [v_1 = false, v_1 = false, (0 : Int) ≤ v_2, v_2 < ((4 : Nat) : Int), v_1 = false, (List.map (AV.int .u8) ([a_3.c0, a_3.c1, a_3.c2, a_3.c3] : List Int))[(v_2).toNat]? = some (.int .u8 x_4), v_1 = false, v_1 = false]) (vals := [.sl false 1 (List.map (AV.int .u8) a_1), .int .i64 a_2, .ptr 0 0 0 0, .own 1 ((row_1).length), .bool (x_4 != (0 : Int)), .int .i64 v_2, .int .i64 v_2, .ptr 0 1 ((v_2).toNat) 0, .int .u8 x_4, .bool (x_4 != (0 : Int))]) (bxs := [.live (.row 32 1 (List.map (AV.int .u8) ([a_3.c0, a_3.c1, a_3.c2, a_3.c3] : List Int))), .live (.row 5 1 (List.map (AV.int .u8) ((row_1).set ((w_i64 (a_2 + v_2)).toNat) (ixor .u8 x_1 x_2))))]) (by kernel_rfl) hmix ⟨gg_9, gg_9, h_8.1, h_8.2, gg_9, (vc_getN h_9), gg_9, gg_9, trivial⟩ ?_
        replace h := Option.some.inj h; subst h
        exact ⟨rfl, (sub_wk [0, 1] [] [(0, .sl false 1 (List.map (AV.int .u8) a_1)), (1, .int .i64 a_2), (5, .ptr 0 0 0 0), (7, .own 1 (((row_1).set ((w_i64 (a_2 + v_2)).toNat) (ixor .u8 x_1 x_2)).length)), (8, .bool (x_4 != (0 : Int))), (9, .int .i64 v_2)] [(0, .live (.row 32 1 (List.map (AV.int .u8) ([a_3.c0, a_3.c1, a_3.c2, a_3.c3] : List Int)))), (1, .live (.row 5 1 (List.map (AV.int .u8) ((row_1).set ((w_i64 (a_2 + v_2)).toNat) (ixor .u8 x_1 x_2)))))] (vcs := [(1 = 1 : Prop), ((List.map (AV.int .u8) a_1) = (List.map (AV.int .u8) a_1) : Prop), ((!false || false) = true : Prop), ((.int .i64 a_2 : AV) = .int .i64 a_2 : Prop), ((.ptr 0 0 0 0 : AV) = .ptr 0 0 0 0 : Prop), ((.own 1 ((row_1).length) : AV) = .own 1 (((row_1).set ((w_i64 (a_2 + v_2)).toNat) (ixor .u8 x_1 x_2)).length) : Prop), ((.bool (x_4 != (0 : Int)) : AV) = .bool (x_4 != (0 : Int)) : Prop), ((.int .i64 v_2 : AV) = .int .i64 v_2 : Prop), (32 = 32 : Prop), (1 = 1 : Prop), (((List.map (AV.int .u8) ([a_3.c0, a_3.c1, a_3.c2, a_3.c3] : List Int)) : List AV) = (List.map (AV.int .u8) ([a_3.c0, a_3.c1, a_3.c2, a_3.c3] : List Int)) : Prop), (5 = 5 : Prop), (1 = 1 : Prop), (((List.map (AV.int .u8) ((row_1).set ((w_i64 (a_2 + v_2)).toNat) (ixor .u8 x_1 x_2))) : List AV) = (List.map (AV.int .u8) ((row_1).set ((w_i64 (a_2 + v_2)).toNat) (ixor .u8 x_1 x_2))) : Prop)]) (by kernel_rfl) ⟨rfl, rfl, rfl, rfl, rfl, (congrArg (AV.own _) (by first | (simp; done) | (simp; omega))), rfl, rfl, rfl, rfl, rfl, rfl, rfl, rfl, trivial⟩)⟩
    refine aw_region [] [0, 1, 5, 7, 8, 9] [0, 1] 2 (vcs := []) (vals := [.sl false 1 (List.map (AV.int .u8) a_1), .int .i64 a_2, .ptr 0 0 0 0, .own 1 (((row_1).set ((w_i64 (a_2 + v_2)).toNat) (ixor .u8 x_1 x_2)).length), .bool p_1, .int .i64 (w_i64 (v_2 + (1 : Int)))]) (bxs := [.live (.row 32 1 (List.map (AV.int .u8) ([a_3.c0, a_3.c1, a_3.c2, a_3.c3] : List Int))), .live (.row 5 1 (List.map (AV.int .u8) ((row_1).set ((w_i64 (a_2 + v_2)).toNat) (ixor .u8 x_1 x_2))))]) (by kernel_rfl) hmix trivial ?_
    exact ⟨_, (sub_wk [0, 1] [] [(0, .sl false 1 (List.map (AV.int .u8) a_1)), (1, .int .i64 a_2), (5, .ptr 0 0 0 0), (7, .own 1 (((row_1).set ((w_i64 (a_2 + v_2)).toNat) (ixor .u8 x_1 x_2)).length)), (8, .bool p_1), (9, .int .i64 (w_i64 (v_2 + (1 : Int))))] [(0, .live (.row 32 1 (List.map (AV.int .u8) ([a_3.c0, a_3.c1, a_3.c2, a_3.c3] : List Int)))), (1, .live (.row 5 1 (List.map (AV.int .u8) ((row_1).set ((w_i64 (a_2 + v_2)).toNat) (ixor .u8 x_1 x_2)))))] (vcs := [(1 = 1 : Prop), ((List.map (AV.int .u8) a_1) = (List.map (AV.int .u8) a_1) : Prop), ((!false || false) = true : Prop), ((.int .i64 a_2 : AV) = .int .i64 a_2 : Prop), ((.ptr 0 0 0 0 : AV) = .ptr 0 0 0 0 : Prop), ((.own 1 (((row_1).set ((w_i64 (a_2 + v_2)).toNat) (ixor .u8 x_1 x_2)).length) : AV) = .own 1 (((row_1).set ((w_i64 (a_2 + v_2)).toNat) (ixor .u8 x_1 x_2)).length) : Prop), ((.bool p_1 : AV) = .bool p_1 : Prop), ((.int .i64 (w_i64 (v_2 + (1 : Int))) : AV) = .int .i64 (w_i64 (v_2 + (1 : Int))) : Prop), (32 = 32 : Prop), (1 = 1 : Prop), (((List.map (AV.int .u8) ([a_3.c0, a_3.c1, a_3.c2, a_3.c3] : List Int)) : List AV) = (List.map (AV.int .u8) ([a_3.c0, a_3.c1, a_3.c2, a_3.c3] : List Int)) : Prop), (5 = 5 : Prop), (1 = 1 : Prop), (((List.map (AV.int .u8) ((row_1).set ((w_i64 (a_2 + v_2)).toNat) (ixor .u8 x_1 x_2))) : List AV) = (List.map (AV.int .u8) ((row_1).set ((w_i64 (a_2 + v_2)).toNat) (ixor .u8 x_1 x_2))) : Prop)]) (by kernel_rfl) ⟨rfl, rfl, rfl, rfl, rfl, rfl, rfl, rfl, rfl, rfl, rfl, rfl, rfl, rfl, trivial⟩), _, _, _, rfl, h⟩
  refine aw_seq (by kernel_rfl) ?_
  obtain ⟨r_2, h_11, h⟩ := bind_some h
  obtain ⟨r_3, h_12, h⟩ := bind_some h
  refine aw_region [(1, { av := .int .i64 r_2, l := [.sl false 1 (List.map (AV.int .u8) a_1)] }), (3, { av := .int .i64 r_3, frz := [0], l := [.sl false 1 (List.map (AV.int .u8) o_1.2)] })] [8, 10, 11] [] 1 (vcs := [([.sl false 1 (List.map (AV.int .u8) a_1)] : List AV) = [.sl false 1 (List.map (AV.int .u8) a_1)], ([] : List BoxSt) = [], Triple prog 16 [] [.sl false 1 (List.map (AV.int .u8) a_1)] [] (.int .i64 r_2), (o_1.2).length = ((List.map (AV.int .u8) o_1.2)).length, ([.sl false 1 (List.map (AV.int .u8) o_1.2)] : List AV) = [.sl false 1 (List.map (AV.int .u8) o_1.2)], ([] : List BoxSt) = [], Triple prog 16 [] [.sl false 1 (List.map (AV.int .u8) o_1.2)] [] (.int .i64 r_3)]) (vals := [.bool o_1.1, .int .i64 r_2, .int .i64 r_3]) (bxs := []) (by kernel_rfl) hmix ⟨rfl, rfl, (cSum_ok F a_1 r_2 h_11), (by first | (simp; done) | (simp; omega)), rfl, rfl, (cSum_ok F o_1.2 r_3 h_12), trivial⟩ ?_
  refine aw_seq (by kernel_rfl) ?_
  obtain ⟨p_2, h_14, h⟩ := bind_some h
  refine aw_mid (mk [(6, .bool p_2)] [] 0) ?_ ?_
  · replace h := h_14
    rcases Bool.eq_false_or_eq_true ((r_2 != r_3) == o_1.1) with gg_10 | gg_10
    · replace h := cond_t gg_10 h
      rcases Bool.eq_false_or_eq_true (decide (r_2 ≥ (0 : Int))) with gg_11 | gg_11
      · replace h := cond_t gg_11 h
        rcases Bool.eq_false_or_eq_true (decide (r_2 < (4294967296 : Int))) with gg_12 | gg_12
        · replace h := cond_t gg_12 h
          obtain ⟨r_4, h_13, h⟩ := bind_some h
          refine aw_region [(8, { b := true }), (12, { b := true }), (14, { av := .bool r_4, l := [] }), (15, { b := true })] [6] [] 1 (vcs := [((r_2 != r_3) == o_1.1) = true, ((r_2 != r_3) == o_1.1) = true, ((r_2 != r_3) == o_1.1) = true, (decide (r_2 ≥ (0 : Int))) = true, (decide (r_2 ≥ (0 : Int))) = true, (decide (r_2 ≥ (0 : Int))) = true, (decide (r_2 < (4294967296 : Int))) = true, ([] : List AV) = [], ([] : List BoxSt) = [], Triple prog 11 [] [] [] (.bool r_4), (decide (r_2 < (4294967296 : Int))) = true]) (vals := [.bool r_4]) (bxs := []) (by kernel_rfl) hmix ⟨gg_10, gg_10, gg_10, gg_11, gg_11, gg_11, gg_12, rfl, rfl, (lives_ok F r_4 h_13), gg_12, trivial⟩ ?_
          replace h := Option.some.inj h; subst h
          exact ⟨rfl, (sub_wk [] [] [(6, .bool r_4)] [] (vcs := [((.bool r_4 : AV) = .bool r_4 : Prop)]) (by kernel_rfl) ⟨rfl, trivial⟩)⟩
        · replace h := cond_f gg_12 h
          refine aw_region [(8, { b := true }), (12, { b := true }), (14, { g := false }), (15, { b := false })] [6] [] 1 (vcs := [((r_2 != r_3) == o_1.1) = true, ((r_2 != r_3) == o_1.1) = true, ((r_2 != r_3) == o_1.1) = true, (decide (r_2 ≥ (0 : Int))) = true, (decide (r_2 ≥ (0 : Int))) = true, (decide (r_2 ≥ (0 : Int))) = true, (decide (r_2 < (4294967296 : Int))) = !true, (decide (r_2 < (4294967296 : Int))) = false]) (vals := [.bool false]) (bxs := []) (by kernel_rfl) hmix ⟨gg_10, gg_10, gg_10, gg_11, gg_11, gg_11, gg_12, gg_12, trivial⟩ ?_
          replace h := Option.some.inj h; subst h
          exact ⟨rfl, (sub_wk [] [] [(6, .bool false)] [] (vcs := [((.bool false : AV) = .bool false : Prop)]) (by kernel_rfl) ⟨rfl, trivial⟩)⟩
      · replace h := cond_f gg_11 h
        refine aw_region [(8, { b := true }), (10, { g := false }), (11, { g := false }), (12, { b := false }), (14, { g := false }), (15, { b := false })] [6] [] 1 (vcs := [((r_2 != r_3) == o_1.1) = true, ((r_2 != r_3) == o_1.1) = true, ((r_2 != r_3) == o_1.1) = true, (decide (r_2 ≥ (0 : Int))) = !true, (decide (r_2 ≥ (0 : Int))) = !true, (decide (r_2 ≥ (0 : Int))) = false, false = !true, false = false]) (vals := [.bool false]) (bxs := []) (by kernel_rfl) hmix ⟨gg_10, gg_10, gg_10, gg_11, gg_11, gg_11, rfl, rfl, trivial⟩ ?_
        replace h := Option.some.inj h; subst h
        exact ⟨rfl, (sub_wk [] [] [(6, .bool false)] [] (vcs := [((.bool false : AV) = .bool false : Prop)]) (by kernel_rfl) ⟨rfl, trivial⟩)⟩
    · replace h := cond_f gg_10 h
      refine aw_region [(6, { g := false }), (7, { g := false }), (8, { b := false }), (10, { g := false }), (11, { g := false }), (12, { b := false }), (14, { g := false }), (15, { b := false })] [6] [] 1 (vcs := [((r_2 != r_3) == o_1.1) = !true, ((r_2 != r_3) == o_1.1) = !true, ((r_2 != r_3) == o_1.1) = false, false = !true, false = !true, false = false, false = !true, false = false]) (vals := [.bool false]) (bxs := []) (by kernel_rfl) hmix ⟨gg_10, gg_10, gg_10, rfl, rfl, rfl, rfl, rfl, trivial⟩ ?_
      replace h := Option.some.inj h; subst h
      exact ⟨rfl, (sub_wk [] [] [(6, .bool false)] [] (vcs := [((.bool false : AV) = .bool false : Prop)]) (by kernel_rfl) ⟨rfl, trivial⟩)⟩
  refine aw_ret (by kernel_rfl) ?_
  replace h := Option.some.inj h; subst h
  exact ⟨.inr rfl, Nat.le_of_ble_eq_true rfl, by kernel_rfl⟩

theorem lLinear_ok (F : Nat) (a_1 : List (Int)) (a_2 : List (Int)) (a_3 : List (Int)) (r : Bool) (h : lLinear F a_1 a_2 a_3 = some r) : Triple prog 6 [] [.sl false 1 (List.map (AV.int .u8) a_1), .sl false 1 (List.map (AV.int .u8) a_2), .sl false 1 (List.map (AV.int .u8) a_3)] [] (.bool r) := by
  refine triple_intro (fn := Go.Proofs.Try.f6) (code := codeOf Go.Proofs.Try.f6) (by kernel_rfl) (by kernel_rfl) (Nat.le_of_ble_eq_true (by kernel_rfl)) ?_
  unfold lLinear at h
  refine aw_seq (by kernel_rfl) ?_
  refine aw_region [] [0, 1, 2] [] 0 (vcs := []) (vals := [.sl false 1 (List.map (AV.int .u8) a_1), .sl false 1 (List.map (AV.int .u8) a_2), .sl false 1 (List.map (AV.int .u8) a_3)]) (bxs := []) (by kernel_rfl) hmix trivial ?_
  refine aw_seq (by kernel_rfl) ?_
  refine aw_seq (by kernel_rfl) ?_
  refine aw_mid (mk [(0, .sl false 1 (List.map (AV.int .u8) a_1)), (1, .sl false 1 (List.map (AV.int .u8) a_2)), (2, .sl false 1 (List.map (AV.int .u8) a_3)), (25, .bool (decide ((((a_1).length : Nat) : Int) > (300 : Int)) || (decide ((((a_2).length : Nat) : Int) < (((a_1).length : Nat) : Int)) || decide ((((a_3).length : Nat) : Int) < (((a_1).length : Nat) : Int)))))] [] 0) ?_ ?_
  · rcases Bool.eq_false_or_eq_true (decide ((((a_1).length : Nat) : Int) > (300 : Int))) with gg_1 | gg_1
    · refine aw_region [(1, { n := (a_1).length }), (4, { g := false }), (5, { g := false }), (6, { g := false }), (7, { g := false }), (8, { g := false }), (9, { b := true }), (11, { g := false }), (12, { g := false }), (13, { g := false }), (14, { g := false }), (15, { g := false }), (16, { b := true })] [0, 1, 2, 25] [] 0 (vcs := [((List.map (AV.int .u8) a_1)).length = (a_1).length, (decide ((((a_1).length : Nat) : Int) > (300 : Int))) = !false, (decide ((((a_1).length : Nat) : Int) > (300 : Int))) = !false, (decide ((((a_1).length : Nat) : Int) > (300 : Int))) = !false, (decide ((((a_1).length : Nat) : Int) > (300 : Int))) = !false, (decide ((((a_1).length : Nat) : Int) > (300 : Int))) = !false, (decide ((((a_1).length : Nat) : Int) > (300 : Int))) = true, true = !false, true = !false, true = !false, true = !false, true = !false, true = true]) (vals := [.sl false 1 (List.map (AV.int .u8) a_1), .sl false 1 (List.map (AV.int .u8) a_2), .sl false 1 (List.map (AV.int .u8) a_3), .bool true]) (bxs := []) (by kernel_rfl) hmix ⟨(vc_len _), gg_1, gg_1, gg_1, gg_1, gg_1, gg_1, rfl, rfl, rfl, rfl, rfl, rfl, trivial⟩ ?_
      exact ⟨rfl, (sub_wk [] [] [(0, .sl false 1 (List.map (AV.int .u8) a_1)), (1, .sl false 1 (List.map (AV.int .u8) a_2)), (2, .sl false 1 (List.map (AV.int .u8) a_3)), (25, .bool (decide ((((a_1).length : Nat) : Int) > (300 : Int)) || (decide ((((a_2).length : Nat) : Int) < (((a_1).length : Nat) : Int)) || decide ((((a_3).length : Nat) : Int) < (((a_1).length : Nat) : Int)))))] [] (vcs := [(1 = 1 : Prop), ((List.map (AV.int .u8) a_1) = (List.map (AV.int .u8) a_1) : Prop), ((!false || false) = true : Prop), (1 = 1 : Prop), ((List.map (AV.int .u8) a_2) = (List.map (AV.int .u8) a_2) : Prop), ((!false || false) = true : Prop), (1 = 1 : Prop), ((List.map (AV.int .u8) a_3) = (List.map (AV.int .u8) a_3) : Prop), ((!false || false) = true : Prop), ((.bool true : AV) = .bool (decide ((((a_1).length : Nat) : Int) > (300 : Int)) || (decide ((((a_2).length : Nat) : Int) < (((a_1).length : Nat) : Int)) || decide ((((a_3).length : Nat) : Int) < (((a_1).length : Nat) : Int)))) : Prop)]) (by kernel_rfl) ⟨rfl, rfl, rfl, rfl, rfl, rfl, rfl, rfl, rfl, (congrArg AV.bool (ort gg_1)), trivial⟩)⟩
    · rcases Bool.eq_false_or_eq_true (decide ((((a_2).length : Nat) : Int) < (((a_1).length : Nat) : Int))) with gg_2 | gg_2
      · refine aw_region [(1, { n := (a_1).length }), (5, { n := (a_2).length }), (7, { n := (a_1).length }), (9, { b := false }), (11, { g := false }), (12, { g := false }), (13, { g := false }), (14, { g := false }), (15, { g := false }), (16, { b := true })] [0, 1, 2, 25] [] 0 (vcs := [((List.map (AV.int .u8) a_1)).length = (a_1).length, (decide ((((a_1).length : Nat) : Int) > (300 : Int))) = false, (decide ((((a_1).length : Nat) : Int) > (300 : Int))) = false, ((List.map (AV.int .u8) a_2)).length = (a_2).length, (decide ((((a_1).length : Nat) : Int) > (300 : Int))) = false, (decide ((((a_1).length : Nat) : Int) > (300 : Int))) = false, ((List.map (AV.int .u8) a_1)).length = (a_1).length, (decide ((((a_1).length : Nat) : Int) > (300 : Int))) = false, (decide ((((a_1).length : Nat) : Int) > (300 : Int))) = false, (decide ((((a_2).length : Nat) : Int) < (((a_1).length : Nat) : Int))) = !false, (decide ((((a_2).length : Nat) : Int) < (((a_1).length : Nat) : Int))) = !false, (decide ((((a_2).length : Nat) : Int) < (((a_1).length : Nat) : Int))) = !false, (decide ((((a_2).length : Nat) : Int) < (((a_1).length : Nat) : Int))) = !false, (decide ((((a_2).length : Nat) : Int) < (((a_1).length : Nat) : Int))) = !false, (decide ((((a_2).length : Nat) : Int) < (((a_1).length : Nat) : Int))) = true]) (vals := [.sl false 1 (List.map (AV.int .u8) a_1), .sl false 1 (List.map (AV.int .u8) a_2), .sl false 1 (List.map (AV.int .u8) a_3), .bool true]) (bxs := []) (by kernel_rfl) hmix ⟨(vc_len _), gg_1, gg_1, (vc_len _), gg_1, gg_1, (vc_len _), gg_1, gg_1, gg_2, gg_2, gg_2, gg_2, gg_2, gg_2, trivial⟩ ?_
        exact ⟨rfl, (sub_wk [] [] [(0, .sl false 1 (List.map (AV.int .u8) a_1)), (1, .sl false 1 (List.map (AV.int .u8) a_2)), (2, .sl false 1 (List.map (AV.int .u8) a_3)), (25, .bool (decide ((((a_1).length : Nat) : Int) > (300 : Int)) || (decide ((((a_2).length : Nat) : Int) < (((a_1).length : Nat) : Int)) || decide ((((a_3).length : Nat) : Int) < (((a_1).length : Nat) : Int)))))] [] (vcs := [(1 = 1 : Prop), ((List.map (AV.int .u8) a_1) = (List.map (AV.int .u8) a_1) : Prop), ((!false || false) = true : Prop), (1 = 1 : Prop), ((List.map (AV.int .u8) a_2) = (List.map (AV.int .u8) a_2) : Prop), ((!false || false) = true : Prop), (1 = 1 : Prop), ((List.map (AV.int .u8) a_3) = (List.map (AV.int .u8) a_3) : Prop), ((!false || false) = true : Prop), ((.bool true : AV) = .bool (decide ((((a_1).length : Nat) : Int) > (300 : Int)) || (decide ((((a_2).length : Nat) : Int) < (((a_1).length : Nat) : Int)) || decide ((((a_3).length : Nat) : Int) < (((a_1).length : Nat) : Int)))) : Prop)]) (by kernel_rfl) ⟨rfl, rfl, rfl, rfl, rfl, rfl, rfl, rfl, rfl, (congrArg AV.bool (orf gg_1 (ort gg_2))), trivial⟩)⟩
      · refine aw_region [(1, { n := (a_1).length }), (5, { n := (a_2).length }), (7, { n := (a_1).length }), (9, { b := false }), (12, { n := (a_3).length }), (14, { n := (a_1).length }), (16, { b := false })] [0, 1, 2, 25] [] 0 (vcs := [((List.map (AV.int .u8) a_1)).length = (a_1).length, (decide ((((a_1).length : Nat) : Int) > (300 : Int))) = false, (decide ((((a_1).length : Nat) : Int) > (300 : Int))) = false, ((List.map (AV.int .u8) a_2)).length = (a_2).length, (decide ((((a_1).length : Nat) : Int) > (300 : Int))) = false, (decide ((((a_1).length : Nat) : Int) > (300 : Int))) = false, ((List.map (AV.int .u8) a_1)).length = (a_1).length, (decide ((((a_1).length : Nat) : Int) > (300 : Int))) = false, (decide ((((a_1).length : Nat) : Int) > (300 : Int))) = false, (decide ((((a_2).length : Nat) : Int) < (((a_1).length : Nat) : Int))) = false, (decide ((((a_2).length : Nat) : Int) < (((a_1).length : Nat) : Int))) = false, ((List.map (AV.int .u8) a_3)).length = (a_3).length, (decide ((((a_2).length : Nat) : Int) < (((a_1).length : Nat) : Int))) = false, (decide ((((a_2).length : Nat) : Int) < (((a_1).length : Nat) : Int))) = false, ((List.map (AV.int .u8) a_1)).length = (a_1).length, (decide ((((a_2).length : Nat) : Int) < (((a_1).length : Nat) : Int))) = false, (decide ((((a_2).length : Nat) : Int) < (((a_1).length : Nat) : Int))) = false]) (vals := [.sl false 1 (List.map (AV.int .u8) a_1), .sl false 1 (List.map (AV.int .u8) a_2), .sl false 1 (List.map (AV.int .u8) a_3), .bool (decide ((((a_3).length : Nat) : Int) < (((a_1).length : Nat) : Int)))]) (bxs := []) (by kernel_rfl) hmix ⟨(vc_len _), gg_1, gg_1, (vc_len _), gg_1, gg_1, (vc_len _), gg_1, gg_1, gg_2, gg_2, (vc_len _), gg_2, gg_2, (vc_len _), gg_2, gg_2, trivial⟩ ?_
        exact ⟨rfl, (sub_wk [] [] [(0, .sl false 1 (List.map (AV.int .u8) a_1)), (1, .sl false 1 (List.map (AV.int .u8) a_2)), (2, .sl false 1 (List.map (AV.int .u8) a_3)), (25, .bool (decide ((((a_1).length : Nat) : Int) > (300 : Int)) || (decide ((((a_2).length : Nat) : Int) < (((a_1).length : Nat) : Int)) || decide ((((a_3).length : Nat) : Int) < (((a_1).length : Nat) : Int)))))] [] (vcs := [(1 = 1 : Prop), ((List.map (AV.int .u8) a_1) = (List.map (AV.int .u8) a_1) : Prop), ((!false || false) = true : Prop), (1 = 1 : Prop), ((List.map (AV.int .u8) a_2) = (List.map (AV.int .u8) a_2) : Prop), ((!false || false) = true : Prop), (1 = 1 : Prop), ((List.map (AV.int .u8) a_3) = (List.map (AV.int .u8) a_3) : Prop), ((!false || false) = true : Prop), ((.bool (decide ((((a_3).length : Nat) : Int) < (((a_1).length : Nat) : Int))) : AV) = .bool (decide ((((a_1).length : Nat) : Int) > (300 : Int)) || (decide ((((a_2).length : Nat) : Int) < (((a_1).length : Nat) : Int)) || decide ((((a_3).length : Nat) : Int) < (((a_1).length : Nat) : Int)))) : Prop)]) (by kernel_rfl) ⟨rfl, rfl, rfl, rfl, rfl, rfl, rfl, rfl, rfl, (congrArg AV.bool (orf gg_1 (orf gg_2 rfl))), trivial⟩)⟩
  refine aw_cond (t := 25) (b := (decide ((((a_1).length : Nat) : Int) > (300 : Int)) || (decide ((((a_2).length : Nat) : Int) < (((a_1).length : Nat) : Int)) || decide ((((a_3).length : Nat) : Int) < (((a_1).length : Nat) : Int))))) (by kernel_rfl) (by kernel_rfl) ?_ ?_
  · intro g_1; replace h := cond_t g_1 h
    refine aw_seq (by kernel_rfl) ?_
    obtain ⟨r_1, h_1, h⟩ := bind_some h
    refine aw_region [(0, { av := .bool r_1, l := [] })] [6] [] 0 (vcs := [([] : List AV) = [], ([] : List BoxSt) = [], Triple prog 11 [] [] [] (.bool r_1)]) (vals := [.bool r_1]) (bxs := []) (by kernel_rfl) hmix ⟨rfl, rfl, (lives_ok F r_1 h_1), trivial⟩ ?_
    refine aw_ret (by kernel_rfl) ?_
    replace h := Option.some.inj h; subst h
    exact ⟨.inr rfl, Nat.le_of_ble_eq_true rfl, by kernel_rfl⟩
  intro g_1; replace h := cond_f g_1 h
  refine aw_skip (by kernel_rfl) ?_
  refine aw_seq (by kernel_rfl) ?_
  obtain ⟨_, h_2, h⟩ := bind_some h; replace h_2 := need_some h_2
  refine aw_region [(0, { id := 0 }), (2, { id := 1, l := (List.map (AV.int .u8) ([] ++ a_1)), n := (([] ++ a_1)).length })] [0, 1, 2, 7] [1] 2 (vcs := [0 = (([] : List AV)).length, True, (List.map (AV.int .u8) ([] ++ a_1)) = [] ++ (List.map (AV.int .u8) a_1), (([] ++ a_1)).length = ((List.map (AV.int .u8) ([] ++ a_1))).length, (([] : List AV).length + ((List.map (AV.int .u8) a_1) : List AV).length) * 1 ≤ 140737488355328]) (vals := [.sl false 1 (List.map (AV.int .u8) a_1), .sl false 1 (List.map (AV.int .u8) a_2), .sl false 1 (List.map (AV.int .u8) a_3), .own 1 ((([] ++ a_1)).length)]) (bxs := [.live (.row 5 1 (List.map (AV.int .u8) ([] ++ a_1)))]) (by kernel_rfl) hmix ⟨(by first | (simp; done) | (simp; omega)), trivial, (by simp), (by simp), (by simpa using h_2), trivial⟩ ?_
  refine aw_seq (by kernel_rfl) ?_
  refine aw_seq (by kernel_rfl) ?_
  refine aw_region [] [0, 1, 2, 7, 8] [1] 2 (vcs := []) (vals := [.sl false 1 (List.map (AV.int .u8) a_1), .sl false 1 (List.map (AV.int .u8) a_2), .sl false 1 (List.map (AV.int .u8) a_3), .own 1 ((([] ++ a_1)).length), .int .i64 (0 : Int)]) (bxs := [.live (.row 5 1 (List.map (AV.int .u8) ([] ++ a_1)))]) (by kernel_rfl) hmix trivial ?_
  obtain ⟨o_1, h_3, h⟩ := bind_some h
  refine aw_mid (mk [(0, .sl false 1 (List.map (AV.int .u8) a_1)), (1, .sl false 1 (List.map (AV.int .u8) a_2)), (2, .sl false 1 (List.map (AV.int .u8) a_3)), (7, .own 0 ((o_1).length))] [(0, .live (.row 5 1 (List.map (AV.int .u8) o_1)))] 1) ?_ ?_
  · replace h := h_3
    refine aw_block (id := 0) (by kernel_rfl) ?_
    refine aw_sub (sub_wk [1] [] [(0, .sl false 1 (List.map (AV.int .u8) a_1)), (1, .sl false 1 (List.map (AV.int .u8) a_2)), (2, .sl false 1 (List.map (AV.int .u8) a_3)), (7, .own 0 ((([] ++ a_1)).length)), (8, .int .i64 (0 : Int))] [(0, .live (.row 5 1 (List.map (AV.int .u8) ([] ++ a_1))))] (vcs := [(1 = 1 : Prop), ((List.map (AV.int .u8) a_1) = (List.map (AV.int .u8) a_1) : Prop), ((!false || false) = true : Prop), (1 = 1 : Prop), ((List.map (AV.int .u8) a_2) = (List.map (AV.int .u8) a_2) : Prop), ((!false || false) = true : Prop), (1 = 1 : Prop), ((List.map (AV.int .u8) a_3) = (List.map (AV.int .u8) a_3) : Prop), ((!false || false) = true : Prop), ((.own 1 ((([] ++ a_1)).length) : AV) = .own 1 ((([] ++ a_1)).length) : Prop), ((.int .i64 (0 : Int) : AV) = .int .i64 (0 : Int) : Prop), (5 = 5 : Prop), (1 = 1 : Prop), (((List.map (AV.int .u8) ([] ++ a_1)) : List AV) = (List.map (AV.int .u8) ([] ++ a_1)) : Prop)]) (by kernel_rfl) ⟨rfl, rfl, rfl, rfl, rfl, rfl, rfl, rfl, rfl, rfl, rfl, rfl, rfl, rfl, trivial⟩) ?_
    refine aw_loopF (fun n st => ∃ (v_1 : Int), ∃ (row_1 : List Int), st = mk [(0, .sl false 1 (List.map (AV.int .u8) a_1)), (1, .sl false 1 (List.map (AV.int .u8) a_2)), (2, .sl false 1 (List.map (AV.int .u8) a_3)), (7, .own 0 ((row_1).length)), (8, .int .i64 v_1)] [(0, .live (.row 5 1 (List.map (AV.int .u8) row_1)))] 1 ∧ lLinear_L1 F a_1 a_2 a_3 n v_1 row_1 = some o_1) F (by kernel_rfl) ⟨_, _, rfl, h⟩ ?_ ?_
    · rintro _ ⟨_, _, _, h⟩; exact none_ne (h : (none : Option (List Int)) = some o_1)
    rintro n_1 _ ⟨v_1, row_1, rfl, h⟩
    replace h : lLinear_L1_body F a_1 a_2 a_3 (lLinear_L1 F a_1 a_2 a_3 n_1) v_1 row_1 = some o_1 := h
    unfold lLinear_L1_body at h
    refine aw_seq (by kernel_rfl) ?_
    refine aw_seq (by kernel_rfl) ?_
    refine aw_region [(2, { n := (a_1).length })] [0, 1, 2, 7, 8, 33] [0] 1 (vcs := [((List.map (AV.int .u8) a_1)).length = (a_1).length]) (vals := [.sl false 1 (List.map (AV.int .u8) a_1), .sl false 1 (List.map (AV.int .u8) a_2), .sl false 1 (List.map (AV.int .u8) a_3), .own 0 ((row_1).length), .int .i64 v_1, .bool (decide (v_1 < (((a_1).length : Nat) : Int)))]) (bxs := [.live (.row 5 1 (List.map (AV.int .u8) row_1))]) (by kernel_rfl) hmix ⟨(vc_len _), trivial⟩ ?_
    refine aw_cond (t := 33) (b := (decide (v_1 < (((a_1).length : Nat) : Int)))) (by kernel_rfl) (by kernel_rfl) ?_ ?_
    rotate_left
    · intro g_2; replace h := cond_f g_2 h
      refine aw_exit (id := 0) (by kernel_rfl) ?_
      replace h := Option.some.inj h; subst h
      exact ⟨rfl, (sub_wk [0] [] [(0, .sl false 1 (List.map (AV.int .u8) a_1)), (1, .sl false 1 (List.map (AV.int .u8) a_2)), (2, .sl false 1 (List.map (AV.int .u8) a_3)), (7, .own 0 ((row_1).length))] [(0, .live (.row 5 1 (List.map (AV.int .u8) row_1)))] (vcs := [(1 = 1 : Prop), ((List.map (AV.int .u8) a_1) = (List.map (AV.int .u8) a_1) : Prop), ((!false || false) = true : Prop), (1 = 1 : Prop), ((List.map (AV.int .u8) a_2) = (List.map (AV.int .u8) a_2) : Prop), ((!false || false) = true : Prop), (1 = 1 : Prop), ((List.map (AV.int .u8) a_3) = (List.map (AV.int .u8) a_3) : Prop), ((!false || false) = true : Prop), ((.own 0 ((row_1).length) : AV) = .own 0 ((row_1).length) : Prop), (5 = 5 : Prop), (1 = 1 : Prop), (((List.map (AV.int .u8) row_1) : List AV) = (List.map (AV.int .u8) row_1) : Prop)]) (by kernel_rfl) ⟨rfl, rfl, rfl, rfl, rfl, rfl, rfl, rfl, rfl, rfl, rfl, rfl, rfl, trivial⟩)⟩
    intro g_2; replace h := cond_t g_2 h
    refine aw_skip (by kernel_rfl) ?_
    refine aw_seq (by kernel_rfl) ?_
    refine aw_block (id := 1) (by kernel_rfl) ?_
    obtain ⟨x_1, h_4, h⟩ := bind_some h
    obtain ⟨x_2, h_5, h⟩ := bind_some h
    obtain ⟨x_3, h_6, h⟩ := bind_some h
    obtain ⟨x_4, h_7, h⟩ := bind_some h
    refine aw_region [(4, { av := .int .u8 x_1 }), (8, { av := .int .u8 x_2 }), (13, { av := .int .u8 x_3 }), (17, { av := .int .u8 x_4, l := (List.map (AV.int .u8) ((row_1).set ((v_1).toNat) (ixor .u8 (ixor .u8 x_1 x_2) x_3))) })] [0, 1, 2, 7, 8] [0] 1 (vcs := [idxA (List.map (AV.int .u8) a_1) v_1 = some (.int .u8 x_1), idxA (List.map (AV.int .u8) a_2) v_1 = some (.int .u8 x_2), idxA (List.map (AV.int .u8) a_3) v_1 = some (.int .u8 x_3), (0 : Int) ≤ v_1, v_1 < (((row_1).length : Nat) : Int), (List.map (AV.int .u8) row_1)[(v_1).toNat]? = some (.int .u8 x_4), (List.map (AV.int .u8) ((row_1).set ((v_1).toNat) (ixor .u8 (ixor .u8 x_1 x_2) x_3))) = List.set (List.map (AV.int .u8) row_1) ((v_1).toNat) (setElem (.int .u8 x_4) 0 [.int .u8 (ixor .u8 (ixor .u8 x_1 x_2) x_3)])]) (vals := [.sl false 1 (List.map (AV.int .u8) a_1), .sl false 1 (List.map (AV.int .u8) a_2), .sl false 1 (List.map (AV.int .u8) a_3), .own 0 ((row_1).length), .int .i64 v_1]) (bxs := [.live (.row 5 1 (List.map (AV.int .u8) ((row_1).set ((v_1).toNat) (ixor .u8 (ixor .u8 x_1 x_2) x_3))))]) (by kernel_rfl) hmix ⟨(vc_idx h_4), (vc_idx h_5), (vc_idx h_6), (idxL_lo h_7), (by simpa using idxL_hi h_7), (vc_get h_7), (vc_set _ _ _), trivial⟩ ?_
    refine aw_region [] [0, 1, 2, 7, 8] [0] 1 (vcs := []) (vals := [.sl false 1 (List.map (AV.int .u8) a_1), .sl false 1 (List.map (AV.int .u8) a_2), .sl false 1 (List.map (AV.int .u8) a_3), .own 0 ((row_1).length), .int .i64 (w_i64 (v_1 + (1 : Int)))]) (bxs := [.live (.row 5 1 (List.map (AV.int .u8) ((row_1).set ((v_1).toNat) (ixor .u8 (ixor .u8 x_1 x_2) x_3))))]) (by kernel_rfl) hmix trivial ?_
    exact ⟨_, (sub_wk [0] [] [(0, .sl false 1 (List.map (AV.int .u8) a_1)), (1, .sl false 1 (List.map (AV.int .u8) a_2)), (2, .sl false 1 (List.map (AV.int .u8) a_3)), (7, .own 0 (((row_1).set ((v_1).toNat) (ixor .u8 (ixor .u8 x_1 x_2) x_3)).length)), (8, .int .i64 (w_i64 (v_1 + (1 : Int))))] [(0, .live (.row 5 1 (List.map (AV.int .u8) ((row_1).set ((v_1).toNat) (ixor .u8 (ixor .u8 x_1 x_2) x_3)))))] (vcs := [(1 = 1 : Prop), ((List.map (AV.int .u8) a_1) = (List.map (AV.int .u8) a_1) : Prop), ((!false || false) = true : Prop), (1 = 1 : Prop), ((List.map (AV.int .u8) a_2) = (List.map (AV.int .u8) a_2) : Prop), ((!false || false) = true : Prop), (1 = 1 : Prop), ((List.map (AV.int .u8) a_3) = (List.map (AV.int .u8) a_3) : Prop), ((!false || false) = true : Prop), ((.own 0 ((row_1).length) : AV) = .own 0 (((row_1).set ((v_1).toNat) (ixor .u8 (ixor .u8 x_1 x_2) x_3)).length) : Prop), ((.int .i64 (w_i64 (v_1 + (1 : Int))) : AV) = .int .i64 (w_i64 (v_1 + (1 : Int))) : Prop), (5 = 5 : Prop), (1 = 1 : Prop), (((List.map (AV.int .u8) ((row_1).set ((v_1).toNat) (ixor .u8 (ixor .u8 x_1 x_2) x_3))) : List AV) = (List.map (AV.int .u8) ((row_1).set ((v_1).toNat) (ixor .u8 (ixor .u8 x_1 x_2) x_3))) : Prop)]) (by kernel_rfl) ⟨rfl, rfl, rfl, rfl, rfl, rfl, rfl, rfl, rfl, (congrArg (AV.own _) (by first | (simp; done) | (simp; omega))), rfl, rfl, rfl, rfl, trivial⟩), _, _, rfl, h⟩
  refine aw_seq (by kernel_rfl) ?_
  obtain ⟨p_1, h_15, h⟩ := bind_some h
  refine aw_mid (mk [(6, .bool p_1)] [] 0) ?_ ?_
  · replace h := h_15
    obtain ⟨r_2, h_8, h⟩ := bind_some h
    obtain ⟨r_3, h_9, h⟩ := bind_some h
    obtain ⟨_, h_10, h⟩ := bind_some h; replace h_10 := need_some h_10
    obtain ⟨r_4, h_11, h⟩ := bind_some h
    obtain ⟨_, h_12, h⟩ := bind_some h; replace h_12 := need_some h_12
    obtain ⟨r_5, h_13, h⟩ := bind_some h
    rcases Bool.eq_false_or_eq_true (r_2 == (ixor .i64 (ixor .i64 r_3 r_4) r_5)) with gg_3 | gg_3
    · replace h := cond_t gg_3 h
      obtain ⟨r_6, h_14, h⟩ := bind_some h
      refine aw_region [(1, { av := .int .i64 r_2, frz := [0], l := [.sl false 1 (List.map (AV.int .u8) o_1)] }), (3, { av := .int .i64 r_3, l := [.sl false 1 (List.map (AV.int .u8) a_1)] }), (6, { n := (a_1).length }), (7, { l := (List.map (AV.int .u8) (sub a_2 (0 : Int) (((a_1).length : Nat) : Int))) }), (8, { av := .int .i64 r_4, l := [.sl false 1 (List.map (AV.int .u8) (sub a_2 (0 : Int) (((a_1).length : Nat) : Int)))] }), (12, { n := (a_1).length }), (13, { l := (List.map (AV.int .u8) (sub a_3 (0 : Int) (((a_1).length : Nat) : Int))) }), (14, { av := .int .i64 r_5, l := [.sl false 1 (List.map (AV.int .u8) (sub a_3 (0 : Int) (((a_1).length : Nat) : Int)))] }), (18, { av := .bool r_6, l := [] }), (19, { b := true })] [6] [] 1 (vcs := [(o_1).length = ((List.map (AV.int .u8) o_1)).length, ([.sl false 1 (List.map (AV.int .u8) o_1)] : List AV) = [.sl false 1 (List.map (AV.int .u8) o_1)], ([] : List BoxSt) = [], Triple prog 16 [] [.sl false 1 (List.map (AV.int .u8) o_1)] [] (.int .i64 r_2), ([.sl false 1 (List.map (AV.int .u8) a_1)] : List AV) = [.sl false 1 (List.map (AV.int .u8) a_1)], ([] : List BoxSt) = [], Triple prog 16 [] [.sl false 1 (List.map (AV.int .u8) a_1)] [] (.int .i64 r_3), ((List.map (AV.int .u8) a_1)).length = (a_1).length, (0 : Int) ≤ (0 : Int), (0 : Int) ≤ (((a_1).length : Nat) : Int), (((a_1).length : Nat) : Int) ≤ ((((List.map (AV.int .u8) a_2)).length : Nat) : Int), (List.map (AV.int .u8) (sub a_2 (0 : Int) (((a_1).length : Nat) : Int))) = (((List.map (AV.int .u8) a_2)).take ((((a_1).length : Nat) : Int)).toNat).drop ((0 : Int)).toNat, ([.sl false 1 (List.map (AV.int .u8) (sub a_2 (0 : Int) (((a_1).length : Nat) : Int)))] : List AV) = [.sl false 1 (List.map (AV.int .u8) (sub a_2 (0 : Int) (((a_1).length : Nat) : Int)))], ([] : List BoxSt) = [], Triple prog 16 [] [.sl false 1 (List.map (AV.int .u8) (sub a_2 (0 : Int) (((a_1).length : Nat) : Int)))] [] (.int .i64 r_4), ((List.map (AV.int .u8) a_1)).length = (a_1).length, (0 : Int) ≤ (0 : Int), (0 : Int) ≤ (((a_1).length : Nat) : Int), (((a_1).length : Nat) : Int) ≤ ((((List.map (AV.int .u8) a_3)).length : Nat) : Int), (List.map (AV.int .u8) (sub a_3 (0 : Int) (((a_1).length : Nat) : Int))) = (((List.map (AV.int .u8) a_3)).take ((((a_1).length : Nat) : Int)).toNat).drop ((0 : Int)).toNat, ([.sl false 1 (List.map (AV.int .u8) (sub a_3 (0 : Int) (((a_1).length : Nat) : Int)))] : List AV) = [.sl false 1 (List.map (AV.int .u8) (sub a_3 (0 : Int) (((a_1).length : Nat) : Int)))], ([] : List BoxSt) = [], Triple prog 16 [] [.sl false 1 (List.map (AV.int .u8) (sub a_3 (0 : Int) (((a_1).length : Nat) : Int)))] [] (.int .i64 r_5), (r_2 == (ixor .i64 (ixor .i64 r_3 r_4) r_5)) = true, ([] : List AV) = [], ([] : List BoxSt) = [], Triple prog 11 [] [] [] (.bool r_6), (r_2 == (ixor .i64 (ixor .i64 r_3 r_4) r_5)) = true]) (vals := [.bool r_6]) (bxs := []) (by kernel_rfl) hmix ⟨(by first | (simp; done) | (simp; omega)), rfl, rfl, (cSum_ok F o_1 r_2 h_8), rfl, rfl, (cSum_ok F a_1 r_3 h_9), (vc_len _), (by decide), (Int.natCast_nonneg _), (vc_lenle h_10), (vc_sub _ _ _), rfl, rfl, (cSum_ok F (sub a_2 (0 : Int) (((a_1).length : Nat) : Int)) r_4 h_11), (vc_len _), (by decide), (Int.natCast_nonneg _), (vc_lenle h_12), (vc_sub _ _ _), rfl, rfl, (cSum_ok F (sub a_3 (0 : Int) (((a_1).length : Nat) : Int)) r_5 h_13), gg_3, rfl, rfl, (lives_ok F r_6 h_14), gg_3, trivial⟩ ?_
      replace h := Option.some.inj h; subst h
      exact ⟨rfl, (sub_wk [] [] [(6, .bool r_6)] [] (vcs := [((.bool r_6 : AV) = .bool r_6 : Prop)]) (by kernel_rfl) ⟨rfl, trivial⟩)⟩
    · replace h := cond_f gg_3 h
      refine aw_region [(1, { av := .int .i64 r_2, frz := [0], l := [.sl false 1 (List.map (AV.int .u8) o_1)] }), (3, { av := .int .i64 r_3, l := [.sl false 1 (List.map (AV.int .u8) a_1)] }), (6, { n := (a_1).length }), (7, { l := (List.map (AV.int .u8) (sub a_2 (0 : Int) (((a_1).length : Nat) : Int))) }), (8, { av := .int .i64 r_4, l := [.sl false 1 (List.map (AV.int .u8) (sub a_2 (0 : Int) (((a_1).length : Nat) : Int)))] }), (12, { n := (a_1).length }), (13, { l := (List.map (AV.int .u8) (sub a_3 (0 : Int) (((a_1).length : Nat) : Int))) }), (14, { av := .int .i64 r_5, l := [.sl false 1 (List.map (AV.int .u8) (sub a_3 (0 : Int) (((a_1).length : Nat) : Int)))] }), (18, { g := false }), (19, { b := false })] [6] [] 1 (vcs := [(o_1).length = ((List.map (AV.int .u8) o_1)).length, ([.sl false 1 (List.map (AV.int .u8) o_1)] : List AV) = [.sl false 1 (List.map (AV.int .u8) o_1)], ([] : List BoxSt) = [], Triple prog 16 [] [.sl false 1 (List.map (AV.int .u8) o_1)] [] (.int .i64 r_2), ([.sl false 1 (List.map (AV.int .u8) a_1)] : List AV) = [.sl false 1 (List.map (AV.int .u8) a_1)], ([] : List BoxSt) = [], Triple prog 16 [] [.sl false 1 (List.map (AV.int .u8) a_1)] [] (.int .i64 r_3), ((List.map (AV.int .u8) a_1)).length = (a_1).length, (0 : Int) ≤ (0 : Int), (0 : Int) ≤ (((a_1).length : Nat) : Int), (((a_1).length : Nat) : Int) ≤ ((((List.map (AV.int .u8) a_2)).length : Nat) : Int), (List.map (AV.int .u8) (sub a_2 (0 : Int) (((a_1).length : Nat) : Int))) = (((List.map (AV.int .u8) a_2)).take ((((a_1).length : Nat) : Int)).toNat).drop ((0 : Int)).toNat, ([.sl false 1 (List.map (AV.int .u8) (sub a_2 (0 : Int) (((a_1).length : Nat) : Int)))] : List AV) = [.sl false 1 (List.map (AV.int .u8) (sub a_2 (0 : Int) (((a_1).length : Nat) : Int)))], ([] : List BoxSt) = [], Triple prog 16 [] [.sl false 1 (List.map (AV.int .u8) (sub a_2 (0 : Int) (((a_1).length : Nat) : Int)))] [] (.int .i64 r_4), ((List.map (AV.int .u8) a_1)).length = (a_1).length, (0 : Int) ≤ (0 : Int), (0 : Int) ≤ (((a_1).length : Nat) : Int), (((a_1).length : Nat) : Int) ≤ ((((List.map (AV.int .u8) a_3)).length : Nat) : Int), (List.map (AV.int .u8) (sub a_3 (0 : Int) (((a_1).length : Nat) : Int))) = (((List.map (AV.int .u8) a_3)).take ((((a_1).length : Nat) : Int)).toNat).drop ((0 : Int)).toNat, ([.sl false 1 (List.map (AV.int .u8) (sub a_3 (0 : Int) (((a_1).length : Nat) : Int)))] : List AV) = [.sl false 1 (List.map (AV.int .u8) (sub a_3 (0 : Int) (((a_1).length : Nat) : Int)))], ([] : List BoxSt) = [], Triple prog 16 [] [.sl false 1 (List.map (AV.int .u8) (sub a_3 (0 : Int) (((a_1).length : Nat) : Int)))] [] (.int .i64 r_5), (r_2 == (ixor .i64 (ixor .i64 r_3 r_4) r_5)) = !true, (r_2 == (ixor .i64 (ixor .i64 r_3 r_4) r_5)) = false]) (vals := [.bool false]) (bxs := []) (by kernel_rfl) hmix ⟨(by first | (simp; done) | (simp; omega)), rfl, rfl, (cSum_ok F o_1 r_2 h_8), rfl, rfl, (cSum_ok F a_1 r_3 h_9), (vc_len _), (by decide), (Int.natCast_nonneg _), (vc_lenle h_10), (vc_sub _ _ _), rfl, rfl, (cSum_ok F (sub a_2 (0 : Int) (((a_1).length : Nat) : Int)) r_4 h_11), (vc_len _), (by decide), (Int.natCast_nonneg _), (vc_lenle h_12), (vc_sub _ _ _), rfl, rfl, (cSum_ok F (sub a_3 (0 : Int) (((a_1).length : Nat) : Int)) r_5 h_13), gg_3, gg_3, trivial⟩ ?_
      replace h := Option.some.inj h; subst h
      exact ⟨rfl, (sub_wk [] [] [(6, .bool false)] [] (vcs := [((.bool false : AV) = .bool false : Prop)]) (by kernel_rfl) ⟨rfl, trivial⟩)⟩
  refine aw_ret (by kernel_rfl) ?_
  replace h := Option.some.inj h; subst h
  exact ⟨.inr rfl, Nat.le_of_ble_eq_true rfl, by kernel_rfl⟩

theorem lWrites_ok (F : Nat) (b_1 : List (Int)) (n_1 : Int) (s_1 : List Int) (r : Bool) (h : lWrites F b_1 n_1 s_1 = some r) : Triple prog 7 [] [.sl false 1 (List.map (AV.int .u8) b_1), .int .i64 n_1, .str s_1] [] (.bool r) := by
  refine triple_intro (fn := Go.Proofs.Try.f7) (code := codeOf Go.Proofs.Try.f7) (by kernel_rfl) (by kernel_rfl) (Nat.le_of_ble_eq_true (by kernel_rfl)) ?_
  unfold lWrites at h
  refine aw_seq (by kernel_rfl) ?_
  refine aw_region [] [0, 1, 2] [] 0 (vcs := []) (vals := [.sl false 1 (List.map (AV.int .u8) b_1), .int .i64 n_1, .str s_1]) (bxs := []) (by kernel_rfl) hmix trivial ?_
  refine aw_seq (by kernel_rfl) ?_
  refine aw_seq (by kernel_rfl) ?_
  refine aw_mid (mk [(0, .sl false 1 (List.map (AV.int .u8) b_1)), (1, .int .i64 n_1), (2, .str s_1), (17, .bool (decide ((((b_1).length : Nat) : Int) > (300 : Int)) || decide ((((s_1).length : Nat) : Int) > (300 : Int))))] [] 0) ?_ ?_
  · rcases Bool.eq_false_or_eq_true (decide ((((b_1).length : Nat) : Int) > (300 : Int))) with gg_1 | gg_1
    · refine aw_region [(1, { n := (b_1).length }), (4, { g := false }), (5, { g := false }), (6, { g := false }), (7, { b := true })] [0, 1, 2, 17] [] 0 (vcs := [((List.map (AV.int .u8) b_1)).length = (b_1).length, (decide ((((b_1).length : Nat) : Int) > (300 : Int))) = !false, (decide ((((b_1).length : Nat) : Int) > (300 : Int))) = !false, (decide ((((b_1).length : Nat) : Int) > (300 : Int))) = !false, (decide ((((b_1).length : Nat) : Int) > (300 : Int))) = true]) (vals := [.sl false 1 (List.map (AV.int .u8) b_1), .int .i64 n_1, .str s_1, .bool true]) (bxs := []) (by kernel_rfl) hmix ⟨(vc_len _), gg_1, gg_1, gg_1, gg_1, trivial⟩ ?_
      exact ⟨rfl, (sub_wk [] [] [(0, .sl false 1 (List.map (AV.int .u8) b_1)), (1, .int .i64 n_1), (2, .str s_1), (17, .bool (decide ((((b_1).length : Nat) : Int) > (300 : Int)) || decide ((((s_1).length : Nat) : Int) > (300 : Int))))] [] (vcs := [(1 = 1 : Prop), ((List.map (AV.int .u8) b_1) = (List.map (AV.int .u8) b_1) : Prop), ((!false || false) = true : Prop), ((.int .i64 n_1 : AV) = .int .i64 n_1 : Prop), ((.str s_1 : AV) = .str s_1 : Prop), ((.bool true : AV) = .bool (decide ((((b_1).length : Nat) : Int) > (300 : Int)) || decide ((((s_1).length : Nat) : Int) > (300 : Int))) : Prop)]) (by kernel_rfl) ⟨rfl, rfl, rfl, rfl, rfl, (congrArg AV.bool (ort gg_1)), trivial⟩)⟩
    · refine aw_region [(1, { n := (b_1).length }), (7, { b := false })] [0, 1, 2, 17] [] 0 (vcs := [((List.map (AV.int .u8) b_1)).length = (b_1).length, (decide ((((b_1).length : Nat) : Int) > (300 : Int))) = false, (decide ((((b_1).length : Nat) : Int) > (300 : Int))) = false, (decide ((((b_1).length : Nat) : Int) > (300 : Int))) = false, (decide ((((b_1).length : Nat) : Int) > (300 : Int))) = false]) (vals := [.sl false 1 (List.map (AV.int .u8) b_1), .int .i64 n_1, .str s_1, .bool (decide ((((s_1).length : Nat) : Int) > (300 : Int)))]) (bxs := []) (by kernel_rfl) hmix ⟨(vc_len _), gg_1, gg_1, gg_1, gg_1, trivial⟩ ?_
      exact ⟨rfl, (sub_wk [] [] [(0, .sl false 1 (List.map (AV.int .u8) b_1)), (1, .int .i64 n_1), (2, .str s_1), (17, .bool (decide ((((b_1).length : Nat) : Int) > (300 : Int)) || decide ((((s_1).length : Nat) : Int) > (300 : Int))))] [] (vcs := [(1 = 1 : Prop), ((List.map (AV.int .u8) b_1) = (List.map (AV.int .u8) b_1) : Prop), ((!false || false) = true : Prop), ((.int .i64 n_1 : AV) = .int .i64 n_1 : Prop), ((.str s_1 : AV) = .str s_1 : Prop), ((.bool (decide ((((s_1).length : Nat) : Int) > (300 : Int))) : AV) = .bool (decide ((((b_1).length : Nat) : Int) > (300 : Int)) || decide ((((s_1).length : Nat) : Int) > (300 : Int))) : Prop)]) (by kernel_rfl) ⟨rfl, rfl, rfl, rfl, rfl, (congrArg AV.bool (orf gg_1 rfl)), trivial⟩)⟩
  refine aw_cond (t := 17) (b := (decide ((((b_1).length : Nat) : Int) > (300 : Int)) || decide ((((s_1).length : Nat) : Int) > (300 : Int)))) (by kernel_rfl) (by kernel_rfl) ?_ ?_
  · intro g_1; replace h := cond_t g_1 h
    refine aw_seq (by kernel_rfl) ?_
    obtain ⟨r_1, h_1, h⟩ := bind_some h
    refine aw_region [(0, { av := .bool r_1, l := [] })] [6] [] 0 (vcs := [([] : List AV) = [], ([] : List BoxSt) = [], Triple prog 11 [] [] [] (.bool r_1)]) (vals := [.bool r_1]) (bxs := []) (by kernel_rfl) hmix ⟨rfl, rfl, (lives_ok F r_1 h_1), trivial⟩ ?_
    refine aw_ret (by kernel_rfl) ?_
    replace h := Option.some.inj h; subst h
    exact ⟨.inr rfl, Nat.le_of_ble_eq_true rfl, by kernel_rfl⟩
  intro g_1; replace h := cond_f g_1 h
  refine aw_skip (by kernel_rfl) ?_
  refine aw_seq (by kernel_rfl) ?_
  refine aw_region [(1, { s := b_1 })] [0, 1, 2, 7] [] 0 (vcs := [(List.map (AV.int .u8) b_1) = List.map (AV.int .u8) b_1]) (vals := [.sl false 1 (List.map (AV.int .u8) b_1), .int .i64 n_1, .str s_1, .str b_1]) (bxs := []) (by kernel_rfl) hmix ⟨rfl, trivial⟩ ?_
  refine aw_seq (by kernel_rfl) ?_
  obtain ⟨r_2, h_2, h⟩ := bind_some h
  obtain ⟨r_3, h_3, h⟩ := bind_some h
  refine aw_region [(2, { av := .sl false 1 (List.map (AV.int .u8) r_2), l := [.sl false 1 (List.map (AV.int .u8) b_1), .int .i64 n_1] }), (5, { av := .own 0 ((r_3).length), ids := [0], l := [.sl false 1 (List.map (AV.int .u8) b_1), .str s_1], post := [(.row 5 1 (List.map (AV.int .u8) r_3))] })] [0, 1, 2, 7, 8, 9] [0] 1 (vcs := [([.sl false 1 (List.map (AV.int .u8) b_1), .int .i64 n_1] : List AV) = [.sl false 1 (List.map (AV.int .u8) b_1), .int .i64 n_1], ([] : List BoxSt) = [], Triple prog 18 [] [.sl false 1 (List.map (AV.int .u8) b_1), .int .i64 n_1] [] (.sl false 1 (List.map (AV.int .u8) r_2)), ([.sl false 1 (List.map (AV.int .u8) b_1), .str s_1] : List AV) = [.sl false 1 (List.map (AV.int .u8) b_1), .str s_1], ([] : List BoxSt) = [], Triple prog 19 [] [.sl false 1 (List.map (AV.int .u8) b_1), .str s_1] [.row 5 1 (List.map (AV.int .u8) r_3)] (.own 0 ((r_3).length))]) (vals := [.sl false 1 (List.map (AV.int .u8) b_1), .int .i64 n_1, .str s_1, .str b_1, .sl false 1 (List.map (AV.int .u8) r_2), .own 0 ((r_3).length)]) (bxs := [.live (.row 5 1 (List.map (AV.int .u8) r_3))]) (by kernel_rfl) hmix ⟨rfl, rfl, (cPutInt_ok F b_1 n_1 r_2 h_2), rfl, rfl, (cPutText_ok F b_1 s_1 r_3 h_3), trivial⟩ ?_
  refine aw_seq (by kernel_rfl) ?_
  obtain ⟨p_1, h_7, h⟩ := bind_some h
  refine aw_mid (mk [(6, .bool p_1)] [] 0) ?_ ?_
  · replace h := h_7
    obtain ⟨r_4, h_4, h⟩ := bind_some h
    rcases Bool.eq_false_or_eq_true (r_2 == r_4) with gg_2 | gg_2
    · replace h := cond_t gg_2 h
      obtain ⟨r_5, h_5, h⟩ := bind_some h
      rcases Bool.eq_false_or_eq_true (r_3 == r_5) with gg_3 | gg_3
      · replace h := cond_t gg_3 h
        rcases Bool.eq_false_or_eq_true (b_1 == b_1) with gg_4 | gg_4
        · replace h := cond_t gg_4 h
          obtain ⟨r_6, h_6, h⟩ := bind_some h
          refine aw_region [(1, { s := r_2 }), (5, { av := .own 0 ((r_4).length), ids := [1], l := [.sl false 1 (List.map (AV.int .u8) b_1), .int .i64 n_1], post := [(.row 5 1 (List.map (AV.int .u8) r_4))] }), (6, { s := r_4 }), (10, { s := r_3 }), (14, { av := .own 0 ((r_5).length), ids := [2], l := [.sl false 1 (List.map (AV.int .u8) b_1), .str s_1], post := [(.row 5 1 (List.map (AV.int .u8) r_5))] }), (15, { s := r_5 }), (17, { b := true }), (20, { s := b_1 }), (23, { b := true }), (25, { av := .bool r_6, l := [] }), (26, { b := true })] [6] [] 3 (vcs := [(List.map (AV.int .u8) r_2) = List.map (AV.int .u8) r_2, ([.sl false 1 (List.map (AV.int .u8) b_1), .int .i64 n_1] : List AV) = [.sl false 1 (List.map (AV.int .u8) b_1), .int .i64 n_1], ([] : List BoxSt) = [], Triple prog 20 [] [.sl false 1 (List.map (AV.int .u8) b_1), .int .i64 n_1] [.row 5 1 (List.map (AV.int .u8) r_4)] (.own 0 ((r_4).length)), (r_4).length = ((List.map (AV.int .u8) r_4)).length, (List.map (AV.int .u8) r_4) = List.map (AV.int .u8) r_4, (r_2 == r_4) = true, (r_2 == r_4) = true, (r_3).length = ((List.map (AV.int .u8) r_3)).length, (List.map (AV.int .u8) r_3) = List.map (AV.int .u8) r_3, (r_2 == r_4) = true, (r_2 == r_4) = true, (r_2 == r_4) = true, (r_2 == r_4) = true, ([.sl false 1 (List.map (AV.int .u8) b_1), .str s_1] : List AV) = [.sl false 1 (List.map (AV.int .u8) b_1), .str s_1], ([] : List BoxSt) = [], Triple prog 21 [] [.sl false 1 (List.map (AV.int .u8) b_1), .str s_1] [.row 5 1 (List.map (AV.int .u8) r_5)] (.own 0 ((r_5).length)), (r_2 == r_4) = true, (r_5).length = ((List.map (AV.int .u8) r_5)).length, (List.map (AV.int .u8) r_5) = List.map (AV.int .u8) r_5, (r_2 == r_4) = true, (r_2 == r_4) = true, (r_3 == r_5) = true, (r_3 == r_5) = true, (List.map (AV.int .u8) b_1) = List.map (AV.int .u8) b_1, (r_3 == r_5) = true, (r_3 == r_5) = true, (r_3 == r_5) = true, (b_1 == b_1) = true, ([] : List AV) = [], ([] : List BoxSt) = [], Triple prog 11 [] [] [] (.bool r_6), (b_1 == b_1) = true]) (vals := [.bool r_6]) (bxs := []) (by kernel_rfl) hmix ⟨rfl, rfl, rfl, (rPutInt_ok F b_1 n_1 r_4 h_4), (by first | (simp; done) | (simp; omega)), rfl, gg_2, gg_2, (by first | (simp; done) | (simp; omega)), rfl, gg_2, gg_2, gg_2, gg_2, rfl, rfl, (rPutText_ok F b_1 s_1 r_5 h_5), gg_2, (by first | (simp; done) | (simp; omega)), rfl, gg_2, gg_2, gg_3, gg_3, rfl, gg_3, gg_3, gg_3, gg_4, rfl, rfl, (lives_ok F r_6 h_6), gg_4, trivial⟩ ?_
          replace h := Option.some.inj h; subst h
          exact ⟨rfl, (sub_wk [] [] [(6, .bool r_6)] [] (vcs := [((.bool r_6 : AV) = .bool r_6 : Prop)]) (by kernel_rfl) ⟨rfl, trivial⟩)⟩
        · replace h := cond_f gg_4 h
          refine aw_region [(1, { s := r_2 }), (5, { av := .own 0 ((r_4).length), ids := [1], l := [.sl false 1 (List.map (AV.int .u8) b_1), .int .i64 n_1], post := [(.row 5 1 (List.map (AV.int .u8) r_4))] }), (6, { s := r_4 }), (10, { s := r_3 }), (14, { av := .own 0 ((r_5).length), ids := [2], l := [.sl false 1 (List.map (AV.int .u8) b_1), .str s_1], post := [(.row 5 1 (List.map (AV.int .u8) r_5))] }), (15, { s := r_5 }), (17, { b := true }), (20, { s := b_1 }), (23, { b := true }), (25, { g := false }), (26, { b := false })] [6] [] 3 (vcs := [(List.map (AV.int .u8) r_2) = List.map (AV.int .u8) r_2, ([.sl false 1 (List.map (AV.int .u8) b_1), .int .i64 n_1] : List AV) = [.sl false 1 (List.map (AV.int .u8) b_1), .int .i64 n_1], ([] : List BoxSt) = [], Triple prog 20 [] [.sl false 1 (List.map (AV.int .u8) b_1), .int .i64 n_1] [.row 5 1 (List.map (AV.int .u8) r_4)] (.own 0 ((r_4).length)), (r_4).length = ((List.map (AV.int .u8) r_4)).length, (List.map (AV.int .u8) r_4) = List.map (AV.int .u8) r_4, (r_2 == r_4) = true, (r_2 == r_4) = true, (r_3).length = ((List.map (AV.int .u8) r_3)).length, (List.map (AV.int .u8) r_3) = List.map (AV.int .u8) r_3, (r_2 == r_4) = true, (r_2 == r_4) = true, (r_2 == r_4) = true, (r_2 == r_4) = true, ([.sl false 1 (List.map (AV.int .u8) b_1), .str s_1] : List AV) = [.sl false 1 (List.map (AV.int .u8) b_1), .str s_1], ([] : List BoxSt) = [], Triple prog 21 [] [.sl false 1 (List.map (AV.int .u8) b_1), .str s_1] [.row 5 1 (List.map (AV.int .u8) r_5)] (.own 0 ((r_5).length)), (r_2 == r_4) = true, (r_5).length = ((List.map (AV.int .u8) r_5)).length, (List.map (AV.int .u8) r_5) = List.map (AV.int .u8) r_5, (r_2 == r_4) = true, (r_2 == r_4) = true, (r_3 == r_5) = true, (r_3 == r_5) = true, (List.map (AV.int .u8) b_1) = List.map (AV.int .u8) b_1, (r_3 == r_5) = true, (r_3 == r_5) = true, (r_3 == r_5) = true, (b_1 == b_1) = !true, (b_1 == b_1) = false]) (vals := [.bool false]) (bxs := []) (by kernel_rfl) hmix ⟨rfl, rfl, rfl, (rPutInt_ok F b_1 n_1 r_4 h_4), (by first | (simp; done) | (simp; omega)), rfl, gg_2, gg_2, (by first | (simp; done) | (simp; omega)), rfl, gg_2, gg_2, gg_2, gg_2, rfl, rfl, (rPutText_ok F b_1 s_1 r_5 h_5), gg_2, (by first | (simp; done) | (simp; omega)), rfl, gg_2, gg_2, gg_3, gg_3, rfl, gg_3, gg_3, gg_3, gg_4, gg_4, trivial⟩ ?_
          replace h := Option.some.inj h; subst h
          exact ⟨rfl, (sub_wk [] [] [(6, .bool false)] [] (vcs := [((.bool false : AV) = .bool false : Prop)]) (by kernel_rfl) ⟨rfl, trivial⟩)⟩
      · replace h := cond_f gg_3 h
        refine aw_region [(1, { s := r_2 }), (5, { av := .own 0 ((r_4).length), ids := [1], l := [.sl false 1 (List.map (AV.int .u8) b_1), .int .i64 n_1], post := [(.row 5 1 (List.map (AV.int .u8) r_4))] }), (6, { s := r_4 }), (10, { s := r_3 }), (14, { av := .own 0 ((r_5).length), ids := [2], l := [.sl false 1 (List.map (AV.int .u8) b_1), .str s_1], post := [(.row 5 1 (List.map (AV.int .u8) r_5))] }), (15, { s := r_5 }), (17, { b := true }), (19, { g := false }), (20, { g := false }), (21, { g := false }), (22, { g := false }), (23, { b := false }), (25, { g := false }), (26, { b := false })] [6] [] 3 (vcs := [(List.map (AV.int .u8) r_2) = List.map (AV.int .u8) r_2, ([.sl false 1 (List.map (AV.int .u8) b_1), .int .i64 n_1] : List AV) = [.sl false 1 (List.map (AV.int .u8) b_1), .int .i64 n_1], ([] : List BoxSt) = [], Triple prog 20 [] [.sl false 1 (List.map (AV.int .u8) b_1), .int .i64 n_1] [.row 5 1 (List.map (AV.int .u8) r_4)] (.own 0 ((r_4).length)), (r_4).length = ((List.map (AV.int .u8) r_4)).length, (List.map (AV.int .u8) r_4) = List.map (AV.int .u8) r_4, (r_2 == r_4) = true, (r_2 == r_4) = true, (r_3).length = ((List.map (AV.int .u8) r_3)).length, (List.map (AV.int .u8) r_3) = List.map (AV.int .u8) r_3, (r_2 == r_4) = true, (r_2 == r_4) = true, (r_2 == r_4) = true, (r_2 == r_4) = true, ([.sl false 1 (List.map (AV.int .u8) b_1), .str s_1] : List AV) = [.sl false 1 (List.map (AV.int .u8) b_1), .str s_1], ([] : List BoxSt) = [], Triple prog 21 [] [.sl false 1 (List.map (AV.int .u8) b_1), .str s_1] [.row 5 1 (List.map (AV.int .u8) r_5)] (.own 0 ((r_5).length)), (r_2 == r_4) = true, (r_5).length = ((List.map (AV.int .u8) r_5)).length, (List.map (AV.int .u8) r_5) = List.map (AV.int .u8) r_5, (r_2 == r_4) = true, (r_2 == r_4) = true, (r_3 == r_5) = !true, (r_3 == r_5) = !true, (r_3 == r_5) = !true, (r_3 == r_5) = !true, (r_3 == r_5) = false, false = !true, false = false]) (vals := [.bool false]) (bxs := []) (by kernel_rfl) hmix ⟨rfl, rfl, rfl, (rPutInt_ok F b_1 n_1 r_4 h_4), (by first | (simp; done) | (simp; omega)), rfl, gg_2, gg_2, (by first | (simp; done) | (simp; omega)), rfl, gg_2, gg_2, gg_2, gg_2, rfl, rfl, (rPutText_ok F b_1 s_1 r_5 h_5), gg_2, (by first | (simp; done) | (simp; omega)), rfl, gg_2, gg_2, gg_3, gg_3, gg_3, gg_3, gg_3, rfl, rfl, trivial⟩ ?_
        replace h := Option.some.inj h; subst h
        exact ⟨rfl, (sub_wk [] [] [(6, .bool false)] [] (vcs := [((.bool false : AV) = .bool false : Prop)]) (by kernel_rfl) ⟨rfl, trivial⟩)⟩
    · replace h := cond_f gg_2 h
      refine aw_region [(1, { s := r_2 }), (5, { av := .own 0 ((r_4).length), ids := [1], l := [.sl false 1 (List.map (AV.int .u8) b_1), .int .i64 n_1], post := [(.row 5 1 (List.map (AV.int .u8) r_4))] }), (6, { s := r_4 }), (9, { g := false }), (10, { g := false }), (11, { g := false }), (12, { g := false }), (13, { g := false }), (14, { g := false }), (15, { g := false }), (16, { g := false }), (17, { b := false }), (19, { g := false }), (20, { g := false }), (21, { g := false }), (22, { g := false }), (23, { b := false }), (25, { g := false }), (26, { b := false })] [6] [] 2 (vcs := [(List.map (AV.int .u8) r_2) = List.map (AV.int .u8) r_2, ([.sl false 1 (List.map (AV.int .u8) b_1), .int .i64 n_1] : List AV) = [.sl false 1 (List.map (AV.int .u8) b_1), .int .i64 n_1], ([] : List BoxSt) = [], Triple prog 20 [] [.sl false 1 (List.map (AV.int .u8) b_1), .int .i64 n_1] [.row 5 1 (List.map (AV.int .u8) r_4)] (.own 0 ((r_4).length)), (r_4).length = ((List.map (AV.int .u8) r_4)).length, (List.map (AV.int .u8) r_4) = List.map (AV.int .u8) r_4, (r_2 == r_4) = !true, (r_2 == r_4) = !true, (r_2 == r_4) = !true, (r_2 == r_4) = !true, (r_2 == r_4) = !true, (r_2 == r_4) = !true, (r_2 == r_4) = !true, (r_2 == r_4) = !true, (r_2 == r_4) = false, false = !true, false = !true, false = !true, false = !true, false = false, false = !true, false = false]) (vals := [.bool false]) (bxs := []) (by kernel_rfl) hmix ⟨rfl, rfl, rfl, (rPutInt_ok F b_1 n_1 r_4 h_4), (by first | (simp; done) | (simp; omega)), rfl, gg_2, gg_2, gg_2, gg_2, gg_2, gg_2, gg_2, gg_2, gg_2, rfl, rfl, rfl, rfl, rfl, rfl, rfl, trivial⟩ ?_
      replace h := Option.some.inj h; subst h
      exact ⟨rfl, (sub_wk [] [] [(6, .bool false)] [] (vcs := [((.bool false : AV) = .bool false : Prop)]) (by kernel_rfl) ⟨rfl, trivial⟩)⟩
  refine aw_ret (by kernel_rfl) ?_
  replace h := Option.some.inj h; subst h
  exact ⟨.inr rfl, Nat.le_of_ble_eq_true rfl, by kernel_rfl⟩

end Go.Ab
