/- Printed: the typed Lean functions of the Go functions, or the proofs that the Go functions meet them. No conditions but those that the theorems name. -/
import Derived.Test.YtbmhiadpagpjmaaP05x1
namespace Go.Ab
open Go
set_option linter.unusedVariables false
theorem lBack_ok (F : Nat) (a_1 : Int) (a_2 : List Int) (a_3 : List (Int)) (a_4 : Int) (r : Bool) (h : lBack F a_1 a_2 a_3 a_4 = some r) : Triple prog 8 [] [.int .i64 a_1, .str a_2, .sl false 1 (List.map (AV.int .u8) a_3), .int .i64 a_4] [] (.bool r) := by
  refine triple_intro (fn := Go.Proofs.Try.f8) (code := codeOf Go.Proofs.Try.f8) (by kernel_rfl) (by kernel_rfl) (Nat.le_of_ble_eq_true (by kernel_rfl)) ?_
  unfold lBack at h
  refine aw_seq (by kernel_rfl) ?_
  refine aw_region [] [0, 1, 2, 3] [] 0 (vcs := []) (vals := [.int .i64 a_1, .str a_2, .sl false 1 (List.map (AV.int .u8) a_3), .int .i64 a_4]) (bxs := []) (by kernel_rfl) hmix trivial ?_
  refine aw_seq (by kernel_rfl) ?_
  refine aw_seq (by kernel_rfl) ?_
  refine aw_mid (mk [(0, .int .i64 a_1), (1, .str a_2), (2, .sl false 1 (List.map (AV.int .u8) a_3)), (3, .int .i64 a_4), (24, .bool (decide ((((a_2).length : Nat) : Int) > (300 : Int)) || decide ((((a_3).length : Nat) : Int) > (300 : Int))))] [] 0) ?_ ?_
  · rcases Bool.eq_false_or_eq_true (decide ((((a_2).length : Nat) : Int) > (300 : Int))) with gg_1 | gg_1
    · refine aw_region [(4, { g := false }), (5, { g := false }), (6, { g := false }), (7, { b := true })] [0, 1, 2, 3, 24] [] 0 (vcs := [(decide ((((a_2).length : Nat) : Int) > (300 : Int))) = !false, (decide ((((a_2).length : Nat) : Int) > (300 : Int))) = !false, (decide ((((a_2).length : Nat) : Int) > (300 : Int))) = !false, (decide ((((a_2).length : Nat) : Int) > (300 : Int))) = true]) (vals := [.int .i64 a_1, .str a_2, .sl false 1 (List.map (AV.int .u8) a_3), .int .i64 a_4, .bool true]) (bxs := []) (by kernel_rfl) hmix ⟨gg_1, gg_1, gg_1, gg_1, trivial⟩ ?_
      exact ⟨rfl, (sub_wk [] [] [(0, .int .i64 a_1), (1, .str a_2), (2, .sl false 1 (List.map (AV.int .u8) a_3)), (3, .int .i64 a_4), (24, .bool (decide ((((a_2).length : Nat) : Int) > (300 : Int)) || decide ((((a_3).length : Nat) : Int) > (300 : Int))))] [] (vcs := [((.int .i64 a_1 : AV) = .int .i64 a_1 : Prop), ((.str a_2 : AV) = .str a_2 : Prop), (1 = 1 : Prop), ((List.map (AV.int .u8) a_3) = (List.map (AV.int .u8) a_3) : Prop), ((!false || false) = true : Prop), ((.int .i64 a_4 : AV) = .int .i64 a_4 : Prop), ((.bool true : AV) = .bool (decide ((((a_2).length : Nat) : Int) > (300 : Int)) || decide ((((a_3).length : Nat) : Int) > (300 : Int))) : Prop)]) (by kernel_rfl) ⟨rfl, rfl, rfl, rfl, rfl, rfl, (congrArg AV.bool (ort gg_1)), trivial⟩)⟩
    · refine aw_region [(5, { n := (a_3).length }), (7, { b := false })] [0, 1, 2, 3, 24] [] 0 (vcs := [(decide ((((a_2).length : Nat) : Int) > (300 : Int))) = false, (decide ((((a_2).length : Nat) : Int) > (300 : Int))) = false, ((List.map (AV.int .u8) a_3)).length = (a_3).length, (decide ((((a_2).length : Nat) : Int) > (300 : Int))) = false, (decide ((((a_2).length : Nat) : Int) > (300 : Int))) = false]) (vals := [.int .i64 a_1, .str a_2, .sl false 1 (List.map (AV.int .u8) a_3), .int .i64 a_4, .bool (decide ((((a_3).length : Nat) : Int) > (300 : Int)))]) (bxs := []) (by kernel_rfl) hmix ⟨gg_1, gg_1, (vc_len _), gg_1, gg_1, trivial⟩ ?_
      exact ⟨rfl, (sub_wk [] [] [(0, .int .i64 a_1), (1, .str a_2), (2, .sl false 1 (List.map (AV.int .u8) a_3)), (3, .int .i64 a_4), (24, .bool (decide ((((a_2).length : Nat) : Int) > (300 : Int)) || decide ((((a_3).length : Nat) : Int) > (300 : Int))))] [] (vcs := [((.int .i64 a_1 : AV) = .int .i64 a_1 : Prop), ((.str a_2 : AV) = .str a_2 : Prop), (1 = 1 : Prop), ((List.map (AV.int .u8) a_3) = (List.map (AV.int .u8) a_3) : Prop), ((!false || false) = true : Prop), ((.int .i64 a_4 : AV) = .int .i64 a_4 : Prop), ((.bool (decide ((((a_3).length : Nat) : Int) > (300 : Int))) : AV) = .bool (decide ((((a_2).length : Nat) : Int) > (300 : Int)) || decide ((((a_3).length : Nat) : Int) > (300 : Int))) : Prop)]) (by kernel_rfl) ⟨rfl, rfl, rfl, rfl, rfl, rfl, (congrArg AV.bool (orf gg_1 rfl)), trivial⟩)⟩
  refine aw_cond (t := 24) (b := (decide ((((a_2).length : Nat) : Int) > (300 : Int)) || decide ((((a_3).length : Nat) : Int) > (300 : Int)))) (by kernel_rfl) (by kernel_rfl) ?_ ?_
  · intro g_1; replace h := cond_t g_1 h
    refine aw_seq (by kernel_rfl) ?_
    obtain ⟨r_1, h_1, h⟩ := bind_some h
    refine aw_region [(0, { av := .bool r_1, l := [] })] [8] [] 0 (vcs := [([] : List AV) = [], ([] : List BoxSt) = [], Triple prog 11 [] [] [] (.bool r_1)]) (vals := [.bool r_1]) (bxs := []) (by kernel_rfl) hmix ⟨rfl, rfl, (lives_ok F r_1 h_1), trivial⟩ ?_
    refine aw_ret (by kernel_rfl) ?_
    replace h := Option.some.inj h; subst h
    exact ⟨.inr rfl, Nat.le_of_ble_eq_true rfl, by kernel_rfl⟩
  intro g_1; replace h := cond_f g_1 h
  refine aw_skip (by kernel_rfl) ?_
  refine aw_seq (by kernel_rfl) ?_
  obtain ⟨r_2, h_2, h⟩ := bind_some h
  refine aw_region [(1, { av := .sl false 1 (List.map (AV.int .u8) r_2), l := [.nilsl, .int .i64 a_1] })] [0, 1, 2, 3, 9] [] 0 (vcs := [([.nilsl, .int .i64 a_1] : List AV) = [.nilsl, .int .i64 a_1], ([] : List BoxSt) = [], Triple prog 18 [] [.nilsl, .int .i64 a_1] [] (.sl false 1 (List.map (AV.int .u8) r_2))]) (vals := [.int .i64 a_1, .str a_2, .sl false 1 (List.map (AV.int .u8) a_3), .int .i64 a_4, .sl false 1 (List.map (AV.int .u8) r_2)]) (bxs := []) (by kernel_rfl) hmix ⟨rfl, rfl, (triple_lo (args' := [.sl false 1 [], .int .i64 a_1]) (cPutInt_ok F [] a_1 r_2 h_2) rfl ⟨rfl, rfl, trivial⟩), trivial⟩ ?_
  refine aw_seq (by kernel_rfl) ?_
  obtain ⟨_, h_3, h⟩ := bind_some h; replace h_3 := need_some h_3
  obtain ⟨_, h_4, h⟩ := bind_some h; replace h_4 := need_some h_4
  obtain ⟨r_3, h_5, h⟩ := bind_some h
  refine aw_region [(0, { id := 0 }), (2, { id := 1, l := (List.map (AV.int .u8) ([] ++ r_2)), n := (([] ++ r_2)).length }), (4, { id := 2, l := (List.map (AV.int .u8) (([] ++ r_2) ++ a_3)), n := ((([] ++ r_2) ++ a_3)).length }), (5, { av := .tuple [.int .i64 r_3.1, .int .i64 r_3.2.1, .int .i64 r_3.2.2], frz := [2], l := [.sl false 1 (List.map (AV.int .u8) (([] ++ r_2) ++ a_3))] })] [0, 1, 2, 3, 9, 10, 11, 12] [] 3 (vcs := [0 = (([] : List AV)).length, True, (List.map (AV.int .u8) ([] ++ r_2)) = [] ++ (List.map (AV.int .u8) r_2), (([] ++ r_2)).length = ((List.map (AV.int .u8) ([] ++ r_2))).length, (([] : List AV).length + ((List.map (AV.int .u8) r_2) : List AV).length) * 1 ≤ 140737488355328, (([] ++ r_2)).length = ((List.map (AV.int .u8) ([] ++ r_2))).length, True, (List.map (AV.int .u8) (([] ++ r_2) ++ a_3)) = (List.map (AV.int .u8) ([] ++ r_2)) ++ (List.map (AV.int .u8) a_3), ((([] ++ r_2) ++ a_3)).length = ((List.map (AV.int .u8) (([] ++ r_2) ++ a_3))).length, (((List.map (AV.int .u8) ([] ++ r_2)) : List AV).length + ((List.map (AV.int .u8) a_3) : List AV).length) * 1 ≤ 140737488355328, ((([] ++ r_2) ++ a_3)).length = ((List.map (AV.int .u8) (([] ++ r_2) ++ a_3))).length, ([.sl false 1 (List.map (AV.int .u8) (([] ++ r_2) ++ a_3))] : List AV) = [.sl false 1 (List.map (AV.int .u8) (([] ++ r_2) ++ a_3))], ([] : List BoxSt) = [], Triple prog 12 [] [.sl false 1 (List.map (AV.int .u8) (([] ++ r_2) ++ a_3))] [] (.tuple [.int .i64 r_3.1, .int .i64 r_3.2.1, .int .i64 r_3.2.2])]) (vals := [.int .i64 a_1, .str a_2, .sl false 1 (List.map (AV.int .u8) a_3), .int .i64 a_4, .sl false 1 (List.map (AV.int .u8) r_2), .int .i64 r_3.1, .int .i64 r_3.2.1, .int .i64 r_3.2.2]) (bxs := []) (by kernel_rfl) hmix ⟨(by first | (simp; done) | (simp; omega)), trivial, (by simp), (by simp), (by simpa using h_3), (by first | (simp; done) | (simp; omega)), trivial, (vc_app _ _), (by simp), (by simpa using h_4), (by first | (simp; done) | (simp; omega)), rfl, rfl, (cInt_ok F (([] ++ r_2) ++ a_3) r_3 h_5), trivial⟩ ?_
  refine aw_seq (by kernel_rfl) ?_
  refine aw_seq (by kernel_rfl) ?_
  refine aw_mid (mk [(1, .str a_2), (2, .sl false 1 (List.map (AV.int .u8) a_3)), (3, .int .i64 a_4), (58, .bool ((r_3.1 != a_1) || ((r_3.2.1 != (((r_2).length : Nat) : Int)) || ((r_3.2.2 != (0 : Int)) || (decide (r_3.2.1 < (1 : Int)) || decide (r_3.2.1 > (10 : Int)))))))] [] 0) ?_ ?_
  · rcases Bool.eq_false_or_eq_true (r_3.1 != a_1) with gg_2 | gg_2
    · refine aw_region [(4, { g := false }), (5, { g := false }), (6, { g := false }), (7, { g := false }), (8, { b := true }), (10, { g := false }), (11, { g := false }), (12, { b := true }), (14, { g := false }), (15, { g := false }), (16, { b := true }), (18, { g := false }), (19, { g := false }), (20, { b := true })] [1, 2, 3, 58] [] 3 (vcs := [(r_3.1 != a_1) = !false, (r_3.1 != a_1) = !false, (r_3.1 != a_1) = !false, (r_3.1 != a_1) = !false, (r_3.1 != a_1) = true, true = !false, true = !false, true = true, true = !false, true = !false, true = true, true = !false, true = !false, true = true]) (vals := [.str a_2, .sl false 1 (List.map (AV.int .u8) a_3), .int .i64 a_4, .bool true]) (bxs := []) (by kernel_rfl) hmix ⟨gg_2, gg_2, gg_2, gg_2, gg_2, rfl, rfl, rfl, rfl, rfl, rfl, rfl, rfl, rfl, trivial⟩ ?_
      exact ⟨rfl, (sub_wk [] [] [(1, .str a_2), (2, .sl false 1 (List.map (AV.int .u8) a_3)), (3, .int .i64 a_4), (58, .bool ((r_3.1 != a_1) || ((r_3.2.1 != (((r_2).length : Nat) : Int)) || ((r_3.2.2 != (0 : Int)) || (decide (r_3.2.1 < (1 : Int)) || decide (r_3.2.1 > (10 : Int)))))))] [] (vcs := [((.str a_2 : AV) = .str a_2 : Prop), (1 = 1 : Prop), ((List.map (AV.int .u8) a_3) = (List.map (AV.int .u8) a_3) : Prop), ((!false || false) = true : Prop), ((.int .i64 a_4 : AV) = .int .i64 a_4 : Prop), ((.bool true : AV) = .bool ((r_3.1 != a_1) || ((r_3.2.1 != (((r_2).length : Nat) : Int)) || ((r_3.2.2 != (0 : Int)) || (decide (r_3.2.1 < (1 : Int)) || decide (r_3.2.1 > (10 : Int)))))) : Prop)]) (by kernel_rfl) ⟨rfl, rfl, rfl, rfl, rfl, (congrArg AV.bool (ort gg_2)), trivial⟩)⟩
    · rcases Bool.eq_false_or_eq_true (r_3.2.1 != (((r_2).length : Nat) : Int)) with gg_3 | gg_3
      · refine aw_region [(6, { n := (r_2).length }), (8, { b := false }), (10, { g := false }), (11, { g := false }), (12, { b := true }), (14, { g := false }), (15, { g := false }), (16, { b := true }), (18, { g := false }), (19, { g := false }), (20, { b := true })] [1, 2, 3, 58] [] 3 (vcs := [(r_3.1 != a_1) = false, (r_3.1 != a_1) = false, (r_3.1 != a_1) = false, ((List.map (AV.int .u8) r_2)).length = (r_2).length, (r_3.1 != a_1) = false, (r_3.1 != a_1) = false, (r_3.2.1 != (((r_2).length : Nat) : Int)) = !false, (r_3.2.1 != (((r_2).length : Nat) : Int)) = !false, (r_3.2.1 != (((r_2).length : Nat) : Int)) = true, true = !false, true = !false, true = true, true = !false, true = !false, true = true]) (vals := [.str a_2, .sl false 1 (List.map (AV.int .u8) a_3), .int .i64 a_4, .bool true]) (bxs := []) (by kernel_rfl) hmix ⟨gg_2, gg_2, gg_2, (vc_len _), gg_2, gg_2, gg_3, gg_3, gg_3, rfl, rfl, rfl, rfl, rfl, rfl, trivial⟩ ?_
        exact ⟨rfl, (sub_wk [] [] [(1, .str a_2), (2, .sl false 1 (List.map (AV.int .u8) a_3)), (3, .int .i64 a_4), (58, .bool ((r_3.1 != a_1) || ((r_3.2.1 != (((r_2).length : Nat) : Int)) || ((r_3.2.2 != (0 : Int)) || (decide (r_3.2.1 < (1 : Int)) || decide (r_3.2.1 > (10 : Int)))))))] [] (vcs := [((.str a_2 : AV) = .str a_2 : Prop), (1 = 1 : Prop), ((List.map (AV.int .u8) a_3) = (List.map (AV.int .u8) a_3) : Prop), ((!false || false) = true : Prop), ((.int .i64 a_4 : AV) = .int .i64 a_4 : Prop), ((.bool true : AV) = .bool ((r_3.1 != a_1) || ((r_3.2.1 != (((r_2).length : Nat) : Int)) || ((r_3.2.2 != (0 : Int)) || (decide (r_3.2.1 < (1 : Int)) || decide (r_3.2.1 > (10 : Int)))))) : Prop)]) (by kernel_rfl) ⟨rfl, rfl, rfl, rfl, rfl, (congrArg AV.bool (orf gg_2 (ort gg_3))), trivial⟩)⟩
      · rcases Bool.eq_false_or_eq_true (r_3.2.2 != (0 : Int)) with gg_4 | gg_4
        · refine aw_region [(6, { n := (r_2).length }), (8, { b := false }), (12, { b := false }), (14, { g := false }), (15, { g := false }), (16, { b := true }), (18, { g := false }), (19, { g := false }), (20, { b := true })] [1, 2, 3, 58] [] 3 (vcs := [(r_3.1 != a_1) = false, (r_3.1 != a_1) = false, (r_3.1 != a_1) = false, ((List.map (AV.int .u8) r_2)).length = (r_2).length, (r_3.1 != a_1) = false, (r_3.1 != a_1) = false, (r_3.2.1 != (((r_2).length : Nat) : Int)) = false, (r_3.2.1 != (((r_2).length : Nat) : Int)) = false, (r_3.2.1 != (((r_2).length : Nat) : Int)) = false, (r_3.2.2 != (0 : Int)) = !false, (r_3.2.2 != (0 : Int)) = !false, (r_3.2.2 != (0 : Int)) = true, true = !false, true = !false, true = true]) (vals := [.str a_2, .sl false 1 (List.map (AV.int .u8) a_3), .int .i64 a_4, .bool true]) (bxs := []) (by kernel_rfl) hmix ⟨gg_2, gg_2, gg_2, (vc_len _), gg_2, gg_2, gg_3, gg_3, gg_3, gg_4, gg_4, gg_4, rfl, rfl, rfl, trivial⟩ ?_
          exact ⟨rfl, (sub_wk [] [] [(1, .str a_2), (2, .sl false 1 (List.map (AV.int .u8) a_3)), (3, .int .i64 a_4), (58, .bool ((r_3.1 != a_1) || ((r_3.2.1 != (((r_2).length : Nat) : Int)) || ((r_3.2.2 != (0 : Int)) || (decide (r_3.2.1 < (1 : Int)) || decide (r_3.2.1 > (10 : Int)))))))] [] (vcs := [((.str a_2 : AV) = .str a_2 : Prop), (1 = 1 : Prop), ((List.map (AV.int .u8) a_3) = (List.map (AV.int .u8) a_3) : Prop), ((!false || false) = true : Prop), ((.int .i64 a_4 : AV) = .int .i64 a_4 : Prop), ((.bool true : AV) = .bool ((r_3.1 != a_1) || ((r_3.2.1 != (((r_2).length : Nat) : Int)) || ((r_3.2.2 != (0 : Int)) || (decide (r_3.2.1 < (1 : Int)) || decide (r_3.2.1 > (10 : Int)))))) : Prop)]) (by kernel_rfl) ⟨rfl, rfl, rfl, rfl, rfl, (congrArg AV.bool (orf gg_2 (orf gg_3 (ort gg_4)))), trivial⟩)⟩
        · rcases Bool.eq_false_or_eq_true (decide (r_3.2.1 < (1 : Int))) with gg_5 | gg_5
          · refine aw_region [(6, { n := (r_2).length }), (8, { b := false }), (12, { b := false }), (16, { b := false }), (18, { g := false }), (19, { g := false }), (20, { b := true })] [1, 2, 3, 58] [] 3 (vcs := [(r_3.1 != a_1) = false, (r_3.1 != a_1) = false, (r_3.1 != a_1) = false, ((List.map (AV.int .u8) r_2)).length = (r_2).length, (r_3.1 != a_1) = false, (r_3.1 != a_1) = false, (r_3.2.1 != (((r_2).length : Nat) : Int)) = false, (r_3.2.1 != (((r_2).length : Nat) : Int)) = false, (r_3.2.1 != (((r_2).length : Nat) : Int)) = false, (r_3.2.2 != (0 : Int)) = false, (r_3.2.2 != (0 : Int)) = false, (r_3.2.2 != (0 : Int)) = false, (decide (r_3.2.1 < (1 : Int))) = !false, (decide (r_3.2.1 < (1 : Int))) = !false, (decide (r_3.2.1 < (1 : Int))) = true]) (vals := [.str a_2, .sl false 1 (List.map (AV.int .u8) a_3), .int .i64 a_4, .bool true]) (bxs := []) (by kernel_rfl) hmix ⟨gg_2, gg_2, gg_2, (vc_len _), gg_2, gg_2, gg_3, gg_3, gg_3, gg_4, gg_4, gg_4, gg_5, gg_5, gg_5, trivial⟩ ?_
            exact ⟨rfl, (sub_wk [] [] [(1, .str a_2), (2, .sl false 1 (List.map (AV.int .u8) a_3)), (3, .int .i64 a_4), (58, .bool ((r_3.1 != a_1) || ((r_3.2.1 != (((r_2).length : Nat) : Int)) || ((r_3.2.2 != (0 : Int)) || (decide (r_3.2.1 < (1 : Int)) || decide (r_3.2.1 > (10 : Int)))))))] [] (vcs := [((.str a_2 : AV) = .str a_2 : Prop), (1 = 1 : Prop), ((List.map (AV.int .u8) a_3) = (List.map (AV.int .u8) a_3) : Prop), ((!false || false) = true : Prop), ((.int .i64 a_4 : AV) = .int .i64 a_4 : Prop), ((.bool true : AV) = .bool ((r_3.1 != a_1) || ((r_3.2.1 != (((r_2).length : Nat) : Int)) || ((r_3.2.2 != (0 : Int)) || (decide (r_3.2.1 < (1 : Int)) || decide (r_3.2.1 > (10 : Int)))))) : Prop)]) (by kernel_rfl) ⟨rfl, rfl, rfl, rfl, rfl, (congrArg AV.bool (orf gg_2 (orf gg_3 (orf gg_4 (ort gg_5))))), trivial⟩)⟩
          · refine aw_region [(6, { n := (r_2).length }), (8, { b := false }), (12, { b := false }), (16, { b := false }), (20, { b := false })] [1, 2, 3, 58] [] 3 (vcs := [(r_3.1 != a_1) = false, (r_3.1 != a_1) = false, (r_3.1 != a_1) = false, ((List.map (AV.int .u8) r_2)).length = (r_2).length, (r_3.1 != a_1) = false, (r_3.1 != a_1) = false, (r_3.2.1 != (((r_2).length : Nat) : Int)) = false, (r_3.2.1 != (((r_2).length : Nat) : Int)) = false, (r_3.2.1 != (((r_2).length : Nat) : Int)) = false, (r_3.2.2 != (0 : Int)) = false, (r_3.2.2 != (0 : Int)) = false, (r_3.2.2 != (0 : Int)) = false, (decide (r_3.2.1 < (1 : Int))) = false, (decide (r_3.2.1 < (1 : Int))) = false, (decide (r_3.2.1 < (1 : Int))) = false]) (vals := [.str a_2, .sl false 1 (List.map (AV.int .u8) a_3), .int .i64 a_4, .bool (decide (r_3.2.1 > (10 : Int)))]) (bxs := []) (by kernel_rfl) hmix ⟨gg_2, gg_2, gg_2, (vc_len _), gg_2, gg_2, gg_3, gg_3, gg_3, gg_4, gg_4, gg_4, gg_5, gg_5, gg_5, trivial⟩ ?_
            exact ⟨rfl, (sub_wk [] [] [(1, .str a_2), (2, .sl false 1 (List.map (AV.int .u8) a_3)), (3, .int .i64 a_4), (58, .bool ((r_3.1 != a_1) || ((r_3.2.1 != (((r_2).length : Nat) : Int)) || ((r_3.2.2 != (0 : Int)) || (decide (r_3.2.1 < (1 : Int)) || decide (r_3.2.1 > (10 : Int)))))))] [] (vcs := [((.str a_2 : AV) = .str a_2 : Prop), (1 = 1 : Prop), ((List.map (AV.int .u8) a_3) = (List.map (AV.int .u8) a_3) : Prop), ((!false || false) = true : Prop), ((.int .i64 a_4 : AV) = .int .i64 a_4 : Prop), ((.bool (decide (r_3.2.1 > (10 : Int))) : AV) = .bool ((r_3.1 != a_1) || ((r_3.2.1 != (((r_2).length : Nat) : Int)) || ((r_3.2.2 != (0 : Int)) || (decide (r_3.2.1 < (1 : Int)) || decide (r_3.2.1 > (10 : Int)))))) : Prop)]) (by kernel_rfl) ⟨rfl, rfl, rfl, rfl, rfl, (congrArg AV.bool (orf gg_2 (orf gg_3 (orf gg_4 (orf gg_5 rfl))))), trivial⟩)⟩
  refine aw_cond (t := 58) (b := ((r_3.1 != a_1) || ((r_3.2.1 != (((r_2).length : Nat) : Int)) || ((r_3.2.2 != (0 : Int)) || (decide (r_3.2.1 < (1 : Int)) || decide (r_3.2.1 > (10 : Int))))))) (by kernel_rfl) (by kernel_rfl) ?_ ?_
  · intro g_2; replace h := cond_t g_2 h
    refine aw_seq (by kernel_rfl) ?_
    refine aw_region [] [8] [] 0 (vcs := []) (vals := [.bool false]) (bxs := []) (by kernel_rfl) hmix trivial ?_
    refine aw_ret (by kernel_rfl) ?_
    replace h := Option.some.inj h; subst h
    exact ⟨.inr rfl, Nat.le_of_ble_eq_true rfl, by kernel_rfl⟩
  intro g_2; replace h := cond_f g_2 h
  refine aw_skip (by kernel_rfl) ?_
  refine aw_seq (by kernel_rfl) ?_
  obtain ⟨r_4, h_6, h⟩ := bind_some h
  refine aw_region [(1, { av := .own 0 ((r_4).length), ids := [0], l := [.nilsl, .str a_2], post := [(.row 5 1 (List.map (AV.int .u8) r_4))] })] [1, 2, 3, 13] [0] 1 (vcs := [([.nilsl, .str a_2] : List AV) = [.nilsl, .str a_2], ([] : List BoxSt) = [], Triple prog 19 [] [.nilsl, .str a_2] [.row 5 1 (List.map (AV.int .u8) r_4)] (.own 0 ((r_4).length))]) (vals := [.str a_2, .sl false 1 (List.map (AV.int .u8) a_3), .int .i64 a_4, .own 0 ((r_4).length)]) (bxs := [.live (.row 5 1 (List.map (AV.int .u8) r_4))]) (by kernel_rfl) hmix ⟨rfl, rfl, (triple_lo (args' := [.sl false 1 [], .str a_2]) (cPutText_ok F [] a_2 r_4 h_6) rfl ⟨rfl, rfl, trivial⟩), trivial⟩ ?_
  refine aw_seq (by kernel_rfl) ?_
  obtain ⟨_, h_7, h⟩ := bind_some h; replace h_7 := need_some h_7
  obtain ⟨_, h_8, h⟩ := bind_some h; replace h_8 := need_some h_8
  obtain ⟨r_5, h_9, h⟩ := bind_some h
  refine aw_region [(0, { id := 1 }), (2, { id := 2, l := (List.map (AV.int .u8) ([] ++ r_4)), n := (([] ++ r_4)).length }), (4, { id := 3, l := (List.map (AV.int .u8) (([] ++ r_4) ++ a_3)), n := ((([] ++ r_4) ++ a_3)).length }), (6, { av := .tuple [.str r_5.1, .int .i64 r_5.2.1, .int .i64 r_5.2.2], frz := [3], l := [.sl false 1 (List.map (AV.int .u8) (([] ++ r_4) ++ a_3)), .int .i64 a_4] })] [1, 3, 13, 14, 15, 16] [0] 4 (vcs := [0 = (([] : List AV)).length, (r_4).length = ((List.map (AV.int .u8) r_4)).length, (List.map (AV.int .u8) ([] ++ r_4)) = [] ++ (List.map (AV.int .u8) r_4), (([] ++ r_4)).length = ((List.map (AV.int .u8) ([] ++ r_4))).length, (([] : List AV).length + ((List.map (AV.int .u8) r_4) : List AV).length) * 1 ≤ 140737488355328, (([] ++ r_4)).length = ((List.map (AV.int .u8) ([] ++ r_4))).length, True, (List.map (AV.int .u8) (([] ++ r_4) ++ a_3)) = (List.map (AV.int .u8) ([] ++ r_4)) ++ (List.map (AV.int .u8) a_3), ((([] ++ r_4) ++ a_3)).length = ((List.map (AV.int .u8) (([] ++ r_4) ++ a_3))).length, (((List.map (AV.int .u8) ([] ++ r_4)) : List AV).length + ((List.map (AV.int .u8) a_3) : List AV).length) * 1 ≤ 140737488355328, ((([] ++ r_4) ++ a_3)).length = ((List.map (AV.int .u8) (([] ++ r_4) ++ a_3))).length, ([.sl false 1 (List.map (AV.int .u8) (([] ++ r_4) ++ a_3)), .int .i64 a_4] : List AV) = [.sl false 1 (List.map (AV.int .u8) (([] ++ r_4) ++ a_3)), .int .i64 a_4], ([] : List BoxSt) = [], Triple prog 14 [] [.sl false 1 (List.map (AV.int .u8) (([] ++ r_4) ++ a_3)), .int .i64 a_4] [] (.tuple [.str r_5.1, .int .i64 r_5.2.1, .int .i64 r_5.2.2])]) (vals := [.str a_2, .int .i64 a_4, .own 0 ((r_4).length), .str r_5.1, .int .i64 r_5.2.1, .int .i64 r_5.2.2]) (bxs := [.live (.row 5 1 (List.map (AV.int .u8) r_4))]) (by kernel_rfl) hmix ⟨(by first | (simp; done) | (simp; omega)), (by first | (simp; done) | (simp; omega)), (by simp), (by simp), (by simpa using h_7), (by first | (simp; done) | (simp; omega)), trivial, (vc_app _ _), (by simp), (by simpa using h_8), (by first | (simp; done) | (simp; omega)), rfl, rfl, (cText_ok F (([] ++ r_4) ++ a_3) a_4 r_5 h_9), trivial⟩ ?_
  refine aw_seq (by kernel_rfl) ?_
  refine aw_seq (by kernel_rfl) ?_
  refine aw_region [] [1, 13, 14, 15, 16, 75] [0] 4 (vcs := []) (vals := [.str a_2, .own 0 ((r_4).length), .str r_5.1, .int .i64 r_5.2.1, .int .i64 r_5.2.2, .bool (decide ((((a_2).length : Nat) : Int) > a_4))]) (bxs := [.live (.row 5 1 (List.map (AV.int .u8) r_4))]) (by kernel_rfl) hmix trivial ?_
  refine aw_cond (t := 75) (b := (decide ((((a_2).length : Nat) : Int) > a_4))) (by kernel_rfl) (by kernel_rfl) ?_ ?_
  · intro g_3; replace h := cond_t g_3 h
    refine aw_seq (by kernel_rfl) ?_
    obtain ⟨p_1, h_11, h⟩ := bind_some h
    refine aw_mid (mk [(8, .bool p_1)] [] 0) ?_ ?_
    · replace h := h_11
      rcases Bool.eq_false_or_eq_true (r_5.1 == ([] : List Int)) with gg_6 | gg_6
      · replace h := cond_t gg_6 h
        rcases Bool.eq_false_or_eq_true (r_5.2.1 == (0 : Int)) with gg_7 | gg_7
        · replace h := cond_t gg_7 h
          rcases Bool.eq_false_or_eq_true (r_5.2.2 == (7 : Int)) with gg_8 | gg_8
          · replace h := cond_t gg_8 h
            obtain ⟨r_6, h_10, h⟩ := bind_some h
            refine aw_region [(5, { b := true }), (9, { b := true }), (11, { av := .bool r_6, l := [] }), (12, { b := true })] [8] [] 4 (vcs := [(r_5.1 == ([] : List Int)) = true, (r_5.1 == ([] : List Int)) = true, (r_5.1 == ([] : List Int)) = true, (r_5.2.1 == (0 : Int)) = true, (r_5.2.1 == (0 : Int)) = true, (r_5.2.1 == (0 : Int)) = true, (r_5.2.2 == (7 : Int)) = true, ([] : List AV) = [], ([] : List BoxSt) = [], Triple prog 11 [] [] [] (.bool r_6), (r_5.2.2 == (7 : Int)) = true]) (vals := [.bool r_6]) (bxs := []) (by kernel_rfl) hmix ⟨gg_6, gg_6, gg_6, gg_7, gg_7, gg_7, gg_8, rfl, rfl, (lives_ok F r_6 h_10), gg_8, trivial⟩ ?_
            replace h := Option.some.inj h; subst h
            exact ⟨rfl, (sub_wk [] [] [(8, .bool r_6)] [] (vcs := [((.bool r_6 : AV) = .bool r_6 : Prop)]) (by kernel_rfl) ⟨rfl, trivial⟩)⟩
          · replace h := cond_f gg_8 h
            refine aw_region [(5, { b := true }), (9, { b := true }), (11, { g := false }), (12, { b := false })] [8] [] 4 (vcs := [(r_5.1 == ([] : List Int)) = true, (r_5.1 == ([] : List Int)) = true, (r_5.1 == ([] : List Int)) = true, (r_5.2.1 == (0 : Int)) = true, (r_5.2.1 == (0 : Int)) = true, (r_5.2.1 == (0 : Int)) = true, (r_5.2.2 == (7 : Int)) = !true, (r_5.2.2 == (7 : Int)) = false]) (vals := [.bool false]) (bxs := []) (by kernel_rfl) hmix ⟨gg_6, gg_6, gg_6, gg_7, gg_7, gg_7, gg_8, gg_8, trivial⟩ ?_
            replace h := Option.some.inj h; subst h
            exact ⟨rfl, (sub_wk [] [] [(8, .bool false)] [] (vcs := [((.bool false : AV) = .bool false : Prop)]) (by kernel_rfl) ⟨rfl, trivial⟩)⟩
        · replace h := cond_f gg_7 h
          refine aw_region [(5, { b := true }), (7, { g := false }), (8, { g := false }), (9, { b := false }), (11, { g := false }), (12, { b := false })] [8] [] 4 (vcs := [(r_5.1 == ([] : List Int)) = true, (r_5.1 == ([] : List Int)) = true, (r_5.1 == ([] : List Int)) = true, (r_5.2.1 == (0 : Int)) = !true, (r_5.2.1 == (0 : Int)) = !true, (r_5.2.1 == (0 : Int)) = false, false = !true, false = false]) (vals := [.bool false]) (bxs := []) (by kernel_rfl) hmix ⟨gg_6, gg_6, gg_6, gg_7, gg_7, gg_7, rfl, rfl, trivial⟩ ?_
          replace h := Option.some.inj h; subst h
          exact ⟨rfl, (sub_wk [] [] [(8, .bool false)] [] (vcs := [((.bool false : AV) = .bool false : Prop)]) (by kernel_rfl) ⟨rfl, trivial⟩)⟩
      · replace h := cond_f gg_6 h
        refine aw_region [(3, { g := false }), (4, { g := false }), (5, { b := false }), (7, { g := false }), (8, { g := false }), (9, { b := false }), (11, { g := false }), (12, { b := false })] [8] [] 4 (vcs := [(r_5.1 == ([] : List Int)) = !true, (r_5.1 == ([] : List Int)) = !true, (r_5.1 == ([] : List Int)) = false, false = !true, false = !true, false = false, false = !true, false = false]) (vals := [.bool false]) (bxs := []) (by kernel_rfl) hmix ⟨gg_6, gg_6, gg_6, rfl, rfl, rfl, rfl, rfl, trivial⟩ ?_
        replace h := Option.some.inj h; subst h
        exact ⟨rfl, (sub_wk [] [] [(8, .bool false)] [] (vcs := [((.bool false : AV) = .bool false : Prop)]) (by kernel_rfl) ⟨rfl, trivial⟩)⟩
    refine aw_ret (by kernel_rfl) ?_
    replace h := Option.some.inj h; subst h
    exact ⟨.inr rfl, Nat.le_of_ble_eq_true rfl, by kernel_rfl⟩
  intro g_3; replace h := cond_f g_3 h
  refine aw_skip (by kernel_rfl) ?_
  refine aw_seq (by kernel_rfl) ?_
  obtain ⟨p_2, h_13, h⟩ := bind_some h
  refine aw_mid (mk [(8, .bool p_2)] [] 0) ?_ ?_
  · replace h := h_13
    rcases Bool.eq_false_or_eq_true (r_5.1 == a_2) with gg_9 | gg_9
    · replace h := cond_t gg_9 h
      rcases Bool.eq_false_or_eq_true (r_5.2.1 == (((r_4).length : Nat) : Int)) with gg_10 | gg_10
      · replace h := cond_t gg_10 h
        rcases Bool.eq_false_or_eq_true (r_5.2.2 == (0 : Int)) with gg_11 | gg_11
        · replace h := cond_t gg_11 h
          obtain ⟨r_7, h_12, h⟩ := bind_some h
          refine aw_region [(8, { b := true }), (12, { b := true }), (14, { av := .bool r_7, l := [] }), (15, { b := true })] [8] [] 4 (vcs := [(r_5.1 == a_2) = true, (r_5.1 == a_2) = true, (r_5.1 == a_2) = true, (r_5.1 == a_2) = true, (r_5.1 == a_2) = true, (r_5.2.1 == (((r_4).length : Nat) : Int)) = true, (r_5.2.1 == (((r_4).length : Nat) : Int)) = true, (r_5.2.1 == (((r_4).length : Nat) : Int)) = true, (r_5.2.2 == (0 : Int)) = true, ([] : List AV) = [], ([] : List BoxSt) = [], Triple prog 11 [] [] [] (.bool r_7), (r_5.2.2 == (0 : Int)) = true]) (vals := [.bool r_7]) (bxs := []) (by kernel_rfl) hmix ⟨gg_9, gg_9, gg_9, gg_9, gg_9, gg_10, gg_10, gg_10, gg_11, rfl, rfl, (lives_ok F r_7 h_12), gg_11, trivial⟩ ?_
          replace h := Option.some.inj h; subst h
          exact ⟨rfl, (sub_wk [] [] [(8, .bool r_7)] [] (vcs := [((.bool r_7 : AV) = .bool r_7 : Prop)]) (by kernel_rfl) ⟨rfl, trivial⟩)⟩
        · replace h := cond_f gg_11 h
          refine aw_region [(8, { b := true }), (12, { b := true }), (14, { g := false }), (15, { b := false })] [8] [] 4 (vcs := [(r_5.1 == a_2) = true, (r_5.1 == a_2) = true, (r_5.1 == a_2) = true, (r_5.1 == a_2) = true, (r_5.1 == a_2) = true, (r_5.2.1 == (((r_4).length : Nat) : Int)) = true, (r_5.2.1 == (((r_4).length : Nat) : Int)) = true, (r_5.2.1 == (((r_4).length : Nat) : Int)) = true, (r_5.2.2 == (0 : Int)) = !true, (r_5.2.2 == (0 : Int)) = false]) (vals := [.bool false]) (bxs := []) (by kernel_rfl) hmix ⟨gg_9, gg_9, gg_9, gg_9, gg_9, gg_10, gg_10, gg_10, gg_11, gg_11, trivial⟩ ?_
          replace h := Option.some.inj h; subst h
          exact ⟨rfl, (sub_wk [] [] [(8, .bool false)] [] (vcs := [((.bool false : AV) = .bool false : Prop)]) (by kernel_rfl) ⟨rfl, trivial⟩)⟩
      · replace h := cond_f gg_10 h
        refine aw_region [(8, { b := true }), (10, { g := false }), (11, { g := false }), (12, { b := false }), (14, { g := false }), (15, { b := false })] [8] [] 4 (vcs := [(r_5.1 == a_2) = true, (r_5.1 == a_2) = true, (r_5.1 == a_2) = true, (r_5.1 == a_2) = true, (r_5.1 == a_2) = true, (r_5.2.1 == (((r_4).length : Nat) : Int)) = !true, (r_5.2.1 == (((r_4).length : Nat) : Int)) = !true, (r_5.2.1 == (((r_4).length : Nat) : Int)) = false, false = !true, false = false]) (vals := [.bool false]) (bxs := []) (by kernel_rfl) hmix ⟨gg_9, gg_9, gg_9, gg_9, gg_9, gg_10, gg_10, gg_10, rfl, rfl, trivial⟩ ?_
        replace h := Option.some.inj h; subst h
        exact ⟨rfl, (sub_wk [] [] [(8, .bool false)] [] (vcs := [((.bool false : AV) = .bool false : Prop)]) (by kernel_rfl) ⟨rfl, trivial⟩)⟩
    · replace h := cond_f gg_9 h
      refine aw_region [(4, { g := false }), (5, { g := false }), (6, { g := false }), (7, { g := false }), (8, { b := false }), (10, { g := false }), (11, { g := false }), (12, { b := false }), (14, { g := false }), (15, { b := false })] [8] [] 4 (vcs := [(r_5.1 == a_2) = !true, (r_5.1 == a_2) = !true, (r_5.1 == a_2) = !true, (r_5.1 == a_2) = !true, (r_5.1 == a_2) = false, false = !true, false = !true, false = false, false = !true, false = false]) (vals := [.bool false]) (bxs := []) (by kernel_rfl) hmix ⟨gg_9, gg_9, gg_9, gg_9, gg_9, rfl, rfl, rfl, rfl, rfl, trivial⟩ ?_
      replace h := Option.some.inj h; subst h
      exact ⟨rfl, (sub_wk [] [] [(8, .bool false)] [] (vcs := [((.bool false : AV) = .bool false : Prop)]) (by kernel_rfl) ⟨rfl, trivial⟩)⟩
  refine aw_ret (by kernel_rfl) ?_
  replace h := Option.some.inj h; subst h
  exact ⟨.inr rfl, Nat.le_of_ble_eq_true rfl, by kernel_rfl⟩

theorem lUnique_ok (F : Nat) (a_1 : List (Int)) (a_2 : Int) (r : Bool) (h : lUnique F a_1 a_2 = some r) : Triple prog 9 [] [.sl false 1 (List.map (AV.int .u8) a_1), .int .i64 a_2] [] (.bool r) := by
  refine triple_intro (fn := Go.Proofs.Try.f9) (code := codeOf Go.Proofs.Try.f9) (by kernel_rfl) (by kernel_rfl) (Nat.le_of_ble_eq_true (by kernel_rfl)) ?_
  unfold lUnique at h
  refine aw_seq (by kernel_rfl) ?_
  refine aw_region [] [0, 1] [] 0 (vcs := []) (vals := [.sl false 1 (List.map (AV.int .u8) a_1), .int .i64 a_2]) (bxs := []) (by kernel_rfl) hmix trivial ?_
  refine aw_seq (by kernel_rfl) ?_
  refine aw_seq (by kernel_rfl) ?_
  refine aw_region [(1, { n := (a_1).length })] [0, 1, 13] [] 0 (vcs := [((List.map (AV.int .u8) a_1)).length = (a_1).length]) (vals := [.sl false 1 (List.map (AV.int .u8) a_1), .int .i64 a_2, .bool (decide ((((a_1).length : Nat) : Int) > (300 : Int)))]) (bxs := []) (by kernel_rfl) hmix ⟨(vc_len _), trivial⟩ ?_
  refine aw_cond (t := 13) (b := (decide ((((a_1).length : Nat) : Int) > (300 : Int)))) (by kernel_rfl) (by kernel_rfl) ?_ ?_
  · intro g_1; replace h := cond_t g_1 h
    refine aw_seq (by kernel_rfl) ?_
    obtain ⟨r_1, h_1, h⟩ := bind_some h
    refine aw_region [(0, { av := .bool r_1, l := [] })] [4] [] 0 (vcs := [([] : List AV) = [], ([] : List BoxSt) = [], Triple prog 11 [] [] [] (.bool r_1)]) (vals := [.bool r_1]) (bxs := []) (by kernel_rfl) hmix ⟨rfl, rfl, (lives_ok F r_1 h_1), trivial⟩ ?_
    refine aw_ret (by kernel_rfl) ?_
    replace h := Option.some.inj h; subst h
    exact ⟨.inr rfl, Nat.le_of_ble_eq_true rfl, by kernel_rfl⟩
  intro g_1; replace h := cond_f g_1 h
  refine aw_skip (by kernel_rfl) ?_
  refine aw_seq (by kernel_rfl) ?_
  obtain ⟨r_2, h_2, h⟩ := bind_some h
  refine aw_region [(1, { av := .tuple [.int .i64 r_2.1, .int .i64 r_2.2.1, .int .i64 r_2.2.2], l := [.sl false 1 (List.map (AV.int .u8) a_1)] })] [0, 1, 5, 6, 7] [] 0 (vcs := [([.sl false 1 (List.map (AV.int .u8) a_1)] : List AV) = [.sl false 1 (List.map (AV.int .u8) a_1)], ([] : List BoxSt) = [], Triple prog 12 [] [.sl false 1 (List.map (AV.int .u8) a_1)] [] (.tuple [.int .i64 r_2.1, .int .i64 r_2.2.1, .int .i64 r_2.2.2])]) (vals := [.sl false 1 (List.map (AV.int .u8) a_1), .int .i64 a_2, .int .i64 r_2.1, .int .i64 r_2.2.1, .int .i64 r_2.2.2]) (bxs := []) (by kernel_rfl) hmix ⟨rfl, rfl, (cInt_ok F a_1 r_2 h_2), trivial⟩ ?_
  refine aw_seq (by kernel_rfl) ?_
  refine aw_seq (by kernel_rfl) ?_
  obtain ⟨p_1, h_5, h⟩ := bind_some h
  refine aw_mid (mk [(0, .sl false 1 (List.map (AV.int .u8) a_1)), (1, .int .i64 a_2), (42, .bool p_1)] [] 0) ?_ ?_
  · replace h := h_5
    rcases Bool.eq_false_or_eq_true (r_2.2.2 == (0 : Int)) with gg_1 | gg_1
    · replace h := cond_t gg_1 h
      rcases Bool.eq_false_or_eq_true (decide (r_2.2.1 < (1 : Int))) with gg_2 | gg_2
      · replace h := cond_t gg_2 h
        refine aw_region [(6, { g := false }), (7, { g := false }), (8, { g := false }), (9, { g := false }), (10, { b := true }), (12, { g := false }), (13, { g := false }), (14, { g := false }), (15, { g := false }), (16, { g := false }), (17, { g := false }), (18, { g := false }), (19, { g := false }), (20, { b := true }), (21, { b := true })] [0, 1, 42] [] 0 (vcs := [(r_2.2.2 == (0 : Int)) = true, (r_2.2.2 == (0 : Int)) = true, (r_2.2.2 == (0 : Int)) = true, (decide (r_2.2.1 < (1 : Int))) = !false, (decide (r_2.2.1 < (1 : Int))) = !false, (decide (r_2.2.1 < (1 : Int))) = !false, (decide (r_2.2.1 < (1 : Int))) = !false, (r_2.2.2 == (0 : Int)) = true, (decide (r_2.2.1 < (1 : Int))) = true, (r_2.2.2 == (0 : Int)) = true, true = !false, true = !false, true = !false, true = !false, true = !false, true = !false, true = !false, true = !false, (r_2.2.2 == (0 : Int)) = true, true = true, (r_2.2.2 == (0 : Int)) = true]) (vals := [.sl false 1 (List.map (AV.int .u8) a_1), .int .i64 a_2, .bool true]) (bxs := []) (by kernel_rfl) hmix ⟨gg_1, gg_1, gg_1, gg_2, gg_2, gg_2, gg_2, gg_1, gg_2, gg_1, rfl, rfl, rfl, rfl, rfl, rfl, rfl, rfl, gg_1, rfl, gg_1, trivial⟩ ?_
        replace h := Option.some.inj h; subst h
        exact ⟨rfl, (sub_wk [] [] [(0, .sl false 1 (List.map (AV.int .u8) a_1)), (1, .int .i64 a_2), (42, .bool true)] [] (vcs := [(1 = 1 : Prop), ((List.map (AV.int .u8) a_1) = (List.map (AV.int .u8) a_1) : Prop), ((!false || false) = true : Prop), ((.int .i64 a_2 : AV) = .int .i64 a_2 : Prop), ((.bool true : AV) = .bool true : Prop)]) (by kernel_rfl) ⟨rfl, rfl, rfl, rfl, rfl, trivial⟩)⟩
      · replace h := cond_f gg_2 h
        rcases Bool.eq_false_or_eq_true (decide (r_2.2.1 > (((a_1).length : Nat) : Int))) with gg_3 | gg_3
        · replace h := cond_t gg_3 h
          refine aw_region [(8, { n := (a_1).length }), (10, { b := false }), (12, { g := false }), (13, { g := false }), (14, { g := false }), (15, { g := false }), (16, { g := false }), (17, { g := false }), (18, { g := false }), (19, { g := false }), (20, { b := true }), (21, { b := true })] [0, 1, 42] [] 0 (vcs := [(r_2.2.2 == (0 : Int)) = true, (r_2.2.2 == (0 : Int)) = true, (r_2.2.2 == (0 : Int)) = true, (decide (r_2.2.1 < (1 : Int))) = false, (decide (r_2.2.1 < (1 : Int))) = false, (decide (r_2.2.1 < (1 : Int))) = false, ((List.map (AV.int .u8) a_1)).length = (a_1).length, (decide (r_2.2.1 < (1 : Int))) = false, (r_2.2.2 == (0 : Int)) = true, (decide (r_2.2.1 < (1 : Int))) = false, (r_2.2.2 == (0 : Int)) = true, (decide (r_2.2.1 > (((a_1).length : Nat) : Int))) = !false, (decide (r_2.2.1 > (((a_1).length : Nat) : Int))) = !false, (decide (r_2.2.1 > (((a_1).length : Nat) : Int))) = !false, (decide (r_2.2.1 > (((a_1).length : Nat) : Int))) = !false, (decide (r_2.2.1 > (((a_1).length : Nat) : Int))) = !false, (decide (r_2.2.1 > (((a_1).length : Nat) : Int))) = !false, (decide (r_2.2.1 > (((a_1).length : Nat) : Int))) = !false, (decide (r_2.2.1 > (((a_1).length : Nat) : Int))) = !false, (r_2.2.2 == (0 : Int)) = true, (decide (r_2.2.1 > (((a_1).length : Nat) : Int))) = true, (r_2.2.2 == (0 : Int)) = true]) (vals := [.sl false 1 (List.map (AV.int .u8) a_1), .int .i64 a_2, .bool true]) (bxs := []) (by kernel_rfl) hmix ⟨gg_1, gg_1, gg_1, gg_2, gg_2, gg_2, (vc_len _), gg_2, gg_1, gg_2, gg_1, gg_3, gg_3, gg_3, gg_3, gg_3, gg_3, gg_3, gg_3, gg_1, gg_3, gg_1, trivial⟩ ?_
          replace h := Option.some.inj h; subst h
          exact ⟨rfl, (sub_wk [] [] [(0, .sl false 1 (List.map (AV.int .u8) a_1)), (1, .int .i64 a_2), (42, .bool true)] [] (vcs := [(1 = 1 : Prop), ((List.map (AV.int .u8) a_1) = (List.map (AV.int .u8) a_1) : Prop), ((!false || false) = true : Prop), ((.int .i64 a_2 : AV) = .int .i64 a_2 : Prop), ((.bool true : AV) = .bool true : Prop)]) (by kernel_rfl) ⟨rfl, rfl, rfl, rfl, rfl, trivial⟩)⟩
        · replace h := cond_f gg_3 h
          obtain ⟨r_3, h_3, h⟩ := bind_some h
          obtain ⟨_, h_4, h⟩ := bind_some h; replace h_4 := need_some h_4
          refine aw_region [(8, { n := (a_1).length }), (10, { b := false }), (13, { av := .sl false 1 (List.map (AV.int .u8) r_3), l := [.nilsl, .int .i64 r_2.1] }), (14, { s := r_3 }), (17, { l := (List.map (AV.int .u8) (sub a_1 (0 : Int) r_2.2.1)) }), (18, { s := sub a_1 (0 : Int) r_2.2.1 }), (20, { b := false }), (21, { b := true })] [0, 1, 42] [] 0 (vcs := [(r_2.2.2 == (0 : Int)) = true, (r_2.2.2 == (0 : Int)) = true, (r_2.2.2 == (0 : Int)) = true, (decide (r_2.2.1 < (1 : Int))) = false, (decide (r_2.2.1 < (1 : Int))) = false, (decide (r_2.2.1 < (1 : Int))) = false, ((List.map (AV.int .u8) a_1)).length = (a_1).length, (decide (r_2.2.1 < (1 : Int))) = false, (r_2.2.2 == (0 : Int)) = true, (decide (r_2.2.1 < (1 : Int))) = false, (r_2.2.2 == (0 : Int)) = true, (decide (r_2.2.1 > (((a_1).length : Nat) : Int))) = false, (decide (r_2.2.1 > (((a_1).length : Nat) : Int))) = false, ([.nilsl, .int .i64 r_2.1] : List AV) = [.nilsl, .int .i64 r_2.1], ([] : List BoxSt) = [], Triple prog 18 [] [.nilsl, .int .i64 r_2.1] [] (.sl false 1 (List.map (AV.int .u8) r_3)), (decide (r_2.2.1 > (((a_1).length : Nat) : Int))) = false, (List.map (AV.int .u8) r_3) = List.map (AV.int .u8) r_3, (decide (r_2.2.1 > (((a_1).length : Nat) : Int))) = false, (decide (r_2.2.1 > (((a_1).length : Nat) : Int))) = false, (decide (r_2.2.1 > (((a_1).length : Nat) : Int))) = false, (0 : Int) ≤ (0 : Int), (0 : Int) ≤ r_2.2.1, r_2.2.1 ≤ ((((List.map (AV.int .u8) a_1)).length : Nat) : Int), (List.map (AV.int .u8) (sub a_1 (0 : Int) r_2.2.1)) = (((List.map (AV.int .u8) a_1)).take (r_2.2.1).toNat).drop ((0 : Int)).toNat, (decide (r_2.2.1 > (((a_1).length : Nat) : Int))) = false, (List.map (AV.int .u8) (sub a_1 (0 : Int) r_2.2.1)) = List.map (AV.int .u8) (sub a_1 (0 : Int) r_2.2.1), (decide (r_2.2.1 > (((a_1).length : Nat) : Int))) = false, (r_2.2.2 == (0 : Int)) = true, (decide (r_2.2.1 > (((a_1).length : Nat) : Int))) = false, (r_2.2.2 == (0 : Int)) = true]) (vals := [.sl false 1 (List.map (AV.int .u8) a_1), .int .i64 a_2, .bool (!(r_3 == (sub a_1 (0 : Int) r_2.2.1)))]) (bxs := []) (by kernel_rfl) hmix ⟨gg_1, gg_1, gg_1, gg_2, gg_2, gg_2, (vc_len _), gg_2, gg_1, gg_2, gg_1, gg_3, gg_3, rfl, rfl, (triple_lo (args' := [.sl false 1 [], .int .i64 r_2.1]) (cPutInt_ok F [] r_2.1 r_3 h_3) rfl ⟨rfl, rfl, trivial⟩), gg_3, rfl, gg_3, gg_3, gg_3, (by decide), h_4.1, (vc_lenle h_4.2), (vc_sub _ _ _), gg_3, rfl, gg_3, gg_1, gg_3, gg_1, trivial⟩ ?_
          replace h := Option.some.inj h; subst h
          exact ⟨rfl, (sub_wk [] [] [(0, .sl false 1 (List.map (AV.int .u8) a_1)), (1, .int .i64 a_2), (42, .bool (!(r_3 == (sub a_1 (0 : Int) r_2.2.1))))] [] (vcs := [(1 = 1 : Prop), ((List.map (AV.int .u8) a_1) = (List.map (AV.int .u8) a_1) : Prop), ((!false || false) = true : Prop), ((.int .i64 a_2 : AV) = .int .i64 a_2 : Prop), ((.bool (!(r_3 == (sub a_1 (0 : Int) r_2.2.1))) : AV) = .bool (!(r_3 == (sub a_1 (0 : Int) r_2.2.1))) : Prop)]) (by kernel_rfl) ⟨rfl, rfl, rfl, rfl, rfl, trivial⟩)⟩
    · replace h := cond_f gg_1 h
      refine aw_region [(3, { g := false }), (4, { g := false }), (5, { g := false }), (10, { g := false }), (11, { g := false }), (20, { g := false }), (21, { b := false })] [0, 1, 42] [] 0 (vcs := [(r_2.2.2 == (0 : Int)) = !true, (r_2.2.2 == (0 : Int)) = !true, (r_2.2.2 == (0 : Int)) = !true, (r_2.2.2 == (0 : Int)) = !true, (r_2.2.2 == (0 : Int)) = !true, (r_2.2.2 == (0 : Int)) = !true, (r_2.2.2 == (0 : Int)) = false]) (vals := [.sl false 1 (List.map (AV.int .u8) a_1), .int .i64 a_2, .bool false]) (bxs := []) (by kernel_rfl) hmix ⟨gg_1, gg_1, gg_1, gg_1, gg_1, gg_1, gg_1, trivial⟩ ?_
      replace h := Option.some.inj h; subst h
      exact ⟨rfl, (sub_wk [] [] [(0, .sl false 1 (List.map (AV.int .u8) a_1)), (1, .int .i64 a_2), (42, .bool false)] [] (vcs := [(1 = 1 : Prop), ((List.map (AV.int .u8) a_1) = (List.map (AV.int .u8) a_1) : Prop), ((!false || false) = true : Prop), ((.int .i64 a_2 : AV) = .int .i64 a_2 : Prop), ((.bool false : AV) = .bool false : Prop)]) (by kernel_rfl) ⟨rfl, rfl, rfl, rfl, rfl, trivial⟩)⟩
  refine aw_cond (t := 42) (b := p_1) (by kernel_rfl) (by kernel_rfl) ?_ ?_
  · intro g_2; replace h := cond_t g_2 h
    refine aw_seq (by kernel_rfl) ?_
    refine aw_region [] [4] [] 0 (vcs := []) (vals := [.bool false]) (bxs := []) (by kernel_rfl) hmix trivial ?_
    refine aw_ret (by kernel_rfl) ?_
    replace h := Option.some.inj h; subst h
    exact ⟨.inr rfl, Nat.le_of_ble_eq_true rfl, by kernel_rfl⟩
  intro g_2; replace h := cond_f g_2 h
  refine aw_skip (by kernel_rfl) ?_
  refine aw_seq (by kernel_rfl) ?_
  obtain ⟨r_4, h_6, h⟩ := bind_some h
  refine aw_region [(2, { av := .tuple [.str r_4.1, .int .i64 r_4.2.1, .int .i64 r_4.2.2], l := [.sl false 1 (List.map (AV.int .u8) a_1), .int .i64 a_2] })] [0, 8, 9, 10] [] 0 (vcs := [([.sl false 1 (List.map (AV.int .u8) a_1), .int .i64 a_2] : List AV) = [.sl false 1 (List.map (AV.int .u8) a_1), .int .i64 a_2], ([] : List BoxSt) = [], Triple prog 14 [] [.sl false 1 (List.map (AV.int .u8) a_1), .int .i64 a_2] [] (.tuple [.str r_4.1, .int .i64 r_4.2.1, .int .i64 r_4.2.2])]) (vals := [.sl false 1 (List.map (AV.int .u8) a_1), .str r_4.1, .int .i64 r_4.2.1, .int .i64 r_4.2.2]) (bxs := []) (by kernel_rfl) hmix ⟨rfl, rfl, (cText_ok F a_1 a_2 r_4 h_6), trivial⟩ ?_
  refine aw_seq (by kernel_rfl) ?_
  refine aw_seq (by kernel_rfl) ?_
  obtain ⟨p_2, h_9, h⟩ := bind_some h
  refine aw_mid (mk [(71, .bool p_2)] [] 0) ?_ ?_
  · replace h := h_9
    rcases Bool.eq_false_or_eq_true (r_4.2.2 == (0 : Int)) with gg_4 | gg_4
    · replace h := cond_t gg_4 h
      rcases Bool.eq_false_or_eq_true (decide (r_4.2.1 < (1 : Int))) with gg_5 | gg_5
      · replace h := cond_t gg_5 h
        refine aw_region [(6, { g := false }), (7, { g := false }), (8, { g := false }), (9, { g := false }), (10, { b := true }), (12, { g := false }), (13, { g := false }), (14, { g := false }), (15, { g := false }), (16, { g := false }), (17, { g := false }), (18, { g := false }), (19, { g := false }), (20, { b := true }), (21, { b := true })] [71] [] 0 (vcs := [(r_4.2.2 == (0 : Int)) = true, (r_4.2.2 == (0 : Int)) = true, (r_4.2.2 == (0 : Int)) = true, (decide (r_4.2.1 < (1 : Int))) = !false, (decide (r_4.2.1 < (1 : Int))) = !false, (decide (r_4.2.1 < (1 : Int))) = !false, (decide (r_4.2.1 < (1 : Int))) = !false, (r_4.2.2 == (0 : Int)) = true, (decide (r_4.2.1 < (1 : Int))) = true, (r_4.2.2 == (0 : Int)) = true, true = !false, true = !false, true = !false, true = !false, true = !false, true = !false, true = !false, true = !false, (r_4.2.2 == (0 : Int)) = true, true = true, (r_4.2.2 == (0 : Int)) = true]) (vals := [.bool true]) (bxs := []) (by kernel_rfl) hmix ⟨gg_4, gg_4, gg_4, gg_5, gg_5, gg_5, gg_5, gg_4, gg_5, gg_4, rfl, rfl, rfl, rfl, rfl, rfl, rfl, rfl, gg_4, rfl, gg_4, trivial⟩ ?_
        replace h := Option.some.inj h; subst h
        exact ⟨rfl, (sub_wk [] [] [(71, .bool true)] [] (vcs := [((.bool true : AV) = .bool true : Prop)]) (by kernel_rfl) ⟨rfl, trivial⟩)⟩
      · replace h := cond_f gg_5 h
        rcases Bool.eq_false_or_eq_true (decide (r_4.2.1 > (((a_1).length : Nat) : Int))) with gg_6 | gg_6
        · replace h := cond_t gg_6 h
          refine aw_region [(8, { n := (a_1).length }), (10, { b := false }), (12, { g := false }), (13, { g := false }), (14, { g := false }), (15, { g := false }), (16, { g := false }), (17, { g := false }), (18, { g := false }), (19, { g := false }), (20, { b := true }), (21, { b := true })] [71] [] 0 (vcs := [(r_4.2.2 == (0 : Int)) = true, (r_4.2.2 == (0 : Int)) = true, (r_4.2.2 == (0 : Int)) = true, (decide (r_4.2.1 < (1 : Int))) = false, (decide (r_4.2.1 < (1 : Int))) = false, (decide (r_4.2.1 < (1 : Int))) = false, ((List.map (AV.int .u8) a_1)).length = (a_1).length, (decide (r_4.2.1 < (1 : Int))) = false, (r_4.2.2 == (0 : Int)) = true, (decide (r_4.2.1 < (1 : Int))) = false, (r_4.2.2 == (0 : Int)) = true, (decide (r_4.2.1 > (((a_1).length : Nat) : Int))) = !false, (decide (r_4.2.1 > (((a_1).length : Nat) : Int))) = !false, (decide (r_4.2.1 > (((a_1).length : Nat) : Int))) = !false, (decide (r_4.2.1 > (((a_1).length : Nat) : Int))) = !false, (decide (r_4.2.1 > (((a_1).length : Nat) : Int))) = !false, (decide (r_4.2.1 > (((a_1).length : Nat) : Int))) = !false, (decide (r_4.2.1 > (((a_1).length : Nat) : Int))) = !false, (decide (r_4.2.1 > (((a_1).length : Nat) : Int))) = !false, (r_4.2.2 == (0 : Int)) = true, (decide (r_4.2.1 > (((a_1).length : Nat) : Int))) = true, (r_4.2.2 == (0 : Int)) = true]) (vals := [.bool true]) (bxs := []) (by kernel_rfl) hmix ⟨gg_4, gg_4, gg_4, gg_5, gg_5, gg_5, (vc_len _), gg_5, gg_4, gg_5, gg_4, gg_6, gg_6, gg_6, gg_6, gg_6, gg_6, gg_6, gg_6, gg_4, gg_6, gg_4, trivial⟩ ?_
          replace h := Option.some.inj h; subst h
          exact ⟨rfl, (sub_wk [] [] [(71, .bool true)] [] (vcs := [((.bool true : AV) = .bool true : Prop)]) (by kernel_rfl) ⟨rfl, trivial⟩)⟩
        · replace h := cond_f gg_6 h
          obtain ⟨r_5, h_7, h⟩ := bind_some h
          obtain ⟨_, h_8, h⟩ := bind_some h; replace h_8 := need_some h_8
          refine aw_region [(8, { n := (a_1).length }), (10, { b := false }), (13, { av := .own 0 ((r_5).length), ids := [0], l := [.nilsl, .str r_4.1], post := [(.row 5 1 (List.map (AV.int .u8) r_5))] }), (14, { s := r_5 }), (17, { l := (List.map (AV.int .u8) (sub a_1 (0 : Int) r_4.2.1)) }), (18, { s := sub a_1 (0 : Int) r_4.2.1 }), (20, { b := false }), (21, { b := true })] [71] [] 1 (vcs := [(r_4.2.2 == (0 : Int)) = true, (r_4.2.2 == (0 : Int)) = true, (r_4.2.2 == (0 : Int)) = true, (decide (r_4.2.1 < (1 : Int))) = false, (decide (r_4.2.1 < (1 : Int))) = false, (decide (r_4.2.1 < (1 : Int))) = false, ((List.map (AV.int .u8) a_1)).length = (a_1).length, (decide (r_4.2.1 < (1 : Int))) = false, (r_4.2.2 == (0 : Int)) = true, (decide (r_4.2.1 < (1 : Int))) = false, (r_4.2.2 == (0 : Int)) = true, (decide (r_4.2.1 > (((a_1).length : Nat) : Int))) = false, (decide (r_4.2.1 > (((a_1).length : Nat) : Int))) = false, ([.nilsl, .str r_4.1] : List AV) = [.nilsl, .str r_4.1], ([] : List BoxSt) = [], Triple prog 19 [] [.nilsl, .str r_4.1] [.row 5 1 (List.map (AV.int .u8) r_5)] (.own 0 ((r_5).length)), (decide (r_4.2.1 > (((a_1).length : Nat) : Int))) = false, (r_5).length = ((List.map (AV.int .u8) r_5)).length, (List.map (AV.int .u8) r_5) = List.map (AV.int .u8) r_5, (decide (r_4.2.1 > (((a_1).length : Nat) : Int))) = false, (decide (r_4.2.1 > (((a_1).length : Nat) : Int))) = false, (decide (r_4.2.1 > (((a_1).length : Nat) : Int))) = false, (0 : Int) ≤ (0 : Int), (0 : Int) ≤ r_4.2.1, r_4.2.1 ≤ ((((List.map (AV.int .u8) a_1)).length : Nat) : Int), (List.map (AV.int .u8) (sub a_1 (0 : Int) r_4.2.1)) = (((List.map (AV.int .u8) a_1)).take (r_4.2.1).toNat).drop ((0 : Int)).toNat, (decide (r_4.2.1 > (((a_1).length : Nat) : Int))) = false, (List.map (AV.int .u8) (sub a_1 (0 : Int) r_4.2.1)) = List.map (AV.int .u8) (sub a_1 (0 : Int) r_4.2.1), (decide (r_4.2.1 > (((a_1).length : Nat) : Int))) = false, (r_4.2.2 == (0 : Int)) = true, (decide (r_4.2.1 > (((a_1).length : Nat) : Int))) = false, (r_4.2.2 == (0 : Int)) = true]) (vals := [.bool (!(r_5 == (sub a_1 (0 : Int) r_4.2.1)))]) (bxs := []) (by kernel_rfl) hmix ⟨gg_4, gg_4, gg_4, gg_5, gg_5, gg_5, (vc_len _), gg_5, gg_4, gg_5, gg_4, gg_6, gg_6, rfl, rfl, (triple_lo (args' := [.sl false 1 [], .str r_4.1]) (cPutText_ok F [] r_4.1 r_5 h_7) rfl ⟨rfl, rfl, trivial⟩), gg_6, (by first | (simp; done) | (simp; omega)), rfl, gg_6, gg_6, gg_6, (by decide), h_8.1, (vc_lenle h_8.2), (vc_sub _ _ _), gg_6, rfl, gg_6, gg_4, gg_6, gg_4, trivial⟩ ?_
          replace h := Option.some.inj h; subst h
          exact ⟨rfl, (sub_wk [] [] [(71, .bool (!(r_5 == (sub a_1 (0 : Int) r_4.2.1))))] [] (vcs := [((.bool (!(r_5 == (sub a_1 (0 : Int) r_4.2.1))) : AV) = .bool (!(r_5 == (sub a_1 (0 : Int) r_4.2.1))) : Prop)]) (by kernel_rfl) ⟨rfl, trivial⟩)⟩
    · replace h := cond_f gg_4 h
      refine aw_region [(3, { g := false }), (4, { g := false }), (5, { g := false }), (10, { g := false }), (11, { g := false }), (20, { g := false }), (21, { b := false })] [71] [] 0 (vcs := [(r_4.2.2 == (0 : Int)) = !true, (r_4.2.2 == (0 : Int)) = !true, (r_4.2.2 == (0 : Int)) = !true, (r_4.2.2 == (0 : Int)) = !true, (r_4.2.2 == (0 : Int)) = !true, (r_4.2.2 == (0 : Int)) = !true, (r_4.2.2 == (0 : Int)) = false]) (vals := [.bool false]) (bxs := []) (by kernel_rfl) hmix ⟨gg_4, gg_4, gg_4, gg_4, gg_4, gg_4, gg_4, trivial⟩ ?_
      replace h := Option.some.inj h; subst h
      exact ⟨rfl, (sub_wk [] [] [(71, .bool false)] [] (vcs := [((.bool false : AV) = .bool false : Prop)]) (by kernel_rfl) ⟨rfl, trivial⟩)⟩
  refine aw_cond (t := 71) (b := p_2) (by kernel_rfl) (by kernel_rfl) ?_ ?_
  · intro g_3; replace h := cond_t g_3 h
    refine aw_seq (by kernel_rfl) ?_
    refine aw_region [] [4] [] 0 (vcs := []) (vals := [.bool false]) (bxs := []) (by kernel_rfl) hmix trivial ?_
    refine aw_ret (by kernel_rfl) ?_
    replace h := Option.some.inj h; subst h
    exact ⟨.inr rfl, Nat.le_of_ble_eq_true rfl, by kernel_rfl⟩
  intro g_3; replace h := cond_f g_3 h
  refine aw_skip (by kernel_rfl) ?_
  refine aw_seq (by kernel_rfl) ?_
  obtain ⟨r_6, h_10, h⟩ := bind_some h
  refine aw_region [(0, { av := .bool r_6, l := [] })] [4] [] 0 (vcs := [([] : List AV) = [], ([] : List BoxSt) = [], Triple prog 11 [] [] [] (.bool r_6)]) (vals := [.bool r_6]) (bxs := []) (by kernel_rfl) hmix ⟨rfl, rfl, (lives_ok F r_6 h_10), trivial⟩ ?_
  refine aw_ret (by kernel_rfl) ?_
  replace h := Option.some.inj h; subst h
  exact ⟨.inr rfl, Nat.le_of_ble_eq_true rfl, by kernel_rfl⟩

theorem lShort_ok (F : Nat) (a_1 : Int) (a_2 : List Int) (a_3 : Int) (r : Bool) (h : lShort F a_1 a_2 a_3 = some r) : Triple prog 10 [] [.int .i64 a_1, .str a_2, .int .i64 a_3] [] (.bool r) := by
  refine triple_intro (fn := Go.Proofs.Try.f10) (code := codeOf Go.Proofs.Try.f10) (by kernel_rfl) (by kernel_rfl) (Nat.le_of_ble_eq_true (by kernel_rfl)) ?_
  unfold lShort at h
  refine aw_seq (by kernel_rfl) ?_
  refine aw_region [] [0, 1, 2] [] 0 (vcs := []) (vals := [.int .i64 a_1, .str a_2, .int .i64 a_3]) (bxs := []) (by kernel_rfl) hmix trivial ?_
  refine aw_seq (by kernel_rfl) ?_
  refine aw_seq (by kernel_rfl) ?_
  refine aw_region [] [0, 1, 2, 17] [] 0 (vcs := []) (vals := [.int .i64 a_1, .str a_2, .int .i64 a_3, .bool (decide ((((a_2).length : Nat) : Int) > (300 : Int)))]) (bxs := []) (by kernel_rfl) hmix trivial ?_
  refine aw_cond (t := 17) (b := (decide ((((a_2).length : Nat) : Int) > (300 : Int)))) (by kernel_rfl) (by kernel_rfl) ?_ ?_
  · intro g_1; replace h := cond_t g_1 h
    refine aw_seq (by kernel_rfl) ?_
    obtain ⟨r_1, h_1, h⟩ := bind_some h
    refine aw_region [(0, { av := .bool r_1, l := [] })] [6] [] 0 (vcs := [([] : List AV) = [], ([] : List BoxSt) = [], Triple prog 11 [] [] [] (.bool r_1)]) (vals := [.bool r_1]) (bxs := []) (by kernel_rfl) hmix ⟨rfl, rfl, (lives_ok F r_1 h_1), trivial⟩ ?_
    refine aw_ret (by kernel_rfl) ?_
    replace h := Option.some.inj h; subst h
    exact ⟨.inr rfl, Nat.le_of_ble_eq_true rfl, by kernel_rfl⟩
  intro g_1; replace h := cond_f g_1 h
  refine aw_skip (by kernel_rfl) ?_
  refine aw_seq (by kernel_rfl) ?_
  obtain ⟨r_2, h_2, h⟩ := bind_some h
  obtain ⟨r_3, h_3, h⟩ := bind_some h
  refine aw_region [(1, { av := .sl false 1 (List.map (AV.int .u8) r_2), l := [.nilsl, .int .i64 a_1] }), (3, { av := .own 0 ((r_3).length), ids := [0], l := [.nilsl, .str a_2], post := [(.row 5 1 (List.map (AV.int .u8) r_3))] })] [1, 2, 7, 8] [0] 1 (vcs := [([.nilsl, .int .i64 a_1] : List AV) = [.nilsl, .int .i64 a_1], ([] : List BoxSt) = [], Triple prog 18 [] [.nilsl, .int .i64 a_1] [] (.sl false 1 (List.map (AV.int .u8) r_2)), ([.nilsl, .str a_2] : List AV) = [.nilsl, .str a_2], ([] : List BoxSt) = [], Triple prog 19 [] [.nilsl, .str a_2] [.row 5 1 (List.map (AV.int .u8) r_3)] (.own 0 ((r_3).length))]) (vals := [.str a_2, .int .i64 a_3, .sl false 1 (List.map (AV.int .u8) r_2), .own 0 ((r_3).length)]) (bxs := [.live (.row 5 1 (List.map (AV.int .u8) r_3))]) (by kernel_rfl) hmix ⟨rfl, rfl, (triple_lo (args' := [.sl false 1 [], .int .i64 a_1]) (cPutInt_ok F [] a_1 r_2 h_2) rfl ⟨rfl, rfl, trivial⟩), rfl, rfl, (triple_lo (args' := [.sl false 1 [], .str a_2]) (cPutText_ok F [] a_2 r_3 h_3) rfl ⟨rfl, rfl, trivial⟩), trivial⟩ ?_
  refine aw_seq (by kernel_rfl) ?_
  refine aw_seq (by kernel_rfl) ?_
  refine aw_mid (mk [(1, .str a_2), (2, .int .i64 a_3), (7, .sl false 1 (List.map (AV.int .u8) r_2)), (8, .own 0 ((r_3).length)), (30, .bool (decide (a_3 ≥ (0 : Int)) && decide (a_3 < (((r_2).length : Nat) : Int))))] [(0, .live (.row 5 1 (List.map (AV.int .u8) r_3)))] 1) ?_ ?_
  · rcases Bool.eq_false_or_eq_true (decide (a_3 ≥ (0 : Int))) with gg_1 | gg_1
    · refine aw_region [(5, { n := (r_2).length }), (7, { b := true })] [1, 2, 7, 8, 30] [0] 1 (vcs := [(decide (a_3 ≥ (0 : Int))) = true, (decide (a_3 ≥ (0 : Int))) = true, (decide (a_3 ≥ (0 : Int))) = true, ((List.map (AV.int .u8) r_2)).length = (r_2).length, (decide (a_3 ≥ (0 : Int))) = true, (decide (a_3 ≥ (0 : Int))) = true]) (vals := [.str a_2, .int .i64 a_3, .sl false 1 (List.map (AV.int .u8) r_2), .own 0 ((r_3).length), .bool (decide (a_3 < (((r_2).length : Nat) : Int)))]) (bxs := [.live (.row 5 1 (List.map (AV.int .u8) r_3))]) (by kernel_rfl) hmix ⟨gg_1, gg_1, gg_1, (vc_len _), gg_1, gg_1, trivial⟩ ?_
      exact ⟨rfl, (sub_wk [0] [] [(1, .str a_2), (2, .int .i64 a_3), (7, .sl false 1 (List.map (AV.int .u8) r_2)), (8, .own 0 ((r_3).length)), (30, .bool (decide (a_3 ≥ (0 : Int)) && decide (a_3 < (((r_2).length : Nat) : Int))))] [(0, .live (.row 5 1 (List.map (AV.int .u8) r_3)))] (vcs := [((.str a_2 : AV) = .str a_2 : Prop), ((.int .i64 a_3 : AV) = .int .i64 a_3 : Prop), (1 = 1 : Prop), ((List.map (AV.int .u8) r_2) = (List.map (AV.int .u8) r_2) : Prop), ((!false || false) = true : Prop), ((.own 0 ((r_3).length) : AV) = .own 0 ((r_3).length) : Prop), ((.bool (decide (a_3 < (((r_2).length : Nat) : Int))) : AV) = .bool (decide (a_3 ≥ (0 : Int)) && decide (a_3 < (((r_2).length : Nat) : Int))) : Prop), (5 = 5 : Prop), (1 = 1 : Prop), (((List.map (AV.int .u8) r_3) : List AV) = (List.map (AV.int .u8) r_3) : Prop)]) (by kernel_rfl) ⟨rfl, rfl, rfl, rfl, rfl, rfl, (congrArg AV.bool (andt gg_1 rfl)), rfl, rfl, rfl, trivial⟩)⟩
    · refine aw_region [(3, { g := false }), (4, { g := false }), (5, { g := false }), (6, { g := false }), (7, { b := false })] [1, 2, 7, 8, 30] [0] 1 (vcs := [(decide (a_3 ≥ (0 : Int))) = !true, (decide (a_3 ≥ (0 : Int))) = !true, (decide (a_3 ≥ (0 : Int))) = !true, (decide (a_3 ≥ (0 : Int))) = !true, (decide (a_3 ≥ (0 : Int))) = false]) (vals := [.str a_2, .int .i64 a_3, .sl false 1 (List.map (AV.int .u8) r_2), .own 0 ((r_3).length), .bool false]) (bxs := [.live (.row 5 1 (List.map (AV.int .u8) r_3))]) (by kernel_rfl) hmix ⟨gg_1, gg_1, gg_1, gg_1, gg_1, trivial⟩ ?_
      exact ⟨rfl, (sub_wk [0] [] [(1, .str a_2), (2, .int .i64 a_3), (7, .sl false 1 (List.map (AV.int .u8) r_2)), (8, .own 0 ((r_3).length)), (30, .bool (decide (a_3 ≥ (0 : Int)) && decide (a_3 < (((r_2).length : Nat) : Int))))] [(0, .live (.row 5 1 (List.map (AV.int .u8) r_3)))] (vcs := [((.str a_2 : AV) = .str a_2 : Prop), ((.int .i64 a_3 : AV) = .int .i64 a_3 : Prop), (1 = 1 : Prop), ((List.map (AV.int .u8) r_2) = (List.map (AV.int .u8) r_2) : Prop), ((!false || false) = true : Prop), ((.own 0 ((r_3).length) : AV) = .own 0 ((r_3).length) : Prop), ((.bool false : AV) = .bool (decide (a_3 ≥ (0 : Int)) && decide (a_3 < (((r_2).length : Nat) : Int))) : Prop), (5 = 5 : Prop), (1 = 1 : Prop), (((List.map (AV.int .u8) r_3) : List AV) = (List.map (AV.int .u8) r_3) : Prop)]) (by kernel_rfl) ⟨rfl, rfl, rfl, rfl, rfl, rfl, (congrArg AV.bool (andf gg_1)), rfl, rfl, rfl, trivial⟩)⟩
  obtain ⟨o_1, h_4, h⟩ := bind_some h
  refine aw_conv (K1 := (fun e st' => match o_1 with | (.inl q0) => e = .normal ∧ Sub 0 st' (mk [(1, .str a_2), (2, .int .i64 a_3), (7, .sl false 1 (List.map (AV.int .u8) r_2)), (8, .own 0 ((r_3).length))] [(0, .live (.row 5 1 (List.map (AV.int .u8) r_3)))] 1) | (.inr q1) => e = .ret ∧ FinR prog Go.Proofs.Try.f10 0 [] (.bool q1) st')) ?_ ?_
  · replace h := h_4
    refine aw_cond (t := 30) (b := (decide (a_3 ≥ (0 : Int)) && decide (a_3 < (((r_2).length : Nat) : Int)))) (by kernel_rfl) (by kernel_rfl) ?_ ?_
    rotate_left
    · intro g_2; replace h := cond_f g_2 h
      refine aw_skip (by kernel_rfl) ?_
      replace h := Option.some.inj h; subst h
      exact ⟨rfl, (sub_wk [0] [] [(1, .str a_2), (2, .int .i64 a_3), (7, .sl false 1 (List.map (AV.int .u8) r_2)), (8, .own 0 ((r_3).length))] [(0, .live (.row 5 1 (List.map (AV.int .u8) r_3)))] (vcs := [((.str a_2 : AV) = .str a_2 : Prop), ((.int .i64 a_3 : AV) = .int .i64 a_3 : Prop), (1 = 1 : Prop), ((List.map (AV.int .u8) r_2) = (List.map (AV.int .u8) r_2) : Prop), ((!false || false) = true : Prop), ((.own 0 ((r_3).length) : AV) = .own 0 ((r_3).length) : Prop), (5 = 5 : Prop), (1 = 1 : Prop), (((List.map (AV.int .u8) r_3) : List AV) = (List.map (AV.int .u8) r_3) : Prop)]) (by kernel_rfl) ⟨rfl, rfl, rfl, rfl, rfl, rfl, rfl, rfl, rfl, trivial⟩)⟩
    intro g_2; replace h := cond_t g_2 h
    refine aw_seq (by kernel_rfl) ?_
    obtain ⟨_, h_5, h⟩ := bind_some h; replace h_5 := need_some h_5
    obtain ⟨r_4, h_6, h⟩ := bind_some h
    refine aw_region [(2, { l := (List.map (AV.int .u8) (sub r_2 (0 : Int) a_3)) }), (3, { av := .tuple [.int .i64 r_4.1, .int .i64 r_4.2.1, .int .i64 r_4.2.2], l := [.sl false 1 (List.map (AV.int .u8) (sub r_2 (0 : Int) a_3))] })] [1, 2, 7, 8, 10, 11] [0] 1 (vcs := [(0 : Int) ≤ (0 : Int), (0 : Int) ≤ a_3, a_3 ≤ ((((List.map (AV.int .u8) r_2)).length : Nat) : Int), (List.map (AV.int .u8) (sub r_2 (0 : Int) a_3)) = (((List.map (AV.int .u8) r_2)).take (a_3).toNat).drop ((0 : Int)).toNat, ([.sl false 1 (List.map (AV.int .u8) (sub r_2 (0 : Int) a_3))] : List AV) = [.sl false 1 (List.map (AV.int .u8) (sub r_2 (0 : Int) a_3))], ([] : List BoxSt) = [], Triple prog 12 [] [.sl false 1 (List.map (AV.int .u8) (sub r_2 (0 : Int) a_3))] [] (.tuple [.int .i64 r_4.1, .int .i64 r_4.2.1, .int .i64 r_4.2.2])]) (vals := [.str a_2, .int .i64 a_3, .sl false 1 (List.map (AV.int .u8) r_2), .own 0 ((r_3).length), .int .i64 r_4.2.1, .int .i64 r_4.2.2]) (bxs := [.live (.row 5 1 (List.map (AV.int .u8) r_3))]) (by kernel_rfl) hmix ⟨(by decide), h_5.1, (vc_lenle h_5.2), (vc_sub _ _ _), rfl, rfl, (cInt_ok F (sub r_2 (0 : Int) a_3) r_4 h_6), trivial⟩ ?_
    refine aw_seq (by kernel_rfl) ?_
    refine aw_mid (mk [(1, .str a_2), (2, .int .i64 a_3), (7, .sl false 1 (List.map (AV.int .u8) r_2)), (8, .own 0 ((r_3).length)), (44, .bool ((r_4.2.1 != (0 : Int)) || (r_4.2.2 != (8 : Int))))] [(0, .live (.row 5 1 (List.map (AV.int .u8) r_3)))] 1) ?_ ?_
    · rcases Bool.eq_false_or_eq_true (r_4.2.1 != (0 : Int)) with gg_3 | gg_3
      · refine aw_region [(3, { g := false }), (4, { g := false }), (5, { b := true })] [1, 2, 7, 8, 44] [0] 1 (vcs := [(r_4.2.1 != (0 : Int)) = !false, (r_4.2.1 != (0 : Int)) = !false, (r_4.2.1 != (0 : Int)) = true]) (vals := [.str a_2, .int .i64 a_3, .sl false 1 (List.map (AV.int .u8) r_2), .own 0 ((r_3).length), .bool true]) (bxs := [.live (.row 5 1 (List.map (AV.int .u8) r_3))]) (by kernel_rfl) hmix ⟨gg_3, gg_3, gg_3, trivial⟩ ?_
        exact ⟨rfl, (sub_wk [0] [] [(1, .str a_2), (2, .int .i64 a_3), (7, .sl false 1 (List.map (AV.int .u8) r_2)), (8, .own 0 ((r_3).length)), (44, .bool ((r_4.2.1 != (0 : Int)) || (r_4.2.2 != (8 : Int))))] [(0, .live (.row 5 1 (List.map (AV.int .u8) r_3)))] (vcs := [((.str a_2 : AV) = .str a_2 : Prop), ((.int .i64 a_3 : AV) = .int .i64 a_3 : Prop), (1 = 1 : Prop), ((List.map (AV.int .u8) r_2) = (List.map (AV.int .u8) r_2) : Prop), ((!false || false) = true : Prop), ((.own 0 ((r_3).length) : AV) = .own 0 ((r_3).length) : Prop), ((.bool true : AV) = .bool ((r_4.2.1 != (0 : Int)) || (r_4.2.2 != (8 : Int))) : Prop), (5 = 5 : Prop), (1 = 1 : Prop), (((List.map (AV.int .u8) r_3) : List AV) = (List.map (AV.int .u8) r_3) : Prop)]) (by kernel_rfl) ⟨rfl, rfl, rfl, rfl, rfl, rfl, (congrArg AV.bool (ort gg_3)), rfl, rfl, rfl, trivial⟩)⟩
      · refine aw_region [(5, { b := false })] [1, 2, 7, 8, 44] [0] 1 (vcs := [(r_4.2.1 != (0 : Int)) = false, (r_4.2.1 != (0 : Int)) = false, (r_4.2.1 != (0 : Int)) = false]) (vals := [.str a_2, .int .i64 a_3, .sl false 1 (List.map (AV.int .u8) r_2), .own 0 ((r_3).length), .bool (r_4.2.2 != (8 : Int))]) (bxs := [.live (.row 5 1 (List.map (AV.int .u8) r_3))]) (by kernel_rfl) hmix ⟨gg_3, gg_3, gg_3, trivial⟩ ?_
        exact ⟨rfl, (sub_wk [0] [] [(1, .str a_2), (2, .int .i64 a_3), (7, .sl false 1 (List.map (AV.int .u8) r_2)), (8, .own 0 ((r_3).length)), (44, .bool ((r_4.2.1 != (0 : Int)) || (r_4.2.2 != (8 : Int))))] [(0, .live (.row 5 1 (List.map (AV.int .u8) r_3)))] (vcs := [((.str a_2 : AV) = .str a_2 : Prop), ((.int .i64 a_3 : AV) = .int .i64 a_3 : Prop), (1 = 1 : Prop), ((List.map (AV.int .u8) r_2) = (List.map (AV.int .u8) r_2) : Prop), ((!false || false) = true : Prop), ((.own 0 ((r_3).length) : AV) = .own 0 ((r_3).length) : Prop), ((.bool (r_4.2.2 != (8 : Int)) : AV) = .bool ((r_4.2.1 != (0 : Int)) || (r_4.2.2 != (8 : Int))) : Prop), (5 = 5 : Prop), (1 = 1 : Prop), (((List.map (AV.int .u8) r_3) : List AV) = (List.map (AV.int .u8) r_3) : Prop)]) (by kernel_rfl) ⟨rfl, rfl, rfl, rfl, rfl, rfl, (congrArg AV.bool (orf gg_3 rfl)), rfl, rfl, rfl, trivial⟩)⟩
    refine aw_cond (t := 44) (b := ((r_4.2.1 != (0 : Int)) || (r_4.2.2 != (8 : Int)))) (by kernel_rfl) (by kernel_rfl) ?_ ?_
    rotate_left
    · intro g_3; replace h := cond_f g_3 h
      refine aw_skip (by kernel_rfl) ?_
      replace h := Option.some.inj h; subst h
      exact ⟨rfl, (sub_wk [0] [] [(1, .str a_2), (2, .int .i64 a_3), (7, .sl false 1 (List.map (AV.int .u8) r_2)), (8, .own 0 ((r_3).length))] [(0, .live (.row 5 1 (List.map (AV.int .u8) r_3)))] (vcs := [((.str a_2 : AV) = .str a_2 : Prop), ((.int .i64 a_3 : AV) = .int .i64 a_3 : Prop), (1 = 1 : Prop), ((List.map (AV.int .u8) r_2) = (List.map (AV.int .u8) r_2) : Prop), ((!false || false) = true : Prop), ((.own 0 ((r_3).length) : AV) = .own 0 ((r_3).length) : Prop), (5 = 5 : Prop), (1 = 1 : Prop), (((List.map (AV.int .u8) r_3) : List AV) = (List.map (AV.int .u8) r_3) : Prop)]) (by kernel_rfl) ⟨rfl, rfl, rfl, rfl, rfl, rfl, rfl, rfl, rfl, trivial⟩)⟩
    intro g_3; replace h := cond_t g_3 h
    refine aw_seq (by kernel_rfl) ?_
    refine aw_region [] [6] [] 1 (vcs := []) (vals := [.bool false]) (bxs := []) (by kernel_rfl) hmix trivial ?_
    refine aw_ret (by kernel_rfl) ?_
    replace h := Option.some.inj h; subst h
    exact ⟨rfl, Nat.le_of_ble_eq_true rfl, by kernel_rfl⟩
  intro e st1 hk
  rcases o_1 with q_1 | q_2
  rotate_left
  · obtain ⟨rfl, hf⟩ := hk
    replace h := Option.some.inj h; subst h
    exact ⟨st1, Sub.refl _ _, .inr rfl, hf⟩
  obtain ⟨rfl, hs⟩ := hk
  refine ⟨_, hs, ?_⟩
  refine aw_seq (by kernel_rfl) ?_
  refine aw_seq (by kernel_rfl) ?_
  refine aw_mid (mk [(1, .str a_2), (2, .int .i64 a_3), (7, .sl false 1 (List.map (AV.int .u8) r_2)), (8, .own 0 ((r_3).length)), (52, .bool (decide (a_3 ≥ (0 : Int)) && decide (a_3 < (((r_3).length : Nat) : Int))))] [(0, .live (.row 5 1 (List.map (AV.int .u8) r_3)))] 1) ?_ ?_
  · rcases Bool.eq_false_or_eq_true (decide (a_3 ≥ (0 : Int))) with gg_4 | gg_4
    · refine aw_region [(7, { b := true })] [1, 2, 7, 8, 52] [0] 1 (vcs := [(decide (a_3 ≥ (0 : Int))) = true, (decide (a_3 ≥ (0 : Int))) = true, (decide (a_3 ≥ (0 : Int))) = true, (decide (a_3 ≥ (0 : Int))) = true, (decide (a_3 ≥ (0 : Int))) = true]) (vals := [.str a_2, .int .i64 a_3, .sl false 1 (List.map (AV.int .u8) r_2), .own 0 ((r_3).length), .bool (decide (a_3 < (((r_3).length : Nat) : Int)))]) (bxs := [.live (.row 5 1 (List.map (AV.int .u8) r_3))]) (by kernel_rfl) hmix ⟨gg_4, gg_4, gg_4, gg_4, gg_4, trivial⟩ ?_
      exact ⟨rfl, (sub_wk [0] [] [(1, .str a_2), (2, .int .i64 a_3), (7, .sl false 1 (List.map (AV.int .u8) r_2)), (8, .own 0 ((r_3).length)), (52, .bool (decide (a_3 ≥ (0 : Int)) && decide (a_3 < (((r_3).length : Nat) : Int))))] [(0, .live (.row 5 1 (List.map (AV.int .u8) r_3)))] (vcs := [((.str a_2 : AV) = .str a_2 : Prop), ((.int .i64 a_3 : AV) = .int .i64 a_3 : Prop), (1 = 1 : Prop), ((List.map (AV.int .u8) r_2) = (List.map (AV.int .u8) r_2) : Prop), ((!false || false) = true : Prop), ((.own 0 ((r_3).length) : AV) = .own 0 ((r_3).length) : Prop), ((.bool (decide (a_3 < (((r_3).length : Nat) : Int))) : AV) = .bool (decide (a_3 ≥ (0 : Int)) && decide (a_3 < (((r_3).length : Nat) : Int))) : Prop), (5 = 5 : Prop), (1 = 1 : Prop), (((List.map (AV.int .u8) r_3) : List AV) = (List.map (AV.int .u8) r_3) : Prop)]) (by kernel_rfl) ⟨rfl, rfl, rfl, rfl, rfl, rfl, (congrArg AV.bool (andt gg_4 rfl)), rfl, rfl, rfl, trivial⟩)⟩
    · refine aw_region [(3, { g := false }), (4, { g := false }), (5, { g := false }), (6, { g := false }), (7, { b := false })] [1, 2, 7, 8, 52] [0] 1 (vcs := [(decide (a_3 ≥ (0 : Int))) = !true, (decide (a_3 ≥ (0 : Int))) = !true, (decide (a_3 ≥ (0 : Int))) = !true, (decide (a_3 ≥ (0 : Int))) = !true, (decide (a_3 ≥ (0 : Int))) = false]) (vals := [.str a_2, .int .i64 a_3, .sl false 1 (List.map (AV.int .u8) r_2), .own 0 ((r_3).length), .bool false]) (bxs := [.live (.row 5 1 (List.map (AV.int .u8) r_3))]) (by kernel_rfl) hmix ⟨gg_4, gg_4, gg_4, gg_4, gg_4, trivial⟩ ?_
      exact ⟨rfl, (sub_wk [0] [] [(1, .str a_2), (2, .int .i64 a_3), (7, .sl false 1 (List.map (AV.int .u8) r_2)), (8, .own 0 ((r_3).length)), (52, .bool (decide (a_3 ≥ (0 : Int)) && decide (a_3 < (((r_3).length : Nat) : Int))))] [(0, .live (.row 5 1 (List.map (AV.int .u8) r_3)))] (vcs := [((.str a_2 : AV) = .str a_2 : Prop), ((.int .i64 a_3 : AV) = .int .i64 a_3 : Prop), (1 = 1 : Prop), ((List.map (AV.int .u8) r_2) = (List.map (AV.int .u8) r_2) : Prop), ((!false || false) = true : Prop), ((.own 0 ((r_3).length) : AV) = .own 0 ((r_3).length) : Prop), ((.bool false : AV) = .bool (decide (a_3 ≥ (0 : Int)) && decide (a_3 < (((r_3).length : Nat) : Int))) : Prop), (5 = 5 : Prop), (1 = 1 : Prop), (((List.map (AV.int .u8) r_3) : List AV) = (List.map (AV.int .u8) r_3) : Prop)]) (by kernel_rfl) ⟨rfl, rfl, rfl, rfl, rfl, rfl, (congrArg AV.bool (andf gg_4)), rfl, rfl, rfl, trivial⟩)⟩
  obtain ⟨o_2, h_7, h⟩ := bind_some h
  refine aw_conv (K1 := (fun e st' => match o_2 with | (.inl q0) => e = .normal ∧ Sub 0 st' (mk [(1, .str a_2), (7, .sl false 1 (List.map (AV.int .u8) r_2)), (8, .own 0 ((r_3).length))] [(0, .live (.row 5 1 (List.map (AV.int .u8) r_3)))] 1) | (.inr q1) => e = .ret ∧ FinR prog Go.Proofs.Try.f10 0 [] (.bool q1) st')) ?_ ?_
  · replace h := h_7
    refine aw_cond (t := 52) (b := (decide (a_3 ≥ (0 : Int)) && decide (a_3 < (((r_3).length : Nat) : Int)))) (by kernel_rfl) (by kernel_rfl) ?_ ?_
    rotate_left
    · intro g_4; replace h := cond_f g_4 h
      refine aw_skip (by kernel_rfl) ?_
      replace h := Option.some.inj h; subst h
      exact ⟨rfl, (sub_wk [0] [] [(1, .str a_2), (7, .sl false 1 (List.map (AV.int .u8) r_2)), (8, .own 0 ((r_3).length))] [(0, .live (.row 5 1 (List.map (AV.int .u8) r_3)))] (vcs := [((.str a_2 : AV) = .str a_2 : Prop), (1 = 1 : Prop), ((List.map (AV.int .u8) r_2) = (List.map (AV.int .u8) r_2) : Prop), ((!false || false) = true : Prop), ((.own 0 ((r_3).length) : AV) = .own 0 ((r_3).length) : Prop), (5 = 5 : Prop), (1 = 1 : Prop), (((List.map (AV.int .u8) r_3) : List AV) = (List.map (AV.int .u8) r_3) : Prop)]) (by kernel_rfl) ⟨rfl, rfl, rfl, rfl, rfl, rfl, rfl, rfl, trivial⟩)⟩
    intro g_4; replace h := cond_t g_4 h
    refine aw_seq (by kernel_rfl) ?_
    obtain ⟨_, h_8, h⟩ := bind_some h; replace h_8 := need_some h_8
    obtain ⟨_, h_9, h⟩ := bind_some h; replace h_9 := need_some h_9
    obtain ⟨r_5, h_10, h⟩ := bind_some h
    refine aw_region [(3, { av := .tuple [.str r_5.1, .int .i64 r_5.2.1, .int .i64 r_5.2.2], l := [.sl false 1 ((((List.map (AV.int .u8) r_3)).take ((a_3).toNat)).drop 0), .int .i64 (300 : Int)], lend := [0] })] [1, 7, 8, 13, 14] [0] 1 (vcs := [(0 : Int) ≤ (0 : Int), (0 : Int) ≤ a_3, a_3 ≤ (((r_3).length : Nat) : Int), 0 ≤ ((a_3).toNat), ((a_3).toNat) ≤ ((List.map (AV.int .u8) r_3)).length, ([.sl false 1 ((((List.map (AV.int .u8) r_3)).take ((a_3).toNat)).drop 0), .int .i64 (300 : Int)] : List AV) = [.sl false 1 ((((List.map (AV.int .u8) r_3)).take ((a_3).toNat)).drop 0), .int .i64 (300 : Int)], ([] : List BoxSt) = [], Triple prog 14 [] [.sl false 1 ((((List.map (AV.int .u8) r_3)).take ((a_3).toNat)).drop 0), .int .i64 (300 : Int)] [] (.tuple [.str r_5.1, .int .i64 r_5.2.1, .int .i64 r_5.2.2])]) (vals := [.str a_2, .sl false 1 (List.map (AV.int .u8) r_2), .own 0 ((r_3).length), .int .i64 r_5.2.1, .int .i64 r_5.2.2]) (bxs := [.live (.row 5 1 (List.map (AV.int .u8) r_3))]) (by kernel_rfl) hmix ⟨(by decide), h_8.1, h_8.2, h_9.1, (vc_lenle' h_9.2), rfl, rfl, (by have ht := (cText_ok F (((r_3).take ((a_3).toNat)).drop 0) (300 : Int) r_5 h_10); simpa using ht), trivial⟩ ?_
    refine aw_seq (by kernel_rfl) ?_
    refine aw_mid (mk [(1, .str a_2), (7, .sl false 1 (List.map (AV.int .u8) r_2)), (8, .own 0 ((r_3).length)), (66, .bool ((r_5.2.1 != (0 : Int)) || (r_5.2.2 != (8 : Int))))] [(0, .live (.row 5 1 (List.map (AV.int .u8) r_3)))] 1) ?_ ?_
    · rcases Bool.eq_false_or_eq_true (r_5.2.1 != (0 : Int)) with gg_6 | gg_6
      · refine aw_region [(3, { g := false }), (4, { g := false }), (5, { b := true })] [1, 7, 8, 66] [0] 1 (vcs := [(r_5.2.1 != (0 : Int)) = !false, (r_5.2.1 != (0 : Int)) = !false, (r_5.2.1 != (0 : Int)) = true]) (vals := [.str a_2, .sl false 1 (List.map (AV.int .u8) r_2), .own 0 ((r_3).length), .bool true]) (bxs := [.live (.row 5 1 (List.map (AV.int .u8) r_3))]) (by kernel_rfl) hmix ⟨gg_6, gg_6, gg_6, trivial⟩ ?_
        exact ⟨rfl, (sub_wk [0] [] [(1, .str a_2), (7, .sl false 1 (List.map (AV.int .u8) r_2)), (8, .own 0 ((r_3).length)), (66, .bool ((r_5.2.1 != (0 : Int)) || (r_5.2.2 != (8 : Int))))] [(0, .live (.row 5 1 (List.map (AV.int .u8) r_3)))] (vcs := [((.str a_2 : AV) = .str a_2 : Prop), (1 = 1 : Prop), ((List.map (AV.int .u8) r_2) = (List.map (AV.int .u8) r_2) : Prop), ((!false || false) = true : Prop), ((.own 0 ((r_3).length) : AV) = .own 0 ((r_3).length) : Prop), ((.bool true : AV) = .bool ((r_5.2.1 != (0 : Int)) || (r_5.2.2 != (8 : Int))) : Prop), (5 = 5 : Prop), (1 = 1 : Prop), (((List.map (AV.int .u8) r_3) : List AV) = (List.map (AV.int .u8) r_3) : Prop)]) (by kernel_rfl) ⟨rfl, rfl, rfl, rfl, rfl, (congrArg AV.bool (ort gg_6)), rfl, rfl, rfl, trivial⟩)⟩
      · refine aw_region [(5, { b := false })] [1, 7, 8, 66] [0] 1 (vcs := [(r_5.2.1 != (0 : Int)) = false, (r_5.2.1 != (0 : Int)) = false, (r_5.2.1 != (0 : Int)) = false]) (vals := [.str a_2, .sl false 1 (List.map (AV.int .u8) r_2), .own 0 ((r_3).length), .bool (r_5.2.2 != (8 : Int))]) (bxs := [.live (.row 5 1 (List.map (AV.int .u8) r_3))]) (by kernel_rfl) hmix ⟨gg_6, gg_6, gg_6, trivial⟩ ?_
        exact ⟨rfl, (sub_wk [0] [] [(1, .str a_2), (7, .sl false 1 (List.map (AV.int .u8) r_2)), (8, .own 0 ((r_3).length)), (66, .bool ((r_5.2.1 != (0 : Int)) || (r_5.2.2 != (8 : Int))))] [(0, .live (.row 5 1 (List.map (AV.int .u8) r_3)))] (vcs := [((.str a_2 : AV) = .str a_2 : Prop), (1 = 1 : Prop), ((List.map (AV.int .u8) r_2) = (List.map (AV.int .u8) r_2) : Prop), ((!false || false) = true : Prop), ((.own 0 ((r_3).length) : AV) = .own 0 ((r_3).length) : Prop), ((.bool (r_5.2.2 != (8 : Int)) : AV) = .bool ((r_5.2.1 != (0 : Int)) || (r_5.2.2 != (8 : Int))) : Prop), (5 = 5 : Prop), (1 = 1 : Prop), (((List.map (AV.int .u8) r_3) : List AV) = (List.map (AV.int .u8) r_3) : Prop)]) (by kernel_rfl) ⟨rfl, rfl, rfl, rfl, rfl, (congrArg AV.bool (orf gg_6 rfl)), rfl, rfl, rfl, trivial⟩)⟩
    refine aw_cond (t := 66) (b := ((r_5.2.1 != (0 : Int)) || (r_5.2.2 != (8 : Int)))) (by kernel_rfl) (by kernel_rfl) ?_ ?_
    rotate_left
    · intro g_5; replace h := cond_f g_5 h
      refine aw_skip (by kernel_rfl) ?_
      replace h := Option.some.inj h; subst h
      exact ⟨rfl, (sub_wk [0] [] [(1, .str a_2), (7, .sl false 1 (List.map (AV.int .u8) r_2)), (8, .own 0 ((r_3).length))] [(0, .live (.row 5 1 (List.map (AV.int .u8) r_3)))] (vcs := [((.str a_2 : AV) = .str a_2 : Prop), (1 = 1 : Prop), ((List.map (AV.int .u8) r_2) = (List.map (AV.int .u8) r_2) : Prop), ((!false || false) = true : Prop), ((.own 0 ((r_3).length) : AV) = .own 0 ((r_3).length) : Prop), (5 = 5 : Prop), (1 = 1 : Prop), (((List.map (AV.int .u8) r_3) : List AV) = (List.map (AV.int .u8) r_3) : Prop)]) (by kernel_rfl) ⟨rfl, rfl, rfl, rfl, rfl, rfl, rfl, rfl, trivial⟩)⟩
    intro g_5; replace h := cond_t g_5 h
    refine aw_seq (by kernel_rfl) ?_
    refine aw_region [] [6] [] 1 (vcs := []) (vals := [.bool false]) (bxs := []) (by kernel_rfl) hmix trivial ?_
    refine aw_ret (by kernel_rfl) ?_
    replace h := Option.some.inj h; subst h
    exact ⟨rfl, Nat.le_of_ble_eq_true rfl, by kernel_rfl⟩
  intro e st1 hk
  rcases o_2 with q_3 | q_4
  rotate_left
  · obtain ⟨rfl, hf⟩ := hk
    replace h := Option.some.inj h; subst h
    exact ⟨st1, Sub.refl _ _, .inr rfl, hf⟩
  obtain ⟨rfl, hs⟩ := hk
  refine ⟨_, hs, ?_⟩
  refine aw_seq (by kernel_rfl) ?_
  obtain ⟨p_1, h_12, h⟩ := bind_some h
  refine aw_mid (mk [(6, .bool p_1)] [] 0) ?_ ?_
  · replace h := h_12
    rcases Bool.eq_false_or_eq_true (decide ((((r_2).length : Nat) : Int) > (0 : Int))) with gg_7 | gg_7
    · replace h := cond_t gg_7 h
      rcases Bool.eq_false_or_eq_true (decide ((((r_3).length : Nat) : Int) > (((a_2).length : Nat) : Int))) with gg_8 | gg_8
      · replace h := cond_t gg_8 h
        obtain ⟨r_6, h_11, h⟩ := bind_some h
        refine aw_region [(1, { n := (r_2).length }), (9, { b := true }), (11, { av := .bool r_6, l := [] }), (12, { b := true })] [6] [] 1 (vcs := [((List.map (AV.int .u8) r_2)).length = (r_2).length, (decide ((((r_2).length : Nat) : Int) > (0 : Int))) = true, (decide ((((r_2).length : Nat) : Int) > (0 : Int))) = true, (decide ((((r_2).length : Nat) : Int) > (0 : Int))) = true, (decide ((((r_2).length : Nat) : Int) > (0 : Int))) = true, (decide ((((r_2).length : Nat) : Int) > (0 : Int))) = true, (decide ((((r_2).length : Nat) : Int) > (0 : Int))) = true, (decide ((((r_3).length : Nat) : Int) > (((a_2).length : Nat) : Int))) = true, ([] : List AV) = [], ([] : List BoxSt) = [], Triple prog 11 [] [] [] (.bool r_6), (decide ((((r_3).length : Nat) : Int) > (((a_2).length : Nat) : Int))) = true]) (vals := [.bool r_6]) (bxs := []) (by kernel_rfl) hmix ⟨(vc_len _), gg_7, gg_7, gg_7, gg_7, gg_7, gg_7, gg_8, rfl, rfl, (lives_ok F r_6 h_11), gg_8, trivial⟩ ?_
        replace h := Option.some.inj h; subst h
        exact ⟨rfl, (sub_wk [] [] [(6, .bool r_6)] [] (vcs := [((.bool r_6 : AV) = .bool r_6 : Prop)]) (by kernel_rfl) ⟨rfl, trivial⟩)⟩
      · replace h := cond_f gg_8 h
        refine aw_region [(1, { n := (r_2).length }), (9, { b := true }), (11, { g := false }), (12, { b := false })] [6] [] 1 (vcs := [((List.map (AV.int .u8) r_2)).length = (r_2).length, (decide ((((r_2).length : Nat) : Int) > (0 : Int))) = true, (decide ((((r_2).length : Nat) : Int) > (0 : Int))) = true, (decide ((((r_2).length : Nat) : Int) > (0 : Int))) = true, (decide ((((r_2).length : Nat) : Int) > (0 : Int))) = true, (decide ((((r_2).length : Nat) : Int) > (0 : Int))) = true, (decide ((((r_2).length : Nat) : Int) > (0 : Int))) = true, (decide ((((r_3).length : Nat) : Int) > (((a_2).length : Nat) : Int))) = !true, (decide ((((r_3).length : Nat) : Int) > (((a_2).length : Nat) : Int))) = false]) (vals := [.bool false]) (bxs := []) (by kernel_rfl) hmix ⟨(vc_len _), gg_7, gg_7, gg_7, gg_7, gg_7, gg_7, gg_8, gg_8, trivial⟩ ?_
        replace h := Option.some.inj h; subst h
        exact ⟨rfl, (sub_wk [] [] [(6, .bool false)] [] (vcs := [((.bool false : AV) = .bool false : Prop)]) (by kernel_rfl) ⟨rfl, trivial⟩)⟩
    · replace h := cond_f gg_7 h
      refine aw_region [(1, { n := (r_2).length }), (4, { g := false }), (5, { g := false }), (6, { g := false }), (7, { g := false }), (8, { g := false }), (9, { b := false }), (11, { g := false }), (12, { b := false })] [6] [] 1 (vcs := [((List.map (AV.int .u8) r_2)).length = (r_2).length, (decide ((((r_2).length : Nat) : Int) > (0 : Int))) = !true, (decide ((((r_2).length : Nat) : Int) > (0 : Int))) = !true, (decide ((((r_2).length : Nat) : Int) > (0 : Int))) = !true, (decide ((((r_2).length : Nat) : Int) > (0 : Int))) = !true, (decide ((((r_2).length : Nat) : Int) > (0 : Int))) = !true, (decide ((((r_2).length : Nat) : Int) > (0 : Int))) = false, false = !true, false = false]) (vals := [.bool false]) (bxs := []) (by kernel_rfl) hmix ⟨(vc_len _), gg_7, gg_7, gg_7, gg_7, gg_7, gg_7, rfl, rfl, trivial⟩ ?_
      replace h := Option.some.inj h; subst h
      exact ⟨rfl, (sub_wk [] [] [(6, .bool false)] [] (vcs := [((.bool false : AV) = .bool false : Prop)]) (by kernel_rfl) ⟨rfl, trivial⟩)⟩
  refine aw_ret (by kernel_rfl) ?_
  replace h := Option.some.inj h; subst h
  exact ⟨.inr rfl, Nat.le_of_ble_eq_true rfl, by kernel_rfl⟩

end Go.Ab
