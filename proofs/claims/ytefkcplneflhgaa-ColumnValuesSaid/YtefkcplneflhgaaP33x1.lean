/- Printed: the typed Lean functions of the Go functions, or the proofs that the Go functions meet them. No conditions but those that the theorems name. -/
import Derived.Test.YtefkcplneflhgaaP33xD
import Derived.Test.YtefkcplneflhgaaProg
namespace Go.Ab
open Go
set_option linter.unusedVariables false
noncomputable abbrev prog := Go.Proofs.Try.prog
theorem hmix : prog.follows .mixedOrders = true := by kernel_rfl
theorem keyOk_24 : KeyOk prog 24 true [.int .i64, .int .i64, .str] := keyOk_agg (by kernel_rfl) (by kernel_rfl) (by kernel_rfl) (by kernel_rfl)
theorem inj_T_api_Value : ∀ a b : T_api_Value, e_T_api_Value a = e_T_api_Value b → a = b := by
  intro a b h
  cases a; cases b; simpa [e_T_api_Value, v_T_api_Value] using h
theorem eqOk_24 : EqOk prog 24 [.int .i64, .int .i64, .str] := eqOk_agg keyOk_24 (by kernel_rfl) (by kernel_rfl)

theorem num_In_ok (n_1 : Int) (r : Bool) (h : num_In n_1 = some r) : TripleG prog 19 [] [] [.int .i64 n_1] [] (.bool r) := by
  refine triple_intro (fn := Go.Proofs.Try.f19) (code := codeOf Go.Proofs.Try.f19) (by kernel_rfl) (by kernel_rfl) (Nat.le_of_ble_eq_true (by kernel_rfl)) ?_
  unfold num_In at h
  refine aw_seq (by kernel_rfl) ?_
  refine aw_region [] [0] [] 0 (vals := [.int .i64 n_1]) (bxs := []) (by kernel_rfl) hmix an ?_
  refine aw_seq (by kernel_rfl) ?_
  refine aw_mid (mk [(2, .bool (decide (n_1 ≥ (-1000000000000000 : Int)) && decide (n_1 ≤ (1000000000000000 : Int))))] [] 0) ?_ ?_
  · rcases Bool.eq_false_or_eq_true (decide (n_1 ≥ (-1000000000000000 : Int))) with gg_1 | gg_1
    · refine aw_region [(5, { b := true })] [2] [] 0 (vals := [.bool (decide (n_1 ≤ (1000000000000000 : Int)))]) (bxs := []) (by kernel_rfl) hmix (ac gg_1 (ac gg_1 (ac gg_1 an))) ?_
      exact ⟨rfl, (sub_wkm [] [] [.a 2 (.bool (decide (n_1 ≥ (-1000000000000000 : Int)) && decide (n_1 ≤ (1000000000000000 : Int))))] [] (by kernel_rfl) (ac (congrArg AV.bool (andt gg_1 rfl) : (.bool (decide (n_1 ≤ (1000000000000000 : Int))) : AV) = .bool (decide (n_1 ≥ (-1000000000000000 : Int)) && decide (n_1 ≤ (1000000000000000 : Int)))) an))⟩
    · refine aw_region [(3, { g := false }), (4, { g := false }), (5, { b := false })] [2] [] 0 (vals := [.bool false]) (bxs := []) (by kernel_rfl) hmix (ac gg_1 (ac gg_1 (ac gg_1 an))) ?_
      exact ⟨rfl, (sub_wkm [] [] [.a 2 (.bool (decide (n_1 ≥ (-1000000000000000 : Int)) && decide (n_1 ≤ (1000000000000000 : Int))))] [] (by kernel_rfl) (ac (congrArg AV.bool (andf gg_1) : (.bool false : AV) = .bool (decide (n_1 ≥ (-1000000000000000 : Int)) && decide (n_1 ≤ (1000000000000000 : Int)))) an))⟩
  refine aw_ret (by kernel_rfl) ?_
  replace h := Option.some.inj h; subst h
  exact ⟨.inr rfl, Nat.le_of_ble_eq_true rfl, by kernel_rfl⟩

theorem column_Value_ok (k_1 : Int) (a_1 : T_api_Value) (r : Int) (h : column_Value k_1 a_1 = some r) : TripleG prog 8 [] [] [.int .i64 k_1, e_T_api_Value a_1] [] (.int .i64 r) := by
  refine triple_intro (fn := Go.Proofs.Try.f8) (code := codeOf Go.Proofs.Try.f8) (by kernel_rfl) (by kernel_rfl) (Nat.le_of_ble_eq_true (by kernel_rfl)) ?_
  unfold column_Value at h
  refine aw_seq (by kernel_rfl) ?_
  refine aw_region [(0, { id := 0 })] [0, 3] [0] 1 (vals := [.int .i64 k_1, .ptr 0 0 0 0]) (bxs := [.live (.var 24 (v_T_api_Value a_1))]) (by kernel_rfl) hmix an ?_
  refine aw_seq (by kernel_rfl) ?_
  refine aw_mid (mk [(0, .int .i64 k_1), (3, .ptr 0 0 0 0), (5, .bool ((k_1 == (1 : Int)) || ((k_1 == (2 : Int)) || (k_1 == (3 : Int)))))] [(0, .live (.var 24 (v_T_api_Value a_1)))] 1) ?_ ?_
  · rcases Bool.eq_false_or_eq_true (k_1 == (1 : Int)) with gg_1 | gg_1
    · refine aw_region [(3, { g := false }), (4, { g := false }), (5, { b := true }), (7, { g := false }), (8, { g := false }), (9, { b := true })] [0, 3, 5] [0] 1 (vals := [.int .i64 k_1, .ptr 0 0 0 0, .bool true]) (bxs := [.live (.var 24 (v_T_api_Value a_1))]) (by kernel_rfl) hmix (ac gg_1 (ac gg_1 (ac gg_1 (ac (rfl : true = !false) (ac (rfl : true = !false) (ac (rfl : true = true) an)))))) ?_
      exact ⟨rfl, (sub_wkm [0] [] [.s 0, .s 3, .a 5 (.bool ((k_1 == (1 : Int)) || ((k_1 == (2 : Int)) || (k_1 == (3 : Int)))))] [.s 0] (by kernel_rfl) (ac (congrArg AV.bool (ort gg_1) : (.bool true : AV) = .bool ((k_1 == (1 : Int)) || ((k_1 == (2 : Int)) || (k_1 == (3 : Int))))) an))⟩
    · rcases Bool.eq_false_or_eq_true (k_1 == (2 : Int)) with gg_2 | gg_2
      · refine aw_region [(5, { b := false }), (7, { g := false }), (8, { g := false }), (9, { b := true })] [0, 3, 5] [0] 1 (vals := [.int .i64 k_1, .ptr 0 0 0 0, .bool true]) (bxs := [.live (.var 24 (v_T_api_Value a_1))]) (by kernel_rfl) hmix (ac gg_1 (ac gg_1 (ac gg_1 (ac gg_2 (ac gg_2 (ac gg_2 an)))))) ?_
        exact ⟨rfl, (sub_wkm [0] [] [.s 0, .s 3, .a 5 (.bool ((k_1 == (1 : Int)) || ((k_1 == (2 : Int)) || (k_1 == (3 : Int)))))] [.s 0] (by kernel_rfl) (ac (congrArg AV.bool (orf gg_1 (ort gg_2)) : (.bool true : AV) = .bool ((k_1 == (1 : Int)) || ((k_1 == (2 : Int)) || (k_1 == (3 : Int))))) an))⟩
      · refine aw_region [(5, { b := false }), (9, { b := false })] [0, 3, 5] [0] 1 (vals := [.int .i64 k_1, .ptr 0 0 0 0, .bool (k_1 == (3 : Int))]) (bxs := [.live (.var 24 (v_T_api_Value a_1))]) (by kernel_rfl) hmix (ac gg_1 (ac gg_1 (ac gg_1 (ac gg_2 (ac gg_2 (ac gg_2 an)))))) ?_
        exact ⟨rfl, (sub_wkm [0] [] [.s 0, .s 3, .a 5 (.bool ((k_1 == (1 : Int)) || ((k_1 == (2 : Int)) || (k_1 == (3 : Int)))))] [.s 0] (by kernel_rfl) (ac (congrArg AV.bool (orf gg_1 (orf gg_2 rfl)) : (.bool (k_1 == (3 : Int)) : AV) = .bool ((k_1 == (1 : Int)) || ((k_1 == (2 : Int)) || (k_1 == (3 : Int))))) an))⟩
  refine aw_seq (by kernel_rfl) ?_
  refine aw_block (id := 0) (by kernel_rfl) ?_
  refine aw_seq (by kernel_rfl) ?_
  refine aw_mid (mk [(3, .ptr 0 0 0 0), (16, .bool ((a_1.Kind != (0 : Int)) && ((a_1.Kind != k_1) || !((k_1 == (1 : Int)) || ((k_1 == (2 : Int)) || (k_1 == (3 : Int)))))))] [(0, .live (.var 24 (v_T_api_Value a_1)))] 1) ?_ ?_
  · rcases Bool.eq_false_or_eq_true (a_1.Kind != (0 : Int)) with gg_3 | gg_3
    · rcases Bool.eq_false_or_eq_true (a_1.Kind != k_1) with gg_4 | gg_4
      · refine aw_region [(9, { g := false }), (10, { g := false }), (11, { b := true }), (12, { b := true })] [3, 16] [0] 1 (vals := [.ptr 0 0 0 0, .bool true]) (bxs := [.live (.var 24 (v_T_api_Value a_1))]) (by kernel_rfl) hmix (ac gg_3 (ac gg_3 (ac gg_3 (ac gg_3 (ac gg_3 (ac gg_4 (ac gg_4 (ac gg_3 (ac gg_4 (ac gg_3 an)))))))))) ?_
        exact ⟨rfl, (sub_wkm [0] [] [.s 3, .a 16 (.bool ((a_1.Kind != (0 : Int)) && ((a_1.Kind != k_1) || !((k_1 == (1 : Int)) || ((k_1 == (2 : Int)) || (k_1 == (3 : Int)))))))] [.s 0] (by kernel_rfl) (ac (congrArg AV.bool (andt gg_3 (ort gg_4)) : (.bool true : AV) = .bool ((a_1.Kind != (0 : Int)) && ((a_1.Kind != k_1) || !((k_1 == (1 : Int)) || ((k_1 == (2 : Int)) || (k_1 == (3 : Int))))))) an))⟩
      · refine aw_region [(11, { b := false }), (12, { b := true })] [3, 16] [0] 1 (vals := [.ptr 0 0 0 0, .bool (!((k_1 == (1 : Int)) || ((k_1 == (2 : Int)) || (k_1 == (3 : Int)))))]) (bxs := [.live (.var 24 (v_T_api_Value a_1))]) (by kernel_rfl) hmix (ac gg_3 (ac gg_3 (ac gg_3 (ac gg_3 (ac gg_3 (ac gg_4 (ac gg_4 (ac gg_3 (ac gg_4 (ac gg_3 an)))))))))) ?_
        exact ⟨rfl, (sub_wkm [0] [] [.s 3, .a 16 (.bool ((a_1.Kind != (0 : Int)) && ((a_1.Kind != k_1) || !((k_1 == (1 : Int)) || ((k_1 == (2 : Int)) || (k_1 == (3 : Int)))))))] [.s 0] (by kernel_rfl) (ac (congrArg AV.bool (andt gg_3 (orf gg_4 rfl)) : (.bool (!((k_1 == (1 : Int)) || ((k_1 == (2 : Int)) || (k_1 == (3 : Int))))) : AV) = .bool ((a_1.Kind != (0 : Int)) && ((a_1.Kind != k_1) || !((k_1 == (1 : Int)) || ((k_1 == (2 : Int)) || (k_1 == (3 : Int))))))) an))⟩
    · refine aw_region [(4, { g := false }), (5, { g := false }), (6, { g := false }), (7, { g := false }), (8, { g := false }), (11, { g := false }), (12, { b := false })] [3, 16] [0] 1 (vals := [.ptr 0 0 0 0, .bool false]) (bxs := [.live (.var 24 (v_T_api_Value a_1))]) (by kernel_rfl) hmix (ac gg_3 (ac gg_3 (ac gg_3 (ac gg_3 (ac gg_3 (ac gg_3 (ac gg_3 an))))))) ?_
      exact ⟨rfl, (sub_wkm [0] [] [.s 3, .a 16 (.bool ((a_1.Kind != (0 : Int)) && ((a_1.Kind != k_1) || !((k_1 == (1 : Int)) || ((k_1 == (2 : Int)) || (k_1 == (3 : Int)))))))] [.s 0] (by kernel_rfl) (ac (congrArg AV.bool (andf gg_3) : (.bool false : AV) = .bool ((a_1.Kind != (0 : Int)) && ((a_1.Kind != k_1) || !((k_1 == (1 : Int)) || ((k_1 == (2 : Int)) || (k_1 == (3 : Int))))))) an))⟩
  refine aw_cond (t := 16) (b := ((a_1.Kind != (0 : Int)) && ((a_1.Kind != k_1) || !((k_1 == (1 : Int)) || ((k_1 == (2 : Int)) || (k_1 == (3 : Int))))))) (by kernel_rfl) (by kernel_rfl) ?_ ?_
  · intro g_1; replace h := cond_t g_1 h
    refine aw_seq (by kernel_rfl) ?_
    refine aw_region [] [4] [] 1 (vals := [.int .i64 (14 : Int)]) (bxs := []) (by kernel_rfl) hmix an ?_
    refine aw_ret (by kernel_rfl) ?_
    replace h := Option.some.inj h; subst h
    exact ⟨.inr rfl, Nat.le_of_ble_eq_true rfl, by kernel_rfl⟩
  intro g_1; replace h := cond_f g_1 h
  refine aw_seq (by kernel_rfl) ?_
  refine aw_seq (by kernel_rfl) ?_
  refine aw_mid (mk [(3, .ptr 0 0 0 0), (30, .bool ((a_1.Kind == (1 : Int)) && ((a_1.N != (0 : Int)) && (a_1.N != (1 : Int)))))] [(0, .live (.var 24 (v_T_api_Value a_1)))] 1) ?_ ?_
  · rcases Bool.eq_false_or_eq_true (a_1.Kind == (1 : Int)) with gg_5 | gg_5
    · rcases Bool.eq_false_or_eq_true (a_1.N != (0 : Int)) with gg_6 | gg_6
      · refine aw_region [(7, { b := true }), (12, { b := true })] [3, 30] [0] 1 (vals := [.ptr 0 0 0 0, .bool (a_1.N != (1 : Int))]) (bxs := [.live (.var 24 (v_T_api_Value a_1))]) (by kernel_rfl) hmix (ac gg_5 (ac gg_5 (ac gg_5 (ac gg_5 (ac gg_6 (ac gg_6 (ac gg_6 (ac gg_6 an)))))))) ?_
        exact ⟨rfl, (sub_wkm [0] [] [.s 3, .a 30 (.bool ((a_1.Kind == (1 : Int)) && ((a_1.N != (0 : Int)) && (a_1.N != (1 : Int)))))] [.s 0] (by kernel_rfl) (ac (congrArg AV.bool (andt gg_5 (andt gg_6 rfl)) : (.bool (a_1.N != (1 : Int)) : AV) = .bool ((a_1.Kind == (1 : Int)) && ((a_1.N != (0 : Int)) && (a_1.N != (1 : Int))))) an))⟩
      · refine aw_region [(7, { b := true }), (9, { g := false }), (10, { g := false }), (11, { g := false }), (12, { b := false })] [3, 30] [0] 1 (vals := [.ptr 0 0 0 0, .bool false]) (bxs := [.live (.var 24 (v_T_api_Value a_1))]) (by kernel_rfl) hmix (ac gg_5 (ac gg_5 (ac gg_5 (ac gg_5 (ac gg_6 (ac gg_6 (ac gg_6 (ac gg_6 an)))))))) ?_
        exact ⟨rfl, (sub_wkm [0] [] [.s 3, .a 30 (.bool ((a_1.Kind == (1 : Int)) && ((a_1.N != (0 : Int)) && (a_1.N != (1 : Int)))))] [.s 0] (by kernel_rfl) (ac (congrArg AV.bool (andt gg_5 (andf gg_6)) : (.bool false : AV) = .bool ((a_1.Kind == (1 : Int)) && ((a_1.N != (0 : Int)) && (a_1.N != (1 : Int))))) an))⟩
    · refine aw_region [(4, { g := false }), (5, { g := false }), (6, { g := false }), (7, { b := false }), (9, { g := false }), (10, { g := false }), (11, { g := false }), (12, { b := false })] [3, 30] [0] 1 (vals := [.ptr 0 0 0 0, .bool false]) (bxs := [.live (.var 24 (v_T_api_Value a_1))]) (by kernel_rfl) hmix (ac gg_5 (ac gg_5 (ac gg_5 (ac gg_5 (ac (rfl : false = !true) (ac (rfl : false = !true) (ac (rfl : false = !true) (ac (rfl : false = false) an)))))))) ?_
      exact ⟨rfl, (sub_wkm [0] [] [.s 3, .a 30 (.bool ((a_1.Kind == (1 : Int)) && ((a_1.N != (0 : Int)) && (a_1.N != (1 : Int)))))] [.s 0] (by kernel_rfl) (ac (congrArg AV.bool (andf gg_5) : (.bool false : AV) = .bool ((a_1.Kind == (1 : Int)) && ((a_1.N != (0 : Int)) && (a_1.N != (1 : Int))))) an))⟩
  obtain ⟨o_1, h_1, h⟩ := bind_some h
  refine aw_mid (mk [(3, .ptr 0 0 0 0), (30, .bool o_1)] [(0, .live (.var 24 (v_T_api_Value a_1)))] 1) ?_ ?_
  · replace h := h_1
    refine aw_cond (t := 30) (b := ((a_1.Kind == (1 : Int)) && ((a_1.N != (0 : Int)) && (a_1.N != (1 : Int))))) (by kernel_rfl) (by kernel_rfl) ?_ ?_
    · intro g_2; replace h := cond_t g_2 h
      refine aw_skip (by kernel_rfl) ?_
      replace h := Option.some.inj h; subst h
      exact ⟨rfl, (sub_wkm [0] [] [.s 3, .s 30] [.s 0] (by kernel_rfl) an)⟩
    intro g_2; replace h := cond_f g_2 h
    obtain ⟨p_1, h_3, h⟩ := bind_some h
    refine aw_mid (mk [(3, .ptr 0 0 0 0), (30, .bool p_1)] [(0, .live (.var 24 (v_T_api_Value a_1)))] 1) ?_ ?_
    · replace h := h_3
      rcases Bool.eq_false_or_eq_true (a_1.Kind == (2 : Int)) with gg_8 | gg_8
      · replace h := cond_t gg_8 h
        obtain ⟨r_1, h_2, h⟩ := bind_some h
        refine aw_region [(6, { av := .bool r_1, l := [.int .i64 a_1.N] }), (8, { b := true })] [3, 30] [0] 1 (vals := [.ptr 0 0 0 0, .bool (!r_1)]) (bxs := [.live (.var 24 (v_T_api_Value a_1))]) (by kernel_rfl) hmix (ac gg_8 (ac gg_8 (ac gg_8 (ac (rfl : ([.int .i64 a_1.N] : List AV) = [.int .i64 a_1.N]) (ac (rfl : ([] : List BoxSt) = []) (ac (num_In_ok a_1.N r_1 h_2 : TripleG prog 19 [] [] [.int .i64 a_1.N] [] (.bool r_1)) (ac gg_8 (ac gg_8 an)))))))) ?_
        replace h := Option.some.inj h; subst h
        exact ⟨rfl, (sub_wkm [0] [] [.s 3, .s 30] [.s 0] (by kernel_rfl) an)⟩
      · replace h := cond_f gg_8 h
        refine aw_region [(4, { g := false }), (5, { g := false }), (6, { g := false }), (7, { g := false }), (8, { b := false })] [3, 30] [0] 1 (vals := [.ptr 0 0 0 0, .bool false]) (bxs := [.live (.var 24 (v_T_api_Value a_1))]) (by kernel_rfl) hmix (ac gg_8 (ac gg_8 (ac gg_8 (ac gg_8 (ac gg_8 an))))) ?_
        replace h := Option.some.inj h; subst h
        exact ⟨rfl, (sub_wkm [0] [] [.s 3, .s 30] [.s 0] (by kernel_rfl) an)⟩
    replace h := Option.some.inj h; subst h
    exact ⟨rfl, (sub_wkm [0] [] [.s 3, .s 30] [.s 0] (by kernel_rfl) an)⟩
  refine aw_cond (t := 30) (b := o_1) (by kernel_rfl) (by kernel_rfl) ?_ ?_
  · intro g_3; replace h := cond_t g_3 h
    refine aw_seq (by kernel_rfl) ?_
    refine aw_region [] [4] [] 1 (vals := [.int .i64 (2 : Int)]) (bxs := []) (by kernel_rfl) hmix an ?_
    refine aw_ret (by kernel_rfl) ?_
    replace h := Option.some.inj h; subst h
    exact ⟨.inr rfl, Nat.le_of_ble_eq_true rfl, by kernel_rfl⟩
  intro g_3; replace h := cond_f g_3 h
  refine aw_seq (by kernel_rfl) ?_
  refine aw_mid (mk [(3, .ptr 0 0 0 0), (53, .bool ((a_1.Kind == (3 : Int)) && decide ((((a_1.S).length : Nat) : Int) > (200 : Int))))] [(0, .live (.var 24 (v_T_api_Value a_1)))] 1) ?_ ?_
  · rcases Bool.eq_false_or_eq_true (a_1.Kind == (3 : Int)) with gg_9 | gg_9
    · refine aw_region [(8, { b := true })] [3, 53] [0] 1 (vals := [.ptr 0 0 0 0, .bool (decide ((((a_1.S).length : Nat) : Int) > (200 : Int)))]) (bxs := [.live (.var 24 (v_T_api_Value a_1))]) (by kernel_rfl) hmix (ac gg_9 (ac gg_9 (ac gg_9 (ac gg_9 (ac gg_9 an))))) ?_
      exact ⟨rfl, (sub_wkm [0] [] [.s 3, .a 53 (.bool ((a_1.Kind == (3 : Int)) && decide ((((a_1.S).length : Nat) : Int) > (200 : Int))))] [.s 0] (by kernel_rfl) (ac (congrArg AV.bool (andt gg_9 rfl) : (.bool (decide ((((a_1.S).length : Nat) : Int) > (200 : Int))) : AV) = .bool ((a_1.Kind == (3 : Int)) && decide ((((a_1.S).length : Nat) : Int) > (200 : Int)))) an))⟩
    · refine aw_region [(4, { g := false }), (5, { g := false }), (6, { g := false }), (7, { g := false }), (8, { b := false })] [3, 53] [0] 1 (vals := [.ptr 0 0 0 0, .bool false]) (bxs := [.live (.var 24 (v_T_api_Value a_1))]) (by kernel_rfl) hmix (ac gg_9 (ac gg_9 (ac gg_9 (ac gg_9 (ac gg_9 an))))) ?_
      exact ⟨rfl, (sub_wkm [0] [] [.s 3, .a 53 (.bool ((a_1.Kind == (3 : Int)) && decide ((((a_1.S).length : Nat) : Int) > (200 : Int))))] [.s 0] (by kernel_rfl) (ac (congrArg AV.bool (andf gg_9) : (.bool false : AV) = .bool ((a_1.Kind == (3 : Int)) && decide ((((a_1.S).length : Nat) : Int) > (200 : Int)))) an))⟩
  refine aw_cond (t := 53) (b := ((a_1.Kind == (3 : Int)) && decide ((((a_1.S).length : Nat) : Int) > (200 : Int)))) (by kernel_rfl) (by kernel_rfl) ?_ ?_
  · intro g_4; replace h := cond_t g_4 h
    refine aw_seq (by kernel_rfl) ?_
    refine aw_region [] [4] [] 1 (vals := [.int .i64 (7 : Int)]) (bxs := []) (by kernel_rfl) hmix an ?_
    refine aw_ret (by kernel_rfl) ?_
    replace h := Option.some.inj h; subst h
    exact ⟨.inr rfl, Nat.le_of_ble_eq_true rfl, by kernel_rfl⟩
  intro g_4; replace h := cond_f g_4 h
  refine aw_seq (by kernel_rfl) ?_
  refine aw_seq (by kernel_rfl) ?_
  refine aw_mid (mk [(3, .ptr 0 0 0 0), (63, .bool ((a_1.Kind != (3 : Int)) && !(a_1.S == ([] : List Int))))] [(0, .live (.var 24 (v_T_api_Value a_1)))] 1) ?_ ?_
  · rcases Bool.eq_false_or_eq_true (a_1.Kind != (3 : Int)) with gg_10 | gg_10
    · refine aw_region [(7, { b := true })] [3, 63] [0] 1 (vals := [.ptr 0 0 0 0, .bool (!(a_1.S == ([] : List Int)))]) (bxs := [.live (.var 24 (v_T_api_Value a_1))]) (by kernel_rfl) hmix (ac gg_10 (ac gg_10 (ac gg_10 (ac gg_10 an)))) ?_
      exact ⟨rfl, (sub_wkm [0] [] [.s 3, .a 63 (.bool ((a_1.Kind != (3 : Int)) && !(a_1.S == ([] : List Int))))] [.s 0] (by kernel_rfl) (ac (congrArg AV.bool (andt gg_10 rfl) : (.bool (!(a_1.S == ([] : List Int))) : AV) = .bool ((a_1.Kind != (3 : Int)) && !(a_1.S == ([] : List Int)))) an))⟩
    · refine aw_region [(4, { g := false }), (5, { g := false }), (6, { g := false }), (7, { b := false })] [3, 63] [0] 1 (vals := [.ptr 0 0 0 0, .bool false]) (bxs := [.live (.var 24 (v_T_api_Value a_1))]) (by kernel_rfl) hmix (ac gg_10 (ac gg_10 (ac gg_10 (ac gg_10 an)))) ?_
      exact ⟨rfl, (sub_wkm [0] [] [.s 3, .a 63 (.bool ((a_1.Kind != (3 : Int)) && !(a_1.S == ([] : List Int))))] [.s 0] (by kernel_rfl) (ac (congrArg AV.bool (andf gg_10) : (.bool false : AV) = .bool ((a_1.Kind != (3 : Int)) && !(a_1.S == ([] : List Int)))) an))⟩
  refine aw_cond (t := 63) (b := ((a_1.Kind != (3 : Int)) && !(a_1.S == ([] : List Int)))) (by kernel_rfl) (by kernel_rfl) ?_ ?_
  · intro g_5; replace h := cond_t g_5 h
    refine aw_skip (by kernel_rfl) ?_
    refine aw_cond (t := 63) (b := ((a_1.Kind != (3 : Int)) && !(a_1.S == ([] : List Int)))) (by kernel_rfl) (by kernel_rfl) ?_ ?_
    rotate_left
    · intro hg; exact Bool.noConfusion ((g_5).symm.trans hg)
    intro _
    refine aw_seq (by kernel_rfl) ?_
    refine aw_region [] [4] [] 1 (vals := [.int .i64 (1 : Int)]) (bxs := []) (by kernel_rfl) hmix an ?_
    refine aw_ret (by kernel_rfl) ?_
    replace h := Option.some.inj h; subst h
    exact ⟨.inr rfl, Nat.le_of_ble_eq_true rfl, by kernel_rfl⟩
  intro g_5; replace h := cond_f g_5 h
  refine aw_mid (mk [(63, .bool (bif (a_1.Kind == (0 : Int)) then (a_1.N != (0 : Int)) else ((a_1.Kind == (3 : Int)) && (a_1.N != (0 : Int)))))] [] 0) ?_ ?_
  · rcases Bool.eq_false_or_eq_true (a_1.Kind == (0 : Int)) with gg_11 | gg_11
    · refine aw_region [(4, { g := false }), (5, { g := false }), (6, { g := false }), (7, { b := true }), (12, { b := true })] [63] [] 1 (vals := [.bool (a_1.N != (0 : Int))]) (bxs := []) (by kernel_rfl) hmix (ac gg_11 (ac gg_11 (ac gg_11 (ac gg_11 (ac (rfl : true = true) (ac (rfl : true = true) (ac (rfl : true = true) (ac (rfl : true = true) an)))))))) ?_
      exact ⟨rfl, (sub_wkm [] [] [.a 63 (.bool (bif (a_1.Kind == (0 : Int)) then (a_1.N != (0 : Int)) else ((a_1.Kind == (3 : Int)) && (a_1.N != (0 : Int)))))] [] (by kernel_rfl) (ac (congrArg AV.bool (ctr gg_11 rfl) : (.bool (a_1.N != (0 : Int)) : AV) = .bool (bif (a_1.Kind == (0 : Int)) then (a_1.N != (0 : Int)) else ((a_1.Kind == (3 : Int)) && (a_1.N != (0 : Int))))) an))⟩
    · rcases Bool.eq_false_or_eq_true (a_1.Kind == (3 : Int)) with gg_12 | gg_12
      · refine aw_region [(7, { b := false }), (12, { b := true })] [63] [] 1 (vals := [.bool (a_1.N != (0 : Int))]) (bxs := []) (by kernel_rfl) hmix (ac gg_11 (ac gg_11 (ac gg_11 (ac gg_11 (ac gg_12 (ac gg_12 (ac gg_12 (ac gg_12 an)))))))) ?_
        exact ⟨rfl, (sub_wkm [] [] [.a 63 (.bool (bif (a_1.Kind == (0 : Int)) then (a_1.N != (0 : Int)) else ((a_1.Kind == (3 : Int)) && (a_1.N != (0 : Int)))))] [] (by kernel_rfl) (ac (congrArg AV.bool (cfr gg_11 (andt gg_12 rfl)) : (.bool (a_1.N != (0 : Int)) : AV) = .bool (bif (a_1.Kind == (0 : Int)) then (a_1.N != (0 : Int)) else ((a_1.Kind == (3 : Int)) && (a_1.N != (0 : Int))))) an))⟩
      · refine aw_region [(7, { b := false }), (9, { g := false }), (10, { g := false }), (11, { g := false }), (12, { b := false })] [63] [] 1 (vals := [.bool false]) (bxs := []) (by kernel_rfl) hmix (ac gg_11 (ac gg_11 (ac gg_11 (ac gg_11 (ac gg_12 (ac gg_12 (ac gg_12 (ac gg_12 an)))))))) ?_
        exact ⟨rfl, (sub_wkm [] [] [.a 63 (.bool (bif (a_1.Kind == (0 : Int)) then (a_1.N != (0 : Int)) else ((a_1.Kind == (3 : Int)) && (a_1.N != (0 : Int)))))] [] (by kernel_rfl) (ac (congrArg AV.bool (cfr gg_11 (andf gg_12)) : (.bool false : AV) = .bool (bif (a_1.Kind == (0 : Int)) then (a_1.N != (0 : Int)) else ((a_1.Kind == (3 : Int)) && (a_1.N != (0 : Int))))) an))⟩
  refine aw_cond (t := 63) (b := (bif (a_1.Kind == (0 : Int)) then (a_1.N != (0 : Int)) else ((a_1.Kind == (3 : Int)) && (a_1.N != (0 : Int))))) (by kernel_rfl) (by kernel_rfl) ?_ ?_
  · intro g_6; replace h := cond_t g_6 h
    refine aw_seq (by kernel_rfl) ?_
    refine aw_region [] [4] [] 0 (vals := [.int .i64 (1 : Int)]) (bxs := []) (by kernel_rfl) hmix an ?_
    refine aw_ret (by kernel_rfl) ?_
    replace h := Option.some.inj h; subst h
    exact ⟨.inr rfl, Nat.le_of_ble_eq_true rfl, by kernel_rfl⟩
  intro g_6; replace h := cond_f g_6 h
  refine aw_skip (by kernel_rfl) ?_
  refine aw_seq (by kernel_rfl) ?_
  refine aw_region [] [4] [] 0 (vals := [.int .i64 (0 : Int)]) (bxs := []) (by kernel_rfl) hmix an ?_
  refine aw_ret (by kernel_rfl) ?_
  replace h := Option.some.inj h; subst h
  exact ⟨.inr rfl, Nat.le_of_ble_eq_true rfl, by kernel_rfl⟩

theorem R01_In_ok (n_1 : Int) (r : Bool) (h : R01_In n_1 = some r) : TripleG prog 20 [] [] [.int .i64 n_1] [] (.bool r) := by
  refine triple_intro (fn := Go.Proofs.Try.f20) (code := codeOf Go.Proofs.Try.f20) (by kernel_rfl) (by kernel_rfl) (Nat.le_of_ble_eq_true (by kernel_rfl)) ?_
  unfold R01_In at h
  refine aw_seq (by kernel_rfl) ?_
  refine aw_region [] [0] [] 0 (vals := [.int .i64 n_1]) (bxs := []) (by kernel_rfl) hmix an ?_
  refine aw_seq (by kernel_rfl) ?_
  refine aw_mid (mk [(2, .bool (decide (n_1 ≥ (-1000000000000000 : Int)) && decide (n_1 ≤ (1000000000000000 : Int))))] [] 0) ?_ ?_
  · rcases Bool.eq_false_or_eq_true (decide (n_1 ≥ (-1000000000000000 : Int))) with gg_1 | gg_1
    · refine aw_region [(5, { b := true })] [2] [] 0 (vals := [.bool (decide (n_1 ≤ (1000000000000000 : Int)))]) (bxs := []) (by kernel_rfl) hmix (ac gg_1 (ac gg_1 (ac gg_1 an))) ?_
      exact ⟨rfl, (sub_wkm [] [] [.a 2 (.bool (decide (n_1 ≥ (-1000000000000000 : Int)) && decide (n_1 ≤ (1000000000000000 : Int))))] [] (by kernel_rfl) (ac (congrArg AV.bool (andt gg_1 rfl) : (.bool (decide (n_1 ≤ (1000000000000000 : Int))) : AV) = .bool (decide (n_1 ≥ (-1000000000000000 : Int)) && decide (n_1 ≤ (1000000000000000 : Int)))) an))⟩
    · refine aw_region [(3, { g := false }), (4, { g := false }), (5, { b := false })] [2] [] 0 (vals := [.bool false]) (bxs := []) (by kernel_rfl) hmix (ac gg_1 (ac gg_1 (ac gg_1 an))) ?_
      exact ⟨rfl, (sub_wkm [] [] [.a 2 (.bool (decide (n_1 ≥ (-1000000000000000 : Int)) && decide (n_1 ≤ (1000000000000000 : Int))))] [] (by kernel_rfl) (ac (congrArg AV.bool (andf gg_1) : (.bool false : AV) = .bool (decide (n_1 ≥ (-1000000000000000 : Int)) && decide (n_1 ≤ (1000000000000000 : Int)))) an))⟩
  refine aw_ret (by kernel_rfl) ?_
  replace h := Option.some.inj h; subst h
  exact ⟨.inr rfl, Nat.le_of_ble_eq_true rfl, by kernel_rfl⟩

theorem R33_Value_ok (k_1 : Int) (a_1 : T_api_Value) (r : Int) (h : R33_Value k_1 a_1 = some r) : TripleG prog 9 [] [] [.int .i64 k_1, e_T_api_Value a_1] [] (.int .i64 r) := by
  refine triple_intro (fn := Go.Proofs.Try.f9) (code := codeOf Go.Proofs.Try.f9) (by kernel_rfl) (by kernel_rfl) (Nat.le_of_ble_eq_true (by kernel_rfl)) ?_
  unfold R33_Value at h
  refine aw_seq (by kernel_rfl) ?_
  refine aw_region [(0, { id := 0 })] [0, 3] [0] 1 (vals := [.int .i64 k_1, .ptr 0 0 0 0]) (bxs := [.live (.var 24 (v_T_api_Value a_1))]) (by kernel_rfl) hmix an ?_
  refine aw_seq (by kernel_rfl) ?_
  refine aw_seq (by kernel_rfl) ?_
  refine aw_mid (mk [(3, .ptr 0 0 0 0), (21, .bool ((a_1.Kind != (0 : Int)) && ((a_1.Kind != k_1) || (decide (k_1 < (1 : Int)) || decide (k_1 > (3 : Int))))))] [(0, .live (.var 24 (v_T_api_Value a_1)))] 1) ?_ ?_
  · rcases Bool.eq_false_or_eq_true (a_1.Kind != (0 : Int)) with gg_1 | gg_1
    · rcases Bool.eq_false_or_eq_true (a_1.Kind != k_1) with gg_2 | gg_2
      · refine aw_region [(9, { g := false }), (10, { g := false }), (11, { b := true }), (13, { g := false }), (14, { g := false }), (15, { b := true }), (16, { b := true })] [3, 21] [0] 1 (vals := [.ptr 0 0 0 0, .bool true]) (bxs := [.live (.var 24 (v_T_api_Value a_1))]) (by kernel_rfl) hmix (ac gg_1 (ac gg_1 (ac gg_1 (ac gg_1 (ac gg_1 (ac gg_2 (ac gg_2 (ac gg_1 (ac gg_2 (ac gg_1 (ac (rfl : true = !false) (ac (rfl : true = !false) (ac gg_1 (ac (rfl : true = true) (ac gg_1 an))))))))))))))) ?_
        exact ⟨rfl, (sub_wkm [0] [] [.s 3, .a 21 (.bool ((a_1.Kind != (0 : Int)) && ((a_1.Kind != k_1) || (decide (k_1 < (1 : Int)) || decide (k_1 > (3 : Int))))))] [.s 0] (by kernel_rfl) (ac (congrArg AV.bool (andt gg_1 (ort gg_2)) : (.bool true : AV) = .bool ((a_1.Kind != (0 : Int)) && ((a_1.Kind != k_1) || (decide (k_1 < (1 : Int)) || decide (k_1 > (3 : Int)))))) an))⟩
      · rcases Bool.eq_false_or_eq_true (decide (k_1 < (1 : Int))) with gg_3 | gg_3
        · refine aw_region [(11, { b := false }), (13, { g := false }), (14, { g := false }), (15, { b := true }), (16, { b := true })] [3, 21] [0] 1 (vals := [.ptr 0 0 0 0, .bool true]) (bxs := [.live (.var 24 (v_T_api_Value a_1))]) (by kernel_rfl) hmix (ac gg_1 (ac gg_1 (ac gg_1 (ac gg_1 (ac gg_1 (ac gg_2 (ac gg_2 (ac gg_1 (ac gg_2 (ac gg_1 (ac gg_3 (ac gg_3 (ac gg_1 (ac gg_3 (ac gg_1 an))))))))))))))) ?_
          exact ⟨rfl, (sub_wkm [0] [] [.s 3, .a 21 (.bool ((a_1.Kind != (0 : Int)) && ((a_1.Kind != k_1) || (decide (k_1 < (1 : Int)) || decide (k_1 > (3 : Int))))))] [.s 0] (by kernel_rfl) (ac (congrArg AV.bool (andt gg_1 (orf gg_2 (ort gg_3))) : (.bool true : AV) = .bool ((a_1.Kind != (0 : Int)) && ((a_1.Kind != k_1) || (decide (k_1 < (1 : Int)) || decide (k_1 > (3 : Int)))))) an))⟩
        · refine aw_region [(11, { b := false }), (15, { b := false }), (16, { b := true })] [3, 21] [0] 1 (vals := [.ptr 0 0 0 0, .bool (decide (k_1 > (3 : Int)))]) (bxs := [.live (.var 24 (v_T_api_Value a_1))]) (by kernel_rfl) hmix (ac gg_1 (ac gg_1 (ac gg_1 (ac gg_1 (ac gg_1 (ac gg_2 (ac gg_2 (ac gg_1 (ac gg_2 (ac gg_1 (ac gg_3 (ac gg_3 (ac gg_1 (ac gg_3 (ac gg_1 an))))))))))))))) ?_
          exact ⟨rfl, (sub_wkm [0] [] [.s 3, .a 21 (.bool ((a_1.Kind != (0 : Int)) && ((a_1.Kind != k_1) || (decide (k_1 < (1 : Int)) || decide (k_1 > (3 : Int))))))] [.s 0] (by kernel_rfl) (ac (congrArg AV.bool (andt gg_1 (orf gg_2 (orf gg_3 rfl))) : (.bool (decide (k_1 > (3 : Int))) : AV) = .bool ((a_1.Kind != (0 : Int)) && ((a_1.Kind != k_1) || (decide (k_1 < (1 : Int)) || decide (k_1 > (3 : Int)))))) an))⟩
    · refine aw_region [(4, { g := false }), (5, { g := false }), (6, { g := false }), (7, { g := false }), (8, { g := false }), (11, { g := false }), (12, { g := false }), (15, { g := false }), (16, { b := false })] [3, 21] [0] 1 (vals := [.ptr 0 0 0 0, .bool false]) (bxs := [.live (.var 24 (v_T_api_Value a_1))]) (by kernel_rfl) hmix (ac gg_1 (ac gg_1 (ac gg_1 (ac gg_1 (ac gg_1 (ac gg_1 (ac gg_1 (ac gg_1 (ac gg_1 an))))))))) ?_
      exact ⟨rfl, (sub_wkm [0] [] [.s 3, .a 21 (.bool ((a_1.Kind != (0 : Int)) && ((a_1.Kind != k_1) || (decide (k_1 < (1 : Int)) || decide (k_1 > (3 : Int))))))] [.s 0] (by kernel_rfl) (ac (congrArg AV.bool (andf gg_1) : (.bool false : AV) = .bool ((a_1.Kind != (0 : Int)) && ((a_1.Kind != k_1) || (decide (k_1 < (1 : Int)) || decide (k_1 > (3 : Int)))))) an))⟩
  refine aw_cond (t := 21) (b := ((a_1.Kind != (0 : Int)) && ((a_1.Kind != k_1) || (decide (k_1 < (1 : Int)) || decide (k_1 > (3 : Int)))))) (by kernel_rfl) (by kernel_rfl) ?_ ?_
  · intro g_1; replace h := cond_t g_1 h
    refine aw_seq (by kernel_rfl) ?_
    refine aw_region [] [4] [] 1 (vals := [.int .i64 (14 : Int)]) (bxs := []) (by kernel_rfl) hmix an ?_
    refine aw_ret (by kernel_rfl) ?_
    replace h := Option.some.inj h; subst h
    exact ⟨.inr rfl, Nat.le_of_ble_eq_true rfl, by kernel_rfl⟩
  intro g_1; replace h := cond_f g_1 h
  refine aw_skip (by kernel_rfl) ?_
  refine aw_seq (by kernel_rfl) ?_
  refine aw_seq (by kernel_rfl) ?_
  obtain ⟨p_1, h_2, h⟩ := bind_some h
  refine aw_mid (mk [(3, .ptr 0 0 0 0), (45, .bool p_1)] [(0, .live (.var 24 (v_T_api_Value a_1)))] 1) ?_ ?_
  · replace h := h_2
    rcases Bool.eq_false_or_eq_true (a_1.Kind == (1 : Int)) with gg_4 | gg_4
    · replace h := cond_t gg_4 h
      rcases Bool.eq_false_or_eq_true (decide (a_1.N < (0 : Int))) with gg_5 | gg_5
      · replace h := cond_t gg_5 h
        refine aw_region [(8, { g := false }), (9, { g := false }), (10, { g := false }), (11, { b := true }), (12, { b := true }), (14, { g := false }), (15, { g := false }), (16, { g := false }), (17, { g := false }), (22, { g := false }), (23, { b := true })] [3, 45] [0] 1 (vals := [.ptr 0 0 0 0, .bool true]) (bxs := [.live (.var 24 (v_T_api_Value a_1))]) (by kernel_rfl) hmix (ac gg_4 (ac gg_4 (ac gg_4 (ac gg_4 (ac gg_5 (ac gg_5 (ac gg_5 (ac gg_4 (ac gg_5 (ac gg_4 (ac (rfl : true = !false) (ac (rfl : true = !false) (ac (rfl : true = !false) (ac (rfl : true = !false) (ac (rfl : true = !false) (ac (rfl : true = true) an)))))))))))))))) ?_
        replace h := Option.some.inj h; subst h
        exact ⟨rfl, (sub_wkm [0] [] [.s 3, .s 45] [.s 0] (by kernel_rfl) an)⟩
      · replace h := cond_f gg_5 h
        rcases Bool.eq_false_or_eq_true (decide (a_1.N > (1 : Int))) with gg_6 | gg_6
        · replace h := cond_t gg_6 h
          refine aw_region [(11, { b := false }), (12, { b := true }), (14, { g := false }), (15, { g := false }), (16, { g := false }), (17, { g := false }), (22, { g := false }), (23, { b := true })] [3, 45] [0] 1 (vals := [.ptr 0 0 0 0, .bool true]) (bxs := [.live (.var 24 (v_T_api_Value a_1))]) (by kernel_rfl) hmix (ac gg_4 (ac gg_4 (ac gg_4 (ac gg_4 (ac gg_5 (ac gg_5 (ac gg_5 (ac gg_4 (ac gg_5 (ac gg_4 (ac gg_6 (ac gg_6 (ac gg_6 (ac gg_6 (ac gg_6 (ac gg_6 an)))))))))))))))) ?_
          replace h := Option.some.inj h; subst h
          exact ⟨rfl, (sub_wkm [0] [] [.s 3, .s 45] [.s 0] (by kernel_rfl) an)⟩
        · replace h := cond_f gg_6 h
          rcases Bool.eq_false_or_eq_true (a_1.Kind == (2 : Int)) with gg_7 | gg_7
          · replace h := cond_t gg_7 h
            obtain ⟨r_1, h_1, h⟩ := bind_some h
            refine aw_region [(11, { b := false }), (12, { b := true }), (20, { av := .bool r_1, l := [.int .i64 a_1.N] }), (22, { b := true }), (23, { b := false })] [3, 45] [0] 1 (vals := [.ptr 0 0 0 0, .bool (!r_1)]) (bxs := [.live (.var 24 (v_T_api_Value a_1))]) (by kernel_rfl) hmix (ac gg_4 (ac gg_4 (ac gg_4 (ac gg_4 (ac gg_5 (ac gg_5 (ac gg_5 (ac gg_4 (ac gg_5 (ac gg_4 (ac gg_6 (ac gg_6 (ac gg_6 (ac gg_6 (ac gg_7 (ac gg_7 (ac gg_7 (ac (rfl : ([.int .i64 a_1.N] : List AV) = [.int .i64 a_1.N]) (ac (rfl : ([] : List BoxSt) = []) (ac (R01_In_ok a_1.N r_1 h_1 : TripleG prog 20 [] [] [.int .i64 a_1.N] [] (.bool r_1)) (ac gg_7 (ac gg_6 (ac gg_7 (ac gg_6 an)))))))))))))))))))))))) ?_
            replace h := Option.some.inj h; subst h
            exact ⟨rfl, (sub_wkm [0] [] [.s 3, .s 45] [.s 0] (by kernel_rfl) an)⟩
          · replace h := cond_f gg_7 h
            refine aw_region [(11, { b := false }), (12, { b := true }), (18, { g := false }), (19, { g := false }), (20, { g := false }), (21, { g := false }), (22, { b := false }), (23, { b := false })] [3, 45] [0] 1 (vals := [.ptr 0 0 0 0, .bool false]) (bxs := [.live (.var 24 (v_T_api_Value a_1))]) (by kernel_rfl) hmix (ac gg_4 (ac gg_4 (ac gg_4 (ac gg_4 (ac gg_5 (ac gg_5 (ac gg_5 (ac gg_4 (ac gg_5 (ac gg_4 (ac gg_6 (ac gg_6 (ac gg_6 (ac gg_6 (ac gg_7 (ac gg_7 (ac gg_7 (ac gg_7 (ac gg_6 (ac gg_7 (ac gg_6 an))))))))))))))))))))) ?_
            replace h := Option.some.inj h; subst h
            exact ⟨rfl, (sub_wkm [0] [] [.s 3, .s 45] [.s 0] (by kernel_rfl) an)⟩
    · replace h := cond_f gg_4 h
      rcases Bool.eq_false_or_eq_true (a_1.Kind == (2 : Int)) with gg_8 | gg_8
      · replace h := cond_t gg_8 h
        obtain ⟨r_1, h_1, h⟩ := bind_some h
        refine aw_region [(4, { g := false }), (5, { g := false }), (6, { g := false }), (7, { g := false }), (11, { g := false }), (12, { b := false }), (20, { av := .bool r_1, l := [.int .i64 a_1.N] }), (22, { b := true }), (23, { b := false })] [3, 45] [0] 1 (vals := [.ptr 0 0 0 0, .bool (!r_1)]) (bxs := [.live (.var 24 (v_T_api_Value a_1))]) (by kernel_rfl) hmix (ac gg_4 (ac gg_4 (ac gg_4 (ac gg_4 (ac gg_4 (ac gg_4 (ac (rfl : false = false) (ac (rfl : false = false) (ac (rfl : false = false) (ac (rfl : false = false) (ac gg_8 (ac gg_8 (ac gg_8 (ac (rfl : ([.int .i64 a_1.N] : List AV) = [.int .i64 a_1.N]) (ac (rfl : ([] : List BoxSt) = []) (ac (R01_In_ok a_1.N r_1 h_1 : TripleG prog 20 [] [] [.int .i64 a_1.N] [] (.bool r_1)) (ac gg_8 (ac (rfl : false = false) (ac gg_8 (ac (rfl : false = false) an)))))))))))))))))))) ?_
        replace h := Option.some.inj h; subst h
        exact ⟨rfl, (sub_wkm [0] [] [.s 3, .s 45] [.s 0] (by kernel_rfl) an)⟩
      · replace h := cond_f gg_8 h
        refine aw_region [(4, { g := false }), (5, { g := false }), (6, { g := false }), (7, { g := false }), (11, { g := false }), (12, { b := false }), (18, { g := false }), (19, { g := false }), (20, { g := false }), (21, { g := false }), (22, { b := false }), (23, { b := false })] [3, 45] [0] 1 (vals := [.ptr 0 0 0 0, .bool false]) (bxs := [.live (.var 24 (v_T_api_Value a_1))]) (by kernel_rfl) hmix (ac gg_4 (ac gg_4 (ac gg_4 (ac gg_4 (ac gg_4 (ac gg_4 (ac (rfl : false = false) (ac (rfl : false = false) (ac (rfl : false = false) (ac (rfl : false = false) (ac gg_8 (ac gg_8 (ac gg_8 (ac gg_8 (ac (rfl : false = false) (ac gg_8 (ac (rfl : false = false) an))))))))))))))))) ?_
        replace h := Option.some.inj h; subst h
        exact ⟨rfl, (sub_wkm [0] [] [.s 3, .s 45] [.s 0] (by kernel_rfl) an)⟩
  refine aw_cond (t := 45) (b := p_1) (by kernel_rfl) (by kernel_rfl) ?_ ?_
  · intro g_2; replace h := cond_t g_2 h
    refine aw_seq (by kernel_rfl) ?_
    refine aw_region [] [4] [] 1 (vals := [.int .i64 (2 : Int)]) (bxs := []) (by kernel_rfl) hmix an ?_
    refine aw_ret (by kernel_rfl) ?_
    replace h := Option.some.inj h; subst h
    exact ⟨.inr rfl, Nat.le_of_ble_eq_true rfl, by kernel_rfl⟩
  intro g_2; replace h := cond_f g_2 h
  refine aw_skip (by kernel_rfl) ?_
  refine aw_seq (by kernel_rfl) ?_
  refine aw_seq (by kernel_rfl) ?_
  refine aw_mid (mk [(3, .ptr 0 0 0 0), (54, .bool ((a_1.Kind == (3 : Int)) && decide ((((a_1.S).length : Nat) : Int) > (200 : Int))))] [(0, .live (.var 24 (v_T_api_Value a_1)))] 1) ?_ ?_
  · rcases Bool.eq_false_or_eq_true (a_1.Kind == (3 : Int)) with gg_9 | gg_9
    · refine aw_region [(8, { b := true })] [3, 54] [0] 1 (vals := [.ptr 0 0 0 0, .bool (decide ((((a_1.S).length : Nat) : Int) > (200 : Int)))]) (bxs := [.live (.var 24 (v_T_api_Value a_1))]) (by kernel_rfl) hmix (ac gg_9 (ac gg_9 (ac gg_9 (ac gg_9 (ac gg_9 an))))) ?_
      exact ⟨rfl, (sub_wkm [0] [] [.s 3, .a 54 (.bool ((a_1.Kind == (3 : Int)) && decide ((((a_1.S).length : Nat) : Int) > (200 : Int))))] [.s 0] (by kernel_rfl) (ac (congrArg AV.bool (andt gg_9 rfl) : (.bool (decide ((((a_1.S).length : Nat) : Int) > (200 : Int))) : AV) = .bool ((a_1.Kind == (3 : Int)) && decide ((((a_1.S).length : Nat) : Int) > (200 : Int)))) an))⟩
    · refine aw_region [(4, { g := false }), (5, { g := false }), (6, { g := false }), (7, { g := false }), (8, { b := false })] [3, 54] [0] 1 (vals := [.ptr 0 0 0 0, .bool false]) (bxs := [.live (.var 24 (v_T_api_Value a_1))]) (by kernel_rfl) hmix (ac gg_9 (ac gg_9 (ac gg_9 (ac gg_9 (ac gg_9 an))))) ?_
      exact ⟨rfl, (sub_wkm [0] [] [.s 3, .a 54 (.bool ((a_1.Kind == (3 : Int)) && decide ((((a_1.S).length : Nat) : Int) > (200 : Int))))] [.s 0] (by kernel_rfl) (ac (congrArg AV.bool (andf gg_9) : (.bool false : AV) = .bool ((a_1.Kind == (3 : Int)) && decide ((((a_1.S).length : Nat) : Int) > (200 : Int)))) an))⟩
  refine aw_cond (t := 54) (b := ((a_1.Kind == (3 : Int)) && decide ((((a_1.S).length : Nat) : Int) > (200 : Int)))) (by kernel_rfl) (by kernel_rfl) ?_ ?_
  · intro g_3; replace h := cond_t g_3 h
    refine aw_seq (by kernel_rfl) ?_
    refine aw_region [] [4] [] 1 (vals := [.int .i64 (7 : Int)]) (bxs := []) (by kernel_rfl) hmix an ?_
    refine aw_ret (by kernel_rfl) ?_
    replace h := Option.some.inj h; subst h
    exact ⟨.inr rfl, Nat.le_of_ble_eq_true rfl, by kernel_rfl⟩
  intro g_3; replace h := cond_f g_3 h
  refine aw_skip (by kernel_rfl) ?_
  refine aw_seq (by kernel_rfl) ?_
  refine aw_seq (by kernel_rfl) ?_
  refine aw_mid (mk [(77, .bool (bif (a_1.Kind != (3 : Int)) then (!(a_1.S == ([] : List Int)) || (bif (a_1.Kind == (0 : Int)) then (a_1.N != (0 : Int)) else ((a_1.Kind == (3 : Int)) && (a_1.N != (0 : Int))))) else (bif (a_1.Kind == (0 : Int)) then (a_1.N != (0 : Int)) else ((a_1.Kind == (3 : Int)) && (a_1.N != (0 : Int))))))] [] 0) ?_ ?_
  · rcases Bool.eq_false_or_eq_true (a_1.Kind != (3 : Int)) with gg_10 | gg_10
    · rcases Bool.eq_false_or_eq_true (!(a_1.S == ([] : List Int))) with gg_11 | gg_11
      · refine aw_region [(7, { b := true }), (9, { g := false }), (10, { g := false }), (11, { g := false }), (12, { g := false }), (16, { g := false }), (17, { g := false }), (21, { g := false }), (22, { b := true })] [77] [] 1 (vals := [.bool true]) (bxs := []) (by kernel_rfl) hmix (ac gg_10 (ac gg_10 (ac gg_10 (ac gg_10 (ac gg_11 (ac gg_11 (ac gg_11 (ac gg_11 (ac gg_11 (ac gg_11 (ac gg_11 (ac gg_11 an)))))))))))) ?_
        exact ⟨rfl, (sub_wkm [] [] [.a 77 (.bool (bif (a_1.Kind != (3 : Int)) then (!(a_1.S == ([] : List Int)) || (bif (a_1.Kind == (0 : Int)) then (a_1.N != (0 : Int)) else ((a_1.Kind == (3 : Int)) && (a_1.N != (0 : Int))))) else (bif (a_1.Kind == (0 : Int)) then (a_1.N != (0 : Int)) else ((a_1.Kind == (3 : Int)) && (a_1.N != (0 : Int))))))] [] (by kernel_rfl) (ac (congrArg AV.bool (ctr gg_10 (ort gg_11)) : (.bool true : AV) = .bool (bif (a_1.Kind != (3 : Int)) then (!(a_1.S == ([] : List Int)) || (bif (a_1.Kind == (0 : Int)) then (a_1.N != (0 : Int)) else ((a_1.Kind == (3 : Int)) && (a_1.N != (0 : Int))))) else (bif (a_1.Kind == (0 : Int)) then (a_1.N != (0 : Int)) else ((a_1.Kind == (3 : Int)) && (a_1.N != (0 : Int)))))) an))⟩
      · rcases Bool.eq_false_or_eq_true (a_1.Kind == (0 : Int)) with gg_12 | gg_12
        · refine aw_region [(7, { b := true }), (13, { g := false }), (14, { g := false }), (15, { g := false }), (16, { b := true }), (21, { b := true }), (22, { b := false })] [77] [] 1 (vals := [.bool (a_1.N != (0 : Int))]) (bxs := []) (by kernel_rfl) hmix (ac gg_10 (ac gg_10 (ac gg_10 (ac gg_10 (ac gg_11 (ac gg_11 (ac gg_11 (ac gg_11 (ac gg_12 (ac gg_12 (ac gg_12 (ac gg_11 (ac gg_12 (ac gg_11 (ac (rfl : true = true) (ac (rfl : true = true) (ac (rfl : true = true) (ac gg_11 (ac (rfl : true = true) (ac gg_11 an)))))))))))))))))))) ?_
          exact ⟨rfl, (sub_wkm [] [] [.a 77 (.bool (bif (a_1.Kind != (3 : Int)) then (!(a_1.S == ([] : List Int)) || (bif (a_1.Kind == (0 : Int)) then (a_1.N != (0 : Int)) else ((a_1.Kind == (3 : Int)) && (a_1.N != (0 : Int))))) else (bif (a_1.Kind == (0 : Int)) then (a_1.N != (0 : Int)) else ((a_1.Kind == (3 : Int)) && (a_1.N != (0 : Int))))))] [] (by kernel_rfl) (ac (congrArg AV.bool (ctr gg_10 (orf gg_11 (ctr gg_12 rfl))) : (.bool (a_1.N != (0 : Int)) : AV) = .bool (bif (a_1.Kind != (3 : Int)) then (!(a_1.S == ([] : List Int)) || (bif (a_1.Kind == (0 : Int)) then (a_1.N != (0 : Int)) else ((a_1.Kind == (3 : Int)) && (a_1.N != (0 : Int))))) else (bif (a_1.Kind == (0 : Int)) then (a_1.N != (0 : Int)) else ((a_1.Kind == (3 : Int)) && (a_1.N != (0 : Int)))))) an))⟩
        · rcases Bool.eq_false_or_eq_true (a_1.Kind == (3 : Int)) with gg_13 | gg_13
          · refine aw_region [(7, { b := true }), (16, { b := false }), (21, { b := true }), (22, { b := false })] [77] [] 1 (vals := [.bool (a_1.N != (0 : Int))]) (bxs := []) (by kernel_rfl) hmix (ac gg_10 (ac gg_10 (ac gg_10 (ac gg_10 (ac gg_11 (ac gg_11 (ac gg_11 (ac gg_11 (ac gg_12 (ac gg_12 (ac gg_12 (ac gg_11 (ac gg_12 (ac gg_11 (ac gg_13 (ac gg_13 (ac gg_13 (ac gg_11 (ac gg_13 (ac gg_11 an)))))))))))))))))))) ?_
            exact ⟨rfl, (sub_wkm [] [] [.a 77 (.bool (bif (a_1.Kind != (3 : Int)) then (!(a_1.S == ([] : List Int)) || (bif (a_1.Kind == (0 : Int)) then (a_1.N != (0 : Int)) else ((a_1.Kind == (3 : Int)) && (a_1.N != (0 : Int))))) else (bif (a_1.Kind == (0 : Int)) then (a_1.N != (0 : Int)) else ((a_1.Kind == (3 : Int)) && (a_1.N != (0 : Int))))))] [] (by kernel_rfl) (ac (congrArg AV.bool (ctr gg_10 (orf gg_11 (cfr gg_12 (andt gg_13 rfl)))) : (.bool (a_1.N != (0 : Int)) : AV) = .bool (bif (a_1.Kind != (3 : Int)) then (!(a_1.S == ([] : List Int)) || (bif (a_1.Kind == (0 : Int)) then (a_1.N != (0 : Int)) else ((a_1.Kind == (3 : Int)) && (a_1.N != (0 : Int))))) else (bif (a_1.Kind == (0 : Int)) then (a_1.N != (0 : Int)) else ((a_1.Kind == (3 : Int)) && (a_1.N != (0 : Int)))))) an))⟩
          · refine aw_region [(7, { b := true }), (16, { b := false }), (18, { g := false }), (19, { g := false }), (20, { g := false }), (21, { b := false }), (22, { b := false })] [77] [] 1 (vals := [.bool false]) (bxs := []) (by kernel_rfl) hmix (ac gg_10 (ac gg_10 (ac gg_10 (ac gg_10 (ac gg_11 (ac gg_11 (ac gg_11 (ac gg_11 (ac gg_12 (ac gg_12 (ac gg_12 (ac gg_11 (ac gg_12 (ac gg_11 (ac gg_13 (ac gg_13 (ac gg_13 (ac gg_11 (ac gg_13 (ac gg_11 an)))))))))))))))))))) ?_
            exact ⟨rfl, (sub_wkm [] [] [.a 77 (.bool (bif (a_1.Kind != (3 : Int)) then (!(a_1.S == ([] : List Int)) || (bif (a_1.Kind == (0 : Int)) then (a_1.N != (0 : Int)) else ((a_1.Kind == (3 : Int)) && (a_1.N != (0 : Int))))) else (bif (a_1.Kind == (0 : Int)) then (a_1.N != (0 : Int)) else ((a_1.Kind == (3 : Int)) && (a_1.N != (0 : Int))))))] [] (by kernel_rfl) (ac (congrArg AV.bool (ctr gg_10 (orf gg_11 (cfr gg_12 (andf gg_13)))) : (.bool false : AV) = .bool (bif (a_1.Kind != (3 : Int)) then (!(a_1.S == ([] : List Int)) || (bif (a_1.Kind == (0 : Int)) then (a_1.N != (0 : Int)) else ((a_1.Kind == (3 : Int)) && (a_1.N != (0 : Int))))) else (bif (a_1.Kind == (0 : Int)) then (a_1.N != (0 : Int)) else ((a_1.Kind == (3 : Int)) && (a_1.N != (0 : Int)))))) an))⟩
    · rcases Bool.eq_false_or_eq_true (a_1.Kind == (0 : Int)) with gg_14 | gg_14
      · refine aw_region [(4, { g := false }), (5, { g := false }), (6, { g := false }), (7, { b := false }), (13, { g := false }), (14, { g := false }), (15, { g := false }), (16, { b := true }), (21, { b := true }), (22, { b := false })] [77] [] 1 (vals := [.bool (a_1.N != (0 : Int))]) (bxs := []) (by kernel_rfl) hmix (ac gg_10 (ac gg_10 (ac gg_10 (ac gg_10 (ac (rfl : false = false) (ac (rfl : false = false) (ac (rfl : false = false) (ac (rfl : false = false) (ac gg_14 (ac gg_14 (ac gg_14 (ac (rfl : false = false) (ac gg_14 (ac (rfl : false = false) (ac (rfl : true = true) (ac (rfl : true = true) (ac (rfl : true = true) (ac (rfl : false = false) (ac (rfl : true = true) (ac (rfl : false = false) an)))))))))))))))))))) ?_
        exact ⟨rfl, (sub_wkm [] [] [.a 77 (.bool (bif (a_1.Kind != (3 : Int)) then (!(a_1.S == ([] : List Int)) || (bif (a_1.Kind == (0 : Int)) then (a_1.N != (0 : Int)) else ((a_1.Kind == (3 : Int)) && (a_1.N != (0 : Int))))) else (bif (a_1.Kind == (0 : Int)) then (a_1.N != (0 : Int)) else ((a_1.Kind == (3 : Int)) && (a_1.N != (0 : Int))))))] [] (by kernel_rfl) (ac (congrArg AV.bool (cfr gg_10 (ctr gg_14 rfl)) : (.bool (a_1.N != (0 : Int)) : AV) = .bool (bif (a_1.Kind != (3 : Int)) then (!(a_1.S == ([] : List Int)) || (bif (a_1.Kind == (0 : Int)) then (a_1.N != (0 : Int)) else ((a_1.Kind == (3 : Int)) && (a_1.N != (0 : Int))))) else (bif (a_1.Kind == (0 : Int)) then (a_1.N != (0 : Int)) else ((a_1.Kind == (3 : Int)) && (a_1.N != (0 : Int)))))) an))⟩
      · rcases Bool.eq_false_or_eq_true (a_1.Kind == (3 : Int)) with gg_15 | gg_15
        · refine aw_region [(4, { g := false }), (5, { g := false }), (6, { g := false }), (7, { b := false }), (16, { b := false }), (21, { b := true }), (22, { b := false })] [77] [] 1 (vals := [.bool (a_1.N != (0 : Int))]) (bxs := []) (by kernel_rfl) hmix (ac gg_10 (ac gg_10 (ac gg_10 (ac gg_10 (ac (rfl : false = false) (ac (rfl : false = false) (ac (rfl : false = false) (ac (rfl : false = false) (ac gg_14 (ac gg_14 (ac gg_14 (ac (rfl : false = false) (ac gg_14 (ac (rfl : false = false) (ac gg_15 (ac gg_15 (ac gg_15 (ac (rfl : false = false) (ac gg_15 (ac (rfl : false = false) an)))))))))))))))))))) ?_
          exact ⟨rfl, (sub_wkm [] [] [.a 77 (.bool (bif (a_1.Kind != (3 : Int)) then (!(a_1.S == ([] : List Int)) || (bif (a_1.Kind == (0 : Int)) then (a_1.N != (0 : Int)) else ((a_1.Kind == (3 : Int)) && (a_1.N != (0 : Int))))) else (bif (a_1.Kind == (0 : Int)) then (a_1.N != (0 : Int)) else ((a_1.Kind == (3 : Int)) && (a_1.N != (0 : Int))))))] [] (by kernel_rfl) (ac (congrArg AV.bool (cfr gg_10 (cfr gg_14 (andt gg_15 rfl))) : (.bool (a_1.N != (0 : Int)) : AV) = .bool (bif (a_1.Kind != (3 : Int)) then (!(a_1.S == ([] : List Int)) || (bif (a_1.Kind == (0 : Int)) then (a_1.N != (0 : Int)) else ((a_1.Kind == (3 : Int)) && (a_1.N != (0 : Int))))) else (bif (a_1.Kind == (0 : Int)) then (a_1.N != (0 : Int)) else ((a_1.Kind == (3 : Int)) && (a_1.N != (0 : Int)))))) an))⟩
        · refine aw_region [(4, { g := false }), (5, { g := false }), (6, { g := false }), (7, { b := false }), (16, { b := false }), (18, { g := false }), (19, { g := false }), (20, { g := false }), (21, { b := false }), (22, { b := false })] [77] [] 1 (vals := [.bool false]) (bxs := []) (by kernel_rfl) hmix (ac gg_10 (ac gg_10 (ac gg_10 (ac gg_10 (ac (rfl : false = false) (ac (rfl : false = false) (ac (rfl : false = false) (ac (rfl : false = false) (ac gg_14 (ac gg_14 (ac gg_14 (ac (rfl : false = false) (ac gg_14 (ac (rfl : false = false) (ac gg_15 (ac gg_15 (ac gg_15 (ac (rfl : false = false) (ac gg_15 (ac (rfl : false = false) an)))))))))))))))))))) ?_
          exact ⟨rfl, (sub_wkm [] [] [.a 77 (.bool (bif (a_1.Kind != (3 : Int)) then (!(a_1.S == ([] : List Int)) || (bif (a_1.Kind == (0 : Int)) then (a_1.N != (0 : Int)) else ((a_1.Kind == (3 : Int)) && (a_1.N != (0 : Int))))) else (bif (a_1.Kind == (0 : Int)) then (a_1.N != (0 : Int)) else ((a_1.Kind == (3 : Int)) && (a_1.N != (0 : Int))))))] [] (by kernel_rfl) (ac (congrArg AV.bool (cfr gg_10 (cfr gg_14 (andf gg_15))) : (.bool false : AV) = .bool (bif (a_1.Kind != (3 : Int)) then (!(a_1.S == ([] : List Int)) || (bif (a_1.Kind == (0 : Int)) then (a_1.N != (0 : Int)) else ((a_1.Kind == (3 : Int)) && (a_1.N != (0 : Int))))) else (bif (a_1.Kind == (0 : Int)) then (a_1.N != (0 : Int)) else ((a_1.Kind == (3 : Int)) && (a_1.N != (0 : Int)))))) an))⟩
  refine aw_cond (t := 77) (b := (bif (a_1.Kind != (3 : Int)) then (!(a_1.S == ([] : List Int)) || (bif (a_1.Kind == (0 : Int)) then (a_1.N != (0 : Int)) else ((a_1.Kind == (3 : Int)) && (a_1.N != (0 : Int))))) else (bif (a_1.Kind == (0 : Int)) then (a_1.N != (0 : Int)) else ((a_1.Kind == (3 : Int)) && (a_1.N != (0 : Int)))))) (by kernel_rfl) (by kernel_rfl) ?_ ?_
  · intro g_4; replace h := cond_t g_4 h
    refine aw_seq (by kernel_rfl) ?_
    refine aw_region [] [4] [] 0 (vals := [.int .i64 (1 : Int)]) (bxs := []) (by kernel_rfl) hmix an ?_
    refine aw_ret (by kernel_rfl) ?_
    replace h := Option.some.inj h; subst h
    exact ⟨.inr rfl, Nat.le_of_ble_eq_true rfl, by kernel_rfl⟩
  intro g_4; replace h := cond_f g_4 h
  refine aw_skip (by kernel_rfl) ?_
  refine aw_seq (by kernel_rfl) ?_
  refine aw_region [] [4] [] 0 (vals := [.int .i64 (0 : Int)]) (bxs := []) (by kernel_rfl) hmix an ?_
  refine aw_ret (by kernel_rfl) ?_
  replace h := Option.some.inj h; subst h
  exact ⟨.inr rfl, Nat.le_of_ble_eq_true rfl, by kernel_rfl⟩

theorem L33_num_ok (n_1 : Int) (r : T_api_Value) (h : L33_num n_1 = some r) : TripleG prog 21 [] [] [.int .i64 n_1] [] (e_T_api_Value r) := by
  refine triple_intro (fn := Go.Proofs.Try.f21) (code := codeOf Go.Proofs.Try.f21) (by kernel_rfl) (by kernel_rfl) (Nat.le_of_ble_eq_true (by kernel_rfl)) ?_
  unfold L33_num at h
  refine aw_seq (by kernel_rfl) ?_
  refine aw_region [(0, { id := 0 })] [0, 2] [0] 1 (vals := [.int .i64 n_1, .ptr 0 0 0 0]) (bxs := [.live (.var 24 [.int .i64 (0 : Int), .int .i64 (0 : Int), .str ([] : List Int)])]) (by kernel_rfl) hmix an ?_
  refine aw_seq (by kernel_rfl) ?_
  refine aw_region [] [2] [0] 1 (vals := [.ptr 0 0 0 0]) (bxs := [.live (.var 24 [.int .i64 (2 : Int), .int .i64 n_1, .str ([] : List Int)])]) (by kernel_rfl) hmix an ?_
  refine aw_sub (sub_wkm [0] [] [.s 2] [.a 0 (.live (.var 24 (v_T_api_Value (⟨(2 : Int), n_1, ([] : List Int)⟩ : T_api_Value))))] (sl2 := [(2, .ptr 0 0 0 0)]) (bx2 := [(0, .live (.var 24 (v_T_api_Value (⟨(2 : Int), n_1, ([] : List Int)⟩ : T_api_Value))))]) (by kernel_rfl) (ac (rfl : 24 = 24) (ac (rfl : ones [.int .i64 ((⟨(2 : Int), n_1, ([] : List Int)⟩ : T_api_Value).Kind), .int .i64 ((⟨(2 : Int), n_1, ([] : List Int)⟩ : T_api_Value).N), .str ((⟨(2 : Int), n_1, ([] : List Int)⟩ : T_api_Value).S)] = true) (ac (rfl : (.int .i64 (2 : Int) : AV) = .int .i64 ((⟨(2 : Int), n_1, ([] : List Int)⟩ : T_api_Value).Kind)) (ac (rfl : (.int .i64 n_1 : AV) = .int .i64 ((⟨(2 : Int), n_1, ([] : List Int)⟩ : T_api_Value).N)) (ac (rfl : (.str ([] : List Int) : AV) = .str ((⟨(2 : Int), n_1, ([] : List Int)⟩ : T_api_Value).S)) an)))))) ?_
  refine aw_ret (by kernel_rfl) ?_
  replace h := Option.some.inj h; subst h
  exact ⟨.inr rfl, Nat.le_of_ble_eq_true rfl, by kernel_rfl⟩

theorem column_known_ok (k_1 : Int) (r : Int) (h : column_known k_1 = some r) : TripleG prog 22 [] [] [.int .i64 k_1] [] (.int .i64 r) := by
  refine triple_intro (fn := Go.Proofs.Try.f22) (code := codeOf Go.Proofs.Try.f22) (by kernel_rfl) (by kernel_rfl) (Nat.le_of_ble_eq_true (by kernel_rfl)) ?_
  unfold column_known at h
  refine aw_seq (by kernel_rfl) ?_
  refine aw_region [] [0] [] 0 (vals := [.int .i64 k_1]) (bxs := []) (by kernel_rfl) hmix an ?_
  refine aw_seq (by kernel_rfl) ?_
  refine aw_seq (by kernel_rfl) ?_
  refine aw_mid (mk [(12, .bool ((k_1 != (1 : Int)) && ((k_1 != (2 : Int)) && (k_1 != (3 : Int)))))] [] 0) ?_ ?_
  · rcases Bool.eq_false_or_eq_true (k_1 != (1 : Int)) with gg_1 | gg_1
    · rcases Bool.eq_false_or_eq_true (k_1 != (2 : Int)) with gg_2 | gg_2
      · refine aw_region [(5, { b := true }), (9, { b := true })] [12] [] 0 (vals := [.bool (k_1 != (3 : Int))]) (bxs := []) (by kernel_rfl) hmix (ac gg_1 (ac gg_1 (ac gg_1 (ac gg_2 (ac gg_2 (ac gg_2 an)))))) ?_
        exact ⟨rfl, (sub_wkm [] [] [.a 12 (.bool ((k_1 != (1 : Int)) && ((k_1 != (2 : Int)) && (k_1 != (3 : Int)))))] [] (by kernel_rfl) (ac (congrArg AV.bool (andt gg_1 (andt gg_2 rfl)) : (.bool (k_1 != (3 : Int)) : AV) = .bool ((k_1 != (1 : Int)) && ((k_1 != (2 : Int)) && (k_1 != (3 : Int))))) an))⟩
      · refine aw_region [(5, { b := true }), (7, { g := false }), (8, { g := false }), (9, { b := false })] [12] [] 0 (vals := [.bool false]) (bxs := []) (by kernel_rfl) hmix (ac gg_1 (ac gg_1 (ac gg_1 (ac gg_2 (ac gg_2 (ac gg_2 an)))))) ?_
        exact ⟨rfl, (sub_wkm [] [] [.a 12 (.bool ((k_1 != (1 : Int)) && ((k_1 != (2 : Int)) && (k_1 != (3 : Int)))))] [] (by kernel_rfl) (ac (congrArg AV.bool (andt gg_1 (andf gg_2)) : (.bool false : AV) = .bool ((k_1 != (1 : Int)) && ((k_1 != (2 : Int)) && (k_1 != (3 : Int))))) an))⟩
    · refine aw_region [(3, { g := false }), (4, { g := false }), (5, { b := false }), (7, { g := false }), (8, { g := false }), (9, { b := false })] [12] [] 0 (vals := [.bool false]) (bxs := []) (by kernel_rfl) hmix (ac gg_1 (ac gg_1 (ac gg_1 (ac (rfl : false = !true) (ac (rfl : false = !true) (ac (rfl : false = false) an)))))) ?_
      exact ⟨rfl, (sub_wkm [] [] [.a 12 (.bool ((k_1 != (1 : Int)) && ((k_1 != (2 : Int)) && (k_1 != (3 : Int)))))] [] (by kernel_rfl) (ac (congrArg AV.bool (andf gg_1) : (.bool false : AV) = .bool ((k_1 != (1 : Int)) && ((k_1 != (2 : Int)) && (k_1 != (3 : Int))))) an))⟩
  refine aw_cond (t := 12) (b := ((k_1 != (1 : Int)) && ((k_1 != (2 : Int)) && (k_1 != (3 : Int))))) (by kernel_rfl) (by kernel_rfl) ?_ ?_
  · intro g_1; replace h := cond_t g_1 h
    refine aw_seq (by kernel_rfl) ?_
    refine aw_region [] [2] [] 0 (vals := [.int .i64 (1 : Int)]) (bxs := []) (by kernel_rfl) hmix an ?_
    refine aw_ret (by kernel_rfl) ?_
    replace h := Option.some.inj h; subst h
    exact ⟨.inr rfl, Nat.le_of_ble_eq_true rfl, by kernel_rfl⟩
  intro g_1; replace h := cond_f g_1 h
  refine aw_skip (by kernel_rfl) ?_
  refine aw_seq (by kernel_rfl) ?_
  refine aw_region [] [2] [] 0 (vals := [.int .i64 (0 : Int)]) (bxs := []) (by kernel_rfl) hmix an ?_
  refine aw_ret (by kernel_rfl) ?_
  replace h := Option.some.inj h; subst h
  exact ⟨.inr rfl, Nat.le_of_ble_eq_true rfl, by kernel_rfl⟩

theorem codec_number_ok (n_1 : Int) (r : Int) (h : codec_number n_1 = some r) : TripleG prog 46 [] [] [.int .i64 n_1] [] (.int .u64 r) := by
  refine triple_intro (fn := Go.Proofs.Try.f46) (code := codeOf Go.Proofs.Try.f46) (by kernel_rfl) (by kernel_rfl) (Nat.le_of_ble_eq_true (by kernel_rfl)) ?_
  unfold codec_number at h
  refine aw_seq (by kernel_rfl) ?_
  refine aw_region [] [0] [] 0 (vals := [.int .i64 n_1]) (bxs := []) (by kernel_rfl) hmix an ?_
  refine aw_seq (by kernel_rfl) ?_
  refine aw_region [] [2] [] 0 (vals := [.int .u64 (ixor .u64 (ishl .u64 (w_u64 n_1) (1 : Int)) (w_u64 (ishr .i64 n_1 (63 : Int))))]) (bxs := []) (by kernel_rfl) hmix (ac (by decide : (0 : Int) ≤ (1 : Int)) (ac (by decide : (0 : Int) ≤ (63 : Int)) an)) ?_
  refine aw_ret (by kernel_rfl) ?_
  replace h := Option.some.inj h; subst h
  exact ⟨.inr rfl, Nat.le_of_ble_eq_true rfl, by kernel_rfl⟩

theorem codec_PutInt_ok (F : Nat) (b_1 : List (Int)) (n_1 : Int) (r : (List (Int))) (h : codec_PutInt F b_1 n_1 = some r) : TripleG prog 35 [] [] [.sl false 1 (List.map (AV.int .u8) b_1), .int .i64 n_1] [.row 5 1 (List.map (AV.int .u8) r)] (.own 0 ((r).length)) := by
  refine triple_intro (fn := Go.Proofs.Try.f35) (code := codeOf Go.Proofs.Try.f35) (by kernel_rfl) (by kernel_rfl) (Nat.le_of_ble_eq_true (by kernel_rfl)) ?_
  unfold codec_PutInt at h
  refine aw_seq (by kernel_rfl) ?_
  refine aw_region [(0, { id := 0, m := 1 })] [0, 1] [] 1 (vals := [.sl false 1 (List.map (AV.int .u8) b_1), .int .i64 n_1]) (bxs := []) (by kernel_rfl) hmix an ?_
  refine aw_seq (by kernel_rfl) ?_
  refine aw_region [(0, { b := true, id := 1 })] [0, 1, 5] [1] 2 (vals := [.sl false 1 (List.map (AV.int .u8) b_1), .int .i64 n_1, .ptr 1 0 0 0]) (bxs := [.live (.row 71 1 (List.map (AV.int .u8) (List.replicate 10 (0 : Int))))]) (by kernel_rfl) hmix an ?_
  refine aw_seq (by kernel_rfl) ?_
  refine aw_region [] [0, 1, 5, 6] [1] 2 (vals := [.sl false 1 (List.map (AV.int .u8) b_1), .int .i64 n_1, .ptr 1 0 0 0, .int .i64 (0 : Int)]) (bxs := [.live (.row 71 1 (List.map (AV.int .u8) (List.replicate 10 (0 : Int))))]) (by kernel_rfl) hmix an ?_
  refine aw_seq (by kernel_rfl) ?_
  refine aw_seq (by kernel_rfl) ?_
  obtain ⟨r_1, h_1, h⟩ := bind_some h
  refine aw_region [(1, { av := .int .u64 r_1, l := [.int .i64 n_1] })] [0, 5, 6, 7] [1] 2 (vals := [.sl false 1 (List.map (AV.int .u8) b_1), .ptr 1 0 0 0, .int .i64 (0 : Int), .int .u64 r_1]) (bxs := [.live (.row 71 1 (List.map (AV.int .u8) (List.replicate 10 (0 : Int))))]) (by kernel_rfl) hmix (ac (rfl : ([.int .i64 n_1] : List AV) = [.int .i64 n_1]) (ac (rfl : ([] : List BoxSt) = []) (ac (codec_number_ok n_1 r_1 h_1 : TripleG prog 46 [] [] [.int .i64 n_1] [] (.int .u64 r_1)) an))) ?_
  obtain ⟨o_1, h_2, h⟩ := bind_some h
  refine aw_mid (mk [(0, .sl false 1 (List.map (AV.int .u8) b_1)), (5, .ptr 0 0 0 0), (6, .int .i64 o_1.1)] [(0, .live (.row 71 1 (List.map (AV.int .u8) o_1.2)))] 1) ?_ ?_
  · replace h := h_2
    refine aw_block (id := 0) (by kernel_rfl) ?_
    refine aw_sub (sub_wkm [1] [] [.s 0, .s 5, .s 6, .s 7] [.s 0] (sl2 := [(0, .sl false 1 (List.map (AV.int .u8) b_1)), (5, .ptr 0 0 0 0), (6, .int .i64 (0 : Int)), (7, .int .u64 r_1)]) (bx2 := [(0, .live (.row 71 1 (List.map (AV.int .u8) (List.replicate 10 (0 : Int)))))]) (by kernel_rfl) an) ?_
    refine aw_loopF (fun n st => ∃ (size_1 : Int), ∃ (u_1 : Int), ∃ (row_1 : List Int), st = mk [(0, .sl false 1 (List.map (AV.int .u8) b_1)), (5, .ptr 0 0 0 0), (6, .int .i64 size_1), (7, .int .u64 u_1)] [(0, .live (.row 71 1 (List.map (AV.int .u8) row_1)))] 1 ∧ codec_PutInt_L1 F n size_1 u_1 row_1 = some o_1) F (by kernel_rfl) ⟨_, _, _, rfl, h⟩ ?_ ?_
    · rintro _ ⟨_, _, _, _, h⟩; exact none_ne (h : (none : Option (Int × (List Int))) = some o_1)
    rintro n_2 _ ⟨size_1, u_1, row_1, rfl, h⟩
    replace h : codec_PutInt_L1_body F (codec_PutInt_L1 F n_2) size_1 u_1 row_1 = some o_1 := h
    unfold codec_PutInt_L1_body at h
    refine aw_seq (by kernel_rfl) ?_
    refine aw_block (id := 1) (by kernel_rfl) ?_
    refine aw_seq (by kernel_rfl) ?_
    obtain ⟨_, h_3, h⟩ := bind_some h; replace h_3 := need_some h_3
    obtain ⟨x_1, h_4, h⟩ := bind_some h
    refine aw_region [(4, { b := true }), (5, { av := .int .u8 x_1, l := (List.map (AV.int .u8) ((row_1).set ((size_1).toNat) (w_u8 (iand .u64 u_1 (127 : Int))))) })] [0, 5, 6, 7] [0] 1 (vals := [.sl false 1 (List.map (AV.int .u8) b_1), .ptr 0 0 0 0, .int .i64 size_1, .int .u64 u_1]) (bxs := [.live (.row 71 1 (List.map (AV.int .u8) ((row_1).set ((size_1).toNat) (w_u8 (iand .u64 u_1 (127 : Int))))))]) (by kernel_rfl) hmix (ac h_3.1 (ac h_3.2 (ac (vc_getN h_4 : (List.map (AV.int .u8) row_1)[(size_1).toNat]? = some (.int .u8 x_1)) (ac (vc_set _ _ _ : (List.map (AV.int .u8) ((row_1).set ((size_1).toNat) (w_u8 (iand .u64 u_1 (127 : Int))))) = List.set (List.map (AV.int .u8) row_1) ((size_1).toNat) (setElem (.int .u8 x_1) 0 [.int .u8 (w_u8 (iand .u64 u_1 (127 : Int)))])) an)))) ?_
    refine aw_seq (by kernel_rfl) ?_
    refine aw_region [] [0, 5, 6, 7] [0] 1 (vals := [.sl false 1 (List.map (AV.int .u8) b_1), .ptr 0 0 0 0, .int .i64 (w_i64 (size_1 + (1 : Int))), .int .u64 u_1]) (bxs := [.live (.row 71 1 (List.map (AV.int .u8) ((row_1).set ((size_1).toNat) (w_u8 (iand .u64 u_1 (127 : Int))))))]) (by kernel_rfl) hmix an ?_
    refine aw_seq (by kernel_rfl) ?_
    refine aw_seq (by kernel_rfl) ?_
    refine aw_region [] [0, 5, 6, 7, 20] [0] 1 (vals := [.sl false 1 (List.map (AV.int .u8) b_1), .ptr 0 0 0 0, .int .i64 (w_i64 (size_1 + (1 : Int))), .int .u64 u_1, .bool (decide (u_1 < (128 : Int)))]) (bxs := [.live (.row 71 1 (List.map (AV.int .u8) ((row_1).set ((size_1).toNat) (w_u8 (iand .u64 u_1 (127 : Int))))))]) (by kernel_rfl) hmix an ?_
    refine aw_cond (t := 20) (b := (decide (u_1 < (128 : Int)))) (by kernel_rfl) (by kernel_rfl) ?_ ?_
    · intro g_1; replace h := cond_t g_1 h
      refine aw_exit (id := 0) (by kernel_rfl) ?_
      replace h := Option.some.inj h; subst h
      exact ⟨rfl, (sub_wkm [0] [] [.s 0, .s 5, .s 6] [.s 0] (by kernel_rfl) an)⟩
    intro g_1; replace h := cond_f g_1 h
    refine aw_skip (by kernel_rfl) ?_
    obtain ⟨_, h_5, h⟩ := bind_some h; replace h_5 := need_some h_5
    obtain ⟨x_2, h_6, h⟩ := bind_some h
    obtain ⟨_, h_7, h⟩ := bind_some h; replace h_7 := need_some h_7
    obtain ⟨x_3, h_8, h⟩ := bind_some h
    refine aw_region [(2, { b := true }), (3, { av := .int .u8 x_2 }), (5, { b := true }), (6, { av := .int .u8 x_3, l := (List.map (AV.int .u8) (((row_1).set ((size_1).toNat) (w_u8 (iand .u64 u_1 (127 : Int)))).set ((w_i64 ((w_i64 (size_1 + (1 : Int))) - (1 : Int))).toNat) (ior .u8 x_2 (128 : Int)))) })] [0, 5, 6, 7] [0] 1 (vals := [.sl false 1 (List.map (AV.int .u8) b_1), .ptr 0 0 0 0, .int .i64 (w_i64 (size_1 + (1 : Int))), .int .u64 u_1]) (bxs := [.live (.row 71 1 (List.map (AV.int .u8) (((row_1).set ((size_1).toNat) (w_u8 (iand .u64 u_1 (127 : Int)))).set ((w_i64 ((w_i64 (size_1 + (1 : Int))) - (1 : Int))).toNat) (ior .u8 x_2 (128 : Int)))))]) (by kernel_rfl) hmix (ac h_5.1 (ac h_5.2 (ac (vc_getN h_6 : (List.map (AV.int .u8) ((row_1).set ((size_1).toNat) (w_u8 (iand .u64 u_1 (127 : Int)))))[(w_i64 ((w_i64 (size_1 + (1 : Int))) - (1 : Int))).toNat]? = some (.int .u8 x_2)) (ac h_7.1 (ac h_7.2 (ac (vc_getN h_8 : (List.map (AV.int .u8) ((row_1).set ((size_1).toNat) (w_u8 (iand .u64 u_1 (127 : Int)))))[(w_i64 ((w_i64 (size_1 + (1 : Int))) - (1 : Int))).toNat]? = some (.int .u8 x_3)) (ac (vc_set _ _ _ : (List.map (AV.int .u8) (((row_1).set ((size_1).toNat) (w_u8 (iand .u64 u_1 (127 : Int)))).set ((w_i64 ((w_i64 (size_1 + (1 : Int))) - (1 : Int))).toNat) (ior .u8 x_2 (128 : Int)))) = List.set (List.map (AV.int .u8) ((row_1).set ((size_1).toNat) (w_u8 (iand .u64 u_1 (127 : Int))))) ((w_i64 ((w_i64 (size_1 + (1 : Int))) - (1 : Int))).toNat) (setElem (.int .u8 x_3) 0 [.int .u8 (ior .u8 x_2 (128 : Int))])) an))))))) ?_
    refine aw_region [] [0, 5, 6, 7] [0] 1 (vals := [.sl false 1 (List.map (AV.int .u8) b_1), .ptr 0 0 0 0, .int .i64 (w_i64 (size_1 + (1 : Int))), .int .u64 (ishr .u64 u_1 (7 : Int))]) (bxs := [.live (.row 71 1 (List.map (AV.int .u8) (((row_1).set ((size_1).toNat) (w_u8 (iand .u64 u_1 (127 : Int)))).set ((w_i64 ((w_i64 (size_1 + (1 : Int))) - (1 : Int))).toNat) (ior .u8 x_2 (128 : Int)))))]) (by kernel_rfl) hmix (ac (by decide : (0 : Int) ≤ (7 : Int)) an) ?_
    exact ⟨_, (sub_wkm [0] [] [.s 0, .s 5, .s 6, .s 7] [.s 0] (by kernel_rfl) an), _, _, _, rfl, h⟩
  refine aw_seq (by kernel_rfl) ?_
  obtain ⟨_, h_9, h⟩ := bind_some h; replace h_9 := need_some h_9
  obtain ⟨_, h_10, h⟩ := bind_some h; replace h_10 := need_some h_10
  obtain ⟨_, h_11, h⟩ := bind_some h; replace h_11 := need_some h_11
  obtain ⟨_, h_12, h⟩ := bind_some h; replace h_12 := need_some h_12
  refine aw_region [(2, { n := (b_1).length }), (4, { n := (b_1).length }), (5, { l := (List.map (AV.int .u8) (sub b_1 (0 : Int) (((b_1).length : Nat) : Int))) }), (8, { dep := true, id := 1, l := (List.map (AV.int .u8) ((sub b_1 (0 : Int) (((b_1).length : Nat) : Int)) ++ (((o_1.2).take ((o_1.1).toNat)).drop 0))), n := (((sub b_1 (0 : Int) (((b_1).length : Nat) : Int)) ++ (((o_1.2).take ((o_1.1).toNat)).drop 0))).length })] [4] [1] 2 (vals := [.own 1 ((((sub b_1 (0 : Int) (((b_1).length : Nat) : Int)) ++ (((o_1.2).take ((o_1.1).toNat)).drop 0))).length)]) (bxs := [.live (.row 5 1 (List.map (AV.int .u8) ((sub b_1 (0 : Int) (((b_1).length : Nat) : Int)) ++ (((o_1.2).take ((o_1.1).toNat)).drop 0))))]) (by kernel_rfl) hmix (ac (vc_len _ : ((List.map (AV.int .u8) b_1)).length = (b_1).length) (ac (vc_len _ : ((List.map (AV.int .u8) b_1)).length = (b_1).length) (ac (by decide : (0 : Int) ≤ (0 : Int)) (ac (Int.natCast_nonneg _ : (0 : Int) ≤ (((b_1).length : Nat) : Int)) (ac (vc_lenle (Int.le_refl _) : (((b_1).length : Nat) : Int) ≤ ((((List.map (AV.int .u8) b_1)).length : Nat) : Int)) (ac (rfl : (((b_1).length : Nat) : Int) = (((b_1).length : Nat) : Int)) (ac (vc_sub _ _ _ : (List.map (AV.int .u8) (sub b_1 (0 : Int) (((b_1).length : Nat) : Int))) = (((List.map (AV.int .u8) b_1)).take ((((b_1).length : Nat) : Int)).toNat).drop ((0 : Int)).toNat) (ac (by decide : (0 : Int) ≤ (0 : Int)) (ac h_9.1 (ac h_9.2.1 (ac (vc_lenle' h_9.2.2 : 10 ≤ ((List.map (AV.int .u8) o_1.2)).length) (ac (vc_lenle' h_10.2 : ((o_1.1).toNat) ≤ ((List.map (AV.int .u8) o_1.2)).length) (ac h_10.1 (ac (vc_app_part _ _ _ _ : (List.map (AV.int .u8) ((sub b_1 (0 : Int) (((b_1).length : Nat) : Int)) ++ (((o_1.2).take ((o_1.1).toNat)).drop 0))) = (List.map (AV.int .u8) (sub b_1 (0 : Int) (((b_1).length : Nat) : Int))) ++ (((List.map (AV.int .u8) o_1.2)).take ((o_1.1).toNat)).drop 0) (ac (by first | (simp; done) | simpa using h_11 : (((List.map (AV.int .u8) (sub b_1 (0 : Int) (((b_1).length : Nat) : Int))) : List AV).length + ((((List.map (AV.int .u8) o_1.2)).take ((o_1.1).toNat)).drop 0 : List AV).length) * 1 ≤ 140737488355328) (ac (by first | (simp; done) | simpa using h_12 : 0 < ((((List.map (AV.int .u8) o_1.2)).take ((o_1.1).toNat)).drop 0 : List AV).length ∨ ((List.map (AV.int .u8) (sub b_1 (0 : Int) (((b_1).length : Nat) : Int))) : List AV).length = 0) (ac (by simp : (((sub b_1 (0 : Int) (((b_1).length : Nat) : Int)) ++ (((o_1.2).take ((o_1.1).toNat)).drop 0))).length = ((List.map (AV.int .u8) ((sub b_1 (0 : Int) (((b_1).length : Nat) : Int)) ++ (((o_1.2).take ((o_1.1).toNat)).drop 0)))).length) an))))))))))))))))) ?_
  refine aw_sub (sub_wkm [1] [] [.s 4] [.s 0] (sl2 := [(4, .own 0 ((((sub b_1 (0 : Int) (((b_1).length : Nat) : Int)) ++ (((o_1.2).take ((o_1.1).toNat)).drop 0))).length))]) (bx2 := [(0, .live (.row 5 1 (List.map (AV.int .u8) ((sub b_1 (0 : Int) (((b_1).length : Nat) : Int)) ++ (((o_1.2).take ((o_1.1).toNat)).drop 0)))))]) (by kernel_rfl) an) ?_
  refine aw_ret (by kernel_rfl) ?_
  replace h := Option.some.inj h; subst h
  exact ⟨.inr rfl, Nat.le_of_ble_eq_true rfl, by kernel_rfl⟩

theorem codec_PutText_ok (F : Nat) (b_1 : List (Int)) (s_1 : List Int) (r : (List (Int))) (h : codec_PutText F b_1 s_1 = some r) : TripleG prog 45 [] [] [.sl false 1 (List.map (AV.int .u8) b_1), .str s_1] [.row 5 1 (List.map (AV.int .u8) r)] (.own 0 ((r).length)) := by
  refine triple_intro (fn := Go.Proofs.Try.f45) (code := codeOf Go.Proofs.Try.f45) (by kernel_rfl) (by kernel_rfl) (Nat.le_of_ble_eq_true (by kernel_rfl)) ?_
  unfold codec_PutText at h
  refine aw_seq (by kernel_rfl) ?_
  refine aw_region [(0, { id := 0, m := 1 })] [0, 1] [] 1 (vals := [.sl false 1 (List.map (AV.int .u8) b_1), .str s_1]) (bxs := []) (by kernel_rfl) hmix an ?_
  refine aw_seq (by kernel_rfl) ?_
  obtain ⟨r_1, h_1, h⟩ := bind_some h
  refine aw_region [(3, { av := .own 0 ((r_1).length), ids := [1], l := [.sl false 1 (List.map (AV.int .u8) b_1), .int .i64 (((s_1).length : Nat) : Int)], post := [(.row 5 1 (List.map (AV.int .u8) r_1))] })] [1, 5] [1] 2 (vals := [.str s_1, .own 1 ((r_1).length)]) (bxs := [.live (.row 5 1 (List.map (AV.int .u8) r_1))]) (by kernel_rfl) hmix (ac (rfl : ([.sl false 1 (List.map (AV.int .u8) b_1), .int .i64 (((s_1).length : Nat) : Int)] : List AV) = [.sl false 1 (List.map (AV.int .u8) b_1), .int .i64 (((s_1).length : Nat) : Int)]) (ac (rfl : ([] : List BoxSt) = []) (ac (codec_PutInt_ok F b_1 (((s_1).length : Nat) : Int) r_1 h_1 : TripleG prog 35 [] [] [.sl false 1 (List.map (AV.int .u8) b_1), .int .i64 (((s_1).length : Nat) : Int)] [(.row 5 1 (List.map (AV.int .u8) r_1))] (.own 0 ((r_1).length))) an))) ?_
  refine aw_seq (by kernel_rfl) ?_
  obtain ⟨_, h_2, h⟩ := bind_some h; replace h_2 := need_some h_2
  refine aw_region [(5, { id := 2, l := (List.map (AV.int .u8) (List.replicate ((w_i64 ((((r_1).length : Nat) : Int) + (((s_1).length : Nat) : Int))).toNat) (0 : Int))), m := (w_i64 ((((r_1).length : Nat) : Int) + (((s_1).length : Nat) : Int))).toNat, n := (w_i64 ((((r_1).length : Nat) : Int) + (((s_1).length : Nat) : Int))).toNat })] [1, 5, 6] [1, 2] 3 (vals := [.str s_1, .own 1 ((r_1).length), .own 2 ((w_i64 ((((r_1).length : Nat) : Int) + (((s_1).length : Nat) : Int))).toNat)]) (bxs := [.live (.row 5 1 (List.map (AV.int .u8) r_1)), .live (.row 5 1 (List.map (AV.int .u8) (List.replicate ((w_i64 ((((r_1).length : Nat) : Int) + (((s_1).length : Nat) : Int))).toNat) (0 : Int))))]) (by kernel_rfl) hmix (ac ((Int.toNat_of_nonneg h_2.1).symm : w_i64 ((((r_1).length : Nat) : Int) + (((s_1).length : Nat) : Int)) = (((w_i64 ((((r_1).length : Nat) : Int) + (((s_1).length : Nat) : Int))).toNat : Nat) : Int)) (ac ((Int.toNat_of_nonneg h_2.1).symm : w_i64 ((((r_1).length : Nat) : Int) + (((s_1).length : Nat) : Int)) = (((w_i64 ((((r_1).length : Nat) : Int) + (((s_1).length : Nat) : Int))).toNat : Nat) : Int)) (ac (Nat.le_refl _ : ((w_i64 ((((r_1).length : Nat) : Int) + (((s_1).length : Nat) : Int))).toNat) ≤ ((w_i64 ((((r_1).length : Nat) : Int) + (((s_1).length : Nat) : Int))).toNat)) (ac h_2.2 (ac (vc_rep : (List.map (AV.int .u8) (List.replicate ((w_i64 ((((r_1).length : Nat) : Int) + (((s_1).length : Nat) : Int))).toNat) (0 : Int))) = List.replicate ((w_i64 ((((r_1).length : Nat) : Int) + (((s_1).length : Nat) : Int))).toNat) (.int .u8 (0 : Int))) an))))) ?_
  refine aw_seq (by kernel_rfl) ?_
  obtain ⟨_, h_3, h⟩ := bind_some h; replace h_3 := need_some h_3
  refine aw_region [(2, { l := (List.map (AV.int .u8) (cpy (List.replicate ((w_i64 ((((r_1).length : Nat) : Int) + (((s_1).length : Nat) : Int))).toNat) (0 : Int)) 0 ((w_i64 ((((r_1).length : Nat) : Int) + (((s_1).length : Nat) : Int))).toNat) r_1)), n := (min (r_1).length ((w_i64 ((((r_1).length : Nat) : Int) + (((s_1).length : Nat) : Int))).toNat - 0)) })] [1, 5, 6] [1, 2] 3 (vals := [.str s_1, .own 1 ((r_1).length), .own 2 ((w_i64 ((((r_1).length : Nat) : Int) + (((s_1).length : Nat) : Int))).toNat)]) (bxs := [.live (.row 5 1 (List.map (AV.int .u8) r_1)), .live (.row 5 1 (List.map (AV.int .u8) (cpy (List.replicate ((w_i64 ((((r_1).length : Nat) : Int) + (((s_1).length : Nat) : Int))).toNat) (0 : Int)) 0 ((w_i64 ((((r_1).length : Nat) : Int) + (((s_1).length : Nat) : Int))).toNat) r_1)))]) (by kernel_rfl) hmix (ac (by first | (simp; done) | (simp; omega) : (r_1).length = ((List.map (AV.int .u8) r_1)).length) (ac h_3.1 (ac (vc_lenle' h_3.2 : ((w_i64 ((((r_1).length : Nat) : Int) + (((s_1).length : Nat) : Int))).toNat) ≤ ((List.map (AV.int .u8) (List.replicate ((w_i64 ((((r_1).length : Nat) : Int) + (((s_1).length : Nat) : Int))).toNat) (0 : Int)))).length) (ac (by simp : (min (r_1).length ((w_i64 ((((r_1).length : Nat) : Int) + (((s_1).length : Nat) : Int))).toNat - 0)) = min ((List.map (AV.int .u8) r_1) : List AV).length ((w_i64 ((((r_1).length : Nat) : Int) + (((s_1).length : Nat) : Int))).toNat - 0)) (ac (by simp [cpy] : (List.map (AV.int .u8) (cpy (List.replicate ((w_i64 ((((r_1).length : Nat) : Int) + (((s_1).length : Nat) : Int))).toNat) (0 : Int)) 0 ((w_i64 ((((r_1).length : Nat) : Int) + (((s_1).length : Nat) : Int))).toNat) r_1)) = ((List.map (AV.int .u8) (List.replicate ((w_i64 ((((r_1).length : Nat) : Int) + (((s_1).length : Nat) : Int))).toNat) (0 : Int)))).take 0 ++ ((List.map (AV.int .u8) r_1) : List AV).take (min (r_1).length ((w_i64 ((((r_1).length : Nat) : Int) + (((s_1).length : Nat) : Int))).toNat - 0)) ++ ((List.map (AV.int .u8) (List.replicate ((w_i64 ((((r_1).length : Nat) : Int) + (((s_1).length : Nat) : Int))).toNat) (0 : Int)))).drop (0 + (min (r_1).length ((w_i64 ((((r_1).length : Nat) : Int) + (((s_1).length : Nat) : Int))).toNat - 0)))) an))))) ?_
  refine aw_seq (by kernel_rfl) ?_
  obtain ⟨_, h_4, h⟩ := bind_some h; replace h_4 := need_some h_4
  obtain ⟨_, h_5, h⟩ := bind_some h; replace h_5 := need_some h_5
  refine aw_region [(5, { l := (List.map (AV.int .u8) (cpy (cpy (List.replicate ((w_i64 ((((r_1).length : Nat) : Int) + (((s_1).length : Nat) : Int))).toNat) (0 : Int)) 0 ((w_i64 ((((r_1).length : Nat) : Int) + (((s_1).length : Nat) : Int))).toNat) r_1) ((r_1).length) ((w_i64 ((((r_1).length : Nat) : Int) + (((s_1).length : Nat) : Int))).toNat) s_1)), n := (min (s_1).length ((w_i64 ((((r_1).length : Nat) : Int) + (((s_1).length : Nat) : Int))).toNat - (r_1).length)) })] [6] [2] 3 (vals := [.own 2 ((w_i64 ((((r_1).length : Nat) : Int) + (((s_1).length : Nat) : Int))).toNat)]) (bxs := [.live (.row 5 1 (List.map (AV.int .u8) (cpy (cpy (List.replicate ((w_i64 ((((r_1).length : Nat) : Int) + (((s_1).length : Nat) : Int))).toNat) (0 : Int)) 0 ((w_i64 ((((r_1).length : Nat) : Int) + (((s_1).length : Nat) : Int))).toNat) r_1) ((r_1).length) ((w_i64 ((((r_1).length : Nat) : Int) + (((s_1).length : Nat) : Int))).toNat) s_1)))]) (by kernel_rfl) hmix (ac (Int.natCast_nonneg _ : (0 : Int) ≤ (((r_1).length : Nat) : Int)) (ac h_4 (ac (Int.le_refl _ : (((w_i64 ((((r_1).length : Nat) : Int) + (((s_1).length : Nat) : Int))).toNat : Nat) : Int) ≤ (((w_i64 ((((r_1).length : Nat) : Int) + (((s_1).length : Nat) : Int))).toNat : Nat) : Int)) (ac (trivial : True) (ac h_5.1 (ac (vc_lenle' h_5.2 : ((w_i64 ((((r_1).length : Nat) : Int) + (((s_1).length : Nat) : Int))).toNat) ≤ ((List.map (AV.int .u8) (cpy (List.replicate ((w_i64 ((((r_1).length : Nat) : Int) + (((s_1).length : Nat) : Int))).toNat) (0 : Int)) 0 ((w_i64 ((((r_1).length : Nat) : Int) + (((s_1).length : Nat) : Int))).toNat) r_1))).length) (ac (by simp : (min (s_1).length ((w_i64 ((((r_1).length : Nat) : Int) + (((s_1).length : Nat) : Int))).toNat - (r_1).length)) = min ((List.map (AV.int .u8) s_1) : List AV).length ((w_i64 ((((r_1).length : Nat) : Int) + (((s_1).length : Nat) : Int))).toNat - (r_1).length)) (ac (by simp [cpy] : (List.map (AV.int .u8) (cpy (cpy (List.replicate ((w_i64 ((((r_1).length : Nat) : Int) + (((s_1).length : Nat) : Int))).toNat) (0 : Int)) 0 ((w_i64 ((((r_1).length : Nat) : Int) + (((s_1).length : Nat) : Int))).toNat) r_1) ((r_1).length) ((w_i64 ((((r_1).length : Nat) : Int) + (((s_1).length : Nat) : Int))).toNat) s_1)) = ((List.map (AV.int .u8) (cpy (List.replicate ((w_i64 ((((r_1).length : Nat) : Int) + (((s_1).length : Nat) : Int))).toNat) (0 : Int)) 0 ((w_i64 ((((r_1).length : Nat) : Int) + (((s_1).length : Nat) : Int))).toNat) r_1))).take ((r_1).length) ++ ((List.map (AV.int .u8) s_1) : List AV).take (min (s_1).length ((w_i64 ((((r_1).length : Nat) : Int) + (((s_1).length : Nat) : Int))).toNat - (r_1).length)) ++ ((List.map (AV.int .u8) (cpy (List.replicate ((w_i64 ((((r_1).length : Nat) : Int) + (((s_1).length : Nat) : Int))).toNat) (0 : Int)) 0 ((w_i64 ((((r_1).length : Nat) : Int) + (((s_1).length : Nat) : Int))).toNat) r_1))).drop ((r_1).length + (min (s_1).length ((w_i64 ((((r_1).length : Nat) : Int) + (((s_1).length : Nat) : Int))).toNat - (r_1).length)))) an)))))))) ?_
  refine aw_seq (by kernel_rfl) ?_
  refine aw_region [] [4] [2] 3 (vals := [.own 2 ((w_i64 ((((r_1).length : Nat) : Int) + (((s_1).length : Nat) : Int))).toNat)]) (bxs := [.live (.row 5 1 (List.map (AV.int .u8) (cpy (cpy (List.replicate ((w_i64 ((((r_1).length : Nat) : Int) + (((s_1).length : Nat) : Int))).toNat) (0 : Int)) 0 ((w_i64 ((((r_1).length : Nat) : Int) + (((s_1).length : Nat) : Int))).toNat) r_1) ((r_1).length) ((w_i64 ((((r_1).length : Nat) : Int) + (((s_1).length : Nat) : Int))).toNat) s_1)))]) (by kernel_rfl) hmix an ?_
  refine aw_sub (sub_wkm [2] [] [.a 4 (.own 0 (((cpy (cpy (List.replicate ((w_i64 ((((r_1).length : Nat) : Int) + (((s_1).length : Nat) : Int))).toNat) (0 : Int)) 0 ((w_i64 ((((r_1).length : Nat) : Int) + (((s_1).length : Nat) : Int))).toNat) r_1) ((r_1).length) ((w_i64 ((((r_1).length : Nat) : Int) + (((s_1).length : Nat) : Int))).toNat) s_1)).length))] [.s 0] (sl2 := [(4, .own 0 (((cpy (cpy (List.replicate ((w_i64 ((((r_1).length : Nat) : Int) + (((s_1).length : Nat) : Int))).toNat) (0 : Int)) 0 ((w_i64 ((((r_1).length : Nat) : Int) + (((s_1).length : Nat) : Int))).toNat) r_1) ((r_1).length) ((w_i64 ((((r_1).length : Nat) : Int) + (((s_1).length : Nat) : Int))).toNat) s_1)).length))]) (bx2 := [(0, .live (.row 5 1 (List.map (AV.int .u8) (cpy (cpy (List.replicate ((w_i64 ((((r_1).length : Nat) : Int) + (((s_1).length : Nat) : Int))).toNat) (0 : Int)) 0 ((w_i64 ((((r_1).length : Nat) : Int) + (((s_1).length : Nat) : Int))).toNat) r_1) ((r_1).length) ((w_i64 ((((r_1).length : Nat) : Int) + (((s_1).length : Nat) : Int))).toNat) s_1))))]) (by kernel_rfl) (ac (congrArg (AV.own _) ((cpy_len h_5.1 h_5.2).trans ((cpy_len h_3.1 h_3.2).trans List.length_replicate)).symm : (.own 2 ((w_i64 ((((r_1).length : Nat) : Int) + (((s_1).length : Nat) : Int))).toNat) : AV) = .own 2 (((cpy (cpy (List.replicate ((w_i64 ((((r_1).length : Nat) : Int) + (((s_1).length : Nat) : Int))).toNat) (0 : Int)) 0 ((w_i64 ((((r_1).length : Nat) : Int) + (((s_1).length : Nat) : Int))).toNat) r_1) ((r_1).length) ((w_i64 ((((r_1).length : Nat) : Int) + (((s_1).length : Nat) : Int))).toNat) s_1)).length)) an)) ?_
  refine aw_ret (by kernel_rfl) ?_
  replace h := Option.some.inj h; subst h
  exact ⟨.inr rfl, Nat.le_of_ble_eq_true rfl, by kernel_rfl⟩

theorem column_put_ok (F : Nat) (b_1 : List (Int)) (a_1 : T_api_Value) (r : (List (Int))) (h : column_put F b_1 a_1 = some r) : TripleG prog 34 [] [(.row 5 1 (List.map (AV.int .u8) b_1))] [.own 0 ((b_1).length), e_T_api_Value a_1] [.row 5 1 (List.map (AV.int .u8) r)] (.own 0 ((r).length)) := by
  refine triple_introG (fn := Go.Proofs.Try.f34) (code := codeOf Go.Proofs.Try.f34) (by kernel_rfl) (by kernel_rfl) (Nat.le_of_ble_eq_true (by kernel_rfl)) ?_
  unfold column_put at h
  refine aw_seq (by kernel_rfl) ?_
  refine aw_region [(0, { id := 1 }), (1, { id := 2, m := 1 })] [0, 3] [0, 1] 3 (vals := [.own 0 ((b_1).length), .ptr 1 0 0 0]) (bxs := [.live (.row 5 1 (List.map (AV.int .u8) b_1)), .live (.var 24 (v_T_api_Value a_1))]) (by kernel_rfl) hmix an ?_
  refine aw_seq (by kernel_rfl) ?_
  obtain ⟨_, h_1, h⟩ := bind_some h; replace h_1 := need_some h_1
  refine aw_region [(4, { id := 3 }), (5, { id := 4, l := (List.map (AV.int .u8) (b_1 ++ ([w_u8 a_1.Kind] : List Int))), n := ((b_1 ++ ([w_u8 a_1.Kind] : List Int))).length })] [0, 3] [1, 4] 5 (vals := [.own 4 (((b_1 ++ ([w_u8 a_1.Kind] : List Int))).length), .ptr 1 0 0 0]) (bxs := [.live (.var 24 (v_T_api_Value a_1)), .live (.row 5 1 (List.map (AV.int .u8) (b_1 ++ ([w_u8 a_1.Kind] : List Int))))]) (by kernel_rfl) hmix (ac (by first | (simp; done) | (simp; omega) : (b_1).length = ((List.map (AV.int .u8) b_1)).length) (ac (by first | (simp; done) | (simp; omega) : 1 = ((List.map (AV.int .u8) ([w_u8 a_1.Kind] : List Int))).length) (ac (vc_app _ _ : (List.map (AV.int .u8) (b_1 ++ ([w_u8 a_1.Kind] : List Int))) = (List.map (AV.int .u8) b_1) ++ (List.map (AV.int .u8) ([w_u8 a_1.Kind] : List Int))) (ac (by simp : ((b_1 ++ ([w_u8 a_1.Kind] : List Int))).length = ((List.map (AV.int .u8) (b_1 ++ ([w_u8 a_1.Kind] : List Int)))).length) (ac (by first | (simp; done) | simpa using h_1 : (((List.map (AV.int .u8) b_1) : List AV).length + ((List.map (AV.int .u8) ([w_u8 a_1.Kind] : List Int)) : List AV).length) * 1 ≤ 140737488355328) an))))) ?_
  refine aw_seq (by kernel_rfl) ?_
  refine aw_seq (by kernel_rfl) ?_
  refine aw_region [] [0, 3, 12] [1, 4] 5 (vals := [.own 4 (((b_1 ++ ([w_u8 a_1.Kind] : List Int))).length), .ptr 1 0 0 0, .int .i64 a_1.Kind]) (bxs := [.live (.var 24 (v_T_api_Value a_1)), .live (.row 5 1 (List.map (AV.int .u8) (b_1 ++ ([w_u8 a_1.Kind] : List Int))))]) (by kernel_rfl) hmix an ?_
  refine aw_block (id := 0) (by kernel_rfl) ?_
  refine aw_seq (by kernel_rfl) ?_
  refine aw_seq (by kernel_rfl) ?_
  refine aw_region [] [0, 3, 12, 13] [1, 4] 5 (vals := [.own 4 (((b_1 ++ ([w_u8 a_1.Kind] : List Int))).length), .ptr 1 0 0 0, .int .i64 a_1.Kind, .bool (a_1.Kind == (1 : Int))]) (bxs := [.live (.var 24 (v_T_api_Value a_1)), .live (.row 5 1 (List.map (AV.int .u8) (b_1 ++ ([w_u8 a_1.Kind] : List Int))))]) (by kernel_rfl) hmix an ?_
  obtain ⟨o_1, h_2, h⟩ := bind_some h
  refine aw_mid (mk [(0, .own 0 (((b_1 ++ ([w_u8 a_1.Kind] : List Int))).length)), (3, .ptr 1 0 0 0), (12, .int .i64 a_1.Kind), (13, .bool o_1)] [(0, .live (.row 5 1 (List.map (AV.int .u8) (b_1 ++ ([w_u8 a_1.Kind] : List Int))))), (1, .live (.var 24 (v_T_api_Value a_1)))] 2) ?_ ?_
  · replace h := h_2
    refine aw_cond (t := 13) (b := (a_1.Kind == (1 : Int))) (by kernel_rfl) (by kernel_rfl) ?_ ?_
    · intro g_1; replace h := cond_t g_1 h
      refine aw_skip (by kernel_rfl) ?_
      replace h := Option.some.inj h; subst h
      exact ⟨rfl, (sub_wkm [4, 1] [] [.s 0, .s 3, .s 12, .s 13] [.s 0, .s 1] (by kernel_rfl) an)⟩
    intro g_1; replace h := cond_f g_1 h
    refine aw_region [] [0, 3, 12, 13] [1, 4] 5 (vals := [.own 4 (((b_1 ++ ([w_u8 a_1.Kind] : List Int))).length), .ptr 1 0 0 0, .int .i64 a_1.Kind, .bool (a_1.Kind == (2 : Int))]) (bxs := [.live (.var 24 (v_T_api_Value a_1)), .live (.row 5 1 (List.map (AV.int .u8) (b_1 ++ ([w_u8 a_1.Kind] : List Int))))]) (by kernel_rfl) hmix an ?_
    replace h := Option.some.inj h; subst h
    exact ⟨rfl, (sub_wkm [4, 1] [] [.s 0, .s 3, .s 12, .s 13] [.s 0, .s 1] (by kernel_rfl) an)⟩
  refine aw_cond (t := 13) (b := o_1) (by kernel_rfl) (by kernel_rfl) ?_ ?_
  · intro g_2; replace h := cond_t g_2 h
    refine aw_seq (by kernel_rfl) ?_
    obtain ⟨r_1, h_3, h⟩ := bind_some h
    refine aw_region [(3, { av := .own 0 ((r_1).length), frz := [0], ids := [2], l := [.sl false 1 (List.map (AV.int .u8) (b_1 ++ ([w_u8 a_1.Kind] : List Int))), .int .i64 a_1.N], post := [(.row 5 1 (List.map (AV.int .u8) r_1))] })] [4] [2] 3 (vals := [.own 2 ((r_1).length)]) (bxs := [.live (.row 5 1 (List.map (AV.int .u8) r_1))]) (by kernel_rfl) hmix (ac (by first | (simp; done) | (simp; omega) : ((b_1 ++ ([w_u8 a_1.Kind] : List Int))).length = ((List.map (AV.int .u8) (b_1 ++ ([w_u8 a_1.Kind] : List Int)))).length) (ac (rfl : ([.sl false 1 (List.map (AV.int .u8) (b_1 ++ ([w_u8 a_1.Kind] : List Int))), .int .i64 a_1.N] : List AV) = [.sl false 1 (List.map (AV.int .u8) (b_1 ++ ([w_u8 a_1.Kind] : List Int))), .int .i64 a_1.N]) (ac (rfl : ([] : List BoxSt) = []) (ac (codec_PutInt_ok F (b_1 ++ ([w_u8 a_1.Kind] : List Int)) a_1.N r_1 h_3 : TripleG prog 35 [] [] [.sl false 1 (List.map (AV.int .u8) (b_1 ++ ([w_u8 a_1.Kind] : List Int))), .int .i64 a_1.N] [(.row 5 1 (List.map (AV.int .u8) r_1))] (.own 0 ((r_1).length))) an)))) ?_
    refine aw_sub (sub_wkm [2] [] [.s 4] [.s 0] (sl2 := [(4, .own 0 ((r_1).length))]) (bx2 := [(0, .live (.row 5 1 (List.map (AV.int .u8) r_1)))]) (by kernel_rfl) an) ?_
    refine aw_ret (by kernel_rfl) ?_
    replace h := Option.some.inj h; subst h
    exact ⟨.inr rfl, Nat.le_of_ble_eq_true rfl, by kernel_rfl⟩
  intro g_2; replace h := cond_f g_2 h
  refine aw_seq (by kernel_rfl) ?_
  refine aw_region [] [0, 3, 20] [0, 1] 2 (vals := [.own 0 (((b_1 ++ ([w_u8 a_1.Kind] : List Int))).length), .ptr 1 0 0 0, .bool (a_1.Kind == (3 : Int))]) (bxs := [.live (.row 5 1 (List.map (AV.int .u8) (b_1 ++ ([w_u8 a_1.Kind] : List Int)))), .live (.var 24 (v_T_api_Value a_1))]) (by kernel_rfl) hmix an ?_
  refine aw_cond (t := 20) (b := (a_1.Kind == (3 : Int))) (by kernel_rfl) (by kernel_rfl) ?_ ?_
  · intro g_3; replace h := cond_t g_3 h
    refine aw_seq (by kernel_rfl) ?_
    obtain ⟨r_2, h_4, h⟩ := bind_some h
    refine aw_region [(3, { av := .own 0 ((r_2).length), frz := [0], ids := [2], l := [.sl false 1 (List.map (AV.int .u8) (b_1 ++ ([w_u8 a_1.Kind] : List Int))), .str a_1.S], post := [(.row 5 1 (List.map (AV.int .u8) r_2))] })] [4] [2] 3 (vals := [.own 2 ((r_2).length)]) (bxs := [.live (.row 5 1 (List.map (AV.int .u8) r_2))]) (by kernel_rfl) hmix (ac (by first | (simp; done) | (simp; omega) : ((b_1 ++ ([w_u8 a_1.Kind] : List Int))).length = ((List.map (AV.int .u8) (b_1 ++ ([w_u8 a_1.Kind] : List Int)))).length) (ac (rfl : ([.sl false 1 (List.map (AV.int .u8) (b_1 ++ ([w_u8 a_1.Kind] : List Int))), .str a_1.S] : List AV) = [.sl false 1 (List.map (AV.int .u8) (b_1 ++ ([w_u8 a_1.Kind] : List Int))), .str a_1.S]) (ac (rfl : ([] : List BoxSt) = []) (ac (codec_PutText_ok F (b_1 ++ ([w_u8 a_1.Kind] : List Int)) a_1.S r_2 h_4 : TripleG prog 45 [] [] [.sl false 1 (List.map (AV.int .u8) (b_1 ++ ([w_u8 a_1.Kind] : List Int))), .str a_1.S] [(.row 5 1 (List.map (AV.int .u8) r_2))] (.own 0 ((r_2).length))) an)))) ?_
    refine aw_sub (sub_wkm [2] [] [.s 4] [.s 0] (sl2 := [(4, .own 0 ((r_2).length))]) (bx2 := [(0, .live (.row 5 1 (List.map (AV.int .u8) r_2)))]) (by kernel_rfl) an) ?_
    refine aw_ret (by kernel_rfl) ?_
    replace h := Option.some.inj h; subst h
    exact ⟨.inr rfl, Nat.le_of_ble_eq_true rfl, by kernel_rfl⟩
  intro g_3; replace h := cond_f g_3 h
  refine aw_skip (by kernel_rfl) ?_
  refine aw_seq (by kernel_rfl) ?_
  refine aw_region [] [4] [0] 2 (vals := [.own 0 (((b_1 ++ ([w_u8 a_1.Kind] : List Int))).length)]) (bxs := [.live (.row 5 1 (List.map (AV.int .u8) (b_1 ++ ([w_u8 a_1.Kind] : List Int))))]) (by kernel_rfl) hmix an ?_
  refine aw_sub (sub_wkm [0] [] [.s 4] [.s 0] (sl2 := [(4, .own 0 (((b_1 ++ ([w_u8 a_1.Kind] : List Int))).length))]) (bx2 := [(0, .live (.row 5 1 (List.map (AV.int .u8) (b_1 ++ ([w_u8 a_1.Kind] : List Int)))))]) (by kernel_rfl) an) ?_
  refine aw_ret (by kernel_rfl) ?_
  replace h := Option.some.inj h; subst h
  exact ⟨.inr rfl, Nat.le_of_ble_eq_true rfl, by kernel_rfl⟩

theorem column_plain_ok (F : Nat) (l_1 : List (T_api_Value)) (r : (List (Int))) (h : column_plain F l_1 = some r) : TripleG prog 23 [] [] [.sl false 3 (List.map e_T_api_Value l_1)] [.row 5 1 (List.map (AV.int .u8) r)] (.own 0 ((r).length)) := by
  refine triple_intro (fn := Go.Proofs.Try.f23) (code := codeOf Go.Proofs.Try.f23) (by kernel_rfl) (by kernel_rfl) (Nat.le_of_ble_eq_true (by kernel_rfl)) ?_
  unfold column_plain at h
  refine aw_seq (by kernel_rfl) ?_
  refine aw_region [(0, { id := 0, m := 1 })] [0] [] 1 (vals := [.sl false 3 (List.map e_T_api_Value l_1)]) (bxs := []) (by kernel_rfl) hmix an ?_
  refine aw_seq (by kernel_rfl) ?_
  refine aw_region [(0, { id := 1, m := 1 })] [0, 3] [1] 2 (vals := [.sl false 3 (List.map e_T_api_Value l_1), .own 1 0]) (bxs := [.live (.row 5 1 [])]) (by kernel_rfl) hmix an ?_
  refine aw_seq (by kernel_rfl) ?_
  refine aw_seq (by kernel_rfl) ?_
  refine aw_region [(1, { n := (l_1).length })] [3, 6, 7, 8] [1] 2 (vals := [.own 1 0, .sl false 3 (List.map e_T_api_Value l_1), .int .i64 (((l_1).length : Nat) : Int), .int .i64 (0 : Int)]) (bxs := [.live (.row 5 1 [])]) (by kernel_rfl) hmix (ac (vc_len _ : ((List.map e_T_api_Value l_1)).length = (l_1).length) an) ?_
  obtain ⟨o_1, h_1, h⟩ := bind_some h
  refine aw_mid (mk [(3, .own 0 ((o_1).length))] [(0, .live (.row 5 1 (List.map (AV.int .u8) o_1)))] 1) ?_ ?_
  · replace h := h_1
    refine aw_block (id := 0) (by kernel_rfl) ?_
    refine aw_sub (sub_wkm [1] [] [.s 3, .s 6, .s 7, .s 8] [.s 0] (sl2 := [(3, .own 0 0), (6, .sl false 3 (List.map e_T_api_Value l_1)), (7, .int .i64 (((l_1).length : Nat) : Int)), (8, .int .i64 (0 : Int))]) (bx2 := [(0, .live (.row 5 1 []))]) (by kernel_rfl) an) ?_
    refine aw_loopF (fun n st => ∃ (v_1 : Int), ∃ (row_1 : List Int), st = mk [(3, .own 0 ((row_1).length)), (6, .sl false 3 (List.map e_T_api_Value l_1)), (7, .int .i64 (((l_1).length : Nat) : Int)), (8, .int .i64 v_1)] [(0, .live (.row 5 1 (List.map (AV.int .u8) row_1)))] 1 ∧ column_plain_L1 F l_1 n v_1 row_1 = some o_1) F (by kernel_rfl) ⟨_, _, rfl, h⟩ ?_ ?_
    · rintro _ ⟨_, _, _, h⟩; exact none_ne (h : (none : Option (List Int)) = some o_1)
    rintro n_1 _ ⟨v_1, row_1, rfl, h⟩
    replace h : column_plain_L1_body F l_1 (column_plain_L1 F l_1 n_1) v_1 row_1 = some o_1 := h
    unfold column_plain_L1_body at h
    refine aw_seq (by kernel_rfl) ?_
    refine aw_region [] [3, 6, 7, 8, 9] [0] 1 (vals := [.own 0 ((row_1).length), .sl false 3 (List.map e_T_api_Value l_1), .int .i64 (((l_1).length : Nat) : Int), .int .i64 v_1, .bool (decide (v_1 < (((l_1).length : Nat) : Int)))]) (bxs := [.live (.row 5 1 (List.map (AV.int .u8) row_1))]) (by kernel_rfl) hmix an ?_
    refine aw_seq (by kernel_rfl) ?_
    refine aw_cond (t := 9) (b := (decide (v_1 < (((l_1).length : Nat) : Int)))) (by kernel_rfl) (by kernel_rfl) ?_ ?_
    rotate_left
    · intro g_1; replace h := cond_f g_1 h
      refine aw_exit (id := 0) (by kernel_rfl) ?_
      replace h := Option.some.inj h; subst h
      exact ⟨rfl, (sub_wkm [0] [] [.s 3] [.s 0] (by kernel_rfl) an)⟩
    intro g_1; replace h := cond_t g_1 h
    refine aw_skip (by kernel_rfl) ?_
    refine aw_seq (by kernel_rfl) ?_
    refine aw_block (id := 1) (by kernel_rfl) ?_
    refine aw_seq (by kernel_rfl) ?_
    obtain ⟨x_1, h_2, h⟩ := bind_some h
    refine aw_region [(0, { av := e_T_api_Value x_1 }), (2, { id := 1 })] [3, 5, 6, 7, 8] [0, 1] 2 (vals := [.own 0 ((row_1).length), .ptr 1 0 0 0, .sl false 3 (List.map e_T_api_Value l_1), .int .i64 (((l_1).length : Nat) : Int), .int .i64 v_1]) (bxs := [.live (.row 5 1 (List.map (AV.int .u8) row_1)), .live (.var 24 (v_T_api_Value x_1))]) (by kernel_rfl) hmix (ac (vc_idx h_2 : idxA (List.map e_T_api_Value l_1) v_1 = some (e_T_api_Value x_1)) an) ?_
    obtain ⟨r_1, h_3, h⟩ := bind_some h
    refine aw_region [(2, { av := .own 0 ((r_1).length), gids := [0], giv := [(.row 5 1 (List.map (AV.int .u8) row_1))], ids := [2], l := [.own 0 ((row_1).length), e_T_api_Value x_1], post := [(.row 5 1 (List.map (AV.int .u8) r_1))] })] [3, 6, 7, 8] [2] 3 (vals := [.own 2 ((r_1).length), .sl false 3 (List.map e_T_api_Value l_1), .int .i64 (((l_1).length : Nat) : Int), .int .i64 v_1]) (bxs := [.live (.row 5 1 (List.map (AV.int .u8) r_1))]) (by kernel_rfl) hmix (ac (rfl : ([.own 0 ((row_1).length), e_T_api_Value x_1] : List AV) = [.own 0 ((row_1).length), e_T_api_Value x_1]) (ac (rfl : ([.live (.row 5 1 (List.map (AV.int .u8) row_1))] : List BoxSt) = [.live (.row 5 1 (List.map (AV.int .u8) row_1))]) (ac (column_put_ok F row_1 x_1 r_1 h_3 : TripleG prog 34 [] [(.row 5 1 (List.map (AV.int .u8) row_1))] [.own 0 ((row_1).length), e_T_api_Value x_1] [(.row 5 1 (List.map (AV.int .u8) r_1))] (.own 0 ((r_1).length))) an))) ?_
    refine aw_region [] [3, 6, 7, 8] [2] 3 (vals := [.own 2 ((r_1).length), .sl false 3 (List.map e_T_api_Value l_1), .int .i64 (((l_1).length : Nat) : Int), .int .i64 (w_i64 (v_1 + (1 : Int)))]) (bxs := [.live (.row 5 1 (List.map (AV.int .u8) r_1))]) (by kernel_rfl) hmix an ?_
    exact ⟨_, (sub_wkm [2] [] [.s 3, .s 6, .s 7, .s 8] [.s 0] (by kernel_rfl) an), _, _, rfl, h⟩
  refine aw_seq (by kernel_rfl) ?_
  refine aw_region [] [2] [0] 1 (vals := [.own 0 ((o_1).length)]) (bxs := [.live (.row 5 1 (List.map (AV.int .u8) o_1))]) (by kernel_rfl) hmix an ?_
  refine aw_sub (sub_wkm [0] [] [.s 2] [.s 0] (sl2 := [(2, .own 0 ((o_1).length))]) (bx2 := [(0, .live (.row 5 1 (List.map (AV.int .u8) o_1)))]) (by kernel_rfl) an) ?_
  refine aw_ret (by kernel_rfl) ?_
  replace h := Option.some.inj h; subst h
  exact ⟨.inr rfl, Nat.le_of_ble_eq_true rfl, by kernel_rfl⟩

theorem column_runs_ok (F : Nat) (l_1 : List (T_api_Value)) (r : (List (Int))) (h : column_runs F l_1 = some r) : TripleG prog 24 [] [] [.sl false 3 (List.map e_T_api_Value l_1)] [] (.sl false 1 (List.map (AV.int .u8) r)) := by
  refine triple_intro (fn := Go.Proofs.Try.f24) (code := codeOf Go.Proofs.Try.f24) (by kernel_rfl) (by kernel_rfl) (Nat.le_of_ble_eq_true (by kernel_rfl)) ?_
  unfold column_runs at h
  refine aw_seq (by kernel_rfl) ?_
  refine aw_region [] [0] [] 0 (vals := [.sl false 3 (List.map e_T_api_Value l_1)]) (bxs := []) (by kernel_rfl) hmix an ?_
  refine aw_seq (by kernel_rfl) ?_
  refine aw_region [] [0, 3] [] 0 (vals := [.sl false 3 (List.map e_T_api_Value l_1), .nilsl]) (bxs := []) (by kernel_rfl) hmix an ?_
  refine aw_seq (by kernel_rfl) ?_
  obtain ⟨o_1, h_1, h⟩ := bind_some h
  refine aw_mid (mk [(3, .sl false 1 (List.map (AV.int .u8) o_1))] [] 0) ?_ ?_
  · replace h := h_1
    refine aw_block (id := 0) (by kernel_rfl) ?_
    refine aw_sub (sub_wkm [] [] [.s 0, .a 3 (.sl false 1 [])] [] (sl2 := [(0, .sl false 3 (List.map e_T_api_Value l_1)), (3, .sl false 1 [])]) (bx2 := []) (by kernel_rfl) (ac (rfl : ([] : List AV) = []) an)) ?_
    refine aw_loopF (fun n st => ∃ (l_2 : List T_api_Value), ∃ (b_1 : List Int), st = mk [(0, .sl false 3 (List.map e_T_api_Value l_2)), (3, .sl false 1 (List.map (AV.int .u8) b_1))] [] 0 ∧ column_runs_L1 F n l_2 b_1 = some o_1) F (by kernel_rfl) ⟨_, _, rfl, h⟩ ?_ ?_
    · rintro _ ⟨_, _, _, h⟩; exact none_ne (h : (none : Option (List Int)) = some o_1)
    rintro n_1 _ ⟨l_2, b_1, rfl, h⟩
    replace h : column_runs_L1_body F (column_runs_L1 F n_1) l_2 b_1 = some o_1 := h
    unfold column_runs_L1_body at h
    refine aw_seq (by kernel_rfl) ?_
    refine aw_seq (by kernel_rfl) ?_
    refine aw_region [(1, { n := (l_2).length })] [0, 3, 7] [] 0 (vals := [.sl false 3 (List.map e_T_api_Value l_2), .sl false 1 (List.map (AV.int .u8) b_1), .bool (decide ((((l_2).length : Nat) : Int) > (0 : Int)))]) (bxs := []) (by kernel_rfl) hmix (ac (vc_len _ : ((List.map e_T_api_Value l_2)).length = (l_2).length) an) ?_
    refine aw_cond (t := 7) (b := (decide ((((l_2).length : Nat) : Int) > (0 : Int)))) (by kernel_rfl) (by kernel_rfl) ?_ ?_
    rotate_left
    · intro g_1; replace h := cond_f g_1 h
      refine aw_exit (id := 0) (by kernel_rfl) ?_
      replace h := Option.some.inj h; subst h
      exact ⟨rfl, (sub_wkm [] [] [.s 3] [] (by kernel_rfl) an)⟩
    intro g_1; replace h := cond_t g_1 h
    refine aw_skip (by kernel_rfl) ?_
    refine aw_block (id := 1) (by kernel_rfl) ?_
    refine aw_seq (by kernel_rfl) ?_
    refine aw_region [] [0, 3, 4] [] 0 (vals := [.sl false 3 (List.map e_T_api_Value l_2), .sl false 1 (List.map (AV.int .u8) b_1), .int .i64 (1 : Int)]) (bxs := []) (by kernel_rfl) hmix an ?_
    refine aw_seq (by kernel_rfl) ?_
    obtain ⟨o_2, h_2, h⟩ := bind_some h
    refine aw_mid (mk [(0, .sl false 3 (List.map e_T_api_Value l_2)), (3, .sl false 1 (List.map (AV.int .u8) b_1)), (4, .int .i64 o_2)] [] 0) ?_ ?_
    · replace h := h_2
      refine aw_block (id := 2) (by kernel_rfl) ?_
      refine aw_sub (sub_wkm [] [] [.s 0, .s 3, .s 4] [] (sl2 := [(0, .sl false 3 (List.map e_T_api_Value l_2)), (3, .sl false 1 (List.map (AV.int .u8) b_1)), (4, .int .i64 (1 : Int))]) (bx2 := []) (by kernel_rfl) an) ?_
      refine aw_loopF (fun n st => ∃ (n_2 : Int), st = mk [(0, .sl false 3 (List.map e_T_api_Value l_2)), (3, .sl false 1 (List.map (AV.int .u8) b_1)), (4, .int .i64 n_2)] [] 0 ∧ column_runs_L2 F l_2 n n_2 = some o_2) F (by kernel_rfl) ⟨_, rfl, h⟩ ?_ ?_
      · rintro _ ⟨_, _, h⟩; exact none_ne (h : (none : Option Int) = some o_2)
      rintro n_3 _ ⟨n_2, rfl, h⟩
      replace h : column_runs_L2_body F l_2 (column_runs_L2 F l_2 n_3) n_2 = some o_2 := h
      unfold column_runs_L2_body at h
      refine aw_seq (by kernel_rfl) ?_
      refine aw_seq (by kernel_rfl) ?_
      obtain ⟨p_1, h_5, h⟩ := bind_some h
      refine aw_mid (mk [(0, .sl false 3 (List.map e_T_api_Value l_2)), (3, .sl false 1 (List.map (AV.int .u8) b_1)), (4, .int .i64 n_2), (21, .bool p_1)] [] 0) ?_ ?_
      · replace h := h_5
        rcases Bool.eq_false_or_eq_true (decide (n_2 < (((l_2).length : Nat) : Int))) with gg_40 | gg_40
        · replace h := cond_t gg_40 h
          obtain ⟨x_1, h_3, h⟩ := bind_some h
          obtain ⟨x_2, h_4, h⟩ := bind_some h
          refine aw_region [(2, { n := (l_2).length }), (7, { av := e_T_api_Value x_1 }), (10, { av := e_T_api_Value x_2 }), (12, { b := (decide (x_1 = x_2)), mks := [.int .i64, .int .i64, .str] }), (13, { b := true })] [0, 3, 4, 13, 14, 15, 16, 17, 18, 19, 20, 21] [] 0 (vals := [.sl false 3 (List.map e_T_api_Value l_2), .sl false 1 (List.map (AV.int .u8) b_1), .int .i64 n_2, .sl false 3 (List.map e_T_api_Value l_2), .int .i64 n_2, .ref (e_T_api_Value x_1), e_T_api_Value x_1, .sl false 3 (List.map e_T_api_Value l_2), .ref (e_T_api_Value x_2), e_T_api_Value x_2, .bool (decide (x_1 = x_2)), .bool (decide (x_1 = x_2))]) (bxs := []) (by kernel_rfl) hmix (ac (vc_len _ : ((List.map e_T_api_Value l_2)).length = (l_2).length) (ac gg_40 (ac gg_40 (ac gg_40 (ac (vc_idx h_3 : idxA (List.map e_T_api_Value l_2) n_2 = some (e_T_api_Value x_1)) (ac gg_40 (ac gg_40 (ac gg_40 (ac (vc_idx h_4 : idxA (List.map e_T_api_Value l_2) (0 : Int) = some (e_T_api_Value x_2)) (ac gg_40 (ac gg_40 (ac (eqOk_24 : EqOk prog 24 [.int .i64, .int .i64, .str]) (ac (vc_eqA (f := e_T_api_Value) inj_T_api_Value x_1 x_2 : ((decide (x_1 = x_2)) = true ↔ AV.agg [.int .i64 x_1.Kind, .int .i64 x_1.N, .str x_1.S] = AV.agg [.int .i64 x_2.Kind, .int .i64 x_2.N, .str x_2.S])) (ac gg_40 an)))))))))))))) ?_
          replace h := Option.some.inj h; subst h
          exact ⟨rfl, (sub_wkm [] [] [.s 0, .s 3, .s 4, .s 21] [] (by kernel_rfl) an)⟩
        · replace h := cond_f gg_40 h
          refine aw_region [(2, { n := (l_2).length }), (5, { g := false }), (6, { g := false }), (7, { g := false }), (8, { g := false }), (9, { g := false }), (10, { g := false }), (11, { g := false }), (12, { g := false }), (13, { b := false })] [0, 3, 4, 13, 14, 15, 16, 17, 18, 19, 20, 21] [] 0 (vals := [.sl false 3 (List.map e_T_api_Value l_2), .sl false 1 (List.map (AV.int .u8) b_1), .int .i64 n_2, .tuple [], .tuple [], .tuple [], .tuple [], .tuple [], .tuple [], .tuple [], .tuple [], .bool false]) (bxs := []) (by kernel_rfl) hmix (ac (vc_len _ : ((List.map e_T_api_Value l_2)).length = (l_2).length) (ac gg_40 (ac gg_40 (ac gg_40 (ac gg_40 (ac gg_40 (ac gg_40 (ac gg_40 (ac gg_40 (ac gg_40 an)))))))))) ?_
          replace h := Option.some.inj h; subst h
          exact ⟨rfl, (sub_wkm [] [] [.s 0, .s 3, .s 4, .s 21] [] (by kernel_rfl) an)⟩
      refine aw_cond (t := 21) (b := p_1) (by kernel_rfl) (by kernel_rfl) ?_ ?_
      rotate_left
      · intro g_2; replace h := cond_f g_2 h
        refine aw_exit (id := 2) (by kernel_rfl) ?_
        replace h := Option.some.inj h; subst h
        exact ⟨rfl, (sub_wkm [] [] [.s 0, .s 3, .s 4] [] (by kernel_rfl) an)⟩
      intro g_2; replace h := cond_t g_2 h
      refine aw_skip (by kernel_rfl) ?_
      refine aw_block (id := 3) (by kernel_rfl) ?_
      refine aw_region [] [0, 3, 4] [] 0 (vals := [.sl false 3 (List.map e_T_api_Value l_2), .sl false 1 (List.map (AV.int .u8) b_1), .int .i64 (w_i64 (n_2 + (1 : Int)))]) (bxs := []) (by kernel_rfl) hmix an ?_
      exact ⟨_, (sub_wkm [] [] [.s 0, .s 3, .s 4] [] (by kernel_rfl) an), _, rfl, h⟩
    refine aw_seq (by kernel_rfl) ?_
    obtain ⟨r_1, h_6, h⟩ := bind_some h
    obtain ⟨x_3, h_7, h⟩ := bind_some h
    obtain ⟨r_2, h_8, h⟩ := bind_some h
    refine aw_region [(2, { av := .own 0 ((r_1).length), ids := [0], l := [.sl false 1 (List.map (AV.int .u8) b_1), .int .i64 o_2], post := [(.row 5 1 (List.map (AV.int .u8) r_1))] }), (4, { av := e_T_api_Value x_3 }), (6, { av := .own 0 ((r_2).length), gids := [0], giv := [(.row 5 1 (List.map (AV.int .u8) r_1))], ids := [1], l := [.own 0 ((r_1).length), e_T_api_Value x_3], post := [(.row 5 1 (List.map (AV.int .u8) r_2))] })] [0, 3, 4] [1] 2 (vals := [.sl false 3 (List.map e_T_api_Value l_2), .own 1 ((r_2).length), .int .i64 o_2]) (bxs := [.live (.row 5 1 (List.map (AV.int .u8) r_2))]) (by kernel_rfl) hmix (ac (rfl : ([.sl false 1 (List.map (AV.int .u8) b_1), .int .i64 o_2] : List AV) = [.sl false 1 (List.map (AV.int .u8) b_1), .int .i64 o_2]) (ac (rfl : ([] : List BoxSt) = []) (ac (codec_PutInt_ok F b_1 o_2 r_1 h_6 : TripleG prog 35 [] [] [.sl false 1 (List.map (AV.int .u8) b_1), .int .i64 o_2] [(.row 5 1 (List.map (AV.int .u8) r_1))] (.own 0 ((r_1).length))) (ac (vc_idx h_7 : idxA (List.map e_T_api_Value l_2) (0 : Int) = some (e_T_api_Value x_3)) (ac (rfl : ([.own 0 ((r_1).length), e_T_api_Value x_3] : List AV) = [.own 0 ((r_1).length), e_T_api_Value x_3]) (ac (rfl : ([.live (.row 5 1 (List.map (AV.int .u8) r_1))] : List BoxSt) = [.live (.row 5 1 (List.map (AV.int .u8) r_1))]) (ac (column_put_ok F r_1 x_3 r_2 h_8 : TripleG prog 34 [] [(.row 5 1 (List.map (AV.int .u8) r_1))] [.own 0 ((r_1).length), e_T_api_Value x_3] [(.row 5 1 (List.map (AV.int .u8) r_2))] (.own 0 ((r_2).length))) an))))))) ?_
    obtain ⟨_, h_9, h⟩ := bind_some h; replace h_9 := need_some h_9
    refine aw_region [(2, { l := (List.map e_T_api_Value (sub l_2 o_2 (((l_2).length : Nat) : Int))) })] [0, 3] [1] 2 (vals := [.sl false 3 (List.map e_T_api_Value (sub l_2 o_2 (((l_2).length : Nat) : Int))), .own 1 ((r_2).length)]) (bxs := [.live (.row 5 1 (List.map (AV.int .u8) r_2))]) (by kernel_rfl) hmix (ac h_9.1 (ac (vc_lenle h_9.2 : o_2 ≤ ((((List.map e_T_api_Value l_2)).length : Nat) : Int)) (ac (Int.le_refl _ : ((((List.map e_T_api_Value l_2)).length : Nat) : Int) ≤ ((((List.map e_T_api_Value l_2)).length : Nat) : Int)) (ac (vc_subn _ _ : (List.map e_T_api_Value (sub l_2 o_2 (((l_2).length : Nat) : Int))) = (((List.map e_T_api_Value l_2)).take (((((List.map e_T_api_Value l_2)).length : Nat) : Int)).toNat).drop (o_2).toNat) an)))) ?_
    exact ⟨_, (Sub.trans (sub_wkm [] [1] [.s 0, .a 3 (.sl false 1 (List.map (AV.int .u8) r_2))] [] (sl2 := [(0, .sl false 3 (List.map e_T_api_Value (sub l_2 o_2 (((l_2).length : Nat) : Int)))), (3, .sl false 1 (List.map (AV.int .u8) r_2))]) (bx2 := []) (by kernel_rfl) (ac (by first | (simp; done) | (simp; omega) : (r_2).length = ((List.map (AV.int .u8) r_2)).length) (ac (rfl : 1 = 1) (ac (rfl : ((List.map (AV.int .u8) r_2) : List AV) = (List.map (AV.int .u8) r_2)) (ac (rfl : (!false || false) = true) an))))) (sub_wkm [] [] [.s 0, .s 3] [] (by kernel_rfl) an)), _, _, rfl, h⟩
  refine aw_seq (by kernel_rfl) ?_
  refine aw_region [] [2] [] 0 (vals := [.sl false 1 (List.map (AV.int .u8) o_1)]) (bxs := []) (by kernel_rfl) hmix an ?_
  refine aw_ret (by kernel_rfl) ?_
  replace h := Option.some.inj h; subst h
  exact ⟨.inr rfl, Nat.le_of_ble_eq_true rfl, by kernel_rfl⟩

theorem column_differences_ok (F : Nat) (k_1 : Int) (l_1 : List (T_api_Value)) (r : (List (Int)) × Bool) (h : column_differences F k_1 l_1 = some r) : TripleG prog 25 [] [] [.int .i64 k_1, .sl false 3 (List.map e_T_api_Value l_1)] [] (.tuple [.sl false 1 (List.map (AV.int .u8) r.1), .bool r.2]) := by
  refine triple_intro (fn := Go.Proofs.Try.f25) (code := codeOf Go.Proofs.Try.f25) (by kernel_rfl) (by kernel_rfl) (Nat.le_of_ble_eq_true (by kernel_rfl)) ?_
  unfold column_differences at h
  refine aw_seq (by kernel_rfl) ?_
  refine aw_region [] [0, 1] [] 0 (vals := [.int .i64 k_1, .sl false 3 (List.map e_T_api_Value l_1)]) (bxs := []) (by kernel_rfl) hmix an ?_
  refine aw_seq (by kernel_rfl) ?_
  refine aw_seq (by kernel_rfl) ?_
  refine aw_region [] [1, 11] [] 0 (vals := [.sl false 3 (List.map e_T_api_Value l_1), .bool (k_1 == (3 : Int))]) (bxs := []) (by kernel_rfl) hmix an ?_
  refine aw_cond (t := 11) (b := (k_1 == (3 : Int))) (by kernel_rfl) (by kernel_rfl) ?_ ?_
  · intro g_1; replace h := cond_t g_1 h
    refine aw_seq (by kernel_rfl) ?_
    refine aw_region [] [4, 5] [] 0 (vals := [.nilsl, .bool false]) (bxs := []) (by kernel_rfl) hmix an ?_
    refine aw_sub (sub_wkm [] [] [.a 4 (.sl false 1 []), .s 5] [] (sl2 := [(4, .sl false 1 []), (5, .bool false)]) (bx2 := []) (by kernel_rfl) (ac (rfl : ([] : List AV) = []) an)) ?_
    refine aw_ret (by kernel_rfl) ?_
    replace h := Option.some.inj h; subst h
    exact ⟨.inr rfl, Nat.le_of_ble_eq_true rfl, by kernel_rfl⟩
  intro g_1; replace h := cond_f g_1 h
  refine aw_skip (by kernel_rfl) ?_
  refine aw_seq (by kernel_rfl) ?_
  refine aw_region [] [1, 6] [] 0 (vals := [.sl false 3 (List.map e_T_api_Value l_1), .nilsl]) (bxs := []) (by kernel_rfl) hmix an ?_
  refine aw_seq (by kernel_rfl) ?_
  refine aw_region [] [1, 6, 7] [] 0 (vals := [.sl false 3 (List.map e_T_api_Value l_1), .nilsl, .int .i64 (0 : Int)]) (bxs := []) (by kernel_rfl) hmix an ?_
  refine aw_seq (by kernel_rfl) ?_
  refine aw_seq (by kernel_rfl) ?_
  refine aw_region [(1, { n := (l_1).length })] [6, 7, 12, 13, 14] [] 0 (vals := [.nilsl, .int .i64 (0 : Int), .sl false 3 (List.map e_T_api_Value l_1), .int .i64 (((l_1).length : Nat) : Int), .int .i64 (0 : Int)]) (bxs := []) (by kernel_rfl) hmix (ac (vc_len _ : ((List.map e_T_api_Value l_1)).length = (l_1).length) an) ?_
  obtain ⟨o_1, h_1, h⟩ := bind_some h
  refine aw_conv (K1 := (fun e st' => match o_1 with | (.inl q0) => e = .normal ∧ Sub 0 st' (mk [(6, .sl false 1 (List.map (AV.int .u8) q0))] [] 0) | (.inr q1) => e = .ret ∧ FinR prog Go.Proofs.Try.f25 0 [] (.tuple [.sl false 1 (List.map (AV.int .u8) q1.1), .bool q1.2]) st')) ?_ ?_
  · replace h := h_1
    refine aw_block (id := 0) (by kernel_rfl) ?_
    refine aw_sub (sub_wkm [] [] [.a 6 (.sl false 1 []), .s 7, .s 12, .s 13, .s 14] [] (sl2 := [(6, .sl false 1 []), (7, .int .i64 (0 : Int)), (12, .sl false 3 (List.map e_T_api_Value l_1)), (13, .int .i64 (((l_1).length : Nat) : Int)), (14, .int .i64 (0 : Int))]) (bx2 := []) (by kernel_rfl) (ac (rfl : ([] : List AV) = []) an)) ?_
    refine aw_loopF (fun n st => ∃ (b_1 : List Int), ∃ (last_1 : Int), ∃ (v_1 : Int), st = mk [(6, .sl false 1 (List.map (AV.int .u8) b_1)), (7, .int .i64 last_1), (12, .sl false 3 (List.map e_T_api_Value l_1)), (13, .int .i64 (((l_1).length : Nat) : Int)), (14, .int .i64 v_1)] [] 0 ∧ column_differences_L1 F l_1 n b_1 last_1 v_1 = some o_1) F (by kernel_rfl) ⟨_, _, _, rfl, h⟩ ?_ ?_
    · rintro _ ⟨_, _, _, _, h⟩; exact none_ne (h : (none : Option ((List Int) ⊕ ((List (Int)) × Bool))) = some o_1)
    rintro n_1 _ ⟨b_1, last_1, v_1, rfl, h⟩
    replace h : column_differences_L1_body F l_1 (column_differences_L1 F l_1 n_1) b_1 last_1 v_1 = some o_1 := h
    unfold column_differences_L1_body at h
    refine aw_seq (by kernel_rfl) ?_
    refine aw_region [] [6, 7, 12, 13, 14, 15] [] 0 (vals := [.sl false 1 (List.map (AV.int .u8) b_1), .int .i64 last_1, .sl false 3 (List.map e_T_api_Value l_1), .int .i64 (((l_1).length : Nat) : Int), .int .i64 v_1, .bool (decide (v_1 < (((l_1).length : Nat) : Int)))]) (bxs := []) (by kernel_rfl) hmix an ?_
    refine aw_seq (by kernel_rfl) ?_
    refine aw_cond (t := 15) (b := (decide (v_1 < (((l_1).length : Nat) : Int)))) (by kernel_rfl) (by kernel_rfl) ?_ ?_
    rotate_left
    · intro g_2; replace h := cond_f g_2 h
      refine aw_exit (id := 0) (by kernel_rfl) ?_
      replace h := Option.some.inj h; subst h
      exact ⟨rfl, (sub_wkm [] [] [.s 6] [] (by kernel_rfl) an)⟩
    intro g_2; replace h := cond_t g_2 h
    refine aw_skip (by kernel_rfl) ?_
    refine aw_seq (by kernel_rfl) ?_
    refine aw_block (id := 1) (by kernel_rfl) ?_
    refine aw_seq (by kernel_rfl) ?_
    obtain ⟨x_1, h_2, h⟩ := bind_some h
    refine aw_region [(0, { av := e_T_api_Value x_1 }), (2, { id := 0 })] [6, 7, 9, 12, 13, 14] [0] 1 (vals := [.sl false 1 (List.map (AV.int .u8) b_1), .int .i64 last_1, .ptr 0 0 0 0, .sl false 3 (List.map e_T_api_Value l_1), .int .i64 (((l_1).length : Nat) : Int), .int .i64 v_1]) (bxs := [.live (.var 24 (v_T_api_Value x_1))]) (by kernel_rfl) hmix (ac (vc_idx h_2 : idxA (List.map e_T_api_Value l_1) v_1 = some (e_T_api_Value x_1)) an) ?_
    refine aw_seq (by kernel_rfl) ?_
    refine aw_seq (by kernel_rfl) ?_
    refine aw_region [] [6, 7, 9, 12, 13, 14, 20] [0] 1 (vals := [.sl false 1 (List.map (AV.int .u8) b_1), .int .i64 last_1, .ptr 0 0 0 0, .sl false 3 (List.map e_T_api_Value l_1), .int .i64 (((l_1).length : Nat) : Int), .int .i64 v_1, .bool (x_1.Kind == (0 : Int))]) (bxs := [.live (.var 24 (v_T_api_Value x_1))]) (by kernel_rfl) hmix an ?_
    refine aw_cond (t := 20) (b := (x_1.Kind == (0 : Int))) (by kernel_rfl) (by kernel_rfl) ?_ ?_
    · intro g_3; replace h := cond_t g_3 h
      refine aw_seq (by kernel_rfl) ?_
      refine aw_region [] [4, 5] [] 1 (vals := [.nilsl, .bool false]) (bxs := []) (by kernel_rfl) hmix an ?_
      refine aw_sub (sub_wkm [] [] [.a 4 (.sl false 1 []), .s 5] [] (sl2 := [(4, .sl false 1 []), (5, .bool false)]) (bx2 := []) (by kernel_rfl) (ac (rfl : ([] : List AV) = []) an)) ?_
      refine aw_ret (by kernel_rfl) ?_
      replace h := Option.some.inj h; subst h
      exact ⟨rfl, Nat.le_of_ble_eq_true rfl, by kernel_rfl⟩
    intro g_3; replace h := cond_f g_3 h
    refine aw_skip (by kernel_rfl) ?_
    refine aw_seq (by kernel_rfl) ?_
    obtain ⟨r_1, h_3, h⟩ := bind_some h
    refine aw_region [(5, { av := .own 0 ((r_1).length), ids := [1], l := [.sl false 1 (List.map (AV.int .u8) b_1), .int .i64 (w_i64 (x_1.N - last_1))], post := [(.row 5 1 (List.map (AV.int .u8) r_1))] })] [6, 9, 12, 13, 14] [0, 1] 2 (vals := [.own 1 ((r_1).length), .ptr 0 0 0 0, .sl false 3 (List.map e_T_api_Value l_1), .int .i64 (((l_1).length : Nat) : Int), .int .i64 v_1]) (bxs := [.live (.var 24 (v_T_api_Value x_1)), .live (.row 5 1 (List.map (AV.int .u8) r_1))]) (by kernel_rfl) hmix (ac (rfl : ([.sl false 1 (List.map (AV.int .u8) b_1), .int .i64 (w_i64 (x_1.N - last_1))] : List AV) = [.sl false 1 (List.map (AV.int .u8) b_1), .int .i64 (w_i64 (x_1.N - last_1))]) (ac (rfl : ([] : List BoxSt) = []) (ac (codec_PutInt_ok F b_1 (w_i64 (x_1.N - last_1)) r_1 h_3 : TripleG prog 35 [] [] [.sl false 1 (List.map (AV.int .u8) b_1), .int .i64 (w_i64 (x_1.N - last_1))] [(.row 5 1 (List.map (AV.int .u8) r_1))] (.own 0 ((r_1).length))) an))) ?_
    refine aw_region [] [6, 7, 12, 13, 14] [1] 2 (vals := [.own 1 ((r_1).length), .int .i64 x_1.N, .sl false 3 (List.map e_T_api_Value l_1), .int .i64 (((l_1).length : Nat) : Int), .int .i64 v_1]) (bxs := [.live (.row 5 1 (List.map (AV.int .u8) r_1))]) (by kernel_rfl) hmix an ?_
    refine aw_region [] [6, 7, 12, 13, 14] [1] 2 (vals := [.own 1 ((r_1).length), .int .i64 x_1.N, .sl false 3 (List.map e_T_api_Value l_1), .int .i64 (((l_1).length : Nat) : Int), .int .i64 (w_i64 (v_1 + (1 : Int)))]) (bxs := [.live (.row 5 1 (List.map (AV.int .u8) r_1))]) (by kernel_rfl) hmix an ?_
    exact ⟨_, (Sub.trans (sub_wkm [] [1] [.a 6 (.sl false 1 (List.map (AV.int .u8) r_1)), .s 7, .s 12, .s 13, .s 14] [] (sl2 := [(6, .sl false 1 (List.map (AV.int .u8) r_1)), (7, .int .i64 x_1.N), (12, .sl false 3 (List.map e_T_api_Value l_1)), (13, .int .i64 (((l_1).length : Nat) : Int)), (14, .int .i64 (w_i64 (v_1 + (1 : Int))))]) (bx2 := []) (by kernel_rfl) (ac (by first | (simp; done) | (simp; omega) : (r_1).length = ((List.map (AV.int .u8) r_1)).length) (ac (rfl : 1 = 1) (ac (rfl : ((List.map (AV.int .u8) r_1) : List AV) = (List.map (AV.int .u8) r_1)) (ac (rfl : (!false || false) = true) an))))) (sub_wkm [] [] [.s 6, .s 7, .s 12, .s 13, .s 14] [] (by kernel_rfl) an)), _, _, _, rfl, h⟩
  intro e st1 hk
  rcases o_1 with q_1 | q_2
  rotate_left
  · obtain ⟨rfl, hf⟩ := hk
    replace h := Option.some.inj h; subst h
    exact ⟨st1, Sub.refl _ _, .inr rfl, hf⟩
  obtain ⟨rfl, hs⟩ := hk
  refine ⟨_, hs, ?_⟩
  refine aw_seq (by kernel_rfl) ?_
  refine aw_region [] [4, 5] [] 0 (vals := [.sl false 1 (List.map (AV.int .u8) q_1), .bool true]) (bxs := []) (by kernel_rfl) hmix an ?_
  refine aw_ret (by kernel_rfl) ?_
  replace h := Option.some.inj h; subst h
  exact ⟨.inr rfl, Nat.le_of_ble_eq_true rfl, by kernel_rfl⟩

theorem slices_Grow_byte_byte_ok (n_1 : Int) (r : (List (Int))) (h : slices_Grow_byte_byte n_1 = some r) : TripleG prog 47 [] [] [.nilsl, .int .i64 n_1] [.row 5 1 (List.map (AV.int .u8) r)] (.own 0 ((r).length)) := by
  refine triple_intro (fn := Go.Proofs.Try.f47) (code := codeOf Go.Proofs.Try.f47) (by kernel_rfl) (by kernel_rfl) (Nat.le_of_ble_eq_true (by kernel_rfl)) ?_
  unfold slices_Grow_byte_byte at h
  refine aw_seq (by kernel_rfl) ?_
  refine aw_region [(0, { id := 0, m := 1 })] [0, 1] [] 1 (vals := [.nilsl, .int .i64 n_1]) (bxs := []) (by kernel_rfl) hmix an ?_
  refine aw_seq (by kernel_rfl) ?_
  refine aw_seq (by kernel_rfl) ?_
  refine aw_region [] [0, 1, 6] [] 1 (vals := [.nilsl, .int .i64 n_1, .bool (decide (n_1 < (0 : Int)))]) (bxs := []) (by kernel_rfl) hmix an ?_
  obtain ⟨o_1, h_1, h⟩ := bind_some h
  refine aw_mid (mk [(0, .nilsl), (1, .int .i64 n_1)] [] 0) ?_ ?_
  · replace h := h_1
    refine aw_cond (t := 6) (b := (decide (n_1 < (0 : Int)))) (by kernel_rfl) (by kernel_rfl) ?_ ?_
    · intro g_1; replace h := cond_t g_1 h
      exact none_ne h
    intro g_1; replace h := cond_f g_1 h
    refine aw_skip (by kernel_rfl) ?_
    replace h := Option.some.inj h; subst h
    exact ⟨rfl, (sub_wkm [] [] [.s 0, .s 1] [] (by kernel_rfl) an)⟩
  refine aw_seq (by kernel_rfl) ?_
  refine aw_seq (by kernel_rfl) ?_
  refine aw_region [(2, { x := true }), (4, { n := 0 })] [0, 1] [] 0 (vals := [.nilsl, .int .i64 (w_i64 (n_1 - (w_i64 ((0 : Int) - ((0 : Nat) : Int)))))]) (bxs := []) (by kernel_rfl) hmix (ac (rfl : ([] : List AV).length = 0) an) ?_
  refine aw_seq (by kernel_rfl) ?_
  refine aw_region [] [0, 1, 16] [] 0 (vals := [.nilsl, .int .i64 (w_i64 (n_1 - (w_i64 ((0 : Int) - ((0 : Nat) : Int))))), .bool (decide ((w_i64 (n_1 - (w_i64 ((0 : Int) - ((0 : Nat) : Int))))) > (0 : Int)))]) (bxs := []) (by kernel_rfl) hmix an ?_
  refine aw_cond (t := 16) (b := (decide ((w_i64 (n_1 - (w_i64 ((0 : Int) - ((0 : Nat) : Int))))) > (0 : Int)))) (by kernel_rfl) (by kernel_rfl) ?_ ?_
  · intro g_2; replace h := cond_t g_2 h
    obtain ⟨_, h_2, h⟩ := bind_some h; replace h_2 := need_some h_2
    refine aw_region [(2, { x := true }), (3, { x := true }), (5, { id := 0, n := (w_i64 (n_1 - (w_i64 ((0 : Int) - ((0 : Nat) : Int))))).toNat, x := true }), (7, { n := 0 }), (8, { l := [], n := 0, x := true })] [0] [0] 1 (vals := [.own 0 0]) (bxs := [.live (.row 5 1 [])]) (by kernel_rfl) hmix (ac (rfl : (0 : Int) = (0 : Int)) (ac ((Int.toNat_of_nonneg h_2.1).symm : (w_i64 (n_1 - (w_i64 ((0 : Int) - ((0 : Nat) : Int))))) = (((w_i64 (n_1 - (w_i64 ((0 : Int) - ((0 : Nat) : Int))))).toNat : Nat) : Int)) (ac h_2.2.1 (ac h_2.2.2 (ac (rfl : ([] : List AV).length = 0) (ac (rfl : ((0 : Nat) : Int) = ((0 : Nat) : Int)) (ac (Nat.zero_le _ : 0 ≤ ((w_i64 (n_1 - (w_i64 ((0 : Int) - ((0 : Nat) : Int))))).toNat)) (ac (by simp : [] = ([] : List AV).take 0) an)))))))) ?_
    refine aw_seq (by kernel_rfl) ?_
    refine aw_region [] [4] [0] 1 (vals := [.own 0 0]) (bxs := [.live (.row 5 1 [])]) (by kernel_rfl) hmix an ?_
    refine aw_sub (sub_wkm [0] [] [.a 4 (.own 0 ((([] : List Int)).length))] [.s 0] (sl2 := [(4, .own 0 ((([] : List Int)).length))]) (bx2 := [(0, .live (.row 5 1 []))]) (by kernel_rfl) (ac (congrArg (AV.own _) (by first | (simp; done) | (simp; omega)) : (.own 0 0 : AV) = .own 0 ((([] : List Int)).length)) an)) ?_
    refine aw_ret (by kernel_rfl) ?_
    replace h := Option.some.inj h; subst h
    exact ⟨.inr rfl, Nat.le_of_ble_eq_true rfl, by kernel_rfl⟩
  intro g_2; replace h := cond_f g_2 h
  refine aw_skip (by kernel_rfl) ?_
  refine aw_seq (by kernel_rfl) ?_
  refine aw_region [] [4] [] 0 (vals := [.nilsl]) (bxs := []) (by kernel_rfl) hmix an ?_
  refine aw_sub (sub_adoptS 4 none 0 5 1 (by kernel_rfl)) ?_
  refine aw_sub (sub_wkm [0] [] [.a 4 (.own 0 ((([] : List Int)).length))] [.s 0] (sl2 := [(4, .own 0 ((([] : List Int)).length))]) (bx2 := [(0, .live (.row 5 1 []))]) (by kernel_rfl) (ac (congrArg (AV.own _) (by first | (simp; done) | (simp; omega)) : (.own 0 0 : AV) = .own 0 ((([] : List Int)).length)) an)) ?_
  refine aw_ret (by kernel_rfl) ?_
  replace h := Option.some.inj h; subst h
  exact ⟨.inr rfl, Nat.le_of_ble_eq_true rfl, by kernel_rfl⟩

theorem slices_Concat_byte_byte_ok (F : Nat) (slices_1 : List (List (Int))) (r : (List (Int))) (h : slices_Concat_byte_byte F slices_1 = some r) : TripleG prog 36 [] [] [.sl false 1 (List.map (fun l => AV.sl false 1 (l.map (AV.int .u8))) slices_1)] [.row 5 1 (List.map (AV.int .u8) r)] (.own 0 ((r).length)) := by
  refine triple_intro (fn := Go.Proofs.Try.f36) (code := codeOf Go.Proofs.Try.f36) (by kernel_rfl) (by kernel_rfl) (Nat.le_of_ble_eq_true (by kernel_rfl)) ?_
  unfold slices_Concat_byte_byte at h
  refine aw_seq (by kernel_rfl) ?_
  refine aw_region [(0, { id := 0, m := 1 })] [0] [] 1 (vals := [.sl false 1 (List.map (fun l => AV.sl false 1 (l.map (AV.int .u8))) slices_1)]) (bxs := []) (by kernel_rfl) hmix an ?_
  refine aw_seq (by kernel_rfl) ?_
  refine aw_region [] [0, 3] [] 1 (vals := [.sl false 1 (List.map (fun l => AV.sl false 1 (l.map (AV.int .u8))) slices_1), .int .i64 (0 : Int)]) (bxs := []) (by kernel_rfl) hmix an ?_
  refine aw_seq (by kernel_rfl) ?_
  refine aw_seq (by kernel_rfl) ?_
  refine aw_region [(1, { n := (slices_1).length })] [0, 3, 9, 10, 11] [] 1 (vals := [.sl false 1 (List.map (fun l => AV.sl false 1 (l.map (AV.int .u8))) slices_1), .int .i64 (0 : Int), .sl false 1 (List.map (fun l => AV.sl false 1 (l.map (AV.int .u8))) slices_1), .int .i64 (((slices_1).length : Nat) : Int), .int .i64 (0 : Int)]) (bxs := []) (by kernel_rfl) hmix (ac (vc_len _ : ((List.map (fun l => AV.sl false 1 (l.map (AV.int .u8))) slices_1)).length = (slices_1).length) an) ?_
  obtain ⟨o_1, h_1, h⟩ := bind_some h
  refine aw_mid (mk [(0, .sl false 1 (List.map (fun l => AV.sl false 1 (l.map (AV.int .u8))) slices_1)), (3, .int .i64 o_1)] [] 0) ?_ ?_
  · replace h := h_1
    refine aw_block (id := 0) (by kernel_rfl) ?_
    refine aw_sub (sub_wkm [] [] [.s 0, .s 3, .s 9, .s 10, .s 11] [] (sl2 := [(0, .sl false 1 (List.map (fun l => AV.sl false 1 (l.map (AV.int .u8))) slices_1)), (3, .int .i64 (0 : Int)), (9, .sl false 1 (List.map (fun l => AV.sl false 1 (l.map (AV.int .u8))) slices_1)), (10, .int .i64 (((slices_1).length : Nat) : Int)), (11, .int .i64 (0 : Int))]) (bx2 := []) (by kernel_rfl) an) ?_
    refine aw_loopF (fun n st => ∃ (size_1 : Int), ∃ (v_1 : Int), st = mk [(0, .sl false 1 (List.map (fun l => AV.sl false 1 (l.map (AV.int .u8))) slices_1)), (3, .int .i64 size_1), (9, .sl false 1 (List.map (fun l => AV.sl false 1 (l.map (AV.int .u8))) slices_1)), (10, .int .i64 (((slices_1).length : Nat) : Int)), (11, .int .i64 v_1)] [] 0 ∧ slices_Concat_byte_byte_L1 F slices_1 n size_1 v_1 = some o_1) F (by kernel_rfl) ⟨_, _, rfl, h⟩ ?_ ?_
    · rintro _ ⟨_, _, _, h⟩; exact none_ne (h : (none : Option Int) = some o_1)
    rintro n_1 _ ⟨size_1, v_1, rfl, h⟩
    replace h : slices_Concat_byte_byte_L1_body F slices_1 (slices_Concat_byte_byte_L1 F slices_1 n_1) size_1 v_1 = some o_1 := h
    unfold slices_Concat_byte_byte_L1_body at h
    refine aw_seq (by kernel_rfl) ?_
    refine aw_region [] [0, 3, 9, 10, 11, 12] [] 0 (vals := [.sl false 1 (List.map (fun l => AV.sl false 1 (l.map (AV.int .u8))) slices_1), .int .i64 size_1, .sl false 1 (List.map (fun l => AV.sl false 1 (l.map (AV.int .u8))) slices_1), .int .i64 (((slices_1).length : Nat) : Int), .int .i64 v_1, .bool (decide (v_1 < (((slices_1).length : Nat) : Int)))]) (bxs := []) (by kernel_rfl) hmix an ?_
    refine aw_seq (by kernel_rfl) ?_
    refine aw_cond (t := 12) (b := (decide (v_1 < (((slices_1).length : Nat) : Int)))) (by kernel_rfl) (by kernel_rfl) ?_ ?_
    rotate_left
    · intro g_1; replace h := cond_f g_1 h
      refine aw_exit (id := 0) (by kernel_rfl) ?_
      replace h := Option.some.inj h; subst h
      exact ⟨rfl, (sub_wkm [] [] [.s 0, .s 3] [] (by kernel_rfl) an)⟩
    intro g_1; replace h := cond_t g_1 h
    refine aw_skip (by kernel_rfl) ?_
    refine aw_seq (by kernel_rfl) ?_
    refine aw_block (id := 1) (by kernel_rfl) ?_
    refine aw_seq (by kernel_rfl) ?_
    obtain ⟨x_1, h_2, h⟩ := bind_some h
    refine aw_region [(0, { av := .sl false 1 (List.map (AV.int .u8) x_1) })] [0, 3, 5, 9, 10, 11] [] 0 (vals := [.sl false 1 (List.map (fun l => AV.sl false 1 (l.map (AV.int .u8))) slices_1), .int .i64 size_1, .sl false 1 (List.map (AV.int .u8) x_1), .sl false 1 (List.map (fun l => AV.sl false 1 (l.map (AV.int .u8))) slices_1), .int .i64 (((slices_1).length : Nat) : Int), .int .i64 v_1]) (bxs := []) (by kernel_rfl) hmix (ac (vc_idx h_2 : idxA (List.map (fun l => AV.sl false 1 (l.map (AV.int .u8))) slices_1) v_1 = some (.sl false 1 (List.map (AV.int .u8) x_1))) an) ?_
    refine aw_seq (by kernel_rfl) ?_
    refine aw_region [(2, { n := (x_1).length })] [0, 3, 9, 10, 11] [] 0 (vals := [.sl false 1 (List.map (fun l => AV.sl false 1 (l.map (AV.int .u8))) slices_1), .int .i64 (w_i64 (size_1 + (((x_1).length : Nat) : Int))), .sl false 1 (List.map (fun l => AV.sl false 1 (l.map (AV.int .u8))) slices_1), .int .i64 (((slices_1).length : Nat) : Int), .int .i64 v_1]) (bxs := []) (by kernel_rfl) hmix (ac (vc_len _ : ((List.map (AV.int .u8) x_1)).length = (x_1).length) an) ?_
    refine aw_seq (by kernel_rfl) ?_
    refine aw_region [] [0, 3, 9, 10, 11, 20] [] 0 (vals := [.sl false 1 (List.map (fun l => AV.sl false 1 (l.map (AV.int .u8))) slices_1), .int .i64 (w_i64 (size_1 + (((x_1).length : Nat) : Int))), .sl false 1 (List.map (fun l => AV.sl false 1 (l.map (AV.int .u8))) slices_1), .int .i64 (((slices_1).length : Nat) : Int), .int .i64 v_1, .bool (decide ((w_i64 (size_1 + (((x_1).length : Nat) : Int))) < (0 : Int)))]) (bxs := []) (by kernel_rfl) hmix an ?_
    refine aw_cond (t := 20) (b := (decide ((w_i64 (size_1 + (((x_1).length : Nat) : Int))) < (0 : Int)))) (by kernel_rfl) (by kernel_rfl) ?_ ?_
    · intro g_2; replace h := cond_t g_2 h
      exact none_ne h
    intro g_2; replace h := cond_f g_2 h
    refine aw_skip (by kernel_rfl) ?_
    refine aw_region [] [0, 3, 9, 10, 11] [] 0 (vals := [.sl false 1 (List.map (fun l => AV.sl false 1 (l.map (AV.int .u8))) slices_1), .int .i64 (w_i64 (size_1 + (((x_1).length : Nat) : Int))), .sl false 1 (List.map (fun l => AV.sl false 1 (l.map (AV.int .u8))) slices_1), .int .i64 (((slices_1).length : Nat) : Int), .int .i64 (w_i64 (v_1 + (1 : Int)))]) (bxs := []) (by kernel_rfl) hmix an ?_
    exact ⟨_, (sub_wkm [] [] [.s 0, .s 3, .s 9, .s 10, .s 11] [] (by kernel_rfl) an), _, _, rfl, h⟩
  refine aw_seq (by kernel_rfl) ?_
  obtain ⟨r_1, h_3, h⟩ := bind_some h
  refine aw_region [(1, { av := .own 0 ((r_1).length), ids := [0], l := [.nilsl, .int .i64 o_1], post := [(.row 5 1 (List.map (AV.int .u8) r_1))] })] [0, 6] [0] 1 (vals := [.sl false 1 (List.map (fun l => AV.sl false 1 (l.map (AV.int .u8))) slices_1), .own 0 ((r_1).length)]) (bxs := [.live (.row 5 1 (List.map (AV.int .u8) r_1))]) (by kernel_rfl) hmix (ac (rfl : ([.nilsl, .int .i64 o_1] : List AV) = [.nilsl, .int .i64 o_1]) (ac (rfl : ([] : List BoxSt) = []) (ac (slices_Grow_byte_byte_ok o_1 r_1 h_3 : TripleG prog 47 [] [] [.nilsl, .int .i64 o_1] [(.row 5 1 (List.map (AV.int .u8) r_1))] (.own 0 ((r_1).length))) an))) ?_
  refine aw_seq (by kernel_rfl) ?_
  refine aw_seq (by kernel_rfl) ?_
  refine aw_region [(1, { n := (slices_1).length })] [6, 25, 26, 27] [0] 1 (vals := [.own 0 ((r_1).length), .sl false 1 (List.map (fun l => AV.sl false 1 (l.map (AV.int .u8))) slices_1), .int .i64 (((slices_1).length : Nat) : Int), .int .i64 (0 : Int)]) (bxs := [.live (.row 5 1 (List.map (AV.int .u8) r_1))]) (by kernel_rfl) hmix (ac (vc_len _ : ((List.map (fun l => AV.sl false 1 (l.map (AV.int .u8))) slices_1)).length = (slices_1).length) an) ?_
  obtain ⟨o_2, h_4, h⟩ := bind_some h
  refine aw_mid (mk [(6, .own 0 ((o_2).length))] [(0, .live (.row 5 1 (List.map (AV.int .u8) o_2)))] 1) ?_ ?_
  · replace h := h_4
    refine aw_block (id := 2) (by kernel_rfl) ?_
    refine aw_sub (sub_wkm [0] [] [.s 6, .s 25, .s 26, .s 27] [.s 0] (sl2 := [(6, .own 0 ((r_1).length)), (25, .sl false 1 (List.map (fun l => AV.sl false 1 (l.map (AV.int .u8))) slices_1)), (26, .int .i64 (((slices_1).length : Nat) : Int)), (27, .int .i64 (0 : Int))]) (bx2 := [(0, .live (.row 5 1 (List.map (AV.int .u8) r_1)))]) (by kernel_rfl) an) ?_
    refine aw_loopF (fun n st => ∃ (v_2 : Int), ∃ (row_1 : List Int), st = mk [(6, .own 0 ((row_1).length)), (25, .sl false 1 (List.map (fun l => AV.sl false 1 (l.map (AV.int .u8))) slices_1)), (26, .int .i64 (((slices_1).length : Nat) : Int)), (27, .int .i64 v_2)] [(0, .live (.row 5 1 (List.map (AV.int .u8) row_1)))] 1 ∧ slices_Concat_byte_byte_L2 F slices_1 n v_2 row_1 = some o_2) F (by kernel_rfl) ⟨_, _, rfl, h⟩ ?_ ?_
    · rintro _ ⟨_, _, _, h⟩; exact none_ne (h : (none : Option (List Int)) = some o_2)
    rintro n_2 _ ⟨v_2, row_1, rfl, h⟩
    replace h : slices_Concat_byte_byte_L2_body F slices_1 (slices_Concat_byte_byte_L2 F slices_1 n_2) v_2 row_1 = some o_2 := h
    unfold slices_Concat_byte_byte_L2_body at h
    refine aw_seq (by kernel_rfl) ?_
    refine aw_region [] [6, 25, 26, 27, 28] [0] 1 (vals := [.own 0 ((row_1).length), .sl false 1 (List.map (fun l => AV.sl false 1 (l.map (AV.int .u8))) slices_1), .int .i64 (((slices_1).length : Nat) : Int), .int .i64 v_2, .bool (decide (v_2 < (((slices_1).length : Nat) : Int)))]) (bxs := [.live (.row 5 1 (List.map (AV.int .u8) row_1))]) (by kernel_rfl) hmix an ?_
    refine aw_seq (by kernel_rfl) ?_
    refine aw_cond (t := 28) (b := (decide (v_2 < (((slices_1).length : Nat) : Int)))) (by kernel_rfl) (by kernel_rfl) ?_ ?_
    rotate_left
    · intro g_3; replace h := cond_f g_3 h
      refine aw_exit (id := 2) (by kernel_rfl) ?_
      replace h := Option.some.inj h; subst h
      exact ⟨rfl, (sub_wkm [0] [] [.s 6] [.s 0] (by kernel_rfl) an)⟩
    intro g_3; replace h := cond_t g_3 h
    refine aw_skip (by kernel_rfl) ?_
    refine aw_seq (by kernel_rfl) ?_
    refine aw_block (id := 3) (by kernel_rfl) ?_
    refine aw_seq (by kernel_rfl) ?_
    obtain ⟨x_2, h_5, h⟩ := bind_some h
    refine aw_region [(0, { av := .sl false 1 (List.map (AV.int .u8) x_2) })] [6, 8, 25, 26, 27] [0] 1 (vals := [.own 0 ((row_1).length), .sl false 1 (List.map (AV.int .u8) x_2), .sl false 1 (List.map (fun l => AV.sl false 1 (l.map (AV.int .u8))) slices_1), .int .i64 (((slices_1).length : Nat) : Int), .int .i64 v_2]) (bxs := [.live (.row 5 1 (List.map (AV.int .u8) row_1))]) (by kernel_rfl) hmix (ac (vc_idx h_5 : idxA (List.map (fun l => AV.sl false 1 (l.map (AV.int .u8))) slices_1) v_2 = some (.sl false 1 (List.map (AV.int .u8) x_2))) an) ?_
    obtain ⟨_, h_6, h⟩ := bind_some h; replace h_6 := need_some h_6
    refine aw_region [(2, { id := 1, l := (List.map (AV.int .u8) (row_1 ++ x_2)), n := ((row_1 ++ x_2)).length })] [6, 25, 26, 27] [1] 2 (vals := [.own 1 (((row_1 ++ x_2)).length), .sl false 1 (List.map (fun l => AV.sl false 1 (l.map (AV.int .u8))) slices_1), .int .i64 (((slices_1).length : Nat) : Int), .int .i64 v_2]) (bxs := [.live (.row 5 1 (List.map (AV.int .u8) (row_1 ++ x_2)))]) (by kernel_rfl) hmix (ac (by first | (simp; done) | (simp; omega) : (row_1).length = ((List.map (AV.int .u8) row_1)).length) (ac (trivial : True) (ac (vc_app _ _ : (List.map (AV.int .u8) (row_1 ++ x_2)) = (List.map (AV.int .u8) row_1) ++ (List.map (AV.int .u8) x_2)) (ac (by simp : ((row_1 ++ x_2)).length = ((List.map (AV.int .u8) (row_1 ++ x_2))).length) (ac (by first | (simp; done) | simpa using h_6 : (((List.map (AV.int .u8) row_1) : List AV).length + ((List.map (AV.int .u8) x_2) : List AV).length) * 1 ≤ 140737488355328) an))))) ?_
    refine aw_region [] [6, 25, 26, 27] [1] 2 (vals := [.own 1 (((row_1 ++ x_2)).length), .sl false 1 (List.map (fun l => AV.sl false 1 (l.map (AV.int .u8))) slices_1), .int .i64 (((slices_1).length : Nat) : Int), .int .i64 (w_i64 (v_2 + (1 : Int)))]) (bxs := [.live (.row 5 1 (List.map (AV.int .u8) (row_1 ++ x_2)))]) (by kernel_rfl) hmix an ?_
    exact ⟨_, (sub_wkm [1] [] [.s 6, .s 25, .s 26, .s 27] [.s 0] (by kernel_rfl) an), _, _, rfl, h⟩
  refine aw_seq (by kernel_rfl) ?_
  refine aw_region [] [2] [0] 1 (vals := [.own 0 ((o_2).length)]) (bxs := [.live (.row 5 1 (List.map (AV.int .u8) o_2))]) (by kernel_rfl) hmix an ?_
  refine aw_sub (sub_wkm [0] [] [.s 2] [.s 0] (sl2 := [(2, .own 0 ((o_2).length))]) (bx2 := [(0, .live (.row 5 1 (List.map (AV.int .u8) o_2)))]) (by kernel_rfl) an) ?_
  refine aw_ret (by kernel_rfl) ?_
  replace h := Option.some.inj h; subst h
  exact ⟨.inr rfl, Nat.le_of_ble_eq_true rfl, by kernel_rfl⟩

theorem column_dictionary_ok (F : Nat) (l_1 : List (T_api_Value)) (r : (List (Int))) (h : column_dictionary F l_1 = some r) : TripleG prog 26 [] [] [.sl false 3 (List.map e_T_api_Value l_1)] [.row 5 1 (List.map (AV.int .u8) r)] (.own 0 ((r).length)) := by
  refine triple_intro (fn := Go.Proofs.Try.f26) (code := codeOf Go.Proofs.Try.f26) (by kernel_rfl) (by kernel_rfl) (Nat.le_of_ble_eq_true (by kernel_rfl)) ?_
  unfold column_dictionary at h
  refine aw_seq (by kernel_rfl) ?_
  refine aw_region [(0, { id := 0, m := 1 })] [0] [] 1 (vals := [.sl false 3 (List.map e_T_api_Value l_1)]) (bxs := []) (by kernel_rfl) hmix an ?_
  refine aw_seq (by kernel_rfl) ?_
  refine aw_region [(0, { id := 1, mag := true, mks := [.int .i64, .int .i64, .str] })] [0, 3] [1] 2 (vals := [.sl false 3 (List.map e_T_api_Value l_1), .mp 1]) (bxs := [.live (.map true [.int .i64, .int .i64, .str] [])]) (by kernel_rfl) hmix an ?_
  refine aw_seq (by kernel_rfl) ?_
  refine aw_region [(0, { id := 2, m := 1 })] [0, 3, 4, 5] [1, 2] 3 (vals := [.sl false 3 (List.map e_T_api_Value l_1), .mp 1, .own 2 0, .nilsl]) (bxs := [.live (.map true [.int .i64, .int .i64, .str] []), .live (.row 5 1 [])]) (by kernel_rfl) hmix an ?_
  refine aw_seq (by kernel_rfl) ?_
  refine aw_seq (by kernel_rfl) ?_
  refine aw_region [(1, { n := (l_1).length })] [3, 4, 5, 11, 12, 13] [1, 2] 3 (vals := [.mp 1, .own 2 0, .nilsl, .sl false 3 (List.map e_T_api_Value l_1), .int .i64 (((l_1).length : Nat) : Int), .int .i64 (0 : Int)]) (bxs := [.live (.map true [.int .i64, .int .i64, .str] []), .live (.row 5 1 [])]) (by kernel_rfl) hmix (ac (vc_len _ : ((List.map e_T_api_Value l_1)).length = (l_1).length) an) ?_
  obtain ⟨o_1, h_1, h⟩ := bind_some h
  refine aw_mid (mk [(3, .mp 0), (4, .own 1 ((o_1.2.2).length)), (5, .sl false 1 (List.map (AV.int .u8) o_1.1))] [(0, .live (.map true [.int .i64, .int .i64, .str] (List.map (mpE e_T_api_Value (AV.int .i64)) o_1.2.1))), (1, .live (.row 5 1 (List.map (AV.int .u8) o_1.2.2)))] 2) ?_ ?_
  · replace h := h_1
    refine aw_block (id := 0) (by kernel_rfl) ?_
    refine aw_sub (sub_wkm [1, 2] [] [.s 3, .s 4, .a 5 (.sl false 1 []), .s 11, .s 12, .s 13] [.s 0, .s 1] (sl2 := [(3, .mp 0), (4, .own 1 0), (5, .sl false 1 []), (11, .sl false 3 (List.map e_T_api_Value l_1)), (12, .int .i64 (((l_1).length : Nat) : Int)), (13, .int .i64 (0 : Int))]) (bx2 := [(0, .live (.map true [.int .i64, .int .i64, .str] [])), (1, .live (.row 5 1 []))]) (by kernel_rfl) (ac (rfl : ([] : List AV) = []) an)) ?_
    refine aw_loopF (fun n st => ∃ (places_1 : List Int), ∃ (v_1 : Int), ∃ (row_1 : List (T_api_Value × Int)), ∃ (row_2 : List Int), st = mk [(3, .mp 0), (4, .own 1 ((row_2).length)), (5, .sl false 1 (List.map (AV.int .u8) places_1)), (11, .sl false 3 (List.map e_T_api_Value l_1)), (12, .int .i64 (((l_1).length : Nat) : Int)), (13, .int .i64 v_1)] [(0, .live (.map true [.int .i64, .int .i64, .str] (List.map (mpE e_T_api_Value (AV.int .i64)) row_1))), (1, .live (.row 5 1 (List.map (AV.int .u8) row_2)))] 2 ∧ column_dictionary_L1 F l_1 n places_1 v_1 row_1 row_2 = some o_1) F (by kernel_rfl) ⟨_, _, _, _, rfl, h⟩ ?_ ?_
    · rintro _ ⟨_, _, _, _, _, h⟩; exact none_ne (h : (none : Option ((List Int) × (List (T_api_Value × Int)) × (List Int))) = some o_1)
    rintro n_1 _ ⟨places_1, v_1, row_1, row_2, rfl, h⟩
    replace h : column_dictionary_L1_body F l_1 (column_dictionary_L1 F l_1 n_1) places_1 v_1 row_1 row_2 = some o_1 := h
    unfold column_dictionary_L1_body at h
    refine aw_seq (by kernel_rfl) ?_
    refine aw_region [] [3, 4, 5, 11, 12, 13, 14] [0, 1] 2 (vals := [.mp 0, .own 1 ((row_2).length), .sl false 1 (List.map (AV.int .u8) places_1), .sl false 3 (List.map e_T_api_Value l_1), .int .i64 (((l_1).length : Nat) : Int), .int .i64 v_1, .bool (decide (v_1 < (((l_1).length : Nat) : Int)))]) (bxs := [.live (.map true [.int .i64, .int .i64, .str] (List.map (mpE e_T_api_Value (AV.int .i64)) row_1)), .live (.row 5 1 (List.map (AV.int .u8) row_2))]) (by kernel_rfl) hmix an ?_
    refine aw_seq (by kernel_rfl) ?_
    refine aw_cond (t := 14) (b := (decide (v_1 < (((l_1).length : Nat) : Int)))) (by kernel_rfl) (by kernel_rfl) ?_ ?_
    rotate_left
    · intro g_1; replace h := cond_f g_1 h
      refine aw_exit (id := 0) (by kernel_rfl) ?_
      replace h := Option.some.inj h; subst h
      exact ⟨rfl, (sub_wkm [0, 1] [] [.s 3, .s 4, .s 5] [.s 0, .s 1] (by kernel_rfl) an)⟩
    intro g_1; replace h := cond_t g_1 h
    refine aw_skip (by kernel_rfl) ?_
    refine aw_seq (by kernel_rfl) ?_
    refine aw_block (id := 1) (by kernel_rfl) ?_
    refine aw_seq (by kernel_rfl) ?_
    obtain ⟨x_1, h_2, h⟩ := bind_some h
    refine aw_region [(0, { av := e_T_api_Value x_1 }), (2, { id := 2 })] [3, 4, 5, 7, 11, 12, 13] [0, 1, 2] 3 (vals := [.mp 0, .own 1 ((row_2).length), .sl false 1 (List.map (AV.int .u8) places_1), .ptr 2 0 0 0, .sl false 3 (List.map e_T_api_Value l_1), .int .i64 (((l_1).length : Nat) : Int), .int .i64 v_1]) (bxs := [.live (.map true [.int .i64, .int .i64, .str] (List.map (mpE e_T_api_Value (AV.int .i64)) row_1)), .live (.row 5 1 (List.map (AV.int .u8) row_2)), .live (.var 24 (v_T_api_Value x_1))]) (by kernel_rfl) hmix (ac (vc_idx h_2 : idxA (List.map e_T_api_Value l_1) v_1 = some (e_T_api_Value x_1)) an) ?_
    refine aw_seq (by kernel_rfl) ?_
    refine aw_region [(2, { av := (.int .i64 ((mget row_1 x_1).getD (0 : Int))), g := (mget row_1 x_1).isSome })] [3, 4, 5, 7, 8, 9, 11, 12, 13] [0, 1, 2] 3 (vals := [.mp 0, .own 1 ((row_2).length), .sl false 1 (List.map (AV.int .u8) places_1), .ptr 2 0 0 0, .int .i64 ((mget row_1 x_1).getD (0 : Int)), .bool ((mget row_1 x_1).isSome), .sl false 3 (List.map e_T_api_Value l_1), .int .i64 (((l_1).length : Nat) : Int), .int .i64 v_1]) (bxs := [.live (.map true [.int .i64, .int .i64, .str] (List.map (mpE e_T_api_Value (AV.int .i64)) row_1)), .live (.row 5 1 (List.map (AV.int .u8) row_2)), .live (.var 24 (v_T_api_Value x_1))]) (by kernel_rfl) hmix (ac (keyOk_24 : KeyOk prog 24 true [.int .i64, .int .i64, .str]) (ac (mlook_map (f := e_T_api_Value) (g := (AV.int .i64)) inj_T_api_Value row_1 x_1 (0 : Int) : MLook (List.map (mpE e_T_api_Value (AV.int .i64)) row_1) (e_T_api_Value x_1) (.int .i64 (0 : Int)) (.int .i64 ((mget row_1 x_1).getD (0 : Int))) (mget row_1 x_1).isSome) an)) ?_
    refine aw_seq (by kernel_rfl) ?_
    refine aw_seq (by kernel_rfl) ?_
    refine aw_region [] [3, 4, 5, 7, 8, 11, 12, 13, 24] [0, 1, 2] 3 (vals := [.mp 0, .own 1 ((row_2).length), .sl false 1 (List.map (AV.int .u8) places_1), .ptr 2 0 0 0, .int .i64 ((mget row_1 x_1).getD (0 : Int)), .sl false 3 (List.map e_T_api_Value l_1), .int .i64 (((l_1).length : Nat) : Int), .int .i64 v_1, .bool (!((mget row_1 x_1).isSome))]) (bxs := [.live (.map true [.int .i64, .int .i64, .str] (List.map (mpE e_T_api_Value (AV.int .i64)) row_1)), .live (.row 5 1 (List.map (AV.int .u8) row_2)), .live (.var 24 (v_T_api_Value x_1))]) (by kernel_rfl) hmix an ?_
    obtain ⟨o_2, h_3, h⟩ := bind_some h
    refine aw_mid (mk [(3, .mp 0), (4, .own 1 ((o_2.2.2).length)), (5, .sl false 1 (List.map (AV.int .u8) places_1)), (8, .int .i64 o_2.1), (11, .sl false 3 (List.map e_T_api_Value l_1)), (12, .int .i64 (((l_1).length : Nat) : Int)), (13, .int .i64 v_1)] [(0, .live (.map true [.int .i64, .int .i64, .str] (List.map (mpE e_T_api_Value (AV.int .i64)) o_2.2.1))), (1, .live (.row 5 1 (List.map (AV.int .u8) o_2.2.2)))] 2) ?_ ?_
    · replace h := h_3
      refine aw_cond (t := 24) (b := (!((mget row_1 x_1).isSome))) (by kernel_rfl) (by kernel_rfl) ?_ ?_
      rotate_left
      · intro g_2; replace h := cond_f g_2 h
        refine aw_skip (by kernel_rfl) ?_
        replace h := Option.some.inj h; subst h
        exact ⟨rfl, (sub_wkm [0, 1] [] [.s 3, .s 4, .s 5, .s 8, .s 11, .s 12, .s 13] [.s 0, .s 1] (by kernel_rfl) an)⟩
      intro g_2; replace h := cond_t g_2 h
      refine aw_seq (by kernel_rfl) ?_
      refine aw_region [(1, { n := (row_1).length })] [3, 4, 5, 7, 8, 11, 12, 13] [0, 1, 2] 3 (vals := [.mp 0, .own 1 ((row_2).length), .sl false 1 (List.map (AV.int .u8) places_1), .ptr 2 0 0 0, .int .i64 (((row_1).length : Nat) : Int), .sl false 3 (List.map e_T_api_Value l_1), .int .i64 (((l_1).length : Nat) : Int), .int .i64 v_1]) (bxs := [.live (.map true [.int .i64, .int .i64, .str] (List.map (mpE e_T_api_Value (AV.int .i64)) row_1)), .live (.row 5 1 (List.map (AV.int .u8) row_2)), .live (.var 24 (v_T_api_Value x_1))]) (by kernel_rfl) hmix (ac (congrArg Nat.cast (List.length_map _) : (((List.map (mpE e_T_api_Value (AV.int .i64)) row_1) : List (AV × AV)).length : Int) = (((row_1).length : Nat) : Int)) an) ?_
      refine aw_seq (by kernel_rfl) ?_
      obtain ⟨_, h_4, h⟩ := bind_some h; replace h_4 := need_some h_4
      refine aw_region [(3, { es := (List.map (mpE e_T_api_Value (AV.int .i64)) (mput row_1 x_1 (((row_1).length : Nat) : Int))) })] [3, 4, 5, 7, 8, 11, 12, 13] [0, 1, 2] 3 (vals := [.mp 0, .own 1 ((row_2).length), .sl false 1 (List.map (AV.int .u8) places_1), .ptr 2 0 0 0, .int .i64 (((row_1).length : Nat) : Int), .sl false 3 (List.map e_T_api_Value l_1), .int .i64 (((l_1).length : Nat) : Int), .int .i64 v_1]) (bxs := [.live (.map true [.int .i64, .int .i64, .str] (List.map (mpE e_T_api_Value (AV.int .i64)) (mput row_1 x_1 (((row_1).length : Nat) : Int)))), .live (.row 5 1 (List.map (AV.int .u8) row_2)), .live (.var 24 (v_T_api_Value x_1))]) (by kernel_rfl) hmix (ac (keyOk_24 : KeyOk prog 24 true [.int .i64, .int .i64, .str]) (ac (mput_map (f := e_T_api_Value) (g := (AV.int .i64)) inj_T_api_Value row_1 x_1 (((row_1).length : Nat) : Int) : MPut (List.map (mpE e_T_api_Value (AV.int .i64)) row_1) (e_T_api_Value x_1) (.int .i64 (((row_1).length : Nat) : Int)) (List.map (mpE e_T_api_Value (AV.int .i64)) (mput row_1 x_1 (((row_1).length : Nat) : Int)))) (ac (mlen_lt (l := row_1) h_4 : ((List.map (mpE e_T_api_Value (AV.int .i64)) row_1) : List (AV × AV)).length < maxLen) an))) ?_
      obtain ⟨r_1, h_5, h⟩ := bind_some h
      refine aw_region [(2, { av := .own 0 ((r_1).length), gids := [1], giv := [(.row 5 1 (List.map (AV.int .u8) row_2))], ids := [3], l := [.own 0 ((row_2).length), e_T_api_Value x_1], post := [(.row 5 1 (List.map (AV.int .u8) r_1))] })] [3, 4, 5, 8, 11, 12, 13] [0, 3] 4 (vals := [.mp 0, .own 3 ((r_1).length), .sl false 1 (List.map (AV.int .u8) places_1), .int .i64 (((row_1).length : Nat) : Int), .sl false 3 (List.map e_T_api_Value l_1), .int .i64 (((l_1).length : Nat) : Int), .int .i64 v_1]) (bxs := [.live (.map true [.int .i64, .int .i64, .str] (List.map (mpE e_T_api_Value (AV.int .i64)) (mput row_1 x_1 (((row_1).length : Nat) : Int)))), .live (.row 5 1 (List.map (AV.int .u8) r_1))]) (by kernel_rfl) hmix (ac (rfl : ([.own 1 ((row_2).length), e_T_api_Value x_1] : List AV) = [.own 1 ((row_2).length), e_T_api_Value x_1]) (ac (rfl : ([.live (.row 5 1 (List.map (AV.int .u8) row_2))] : List BoxSt) = [.live (.row 5 1 (List.map (AV.int .u8) row_2))]) (ac (column_put_ok F row_2 x_1 r_1 h_5 : TripleG prog 34 [] [(.row 5 1 (List.map (AV.int .u8) row_2))] [.own 0 ((row_2).length), e_T_api_Value x_1] [(.row 5 1 (List.map (AV.int .u8) r_1))] (.own 0 ((r_1).length))) an))) ?_
      replace h := Option.some.inj h; subst h
      exact ⟨rfl, (sub_wkm [0, 3] [] [.s 3, .s 4, .s 5, .s 8, .s 11, .s 12, .s 13] [.s 0, .s 1] (by kernel_rfl) an)⟩
    obtain ⟨r_2, h_6, h⟩ := bind_some h
    refine aw_region [(2, { av := .own 0 ((r_2).length), ids := [2], l := [.sl false 1 (List.map (AV.int .u8) places_1), .int .i64 o_2.1], post := [(.row 5 1 (List.map (AV.int .u8) r_2))] })] [3, 4, 5, 11, 12, 13] [0, 1, 2] 3 (vals := [.mp 0, .own 1 ((o_2.2.2).length), .own 2 ((r_2).length), .sl false 3 (List.map e_T_api_Value l_1), .int .i64 (((l_1).length : Nat) : Int), .int .i64 v_1]) (bxs := [.live (.map true [.int .i64, .int .i64, .str] (List.map (mpE e_T_api_Value (AV.int .i64)) o_2.2.1)), .live (.row 5 1 (List.map (AV.int .u8) o_2.2.2)), .live (.row 5 1 (List.map (AV.int .u8) r_2))]) (by kernel_rfl) hmix (ac (rfl : ([.sl false 1 (List.map (AV.int .u8) places_1), .int .i64 o_2.1] : List AV) = [.sl false 1 (List.map (AV.int .u8) places_1), .int .i64 o_2.1]) (ac (rfl : ([] : List BoxSt) = []) (ac (codec_PutInt_ok F places_1 o_2.1 r_2 h_6 : TripleG prog 35 [] [] [.sl false 1 (List.map (AV.int .u8) places_1), .int .i64 o_2.1] [(.row 5 1 (List.map (AV.int .u8) r_2))] (.own 0 ((r_2).length))) an))) ?_
    refine aw_region [] [3, 4, 5, 11, 12, 13] [0, 1, 2] 3 (vals := [.mp 0, .own 1 ((o_2.2.2).length), .own 2 ((r_2).length), .sl false 3 (List.map e_T_api_Value l_1), .int .i64 (((l_1).length : Nat) : Int), .int .i64 (w_i64 (v_1 + (1 : Int)))]) (bxs := [.live (.map true [.int .i64, .int .i64, .str] (List.map (mpE e_T_api_Value (AV.int .i64)) o_2.2.1)), .live (.row 5 1 (List.map (AV.int .u8) o_2.2.2)), .live (.row 5 1 (List.map (AV.int .u8) r_2))]) (by kernel_rfl) hmix an ?_
    exact ⟨_, (Sub.trans (sub_wkm [0, 1] [2] [.s 3, .s 4, .a 5 (.sl false 1 (List.map (AV.int .u8) r_2)), .s 11, .s 12, .s 13] [.s 0, .s 1] (sl2 := [(3, .mp 0), (4, .own 1 ((o_2.2.2).length)), (5, .sl false 1 (List.map (AV.int .u8) r_2)), (11, .sl false 3 (List.map e_T_api_Value l_1)), (12, .int .i64 (((l_1).length : Nat) : Int)), (13, .int .i64 (w_i64 (v_1 + (1 : Int))))]) (bx2 := [(0, .live (.map true [.int .i64, .int .i64, .str] (List.map (mpE e_T_api_Value (AV.int .i64)) o_2.2.1))), (1, .live (.row 5 1 (List.map (AV.int .u8) o_2.2.2)))]) (by kernel_rfl) (ac (by first | (simp; done) | (simp; omega) : (r_2).length = ((List.map (AV.int .u8) r_2)).length) (ac (rfl : 1 = 1) (ac (rfl : ((List.map (AV.int .u8) r_2) : List AV) = (List.map (AV.int .u8) r_2)) (ac (rfl : (!false || false) = true) an))))) (sub_wkm [0, 1] [] [.s 3, .s 4, .s 5, .s 11, .s 12, .s 13] [.s 0, .s 1] (by kernel_rfl) an)), _, _, _, _, rfl, h⟩
  refine aw_seq (by kernel_rfl) ?_
  refine aw_sub (sub_wkm [0] [1] [.s 3, .a 4 (.sl false 1 (List.map (AV.int .u8) o_1.2.2)), .s 5] [.s 0] (sl2 := [(3, .mp 0), (4, .sl false 1 (List.map (AV.int .u8) o_1.2.2)), (5, .sl false 1 (List.map (AV.int .u8) o_1.1))]) (bx2 := [(0, .live (.map true [.int .i64, .int .i64, .str] (List.map (mpE e_T_api_Value (AV.int .i64)) o_1.2.1)))]) (by kernel_rfl) (ac (by first | (simp; done) | (simp; omega) : (o_1.2.2).length = ((List.map (AV.int .u8) o_1.2.2)).length) (ac (rfl : 1 = 1) (ac (rfl : ((List.map (AV.int .u8) o_1.2.2) : List AV) = (List.map (AV.int .u8) o_1.2.2)) (ac (rfl : (!false || false) = true) an))))) ?_
  obtain ⟨r_3, h_7, h⟩ := bind_some h
  obtain ⟨r_4, h_8, h⟩ := bind_some h
  refine aw_region [(1, { n := (o_1.2.1).length }), (2, { av := .own 0 ((r_3).length), ids := [1], l := [.nilsl, .int .i64 (((o_1.2.1).length : Nat) : Int)], post := [(.row 5 1 (List.map (AV.int .u8) r_3))] }), (5, { frz := [1], id := 2 }), (6, { av := .own 0 ((r_4).length), frz := [2], ids := [3], l := [.sl false 1 (List.map (fun l => AV.sl false 1 (l.map (AV.int .u8))) ([r_3, o_1.2.2, o_1.1] : List (List (Int))))], post := [(.row 5 1 (List.map (AV.int .u8) r_4))] })] [2] [3] 4 (vals := [.own 3 ((r_4).length)]) (bxs := [.live (.row 5 1 (List.map (AV.int .u8) r_4))]) (by kernel_rfl) hmix (ac (congrArg Nat.cast (List.length_map _) : (((List.map (mpE e_T_api_Value (AV.int .i64)) o_1.2.1) : List (AV × AV)).length : Int) = (((o_1.2.1).length : Nat) : Int)) (ac (rfl : ([.nilsl, .int .i64 (((o_1.2.1).length : Nat) : Int)] : List AV) = [.nilsl, .int .i64 (((o_1.2.1).length : Nat) : Int)]) (ac (rfl : ([] : List BoxSt) = []) (ac (triple_lo (args' := [.sl false 1 [], .int .i64 (((o_1.2.1).length : Nat) : Int)]) (codec_PutInt_ok F [] (((o_1.2.1).length : Nat) : Int) r_3 h_7) rfl ⟨rfl, rfl, trivial⟩ : TripleG prog 35 [] [] [.nilsl, .int .i64 (((o_1.2.1).length : Nat) : Int)] [(.row 5 1 (List.map (AV.int .u8) r_3))] (.own 0 ((r_3).length))) (ac (by first | (simp; done) | (simp; omega) : (r_3).length = ((List.map (AV.int .u8) r_3)).length) (ac (by first | (simp; done) | (simp; omega) : 3 = ((List.map (fun l => AV.sl false 1 (l.map (AV.int .u8))) ([r_3, o_1.2.2, o_1.1] : List (List (Int))))).length) (ac (rfl : ([.sl false 1 (List.map (fun l => AV.sl false 1 (l.map (AV.int .u8))) ([r_3, o_1.2.2, o_1.1] : List (List (Int))))] : List AV) = [.sl false 1 (List.map (fun l => AV.sl false 1 (l.map (AV.int .u8))) ([r_3, o_1.2.2, o_1.1] : List (List (Int))))]) (ac (rfl : ([] : List BoxSt) = []) (ac (slices_Concat_byte_byte_ok F ([r_3, o_1.2.2, o_1.1] : List (List (Int))) r_4 h_8 : TripleG prog 36 [] [] [.sl false 1 (List.map (fun l => AV.sl false 1 (l.map (AV.int .u8))) ([r_3, o_1.2.2, o_1.1] : List (List (Int))))] [(.row 5 1 (List.map (AV.int .u8) r_4))] (.own 0 ((r_4).length))) an))))))))) ?_
  refine aw_sub (sub_wkm [3] [] [.s 2] [.s 0] (sl2 := [(2, .own 0 ((r_4).length))]) (bx2 := [(0, .live (.row 5 1 (List.map (AV.int .u8) r_4)))]) (by kernel_rfl) an) ?_
  refine aw_ret (by kernel_rfl) ?_
  replace h := Option.some.inj h; subst h
  exact ⟨.inr rfl, Nat.le_of_ble_eq_true rfl, by kernel_rfl⟩

theorem column_Encode_ok (F : Nat) (k_1 : Int) (l_1 : List (T_api_Value)) (r : T_api_Packed × Int) (h : column_Encode F k_1 l_1 = some r) : TripleG prog 12 [] [] [.int .i64 k_1, .sl false 3 (List.map e_T_api_Value l_1)] [] (.tuple [e_T_api_Packed r.1, .int .i64 r.2]) := by
  refine triple_intro (fn := Go.Proofs.Try.f12) (code := codeOf Go.Proofs.Try.f12) (by kernel_rfl) (by kernel_rfl) (Nat.le_of_ble_eq_true (by kernel_rfl)) ?_
  unfold column_Encode at h
  refine aw_seq (by kernel_rfl) ?_
  refine aw_region [(0, { id := 0 })] [0, 1, 4] [0] 1 (vals := [.int .i64 k_1, .sl false 3 (List.map e_T_api_Value l_1), .ptr 0 0 0 0]) (bxs := [.live (.var 33 [.int .i64 (0 : Int), .int .i64 (0 : Int), .nilsl])]) (by kernel_rfl) hmix an ?_
  refine aw_seq (by kernel_rfl) ?_
  refine aw_seq (by kernel_rfl) ?_
  obtain ⟨r_1, h_1, h⟩ := bind_some h
  refine aw_region [(1, { av := .int .i64 r_1, l := [.int .i64 k_1] })] [0, 1, 4, 6] [0] 1 (vals := [.int .i64 k_1, .sl false 3 (List.map e_T_api_Value l_1), .ptr 0 0 0 0, .int .i64 r_1]) (bxs := [.live (.var 33 [.int .i64 (0 : Int), .int .i64 (0 : Int), .nilsl])]) (by kernel_rfl) hmix (ac (rfl : ([.int .i64 k_1] : List AV) = [.int .i64 k_1]) (ac (rfl : ([] : List BoxSt) = []) (ac (column_known_ok k_1 r_1 h_1 : TripleG prog 22 [] [] [.int .i64 k_1] [] (.int .i64 r_1)) an))) ?_
  refine aw_seq (by kernel_rfl) ?_
  refine aw_region [] [0, 1, 4, 6, 19] [0] 1 (vals := [.int .i64 k_1, .sl false 3 (List.map e_T_api_Value l_1), .ptr 0 0 0 0, .int .i64 r_1, .bool (r_1 != (0 : Int))]) (bxs := [.live (.var 33 [.int .i64 (0 : Int), .int .i64 (0 : Int), .nilsl])]) (by kernel_rfl) hmix an ?_
  refine aw_cond (t := 19) (b := (r_1 != (0 : Int))) (by kernel_rfl) (by kernel_rfl) ?_ ?_
  · intro g_1; replace h := cond_t g_1 h
    refine aw_seq (by kernel_rfl) ?_
    refine aw_region [] [4, 5] [0] 1 (vals := [.ptr 0 0 0 0, .int .i64 r_1]) (bxs := [.live (.var 33 [.int .i64 (0 : Int), .int .i64 (0 : Int), .nilsl])]) (by kernel_rfl) hmix an ?_
    refine aw_sub (sub_wkm [0] [] [.s 4, .s 5] [.a 0 (.live (.var 33 (v_T_api_Packed (⟨(0 : Int), (0 : Int), []⟩ : T_api_Packed))))] (sl2 := [(4, .ptr 0 0 0 0), (5, .int .i64 r_1)]) (bx2 := [(0, .live (.var 33 (v_T_api_Packed (⟨(0 : Int), (0 : Int), []⟩ : T_api_Packed))))]) (by kernel_rfl) (ac (rfl : 33 = 33) (ac (rfl : ones [.int .i64 ((⟨(0 : Int), (0 : Int), []⟩ : T_api_Packed).Type_), .int .i64 ((⟨(0 : Int), (0 : Int), []⟩ : T_api_Packed).N), .sl false 1 (List.map (AV.int .u8) ((⟨(0 : Int), (0 : Int), []⟩ : T_api_Packed).Bytes))] = true) (ac (rfl : (.int .i64 (0 : Int) : AV) = .int .i64 ((⟨(0 : Int), (0 : Int), []⟩ : T_api_Packed).Type_)) (ac (rfl : (.int .i64 (0 : Int) : AV) = .int .i64 ((⟨(0 : Int), (0 : Int), []⟩ : T_api_Packed).N)) (ac (rfl : ((List.map (AV.int .u8) ((⟨(0 : Int), (0 : Int), []⟩ : T_api_Packed).Bytes)) : List AV) = []) an)))))) ?_
    refine aw_ret (by kernel_rfl) ?_
    replace h := Option.some.inj h; subst h
    exact ⟨.inr rfl, Nat.le_of_ble_eq_true rfl, by kernel_rfl⟩
  intro g_1; replace h := cond_f g_1 h
  refine aw_skip (by kernel_rfl) ?_
  refine aw_seq (by kernel_rfl) ?_
  refine aw_seq (by kernel_rfl) ?_
  refine aw_region [(1, { n := (l_1).length })] [0, 1, 4, 24] [0] 1 (vals := [.int .i64 k_1, .sl false 3 (List.map e_T_api_Value l_1), .ptr 0 0 0 0, .bool (decide ((((l_1).length : Nat) : Int) > (20000 : Int)))]) (bxs := [.live (.var 33 [.int .i64 (0 : Int), .int .i64 (0 : Int), .nilsl])]) (by kernel_rfl) hmix (ac (vc_len _ : ((List.map e_T_api_Value l_1)).length = (l_1).length) an) ?_
  refine aw_cond (t := 24) (b := (decide ((((l_1).length : Nat) : Int) > (20000 : Int)))) (by kernel_rfl) (by kernel_rfl) ?_ ?_
  · intro g_2; replace h := cond_t g_2 h
    refine aw_seq (by kernel_rfl) ?_
    refine aw_region [] [4, 5] [0] 1 (vals := [.ptr 0 0 0 0, .int .i64 (7 : Int)]) (bxs := [.live (.var 33 [.int .i64 (0 : Int), .int .i64 (0 : Int), .nilsl])]) (by kernel_rfl) hmix an ?_
    refine aw_sub (sub_wkm [0] [] [.s 4, .s 5] [.a 0 (.live (.var 33 (v_T_api_Packed (⟨(0 : Int), (0 : Int), []⟩ : T_api_Packed))))] (sl2 := [(4, .ptr 0 0 0 0), (5, .int .i64 (7 : Int))]) (bx2 := [(0, .live (.var 33 (v_T_api_Packed (⟨(0 : Int), (0 : Int), []⟩ : T_api_Packed))))]) (by kernel_rfl) (ac (rfl : 33 = 33) (ac (rfl : ones [.int .i64 ((⟨(0 : Int), (0 : Int), []⟩ : T_api_Packed).Type_), .int .i64 ((⟨(0 : Int), (0 : Int), []⟩ : T_api_Packed).N), .sl false 1 (List.map (AV.int .u8) ((⟨(0 : Int), (0 : Int), []⟩ : T_api_Packed).Bytes))] = true) (ac (rfl : (.int .i64 (0 : Int) : AV) = .int .i64 ((⟨(0 : Int), (0 : Int), []⟩ : T_api_Packed).Type_)) (ac (rfl : (.int .i64 (0 : Int) : AV) = .int .i64 ((⟨(0 : Int), (0 : Int), []⟩ : T_api_Packed).N)) (ac (rfl : ((List.map (AV.int .u8) ((⟨(0 : Int), (0 : Int), []⟩ : T_api_Packed).Bytes)) : List AV) = []) an)))))) ?_
    refine aw_ret (by kernel_rfl) ?_
    replace h := Option.some.inj h; subst h
    exact ⟨.inr rfl, Nat.le_of_ble_eq_true rfl, by kernel_rfl⟩
  intro g_2; replace h := cond_f g_2 h
  refine aw_skip (by kernel_rfl) ?_
  refine aw_seq (by kernel_rfl) ?_
  refine aw_seq (by kernel_rfl) ?_
  refine aw_region [(1, { n := (l_1).length })] [0, 1, 4, 26, 27, 28] [0] 1 (vals := [.int .i64 k_1, .sl false 3 (List.map e_T_api_Value l_1), .ptr 0 0 0 0, .sl false 3 (List.map e_T_api_Value l_1), .int .i64 (((l_1).length : Nat) : Int), .int .i64 (0 : Int)]) (bxs := [.live (.var 33 [.int .i64 (0 : Int), .int .i64 (0 : Int), .nilsl])]) (by kernel_rfl) hmix (ac (vc_len _ : ((List.map e_T_api_Value l_1)).length = (l_1).length) an) ?_
  obtain ⟨o_1, h_2, h⟩ := bind_some h
  refine aw_conv (K1 := (fun e st' => match o_1 with | (.inl q0) => e = .normal ∧ Sub 0 st' (mk [(0, .int .i64 k_1), (1, .sl false 3 (List.map e_T_api_Value l_1)), (4, .ptr 0 0 0 0)] [(0, .live (.var 33 [.int .i64 (0 : Int), .int .i64 (0 : Int), .nilsl]))] 1) | (.inr q1) => e = .ret ∧ FinR prog Go.Proofs.Try.f12 0 [] (.tuple [e_T_api_Packed q1.1, .int .i64 q1.2]) st')) ?_ ?_
  · replace h := h_2
    refine aw_block (id := 0) (by kernel_rfl) ?_
    refine aw_sub (sub_wkm [0] [] [.s 0, .s 1, .s 4, .s 26, .s 27, .s 28] [.s 0] (sl2 := [(0, .int .i64 k_1), (1, .sl false 3 (List.map e_T_api_Value l_1)), (4, .ptr 0 0 0 0), (26, .sl false 3 (List.map e_T_api_Value l_1)), (27, .int .i64 (((l_1).length : Nat) : Int)), (28, .int .i64 (0 : Int))]) (bx2 := [(0, .live (.var 33 [.int .i64 (0 : Int), .int .i64 (0 : Int), .nilsl]))]) (by kernel_rfl) an) ?_
    refine aw_loopF (fun n st => ∃ (v_1 : Int), st = mk [(0, .int .i64 k_1), (1, .sl false 3 (List.map e_T_api_Value l_1)), (4, .ptr 0 0 0 0), (26, .sl false 3 (List.map e_T_api_Value l_1)), (27, .int .i64 (((l_1).length : Nat) : Int)), (28, .int .i64 v_1)] [(0, .live (.var 33 [.int .i64 (0 : Int), .int .i64 (0 : Int), .nilsl]))] 1 ∧ column_Encode_L1 F k_1 l_1 n v_1 = some o_1) F (by kernel_rfl) ⟨_, rfl, h⟩ ?_ ?_
    · rintro _ ⟨_, _, h⟩; exact none_ne (h : (none : Option (Unit ⊕ (T_api_Packed × Int))) = some o_1)
    rintro n_1 _ ⟨v_1, rfl, h⟩
    replace h : column_Encode_L1_body F k_1 l_1 (column_Encode_L1 F k_1 l_1 n_1) v_1 = some o_1 := h
    unfold column_Encode_L1_body at h
    refine aw_seq (by kernel_rfl) ?_
    refine aw_region [] [0, 1, 4, 26, 27, 28, 29] [0] 1 (vals := [.int .i64 k_1, .sl false 3 (List.map e_T_api_Value l_1), .ptr 0 0 0 0, .sl false 3 (List.map e_T_api_Value l_1), .int .i64 (((l_1).length : Nat) : Int), .int .i64 v_1, .bool (decide (v_1 < (((l_1).length : Nat) : Int)))]) (bxs := [.live (.var 33 [.int .i64 (0 : Int), .int .i64 (0 : Int), .nilsl])]) (by kernel_rfl) hmix an ?_
    refine aw_seq (by kernel_rfl) ?_
    refine aw_cond (t := 29) (b := (decide (v_1 < (((l_1).length : Nat) : Int)))) (by kernel_rfl) (by kernel_rfl) ?_ ?_
    rotate_left
    · intro g_3; replace h := cond_f g_3 h
      refine aw_exit (id := 0) (by kernel_rfl) ?_
      replace h := Option.some.inj h; subst h
      exact ⟨rfl, (sub_wkm [0] [] [.s 0, .s 1, .s 4] [.s 0] (by kernel_rfl) an)⟩
    intro g_3; replace h := cond_t g_3 h
    refine aw_skip (by kernel_rfl) ?_
    refine aw_seq (by kernel_rfl) ?_
    refine aw_block (id := 1) (by kernel_rfl) ?_
    refine aw_seq (by kernel_rfl) ?_
    obtain ⟨x_1, h_3, h⟩ := bind_some h
    refine aw_region [(0, { av := e_T_api_Value x_1 }), (2, { id := 1 })] [0, 1, 4, 8, 26, 27, 28] [0, 1] 2 (vals := [.int .i64 k_1, .sl false 3 (List.map e_T_api_Value l_1), .ptr 0 0 0 0, .ptr 1 0 0 0, .sl false 3 (List.map e_T_api_Value l_1), .int .i64 (((l_1).length : Nat) : Int), .int .i64 v_1]) (bxs := [.live (.var 33 [.int .i64 (0 : Int), .int .i64 (0 : Int), .nilsl]), .live (.var 24 (v_T_api_Value x_1))]) (by kernel_rfl) hmix (ac (vc_idx h_3 : idxA (List.map e_T_api_Value l_1) v_1 = some (e_T_api_Value x_1)) an) ?_
    refine aw_seq (by kernel_rfl) ?_
    obtain ⟨r_2, h_4, h⟩ := bind_some h
    refine aw_region [(2, { av := .int .i64 r_2, l := [.int .i64 k_1, e_T_api_Value x_1] })] [0, 1, 4, 9, 26, 27, 28] [0] 2 (vals := [.int .i64 k_1, .sl false 3 (List.map e_T_api_Value l_1), .ptr 0 0 0 0, .int .i64 r_2, .sl false 3 (List.map e_T_api_Value l_1), .int .i64 (((l_1).length : Nat) : Int), .int .i64 v_1]) (bxs := [.live (.var 33 [.int .i64 (0 : Int), .int .i64 (0 : Int), .nilsl])]) (by kernel_rfl) hmix (ac (rfl : ([.int .i64 k_1, e_T_api_Value x_1] : List AV) = [.int .i64 k_1, e_T_api_Value x_1]) (ac (rfl : ([] : List BoxSt) = []) (ac (column_Value_ok k_1 x_1 r_2 h_4 : TripleG prog 8 [] [] [.int .i64 k_1, e_T_api_Value x_1] [] (.int .i64 r_2)) an))) ?_
    refine aw_seq (by kernel_rfl) ?_
    refine aw_region [] [0, 1, 4, 9, 26, 27, 28, 36] [0] 2 (vals := [.int .i64 k_1, .sl false 3 (List.map e_T_api_Value l_1), .ptr 0 0 0 0, .int .i64 r_2, .sl false 3 (List.map e_T_api_Value l_1), .int .i64 (((l_1).length : Nat) : Int), .int .i64 v_1, .bool (r_2 != (0 : Int))]) (bxs := [.live (.var 33 [.int .i64 (0 : Int), .int .i64 (0 : Int), .nilsl])]) (by kernel_rfl) hmix an ?_
    refine aw_cond (t := 36) (b := (r_2 != (0 : Int))) (by kernel_rfl) (by kernel_rfl) ?_ ?_
    rotate_left
    · intro g_4; replace h := cond_f g_4 h
      refine aw_skip (by kernel_rfl) ?_
      refine aw_region [] [0, 1, 4, 26, 27, 28] [0] 2 (vals := [.int .i64 k_1, .sl false 3 (List.map e_T_api_Value l_1), .ptr 0 0 0 0, .sl false 3 (List.map e_T_api_Value l_1), .int .i64 (((l_1).length : Nat) : Int), .int .i64 (w_i64 (v_1 + (1 : Int)))]) (bxs := [.live (.var 33 [.int .i64 (0 : Int), .int .i64 (0 : Int), .nilsl])]) (by kernel_rfl) hmix an ?_
      exact ⟨_, (sub_wkm [0] [] [.s 0, .s 1, .s 4, .s 26, .s 27, .s 28] [.s 0] (by kernel_rfl) an), _, rfl, h⟩
    intro g_4; replace h := cond_t g_4 h
    refine aw_seq (by kernel_rfl) ?_
    refine aw_region [] [4, 5] [0] 2 (vals := [.ptr 0 0 0 0, .int .i64 r_2]) (bxs := [.live (.var 33 [.int .i64 (0 : Int), .int .i64 (0 : Int), .nilsl])]) (by kernel_rfl) hmix an ?_
    refine aw_sub (sub_wkm [0] [] [.s 4, .s 5] [.a 0 (.live (.var 33 (v_T_api_Packed (⟨(0 : Int), (0 : Int), []⟩ : T_api_Packed))))] (sl2 := [(4, .ptr 0 0 0 0), (5, .int .i64 r_2)]) (bx2 := [(0, .live (.var 33 (v_T_api_Packed (⟨(0 : Int), (0 : Int), []⟩ : T_api_Packed))))]) (by kernel_rfl) (ac (rfl : 33 = 33) (ac (rfl : ones [.int .i64 ((⟨(0 : Int), (0 : Int), []⟩ : T_api_Packed).Type_), .int .i64 ((⟨(0 : Int), (0 : Int), []⟩ : T_api_Packed).N), .sl false 1 (List.map (AV.int .u8) ((⟨(0 : Int), (0 : Int), []⟩ : T_api_Packed).Bytes))] = true) (ac (rfl : (.int .i64 (0 : Int) : AV) = .int .i64 ((⟨(0 : Int), (0 : Int), []⟩ : T_api_Packed).Type_)) (ac (rfl : (.int .i64 (0 : Int) : AV) = .int .i64 ((⟨(0 : Int), (0 : Int), []⟩ : T_api_Packed).N)) (ac (rfl : ((List.map (AV.int .u8) ((⟨(0 : Int), (0 : Int), []⟩ : T_api_Packed).Bytes)) : List AV) = []) an)))))) ?_
    refine aw_ret (by kernel_rfl) ?_
    replace h := Option.some.inj h; subst h
    exact ⟨rfl, Nat.le_of_ble_eq_true rfl, by kernel_rfl⟩
  intro e st1 hk
  rcases o_1 with q_1 | q_2
  rotate_left
  · obtain ⟨rfl, hf⟩ := hk
    replace h := Option.some.inj h; subst h
    exact ⟨st1, Sub.refl _ _, .inr rfl, hf⟩
  obtain ⟨rfl, hs⟩ := hk
  refine ⟨_, hs, ?_⟩
  refine aw_seq (by kernel_rfl) ?_
  obtain ⟨r_3, h_5, h⟩ := bind_some h
  refine aw_region [(1, { av := .own 0 ((r_3).length), ids := [1], l := [.sl false 3 (List.map e_T_api_Value l_1)], post := [(.row 5 1 (List.map (AV.int .u8) r_3))] })] [0, 1, 4, 10, 11] [0, 1] 2 (vals := [.int .i64 k_1, .sl false 3 (List.map e_T_api_Value l_1), .ptr 0 0 0 0, .own 1 ((r_3).length), .int .i64 (0 : Int)]) (bxs := [.live (.var 33 [.int .i64 (0 : Int), .int .i64 (0 : Int), .nilsl]), .live (.row 5 1 (List.map (AV.int .u8) r_3))]) (by kernel_rfl) hmix (ac (rfl : ([.sl false 3 (List.map e_T_api_Value l_1)] : List AV) = [.sl false 3 (List.map e_T_api_Value l_1)]) (ac (rfl : ([] : List BoxSt) = []) (ac (column_plain_ok F l_1 r_3 h_5 : TripleG prog 23 [] [] [.sl false 3 (List.map e_T_api_Value l_1)] [(.row 5 1 (List.map (AV.int .u8) r_3))] (.own 0 ((r_3).length))) an))) ?_
  refine aw_seq (by kernel_rfl) ?_
  refine aw_seq (by kernel_rfl) ?_
  obtain ⟨r_4, h_6, h⟩ := bind_some h
  refine aw_region [(1, { av := .sl false 1 (List.map (AV.int .u8) r_4), l := [.sl false 3 (List.map e_T_api_Value l_1)] })] [0, 1, 4, 10, 11, 12] [0, 1] 2 (vals := [.int .i64 k_1, .sl false 3 (List.map e_T_api_Value l_1), .ptr 0 0 0 0, .own 1 ((r_3).length), .int .i64 (0 : Int), .sl false 1 (List.map (AV.int .u8) r_4)]) (bxs := [.live (.var 33 [.int .i64 (0 : Int), .int .i64 (0 : Int), .nilsl]), .live (.row 5 1 (List.map (AV.int .u8) r_3))]) (by kernel_rfl) hmix (ac (rfl : ([.sl false 3 (List.map e_T_api_Value l_1)] : List AV) = [.sl false 3 (List.map e_T_api_Value l_1)]) (ac (rfl : ([] : List BoxSt) = []) (ac (column_runs_ok F l_1 r_4 h_6 : TripleG prog 24 [] [] [.sl false 3 (List.map e_T_api_Value l_1)] [] (.sl false 1 (List.map (AV.int .u8) r_4))) an))) ?_
  refine aw_seq (by kernel_rfl) ?_
  refine aw_region [(1, { n := (r_4).length })] [0, 1, 4, 10, 11, 12, 48] [0, 1] 2 (vals := [.int .i64 k_1, .sl false 3 (List.map e_T_api_Value l_1), .ptr 0 0 0 0, .own 1 ((r_3).length), .int .i64 (0 : Int), .sl false 1 (List.map (AV.int .u8) r_4), .bool (decide ((((r_4).length : Nat) : Int) < (((r_3).length : Nat) : Int)))]) (bxs := [.live (.var 33 [.int .i64 (0 : Int), .int .i64 (0 : Int), .nilsl]), .live (.row 5 1 (List.map (AV.int .u8) r_3))]) (by kernel_rfl) hmix (ac (vc_len _ : ((List.map (AV.int .u8) r_4)).length = (r_4).length) an) ?_
  obtain ⟨o_2, h_7, h⟩ := bind_some h
  refine aw_mid (mk [(0, .int .i64 k_1), (1, .sl false 3 (List.map e_T_api_Value l_1)), (4, .ptr 0 0 0 0), (10, .sl false 1 (List.map (AV.int .u8) o_2.1)), (11, .int .i64 o_2.2)] [(0, .live (.var 33 [.int .i64 (0 : Int), .int .i64 (0 : Int), .nilsl]))] 1) ?_ ?_
  · replace h := h_7
    refine aw_cond (t := 48) (b := (decide ((((r_4).length : Nat) : Int) < (((r_3).length : Nat) : Int)))) (by kernel_rfl) (by kernel_rfl) ?_ ?_
    · intro g_5; replace h := cond_t g_5 h
      refine aw_region [] [0, 1, 4, 10, 11] [0] 2 (vals := [.int .i64 k_1, .sl false 3 (List.map e_T_api_Value l_1), .ptr 0 0 0 0, .sl false 1 (List.map (AV.int .u8) r_4), .int .i64 (1 : Int)]) (bxs := [.live (.var 33 [.int .i64 (0 : Int), .int .i64 (0 : Int), .nilsl])]) (by kernel_rfl) hmix an ?_
      replace h := Option.some.inj h; subst h
      exact ⟨rfl, (sub_wkm [0] [] [.s 0, .s 1, .s 4, .s 10, .s 11] [.s 0] (by kernel_rfl) an)⟩
    intro g_5; replace h := cond_f g_5 h
    refine aw_skip (by kernel_rfl) ?_
    replace h := Option.some.inj h; subst h
    exact ⟨rfl, (Sub.trans (sub_wkm [0] [1] [.s 0, .s 1, .s 4, .a 10 (.sl false 1 (List.map (AV.int .u8) r_3)), .s 11, .s 12, .s 48] [.s 0] (sl2 := [(0, .int .i64 k_1), (1, .sl false 3 (List.map e_T_api_Value l_1)), (4, .ptr 0 0 0 0), (10, .sl false 1 (List.map (AV.int .u8) r_3)), (11, .int .i64 (0 : Int)), (12, .sl false 1 (List.map (AV.int .u8) r_4)), (48, .bool (decide ((((r_4).length : Nat) : Int) < (((r_3).length : Nat) : Int))))]) (bx2 := [(0, .live (.var 33 [.int .i64 (0 : Int), .int .i64 (0 : Int), .nilsl]))]) (by kernel_rfl) (ac (by first | (simp; done) | (simp; omega) : (r_3).length = ((List.map (AV.int .u8) r_3)).length) (ac (rfl : 1 = 1) (ac (rfl : ((List.map (AV.int .u8) r_3) : List AV) = (List.map (AV.int .u8) r_3)) (ac (rfl : (!false || false) = true) an))))) (sub_wkm [0] [] [.s 0, .s 1, .s 4, .s 10, .s 11] [.s 0] (by kernel_rfl) an))⟩
  refine aw_seq (by kernel_rfl) ?_
  refine aw_seq (by kernel_rfl) ?_
  obtain ⟨r_5, h_8, h⟩ := bind_some h
  refine aw_region [(2, { av := .tuple [.sl false 1 (List.map (AV.int .u8) r_5.1), .bool r_5.2], l := [.int .i64 k_1, .sl false 3 (List.map e_T_api_Value l_1)] })] [0, 1, 4, 10, 11, 13, 14] [0] 1 (vals := [.int .i64 k_1, .sl false 3 (List.map e_T_api_Value l_1), .ptr 0 0 0 0, .sl false 1 (List.map (AV.int .u8) o_2.1), .int .i64 o_2.2, .sl false 1 (List.map (AV.int .u8) r_5.1), .bool r_5.2]) (bxs := [.live (.var 33 [.int .i64 (0 : Int), .int .i64 (0 : Int), .nilsl])]) (by kernel_rfl) hmix (ac (rfl : ([.int .i64 k_1, .sl false 3 (List.map e_T_api_Value l_1)] : List AV) = [.int .i64 k_1, .sl false 3 (List.map e_T_api_Value l_1)]) (ac (rfl : ([] : List BoxSt) = []) (ac (column_differences_ok F k_1 l_1 r_5 h_8 : TripleG prog 25 [] [] [.int .i64 k_1, .sl false 3 (List.map e_T_api_Value l_1)] [] (.tuple [.sl false 1 (List.map (AV.int .u8) r_5.1), .bool r_5.2])) an))) ?_
  refine aw_seq (by kernel_rfl) ?_
  refine aw_mid (mk [(0, .int .i64 k_1), (1, .sl false 3 (List.map e_T_api_Value l_1)), (4, .ptr 0 0 0 0), (10, .sl false 1 (List.map (AV.int .u8) o_2.1)), (11, .int .i64 o_2.2), (13, .sl false 1 (List.map (AV.int .u8) r_5.1)), (63, .bool (r_5.2 && decide ((((r_5.1).length : Nat) : Int) < (((o_2.1).length : Nat) : Int))))] [(0, .live (.var 33 [.int .i64 (0 : Int), .int .i64 (0 : Int), .nilsl]))] 1) ?_ ?_
  · rcases Bool.eq_false_or_eq_true r_5.2 with gg_1 | gg_1
    · refine aw_region [(3, { n := (r_5.1).length }), (5, { n := (o_2.1).length }), (7, { b := true })] [0, 1, 4, 10, 11, 13, 63] [0] 1 (vals := [.int .i64 k_1, .sl false 3 (List.map e_T_api_Value l_1), .ptr 0 0 0 0, .sl false 1 (List.map (AV.int .u8) o_2.1), .int .i64 o_2.2, .sl false 1 (List.map (AV.int .u8) r_5.1), .bool (decide ((((r_5.1).length : Nat) : Int) < (((o_2.1).length : Nat) : Int)))]) (bxs := [.live (.var 33 [.int .i64 (0 : Int), .int .i64 (0 : Int), .nilsl])]) (by kernel_rfl) hmix (ac gg_1 (ac gg_1 (ac (vc_len _ : ((List.map (AV.int .u8) r_5.1)).length = (r_5.1).length) (ac gg_1 (ac gg_1 (ac (vc_len _ : ((List.map (AV.int .u8) o_2.1)).length = (o_2.1).length) (ac gg_1 (ac gg_1 an)))))))) ?_
      exact ⟨rfl, (sub_wkm [0] [] [.s 0, .s 1, .s 4, .s 10, .s 11, .s 13, .a 63 (.bool (r_5.2 && decide ((((r_5.1).length : Nat) : Int) < (((o_2.1).length : Nat) : Int))))] [.s 0] (by kernel_rfl) (ac (congrArg AV.bool (andt gg_1 rfl) : (.bool (decide ((((r_5.1).length : Nat) : Int) < (((o_2.1).length : Nat) : Int))) : AV) = .bool (r_5.2 && decide ((((r_5.1).length : Nat) : Int) < (((o_2.1).length : Nat) : Int)))) an))⟩
    · refine aw_region [(2, { g := false }), (3, { g := false }), (4, { g := false }), (5, { g := false }), (6, { g := false }), (7, { b := false })] [0, 1, 4, 10, 11, 13, 63] [0] 1 (vals := [.int .i64 k_1, .sl false 3 (List.map e_T_api_Value l_1), .ptr 0 0 0 0, .sl false 1 (List.map (AV.int .u8) o_2.1), .int .i64 o_2.2, .sl false 1 (List.map (AV.int .u8) r_5.1), .bool false]) (bxs := [.live (.var 33 [.int .i64 (0 : Int), .int .i64 (0 : Int), .nilsl])]) (by kernel_rfl) hmix (ac gg_1 (ac gg_1 (ac gg_1 (ac gg_1 (ac gg_1 (ac gg_1 an)))))) ?_
      exact ⟨rfl, (sub_wkm [0] [] [.s 0, .s 1, .s 4, .s 10, .s 11, .s 13, .a 63 (.bool (r_5.2 && decide ((((r_5.1).length : Nat) : Int) < (((o_2.1).length : Nat) : Int))))] [.s 0] (by kernel_rfl) (ac (congrArg AV.bool (andf gg_1) : (.bool false : AV) = .bool (r_5.2 && decide ((((r_5.1).length : Nat) : Int) < (((o_2.1).length : Nat) : Int)))) an))⟩
  obtain ⟨o_3, h_9, h⟩ := bind_some h
  refine aw_mid (mk [(0, .int .i64 k_1), (1, .sl false 3 (List.map e_T_api_Value l_1)), (4, .ptr 0 0 0 0), (10, .sl false 1 (List.map (AV.int .u8) o_3.1)), (11, .int .i64 o_3.2)] [(0, .live (.var 33 [.int .i64 (0 : Int), .int .i64 (0 : Int), .nilsl]))] 1) ?_ ?_
  · replace h := h_9
    refine aw_cond (t := 63) (b := (r_5.2 && decide ((((r_5.1).length : Nat) : Int) < (((o_2.1).length : Nat) : Int)))) (by kernel_rfl) (by kernel_rfl) ?_ ?_
    · intro g_6; replace h := cond_t g_6 h
      refine aw_region [] [0, 1, 4, 10, 11] [0] 1 (vals := [.int .i64 k_1, .sl false 3 (List.map e_T_api_Value l_1), .ptr 0 0 0 0, .sl false 1 (List.map (AV.int .u8) r_5.1), .int .i64 (2 : Int)]) (bxs := [.live (.var 33 [.int .i64 (0 : Int), .int .i64 (0 : Int), .nilsl])]) (by kernel_rfl) hmix an ?_
      replace h := Option.some.inj h; subst h
      exact ⟨rfl, (sub_wkm [0] [] [.s 0, .s 1, .s 4, .s 10, .s 11] [.s 0] (by kernel_rfl) an)⟩
    intro g_6; replace h := cond_f g_6 h
    refine aw_skip (by kernel_rfl) ?_
    replace h := Option.some.inj h; subst h
    exact ⟨rfl, (sub_wkm [0] [] [.s 0, .s 1, .s 4, .s 10, .s 11] [.s 0] (by kernel_rfl) an)⟩
  refine aw_seq (by kernel_rfl) ?_
  refine aw_seq (by kernel_rfl) ?_
  obtain ⟨r_6, h_10, h⟩ := bind_some h
  refine aw_region [(1, { av := .own 0 ((r_6).length), ids := [1], l := [.sl false 3 (List.map e_T_api_Value l_1)], post := [(.row 5 1 (List.map (AV.int .u8) r_6))] })] [0, 1, 4, 10, 11, 15] [0, 1] 2 (vals := [.int .i64 k_1, .sl false 3 (List.map e_T_api_Value l_1), .ptr 0 0 0 0, .sl false 1 (List.map (AV.int .u8) o_3.1), .int .i64 o_3.2, .own 1 ((r_6).length)]) (bxs := [.live (.var 33 [.int .i64 (0 : Int), .int .i64 (0 : Int), .nilsl]), .live (.row 5 1 (List.map (AV.int .u8) r_6))]) (by kernel_rfl) hmix (ac (rfl : ([.sl false 3 (List.map e_T_api_Value l_1)] : List AV) = [.sl false 3 (List.map e_T_api_Value l_1)]) (ac (rfl : ([] : List BoxSt) = []) (ac (column_dictionary_ok F l_1 r_6 h_10 : TripleG prog 26 [] [] [.sl false 3 (List.map e_T_api_Value l_1)] [(.row 5 1 (List.map (AV.int .u8) r_6))] (.own 0 ((r_6).length))) an))) ?_
  refine aw_seq (by kernel_rfl) ?_
  refine aw_region [(3, { n := (o_3.1).length })] [0, 1, 4, 10, 11, 15, 71] [0, 1] 2 (vals := [.int .i64 k_1, .sl false 3 (List.map e_T_api_Value l_1), .ptr 0 0 0 0, .sl false 1 (List.map (AV.int .u8) o_3.1), .int .i64 o_3.2, .own 1 ((r_6).length), .bool (decide ((((r_6).length : Nat) : Int) < (((o_3.1).length : Nat) : Int)))]) (bxs := [.live (.var 33 [.int .i64 (0 : Int), .int .i64 (0 : Int), .nilsl]), .live (.row 5 1 (List.map (AV.int .u8) r_6))]) (by kernel_rfl) hmix (ac (vc_len _ : ((List.map (AV.int .u8) o_3.1)).length = (o_3.1).length) an) ?_
  obtain ⟨o_4, h_11, h⟩ := bind_some h
  refine aw_mid (mk [(0, .int .i64 k_1), (1, .sl false 3 (List.map e_T_api_Value l_1)), (4, .ptr 0 0 0 0), (10, .sl false 1 (List.map (AV.int .u8) o_4.1)), (11, .int .i64 o_4.2)] [(0, .live (.var 33 [.int .i64 (0 : Int), .int .i64 (0 : Int), .nilsl]))] 1) ?_ ?_
  · replace h := h_11
    refine aw_cond (t := 71) (b := (decide ((((r_6).length : Nat) : Int) < (((o_3.1).length : Nat) : Int)))) (by kernel_rfl) (by kernel_rfl) ?_ ?_
    · intro g_7; replace h := cond_t g_7 h
      refine aw_region [] [0, 1, 4, 10, 11] [0, 1] 2 (vals := [.int .i64 k_1, .sl false 3 (List.map e_T_api_Value l_1), .ptr 0 0 0 0, .own 1 ((r_6).length), .int .i64 (3 : Int)]) (bxs := [.live (.var 33 [.int .i64 (0 : Int), .int .i64 (0 : Int), .nilsl]), .live (.row 5 1 (List.map (AV.int .u8) r_6))]) (by kernel_rfl) hmix an ?_
      replace h := Option.some.inj h; subst h
      exact ⟨rfl, (Sub.trans (sub_wkm [0] [1] [.s 0, .s 1, .s 4, .a 10 (.sl false 1 (List.map (AV.int .u8) r_6)), .s 11] [.s 0] (sl2 := [(0, .int .i64 k_1), (1, .sl false 3 (List.map e_T_api_Value l_1)), (4, .ptr 0 0 0 0), (10, .sl false 1 (List.map (AV.int .u8) r_6)), (11, .int .i64 (3 : Int))]) (bx2 := [(0, .live (.var 33 [.int .i64 (0 : Int), .int .i64 (0 : Int), .nilsl]))]) (by kernel_rfl) (ac (by first | (simp; done) | (simp; omega) : (r_6).length = ((List.map (AV.int .u8) r_6)).length) (ac (rfl : 1 = 1) (ac (rfl : ((List.map (AV.int .u8) r_6) : List AV) = (List.map (AV.int .u8) r_6)) (ac (rfl : (!false || false) = true) an))))) (sub_wkm [0] [] [.s 0, .s 1, .s 4, .s 10, .s 11] [.s 0] (by kernel_rfl) an))⟩
    intro g_7; replace h := cond_f g_7 h
    refine aw_skip (by kernel_rfl) ?_
    replace h := Option.some.inj h; subst h
    exact ⟨rfl, (sub_wkm [0] [] [.s 0, .s 1, .s 4, .s 10, .s 11] [.s 0] (by kernel_rfl) an)⟩
  refine aw_seq (by kernel_rfl) ?_
  obtain ⟨_, h_12, h⟩ := bind_some h; replace h_12 := need_some h_12
  refine aw_region [(2, { n := (l_1).length }), (5, { id := 1 }), (7, { id := 2, l := (List.map (AV.int .u8) (([w_u8 o_4.2] : List Int) ++ o_4.1)), n := ((([w_u8 o_4.2] : List Int) ++ o_4.1)).length })] [4, 5] [0, 2] 3 (vals := [.ptr 0 0 0 0, .int .i64 (0 : Int)]) (bxs := [.live (.var 33 [.int .i64 k_1, .int .i64 (((l_1).length : Nat) : Int), .own 2 (((([w_u8 o_4.2] : List Int) ++ o_4.1)).length)]), .live (.row 5 1 (List.map (AV.int .u8) (([w_u8 o_4.2] : List Int) ++ o_4.1)))]) (by kernel_rfl) hmix (ac (vc_len _ : ((List.map e_T_api_Value l_1)).length = (l_1).length) (ac (by first | (simp; done) | (simp; omega) : 1 = ((List.map (AV.int .u8) ([w_u8 o_4.2] : List Int))).length) (ac (trivial : True) (ac (vc_app _ _ : (List.map (AV.int .u8) (([w_u8 o_4.2] : List Int) ++ o_4.1)) = (List.map (AV.int .u8) ([w_u8 o_4.2] : List Int)) ++ (List.map (AV.int .u8) o_4.1)) (ac (by simp : ((([w_u8 o_4.2] : List Int) ++ o_4.1)).length = ((List.map (AV.int .u8) (([w_u8 o_4.2] : List Int) ++ o_4.1))).length) (ac (by first | (simp; done) | simpa using h_12 : (((List.map (AV.int .u8) ([w_u8 o_4.2] : List Int)) : List AV).length + ((List.map (AV.int .u8) o_4.1) : List AV).length) * 1 ≤ 140737488355328) an)))))) ?_
  refine aw_sub (sub_wkm [0] [2] [.s 4, .s 5] [.a 0 (.live (.var 33 (v_T_api_Packed (⟨k_1, (((l_1).length : Nat) : Int), (([w_u8 o_4.2] : List Int) ++ o_4.1)⟩ : T_api_Packed))))] (sl2 := [(4, .ptr 0 0 0 0), (5, .int .i64 (0 : Int))]) (bx2 := [(0, .live (.var 33 (v_T_api_Packed (⟨k_1, (((l_1).length : Nat) : Int), (([w_u8 o_4.2] : List Int) ++ o_4.1)⟩ : T_api_Packed))))]) (by kernel_rfl) (ac (rfl : 33 = 33) (ac (rfl : ones [.int .i64 ((⟨k_1, (((l_1).length : Nat) : Int), (([w_u8 o_4.2] : List Int) ++ o_4.1)⟩ : T_api_Packed).Type_), .int .i64 ((⟨k_1, (((l_1).length : Nat) : Int), (([w_u8 o_4.2] : List Int) ++ o_4.1)⟩ : T_api_Packed).N), .sl false 1 (List.map (AV.int .u8) ((⟨k_1, (((l_1).length : Nat) : Int), (([w_u8 o_4.2] : List Int) ++ o_4.1)⟩ : T_api_Packed).Bytes))] = true) (ac (by first | (simp; done) | (simp; omega) : ((([w_u8 o_4.2] : List Int) ++ o_4.1)).length = ((List.map (AV.int .u8) (([w_u8 o_4.2] : List Int) ++ o_4.1))).length) (ac (rfl : (.int .i64 k_1 : AV) = .int .i64 ((⟨k_1, (((l_1).length : Nat) : Int), (([w_u8 o_4.2] : List Int) ++ o_4.1)⟩ : T_api_Packed).Type_)) (ac (rfl : (.int .i64 (((l_1).length : Nat) : Int) : AV) = .int .i64 ((⟨k_1, (((l_1).length : Nat) : Int), (([w_u8 o_4.2] : List Int) ++ o_4.1)⟩ : T_api_Packed).N)) (ac (rfl : 1 = 1) (ac (rfl : ((List.map (AV.int .u8) (([w_u8 o_4.2] : List Int) ++ o_4.1)) : List AV) = (List.map (AV.int .u8) ((⟨k_1, (((l_1).length : Nat) : Int), (([w_u8 o_4.2] : List Int) ++ o_4.1)⟩ : T_api_Packed).Bytes))) (ac (rfl : (!false || false) = true) an))))))))) ?_
  refine aw_ret (by kernel_rfl) ?_
  replace h := Option.some.inj h; subst h
  exact ⟨.inr rfl, Nat.le_of_ble_eq_true rfl, by kernel_rfl⟩

theorem codec_integer_ok (u_1 : Int) (r : Int) (h : codec_integer u_1 = some r) : TripleG prog 55 [] [] [.int .u64 u_1] [] (.int .i64 r) := by
  refine triple_intro (fn := Go.Proofs.Try.f55) (code := codeOf Go.Proofs.Try.f55) (by kernel_rfl) (by kernel_rfl) (Nat.le_of_ble_eq_true (by kernel_rfl)) ?_
  unfold codec_integer at h
  refine aw_seq (by kernel_rfl) ?_
  refine aw_region [] [0] [] 0 (vals := [.int .u64 u_1]) (bxs := []) (by kernel_rfl) hmix an ?_
  refine aw_seq (by kernel_rfl) ?_
  refine aw_region [] [2] [] 0 (vals := [.int .i64 (ixor .i64 (w_i64 (ishr .u64 u_1 (1 : Int))) (w_i64 (0 - (w_i64 (iand .u64 u_1 (1 : Int))))))]) (bxs := []) (by kernel_rfl) hmix (ac (by decide : (0 : Int) ≤ (1 : Int)) an) ?_
  refine aw_ret (by kernel_rfl) ?_
  replace h := Option.some.inj h; subst h
  exact ⟨.inr rfl, Nat.le_of_ble_eq_true rfl, by kernel_rfl⟩

theorem codec_Int_ok (F : Nat) (b_1 : List (Int)) (r : Int × Int × Int) (h : codec_Int F b_1 = some r) : TripleG prog 51 [] [] [.sl false 1 (List.map (AV.int .u8) b_1)] [] (.tuple [.int .i64 r.1, .int .i64 r.2.1, .int .i64 r.2.2]) := by
  refine triple_intro (fn := Go.Proofs.Try.f51) (code := codeOf Go.Proofs.Try.f51) (by kernel_rfl) (by kernel_rfl) (Nat.le_of_ble_eq_true (by kernel_rfl)) ?_
  unfold codec_Int at h
  refine aw_seq (by kernel_rfl) ?_
  refine aw_region [] [0] [] 0 (vals := [.sl false 1 (List.map (AV.int .u8) b_1)]) (bxs := []) (by kernel_rfl) hmix an ?_
  refine aw_seq (by kernel_rfl) ?_
  refine aw_region [] [0, 5] [] 0 (vals := [.sl false 1 (List.map (AV.int .u8) b_1), .int .u64 (0 : Int)]) (bxs := []) (by kernel_rfl) hmix an ?_
  refine aw_seq (by kernel_rfl) ?_
  refine aw_seq (by kernel_rfl) ?_
  refine aw_region [(1, { n := (b_1).length })] [5, 8, 9, 10] [] 0 (vals := [.int .u64 (0 : Int), .sl false 1 (List.map (AV.int .u8) b_1), .int .i64 (((b_1).length : Nat) : Int), .int .i64 (0 : Int)]) (bxs := []) (by kernel_rfl) hmix (ac (vc_len _ : ((List.map (AV.int .u8) b_1)).length = (b_1).length) an) ?_
  obtain ⟨o_1, h_1, h⟩ := bind_some h
  refine aw_conv (K1 := (fun e st' => match o_1 with | (.inl q0) => e = .normal ∧ Sub 0 st' (mk [] [] 0) | (.inr q1) => e = .ret ∧ FinR prog Go.Proofs.Try.f51 0 [] (.tuple [.int .i64 q1.1, .int .i64 q1.2.1, .int .i64 q1.2.2]) st')) ?_ ?_
  · replace h := h_1
    refine aw_block (id := 0) (by kernel_rfl) ?_
    refine aw_sub (sub_wkm [] [] [.s 5, .s 8, .s 9, .s 10] [] (sl2 := [(5, .int .u64 (0 : Int)), (8, .sl false 1 (List.map (AV.int .u8) b_1)), (9, .int .i64 (((b_1).length : Nat) : Int)), (10, .int .i64 (0 : Int))]) (bx2 := []) (by kernel_rfl) an) ?_
    refine aw_loopF (fun n st => ∃ (u_1 : Int), ∃ (v_1 : Int), st = mk [(5, .int .u64 u_1), (8, .sl false 1 (List.map (AV.int .u8) b_1)), (9, .int .i64 (((b_1).length : Nat) : Int)), (10, .int .i64 v_1)] [] 0 ∧ codec_Int_L1 F b_1 n u_1 v_1 = some o_1) F (by kernel_rfl) ⟨_, _, rfl, h⟩ ?_ ?_
    · rintro _ ⟨_, _, _, h⟩; exact none_ne (h : (none : Option (Unit ⊕ (Int × Int × Int))) = some o_1)
    rintro n_1 _ ⟨u_1, v_1, rfl, h⟩
    replace h : codec_Int_L1_body F b_1 (codec_Int_L1 F b_1 n_1) u_1 v_1 = some o_1 := h
    unfold codec_Int_L1_body at h
    refine aw_seq (by kernel_rfl) ?_
    refine aw_region [] [5, 8, 9, 10, 11] [] 0 (vals := [.int .u64 u_1, .sl false 1 (List.map (AV.int .u8) b_1), .int .i64 (((b_1).length : Nat) : Int), .int .i64 v_1, .bool (decide (v_1 < (((b_1).length : Nat) : Int)))]) (bxs := []) (by kernel_rfl) hmix an ?_
    refine aw_seq (by kernel_rfl) ?_
    refine aw_cond (t := 11) (b := (decide (v_1 < (((b_1).length : Nat) : Int)))) (by kernel_rfl) (by kernel_rfl) ?_ ?_
    rotate_left
    · intro g_1; replace h := cond_f g_1 h
      refine aw_exit (id := 0) (by kernel_rfl) ?_
      replace h := Option.some.inj h; subst h
      exact ⟨rfl, (sub_wkm [] [] [] [] (by kernel_rfl) an)⟩
    intro g_1; replace h := cond_t g_1 h
    refine aw_skip (by kernel_rfl) ?_
    refine aw_seq (by kernel_rfl) ?_
    refine aw_block (id := 1) (by kernel_rfl) ?_
    refine aw_seq (by kernel_rfl) ?_
    obtain ⟨x_1, h_2, h⟩ := bind_some h
    refine aw_region [(1, { av := .int .u8 x_1 })] [5, 6, 7, 8, 9, 10] [] 0 (vals := [.int .u64 u_1, .int .i64 v_1, .int .u8 x_1, .sl false 1 (List.map (AV.int .u8) b_1), .int .i64 (((b_1).length : Nat) : Int), .int .i64 v_1]) (bxs := []) (by kernel_rfl) hmix (ac (vc_idx h_2 : idxA (List.map (AV.int .u8) b_1) v_1 = some (.int .u8 x_1)) an) ?_
    refine aw_seq (by kernel_rfl) ?_
    refine aw_seq (by kernel_rfl) ?_
    refine aw_mid (mk [(5, .int .u64 u_1), (6, .int .i64 v_1), (7, .int .u8 x_1), (8, .sl false 1 (List.map (AV.int .u8) b_1)), (9, .int .i64 (((b_1).length : Nat) : Int)), (10, .int .i64 v_1), (20, .bool ((v_1 == (9 : Int)) && decide (x_1 > (1 : Int))))] [] 0) ?_ ?_
    · rcases Bool.eq_false_or_eq_true (v_1 == (9 : Int)) with gg_7 | gg_7
      · refine aw_region [(5, { b := true })] [5, 6, 7, 8, 9, 10, 18, 19, 20] [] 0 (vals := [.int .u64 u_1, .int .i64 v_1, .int .u8 x_1, .sl false 1 (List.map (AV.int .u8) b_1), .int .i64 (((b_1).length : Nat) : Int), .int .i64 v_1, .int .u8 x_1, .bool (decide (x_1 > (1 : Int))), .bool (decide (x_1 > (1 : Int)))]) (bxs := []) (by kernel_rfl) hmix (ac gg_7 (ac gg_7 (ac gg_7 an))) ?_
        exact ⟨rfl, (sub_wkm [] [] [.s 5, .s 6, .s 7, .s 8, .s 9, .s 10, .a 20 (.bool ((v_1 == (9 : Int)) && decide (x_1 > (1 : Int))))] [] (by kernel_rfl) (ac (congrArg AV.bool (andt gg_7 rfl) : (.bool (decide (x_1 > (1 : Int))) : AV) = .bool ((v_1 == (9 : Int)) && decide (x_1 > (1 : Int)))) an))⟩
      · refine aw_region [(3, { g := false }), (4, { g := false }), (5, { b := false })] [5, 6, 7, 8, 9, 10, 18, 19, 20] [] 0 (vals := [.int .u64 u_1, .int .i64 v_1, .int .u8 x_1, .sl false 1 (List.map (AV.int .u8) b_1), .int .i64 (((b_1).length : Nat) : Int), .int .i64 v_1, .tuple [], .tuple [], .bool false]) (bxs := []) (by kernel_rfl) hmix (ac gg_7 (ac gg_7 (ac gg_7 an))) ?_
        exact ⟨rfl, (sub_wkm [] [] [.s 5, .s 6, .s 7, .s 8, .s 9, .s 10, .a 20 (.bool ((v_1 == (9 : Int)) && decide (x_1 > (1 : Int))))] [] (by kernel_rfl) (ac (congrArg AV.bool (andf gg_7) : (.bool false : AV) = .bool ((v_1 == (9 : Int)) && decide (x_1 > (1 : Int)))) an))⟩
    refine aw_cond (t := 20) (b := ((v_1 == (9 : Int)) && decide (x_1 > (1 : Int)))) (by kernel_rfl) (by kernel_rfl) ?_ ?_
    · intro g_2; replace h := cond_t g_2 h
      refine aw_seq (by kernel_rfl) ?_
      refine aw_region [] [2, 3, 4] [] 0 (vals := [.int .i64 (0 : Int), .int .i64 (0 : Int), .int .i64 (10 : Int)]) (bxs := []) (by kernel_rfl) hmix an ?_
      refine aw_ret (by kernel_rfl) ?_
      replace h := Option.some.inj h; subst h
      exact ⟨rfl, Nat.le_of_ble_eq_true rfl, by kernel_rfl⟩
    intro g_2; replace h := cond_f g_2 h
    refine aw_skip (by kernel_rfl) ?_
    refine aw_seq (by kernel_rfl) ?_
    obtain ⟨_, h_3, h⟩ := bind_some h; replace h_3 := need_some h_3
    refine aw_region [] [5, 6, 7, 8, 9, 10] [] 0 (vals := [.int .u64 (ior .u64 u_1 (ishl .u64 (w_u64 (iand .u8 x_1 (127 : Int))) (w_i64 ((7 : Int) * v_1)))), .int .i64 v_1, .int .u8 x_1, .sl false 1 (List.map (AV.int .u8) b_1), .int .i64 (((b_1).length : Nat) : Int), .int .i64 v_1]) (bxs := []) (by kernel_rfl) hmix (ac h_3 an) ?_
    refine aw_seq (by kernel_rfl) ?_
    refine aw_seq (by kernel_rfl) ?_
    refine aw_region [] [5, 6, 7, 8, 9, 10, 30] [] 0 (vals := [.int .u64 (ior .u64 u_1 (ishl .u64 (w_u64 (iand .u8 x_1 (127 : Int))) (w_i64 ((7 : Int) * v_1)))), .int .i64 v_1, .int .u8 x_1, .sl false 1 (List.map (AV.int .u8) b_1), .int .i64 (((b_1).length : Nat) : Int), .int .i64 v_1, .bool (decide (x_1 ≥ (128 : Int)))]) (bxs := []) (by kernel_rfl) hmix an ?_
    refine aw_cond (t := 30) (b := (decide (x_1 ≥ (128 : Int)))) (by kernel_rfl) (by kernel_rfl) ?_ ?_
    · intro g_3; replace h := cond_t g_3 h
      refine aw_exit (id := 1) (by kernel_rfl) ?_
      refine aw_region [] [5, 8, 9, 10] [] 0 (vals := [.int .u64 (ior .u64 u_1 (ishl .u64 (w_u64 (iand .u8 x_1 (127 : Int))) (w_i64 ((7 : Int) * v_1)))), .sl false 1 (List.map (AV.int .u8) b_1), .int .i64 (((b_1).length : Nat) : Int), .int .i64 (w_i64 (v_1 + (1 : Int)))]) (bxs := []) (by kernel_rfl) hmix an ?_
      exact ⟨_, (sub_wkm [] [] [.s 5, .s 8, .s 9, .s 10] [] (by kernel_rfl) an), _, _, rfl, h⟩
    intro g_3; replace h := cond_f g_3 h
    refine aw_skip (by kernel_rfl) ?_
    refine aw_seq (by kernel_rfl) ?_
    refine aw_seq (by kernel_rfl) ?_
    refine aw_mid (mk [(5, .int .u64 (ior .u64 u_1 (ishl .u64 (w_u64 (iand .u8 x_1 (127 : Int))) (w_i64 ((7 : Int) * v_1))))), (6, .int .i64 v_1), (36, .bool ((x_1 == (0 : Int)) && decide (v_1 > (0 : Int))))] [] 0) ?_ ?_
    · rcases Bool.eq_false_or_eq_true (x_1 == (0 : Int)) with gg_8 | gg_8
      · refine aw_region [(5, { b := true })] [5, 6, 36] [] 0 (vals := [.int .u64 (ior .u64 u_1 (ishl .u64 (w_u64 (iand .u8 x_1 (127 : Int))) (w_i64 ((7 : Int) * v_1)))), .int .i64 v_1, .bool (decide (v_1 > (0 : Int)))]) (bxs := []) (by kernel_rfl) hmix (ac gg_8 (ac gg_8 (ac gg_8 an))) ?_
        exact ⟨rfl, (sub_wkm [] [] [.s 5, .s 6, .a 36 (.bool ((x_1 == (0 : Int)) && decide (v_1 > (0 : Int))))] [] (by kernel_rfl) (ac (congrArg AV.bool (andt gg_8 rfl) : (.bool (decide (v_1 > (0 : Int))) : AV) = .bool ((x_1 == (0 : Int)) && decide (v_1 > (0 : Int)))) an))⟩
      · refine aw_region [(3, { g := false }), (4, { g := false }), (5, { b := false })] [5, 6, 36] [] 0 (vals := [.int .u64 (ior .u64 u_1 (ishl .u64 (w_u64 (iand .u8 x_1 (127 : Int))) (w_i64 ((7 : Int) * v_1)))), .int .i64 v_1, .bool false]) (bxs := []) (by kernel_rfl) hmix (ac gg_8 (ac gg_8 (ac gg_8 an))) ?_
        exact ⟨rfl, (sub_wkm [] [] [.s 5, .s 6, .a 36 (.bool ((x_1 == (0 : Int)) && decide (v_1 > (0 : Int))))] [] (by kernel_rfl) (ac (congrArg AV.bool (andf gg_8) : (.bool false : AV) = .bool ((x_1 == (0 : Int)) && decide (v_1 > (0 : Int)))) an))⟩
    refine aw_cond (t := 36) (b := ((x_1 == (0 : Int)) && decide (v_1 > (0 : Int)))) (by kernel_rfl) (by kernel_rfl) ?_ ?_
    · intro g_4; replace h := cond_t g_4 h
      refine aw_seq (by kernel_rfl) ?_
      refine aw_region [] [2, 3, 4] [] 0 (vals := [.int .i64 (0 : Int), .int .i64 (0 : Int), .int .i64 (10 : Int)]) (bxs := []) (by kernel_rfl) hmix an ?_
      refine aw_ret (by kernel_rfl) ?_
      replace h := Option.some.inj h; subst h
      exact ⟨rfl, Nat.le_of_ble_eq_true rfl, by kernel_rfl⟩
    intro g_4; replace h := cond_f g_4 h
    refine aw_skip (by kernel_rfl) ?_
    refine aw_seq (by kernel_rfl) ?_
    obtain ⟨r_1, h_4, h⟩ := bind_some h
    refine aw_region [(1, { av := .int .i64 r_1, l := [.int .u64 (ior .u64 u_1 (ishl .u64 (w_u64 (iand .u8 x_1 (127 : Int))) (w_i64 ((7 : Int) * v_1))))] })] [2, 3, 4] [] 0 (vals := [.int .i64 r_1, .int .i64 (w_i64 (v_1 + (1 : Int))), .int .i64 (0 : Int)]) (bxs := []) (by kernel_rfl) hmix (ac (rfl : ([.int .u64 (ior .u64 u_1 (ishl .u64 (w_u64 (iand .u8 x_1 (127 : Int))) (w_i64 ((7 : Int) * v_1))))] : List AV) = [.int .u64 (ior .u64 u_1 (ishl .u64 (w_u64 (iand .u8 x_1 (127 : Int))) (w_i64 ((7 : Int) * v_1))))]) (ac (rfl : ([] : List BoxSt) = []) (ac (codec_integer_ok (ior .u64 u_1 (ishl .u64 (w_u64 (iand .u8 x_1 (127 : Int))) (w_i64 ((7 : Int) * v_1)))) r_1 h_4 : TripleG prog 55 [] [] [.int .u64 (ior .u64 u_1 (ishl .u64 (w_u64 (iand .u8 x_1 (127 : Int))) (w_i64 ((7 : Int) * v_1))))] [] (.int .i64 r_1)) an))) ?_
    refine aw_ret (by kernel_rfl) ?_
    replace h := Option.some.inj h; subst h
    exact ⟨rfl, Nat.le_of_ble_eq_true rfl, by kernel_rfl⟩
  intro e st1 hk
  rcases o_1 with q_1 | q_2
  rotate_left
  · obtain ⟨rfl, hf⟩ := hk
    replace h := Option.some.inj h; subst h
    exact ⟨st1, Sub.refl _ _, .inr rfl, hf⟩
  obtain ⟨rfl, hs⟩ := hk
  refine ⟨_, hs, ?_⟩
  refine aw_seq (by kernel_rfl) ?_
  refine aw_region [] [2, 3, 4] [] 0 (vals := [.int .i64 (0 : Int), .int .i64 (0 : Int), .int .i64 (8 : Int)]) (bxs := []) (by kernel_rfl) hmix an ?_
  refine aw_ret (by kernel_rfl) ?_
  replace h := Option.some.inj h; subst h
  exact ⟨.inr rfl, Nat.le_of_ble_eq_true rfl, by kernel_rfl⟩

theorem column_input_num_ok (F : Nat) (x_1 : T_column_input) (r : Int × T_column_input) (h : column_input_num F x_1 = some r) : TripleG prog 41 [(.var 53 (v_T_column_input x_1))] [] [.ptr 0 0 0 0] [(.var 53 (v_T_column_input r.2))] (.int .i64 r.1) := by
  refine triple_intro (fn := Go.Proofs.Try.f41) (code := codeOf Go.Proofs.Try.f41) (by kernel_rfl) (by kernel_rfl) (Nat.le_of_ble_eq_true (by kernel_rfl)) ?_
  unfold column_input_num at h
  refine aw_seq (by kernel_rfl) ?_
  refine aw_region [] [0] [0] 1 (vals := [.ptr 0 0 0 0]) (bxs := [.live (.var 53 (v_T_column_input x_1))]) (by kernel_rfl) hmix an ?_
  refine aw_seq (by kernel_rfl) ?_
  obtain ⟨r_1, h_1, h⟩ := bind_some h
  refine aw_region [(4, { av := .tuple [.int .i64 r_1.1, .int .i64 r_1.2.1, .int .i64 r_1.2.2], l := [.sl false 1 (List.map (AV.int .u8) x_1.b)] })] [0, 3, 4, 5] [0] 1 (vals := [.ptr 0 0 0 0, .int .i64 r_1.1, .int .i64 r_1.2.1, .int .i64 r_1.2.2]) (bxs := [.live (.var 53 (v_T_column_input x_1))]) (by kernel_rfl) hmix (ac (rfl : ([.sl false 1 (List.map (AV.int .u8) x_1.b)] : List AV) = [.sl false 1 (List.map (AV.int .u8) x_1.b)]) (ac (rfl : ([] : List BoxSt) = []) (ac (codec_Int_ok F x_1.b r_1 h_1 : TripleG prog 51 [] [] [.sl false 1 (List.map (AV.int .u8) x_1.b)] [] (.tuple [.int .i64 r_1.1, .int .i64 r_1.2.1, .int .i64 r_1.2.2])) an))) ?_
  refine aw_seq (by kernel_rfl) ?_
  refine aw_seq (by kernel_rfl) ?_
  refine aw_region [] [0, 3, 4, 16] [0] 1 (vals := [.ptr 0 0 0 0, .int .i64 r_1.1, .int .i64 r_1.2.1, .bool (r_1.2.2 != (0 : Int))]) (bxs := [.live (.var 53 (v_T_column_input x_1))]) (by kernel_rfl) hmix an ?_
  refine aw_cond (t := 16) (b := (r_1.2.2 != (0 : Int))) (by kernel_rfl) (by kernel_rfl) ?_ ?_
  · intro g_1; replace h := cond_t g_1 h
    refine aw_seq (by kernel_rfl) ?_
    refine aw_region [] [] [0] 1 (vals := []) (bxs := [.live (.var 53 [.sl false 1 (List.map (AV.int .u8) x_1.b), .bool true])]) (by kernel_rfl) hmix an ?_
    refine aw_seq (by kernel_rfl) ?_
    refine aw_region [] [2] [0] 1 (vals := [.int .i64 (0 : Int)]) (bxs := [.live (.var 53 [.sl false 1 (List.map (AV.int .u8) x_1.b), .bool true])]) (by kernel_rfl) hmix an ?_
    refine aw_sub (sub_wkm [0] [] [.s 2] [.a 0 (.live (.var 53 (v_T_column_input (⟨x_1.b, true⟩ : T_column_input))))] (sl2 := [(2, .int .i64 (0 : Int))]) (bx2 := [(0, .live (.var 53 (v_T_column_input (⟨x_1.b, true⟩ : T_column_input))))]) (by kernel_rfl) (ac (rfl : 53 = 53) (ac (rfl : ones [.sl false 1 (List.map (AV.int .u8) ((⟨x_1.b, true⟩ : T_column_input).b)), .bool ((⟨x_1.b, true⟩ : T_column_input).bad)] = true) (ac (rfl : 1 = 1) (ac (rfl : ((List.map (AV.int .u8) x_1.b) : List AV) = (List.map (AV.int .u8) ((⟨x_1.b, true⟩ : T_column_input).b))) (ac (rfl : (!false || false) = true) (ac (rfl : (.bool true : AV) = .bool ((⟨x_1.b, true⟩ : T_column_input).bad)) an))))))) ?_
    refine aw_ret (by kernel_rfl) ?_
    replace h := Option.some.inj h; subst h
    exact ⟨.inr rfl, Nat.le_of_ble_eq_true rfl, by kernel_rfl⟩
  intro g_1; replace h := cond_f g_1 h
  refine aw_skip (by kernel_rfl) ?_
  refine aw_seq (by kernel_rfl) ?_
  obtain ⟨_, h_2, h⟩ := bind_some h; replace h_2 := need_some h_2
  refine aw_region [(6, { l := (List.map (AV.int .u8) (sub x_1.b r_1.2.1 (((x_1.b).length : Nat) : Int))) })] [3] [0] 1 (vals := [.int .i64 r_1.1]) (bxs := [.live (.var 53 [.sl false 1 (List.map (AV.int .u8) (sub x_1.b r_1.2.1 (((x_1.b).length : Nat) : Int))), .bool x_1.bad])]) (by kernel_rfl) hmix (ac h_2.1 (ac (vc_lenle h_2.2 : r_1.2.1 ≤ ((((List.map (AV.int .u8) x_1.b)).length : Nat) : Int)) (ac (Int.le_refl _ : ((((List.map (AV.int .u8) x_1.b)).length : Nat) : Int) ≤ ((((List.map (AV.int .u8) x_1.b)).length : Nat) : Int)) (ac (vc_subn _ _ : (List.map (AV.int .u8) (sub x_1.b r_1.2.1 (((x_1.b).length : Nat) : Int))) = (((List.map (AV.int .u8) x_1.b)).take (((((List.map (AV.int .u8) x_1.b)).length : Nat) : Int)).toNat).drop (r_1.2.1).toNat) an)))) ?_
  refine aw_seq (by kernel_rfl) ?_
  refine aw_region [] [2] [0] 1 (vals := [.int .i64 r_1.1]) (bxs := [.live (.var 53 [.sl false 1 (List.map (AV.int .u8) (sub x_1.b r_1.2.1 (((x_1.b).length : Nat) : Int))), .bool x_1.bad])]) (by kernel_rfl) hmix an ?_
  refine aw_sub (sub_wkm [0] [] [.s 2] [.a 0 (.live (.var 53 (v_T_column_input (⟨sub x_1.b r_1.2.1 (((x_1.b).length : Nat) : Int), x_1.bad⟩ : T_column_input))))] (sl2 := [(2, .int .i64 r_1.1)]) (bx2 := [(0, .live (.var 53 (v_T_column_input (⟨sub x_1.b r_1.2.1 (((x_1.b).length : Nat) : Int), x_1.bad⟩ : T_column_input))))]) (by kernel_rfl) (ac (rfl : 53 = 53) (ac (rfl : ones [.sl false 1 (List.map (AV.int .u8) ((⟨sub x_1.b r_1.2.1 (((x_1.b).length : Nat) : Int), x_1.bad⟩ : T_column_input).b)), .bool ((⟨sub x_1.b r_1.2.1 (((x_1.b).length : Nat) : Int), x_1.bad⟩ : T_column_input).bad)] = true) (ac (rfl : 1 = 1) (ac (rfl : ((List.map (AV.int .u8) (sub x_1.b r_1.2.1 (((x_1.b).length : Nat) : Int))) : List AV) = (List.map (AV.int .u8) ((⟨sub x_1.b r_1.2.1 (((x_1.b).length : Nat) : Int), x_1.bad⟩ : T_column_input).b))) (ac (rfl : (!false || false) = true) (ac (rfl : (.bool x_1.bad : AV) = .bool ((⟨sub x_1.b r_1.2.1 (((x_1.b).length : Nat) : Int), x_1.bad⟩ : T_column_input).bad)) an))))))) ?_
  refine aw_ret (by kernel_rfl) ?_
  replace h := Option.some.inj h; subst h
  exact ⟨.inr rfl, Nat.le_of_ble_eq_true rfl, by kernel_rfl⟩

theorem codec_Text_ok (F : Nat) (b_1 : List (Int)) (most_1 : Int) (r : (List Int) × Int × Int) (h : codec_Text F b_1 most_1 = some r) : TripleG prog 50 [] [] [.sl false 1 (List.map (AV.int .u8) b_1), .int .i64 most_1] [] (.tuple [.str r.1, .int .i64 r.2.1, .int .i64 r.2.2]) := by
  refine triple_intro (fn := Go.Proofs.Try.f50) (code := codeOf Go.Proofs.Try.f50) (by kernel_rfl) (by kernel_rfl) (Nat.le_of_ble_eq_true (by kernel_rfl)) ?_
  unfold codec_Text at h
  refine aw_seq (by kernel_rfl) ?_
  refine aw_region [] [0, 1] [] 0 (vals := [.sl false 1 (List.map (AV.int .u8) b_1), .int .i64 most_1]) (bxs := []) (by kernel_rfl) hmix an ?_
  refine aw_seq (by kernel_rfl) ?_
  obtain ⟨r_1, h_1, h⟩ := bind_some h
  refine aw_region [(1, { av := .tuple [.int .i64 r_1.1, .int .i64 r_1.2.1, .int .i64 r_1.2.2], l := [.sl false 1 (List.map (AV.int .u8) b_1)] })] [0, 1, 7, 8, 9] [] 0 (vals := [.sl false 1 (List.map (AV.int .u8) b_1), .int .i64 most_1, .int .i64 r_1.1, .int .i64 r_1.2.1, .int .i64 r_1.2.2]) (bxs := []) (by kernel_rfl) hmix (ac (rfl : ([.sl false 1 (List.map (AV.int .u8) b_1)] : List AV) = [.sl false 1 (List.map (AV.int .u8) b_1)]) (ac (rfl : ([] : List BoxSt) = []) (ac (codec_Int_ok F b_1 r_1 h_1 : TripleG prog 51 [] [] [.sl false 1 (List.map (AV.int .u8) b_1)] [] (.tuple [.int .i64 r_1.1, .int .i64 r_1.2.1, .int .i64 r_1.2.2])) an))) ?_
  refine aw_seq (by kernel_rfl) ?_
  refine aw_block (id := 0) (by kernel_rfl) ?_
  refine aw_seq (by kernel_rfl) ?_
  refine aw_region [] [0, 1, 7, 8, 9, 16] [] 0 (vals := [.sl false 1 (List.map (AV.int .u8) b_1), .int .i64 most_1, .int .i64 r_1.1, .int .i64 r_1.2.1, .int .i64 r_1.2.2, .bool (r_1.2.2 != (0 : Int))]) (bxs := []) (by kernel_rfl) hmix an ?_
  refine aw_cond (t := 16) (b := (r_1.2.2 != (0 : Int))) (by kernel_rfl) (by kernel_rfl) ?_ ?_
  · intro g_1; replace h := cond_t g_1 h
    refine aw_seq (by kernel_rfl) ?_
    refine aw_region [] [4, 5, 6] [] 0 (vals := [.str ([] : List Int), .int .i64 (0 : Int), .int .i64 r_1.2.2]) (bxs := []) (by kernel_rfl) hmix an ?_
    refine aw_ret (by kernel_rfl) ?_
    replace h := Option.some.inj h; subst h
    exact ⟨.inr rfl, Nat.le_of_ble_eq_true rfl, by kernel_rfl⟩
  intro g_1; replace h := cond_f g_1 h
  refine aw_seq (by kernel_rfl) ?_
  refine aw_region [] [0, 1, 7, 8, 20] [] 0 (vals := [.sl false 1 (List.map (AV.int .u8) b_1), .int .i64 most_1, .int .i64 r_1.1, .int .i64 r_1.2.1, .bool (decide (r_1.1 < (0 : Int)))]) (bxs := []) (by kernel_rfl) hmix an ?_
  refine aw_cond (t := 20) (b := (decide (r_1.1 < (0 : Int)))) (by kernel_rfl) (by kernel_rfl) ?_ ?_
  · intro g_2; replace h := cond_t g_2 h
    refine aw_seq (by kernel_rfl) ?_
    refine aw_region [] [4, 5, 6] [] 0 (vals := [.str ([] : List Int), .int .i64 (0 : Int), .int .i64 (10 : Int)]) (bxs := []) (by kernel_rfl) hmix an ?_
    refine aw_ret (by kernel_rfl) ?_
    replace h := Option.some.inj h; subst h
    exact ⟨.inr rfl, Nat.le_of_ble_eq_true rfl, by kernel_rfl⟩
  intro g_2; replace h := cond_f g_2 h
  refine aw_seq (by kernel_rfl) ?_
  refine aw_region [] [0, 7, 8, 23] [] 0 (vals := [.sl false 1 (List.map (AV.int .u8) b_1), .int .i64 r_1.1, .int .i64 r_1.2.1, .bool (decide (r_1.1 > most_1))]) (bxs := []) (by kernel_rfl) hmix an ?_
  refine aw_cond (t := 23) (b := (decide (r_1.1 > most_1))) (by kernel_rfl) (by kernel_rfl) ?_ ?_
  · intro g_3; replace h := cond_t g_3 h
    refine aw_seq (by kernel_rfl) ?_
    refine aw_region [] [4, 5, 6] [] 0 (vals := [.str ([] : List Int), .int .i64 (0 : Int), .int .i64 (7 : Int)]) (bxs := []) (by kernel_rfl) hmix an ?_
    refine aw_ret (by kernel_rfl) ?_
    replace h := Option.some.inj h; subst h
    exact ⟨.inr rfl, Nat.le_of_ble_eq_true rfl, by kernel_rfl⟩
  intro g_3; replace h := cond_f g_3 h
  refine aw_seq (by kernel_rfl) ?_
  refine aw_region [(2, { n := (b_1).length })] [0, 7, 8, 27] [] 0 (vals := [.sl false 1 (List.map (AV.int .u8) b_1), .int .i64 r_1.1, .int .i64 r_1.2.1, .bool (decide (r_1.1 > (w_i64 ((((b_1).length : Nat) : Int) - r_1.2.1))))]) (bxs := []) (by kernel_rfl) hmix (ac (vc_len _ : ((List.map (AV.int .u8) b_1)).length = (b_1).length) an) ?_
  refine aw_cond (t := 27) (b := (decide (r_1.1 > (w_i64 ((((b_1).length : Nat) : Int) - r_1.2.1))))) (by kernel_rfl) (by kernel_rfl) ?_ ?_
  · intro g_4; replace h := cond_t g_4 h
    refine aw_seq (by kernel_rfl) ?_
    refine aw_region [] [4, 5, 6] [] 0 (vals := [.str ([] : List Int), .int .i64 (0 : Int), .int .i64 (8 : Int)]) (bxs := []) (by kernel_rfl) hmix an ?_
    refine aw_ret (by kernel_rfl) ?_
    replace h := Option.some.inj h; subst h
    exact ⟨.inr rfl, Nat.le_of_ble_eq_true rfl, by kernel_rfl⟩
  intro g_4; replace h := cond_f g_4 h
  refine aw_skip (by kernel_rfl) ?_
  refine aw_seq (by kernel_rfl) ?_
  obtain ⟨_, h_2, h⟩ := bind_some h; replace h_2 := need_some h_2
  refine aw_region [(5, { l := (List.map (AV.int .u8) (sub b_1 r_1.2.1 (w_i64 (r_1.2.1 + r_1.1)))) }), (6, { s := sub b_1 r_1.2.1 (w_i64 (r_1.2.1 + r_1.1)) })] [4, 5, 6] [] 0 (vals := [.str (sub b_1 r_1.2.1 (w_i64 (r_1.2.1 + r_1.1))), .int .i64 (w_i64 (r_1.2.1 + r_1.1)), .int .i64 (0 : Int)]) (bxs := []) (by kernel_rfl) hmix (ac h_2.1 (ac h_2.2.1 (ac (vc_lenle h_2.2.2 : (w_i64 (r_1.2.1 + r_1.1)) ≤ ((((List.map (AV.int .u8) b_1)).length : Nat) : Int)) (ac (vc_sub _ _ _ : (List.map (AV.int .u8) (sub b_1 r_1.2.1 (w_i64 (r_1.2.1 + r_1.1)))) = (((List.map (AV.int .u8) b_1)).take (w_i64 (r_1.2.1 + r_1.1)).toNat).drop (r_1.2.1).toNat) (ac (rfl : (List.map (AV.int .u8) (sub b_1 r_1.2.1 (w_i64 (r_1.2.1 + r_1.1)))) = List.map (AV.int .u8) (sub b_1 r_1.2.1 (w_i64 (r_1.2.1 + r_1.1)))) an))))) ?_
  refine aw_ret (by kernel_rfl) ?_
  replace h := Option.some.inj h; subst h
  exact ⟨.inr rfl, Nat.le_of_ble_eq_true rfl, by kernel_rfl⟩

theorem column_input_value_ok (F : Nat) (x_1 : T_column_input) (r : T_api_Value × T_column_input) (h : column_input_value F x_1 = some r) : TripleG prog 40 [(.var 53 (v_T_column_input x_1))] [] [.ptr 0 0 0 0] [(.var 53 (v_T_column_input r.2))] (e_T_api_Value r.1) := by
  refine triple_intro (fn := Go.Proofs.Try.f40) (code := codeOf Go.Proofs.Try.f40) (by kernel_rfl) (by kernel_rfl) (Nat.le_of_ble_eq_true (by kernel_rfl)) ?_
  unfold column_input_value at h
  refine aw_seq (by kernel_rfl) ?_
  refine aw_region [(0, { id := 1 })] [0, 2] [0, 1] 2 (vals := [.ptr 0 0 0 0, .ptr 1 0 0 0]) (bxs := [.live (.var 53 (v_T_column_input x_1)), .live (.var 24 [.int .i64 (0 : Int), .int .i64 (0 : Int), .str ([] : List Int)])]) (by kernel_rfl) hmix an ?_
  refine aw_seq (by kernel_rfl) ?_
  refine aw_seq (by kernel_rfl) ?_
  refine aw_region [(4, { n := (x_1.b).length })] [0, 2, 12] [0, 1] 2 (vals := [.ptr 0 0 0 0, .ptr 1 0 0 0, .bool ((((x_1.b).length : Nat) : Int) == (0 : Int))]) (bxs := [.live (.var 53 (v_T_column_input x_1)), .live (.var 24 [.int .i64 (0 : Int), .int .i64 (0 : Int), .str ([] : List Int)])]) (by kernel_rfl) hmix (ac (vc_len _ : ((List.map (AV.int .u8) x_1.b)).length = (x_1.b).length) an) ?_
  refine aw_cond (t := 12) (b := ((((x_1.b).length : Nat) : Int) == (0 : Int))) (by kernel_rfl) (by kernel_rfl) ?_ ?_
  · intro g_1; replace h := cond_t g_1 h
    refine aw_seq (by kernel_rfl) ?_
    refine aw_region [] [2] [0, 1] 2 (vals := [.ptr 1 0 0 0]) (bxs := [.live (.var 53 [.sl false 1 (List.map (AV.int .u8) x_1.b), .bool true]), .live (.var 24 [.int .i64 (0 : Int), .int .i64 (0 : Int), .str ([] : List Int)])]) (by kernel_rfl) hmix an ?_
    refine aw_seq (by kernel_rfl) ?_
    refine aw_region [] [2] [0, 1] 2 (vals := [.ptr 1 0 0 0]) (bxs := [.live (.var 53 [.sl false 1 (List.map (AV.int .u8) x_1.b), .bool true]), .live (.var 24 [.int .i64 (0 : Int), .int .i64 (0 : Int), .str ([] : List Int)])]) (by kernel_rfl) hmix an ?_
    refine aw_sub (sub_wkm [0, 1] [] [.s 2] [.a 0 (.live (.var 53 (v_T_column_input (⟨x_1.b, true⟩ : T_column_input)))), .a 1 (.live (.var 24 (v_T_api_Value (⟨(0 : Int), (0 : Int), ([] : List Int)⟩ : T_api_Value))))] (sl2 := [(2, .ptr 1 0 0 0)]) (bx2 := [(0, .live (.var 53 (v_T_column_input (⟨x_1.b, true⟩ : T_column_input)))), (1, .live (.var 24 (v_T_api_Value (⟨(0 : Int), (0 : Int), ([] : List Int)⟩ : T_api_Value))))]) (by kernel_rfl) (ac (rfl : 53 = 53) (ac (rfl : ones [.sl false 1 (List.map (AV.int .u8) ((⟨x_1.b, true⟩ : T_column_input).b)), .bool ((⟨x_1.b, true⟩ : T_column_input).bad)] = true) (ac (rfl : 1 = 1) (ac (rfl : ((List.map (AV.int .u8) x_1.b) : List AV) = (List.map (AV.int .u8) ((⟨x_1.b, true⟩ : T_column_input).b))) (ac (rfl : (!false || false) = true) (ac (rfl : (.bool true : AV) = .bool ((⟨x_1.b, true⟩ : T_column_input).bad)) (ac (rfl : 24 = 24) (ac (rfl : ones [.int .i64 ((⟨(0 : Int), (0 : Int), ([] : List Int)⟩ : T_api_Value).Kind), .int .i64 ((⟨(0 : Int), (0 : Int), ([] : List Int)⟩ : T_api_Value).N), .str ((⟨(0 : Int), (0 : Int), ([] : List Int)⟩ : T_api_Value).S)] = true) (ac (rfl : (.int .i64 (0 : Int) : AV) = .int .i64 ((⟨(0 : Int), (0 : Int), ([] : List Int)⟩ : T_api_Value).Kind)) (ac (rfl : (.int .i64 (0 : Int) : AV) = .int .i64 ((⟨(0 : Int), (0 : Int), ([] : List Int)⟩ : T_api_Value).N)) (ac (rfl : (.str ([] : List Int) : AV) = .str ((⟨(0 : Int), (0 : Int), ([] : List Int)⟩ : T_api_Value).S)) an)))))))))))) ?_
    refine aw_ret (by kernel_rfl) ?_
    replace h := Option.some.inj h; subst h
    exact ⟨.inr rfl, Nat.le_of_ble_eq_true rfl, by kernel_rfl⟩
  intro g_1; replace h := cond_f g_1 h
  refine aw_skip (by kernel_rfl) ?_
  refine aw_seq (by kernel_rfl) ?_
  obtain ⟨x_2, h_1, h⟩ := bind_some h
  refine aw_region [(4, { av := .int .u8 x_2 }), (8, { id := 2 })] [0, 2, 3] [0, 1, 2] 3 (vals := [.ptr 0 0 0 0, .ptr 1 0 0 0, .ptr 2 0 0 0]) (bxs := [.live (.var 53 (v_T_column_input x_1)), .live (.var 24 [.int .i64 (0 : Int), .int .i64 (0 : Int), .str ([] : List Int)]), .live (.var 24 [.int .i64 (w_i64 x_2), .int .i64 (0 : Int), .str ([] : List Int)])]) (by kernel_rfl) hmix (ac (vc_idx h_1 : idxA (List.map (AV.int .u8) x_1.b) (0 : Int) = some (.int .u8 x_2)) an) ?_
  refine aw_seq (by kernel_rfl) ?_
  obtain ⟨_, h_2, h⟩ := bind_some h; replace h_2 := need_some h_2
  refine aw_region [(5, { l := (List.map (AV.int .u8) (sub x_1.b (1 : Int) (((x_1.b).length : Nat) : Int))) })] [0, 2, 3] [0, 1, 2] 3 (vals := [.ptr 0 0 0 0, .ptr 1 0 0 0, .ptr 2 0 0 0]) (bxs := [.live (.var 53 [.sl false 1 (List.map (AV.int .u8) (sub x_1.b (1 : Int) (((x_1.b).length : Nat) : Int))), .bool x_1.bad]), .live (.var 24 [.int .i64 (0 : Int), .int .i64 (0 : Int), .str ([] : List Int)]), .live (.var 24 [.int .i64 (w_i64 x_2), .int .i64 (0 : Int), .str ([] : List Int)])]) (by kernel_rfl) hmix (ac (by decide : (0 : Int) ≤ (1 : Int)) (ac (vc_lenle h_2 : (1 : Int) ≤ ((((List.map (AV.int .u8) x_1.b)).length : Nat) : Int)) (ac (Int.le_refl _ : ((((List.map (AV.int .u8) x_1.b)).length : Nat) : Int) ≤ ((((List.map (AV.int .u8) x_1.b)).length : Nat) : Int)) (ac (vc_subn _ _ : (List.map (AV.int .u8) (sub x_1.b (1 : Int) (((x_1.b).length : Nat) : Int))) = (((List.map (AV.int .u8) x_1.b)).take (((((List.map (AV.int .u8) x_1.b)).length : Nat) : Int)).toNat).drop ((1 : Int)).toNat) an)))) ?_
  refine aw_seq (by kernel_rfl) ?_
  refine aw_seq (by kernel_rfl) ?_
  refine aw_region [] [0, 2, 3, 34] [0, 1, 2] 3 (vals := [.ptr 0 0 0 0, .ptr 1 0 0 0, .ptr 2 0 0 0, .int .i64 (w_i64 x_2)]) (bxs := [.live (.var 53 [.sl false 1 (List.map (AV.int .u8) (sub x_1.b (1 : Int) (((x_1.b).length : Nat) : Int))), .bool x_1.bad]), .live (.var 24 [.int .i64 (0 : Int), .int .i64 (0 : Int), .str ([] : List Int)]), .live (.var 24 [.int .i64 (w_i64 x_2), .int .i64 (0 : Int), .str ([] : List Int)])]) (by kernel_rfl) hmix an ?_
  refine aw_block (id := 0) (by kernel_rfl) ?_
  refine aw_seq (by kernel_rfl) ?_
  refine aw_region [] [0, 2, 3, 34, 38] [0, 1, 2] 3 (vals := [.ptr 0 0 0 0, .ptr 1 0 0 0, .ptr 2 0 0 0, .int .i64 (w_i64 x_2), .bool ((w_i64 x_2) == (0 : Int))]) (bxs := [.live (.var 53 [.sl false 1 (List.map (AV.int .u8) (sub x_1.b (1 : Int) (((x_1.b).length : Nat) : Int))), .bool x_1.bad]), .live (.var 24 [.int .i64 (0 : Int), .int .i64 (0 : Int), .str ([] : List Int)]), .live (.var 24 [.int .i64 (w_i64 x_2), .int .i64 (0 : Int), .str ([] : List Int)])]) (by kernel_rfl) hmix an ?_
  refine aw_cond (t := 38) (b := ((w_i64 x_2) == (0 : Int))) (by kernel_rfl) (by kernel_rfl) ?_ ?_
  · intro g_2; replace h := cond_t g_2 h
    refine aw_skip (by kernel_rfl) ?_
    refine aw_seq (by kernel_rfl) ?_
    refine aw_region [] [2] [0, 1] 3 (vals := [.ptr 1 0 0 0]) (bxs := [.live (.var 53 [.sl false 1 (List.map (AV.int .u8) (sub x_1.b (1 : Int) (((x_1.b).length : Nat) : Int))), .bool x_1.bad]), .live (.var 24 [.int .i64 (w_i64 x_2), .int .i64 (0 : Int), .str ([] : List Int)])]) (by kernel_rfl) hmix an ?_
    refine aw_sub (sub_wkm [0, 1] [] [.s 2] [.a 0 (.live (.var 53 (v_T_column_input (⟨sub x_1.b (1 : Int) (((x_1.b).length : Nat) : Int), x_1.bad⟩ : T_column_input)))), .a 1 (.live (.var 24 (v_T_api_Value (⟨w_i64 x_2, (0 : Int), ([] : List Int)⟩ : T_api_Value))))] (sl2 := [(2, .ptr 1 0 0 0)]) (bx2 := [(0, .live (.var 53 (v_T_column_input (⟨sub x_1.b (1 : Int) (((x_1.b).length : Nat) : Int), x_1.bad⟩ : T_column_input)))), (1, .live (.var 24 (v_T_api_Value (⟨w_i64 x_2, (0 : Int), ([] : List Int)⟩ : T_api_Value))))]) (by kernel_rfl) (ac (rfl : 53 = 53) (ac (rfl : ones [.sl false 1 (List.map (AV.int .u8) ((⟨sub x_1.b (1 : Int) (((x_1.b).length : Nat) : Int), x_1.bad⟩ : T_column_input).b)), .bool ((⟨sub x_1.b (1 : Int) (((x_1.b).length : Nat) : Int), x_1.bad⟩ : T_column_input).bad)] = true) (ac (rfl : 1 = 1) (ac (rfl : ((List.map (AV.int .u8) (sub x_1.b (1 : Int) (((x_1.b).length : Nat) : Int))) : List AV) = (List.map (AV.int .u8) ((⟨sub x_1.b (1 : Int) (((x_1.b).length : Nat) : Int), x_1.bad⟩ : T_column_input).b))) (ac (rfl : (!false || false) = true) (ac (rfl : (.bool x_1.bad : AV) = .bool ((⟨sub x_1.b (1 : Int) (((x_1.b).length : Nat) : Int), x_1.bad⟩ : T_column_input).bad)) (ac (rfl : 24 = 24) (ac (rfl : ones [.int .i64 ((⟨w_i64 x_2, (0 : Int), ([] : List Int)⟩ : T_api_Value).Kind), .int .i64 ((⟨w_i64 x_2, (0 : Int), ([] : List Int)⟩ : T_api_Value).N), .str ((⟨w_i64 x_2, (0 : Int), ([] : List Int)⟩ : T_api_Value).S)] = true) (ac (rfl : (.int .i64 (w_i64 x_2) : AV) = .int .i64 ((⟨w_i64 x_2, (0 : Int), ([] : List Int)⟩ : T_api_Value).Kind)) (ac (rfl : (.int .i64 (0 : Int) : AV) = .int .i64 ((⟨w_i64 x_2, (0 : Int), ([] : List Int)⟩ : T_api_Value).N)) (ac (rfl : (.str ([] : List Int) : AV) = .str ((⟨w_i64 x_2, (0 : Int), ([] : List Int)⟩ : T_api_Value).S)) an)))))))))))) ?_
    refine aw_ret (by kernel_rfl) ?_
    replace h := Option.some.inj h; subst h
    exact ⟨.inr rfl, Nat.le_of_ble_eq_true rfl, by kernel_rfl⟩
  intro g_2; replace h := cond_f g_2 h
  refine aw_seq (by kernel_rfl) ?_
  refine aw_seq (by kernel_rfl) ?_
  refine aw_region [] [0, 2, 3, 34, 40] [0, 1, 2] 3 (vals := [.ptr 0 0 0 0, .ptr 1 0 0 0, .ptr 2 0 0 0, .int .i64 (w_i64 x_2), .bool ((w_i64 x_2) == (1 : Int))]) (bxs := [.live (.var 53 [.sl false 1 (List.map (AV.int .u8) (sub x_1.b (1 : Int) (((x_1.b).length : Nat) : Int))), .bool x_1.bad]), .live (.var 24 [.int .i64 (0 : Int), .int .i64 (0 : Int), .str ([] : List Int)]), .live (.var 24 [.int .i64 (w_i64 x_2), .int .i64 (0 : Int), .str ([] : List Int)])]) (by kernel_rfl) hmix an ?_
  obtain ⟨o_1, h_3, h⟩ := bind_some h
  refine aw_mid (mk [(0, .ptr 0 0 0 0), (2, .ptr 1 0 0 0), (3, .ptr 2 0 0 0), (34, .int .i64 (w_i64 x_2)), (40, .bool o_1)] [(0, .live (.var 53 [.sl false 1 (List.map (AV.int .u8) (sub x_1.b (1 : Int) (((x_1.b).length : Nat) : Int))), .bool x_1.bad])), (1, .live (.var 24 [.int .i64 (0 : Int), .int .i64 (0 : Int), .str ([] : List Int)])), (2, .live (.var 24 [.int .i64 (w_i64 x_2), .int .i64 (0 : Int), .str ([] : List Int)]))] 3) ?_ ?_
  · replace h := h_3
    refine aw_cond (t := 40) (b := ((w_i64 x_2) == (1 : Int))) (by kernel_rfl) (by kernel_rfl) ?_ ?_
    · intro g_3; replace h := cond_t g_3 h
      refine aw_skip (by kernel_rfl) ?_
      replace h := Option.some.inj h; subst h
      exact ⟨rfl, (sub_wkm [0, 1, 2] [] [.s 0, .s 2, .s 3, .s 34, .s 40] [.s 0, .s 1, .s 2] (by kernel_rfl) an)⟩
    intro g_3; replace h := cond_f g_3 h
    refine aw_region [] [0, 2, 3, 34, 40] [0, 1, 2] 3 (vals := [.ptr 0 0 0 0, .ptr 1 0 0 0, .ptr 2 0 0 0, .int .i64 (w_i64 x_2), .bool ((w_i64 x_2) == (2 : Int))]) (bxs := [.live (.var 53 [.sl false 1 (List.map (AV.int .u8) (sub x_1.b (1 : Int) (((x_1.b).length : Nat) : Int))), .bool x_1.bad]), .live (.var 24 [.int .i64 (0 : Int), .int .i64 (0 : Int), .str ([] : List Int)]), .live (.var 24 [.int .i64 (w_i64 x_2), .int .i64 (0 : Int), .str ([] : List Int)])]) (by kernel_rfl) hmix an ?_
    replace h := Option.some.inj h; subst h
    exact ⟨rfl, (sub_wkm [0, 1, 2] [] [.s 0, .s 2, .s 3, .s 34, .s 40] [.s 0, .s 1, .s 2] (by kernel_rfl) an)⟩
  refine aw_cond (t := 40) (b := o_1) (by kernel_rfl) (by kernel_rfl) ?_ ?_
  · intro g_4; replace h := cond_t g_4 h
    obtain ⟨r_1, h_4, h⟩ := bind_some h
    refine aw_region [(1, { av := .int .i64 r_1.1, ids := [0], l := [.ptr 0 0 0 0], post := [(.var 53 (v_T_column_input r_1.2))], pre := [(.var 53 [.sl false 1 (List.map (AV.int .u8) (sub x_1.b (1 : Int) (((x_1.b).length : Nat) : Int))), .bool x_1.bad])] })] [2, 3] [0, 1, 2] 3 (vals := [.ptr 1 0 0 0, .ptr 2 0 0 0]) (bxs := [.live (.var 53 (v_T_column_input r_1.2)), .live (.var 24 [.int .i64 (0 : Int), .int .i64 (0 : Int), .str ([] : List Int)]), .live (.var 24 [.int .i64 (w_i64 x_2), .int .i64 r_1.1, .str ([] : List Int)])]) (by kernel_rfl) hmix (ac (rfl : ([.ptr 0 0 0 0] : List AV) = [.ptr 0 0 0 0]) (ac (rfl : ([.live (.var 53 [.sl false 1 (List.map (AV.int .u8) (sub x_1.b (1 : Int) (((x_1.b).length : Nat) : Int))), .bool x_1.bad])] : List BoxSt) = [.live (.var 53 [.sl false 1 (List.map (AV.int .u8) (sub x_1.b (1 : Int) (((x_1.b).length : Nat) : Int))), .bool x_1.bad])]) (ac (column_input_num_ok F (⟨sub x_1.b (1 : Int) (((x_1.b).length : Nat) : Int), x_1.bad⟩ : T_column_input) r_1 h_4 : TripleG prog 41 [(.var 53 [.sl false 1 (List.map (AV.int .u8) (sub x_1.b (1 : Int) (((x_1.b).length : Nat) : Int))), .bool x_1.bad])] [] [.ptr 0 0 0 0] [(.var 53 (v_T_column_input r_1.2))] (.int .i64 r_1.1)) an))) ?_
    refine aw_seq (by kernel_rfl) ?_
    refine aw_region [] [2] [0, 1] 3 (vals := [.ptr 1 0 0 0]) (bxs := [.live (.var 53 (v_T_column_input r_1.2)), .live (.var 24 [.int .i64 (w_i64 x_2), .int .i64 r_1.1, .str ([] : List Int)])]) (by kernel_rfl) hmix an ?_
    refine aw_sub (sub_wkm [0, 1] [] [.s 2] [.s 0, .a 1 (.live (.var 24 (v_T_api_Value (⟨w_i64 x_2, r_1.1, ([] : List Int)⟩ : T_api_Value))))] (sl2 := [(2, .ptr 1 0 0 0)]) (bx2 := [(0, .live (.var 53 (v_T_column_input r_1.2))), (1, .live (.var 24 (v_T_api_Value (⟨w_i64 x_2, r_1.1, ([] : List Int)⟩ : T_api_Value))))]) (by kernel_rfl) (ac (rfl : 24 = 24) (ac (rfl : ones [.int .i64 ((⟨w_i64 x_2, r_1.1, ([] : List Int)⟩ : T_api_Value).Kind), .int .i64 ((⟨w_i64 x_2, r_1.1, ([] : List Int)⟩ : T_api_Value).N), .str ((⟨w_i64 x_2, r_1.1, ([] : List Int)⟩ : T_api_Value).S)] = true) (ac (rfl : (.int .i64 (w_i64 x_2) : AV) = .int .i64 ((⟨w_i64 x_2, r_1.1, ([] : List Int)⟩ : T_api_Value).Kind)) (ac (rfl : (.int .i64 r_1.1 : AV) = .int .i64 ((⟨w_i64 x_2, r_1.1, ([] : List Int)⟩ : T_api_Value).N)) (ac (rfl : (.str ([] : List Int) : AV) = .str ((⟨w_i64 x_2, r_1.1, ([] : List Int)⟩ : T_api_Value).S)) an)))))) ?_
    refine aw_ret (by kernel_rfl) ?_
    replace h := Option.some.inj h; subst h
    exact ⟨.inr rfl, Nat.le_of_ble_eq_true rfl, by kernel_rfl⟩
  intro g_4; replace h := cond_f g_4 h
  refine aw_seq (by kernel_rfl) ?_
  refine aw_region [] [0, 2, 3, 46] [0, 1, 2] 3 (vals := [.ptr 0 0 0 0, .ptr 1 0 0 0, .ptr 2 0 0 0, .bool ((w_i64 x_2) == (3 : Int))]) (bxs := [.live (.var 53 [.sl false 1 (List.map (AV.int .u8) (sub x_1.b (1 : Int) (((x_1.b).length : Nat) : Int))), .bool x_1.bad]), .live (.var 24 [.int .i64 (0 : Int), .int .i64 (0 : Int), .str ([] : List Int)]), .live (.var 24 [.int .i64 (w_i64 x_2), .int .i64 (0 : Int), .str ([] : List Int)])]) (by kernel_rfl) hmix an ?_
  refine aw_cond (t := 46) (b := ((w_i64 x_2) == (3 : Int))) (by kernel_rfl) (by kernel_rfl) ?_ ?_
  rotate_left
  · intro g_5; replace h := cond_f g_5 h
    refine aw_region [] [2, 3] [0, 1, 2] 3 (vals := [.ptr 1 0 0 0, .ptr 2 0 0 0]) (bxs := [.live (.var 53 [.sl false 1 (List.map (AV.int .u8) (sub x_1.b (1 : Int) (((x_1.b).length : Nat) : Int))), .bool true]), .live (.var 24 [.int .i64 (0 : Int), .int .i64 (0 : Int), .str ([] : List Int)]), .live (.var 24 [.int .i64 (w_i64 x_2), .int .i64 (0 : Int), .str ([] : List Int)])]) (by kernel_rfl) hmix an ?_
    refine aw_seq (by kernel_rfl) ?_
    refine aw_region [] [2] [0, 1] 3 (vals := [.ptr 1 0 0 0]) (bxs := [.live (.var 53 [.sl false 1 (List.map (AV.int .u8) (sub x_1.b (1 : Int) (((x_1.b).length : Nat) : Int))), .bool true]), .live (.var 24 [.int .i64 (w_i64 x_2), .int .i64 (0 : Int), .str ([] : List Int)])]) (by kernel_rfl) hmix an ?_
    refine aw_sub (sub_wkm [0, 1] [] [.s 2] [.a 0 (.live (.var 53 (v_T_column_input (⟨sub x_1.b (1 : Int) (((x_1.b).length : Nat) : Int), true⟩ : T_column_input)))), .a 1 (.live (.var 24 (v_T_api_Value (⟨w_i64 x_2, (0 : Int), ([] : List Int)⟩ : T_api_Value))))] (sl2 := [(2, .ptr 1 0 0 0)]) (bx2 := [(0, .live (.var 53 (v_T_column_input (⟨sub x_1.b (1 : Int) (((x_1.b).length : Nat) : Int), true⟩ : T_column_input)))), (1, .live (.var 24 (v_T_api_Value (⟨w_i64 x_2, (0 : Int), ([] : List Int)⟩ : T_api_Value))))]) (by kernel_rfl) (ac (rfl : 53 = 53) (ac (rfl : ones [.sl false 1 (List.map (AV.int .u8) ((⟨sub x_1.b (1 : Int) (((x_1.b).length : Nat) : Int), true⟩ : T_column_input).b)), .bool ((⟨sub x_1.b (1 : Int) (((x_1.b).length : Nat) : Int), true⟩ : T_column_input).bad)] = true) (ac (rfl : 1 = 1) (ac (rfl : ((List.map (AV.int .u8) (sub x_1.b (1 : Int) (((x_1.b).length : Nat) : Int))) : List AV) = (List.map (AV.int .u8) ((⟨sub x_1.b (1 : Int) (((x_1.b).length : Nat) : Int), true⟩ : T_column_input).b))) (ac (rfl : (!false || false) = true) (ac (rfl : (.bool true : AV) = .bool ((⟨sub x_1.b (1 : Int) (((x_1.b).length : Nat) : Int), true⟩ : T_column_input).bad)) (ac (rfl : 24 = 24) (ac (rfl : ones [.int .i64 ((⟨w_i64 x_2, (0 : Int), ([] : List Int)⟩ : T_api_Value).Kind), .int .i64 ((⟨w_i64 x_2, (0 : Int), ([] : List Int)⟩ : T_api_Value).N), .str ((⟨w_i64 x_2, (0 : Int), ([] : List Int)⟩ : T_api_Value).S)] = true) (ac (rfl : (.int .i64 (w_i64 x_2) : AV) = .int .i64 ((⟨w_i64 x_2, (0 : Int), ([] : List Int)⟩ : T_api_Value).Kind)) (ac (rfl : (.int .i64 (0 : Int) : AV) = .int .i64 ((⟨w_i64 x_2, (0 : Int), ([] : List Int)⟩ : T_api_Value).N)) (ac (rfl : (.str ([] : List Int) : AV) = .str ((⟨w_i64 x_2, (0 : Int), ([] : List Int)⟩ : T_api_Value).S)) an)))))))))))) ?_
    refine aw_ret (by kernel_rfl) ?_
    replace h := Option.some.inj h; subst h
    exact ⟨.inr rfl, Nat.le_of_ble_eq_true rfl, by kernel_rfl⟩
  intro g_5; replace h := cond_t g_5 h
  refine aw_seq (by kernel_rfl) ?_
  obtain ⟨r_2, h_5, h⟩ := bind_some h
  refine aw_region [(4, { av := .tuple [.str r_2.1, .int .i64 r_2.2.1, .int .i64 r_2.2.2], l := [.sl false 1 (List.map (AV.int .u8) (sub x_1.b (1 : Int) (((x_1.b).length : Nat) : Int))), .int .i64 (200 : Int)] })] [0, 2, 3, 4, 5, 6] [0, 1, 2] 3 (vals := [.ptr 0 0 0 0, .ptr 1 0 0 0, .ptr 2 0 0 0, .str r_2.1, .int .i64 r_2.2.1, .int .i64 r_2.2.2]) (bxs := [.live (.var 53 [.sl false 1 (List.map (AV.int .u8) (sub x_1.b (1 : Int) (((x_1.b).length : Nat) : Int))), .bool x_1.bad]), .live (.var 24 [.int .i64 (0 : Int), .int .i64 (0 : Int), .str ([] : List Int)]), .live (.var 24 [.int .i64 (w_i64 x_2), .int .i64 (0 : Int), .str ([] : List Int)])]) (by kernel_rfl) hmix (ac (rfl : ([.sl false 1 (List.map (AV.int .u8) (sub x_1.b (1 : Int) (((x_1.b).length : Nat) : Int))), .int .i64 (200 : Int)] : List AV) = [.sl false 1 (List.map (AV.int .u8) (sub x_1.b (1 : Int) (((x_1.b).length : Nat) : Int))), .int .i64 (200 : Int)]) (ac (rfl : ([] : List BoxSt) = []) (ac (codec_Text_ok F (sub x_1.b (1 : Int) (((x_1.b).length : Nat) : Int)) (200 : Int) r_2 h_5 : TripleG prog 50 [] [] [.sl false 1 (List.map (AV.int .u8) (sub x_1.b (1 : Int) (((x_1.b).length : Nat) : Int))), .int .i64 (200 : Int)] [] (.tuple [.str r_2.1, .int .i64 r_2.2.1, .int .i64 r_2.2.2])) an))) ?_
  refine aw_seq (by kernel_rfl) ?_
  refine aw_mid (mk [(0, .ptr 0 0 0 0), (2, .ptr 1 0 0 0), (3, .ptr 2 0 0 0), (4, .str r_2.1), (5, .int .i64 r_2.2.1)] [(0, .live (.var 53 [.sl false 1 (List.map (AV.int .u8) (sub x_1.b (1 : Int) (((x_1.b).length : Nat) : Int))), .bool (x_1.bad || (r_2.2.2 != (0 : Int)))])), (1, .live (.var 24 [.int .i64 (0 : Int), .int .i64 (0 : Int), .str ([] : List Int)])), (2, .live (.var 24 [.int .i64 (w_i64 x_2), .int .i64 (0 : Int), .str ([] : List Int)]))] 3) ?_ ?_
  · rcases Bool.eq_false_or_eq_true x_1.bad with gg_1 | gg_1
    · refine aw_region [(6, { g := false }), (7, { g := false }), (8, { b := true })] [0, 2, 3, 4, 5] [0, 1, 2] 3 (vals := [.ptr 0 0 0 0, .ptr 1 0 0 0, .ptr 2 0 0 0, .str r_2.1, .int .i64 r_2.2.1]) (bxs := [.live (.var 53 [.sl false 1 (List.map (AV.int .u8) (sub x_1.b (1 : Int) (((x_1.b).length : Nat) : Int))), .bool true]), .live (.var 24 [.int .i64 (0 : Int), .int .i64 (0 : Int), .str ([] : List Int)]), .live (.var 24 [.int .i64 (w_i64 x_2), .int .i64 (0 : Int), .str ([] : List Int)])]) (by kernel_rfl) hmix (ac gg_1 (ac gg_1 (ac gg_1 an))) ?_
      exact ⟨rfl, (sub_wkm [0, 1, 2] [] [.s 0, .s 2, .s 3, .s 4, .s 5] [.a 0 (.live (.var 53 [.sl false 1 (List.map (AV.int .u8) (sub x_1.b (1 : Int) (((x_1.b).length : Nat) : Int))), .bool (x_1.bad || (r_2.2.2 != (0 : Int)))])), .s 1, .s 2] (by kernel_rfl) (ac (rfl : 53 = 53) (ac (rfl : ones [.sl false 1 (List.map (AV.int .u8) (sub x_1.b (1 : Int) (((x_1.b).length : Nat) : Int))), .bool (x_1.bad || (r_2.2.2 != (0 : Int)))] = true) (ac (rfl : 1 = 1) (ac (rfl : ((List.map (AV.int .u8) (sub x_1.b (1 : Int) (((x_1.b).length : Nat) : Int))) : List AV) = (List.map (AV.int .u8) (sub x_1.b (1 : Int) (((x_1.b).length : Nat) : Int)))) (ac (rfl : (!false || false) = true) (ac (congrArg AV.bool (ort gg_1) : (.bool true : AV) = .bool (x_1.bad || (r_2.2.2 != (0 : Int)))) an)))))))⟩
    · refine aw_region [(8, { b := false })] [0, 2, 3, 4, 5] [0, 1, 2] 3 (vals := [.ptr 0 0 0 0, .ptr 1 0 0 0, .ptr 2 0 0 0, .str r_2.1, .int .i64 r_2.2.1]) (bxs := [.live (.var 53 [.sl false 1 (List.map (AV.int .u8) (sub x_1.b (1 : Int) (((x_1.b).length : Nat) : Int))), .bool (r_2.2.2 != (0 : Int))]), .live (.var 24 [.int .i64 (0 : Int), .int .i64 (0 : Int), .str ([] : List Int)]), .live (.var 24 [.int .i64 (w_i64 x_2), .int .i64 (0 : Int), .str ([] : List Int)])]) (by kernel_rfl) hmix (ac gg_1 (ac gg_1 (ac gg_1 an))) ?_
      exact ⟨rfl, (sub_wkm [0, 1, 2] [] [.s 0, .s 2, .s 3, .s 4, .s 5] [.a 0 (.live (.var 53 [.sl false 1 (List.map (AV.int .u8) (sub x_1.b (1 : Int) (((x_1.b).length : Nat) : Int))), .bool (x_1.bad || (r_2.2.2 != (0 : Int)))])), .s 1, .s 2] (by kernel_rfl) (ac (rfl : 53 = 53) (ac (rfl : ones [.sl false 1 (List.map (AV.int .u8) (sub x_1.b (1 : Int) (((x_1.b).length : Nat) : Int))), .bool (x_1.bad || (r_2.2.2 != (0 : Int)))] = true) (ac (rfl : 1 = 1) (ac (rfl : ((List.map (AV.int .u8) (sub x_1.b (1 : Int) (((x_1.b).length : Nat) : Int))) : List AV) = (List.map (AV.int .u8) (sub x_1.b (1 : Int) (((x_1.b).length : Nat) : Int)))) (ac (rfl : (!false || false) = true) (ac (congrArg AV.bool (orf gg_1 rfl) : (.bool (r_2.2.2 != (0 : Int)) : AV) = .bool (x_1.bad || (r_2.2.2 != (0 : Int)))) an)))))))⟩
  refine aw_seq (by kernel_rfl) ?_
  refine aw_region [] [0, 2, 3, 4, 5, 72] [0, 1, 2] 3 (vals := [.ptr 0 0 0 0, .ptr 1 0 0 0, .ptr 2 0 0 0, .str r_2.1, .int .i64 r_2.2.1, .bool (!(x_1.bad || (r_2.2.2 != (0 : Int))))]) (bxs := [.live (.var 53 [.sl false 1 (List.map (AV.int .u8) (sub x_1.b (1 : Int) (((x_1.b).length : Nat) : Int))), .bool (x_1.bad || (r_2.2.2 != (0 : Int)))]), .live (.var 24 [.int .i64 (0 : Int), .int .i64 (0 : Int), .str ([] : List Int)]), .live (.var 24 [.int .i64 (w_i64 x_2), .int .i64 (0 : Int), .str ([] : List Int)])]) (by kernel_rfl) hmix an ?_
  refine aw_cond (t := 72) (b := (!(x_1.bad || (r_2.2.2 != (0 : Int))))) (by kernel_rfl) (by kernel_rfl) ?_ ?_
  rotate_left
  · intro g_6; replace h := cond_f g_6 h
    refine aw_skip (by kernel_rfl) ?_
    refine aw_seq (by kernel_rfl) ?_
    refine aw_region [] [2] [0, 1] 3 (vals := [.ptr 1 0 0 0]) (bxs := [.live (.var 53 [.sl false 1 (List.map (AV.int .u8) (sub x_1.b (1 : Int) (((x_1.b).length : Nat) : Int))), .bool (x_1.bad || (r_2.2.2 != (0 : Int)))]), .live (.var 24 [.int .i64 (w_i64 x_2), .int .i64 (0 : Int), .str ([] : List Int)])]) (by kernel_rfl) hmix an ?_
    refine aw_sub (sub_wkm [0, 1] [] [.s 2] [.a 0 (.live (.var 53 (v_T_column_input (⟨sub x_1.b (1 : Int) (((x_1.b).length : Nat) : Int), (x_1.bad || (r_2.2.2 != (0 : Int)))⟩ : T_column_input)))), .a 1 (.live (.var 24 (v_T_api_Value (⟨w_i64 x_2, (0 : Int), ([] : List Int)⟩ : T_api_Value))))] (sl2 := [(2, .ptr 1 0 0 0)]) (bx2 := [(0, .live (.var 53 (v_T_column_input (⟨sub x_1.b (1 : Int) (((x_1.b).length : Nat) : Int), (x_1.bad || (r_2.2.2 != (0 : Int)))⟩ : T_column_input)))), (1, .live (.var 24 (v_T_api_Value (⟨w_i64 x_2, (0 : Int), ([] : List Int)⟩ : T_api_Value))))]) (by kernel_rfl) (ac (rfl : 53 = 53) (ac (rfl : ones [.sl false 1 (List.map (AV.int .u8) ((⟨sub x_1.b (1 : Int) (((x_1.b).length : Nat) : Int), (x_1.bad || (r_2.2.2 != (0 : Int)))⟩ : T_column_input).b)), .bool ((⟨sub x_1.b (1 : Int) (((x_1.b).length : Nat) : Int), (x_1.bad || (r_2.2.2 != (0 : Int)))⟩ : T_column_input).bad)] = true) (ac (rfl : 1 = 1) (ac (rfl : ((List.map (AV.int .u8) (sub x_1.b (1 : Int) (((x_1.b).length : Nat) : Int))) : List AV) = (List.map (AV.int .u8) ((⟨sub x_1.b (1 : Int) (((x_1.b).length : Nat) : Int), (x_1.bad || (r_2.2.2 != (0 : Int)))⟩ : T_column_input).b))) (ac (rfl : (!false || false) = true) (ac (rfl : (.bool (x_1.bad || (r_2.2.2 != (0 : Int))) : AV) = .bool ((⟨sub x_1.b (1 : Int) (((x_1.b).length : Nat) : Int), (x_1.bad || (r_2.2.2 != (0 : Int)))⟩ : T_column_input).bad)) (ac (rfl : 24 = 24) (ac (rfl : ones [.int .i64 ((⟨w_i64 x_2, (0 : Int), ([] : List Int)⟩ : T_api_Value).Kind), .int .i64 ((⟨w_i64 x_2, (0 : Int), ([] : List Int)⟩ : T_api_Value).N), .str ((⟨w_i64 x_2, (0 : Int), ([] : List Int)⟩ : T_api_Value).S)] = true) (ac (rfl : (.int .i64 (w_i64 x_2) : AV) = .int .i64 ((⟨w_i64 x_2, (0 : Int), ([] : List Int)⟩ : T_api_Value).Kind)) (ac (rfl : (.int .i64 (0 : Int) : AV) = .int .i64 ((⟨w_i64 x_2, (0 : Int), ([] : List Int)⟩ : T_api_Value).N)) (ac (rfl : (.str ([] : List Int) : AV) = .str ((⟨w_i64 x_2, (0 : Int), ([] : List Int)⟩ : T_api_Value).S)) an)))))))))))) ?_
    refine aw_ret (by kernel_rfl) ?_
    replace h := Option.some.inj h; subst h
    exact ⟨.inr rfl, Nat.le_of_ble_eq_true rfl, by kernel_rfl⟩
  intro g_6; replace h := cond_t g_6 h
  obtain ⟨_, h_6, h⟩ := bind_some h; replace h_6 := need_some h_6
  refine aw_region [(7, { l := (List.map (AV.int .u8) (sub (sub x_1.b (1 : Int) (((x_1.b).length : Nat) : Int)) r_2.2.1 (((sub x_1.b (1 : Int) (((x_1.b).length : Nat) : Int)).length : Nat) : Int))) })] [2, 3] [0, 1, 2] 3 (vals := [.ptr 1 0 0 0, .ptr 2 0 0 0]) (bxs := [.live (.var 53 [.sl false 1 (List.map (AV.int .u8) (sub (sub x_1.b (1 : Int) (((x_1.b).length : Nat) : Int)) r_2.2.1 (((sub x_1.b (1 : Int) (((x_1.b).length : Nat) : Int)).length : Nat) : Int))), .bool (x_1.bad || (r_2.2.2 != (0 : Int)))]), .live (.var 24 [.int .i64 (0 : Int), .int .i64 (0 : Int), .str ([] : List Int)]), .live (.var 24 [.int .i64 (w_i64 x_2), .int .i64 (0 : Int), .str r_2.1])]) (by kernel_rfl) hmix (ac h_6.1 (ac (vc_lenle h_6.2 : r_2.2.1 ≤ ((((List.map (AV.int .u8) (sub x_1.b (1 : Int) (((x_1.b).length : Nat) : Int)))).length : Nat) : Int)) (ac (Int.le_refl _ : ((((List.map (AV.int .u8) (sub x_1.b (1 : Int) (((x_1.b).length : Nat) : Int)))).length : Nat) : Int) ≤ ((((List.map (AV.int .u8) (sub x_1.b (1 : Int) (((x_1.b).length : Nat) : Int)))).length : Nat) : Int)) (ac (vc_subn _ _ : (List.map (AV.int .u8) (sub (sub x_1.b (1 : Int) (((x_1.b).length : Nat) : Int)) r_2.2.1 (((sub x_1.b (1 : Int) (((x_1.b).length : Nat) : Int)).length : Nat) : Int))) = (((List.map (AV.int .u8) (sub x_1.b (1 : Int) (((x_1.b).length : Nat) : Int)))).take (((((List.map (AV.int .u8) (sub x_1.b (1 : Int) (((x_1.b).length : Nat) : Int)))).length : Nat) : Int)).toNat).drop (r_2.2.1).toNat) an)))) ?_
  refine aw_seq (by kernel_rfl) ?_
  refine aw_region [] [2] [0, 1] 3 (vals := [.ptr 1 0 0 0]) (bxs := [.live (.var 53 [.sl false 1 (List.map (AV.int .u8) (sub (sub x_1.b (1 : Int) (((x_1.b).length : Nat) : Int)) r_2.2.1 (((sub x_1.b (1 : Int) (((x_1.b).length : Nat) : Int)).length : Nat) : Int))), .bool (x_1.bad || (r_2.2.2 != (0 : Int)))]), .live (.var 24 [.int .i64 (w_i64 x_2), .int .i64 (0 : Int), .str r_2.1])]) (by kernel_rfl) hmix an ?_
  refine aw_sub (sub_wkm [0, 1] [] [.s 2] [.a 0 (.live (.var 53 (v_T_column_input (⟨sub (sub x_1.b (1 : Int) (((x_1.b).length : Nat) : Int)) r_2.2.1 (((sub x_1.b (1 : Int) (((x_1.b).length : Nat) : Int)).length : Nat) : Int), (x_1.bad || (r_2.2.2 != (0 : Int)))⟩ : T_column_input)))), .a 1 (.live (.var 24 (v_T_api_Value (⟨w_i64 x_2, (0 : Int), r_2.1⟩ : T_api_Value))))] (sl2 := [(2, .ptr 1 0 0 0)]) (bx2 := [(0, .live (.var 53 (v_T_column_input (⟨sub (sub x_1.b (1 : Int) (((x_1.b).length : Nat) : Int)) r_2.2.1 (((sub x_1.b (1 : Int) (((x_1.b).length : Nat) : Int)).length : Nat) : Int), (x_1.bad || (r_2.2.2 != (0 : Int)))⟩ : T_column_input)))), (1, .live (.var 24 (v_T_api_Value (⟨w_i64 x_2, (0 : Int), r_2.1⟩ : T_api_Value))))]) (by kernel_rfl) (ac (rfl : 53 = 53) (ac (rfl : ones [.sl false 1 (List.map (AV.int .u8) ((⟨sub (sub x_1.b (1 : Int) (((x_1.b).length : Nat) : Int)) r_2.2.1 (((sub x_1.b (1 : Int) (((x_1.b).length : Nat) : Int)).length : Nat) : Int), (x_1.bad || (r_2.2.2 != (0 : Int)))⟩ : T_column_input).b)), .bool ((⟨sub (sub x_1.b (1 : Int) (((x_1.b).length : Nat) : Int)) r_2.2.1 (((sub x_1.b (1 : Int) (((x_1.b).length : Nat) : Int)).length : Nat) : Int), (x_1.bad || (r_2.2.2 != (0 : Int)))⟩ : T_column_input).bad)] = true) (ac (rfl : 1 = 1) (ac (rfl : ((List.map (AV.int .u8) (sub (sub x_1.b (1 : Int) (((x_1.b).length : Nat) : Int)) r_2.2.1 (((sub x_1.b (1 : Int) (((x_1.b).length : Nat) : Int)).length : Nat) : Int))) : List AV) = (List.map (AV.int .u8) ((⟨sub (sub x_1.b (1 : Int) (((x_1.b).length : Nat) : Int)) r_2.2.1 (((sub x_1.b (1 : Int) (((x_1.b).length : Nat) : Int)).length : Nat) : Int), (x_1.bad || (r_2.2.2 != (0 : Int)))⟩ : T_column_input).b))) (ac (rfl : (!false || false) = true) (ac (rfl : (.bool (x_1.bad || (r_2.2.2 != (0 : Int))) : AV) = .bool ((⟨sub (sub x_1.b (1 : Int) (((x_1.b).length : Nat) : Int)) r_2.2.1 (((sub x_1.b (1 : Int) (((x_1.b).length : Nat) : Int)).length : Nat) : Int), (x_1.bad || (r_2.2.2 != (0 : Int)))⟩ : T_column_input).bad)) (ac (rfl : 24 = 24) (ac (rfl : ones [.int .i64 ((⟨w_i64 x_2, (0 : Int), r_2.1⟩ : T_api_Value).Kind), .int .i64 ((⟨w_i64 x_2, (0 : Int), r_2.1⟩ : T_api_Value).N), .str ((⟨w_i64 x_2, (0 : Int), r_2.1⟩ : T_api_Value).S)] = true) (ac (rfl : (.int .i64 (w_i64 x_2) : AV) = .int .i64 ((⟨w_i64 x_2, (0 : Int), r_2.1⟩ : T_api_Value).Kind)) (ac (rfl : (.int .i64 (0 : Int) : AV) = .int .i64 ((⟨w_i64 x_2, (0 : Int), r_2.1⟩ : T_api_Value).N)) (ac (rfl : (.str r_2.1 : AV) = .str ((⟨w_i64 x_2, (0 : Int), r_2.1⟩ : T_api_Value).S)) an)))))))))))) ?_
  refine aw_ret (by kernel_rfl) ?_
  replace h := Option.some.inj h; subst h
  exact ⟨.inr rfl, Nat.le_of_ble_eq_true rfl, by kernel_rfl⟩

theorem bits_Mul64_ok (x_1 : Int) (y_1 : Int) (r : Int × Int) (h : bits_Mul64 x_1 y_1 = some r) : TripleG prog 57 [] [] [.int .u64 x_1, .int .u64 y_1] [] (.tuple [.int .u64 r.1, .int .u64 r.2]) := by
  refine triple_intro (fn := Go.Proofs.Try.f57) (code := codeOf Go.Proofs.Try.f57) (by kernel_rfl) (by kernel_rfl) (Nat.le_of_ble_eq_true (by kernel_rfl)) ?_
  unfold bits_Mul64 at h
  refine aw_seq (by kernel_rfl) ?_
  refine aw_region [] [0, 1] [] 0 (vals := [.int .u64 x_1, .int .u64 y_1]) (bxs := []) (by kernel_rfl) hmix an ?_
  refine aw_seq (by kernel_rfl) ?_
  refine aw_region [] [0, 1, 6] [] 0 (vals := [.int .u64 x_1, .int .u64 y_1, .int .u64 (iand .u64 x_1 (4294967295 : Int))]) (bxs := []) (by kernel_rfl) hmix an ?_
  refine aw_seq (by kernel_rfl) ?_
  refine aw_region [] [0, 1, 6, 7] [] 0 (vals := [.int .u64 x_1, .int .u64 y_1, .int .u64 (iand .u64 x_1 (4294967295 : Int)), .int .u64 (ishr .u64 x_1 (32 : Int))]) (bxs := []) (by kernel_rfl) hmix (ac (by decide : (0 : Int) ≤ (32 : Int)) an) ?_
  refine aw_seq (by kernel_rfl) ?_
  refine aw_region [] [0, 1, 6, 7, 8] [] 0 (vals := [.int .u64 x_1, .int .u64 y_1, .int .u64 (iand .u64 x_1 (4294967295 : Int)), .int .u64 (ishr .u64 x_1 (32 : Int)), .int .u64 (iand .u64 y_1 (4294967295 : Int))]) (bxs := []) (by kernel_rfl) hmix an ?_
  refine aw_seq (by kernel_rfl) ?_
  refine aw_region [] [0, 1, 6, 7, 8, 9] [] 0 (vals := [.int .u64 x_1, .int .u64 y_1, .int .u64 (iand .u64 x_1 (4294967295 : Int)), .int .u64 (ishr .u64 x_1 (32 : Int)), .int .u64 (iand .u64 y_1 (4294967295 : Int)), .int .u64 (ishr .u64 y_1 (32 : Int))]) (bxs := []) (by kernel_rfl) hmix (ac (by decide : (0 : Int) ≤ (32 : Int)) an) ?_
  refine aw_seq (by kernel_rfl) ?_
  refine aw_region [] [0, 1, 6, 7, 8, 9, 10] [] 0 (vals := [.int .u64 x_1, .int .u64 y_1, .int .u64 (iand .u64 x_1 (4294967295 : Int)), .int .u64 (ishr .u64 x_1 (32 : Int)), .int .u64 (iand .u64 y_1 (4294967295 : Int)), .int .u64 (ishr .u64 y_1 (32 : Int)), .int .u64 (w_u64 ((iand .u64 x_1 (4294967295 : Int)) * (iand .u64 y_1 (4294967295 : Int))))]) (bxs := []) (by kernel_rfl) hmix an ?_
  refine aw_seq (by kernel_rfl) ?_
  refine aw_region [] [0, 1, 6, 7, 9, 11] [] 0 (vals := [.int .u64 x_1, .int .u64 y_1, .int .u64 (iand .u64 x_1 (4294967295 : Int)), .int .u64 (ishr .u64 x_1 (32 : Int)), .int .u64 (ishr .u64 y_1 (32 : Int)), .int .u64 (w_u64 ((w_u64 ((ishr .u64 x_1 (32 : Int)) * (iand .u64 y_1 (4294967295 : Int)))) + (ishr .u64 (w_u64 ((iand .u64 x_1 (4294967295 : Int)) * (iand .u64 y_1 (4294967295 : Int)))) (32 : Int))))]) (bxs := []) (by kernel_rfl) hmix (ac (by decide : (0 : Int) ≤ (32 : Int)) an) ?_
  refine aw_seq (by kernel_rfl) ?_
  refine aw_region [] [0, 1, 6, 7, 9, 11, 12] [] 0 (vals := [.int .u64 x_1, .int .u64 y_1, .int .u64 (iand .u64 x_1 (4294967295 : Int)), .int .u64 (ishr .u64 x_1 (32 : Int)), .int .u64 (ishr .u64 y_1 (32 : Int)), .int .u64 (w_u64 ((w_u64 ((ishr .u64 x_1 (32 : Int)) * (iand .u64 y_1 (4294967295 : Int)))) + (ishr .u64 (w_u64 ((iand .u64 x_1 (4294967295 : Int)) * (iand .u64 y_1 (4294967295 : Int)))) (32 : Int)))), .int .u64 (iand .u64 (w_u64 ((w_u64 ((ishr .u64 x_1 (32 : Int)) * (iand .u64 y_1 (4294967295 : Int)))) + (ishr .u64 (w_u64 ((iand .u64 x_1 (4294967295 : Int)) * (iand .u64 y_1 (4294967295 : Int)))) (32 : Int)))) (4294967295 : Int))]) (bxs := []) (by kernel_rfl) hmix an ?_
  refine aw_seq (by kernel_rfl) ?_
  refine aw_region [] [0, 1, 6, 7, 9, 12, 13] [] 0 (vals := [.int .u64 x_1, .int .u64 y_1, .int .u64 (iand .u64 x_1 (4294967295 : Int)), .int .u64 (ishr .u64 x_1 (32 : Int)), .int .u64 (ishr .u64 y_1 (32 : Int)), .int .u64 (iand .u64 (w_u64 ((w_u64 ((ishr .u64 x_1 (32 : Int)) * (iand .u64 y_1 (4294967295 : Int)))) + (ishr .u64 (w_u64 ((iand .u64 x_1 (4294967295 : Int)) * (iand .u64 y_1 (4294967295 : Int)))) (32 : Int)))) (4294967295 : Int)), .int .u64 (ishr .u64 (w_u64 ((w_u64 ((ishr .u64 x_1 (32 : Int)) * (iand .u64 y_1 (4294967295 : Int)))) + (ishr .u64 (w_u64 ((iand .u64 x_1 (4294967295 : Int)) * (iand .u64 y_1 (4294967295 : Int)))) (32 : Int)))) (32 : Int))]) (bxs := []) (by kernel_rfl) hmix (ac (by decide : (0 : Int) ≤ (32 : Int)) an) ?_
  refine aw_seq (by kernel_rfl) ?_
  refine aw_region [] [0, 1, 7, 9, 12, 13] [] 0 (vals := [.int .u64 x_1, .int .u64 y_1, .int .u64 (ishr .u64 x_1 (32 : Int)), .int .u64 (ishr .u64 y_1 (32 : Int)), .int .u64 (w_u64 ((iand .u64 (w_u64 ((w_u64 ((ishr .u64 x_1 (32 : Int)) * (iand .u64 y_1 (4294967295 : Int)))) + (ishr .u64 (w_u64 ((iand .u64 x_1 (4294967295 : Int)) * (iand .u64 y_1 (4294967295 : Int)))) (32 : Int)))) (4294967295 : Int)) + (w_u64 ((iand .u64 x_1 (4294967295 : Int)) * (ishr .u64 y_1 (32 : Int)))))), .int .u64 (ishr .u64 (w_u64 ((w_u64 ((ishr .u64 x_1 (32 : Int)) * (iand .u64 y_1 (4294967295 : Int)))) + (ishr .u64 (w_u64 ((iand .u64 x_1 (4294967295 : Int)) * (iand .u64 y_1 (4294967295 : Int)))) (32 : Int)))) (32 : Int))]) (bxs := []) (by kernel_rfl) hmix an ?_
  refine aw_seq (by kernel_rfl) ?_
  refine aw_region [] [0, 1, 4] [] 0 (vals := [.int .u64 x_1, .int .u64 y_1, .int .u64 (w_u64 ((w_u64 ((w_u64 ((ishr .u64 x_1 (32 : Int)) * (ishr .u64 y_1 (32 : Int)))) + (ishr .u64 (w_u64 ((w_u64 ((ishr .u64 x_1 (32 : Int)) * (iand .u64 y_1 (4294967295 : Int)))) + (ishr .u64 (w_u64 ((iand .u64 x_1 (4294967295 : Int)) * (iand .u64 y_1 (4294967295 : Int)))) (32 : Int)))) (32 : Int)))) + (ishr .u64 (w_u64 ((iand .u64 (w_u64 ((w_u64 ((ishr .u64 x_1 (32 : Int)) * (iand .u64 y_1 (4294967295 : Int)))) + (ishr .u64 (w_u64 ((iand .u64 x_1 (4294967295 : Int)) * (iand .u64 y_1 (4294967295 : Int)))) (32 : Int)))) (4294967295 : Int)) + (w_u64 ((iand .u64 x_1 (4294967295 : Int)) * (ishr .u64 y_1 (32 : Int)))))) (32 : Int))))]) (bxs := []) (by kernel_rfl) hmix (ac (by decide : (0 : Int) ≤ (32 : Int)) an) ?_
  refine aw_seq (by kernel_rfl) ?_
  refine aw_region [] [4, 5] [] 0 (vals := [.int .u64 (w_u64 ((w_u64 ((w_u64 ((ishr .u64 x_1 (32 : Int)) * (ishr .u64 y_1 (32 : Int)))) + (ishr .u64 (w_u64 ((w_u64 ((ishr .u64 x_1 (32 : Int)) * (iand .u64 y_1 (4294967295 : Int)))) + (ishr .u64 (w_u64 ((iand .u64 x_1 (4294967295 : Int)) * (iand .u64 y_1 (4294967295 : Int)))) (32 : Int)))) (32 : Int)))) + (ishr .u64 (w_u64 ((iand .u64 (w_u64 ((w_u64 ((ishr .u64 x_1 (32 : Int)) * (iand .u64 y_1 (4294967295 : Int)))) + (ishr .u64 (w_u64 ((iand .u64 x_1 (4294967295 : Int)) * (iand .u64 y_1 (4294967295 : Int)))) (32 : Int)))) (4294967295 : Int)) + (w_u64 ((iand .u64 x_1 (4294967295 : Int)) * (ishr .u64 y_1 (32 : Int)))))) (32 : Int)))), .int .u64 (w_u64 (x_1 * y_1))]) (bxs := []) (by kernel_rfl) hmix an ?_
  refine aw_ret (by kernel_rfl) ?_
  replace h := Option.some.inj h; subst h
  exact ⟨.inr rfl, Nat.le_of_ble_eq_true rfl, by kernel_rfl⟩

theorem bits_Mul_ok (x_1 : Int) (y_1 : Int) (r : Int × Int) (h : bits_Mul x_1 y_1 = some r) : TripleG prog 52 [] [] [.int .u64 x_1, .int .u64 y_1] [] (.tuple [.int .u64 r.1, .int .u64 r.2]) := by
  refine triple_intro (fn := Go.Proofs.Try.f52) (code := codeOf Go.Proofs.Try.f52) (by kernel_rfl) (by kernel_rfl) (Nat.le_of_ble_eq_true (by kernel_rfl)) ?_
  unfold bits_Mul at h
  refine aw_seq (by kernel_rfl) ?_
  refine aw_region [] [0, 1] [] 0 (vals := [.int .u64 x_1, .int .u64 y_1]) (bxs := []) (by kernel_rfl) hmix an ?_
  refine aw_seq (by kernel_rfl) ?_
  refine aw_condC (b := false) (by kernel_rfl) ?_
  simp only [cond_false]
  refine aw_skip (by kernel_rfl) ?_
  refine aw_seq (by kernel_rfl) ?_
  obtain ⟨r_1, h_1, h⟩ := bind_some h
  refine aw_region [(2, { av := .tuple [.int .u64 r_1.1, .int .u64 r_1.2], l := [.int .u64 x_1, .int .u64 y_1] })] [8, 9] [] 0 (vals := [.int .u64 r_1.1, .int .u64 r_1.2]) (bxs := []) (by kernel_rfl) hmix (ac (rfl : ([.int .u64 x_1, .int .u64 y_1] : List AV) = [.int .u64 x_1, .int .u64 y_1]) (ac (rfl : ([] : List BoxSt) = []) (ac (bits_Mul64_ok x_1 y_1 r_1 h_1 : TripleG prog 57 [] [] [.int .u64 x_1, .int .u64 y_1] [] (.tuple [.int .u64 r_1.1, .int .u64 r_1.2])) an))) ?_
  refine aw_seq (by kernel_rfl) ?_
  refine aw_region [] [4, 5] [] 0 (vals := [.int .u64 r_1.1, .int .u64 r_1.2]) (bxs := []) (by kernel_rfl) hmix an ?_
  refine aw_ret (by kernel_rfl) ?_
  replace h := Option.some.inj h; subst h
  exact ⟨.inr rfl, Nat.le_of_ble_eq_true rfl, by kernel_rfl⟩

theorem slices_Repeat_tracebook_api_Value_tracebook_api_Value_ok (F : Nat) (x_1 : List (T_api_Value)) (count_1 : Int) (r : (List (T_api_Value))) (h : slices_Repeat_tracebook_api_Value_tracebook_api_Value F x_1 count_1 = some r) : TripleG prog 42 [] [] [.sl false 3 (List.map e_T_api_Value x_1), .int .i64 count_1] [.row 24 3 (List.map e_T_api_Value r)] (.own 0 ((r).length)) := by
  refine triple_intro (fn := Go.Proofs.Try.f42) (code := codeOf Go.Proofs.Try.f42) (by kernel_rfl) (by kernel_rfl) (Nat.le_of_ble_eq_true (by kernel_rfl)) ?_
  unfold slices_Repeat_tracebook_api_Value_tracebook_api_Value at h
  refine aw_seq (by kernel_rfl) ?_
  refine aw_region [(0, { id := 0, m := 1 })] [0, 1] [] 1 (vals := [.sl false 3 (List.map e_T_api_Value x_1), .int .i64 count_1]) (bxs := []) (by kernel_rfl) hmix an ?_
  refine aw_seq (by kernel_rfl) ?_
  refine aw_seq (by kernel_rfl) ?_
  refine aw_region [] [0, 1, 10] [] 1 (vals := [.sl false 3 (List.map e_T_api_Value x_1), .int .i64 count_1, .bool (decide (count_1 < (0 : Int)))]) (bxs := []) (by kernel_rfl) hmix an ?_
  obtain ⟨o_1, h_1, h⟩ := bind_some h
  refine aw_mid (mk [(0, .sl false 3 (List.map e_T_api_Value x_1)), (1, .int .i64 count_1)] [] 0) ?_ ?_
  · replace h := h_1
    refine aw_cond (t := 10) (b := (decide (count_1 < (0 : Int)))) (by kernel_rfl) (by kernel_rfl) ?_ ?_
    · intro g_1; replace h := cond_t g_1 h
      exact none_ne h
    intro g_1; replace h := cond_f g_1 h
    refine aw_skip (by kernel_rfl) ?_
    replace h := Option.some.inj h; subst h
    exact ⟨rfl, (sub_wkm [] [] [.s 0, .s 1] [] (by kernel_rfl) an)⟩
  refine aw_seq (by kernel_rfl) ?_
  obtain ⟨r_1, h_2, h⟩ := bind_some h
  refine aw_region [(1, { n := (x_1).length }), (5, { av := .tuple [.int .u64 r_1.1, .int .u64 r_1.2], l := [.int .u64 (w_u64 (((x_1).length : Nat) : Int)), .int .u64 (w_u64 count_1)] })] [0, 5, 6] [] 0 (vals := [.sl false 3 (List.map e_T_api_Value x_1), .int .u64 r_1.1, .int .u64 r_1.2]) (bxs := []) (by kernel_rfl) hmix (ac (vc_len _ : ((List.map e_T_api_Value x_1)).length = (x_1).length) (ac (rfl : ([.int .u64 (w_u64 (((x_1).length : Nat) : Int)), .int .u64 (w_u64 count_1)] : List AV) = [.int .u64 (w_u64 (((x_1).length : Nat) : Int)), .int .u64 (w_u64 count_1)]) (ac (rfl : ([] : List BoxSt) = []) (ac (bits_Mul_ok (w_u64 (((x_1).length : Nat) : Int)) (w_u64 count_1) r_1 h_2 : TripleG prog 52 [] [] [.int .u64 (w_u64 (((x_1).length : Nat) : Int)), .int .u64 (w_u64 count_1)] [] (.tuple [.int .u64 r_1.1, .int .u64 r_1.2])) an)))) ?_
  refine aw_seq (by kernel_rfl) ?_
  refine aw_seq (by kernel_rfl) ?_
  refine aw_mid (mk [(0, .sl false 3 (List.map e_T_api_Value x_1)), (6, .int .u64 r_1.2), (26, .bool (decide (r_1.1 > (0 : Int)) || decide (r_1.2 > (9223372036854775807 : Int))))] [] 0) ?_ ?_
  · rcases Bool.eq_false_or_eq_true (decide (r_1.1 > (0 : Int))) with gg_2 | gg_2
    · refine aw_region [(3, { g := false }), (4, { g := false }), (5, { b := true })] [0, 6, 26] [] 0 (vals := [.sl false 3 (List.map e_T_api_Value x_1), .int .u64 r_1.2, .bool true]) (bxs := []) (by kernel_rfl) hmix (ac gg_2 (ac gg_2 (ac gg_2 an))) ?_
      exact ⟨rfl, (sub_wkm [] [] [.s 0, .s 6, .a 26 (.bool (decide (r_1.1 > (0 : Int)) || decide (r_1.2 > (9223372036854775807 : Int))))] [] (by kernel_rfl) (ac (congrArg AV.bool (ort gg_2) : (.bool true : AV) = .bool (decide (r_1.1 > (0 : Int)) || decide (r_1.2 > (9223372036854775807 : Int)))) an))⟩
    · refine aw_region [(5, { b := false })] [0, 6, 26] [] 0 (vals := [.sl false 3 (List.map e_T_api_Value x_1), .int .u64 r_1.2, .bool (decide (r_1.2 > (9223372036854775807 : Int)))]) (bxs := []) (by kernel_rfl) hmix (ac gg_2 (ac gg_2 (ac gg_2 an))) ?_
      exact ⟨rfl, (sub_wkm [] [] [.s 0, .s 6, .a 26 (.bool (decide (r_1.1 > (0 : Int)) || decide (r_1.2 > (9223372036854775807 : Int))))] [] (by kernel_rfl) (ac (congrArg AV.bool (orf gg_2 rfl) : (.bool (decide (r_1.2 > (9223372036854775807 : Int))) : AV) = .bool (decide (r_1.1 > (0 : Int)) || decide (r_1.2 > (9223372036854775807 : Int)))) an))⟩
  obtain ⟨o_2, h_3, h⟩ := bind_some h
  refine aw_mid (mk [(0, .sl false 3 (List.map e_T_api_Value x_1)), (6, .int .u64 r_1.2)] [] 0) ?_ ?_
  · replace h := h_3
    refine aw_cond (t := 26) (b := (decide (r_1.1 > (0 : Int)) || decide (r_1.2 > (9223372036854775807 : Int)))) (by kernel_rfl) (by kernel_rfl) ?_ ?_
    · intro g_2; replace h := cond_t g_2 h
      exact none_ne h
    intro g_2; replace h := cond_f g_2 h
    refine aw_skip (by kernel_rfl) ?_
    replace h := Option.some.inj h; subst h
    exact ⟨rfl, (sub_wkm [] [] [.s 0, .s 6] [] (by kernel_rfl) an)⟩
  refine aw_seq (by kernel_rfl) ?_
  obtain ⟨_, h_4, h⟩ := bind_some h; replace h_4 := need_some h_4
  refine aw_region [(2, { id := 0, l := (List.map e_T_api_Value (List.replicate ((w_i64 r_1.2).toNat) (⟨(0 : Int), (0 : Int), []⟩ : T_api_Value))), m := (w_i64 r_1.2).toNat, n := (w_i64 r_1.2).toNat })] [0, 7] [0] 1 (vals := [.sl false 3 (List.map e_T_api_Value x_1), .own 0 ((w_i64 r_1.2).toNat)]) (bxs := [.live (.row 24 3 (List.map e_T_api_Value (List.replicate ((w_i64 r_1.2).toNat) (⟨(0 : Int), (0 : Int), []⟩ : T_api_Value))))]) (by kernel_rfl) hmix (ac ((Int.toNat_of_nonneg h_4.1).symm : w_i64 r_1.2 = (((w_i64 r_1.2).toNat : Nat) : Int)) (ac ((Int.toNat_of_nonneg h_4.1).symm : w_i64 r_1.2 = (((w_i64 r_1.2).toNat : Nat) : Int)) (ac (Nat.le_refl _ : ((w_i64 r_1.2).toNat) ≤ ((w_i64 r_1.2).toNat)) (ac h_4.2 (ac (vc_rep : (List.map e_T_api_Value (List.replicate ((w_i64 r_1.2).toNat) (⟨(0 : Int), (0 : Int), []⟩ : T_api_Value))) = List.replicate ((w_i64 r_1.2).toNat) (e_T_api_Value (⟨(0 : Int), (0 : Int), []⟩ : T_api_Value))) an))))) ?_
  refine aw_seq (by kernel_rfl) ?_
  obtain ⟨_, h_5, h⟩ := bind_some h; replace h_5 := need_some h_5
  refine aw_region [(2, { l := (List.map e_T_api_Value (cpy (List.replicate ((w_i64 r_1.2).toNat) (⟨(0 : Int), (0 : Int), []⟩ : T_api_Value)) 0 ((w_i64 r_1.2).toNat) x_1)), n := (min (x_1).length ((w_i64 r_1.2).toNat - 0)) })] [7, 8] [0] 1 (vals := [.own 0 ((w_i64 r_1.2).toNat), .int .i64 (((min (x_1).length ((w_i64 r_1.2).toNat - 0)) : Nat) : Int)]) (bxs := [.live (.row 24 3 (List.map e_T_api_Value (cpy (List.replicate ((w_i64 r_1.2).toNat) (⟨(0 : Int), (0 : Int), []⟩ : T_api_Value)) 0 ((w_i64 r_1.2).toNat) x_1)))]) (by kernel_rfl) hmix (ac (trivial : True) (ac h_5.1 (ac (vc_lenle' h_5.2 : ((w_i64 r_1.2).toNat) ≤ ((List.map e_T_api_Value (List.replicate ((w_i64 r_1.2).toNat) (⟨(0 : Int), (0 : Int), []⟩ : T_api_Value)))).length) (ac (by simp : (min (x_1).length ((w_i64 r_1.2).toNat - 0)) = min ((List.map e_T_api_Value x_1) : List AV).length ((w_i64 r_1.2).toNat - 0)) (ac (by simp [cpy] : (List.map e_T_api_Value (cpy (List.replicate ((w_i64 r_1.2).toNat) (⟨(0 : Int), (0 : Int), []⟩ : T_api_Value)) 0 ((w_i64 r_1.2).toNat) x_1)) = ((List.map e_T_api_Value (List.replicate ((w_i64 r_1.2).toNat) (⟨(0 : Int), (0 : Int), []⟩ : T_api_Value)))).take 0 ++ ((List.map e_T_api_Value x_1) : List AV).take (min (x_1).length ((w_i64 r_1.2).toNat - 0)) ++ ((List.map e_T_api_Value (List.replicate ((w_i64 r_1.2).toNat) (⟨(0 : Int), (0 : Int), []⟩ : T_api_Value)))).drop (0 + (min (x_1).length ((w_i64 r_1.2).toNat - 0)))) an))))) ?_
  refine aw_seq (by kernel_rfl) ?_
  obtain ⟨o_3, h_6, h⟩ := bind_some h
  refine aw_mid (mk [(7, .own 0 ((o_3).length))] [(0, .live (.row 24 3 (List.map e_T_api_Value o_3)))] 1) ?_ ?_
  · replace h := h_6
    refine aw_block (id := 0) (by kernel_rfl) ?_
    refine aw_sub (sub_wkm [0] [] [.a 7 (.own 0 (((cpy (List.replicate ((w_i64 r_1.2).toNat) (⟨(0 : Int), (0 : Int), []⟩ : T_api_Value)) 0 ((w_i64 r_1.2).toNat) x_1)).length)), .s 8] [.s 0] (sl2 := [(7, .own 0 (((cpy (List.replicate ((w_i64 r_1.2).toNat) (⟨(0 : Int), (0 : Int), []⟩ : T_api_Value)) 0 ((w_i64 r_1.2).toNat) x_1)).length)), (8, .int .i64 (((min (x_1).length ((w_i64 r_1.2).toNat - 0)) : Nat) : Int))]) (bx2 := [(0, .live (.row 24 3 (List.map e_T_api_Value (cpy (List.replicate ((w_i64 r_1.2).toNat) (⟨(0 : Int), (0 : Int), []⟩ : T_api_Value)) 0 ((w_i64 r_1.2).toNat) x_1))))]) (by kernel_rfl) (ac (congrArg (AV.own _) ((cpy_len h_5.1 h_5.2).trans List.length_replicate).symm : (.own 0 ((w_i64 r_1.2).toNat) : AV) = .own 0 (((cpy (List.replicate ((w_i64 r_1.2).toNat) (⟨(0 : Int), (0 : Int), []⟩ : T_api_Value)) 0 ((w_i64 r_1.2).toNat) x_1)).length)) an)) ?_
    refine aw_loopF (fun n st => ∃ (n_1 : Int), ∃ (row_1 : List T_api_Value), st = mk [(7, .own 0 ((row_1).length)), (8, .int .i64 n_1)] [(0, .live (.row 24 3 (List.map e_T_api_Value row_1)))] 1 ∧ slices_Repeat_tracebook_api_Value_tracebook_api_Value_L1 F n n_1 row_1 = some o_3) F (by kernel_rfl) ⟨_, _, rfl, h⟩ ?_ ?_
    · rintro _ ⟨_, _, _, h⟩; exact none_ne (h : (none : Option (List T_api_Value)) = some o_3)
    rintro n_2 _ ⟨n_1, row_1, rfl, h⟩
    replace h : slices_Repeat_tracebook_api_Value_tracebook_api_Value_L1_body F (slices_Repeat_tracebook_api_Value_tracebook_api_Value_L1 F n_2) n_1 row_1 = some o_3 := h
    unfold slices_Repeat_tracebook_api_Value_tracebook_api_Value_L1_body at h
    refine aw_seq (by kernel_rfl) ?_
    refine aw_seq (by kernel_rfl) ?_
    refine aw_region [] [7, 8, 37] [0] 1 (vals := [.own 0 ((row_1).length), .int .i64 n_1, .bool (decide (n_1 < (((row_1).length : Nat) : Int)))]) (bxs := [.live (.row 24 3 (List.map e_T_api_Value row_1))]) (by kernel_rfl) hmix an ?_
    refine aw_cond (t := 37) (b := (decide (n_1 < (((row_1).length : Nat) : Int)))) (by kernel_rfl) (by kernel_rfl) ?_ ?_
    rotate_left
    · intro g_3; replace h := cond_f g_3 h
      refine aw_exit (id := 0) (by kernel_rfl) ?_
      replace h := Option.some.inj h; subst h
      exact ⟨rfl, (sub_wkm [0] [] [.s 7] [.s 0] (by kernel_rfl) an)⟩
    intro g_3; replace h := cond_t g_3 h
    refine aw_skip (by kernel_rfl) ?_
    refine aw_block (id := 1) (by kernel_rfl) ?_
    obtain ⟨_, h_7, h⟩ := bind_some h; replace h_7 := need_some h_7
    obtain ⟨_, h_8, h⟩ := bind_some h; replace h_8 := need_some h_8
    obtain ⟨_, h_9, h⟩ := bind_some h; replace h_9 := need_some h_9
    obtain ⟨_, h_10, h⟩ := bind_some h; replace h_10 := need_some h_10
    refine aw_region [(7, { l := (List.map e_T_api_Value (cpy row_1 ((n_1).toNat) ((row_1).length) (((row_1).take ((n_1).toNat)).drop 0))), n := (min (((row_1).take ((n_1).toNat)).drop 0).length ((row_1).length - (n_1).toNat)) })] [7, 8] [0] 1 (vals := [.own 0 ((row_1).length), .int .i64 (w_i64 (n_1 + (((min (((row_1).take ((n_1).toNat)).drop 0).length ((row_1).length - (n_1).toNat)) : Nat) : Int)))]) (bxs := [.live (.row 24 3 (List.map e_T_api_Value (cpy row_1 ((n_1).toNat) ((row_1).length) (((row_1).take ((n_1).toNat)).drop 0))))]) (by kernel_rfl) hmix (ac h_7.1 (ac h_7.2 (ac (Int.le_refl _ : (((row_1).length : Nat) : Int) ≤ (((row_1).length : Nat) : Int)) (ac (by decide : (0 : Int) ≤ (0 : Int)) (ac h_8.1 (ac h_8.2 (ac (vc_lenle' h_9.2 : ((n_1).toNat) ≤ ((List.map e_T_api_Value row_1)).length) (ac h_9.1 (ac h_10.1 (ac (vc_lenle' h_10.2 : ((row_1).length) ≤ ((List.map e_T_api_Value row_1)).length) (ac (by simp : (min (((row_1).take ((n_1).toNat)).drop 0).length ((row_1).length - (n_1).toNat)) = min ((((List.map e_T_api_Value row_1)).take ((n_1).toNat)).drop 0 : List AV).length ((row_1).length - (n_1).toNat)) (ac (by simp [cpy] : (List.map e_T_api_Value (cpy row_1 ((n_1).toNat) ((row_1).length) (((row_1).take ((n_1).toNat)).drop 0))) = ((List.map e_T_api_Value row_1)).take ((n_1).toNat) ++ ((((List.map e_T_api_Value row_1)).take ((n_1).toNat)).drop 0 : List AV).take (min (((row_1).take ((n_1).toNat)).drop 0).length ((row_1).length - (n_1).toNat)) ++ ((List.map e_T_api_Value row_1)).drop ((n_1).toNat + (min (((row_1).take ((n_1).toNat)).drop 0).length ((row_1).length - (n_1).toNat)))) an)))))))))))) ?_
    exact ⟨_, (sub_wkm [0] [] [.a 7 (.own 0 (((cpy row_1 ((n_1).toNat) ((row_1).length) (((row_1).take ((n_1).toNat)).drop 0))).length)), .s 8] [.s 0] (by kernel_rfl) (ac (congrArg (AV.own _) (cpy_len h_10.1 h_10.2).symm : (.own 0 ((row_1).length) : AV) = .own 0 (((cpy row_1 ((n_1).toNat) ((row_1).length) (((row_1).take ((n_1).toNat)).drop 0))).length)) an)), _, _, rfl, h⟩
  refine aw_seq (by kernel_rfl) ?_
  refine aw_region [] [4] [0] 1 (vals := [.own 0 ((o_3).length)]) (bxs := [.live (.row 24 3 (List.map e_T_api_Value o_3))]) (by kernel_rfl) hmix an ?_
  refine aw_sub (sub_wkm [0] [] [.s 4] [.s 0] (sl2 := [(4, .own 0 ((o_3).length))]) (bx2 := [(0, .live (.row 24 3 (List.map e_T_api_Value o_3)))]) (by kernel_rfl) an) ?_
  refine aw_ret (by kernel_rfl) ?_
  replace h := Option.some.inj h; subst h
  exact ⟨.inr rfl, Nat.le_of_ble_eq_true rfl, by kernel_rfl⟩

end Go.Ab
