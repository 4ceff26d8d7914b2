/- Printed: the typed Lean functions of the Go functions, or the proofs that the Go functions meet them. No conditions but those that the theorems name. -/
import Derived.Test.YtefkcplneflhgaaP33xD
import Derived.Test.YtefkcplneflhgaaProg
namespace Go.Ab
open Go
set_option linter.unusedVariables false
noncomputable abbrev prog := Go.Proofs.Try.prog
theorem hmix : prog.follows .mixedOrders = true := by kernel_rfl
theorem keyOk_24 : KeyOk prog 24 true [.int .i64, .int .i64, .str] := keyOk_agg (by kernel_rfl) (by kernel_rfl) (by kernel_rfl) (by kernel_rfl)
theorem inj_T_api_Value : ∀ a b : T_api_Value, e_T_api_Value a = e_T_api_Value b → a = b := by
  intro a b h
  cases a; cases b; simpa [e_T_api_Value, v_T_api_Value] using h
theorem eqOk_24 : EqOk prog 24 [.int .i64, .int .i64, .str] := eqOk_agg keyOk_24 (by kernel_rfl) (by kernel_rfl)

theorem num_In_ok (n_1 : Int) (r : Bool) (h : num_In n_1 = some r) : TripleG prog 19 [] [] [Ii n_1] [] (.bool r) := by
 refine triple_intro (fn := Go.Proofs.Try.f19) (code := codeOf Go.Proofs.Try.f19) (by kernel_rfl) (by kernel_rfl) (Nat.le_of_ble_eq_true (by kernel_rfl)) ?_
 unfold num_In at h
 refine sr [] [0] [] 0 [Ii n_1] [] hmix an ?_
 refine sq ?_
 refine aw_mid (mk [(2, .bool (decide (n_1 ≥ (-1000000000000000 : Int)) && decide (n_1 ≤ (1000000000000000 : Int))))] [] 0) ?_ ?_
 ·rcases bft (decide (n_1 ≥ (-1000000000000000 : Int))) with gg_1 | gg_1
  ·refine rg [(5, Ht)] [2] [] 0 [.bool (decide (n_1 ≤ (1000000000000000 : Int)))] [] hmix (ac gg_1 (ac gg_1 (ac gg_1 an))) ?_
   exact ⟨rfl, (sw [] [] [.a 2 (.bool (decide (n_1 ≥ (-1000000000000000 : Int)) && decide (n_1 ≤ (1000000000000000 : Int))))] [] (ac (congrArg AV.bool (andt gg_1 rfl) : (.bool (decide (n_1 ≤ (1000000000000000 : Int))) : AV) = .bool (decide (n_1 ≥ (-1000000000000000 : Int)) && decide (n_1 ≤ (1000000000000000 : Int)))) an))⟩
  ·refine rg [(3, Hg), (4, Hg), (5, Hf)] [2] [] 0 [.bool false] [] hmix (ac gg_1 (ac gg_1 (ac gg_1 an))) ?_
   exact ⟨rfl, (sw [] [] [.a 2 (.bool (decide (n_1 ≥ (-1000000000000000 : Int)) && decide (n_1 ≤ (1000000000000000 : Int))))] [] (ac (congrArg AV.bool (andf gg_1) : (.bool false : AV) = .bool (decide (n_1 ≥ (-1000000000000000 : Int)) && decide (n_1 ≤ (1000000000000000 : Int)))) an))⟩
 refine rt ?_
 cases h
 exact ⟨.inr rfl, Nat.le_of_ble_eq_true rfl, by kernel_rfl⟩

theorem column_Value_ok (k_1 : Int) (a_1 : T_api_Value) (r : Int) (h : column_Value k_1 a_1 = some r) : TripleG prog 8 [] [] [Ii k_1, e_T_api_Value a_1] [] (Ii r) := by
 refine triple_intro (fn := Go.Proofs.Try.f8) (code := codeOf Go.Proofs.Try.f8) (by kernel_rfl) (by kernel_rfl) (Nat.le_of_ble_eq_true (by kernel_rfl)) ?_
 unfold column_Value at h
 refine sr [(0, { id := 0 })] [0, 3] [0] 1 [Ii k_1, Pp 0] [Vb 24 (v_T_api_Value a_1)] hmix an ?_
 refine sq ?_
 refine aw_mid (mk [(0, Ii k_1), (3, Pp 0), (5, .bool ((k_1 == (1 : Int)) || ((k_1 == (2 : Int)) || (k_1 == (3 : Int)))))] [(0, Vb 24 (v_T_api_Value a_1))] 1) ?_ ?_
 ·rcases bft (k_1 == (1 : Int)) with gg_1 | gg_1
  ·refine rg [(3, Hg), (4, Hg), (5, Ht), (7, Hg), (8, Hg), (9, Ht)] [0, 3, 5] [0] 1 [Ii k_1, Pp 0, .bool true] [Vb 24 (v_T_api_Value a_1)] hmix (ac gg_1 (ac gg_1 (ac gg_1 (ax (ax (ar true an)))))) ?_
   exact ⟨rfl, (sw [0] [] [.s 0, .s 3, .a 5 (.bool ((k_1 == (1 : Int)) || ((k_1 == (2 : Int)) || (k_1 == (3 : Int)))))] [.s 0] (ac (congrArg AV.bool (ort gg_1) : (.bool true : AV) = .bool ((k_1 == (1 : Int)) || ((k_1 == (2 : Int)) || (k_1 == (3 : Int))))) an))⟩
  ·rcases bft (k_1 == (2 : Int)) with gg_2 | gg_2
   ·refine rg [(5, Hf), (7, Hg), (8, Hg), (9, Ht)] [0, 3, 5] [0] 1 [Ii k_1, Pp 0, .bool true] [Vb 24 (v_T_api_Value a_1)] hmix (ac gg_1 (ac gg_1 (ac gg_1 (ac gg_2 (ac gg_2 (ac gg_2 an)))))) ?_
    exact ⟨rfl, (sw [0] [] [.s 0, .s 3, .a 5 (.bool ((k_1 == (1 : Int)) || ((k_1 == (2 : Int)) || (k_1 == (3 : Int)))))] [.s 0] (ac (congrArg AV.bool (orf gg_1 (ort gg_2)) : (.bool true : AV) = .bool ((k_1 == (1 : Int)) || ((k_1 == (2 : Int)) || (k_1 == (3 : Int))))) an))⟩
   ·refine rg [(5, Hf), (9, Hf)] [0, 3, 5] [0] 1 [Ii k_1, Pp 0, .bool (k_1 == (3 : Int))] [Vb 24 (v_T_api_Value a_1)] hmix (ac gg_1 (ac gg_1 (ac gg_1 (ac gg_2 (ac gg_2 (ac gg_2 an)))))) ?_
    exact ⟨rfl, (sw [0] [] [.s 0, .s 3, .a 5 (.bool ((k_1 == (1 : Int)) || ((k_1 == (2 : Int)) || (k_1 == (3 : Int)))))] [.s 0] (ac (congrArg AV.bool (orf gg_1 (orf gg_2 rfl)) : (.bool (k_1 == (3 : Int)) : AV) = .bool ((k_1 == (1 : Int)) || ((k_1 == (2 : Int)) || (k_1 == (3 : Int))))) an))⟩
 refine sq ?_
 refine aw_block (id := 0) (by kernel_rfl) ?_
 refine sq ?_
 refine aw_mid (mk [(3, Pp 0), (16, .bool ((a_1.Kind != (0 : Int)) && ((a_1.Kind != k_1) || !((k_1 == (1 : Int)) || ((k_1 == (2 : Int)) || (k_1 == (3 : Int)))))))] [(0, Vb 24 (v_T_api_Value a_1))] 1) ?_ ?_
 ·rcases bft (a_1.Kind != (0 : Int)) with gg_3 | gg_3
  ·rcases bft (a_1.Kind != k_1) with gg_4 | gg_4
   ·refine rg [(9, Hg), (10, Hg), (11, Ht), (12, Ht)] [3, 16] [0] 1 [Pp 0, .bool true] [Vb 24 (v_T_api_Value a_1)] hmix (ac gg_3 (ac gg_3 (ac gg_3 (ac gg_3 (ac gg_3 (ac gg_4 (ac gg_4 (ac gg_3 (ac gg_4 (ac gg_3 an)))))))))) ?_
    exact ⟨rfl, (sw [0] [] [.s 3, .a 16 (.bool ((a_1.Kind != (0 : Int)) && ((a_1.Kind != k_1) || !((k_1 == (1 : Int)) || ((k_1 == (2 : Int)) || (k_1 == (3 : Int)))))))] [.s 0] (ac (congrArg AV.bool (andt gg_3 (ort gg_4)) : (.bool true : AV) = .bool ((a_1.Kind != (0 : Int)) && ((a_1.Kind != k_1) || !((k_1 == (1 : Int)) || ((k_1 == (2 : Int)) || (k_1 == (3 : Int))))))) an))⟩
   ·refine rg [(11, Hf), (12, Ht)] [3, 16] [0] 1 [Pp 0, .bool (!((k_1 == (1 : Int)) || ((k_1 == (2 : Int)) || (k_1 == (3 : Int)))))] [Vb 24 (v_T_api_Value a_1)] hmix (ac gg_3 (ac gg_3 (ac gg_3 (ac gg_3 (ac gg_3 (ac gg_4 (ac gg_4 (ac gg_3 (ac gg_4 (ac gg_3 an)))))))))) ?_
    exact ⟨rfl, (sw [0] [] [.s 3, .a 16 (.bool ((a_1.Kind != (0 : Int)) && ((a_1.Kind != k_1) || !((k_1 == (1 : Int)) || ((k_1 == (2 : Int)) || (k_1 == (3 : Int)))))))] [.s 0] (ac (congrArg AV.bool (andt gg_3 (orf gg_4 rfl)) : (.bool (!((k_1 == (1 : Int)) || ((k_1 == (2 : Int)) || (k_1 == (3 : Int))))) : AV) = .bool ((a_1.Kind != (0 : Int)) && ((a_1.Kind != k_1) || !((k_1 == (1 : Int)) || ((k_1 == (2 : Int)) || (k_1 == (3 : Int))))))) an))⟩
  ·refine rg [(4, Hg), (5, Hg), (6, Hg), (7, Hg), (8, Hg), (11, Hg), (12, Hf)] [3, 16] [0] 1 [Pp 0, .bool false] [Vb 24 (v_T_api_Value a_1)] hmix (ac gg_3 (ac gg_3 (ac gg_3 (ac gg_3 (ac gg_3 (ac gg_3 (ac gg_3 an))))))) ?_
   exact ⟨rfl, (sw [0] [] [.s 3, .a 16 (.bool ((a_1.Kind != (0 : Int)) && ((a_1.Kind != k_1) || !((k_1 == (1 : Int)) || ((k_1 == (2 : Int)) || (k_1 == (3 : Int)))))))] [.s 0] (ac (congrArg AV.bool (andf gg_3) : (.bool false : AV) = .bool ((a_1.Kind != (0 : Int)) && ((a_1.Kind != k_1) || !((k_1 == (1 : Int)) || ((k_1 == (2 : Int)) || (k_1 == (3 : Int))))))) an))⟩
 refine cd 16 ((a_1.Kind != (0 : Int)) && ((a_1.Kind != k_1) || !((k_1 == (1 : Int)) || ((k_1 == (2 : Int)) || (k_1 == (3 : Int)))))) ?_ ?_
 ·intro g_1; replace h := cond_t g_1 h
  refine sr [] [4] [] 1 [Ii 14] [] hmix an ?_
  refine rt ?_
  cases h
  exact ⟨.inr rfl, Nat.le_of_ble_eq_true rfl, by kernel_rfl⟩
 intro g_1; replace h := cond_f g_1 h
 refine sq ?_
 refine sq ?_
 refine aw_mid (mk [(3, Pp 0), (30, .bool ((a_1.Kind == (1 : Int)) && ((a_1.N != (0 : Int)) && (a_1.N != (1 : Int)))))] [(0, Vb 24 (v_T_api_Value a_1))] 1) ?_ ?_
 ·rcases bft (a_1.Kind == (1 : Int)) with gg_5 | gg_5
  ·rcases bft (a_1.N != (0 : Int)) with gg_6 | gg_6
   ·refine rg [(7, Ht), (12, Ht)] [3, 30] [0] 1 [Pp 0, .bool (a_1.N != (1 : Int))] [Vb 24 (v_T_api_Value a_1)] hmix (ac gg_5 (ac gg_5 (ac gg_5 (ac gg_5 (ac gg_6 (ac gg_6 (ac gg_6 (ac gg_6 an)))))))) ?_
    exact ⟨rfl, (sw [0] [] [.s 3, .a 30 (.bool ((a_1.Kind == (1 : Int)) && ((a_1.N != (0 : Int)) && (a_1.N != (1 : Int)))))] [.s 0] (ac (congrArg AV.bool (andt gg_5 (andt gg_6 rfl)) : (.bool (a_1.N != (1 : Int)) : AV) = .bool ((a_1.Kind == (1 : Int)) && ((a_1.N != (0 : Int)) && (a_1.N != (1 : Int))))) an))⟩
   ·refine rg [(7, Ht), (9, Hg), (10, Hg), (11, Hg), (12, Hf)] [3, 30] [0] 1 [Pp 0, .bool false] [Vb 24 (v_T_api_Value a_1)] hmix (ac gg_5 (ac gg_5 (ac gg_5 (ac gg_5 (ac gg_6 (ac gg_6 (ac gg_6 (ac gg_6 an)))))))) ?_
    exact ⟨rfl, (sw [0] [] [.s 3, .a 30 (.bool ((a_1.Kind == (1 : Int)) && ((a_1.N != (0 : Int)) && (a_1.N != (1 : Int)))))] [.s 0] (ac (congrArg AV.bool (andt gg_5 (andf gg_6)) : (.bool false : AV) = .bool ((a_1.Kind == (1 : Int)) && ((a_1.N != (0 : Int)) && (a_1.N != (1 : Int))))) an))⟩
  ·refine rg [(4, Hg), (5, Hg), (6, Hg), (7, Hf), (9, Hg), (10, Hg), (11, Hg), (12, Hf)] [3, 30] [0] 1 [Pp 0, .bool false] [Vb 24 (v_T_api_Value a_1)] hmix (ac gg_5 (ac gg_5 (ac gg_5 (ac gg_5 (ac (rfl : false = !true) (ac (rfl : false = !true) (ac (rfl : false = !true) (ar false an)))))))) ?_
   exact ⟨rfl, (sw [0] [] [.s 3, .a 30 (.bool ((a_1.Kind == (1 : Int)) && ((a_1.N != (0 : Int)) && (a_1.N != (1 : Int)))))] [.s 0] (ac (congrArg AV.bool (andf gg_5) : (.bool false : AV) = .bool ((a_1.Kind == (1 : Int)) && ((a_1.N != (0 : Int)) && (a_1.N != (1 : Int))))) an))⟩
 obtain ⟨o_1, h_1, h⟩ := bind_some h
 refine aw_mid (mk [(3, Pp 0), (30, .bool o_1)] [(0, Vb 24 (v_T_api_Value a_1))] 1) ?_ ?_
 ·replace h := h_1
  refine cd 30 ((a_1.Kind == (1 : Int)) && ((a_1.N != (0 : Int)) && (a_1.N != (1 : Int)))) ?_ ?_
  ·intro g_2; replace h := cond_t g_2 h
   refine sk ?_
   cases h
   exact ⟨rfl, (sw [0] [] [.s 3, .s 30] [.s 0] an)⟩
  intro g_2; replace h := cond_f g_2 h
  obtain ⟨p_1, h_3, h⟩ := bind_some h
  refine aw_mid (mk [(3, Pp 0), (30, .bool p_1)] [(0, Vb 24 (v_T_api_Value a_1))] 1) ?_ ?_
  ·replace h := h_3
   rcases bft (a_1.Kind == (2 : Int)) with gg_8 | gg_8
   ·replace h := cond_t gg_8 h
    obtain ⟨r_1, h_2, h⟩ := bind_some h
    refine rg [(6, { av := .bool r_1, l := [Ii a_1.N] }), (8, Ht)] [3, 30] [0] 1 [Pp 0, .bool (!r_1)] [Vb 24 (v_T_api_Value a_1)] hmix (ac gg_8 (ac gg_8 (ac gg_8 (ar ([Ii a_1.N] : List AV) (ac (rfl : ([] : List BoxSt) = []) (ac (num_In_ok a_1.N r_1 h_2 : TripleG prog 19 [] [] [Ii a_1.N] [] (.bool r_1)) (ac gg_8 (ac gg_8 an)))))))) ?_
    cases h
    exact ⟨rfl, (sw [0] [] [.s 3, .s 30] [.s 0] an)⟩
   ·replace h := cond_f gg_8 h
    refine rg [(4, Hg), (5, Hg), (6, Hg), (7, Hg), (8, Hf)] [3, 30] [0] 1 [Pp 0, .bool false] [Vb 24 (v_T_api_Value a_1)] hmix (ac gg_8 (ac gg_8 (ac gg_8 (ac gg_8 (ac gg_8 an))))) ?_
    cases h
    exact ⟨rfl, (sw [0] [] [.s 3, .s 30] [.s 0] an)⟩
  cases h
  exact ⟨rfl, (sw [0] [] [.s 3, .s 30] [.s 0] an)⟩
 refine cd 30 o_1 ?_ ?_
 ·intro g_3; replace h := cond_t g_3 h
  refine sr [] [4] [] 1 [Ii 2] [] hmix an ?_
  refine rt ?_
  cases h
  exact ⟨.inr rfl, Nat.le_of_ble_eq_true rfl, by kernel_rfl⟩
 intro g_3; replace h := cond_f g_3 h
 refine sq ?_
 refine aw_mid (mk [(3, Pp 0), (53, .bool ((a_1.Kind == (3 : Int)) && decide ((lN (a_1.S)) > (200 : Int))))] [(0, Vb 24 (v_T_api_Value a_1))] 1) ?_ ?_
 ·rcases bft (a_1.Kind == (3 : Int)) with gg_9 | gg_9
  ·refine rg [(8, Ht)] [3, 53] [0] 1 [Pp 0, .bool (decide ((lN (a_1.S)) > (200 : Int)))] [Vb 24 (v_T_api_Value a_1)] hmix (ac gg_9 (ac gg_9 (ac gg_9 (ac gg_9 (ac gg_9 an))))) ?_
   exact ⟨rfl, (sw [0] [] [.s 3, .a 53 (.bool ((a_1.Kind == (3 : Int)) && decide ((lN (a_1.S)) > (200 : Int))))] [.s 0] (ac (congrArg AV.bool (andt gg_9 rfl) : (.bool (decide ((lN (a_1.S)) > (200 : Int))) : AV) = .bool ((a_1.Kind == (3 : Int)) && decide ((lN (a_1.S)) > (200 : Int)))) an))⟩
  ·refine rg [(4, Hg), (5, Hg), (6, Hg), (7, Hg), (8, Hf)] [3, 53] [0] 1 [Pp 0, .bool false] [Vb 24 (v_T_api_Value a_1)] hmix (ac gg_9 (ac gg_9 (ac gg_9 (ac gg_9 (ac gg_9 an))))) ?_
   exact ⟨rfl, (sw [0] [] [.s 3, .a 53 (.bool ((a_1.Kind == (3 : Int)) && decide ((lN (a_1.S)) > (200 : Int))))] [.s 0] (ac (congrArg AV.bool (andf gg_9) : (.bool false : AV) = .bool ((a_1.Kind == (3 : Int)) && decide ((lN (a_1.S)) > (200 : Int)))) an))⟩
 refine cd 53 ((a_1.Kind == (3 : Int)) && decide ((lN (a_1.S)) > (200 : Int))) ?_ ?_
 ·intro g_4; replace h := cond_t g_4 h
  refine sr [] [4] [] 1 [Ii 7] [] hmix an ?_
  refine rt ?_
  cases h
  exact ⟨.inr rfl, Nat.le_of_ble_eq_true rfl, by kernel_rfl⟩
 intro g_4; replace h := cond_f g_4 h
 refine sq ?_
 refine sq ?_
 refine aw_mid (mk [(3, Pp 0), (63, .bool ((a_1.Kind != (3 : Int)) && !(a_1.S == ([] : List Int))))] [(0, Vb 24 (v_T_api_Value a_1))] 1) ?_ ?_
 ·rcases bft (a_1.Kind != (3 : Int)) with gg_10 | gg_10
  ·refine rg [(7, Ht)] [3, 63] [0] 1 [Pp 0, .bool (!(a_1.S == ([] : List Int)))] [Vb 24 (v_T_api_Value a_1)] hmix (ac gg_10 (ac gg_10 (ac gg_10 (ac gg_10 an)))) ?_
   exact ⟨rfl, (sw [0] [] [.s 3, .a 63 (.bool ((a_1.Kind != (3 : Int)) && !(a_1.S == ([] : List Int))))] [.s 0] (ac (congrArg AV.bool (andt gg_10 rfl) : (.bool (!(a_1.S == ([] : List Int))) : AV) = .bool ((a_1.Kind != (3 : Int)) && !(a_1.S == ([] : List Int)))) an))⟩
  ·refine rg [(4, Hg), (5, Hg), (6, Hg), (7, Hf)] [3, 63] [0] 1 [Pp 0, .bool false] [Vb 24 (v_T_api_Value a_1)] hmix (ac gg_10 (ac gg_10 (ac gg_10 (ac gg_10 an)))) ?_
   exact ⟨rfl, (sw [0] [] [.s 3, .a 63 (.bool ((a_1.Kind != (3 : Int)) && !(a_1.S == ([] : List Int))))] [.s 0] (ac (congrArg AV.bool (andf gg_10) : (.bool false : AV) = .bool ((a_1.Kind != (3 : Int)) && !(a_1.S == ([] : List Int)))) an))⟩
 refine cd 63 ((a_1.Kind != (3 : Int)) && !(a_1.S == ([] : List Int))) ?_ ?_
 ·intro g_5; replace h := cond_t g_5 h
  refine sk ?_
  refine cd 63 ((a_1.Kind != (3 : Int)) && !(a_1.S == ([] : List Int))) ?_ ?_
  rotate_left
  ·intro hg; exact Bool.noConfusion ((g_5).symm.trans hg)
  intro _
  refine sr [] [4] [] 1 [Ii 1] [] hmix an ?_
  refine rt ?_
  cases h
  exact ⟨.inr rfl, Nat.le_of_ble_eq_true rfl, by kernel_rfl⟩
 intro g_5; replace h := cond_f g_5 h
 refine aw_mid (mk [(63, .bool (bif (a_1.Kind == (0 : Int)) then (a_1.N != (0 : Int)) else ((a_1.Kind == (3 : Int)) && (a_1.N != (0 : Int)))))] [] 0) ?_ ?_
 ·rcases bft (a_1.Kind == (0 : Int)) with gg_11 | gg_11
  ·refine rg [(4, Hg), (5, Hg), (6, Hg), (7, Ht), (12, Ht)] [63] [] 1 [.bool (a_1.N != (0 : Int))] [] hmix (ac gg_11 (ac gg_11 (ac gg_11 (ac gg_11 (ar true (ar true (ar true (ar true an)))))))) ?_
   exact ⟨rfl, (sw [] [] [.a 63 (.bool (bif (a_1.Kind == (0 : Int)) then (a_1.N != (0 : Int)) else ((a_1.Kind == (3 : Int)) && (a_1.N != (0 : Int)))))] [] (ac (congrArg AV.bool (ctr gg_11 rfl) : (.bool (a_1.N != (0 : Int)) : AV) = .bool (bif (a_1.Kind == (0 : Int)) then (a_1.N != (0 : Int)) else ((a_1.Kind == (3 : Int)) && (a_1.N != (0 : Int))))) an))⟩
  ·rcases bft (a_1.Kind == (3 : Int)) with gg_12 | gg_12
   ·refine rg [(7, Hf), (12, Ht)] [63] [] 1 [.bool (a_1.N != (0 : Int))] [] hmix (ac gg_11 (ac gg_11 (ac gg_11 (ac gg_11 (ac gg_12 (ac gg_12 (ac gg_12 (ac gg_12 an)))))))) ?_
    exact ⟨rfl, (sw [] [] [.a 63 (.bool (bif (a_1.Kind == (0 : Int)) then (a_1.N != (0 : Int)) else ((a_1.Kind == (3 : Int)) && (a_1.N != (0 : Int)))))] [] (ac (congrArg AV.bool (cfr gg_11 (andt gg_12 rfl)) : (.bool (a_1.N != (0 : Int)) : AV) = .bool (bif (a_1.Kind == (0 : Int)) then (a_1.N != (0 : Int)) else ((a_1.Kind == (3 : Int)) && (a_1.N != (0 : Int))))) an))⟩
   ·refine rg [(7, Hf), (9, Hg), (10, Hg), (11, Hg), (12, Hf)] [63] [] 1 [.bool false] [] hmix (ac gg_11 (ac gg_11 (ac gg_11 (ac gg_11 (ac gg_12 (ac gg_12 (ac gg_12 (ac gg_12 an)))))))) ?_
    exact ⟨rfl, (sw [] [] [.a 63 (.bool (bif (a_1.Kind == (0 : Int)) then (a_1.N != (0 : Int)) else ((a_1.Kind == (3 : Int)) && (a_1.N != (0 : Int)))))] [] (ac (congrArg AV.bool (cfr gg_11 (andf gg_12)) : (.bool false : AV) = .bool (bif (a_1.Kind == (0 : Int)) then (a_1.N != (0 : Int)) else ((a_1.Kind == (3 : Int)) && (a_1.N != (0 : Int))))) an))⟩
 refine cd 63 (bif (a_1.Kind == (0 : Int)) then (a_1.N != (0 : Int)) else ((a_1.Kind == (3 : Int)) && (a_1.N != (0 : Int)))) ?_ ?_
 ·intro g_6; replace h := cond_t g_6 h
  refine sr [] [4] [] 0 [Ii 1] [] hmix an ?_
  refine rt ?_
  cases h
  exact ⟨.inr rfl, Nat.le_of_ble_eq_true rfl, by kernel_rfl⟩
 intro g_6; replace h := cond_f g_6 h
 refine sk ?_
 refine sr [] [4] [] 0 [Ii 0] [] hmix an ?_
 refine rt ?_
 cases h
 exact ⟨.inr rfl, Nat.le_of_ble_eq_true rfl, by kernel_rfl⟩

theorem R01_In_ok (n_1 : Int) (r : Bool) (h : R01_In n_1 = some r) : TripleG prog 20 [] [] [Ii n_1] [] (.bool r) := by
 refine triple_intro (fn := Go.Proofs.Try.f20) (code := codeOf Go.Proofs.Try.f20) (by kernel_rfl) (by kernel_rfl) (Nat.le_of_ble_eq_true (by kernel_rfl)) ?_
 unfold R01_In at h
 refine sr [] [0] [] 0 [Ii n_1] [] hmix an ?_
 refine sq ?_
 refine aw_mid (mk [(2, .bool (decide (n_1 ≥ (-1000000000000000 : Int)) && decide (n_1 ≤ (1000000000000000 : Int))))] [] 0) ?_ ?_
 ·rcases bft (decide (n_1 ≥ (-1000000000000000 : Int))) with gg_1 | gg_1
  ·refine rg [(5, Ht)] [2] [] 0 [.bool (decide (n_1 ≤ (1000000000000000 : Int)))] [] hmix (ac gg_1 (ac gg_1 (ac gg_1 an))) ?_
   exact ⟨rfl, (sw [] [] [.a 2 (.bool (decide (n_1 ≥ (-1000000000000000 : Int)) && decide (n_1 ≤ (1000000000000000 : Int))))] [] (ac (congrArg AV.bool (andt gg_1 rfl) : (.bool (decide (n_1 ≤ (1000000000000000 : Int))) : AV) = .bool (decide (n_1 ≥ (-1000000000000000 : Int)) && decide (n_1 ≤ (1000000000000000 : Int)))) an))⟩
  ·refine rg [(3, Hg), (4, Hg), (5, Hf)] [2] [] 0 [.bool false] [] hmix (ac gg_1 (ac gg_1 (ac gg_1 an))) ?_
   exact ⟨rfl, (sw [] [] [.a 2 (.bool (decide (n_1 ≥ (-1000000000000000 : Int)) && decide (n_1 ≤ (1000000000000000 : Int))))] [] (ac (congrArg AV.bool (andf gg_1) : (.bool false : AV) = .bool (decide (n_1 ≥ (-1000000000000000 : Int)) && decide (n_1 ≤ (1000000000000000 : Int)))) an))⟩
 refine rt ?_
 cases h
 exact ⟨.inr rfl, Nat.le_of_ble_eq_true rfl, by kernel_rfl⟩

theorem R33_Value_ok (k_1 : Int) (a_1 : T_api_Value) (r : Int) (h : R33_Value k_1 a_1 = some r) : TripleG prog 9 [] [] [Ii k_1, e_T_api_Value a_1] [] (Ii r) := by
 refine triple_intro (fn := Go.Proofs.Try.f9) (code := codeOf Go.Proofs.Try.f9) (by kernel_rfl) (by kernel_rfl) (Nat.le_of_ble_eq_true (by kernel_rfl)) ?_
 unfold R33_Value at h
 refine sr [(0, { id := 0 })] [0, 3] [0] 1 [Ii k_1, Pp 0] [Vb 24 (v_T_api_Value a_1)] hmix an ?_
 refine sq ?_
 refine sq ?_
 refine aw_mid (mk [(3, Pp 0), (21, .bool ((a_1.Kind != (0 : Int)) && ((a_1.Kind != k_1) || (decide (k_1 < (1 : Int)) || decide (k_1 > (3 : Int))))))] [(0, Vb 24 (v_T_api_Value a_1))] 1) ?_ ?_
 ·rcases bft (a_1.Kind != (0 : Int)) with gg_1 | gg_1
  ·rcases bft (a_1.Kind != k_1) with gg_2 | gg_2
   ·refine rg [(9, Hg), (10, Hg), (11, Ht), (13, Hg), (14, Hg), (15, Ht), (16, Ht)] [3, 21] [0] 1 [Pp 0, .bool true] [Vb 24 (v_T_api_Value a_1)] hmix (ac gg_1 (ac gg_1 (ac gg_1 (ac gg_1 (ac gg_1 (ac gg_2 (ac gg_2 (ac gg_1 (ac gg_2 (ac gg_1 (ax (ax (ac gg_1 (ar true (ac gg_1 an))))))))))))))) ?_
    exact ⟨rfl, (sw [0] [] [.s 3, .a 21 (.bool ((a_1.Kind != (0 : Int)) && ((a_1.Kind != k_1) || (decide (k_1 < (1 : Int)) || decide (k_1 > (3 : Int))))))] [.s 0] (ac (congrArg AV.bool (andt gg_1 (ort gg_2)) : (.bool true : AV) = .bool ((a_1.Kind != (0 : Int)) && ((a_1.Kind != k_1) || (decide (k_1 < (1 : Int)) || decide (k_1 > (3 : Int)))))) an))⟩
   ·rcases bft (decide (k_1 < (1 : Int))) with gg_3 | gg_3
    ·refine rg [(11, Hf), (13, Hg), (14, Hg), (15, Ht), (16, Ht)] [3, 21] [0] 1 [Pp 0, .bool true] [Vb 24 (v_T_api_Value a_1)] hmix (ac gg_1 (ac gg_1 (ac gg_1 (ac gg_1 (ac gg_1 (ac gg_2 (ac gg_2 (ac gg_1 (ac gg_2 (ac gg_1 (ac gg_3 (ac gg_3 (ac gg_1 (ac gg_3 (ac gg_1 an))))))))))))))) ?_
     exact ⟨rfl, (sw [0] [] [.s 3, .a 21 (.bool ((a_1.Kind != (0 : Int)) && ((a_1.Kind != k_1) || (decide (k_1 < (1 : Int)) || decide (k_1 > (3 : Int))))))] [.s 0] (ac (congrArg AV.bool (andt gg_1 (orf gg_2 (ort gg_3))) : (.bool true : AV) = .bool ((a_1.Kind != (0 : Int)) && ((a_1.Kind != k_1) || (decide (k_1 < (1 : Int)) || decide (k_1 > (3 : Int)))))) an))⟩
    ·refine rg [(11, Hf), (15, Hf), (16, Ht)] [3, 21] [0] 1 [Pp 0, .bool (decide (k_1 > (3 : Int)))] [Vb 24 (v_T_api_Value a_1)] hmix (ac gg_1 (ac gg_1 (ac gg_1 (ac gg_1 (ac gg_1 (ac gg_2 (ac gg_2 (ac gg_1 (ac gg_2 (ac gg_1 (ac gg_3 (ac gg_3 (ac gg_1 (ac gg_3 (ac gg_1 an))))))))))))))) ?_
     exact ⟨rfl, (sw [0] [] [.s 3, .a 21 (.bool ((a_1.Kind != (0 : Int)) && ((a_1.Kind != k_1) || (decide (k_1 < (1 : Int)) || decide (k_1 > (3 : Int))))))] [.s 0] (ac (congrArg AV.bool (andt gg_1 (orf gg_2 (orf gg_3 rfl))) : (.bool (decide (k_1 > (3 : Int))) : AV) = .bool ((a_1.Kind != (0 : Int)) && ((a_1.Kind != k_1) || (decide (k_1 < (1 : Int)) || decide (k_1 > (3 : Int)))))) an))⟩
  ·refine rg [(4, Hg), (5, Hg), (6, Hg), (7, Hg), (8, Hg), (11, Hg), (12, Hg), (15, Hg), (16, Hf)] [3, 21] [0] 1 [Pp 0, .bool false] [Vb 24 (v_T_api_Value a_1)] hmix (ac gg_1 (ac gg_1 (ac gg_1 (ac gg_1 (ac gg_1 (ac gg_1 (ac gg_1 (ac gg_1 (ac gg_1 an))))))))) ?_
   exact ⟨rfl, (sw [0] [] [.s 3, .a 21 (.bool ((a_1.Kind != (0 : Int)) && ((a_1.Kind != k_1) || (decide (k_1 < (1 : Int)) || decide (k_1 > (3 : Int))))))] [.s 0] (ac (congrArg AV.bool (andf gg_1) : (.bool false : AV) = .bool ((a_1.Kind != (0 : Int)) && ((a_1.Kind != k_1) || (decide (k_1 < (1 : Int)) || decide (k_1 > (3 : Int)))))) an))⟩
 refine cd 21 ((a_1.Kind != (0 : Int)) && ((a_1.Kind != k_1) || (decide (k_1 < (1 : Int)) || decide (k_1 > (3 : Int))))) ?_ ?_
 ·intro g_1; replace h := cond_t g_1 h
  refine sr [] [4] [] 1 [Ii 14] [] hmix an ?_
  refine rt ?_
  cases h
  exact ⟨.inr rfl, Nat.le_of_ble_eq_true rfl, by kernel_rfl⟩
 intro g_1; replace h := cond_f g_1 h
 refine sk ?_
 refine sq ?_
 refine sq ?_
 obtain ⟨p_1, h_2, h⟩ := bind_some h
 refine aw_mid (mk [(3, Pp 0), (45, .bool p_1)] [(0, Vb 24 (v_T_api_Value a_1))] 1) ?_ ?_
 ·replace h := h_2
  rcases bft (a_1.Kind == (1 : Int)) with gg_4 | gg_4
  ·replace h := cond_t gg_4 h
   rcases bft (decide (a_1.N < (0 : Int))) with gg_5 | gg_5
   ·replace h := cond_t gg_5 h
    refine rg [(8, Hg), (9, Hg), (10, Hg), (11, Ht), (12, Ht), (14, Hg), (15, Hg), (16, Hg), (17, Hg), (22, Hg), (23, Ht)] [3, 45] [0] 1 [Pp 0, .bool true] [Vb 24 (v_T_api_Value a_1)] hmix (ac gg_4 (ac gg_4 (ac gg_4 (ac gg_4 (ac gg_5 (ac gg_5 (ac gg_5 (ac gg_4 (ac gg_5 (ac gg_4 (ax (ax (ax (ax (ax (ar true an)))))))))))))))) ?_
    cases h
    exact ⟨rfl, (sw [0] [] [.s 3, .s 45] [.s 0] an)⟩
   ·replace h := cond_f gg_5 h
    rcases bft (decide (a_1.N > (1 : Int))) with gg_6 | gg_6
    ·replace h := cond_t gg_6 h
     refine rg [(11, Hf), (12, Ht), (14, Hg), (15, Hg), (16, Hg), (17, Hg), (22, Hg), (23, Ht)] [3, 45] [0] 1 [Pp 0, .bool true] [Vb 24 (v_T_api_Value a_1)] hmix (ac gg_4 (ac gg_4 (ac gg_4 (ac gg_4 (ac gg_5 (ac gg_5 (ac gg_5 (ac gg_4 (ac gg_5 (ac gg_4 (ac gg_6 (ac gg_6 (ac gg_6 (ac gg_6 (ac gg_6 (ac gg_6 an)))))))))))))))) ?_
     cases h
     exact ⟨rfl, (sw [0] [] [.s 3, .s 45] [.s 0] an)⟩
    ·replace h := cond_f gg_6 h
     rcases bft (a_1.Kind == (2 : Int)) with gg_7 | gg_7
     ·replace h := cond_t gg_7 h
      obtain ⟨r_1, h_1, h⟩ := bind_some h
      refine rg [(11, Hf), (12, Ht), (20, { av := .bool r_1, l := [Ii a_1.N] }), (22, Ht), (23, Hf)] [3, 45] [0] 1 [Pp 0, .bool (!r_1)] [Vb 24 (v_T_api_Value a_1)] hmix (ac gg_4 (ac gg_4 (ac gg_4 (ac gg_4 (ac gg_5 (ac gg_5 (ac gg_5 (ac gg_4 (ac gg_5 (ac gg_4 (ac gg_6 (ac gg_6 (ac gg_6 (ac gg_6 (ac gg_7 (ac gg_7 (ac gg_7 (ar ([Ii a_1.N] : List AV) (ac (rfl : ([] : List BoxSt) = []) (ac (R01_In_ok a_1.N r_1 h_1 : TripleG prog 20 [] [] [Ii a_1.N] [] (.bool r_1)) (ac gg_7 (ac gg_6 (ac gg_7 (ac gg_6 an)))))))))))))))))))))))) ?_
      cases h
      exact ⟨rfl, (sw [0] [] [.s 3, .s 45] [.s 0] an)⟩
     ·replace h := cond_f gg_7 h
      refine rg [(11, Hf), (12, Ht), (18, Hg), (19, Hg), (20, Hg), (21, Hg), (22, Hf), (23, Hf)] [3, 45] [0] 1 [Pp 0, .bool false] [Vb 24 (v_T_api_Value a_1)] hmix (ac gg_4 (ac gg_4 (ac gg_4 (ac gg_4 (ac gg_5 (ac gg_5 (ac gg_5 (ac gg_4 (ac gg_5 (ac gg_4 (ac gg_6 (ac gg_6 (ac gg_6 (ac gg_6 (ac gg_7 (ac gg_7 (ac gg_7 (ac gg_7 (ac gg_6 (ac gg_7 (ac gg_6 an))))))))))))))))))))) ?_
      cases h
      exact ⟨rfl, (sw [0] [] [.s 3, .s 45] [.s 0] an)⟩
  ·replace h := cond_f gg_4 h
   rcases bft (a_1.Kind == (2 : Int)) with gg_8 | gg_8
   ·replace h := cond_t gg_8 h
    obtain ⟨r_1, h_1, h⟩ := bind_some h
    refine rg [(4, Hg), (5, Hg), (6, Hg), (7, Hg), (11, Hg), (12, Hf), (20, { av := .bool r_1, l := [Ii a_1.N] }), (22, Ht), (23, Hf)] [3, 45] [0] 1 [Pp 0, .bool (!r_1)] [Vb 24 (v_T_api_Value a_1)] hmix (ac gg_4 (ac gg_4 (ac gg_4 (ac gg_4 (ac gg_4 (ac gg_4 (ar false (ar false (ar false (ar false (ac gg_8 (ac gg_8 (ac gg_8 (ar ([Ii a_1.N] : List AV) (ac (rfl : ([] : List BoxSt) = []) (ac (R01_In_ok a_1.N r_1 h_1 : TripleG prog 20 [] [] [Ii a_1.N] [] (.bool r_1)) (ac gg_8 (ar false (ac gg_8 (ar false an)))))))))))))))))))) ?_
    cases h
    exact ⟨rfl, (sw [0] [] [.s 3, .s 45] [.s 0] an)⟩
   ·replace h := cond_f gg_8 h
    refine rg [(4, Hg), (5, Hg), (6, Hg), (7, Hg), (11, Hg), (12, Hf), (18, Hg), (19, Hg), (20, Hg), (21, Hg), (22, Hf), (23, Hf)] [3, 45] [0] 1 [Pp 0, .bool false] [Vb 24 (v_T_api_Value a_1)] hmix (ac gg_4 (ac gg_4 (ac gg_4 (ac gg_4 (ac gg_4 (ac gg_4 (ar false (ar false (ar false (ar false (ac gg_8 (ac gg_8 (ac gg_8 (ac gg_8 (ar false (ac gg_8 (ar false an))))))))))))))))) ?_
    cases h
    exact ⟨rfl, (sw [0] [] [.s 3, .s 45] [.s 0] an)⟩
 refine cd 45 p_1 ?_ ?_
 ·intro g_2; replace h := cond_t g_2 h
  refine sr [] [4] [] 1 [Ii 2] [] hmix an ?_
  refine rt ?_
  cases h
  exact ⟨.inr rfl, Nat.le_of_ble_eq_true rfl, by kernel_rfl⟩
 intro g_2; replace h := cond_f g_2 h
 refine sk ?_
 refine sq ?_
 refine sq ?_
 refine aw_mid (mk [(3, Pp 0), (54, .bool ((a_1.Kind == (3 : Int)) && decide ((lN (a_1.S)) > (200 : Int))))] [(0, Vb 24 (v_T_api_Value a_1))] 1) ?_ ?_
 ·rcases bft (a_1.Kind == (3 : Int)) with gg_9 | gg_9
  ·refine rg [(8, Ht)] [3, 54] [0] 1 [Pp 0, .bool (decide ((lN (a_1.S)) > (200 : Int)))] [Vb 24 (v_T_api_Value a_1)] hmix (ac gg_9 (ac gg_9 (ac gg_9 (ac gg_9 (ac gg_9 an))))) ?_
   exact ⟨rfl, (sw [0] [] [.s 3, .a 54 (.bool ((a_1.Kind == (3 : Int)) && decide ((lN (a_1.S)) > (200 : Int))))] [.s 0] (ac (congrArg AV.bool (andt gg_9 rfl) : (.bool (decide ((lN (a_1.S)) > (200 : Int))) : AV) = .bool ((a_1.Kind == (3 : Int)) && decide ((lN (a_1.S)) > (200 : Int)))) an))⟩
  ·refine rg [(4, Hg), (5, Hg), (6, Hg), (7, Hg), (8, Hf)] [3, 54] [0] 1 [Pp 0, .bool false] [Vb 24 (v_T_api_Value a_1)] hmix (ac gg_9 (ac gg_9 (ac gg_9 (ac gg_9 (ac gg_9 an))))) ?_
   exact ⟨rfl, (sw [0] [] [.s 3, .a 54 (.bool ((a_1.Kind == (3 : Int)) && decide ((lN (a_1.S)) > (200 : Int))))] [.s 0] (ac (congrArg AV.bool (andf gg_9) : (.bool false : AV) = .bool ((a_1.Kind == (3 : Int)) && decide ((lN (a_1.S)) > (200 : Int)))) an))⟩
 refine cd 54 ((a_1.Kind == (3 : Int)) && decide ((lN (a_1.S)) > (200 : Int))) ?_ ?_
 ·intro g_3; replace h := cond_t g_3 h
  refine sr [] [4] [] 1 [Ii 7] [] hmix an ?_
  refine rt ?_
  cases h
  exact ⟨.inr rfl, Nat.le_of_ble_eq_true rfl, by kernel_rfl⟩
 intro g_3; replace h := cond_f g_3 h
 refine sk ?_
 refine sq ?_
 refine sq ?_
 refine aw_mid (mk [(77, .bool (bif (a_1.Kind != (3 : Int)) then (!(a_1.S == ([] : List Int)) || (bif (a_1.Kind == (0 : Int)) then (a_1.N != (0 : Int)) else ((a_1.Kind == (3 : Int)) && (a_1.N != (0 : Int))))) else (bif (a_1.Kind == (0 : Int)) then (a_1.N != (0 : Int)) else ((a_1.Kind == (3 : Int)) && (a_1.N != (0 : Int))))))] [] 0) ?_ ?_
 ·rcases bft (a_1.Kind != (3 : Int)) with gg_10 | gg_10
  ·rcases bft (!(a_1.S == ([] : List Int))) with gg_11 | gg_11
   ·refine rg [(7, Ht), (9, Hg), (10, Hg), (11, Hg), (12, Hg), (16, Hg), (17, Hg), (21, Hg), (22, Ht)] [77] [] 1 [.bool true] [] hmix (ac gg_10 (ac gg_10 (ac gg_10 (ac gg_10 (ac gg_11 (ac gg_11 (ac gg_11 (ac gg_11 (ac gg_11 (ac gg_11 (ac gg_11 (ac gg_11 an)))))))))))) ?_
    exact ⟨rfl, (sw [] [] [.a 77 (.bool (bif (a_1.Kind != (3 : Int)) then (!(a_1.S == ([] : List Int)) || (bif (a_1.Kind == (0 : Int)) then (a_1.N != (0 : Int)) else ((a_1.Kind == (3 : Int)) && (a_1.N != (0 : Int))))) else (bif (a_1.Kind == (0 : Int)) then (a_1.N != (0 : Int)) else ((a_1.Kind == (3 : Int)) && (a_1.N != (0 : Int))))))] [] (ac (congrArg AV.bool (ctr gg_10 (ort gg_11)) : (.bool true : AV) = .bool (bif (a_1.Kind != (3 : Int)) then (!(a_1.S == ([] : List Int)) || (bif (a_1.Kind == (0 : Int)) then (a_1.N != (0 : Int)) else ((a_1.Kind == (3 : Int)) && (a_1.N != (0 : Int))))) else (bif (a_1.Kind == (0 : Int)) then (a_1.N != (0 : Int)) else ((a_1.Kind == (3 : Int)) && (a_1.N != (0 : Int)))))) an))⟩
   ·rcases bft (a_1.Kind == (0 : Int)) with gg_12 | gg_12
    ·refine rg [(7, Ht), (13, Hg), (14, Hg), (15, Hg), (16, Ht), (21, Ht), (22, Hf)] [77] [] 1 [.bool (a_1.N != (0 : Int))] [] hmix (ac gg_10 (ac gg_10 (ac gg_10 (ac gg_10 (ac gg_11 (ac gg_11 (ac gg_11 (ac gg_11 (ac gg_12 (ac gg_12 (ac gg_12 (ac gg_11 (ac gg_12 (ac gg_11 (ar true (ar true (ar true (ac gg_11 (ar true (ac gg_11 an)))))))))))))))))))) ?_
     exact ⟨rfl, (sw [] [] [.a 77 (.bool (bif (a_1.Kind != (3 : Int)) then (!(a_1.S == ([] : List Int)) || (bif (a_1.Kind == (0 : Int)) then (a_1.N != (0 : Int)) else ((a_1.Kind == (3 : Int)) && (a_1.N != (0 : Int))))) else (bif (a_1.Kind == (0 : Int)) then (a_1.N != (0 : Int)) else ((a_1.Kind == (3 : Int)) && (a_1.N != (0 : Int))))))] [] (ac (congrArg AV.bool (ctr gg_10 (orf gg_11 (ctr gg_12 rfl))) : (.bool (a_1.N != (0 : Int)) : AV) = .bool (bif (a_1.Kind != (3 : Int)) then (!(a_1.S == ([] : List Int)) || (bif (a_1.Kind == (0 : Int)) then (a_1.N != (0 : Int)) else ((a_1.Kind == (3 : Int)) && (a_1.N != (0 : Int))))) else (bif (a_1.Kind == (0 : Int)) then (a_1.N != (0 : Int)) else ((a_1.Kind == (3 : Int)) && (a_1.N != (0 : Int)))))) an))⟩
    ·rcases bft (a_1.Kind == (3 : Int)) with gg_13 | gg_13
     ·refine rg [(7, Ht), (16, Hf), (21, Ht), (22, Hf)] [77] [] 1 [.bool (a_1.N != (0 : Int))] [] hmix (ac gg_10 (ac gg_10 (ac gg_10 (ac gg_10 (ac gg_11 (ac gg_11 (ac gg_11 (ac gg_11 (ac gg_12 (ac gg_12 (ac gg_12 (ac gg_11 (ac gg_12 (ac gg_11 (ac gg_13 (ac gg_13 (ac gg_13 (ac gg_11 (ac gg_13 (ac gg_11 an)))))))))))))))))))) ?_
      exact ⟨rfl, (sw [] [] [.a 77 (.bool (bif (a_1.Kind != (3 : Int)) then (!(a_1.S == ([] : List Int)) || (bif (a_1.Kind == (0 : Int)) then (a_1.N != (0 : Int)) else ((a_1.Kind == (3 : Int)) && (a_1.N != (0 : Int))))) else (bif (a_1.Kind == (0 : Int)) then (a_1.N != (0 : Int)) else ((a_1.Kind == (3 : Int)) && (a_1.N != (0 : Int))))))] [] (ac (congrArg AV.bool (ctr gg_10 (orf gg_11 (cfr gg_12 (andt gg_13 rfl)))) : (.bool (a_1.N != (0 : Int)) : AV) = .bool (bif (a_1.Kind != (3 : Int)) then (!(a_1.S == ([] : List Int)) || (bif (a_1.Kind == (0 : Int)) then (a_1.N != (0 : Int)) else ((a_1.Kind == (3 : Int)) && (a_1.N != (0 : Int))))) else (bif (a_1.Kind == (0 : Int)) then (a_1.N != (0 : Int)) else ((a_1.Kind == (3 : Int)) && (a_1.N != (0 : Int)))))) an))⟩
     ·refine rg [(7, Ht), (16, Hf), (18, Hg), (19, Hg), (20, Hg), (21, Hf), (22, Hf)] [77] [] 1 [.bool false] [] hmix (ac gg_10 (ac gg_10 (ac gg_10 (ac gg_10 (ac gg_11 (ac gg_11 (ac gg_11 (ac gg_11 (ac gg_12 (ac gg_12 (ac gg_12 (ac gg_11 (ac gg_12 (ac gg_11 (ac gg_13 (ac gg_13 (ac gg_13 (ac gg_11 (ac gg_13 (ac gg_11 an)))))))))))))))))))) ?_
      exact ⟨rfl, (sw [] [] [.a 77 (.bool (bif (a_1.Kind != (3 : Int)) then (!(a_1.S == ([] : List Int)) || (bif (a_1.Kind == (0 : Int)) then (a_1.N != (0 : Int)) else ((a_1.Kind == (3 : Int)) && (a_1.N != (0 : Int))))) else (bif (a_1.Kind == (0 : Int)) then (a_1.N != (0 : Int)) else ((a_1.Kind == (3 : Int)) && (a_1.N != (0 : Int))))))] [] (ac (congrArg AV.bool (ctr gg_10 (orf gg_11 (cfr gg_12 (andf gg_13)))) : (.bool false : AV) = .bool (bif (a_1.Kind != (3 : Int)) then (!(a_1.S == ([] : List Int)) || (bif (a_1.Kind == (0 : Int)) then (a_1.N != (0 : Int)) else ((a_1.Kind == (3 : Int)) && (a_1.N != (0 : Int))))) else (bif (a_1.Kind == (0 : Int)) then (a_1.N != (0 : Int)) else ((a_1.Kind == (3 : Int)) && (a_1.N != (0 : Int)))))) an))⟩
  ·rcases bft (a_1.Kind == (0 : Int)) with gg_14 | gg_14
   ·refine rg [(4, Hg), (5, Hg), (6, Hg), (7, Hf), (13, Hg), (14, Hg), (15, Hg), (16, Ht), (21, Ht), (22, Hf)] [77] [] 1 [.bool (a_1.N != (0 : Int))] [] hmix (ac gg_10 (ac gg_10 (ac gg_10 (ac gg_10 (ar false (ar false (ar false (ar false (ac gg_14 (ac gg_14 (ac gg_14 (ar false (ac gg_14 (ar false (ar true (ar true (ar true (ar false (ar true (ar false an)))))))))))))))))))) ?_
    exact ⟨rfl, (sw [] [] [.a 77 (.bool (bif (a_1.Kind != (3 : Int)) then (!(a_1.S == ([] : List Int)) || (bif (a_1.Kind == (0 : Int)) then (a_1.N != (0 : Int)) else ((a_1.Kind == (3 : Int)) && (a_1.N != (0 : Int))))) else (bif (a_1.Kind == (0 : Int)) then (a_1.N != (0 : Int)) else ((a_1.Kind == (3 : Int)) && (a_1.N != (0 : Int))))))] [] (ac (congrArg AV.bool (cfr gg_10 (ctr gg_14 rfl)) : (.bool (a_1.N != (0 : Int)) : AV) = .bool (bif (a_1.Kind != (3 : Int)) then (!(a_1.S == ([] : List Int)) || (bif (a_1.Kind == (0 : Int)) then (a_1.N != (0 : Int)) else ((a_1.Kind == (3 : Int)) && (a_1.N != (0 : Int))))) else (bif (a_1.Kind == (0 : Int)) then (a_1.N != (0 : Int)) else ((a_1.Kind == (3 : Int)) && (a_1.N != (0 : Int)))))) an))⟩
   ·rcases bft (a_1.Kind == (3 : Int)) with gg_15 | gg_15
    ·refine rg [(4, Hg), (5, Hg), (6, Hg), (7, Hf), (16, Hf), (21, Ht), (22, Hf)] [77] [] 1 [.bool (a_1.N != (0 : Int))] [] hmix (ac gg_10 (ac gg_10 (ac gg_10 (ac gg_10 (ar false (ar false (ar false (ar false (ac gg_14 (ac gg_14 (ac gg_14 (ar false (ac gg_14 (ar false (ac gg_15 (ac gg_15 (ac gg_15 (ar false (ac gg_15 (ar false an)))))))))))))))))))) ?_
     exact ⟨rfl, (sw [] [] [.a 77 (.bool (bif (a_1.Kind != (3 : Int)) then (!(a_1.S == ([] : List Int)) || (bif (a_1.Kind == (0 : Int)) then (a_1.N != (0 : Int)) else ((a_1.Kind == (3 : Int)) && (a_1.N != (0 : Int))))) else (bif (a_1.Kind == (0 : Int)) then (a_1.N != (0 : Int)) else ((a_1.Kind == (3 : Int)) && (a_1.N != (0 : Int))))))] [] (ac (congrArg AV.bool (cfr gg_10 (cfr gg_14 (andt gg_15 rfl))) : (.bool (a_1.N != (0 : Int)) : AV) = .bool (bif (a_1.Kind != (3 : Int)) then (!(a_1.S == ([] : List Int)) || (bif (a_1.Kind == (0 : Int)) then (a_1.N != (0 : Int)) else ((a_1.Kind == (3 : Int)) && (a_1.N != (0 : Int))))) else (bif (a_1.Kind == (0 : Int)) then (a_1.N != (0 : Int)) else ((a_1.Kind == (3 : Int)) && (a_1.N != (0 : Int)))))) an))⟩
    ·refine rg [(4, Hg), (5, Hg), (6, Hg), (7, Hf), (16, Hf), (18, Hg), (19, Hg), (20, Hg), (21, Hf), (22, Hf)] [77] [] 1 [.bool false] [] hmix (ac gg_10 (ac gg_10 (ac gg_10 (ac gg_10 (ar false (ar false (ar false (ar false (ac gg_14 (ac gg_14 (ac gg_14 (ar false (ac gg_14 (ar false (ac gg_15 (ac gg_15 (ac gg_15 (ar false (ac gg_15 (ar false an)))))))))))))))))))) ?_
     exact ⟨rfl, (sw [] [] [.a 77 (.bool (bif (a_1.Kind != (3 : Int)) then (!(a_1.S == ([] : List Int)) || (bif (a_1.Kind == (0 : Int)) then (a_1.N != (0 : Int)) else ((a_1.Kind == (3 : Int)) && (a_1.N != (0 : Int))))) else (bif (a_1.Kind == (0 : Int)) then (a_1.N != (0 : Int)) else ((a_1.Kind == (3 : Int)) && (a_1.N != (0 : Int))))))] [] (ac (congrArg AV.bool (cfr gg_10 (cfr gg_14 (andf gg_15))) : (.bool false : AV) = .bool (bif (a_1.Kind != (3 : Int)) then (!(a_1.S == ([] : List Int)) || (bif (a_1.Kind == (0 : Int)) then (a_1.N != (0 : Int)) else ((a_1.Kind == (3 : Int)) && (a_1.N != (0 : Int))))) else (bif (a_1.Kind == (0 : Int)) then (a_1.N != (0 : Int)) else ((a_1.Kind == (3 : Int)) && (a_1.N != (0 : Int)))))) an))⟩
 refine cd 77 (bif (a_1.Kind != (3 : Int)) then (!(a_1.S == ([] : List Int)) || (bif (a_1.Kind == (0 : Int)) then (a_1.N != (0 : Int)) else ((a_1.Kind == (3 : Int)) && (a_1.N != (0 : Int))))) else (bif (a_1.Kind == (0 : Int)) then (a_1.N != (0 : Int)) else ((a_1.Kind == (3 : Int)) && (a_1.N != (0 : Int))))) ?_ ?_
 ·intro g_4; replace h := cond_t g_4 h
  refine sr [] [4] [] 0 [Ii 1] [] hmix an ?_
  refine rt ?_
  cases h
  exact ⟨.inr rfl, Nat.le_of_ble_eq_true rfl, by kernel_rfl⟩
 intro g_4; replace h := cond_f g_4 h
 refine sk ?_
 refine sr [] [4] [] 0 [Ii 0] [] hmix an ?_
 refine rt ?_
 cases h
 exact ⟨.inr rfl, Nat.le_of_ble_eq_true rfl, by kernel_rfl⟩

theorem L33_num_ok (n_1 : Int) (r : T_api_Value) (h : L33_num n_1 = some r) : TripleG prog 21 [] [] [Ii n_1] [] (e_T_api_Value r) := by
 refine triple_intro (fn := Go.Proofs.Try.f21) (code := codeOf Go.Proofs.Try.f21) (by kernel_rfl) (by kernel_rfl) (Nat.le_of_ble_eq_true (by kernel_rfl)) ?_
 unfold L33_num at h
 refine sr [(0, { id := 0 })] [0, 2] [0] 1 [Ii n_1, Pp 0] [Vb 24 [Ii 0, Ii 0, .str ([] : List Int)]] hmix an ?_
 refine sr [] [2] [0] 1 [Pp 0] [Vb 24 [Ii 2, Ii n_1, .str ([] : List Int)]] hmix an ?_
 refine wk [0] [] [.s 2] [.a 0 (Vb 24 (v_T_api_Value (⟨(2 : Int), n_1, ([] : List Int)⟩ : T_api_Value)))] [(2, Pp 0)] [(0, Vb 24 (v_T_api_Value (⟨(2 : Int), n_1, ([] : List Int)⟩ : T_api_Value)))] (ar 24 (ac (rfl : ones [Ii ((⟨(2 : Int), n_1, ([] : List Int)⟩ : T_api_Value).Kind), Ii ((⟨(2 : Int), n_1, ([] : List Int)⟩ : T_api_Value).N), .str ((⟨(2 : Int), n_1, ([] : List Int)⟩ : T_api_Value).S)] = true) (ac (rfl : (Ii 2 : AV) = Ii ((⟨(2 : Int), n_1, ([] : List Int)⟩ : T_api_Value).Kind)) (ac (rfl : (Ii n_1 : AV) = Ii ((⟨(2 : Int), n_1, ([] : List Int)⟩ : T_api_Value).N)) (ac (rfl : (.str ([] : List Int) : AV) = .str ((⟨(2 : Int), n_1, ([] : List Int)⟩ : T_api_Value).S)) an))))) ?_
 refine rt ?_
 cases h
 exact ⟨.inr rfl, Nat.le_of_ble_eq_true rfl, by kernel_rfl⟩

theorem column_known_ok (k_1 : Int) (r : Int) (h : column_known k_1 = some r) : TripleG prog 22 [] [] [Ii k_1] [] (Ii r) := by
 refine triple_intro (fn := Go.Proofs.Try.f22) (code := codeOf Go.Proofs.Try.f22) (by kernel_rfl) (by kernel_rfl) (Nat.le_of_ble_eq_true (by kernel_rfl)) ?_
 unfold column_known at h
 refine sr [] [0] [] 0 [Ii k_1] [] hmix an ?_
 refine sq ?_
 refine sq ?_
 refine aw_mid (mk [(12, .bool ((k_1 != (1 : Int)) && ((k_1 != (2 : Int)) && (k_1 != (3 : Int)))))] [] 0) ?_ ?_
 ·rcases bft (k_1 != (1 : Int)) with gg_1 | gg_1
  ·rcases bft (k_1 != (2 : Int)) with gg_2 | gg_2
   ·refine rg [(5, Ht), (9, Ht)] [12] [] 0 [.bool (k_1 != (3 : Int))] [] hmix (ac gg_1 (ac gg_1 (ac gg_1 (ac gg_2 (ac gg_2 (ac gg_2 an)))))) ?_
    exact ⟨rfl, (sw [] [] [.a 12 (.bool ((k_1 != (1 : Int)) && ((k_1 != (2 : Int)) && (k_1 != (3 : Int)))))] [] (ac (congrArg AV.bool (andt gg_1 (andt gg_2 rfl)) : (.bool (k_1 != (3 : Int)) : AV) = .bool ((k_1 != (1 : Int)) && ((k_1 != (2 : Int)) && (k_1 != (3 : Int))))) an))⟩
   ·refine rg [(5, Ht), (7, Hg), (8, Hg), (9, Hf)] [12] [] 0 [.bool false] [] hmix (ac gg_1 (ac gg_1 (ac gg_1 (ac gg_2 (ac gg_2 (ac gg_2 an)))))) ?_
    exact ⟨rfl, (sw [] [] [.a 12 (.bool ((k_1 != (1 : Int)) && ((k_1 != (2 : Int)) && (k_1 != (3 : Int)))))] [] (ac (congrArg AV.bool (andt gg_1 (andf gg_2)) : (.bool false : AV) = .bool ((k_1 != (1 : Int)) && ((k_1 != (2 : Int)) && (k_1 != (3 : Int))))) an))⟩
  ·refine rg [(3, Hg), (4, Hg), (5, Hf), (7, Hg), (8, Hg), (9, Hf)] [12] [] 0 [.bool false] [] hmix (ac gg_1 (ac gg_1 (ac gg_1 (ac (rfl : false = !true) (ac (rfl : false = !true) (ar false an)))))) ?_
   exact ⟨rfl, (sw [] [] [.a 12 (.bool ((k_1 != (1 : Int)) && ((k_1 != (2 : Int)) && (k_1 != (3 : Int)))))] [] (ac (congrArg AV.bool (andf gg_1) : (.bool false : AV) = .bool ((k_1 != (1 : Int)) && ((k_1 != (2 : Int)) && (k_1 != (3 : Int))))) an))⟩
 refine cd 12 ((k_1 != (1 : Int)) && ((k_1 != (2 : Int)) && (k_1 != (3 : Int)))) ?_ ?_
 ·intro g_1; replace h := cond_t g_1 h
  refine sr [] [2] [] 0 [Ii 1] [] hmix an ?_
  refine rt ?_
  cases h
  exact ⟨.inr rfl, Nat.le_of_ble_eq_true rfl, by kernel_rfl⟩
 intro g_1; replace h := cond_f g_1 h
 refine sk ?_
 refine sr [] [2] [] 0 [Ii 0] [] hmix an ?_
 refine rt ?_
 cases h
 exact ⟨.inr rfl, Nat.le_of_ble_eq_true rfl, by kernel_rfl⟩

theorem codec_number_ok (n_1 : Int) (r : Int) (h : codec_number n_1 = some r) : TripleG prog 46 [] [] [Ii n_1] [] (.int .u64 r) := by
 refine triple_intro (fn := Go.Proofs.Try.f46) (code := codeOf Go.Proofs.Try.f46) (by kernel_rfl) (by kernel_rfl) (Nat.le_of_ble_eq_true (by kernel_rfl)) ?_
 unfold codec_number at h
 refine sr [] [0] [] 0 [Ii n_1] [] hmix an ?_
 refine sr [] [2] [] 0 [.int .u64 (ixor .u64 (ishl .u64 (w_u64 n_1) (1 : Int)) (w_u64 (ishr .i64 n_1 (63 : Int))))] [] hmix (ac (by decide : (0 : Int) ≤ (1 : Int)) (ac (by decide : (0 : Int) ≤ (63 : Int)) an)) ?_
 refine rt ?_
 cases h
 exact ⟨.inr rfl, Nat.le_of_ble_eq_true rfl, by kernel_rfl⟩

theorem codec_PutInt_ok (F : Nat) (b_1 : List (Int)) (n_1 : Int) (r : (List (Int))) (h : codec_PutInt F b_1 n_1 = some r) : TripleG prog 35 [] [] [.sl false 1 (Mb b_1), Ii n_1] [.row 5 1 (Mb r)] (.own 0 ((r).length)) := by
 refine triple_intro (fn := Go.Proofs.Try.f35) (code := codeOf Go.Proofs.Try.f35) (by kernel_rfl) (by kernel_rfl) (Nat.le_of_ble_eq_true (by kernel_rfl)) ?_
 unfold codec_PutInt at h
 refine sr [(0, { id := 0, m := 1 })] [0, 1] [] 1 [.sl false 1 (Mb b_1), Ii n_1] [] hmix an ?_
 refine sr [(0, { b := true, id := 1 })] [0, 1, 5] [1] 2 [.sl false 1 (Mb b_1), Ii n_1, Pp 1] [Rb 71 1 (Mb (List.replicate 10 (0 : Int)))] hmix an ?_
 refine sr [] [0, 1, 5, 6] [1] 2 [.sl false 1 (Mb b_1), Ii n_1, Pp 1, Ii 0] [Rb 71 1 (Mb (List.replicate 10 (0 : Int)))] hmix an ?_
 refine sq ?_
 refine sq ?_
 obtain ⟨r_1, h_1, h⟩ := bind_some h
 refine rg [(1, { av := .int .u64 r_1, l := [Ii n_1] })] [0, 5, 6, 7] [1] 2 [.sl false 1 (Mb b_1), Pp 1, Ii 0, .int .u64 r_1] [Rb 71 1 (Mb (List.replicate 10 (0 : Int)))] hmix (ar ([Ii n_1] : List AV) (ac (rfl : ([] : List BoxSt) = []) (ac (codec_number_ok n_1 r_1 h_1 : TripleG prog 46 [] [] [Ii n_1] [] (.int .u64 r_1)) an))) ?_
 obtain ⟨o_1, h_2, h⟩ := bind_some h
 refine aw_mid (mk [(0, .sl false 1 (Mb b_1)), (5, Pp 0), (6, Ii o_1.1)] [(0, Rb 71 1 (Mb o_1.2))] 1) ?_ ?_
 ·replace h := h_2
  refine aw_block (id := 0) (by kernel_rfl) ?_
  refine wk [1] [] [.s 0, .s 5, .s 6, .s 7] [.s 0] [(0, .sl false 1 (Mb b_1)), (5, Pp 0), (6, Ii 0), (7, .int .u64 r_1)] [(0, Rb 71 1 (Mb (List.replicate 10 (0 : Int))))] an ?_
  refine aw_loopF (fun n st => ∃ (size_1 : Int), ∃ (u_1 : Int), ∃ (row_1 : List Int), st = mk [(0, .sl false 1 (Mb b_1)), (5, Pp 0), (6, Ii size_1), (7, .int .u64 u_1)] [(0, Rb 71 1 (Mb row_1))] 1 ∧ codec_PutInt_L1 F n size_1 u_1 row_1 = some o_1) F (by kernel_rfl) ⟨_, _, _, rfl, h⟩ ?_ ?_
  ·rintro _ ⟨_, _, _, _, h⟩; exact none_ne (h : (none : Option (Int × (List Int))) = some o_1)
  rintro n_2 _ ⟨size_1, u_1, row_1, rfl, h⟩
  replace h : codec_PutInt_L1_body F (codec_PutInt_L1 F n_2) size_1 u_1 row_1 = some o_1 := h
  unfold codec_PutInt_L1_body at h
  refine sq ?_
  refine aw_block (id := 1) (by kernel_rfl) ?_
  refine sq ?_
  obtain ⟨_, h_3, h⟩ := bind_some h; replace h_3 := need_some h_3
  obtain ⟨x_1, h_4, h⟩ := bind_some h
  refine rg [(4, Ht), (5, { av := Iu x_1, l := (Mb ((row_1).set ((size_1).toNat) (w_u8 (iand .u64 u_1 (127 : Int))))) })] [0, 5, 6, 7] [0] 1 [.sl false 1 (Mb b_1), Pp 0, Ii size_1, .int .u64 u_1] [Rb 71 1 (Mb ((row_1).set ((size_1).toNat) (w_u8 (iand .u64 u_1 (127 : Int)))))] hmix (ac h_3.1 (ac h_3.2 (ac (vc_getN h_4 : (Mb row_1)[(size_1).toNat]? = some (Iu x_1)) (ac (vc_set _ _ _ : (Mb ((row_1).set ((size_1).toNat) (w_u8 (iand .u64 u_1 (127 : Int))))) = List.set (Mb row_1) ((size_1).toNat) (setElem (Iu x_1) 0 [Iu (w_u8 (iand .u64 u_1 (127 : Int)))])) an)))) ?_
  refine sr [] [0, 5, 6, 7] [0] 1 [.sl false 1 (Mb b_1), Pp 0, Ii (w_i64 (size_1 + (1 : Int))), .int .u64 u_1] [Rb 71 1 (Mb ((row_1).set ((size_1).toNat) (w_u8 (iand .u64 u_1 (127 : Int)))))] hmix an ?_
  refine sq ?_
  refine sr [] [0, 5, 6, 7, 20] [0] 1 [.sl false 1 (Mb b_1), Pp 0, Ii (w_i64 (size_1 + (1 : Int))), .int .u64 u_1, .bool (decide (u_1 < (128 : Int)))] [Rb 71 1 (Mb ((row_1).set ((size_1).toNat) (w_u8 (iand .u64 u_1 (127 : Int)))))] hmix an ?_
  refine cd 20 (decide (u_1 < (128 : Int))) ?_ ?_
  ·intro g_1; replace h := cond_t g_1 h
   refine aw_exit (id := 0) (by kernel_rfl) ?_
   cases h
   exact ⟨rfl, (sw [0] [] [.s 0, .s 5, .s 6] [.s 0] an)⟩
  intro g_1; replace h := cond_f g_1 h
  refine sk ?_
  obtain ⟨_, h_5, h⟩ := bind_some h; replace h_5 := need_some h_5
  obtain ⟨x_2, h_6, h⟩ := bind_some h
  obtain ⟨_, h_7, h⟩ := bind_some h; replace h_7 := need_some h_7
  obtain ⟨x_3, h_8, h⟩ := bind_some h
  refine rg [(2, Ht), (3, { av := Iu x_2 }), (5, Ht), (6, { av := Iu x_3, l := (Mb (((row_1).set ((size_1).toNat) (w_u8 (iand .u64 u_1 (127 : Int)))).set ((w_i64 ((w_i64 (size_1 + (1 : Int))) - (1 : Int))).toNat) (ior .u8 x_2 (128 : Int)))) })] [0, 5, 6, 7] [0] 1 [.sl false 1 (Mb b_1), Pp 0, Ii (w_i64 (size_1 + (1 : Int))), .int .u64 u_1] [Rb 71 1 (Mb (((row_1).set ((size_1).toNat) (w_u8 (iand .u64 u_1 (127 : Int)))).set ((w_i64 ((w_i64 (size_1 + (1 : Int))) - (1 : Int))).toNat) (ior .u8 x_2 (128 : Int))))] hmix (ac h_5.1 (ac h_5.2 (ac (vc_getN h_6 : (Mb ((row_1).set ((size_1).toNat) (w_u8 (iand .u64 u_1 (127 : Int)))))[(w_i64 ((w_i64 (size_1 + (1 : Int))) - (1 : Int))).toNat]? = some (Iu x_2)) (ac h_7.1 (ac h_7.2 (ac (vc_getN h_8 : (Mb ((row_1).set ((size_1).toNat) (w_u8 (iand .u64 u_1 (127 : Int)))))[(w_i64 ((w_i64 (size_1 + (1 : Int))) - (1 : Int))).toNat]? = some (Iu x_3)) (ac (vc_set _ _ _ : (Mb (((row_1).set ((size_1).toNat) (w_u8 (iand .u64 u_1 (127 : Int)))).set ((w_i64 ((w_i64 (size_1 + (1 : Int))) - (1 : Int))).toNat) (ior .u8 x_2 (128 : Int)))) = List.set (Mb ((row_1).set ((size_1).toNat) (w_u8 (iand .u64 u_1 (127 : Int))))) ((w_i64 ((w_i64 (size_1 + (1 : Int))) - (1 : Int))).toNat) (setElem (Iu x_3) 0 [Iu (ior .u8 x_2 (128 : Int))])) an))))))) ?_
  refine rg [] [0, 5, 6, 7] [0] 1 [.sl false 1 (Mb b_1), Pp 0, Ii (w_i64 (size_1 + (1 : Int))), .int .u64 (ishr .u64 u_1 (7 : Int))] [Rb 71 1 (Mb (((row_1).set ((size_1).toNat) (w_u8 (iand .u64 u_1 (127 : Int)))).set ((w_i64 ((w_i64 (size_1 + (1 : Int))) - (1 : Int))).toNat) (ior .u8 x_2 (128 : Int))))] hmix (ac (by decide : (0 : Int) ≤ (7 : Int)) an) ?_
  exact ⟨_, (sw [0] [] [.s 0, .s 5, .s 6, .s 7] [.s 0] an), _, _, _, rfl, h⟩
 refine sq ?_
 obtain ⟨_, h_9, h⟩ := bind_some h; replace h_9 := need_some h_9
 obtain ⟨_, h_10, h⟩ := bind_some h; replace h_10 := need_some h_10
 obtain ⟨_, h_11, h⟩ := bind_some h; replace h_11 := need_some h_11
 obtain ⟨_, h_12, h⟩ := bind_some h; replace h_12 := need_some h_12
 refine rg [(2, { n := (b_1).length }), (4, { n := (b_1).length }), (5, { l := (Mb (sub b_1 (0 : Int) (lN (b_1)))) }), (8, { dep := true, id := 1, l := (Mb ((sub b_1 (0 : Int) (lN (b_1))) ++ (((o_1.2).take ((o_1.1).toNat)).drop 0))), n := (((sub b_1 (0 : Int) (lN (b_1))) ++ (((o_1.2).take ((o_1.1).toNat)).drop 0))).length })] [4] [1] 2 [.own 1 ((((sub b_1 (0 : Int) (lN (b_1))) ++ (((o_1.2).take ((o_1.1).toNat)).drop 0))).length)] [Rb 5 1 (Mb ((sub b_1 (0 : Int) (lN (b_1))) ++ (((o_1.2).take ((o_1.1).toNat)).drop 0)))] hmix (ac (vc_len _ : ((Mb b_1)).length = (b_1).length) (ac (vc_len _ : ((Mb b_1)).length = (b_1).length) (ac (by decide : (0 : Int) ≤ (0 : Int)) (ac (Int.natCast_nonneg _ : (0 : Int) ≤ (lN (b_1))) (ac (vc_lenle (Int.le_refl _) : (lN (b_1)) ≤ (lN ((Mb b_1)))) (ar (lN (b_1)) (ac (vc_sub _ _ _ : (Mb (sub b_1 (0 : Int) (lN (b_1)))) = (((Mb b_1)).take ((lN (b_1))).toNat).drop ((0 : Int)).toNat) (ac (by decide : (0 : Int) ≤ (0 : Int)) (ac h_9.1 (ac h_9.2.1 (ac (vc_lenle' h_9.2.2 : 10 ≤ ((Mb o_1.2)).length) (ac (vc_lenle' h_10.2 : ((o_1.1).toNat) ≤ ((Mb o_1.2)).length) (ac h_10.1 (ac (vc_app_part _ _ _ _ : (Mb ((sub b_1 (0 : Int) (lN (b_1))) ++ (((o_1.2).take ((o_1.1).toNat)).drop 0))) = (Mb (sub b_1 (0 : Int) (lN (b_1)))) ++ (((Mb o_1.2)).take ((o_1.1).toNat)).drop 0) (ac (by first | (simp; done) | simpa using h_11 : (((List.map (AV.int .u8) (sub b_1 (0 : Int) (((b_1).length : Nat) : Int))) : List AV).length + ((((List.map (AV.int .u8) o_1.2)).take ((o_1.1).toNat)).drop 0 : List AV).length) * 1 ≤ 140737488355328) (ac (by first | (simp; done) | simpa using h_12 : 0 < ((((List.map (AV.int .u8) o_1.2)).take ((o_1.1).toNat)).drop 0 : List AV).length ∨ ((List.map (AV.int .u8) (sub b_1 (0 : Int) (((b_1).length : Nat) : Int))) : List AV).length = 0) (ac (by simp : (((sub b_1 (0 : Int) (((b_1).length : Nat) : Int)) ++ (((o_1.2).take ((o_1.1).toNat)).drop 0))).length = ((List.map (AV.int .u8) ((sub b_1 (0 : Int) (((b_1).length : Nat) : Int)) ++ (((o_1.2).take ((o_1.1).toNat)).drop 0)))).length) an))))))))))))))))) ?_
 refine wk [1] [] [.s 4] [.s 0] [(4, .own 0 ((((sub b_1 (0 : Int) (lN (b_1))) ++ (((o_1.2).take ((o_1.1).toNat)).drop 0))).length))] [(0, Rb 5 1 (Mb ((sub b_1 (0 : Int) (lN (b_1))) ++ (((o_1.2).take ((o_1.1).toNat)).drop 0))))] an ?_
 refine rt ?_
 cases h
 exact ⟨.inr rfl, Nat.le_of_ble_eq_true rfl, by kernel_rfl⟩

theorem codec_PutText_ok (F : Nat) (b_1 : List (Int)) (s_1 : List Int) (r : (List (Int))) (h : codec_PutText F b_1 s_1 = some r) : TripleG prog 45 [] [] [.sl false 1 (Mb b_1), .str s_1] [.row 5 1 (Mb r)] (.own 0 ((r).length)) := by
 refine triple_intro (fn := Go.Proofs.Try.f45) (code := codeOf Go.Proofs.Try.f45) (by kernel_rfl) (by kernel_rfl) (Nat.le_of_ble_eq_true (by kernel_rfl)) ?_
 unfold codec_PutText at h
 refine sr [(0, { id := 0, m := 1 })] [0, 1] [] 1 [.sl false 1 (Mb b_1), .str s_1] [] hmix an ?_
 refine sq ?_
 obtain ⟨r_1, h_1, h⟩ := bind_some h
 refine rg [(3, { av := .own 0 ((r_1).length), ids := [1], l := [.sl false 1 (Mb b_1), Ii (lN (s_1))], post := [(.row 5 1 (Mb r_1))] })] [1, 5] [1] 2 [.str s_1, .own 1 ((r_1).length)] [Rb 5 1 (Mb r_1)] hmix (ar ([.sl false 1 (Mb b_1), Ii (lN (s_1))] : List AV) (ac (rfl : ([] : List BoxSt) = []) (ac (codec_PutInt_ok F b_1 (lN (s_1)) r_1 h_1 : TripleG prog 35 [] [] [.sl false 1 (Mb b_1), Ii (lN (s_1))] [(.row 5 1 (Mb r_1))] (.own 0 ((r_1).length))) an))) ?_
 refine sq ?_
 obtain ⟨_, h_2, h⟩ := bind_some h; replace h_2 := need_some h_2
 refine rg [(5, { id := 2, l := (Mb (List.replicate ((w_i64 ((lN (r_1)) + (lN (s_1)))).toNat) (0 : Int))), m := (w_i64 ((lN (r_1)) + (lN (s_1)))).toNat, n := (w_i64 ((lN (r_1)) + (lN (s_1)))).toNat })] [1, 5, 6] [1, 2] 3 [.str s_1, .own 1 ((r_1).length), .own 2 ((w_i64 ((lN (r_1)) + (lN (s_1)))).toNat)] [Rb 5 1 (Mb r_1), Rb 5 1 (Mb (List.replicate ((w_i64 ((lN (r_1)) + (lN (s_1)))).toNat) (0 : Int)))] hmix (ac ((Int.toNat_of_nonneg h_2.1).symm : w_i64 ((lN (r_1)) + (lN (s_1))) = (((w_i64 ((lN (r_1)) + (lN (s_1)))).toNat : Nat) : Int)) (ac ((Int.toNat_of_nonneg h_2.1).symm : w_i64 ((lN (r_1)) + (lN (s_1))) = (((w_i64 ((lN (r_1)) + (lN (s_1)))).toNat : Nat) : Int)) (ac (Nat.le_refl _ : ((w_i64 ((lN (r_1)) + (lN (s_1)))).toNat) ≤ ((w_i64 ((lN (r_1)) + (lN (s_1)))).toNat)) (ac h_2.2 (ac (vc_rep : (Mb (List.replicate ((w_i64 ((lN (r_1)) + (lN (s_1)))).toNat) (0 : Int))) = List.replicate ((w_i64 ((lN (r_1)) + (lN (s_1)))).toNat) (Iu 0)) an))))) ?_
 refine sq ?_
 obtain ⟨_, h_3, h⟩ := bind_some h; replace h_3 := need_some h_3
 refine rg [(2, { l := (Mb (cpy (List.replicate ((w_i64 ((lN (r_1)) + (lN (s_1)))).toNat) (0 : Int)) 0 ((w_i64 ((lN (r_1)) + (lN (s_1)))).toNat) r_1)), n := (min (r_1).length ((w_i64 ((lN (r_1)) + (lN (s_1)))).toNat - 0)) })] [1, 5, 6] [1, 2] 3 [.str s_1, .own 1 ((r_1).length), .own 2 ((w_i64 ((lN (r_1)) + (lN (s_1)))).toNat)] [Rb 5 1 (Mb r_1), Rb 5 1 (Mb (cpy (List.replicate ((w_i64 ((lN (r_1)) + (lN (s_1)))).toNat) (0 : Int)) 0 ((w_i64 ((lN (r_1)) + (lN (s_1)))).toNat) r_1))] hmix (ac (by first | (simp; done) | (simp; omega) : (r_1).length = ((List.map (AV.int .u8) r_1)).length) (ac h_3.1 (ac (vc_lenle' h_3.2 : ((w_i64 ((lN (r_1)) + (lN (s_1)))).toNat) ≤ ((Mb (List.replicate ((w_i64 ((lN (r_1)) + (lN (s_1)))).toNat) (0 : Int)))).length) (ac (by simp : (min (r_1).length ((w_i64 ((((r_1).length : Nat) : Int) + (((s_1).length : Nat) : Int))).toNat - 0)) = min ((List.map (AV.int .u8) r_1) : List AV).length ((w_i64 ((((r_1).length : Nat) : Int) + (((s_1).length : Nat) : Int))).toNat - 0)) (ac (by simp [cpy] : (List.map (AV.int .u8) (cpy (List.replicate ((w_i64 ((((r_1).length : Nat) : Int) + (((s_1).length : Nat) : Int))).toNat) (0 : Int)) 0 ((w_i64 ((((r_1).length : Nat) : Int) + (((s_1).length : Nat) : Int))).toNat) r_1)) = ((List.map (AV.int .u8) (List.replicate ((w_i64 ((((r_1).length : Nat) : Int) + (((s_1).length : Nat) : Int))).toNat) (0 : Int)))).take 0 ++ ((List.map (AV.int .u8) r_1) : List AV).take (min (r_1).length ((w_i64 ((((r_1).length : Nat) : Int) + (((s_1).length : Nat) : Int))).toNat - 0)) ++ ((List.map (AV.int .u8) (List.replicate ((w_i64 ((((r_1).length : Nat) : Int) + (((s_1).length : Nat) : Int))).toNat) (0 : Int)))).drop (0 + (min (r_1).length ((w_i64 ((((r_1).length : Nat) : Int) + (((s_1).length : Nat) : Int))).toNat - 0)))) an))))) ?_
 refine sq ?_
 obtain ⟨_, h_4, h⟩ := bind_some h; replace h_4 := need_some h_4
 obtain ⟨_, h_5, h⟩ := bind_some h; replace h_5 := need_some h_5
 refine rg [(5, { l := (Mb (cpy (cpy (List.replicate ((w_i64 ((lN (r_1)) + (lN (s_1)))).toNat) (0 : Int)) 0 ((w_i64 ((lN (r_1)) + (lN (s_1)))).toNat) r_1) ((r_1).length) ((w_i64 ((lN (r_1)) + (lN (s_1)))).toNat) s_1)), n := (min (s_1).length ((w_i64 ((lN (r_1)) + (lN (s_1)))).toNat - (r_1).length)) })] [6] [2] 3 [.own 2 ((w_i64 ((lN (r_1)) + (lN (s_1)))).toNat)] [Rb 5 1 (Mb (cpy (cpy (List.replicate ((w_i64 ((lN (r_1)) + (lN (s_1)))).toNat) (0 : Int)) 0 ((w_i64 ((lN (r_1)) + (lN (s_1)))).toNat) r_1) ((r_1).length) ((w_i64 ((lN (r_1)) + (lN (s_1)))).toNat) s_1))] hmix (ac (Int.natCast_nonneg _ : (0 : Int) ≤ (lN (r_1))) (ac h_4 (ac (Int.le_refl _ : (((w_i64 ((lN (r_1)) + (lN (s_1)))).toNat : Nat) : Int) ≤ (((w_i64 ((lN (r_1)) + (lN (s_1)))).toNat : Nat) : Int)) (ac (trivial : True) (ac h_5.1 (ac (vc_lenle' h_5.2 : ((w_i64 ((lN (r_1)) + (lN (s_1)))).toNat) ≤ ((Mb (cpy (List.replicate ((w_i64 ((lN (r_1)) + (lN (s_1)))).toNat) (0 : Int)) 0 ((w_i64 ((lN (r_1)) + (lN (s_1)))).toNat) r_1))).length) (ac (by simp : (min (s_1).length ((w_i64 ((((r_1).length : Nat) : Int) + (((s_1).length : Nat) : Int))).toNat - (r_1).length)) = min ((List.map (AV.int .u8) s_1) : List AV).length ((w_i64 ((((r_1).length : Nat) : Int) + (((s_1).length : Nat) : Int))).toNat - (r_1).length)) (ac (by simp [cpy] : (List.map (AV.int .u8) (cpy (cpy (List.replicate ((w_i64 ((((r_1).length : Nat) : Int) + (((s_1).length : Nat) : Int))).toNat) (0 : Int)) 0 ((w_i64 ((((r_1).length : Nat) : Int) + (((s_1).length : Nat) : Int))).toNat) r_1) ((r_1).length) ((w_i64 ((((r_1).length : Nat) : Int) + (((s_1).length : Nat) : Int))).toNat) s_1)) = ((List.map (AV.int .u8) (cpy (List.replicate ((w_i64 ((((r_1).length : Nat) : Int) + (((s_1).length : Nat) : Int))).toNat) (0 : Int)) 0 ((w_i64 ((((r_1).length : Nat) : Int) + (((s_1).length : Nat) : Int))).toNat) r_1))).take ((r_1).length) ++ ((List.map (AV.int .u8) s_1) : List AV).take (min (s_1).length ((w_i64 ((((r_1).length : Nat) : Int) + (((s_1).length : Nat) : Int))).toNat - (r_1).length)) ++ ((List.map (AV.int .u8) (cpy (List.replicate ((w_i64 ((((r_1).length : Nat) : Int) + (((s_1).length : Nat) : Int))).toNat) (0 : Int)) 0 ((w_i64 ((((r_1).length : Nat) : Int) + (((s_1).length : Nat) : Int))).toNat) r_1))).drop ((r_1).length + (min (s_1).length ((w_i64 ((((r_1).length : Nat) : Int) + (((s_1).length : Nat) : Int))).toNat - (r_1).length)))) an)))))))) ?_
 refine sr [] [4] [2] 3 [.own 2 ((w_i64 ((lN (r_1)) + (lN (s_1)))).toNat)] [Rb 5 1 (Mb (cpy (cpy (List.replicate ((w_i64 ((lN (r_1)) + (lN (s_1)))).toNat) (0 : Int)) 0 ((w_i64 ((lN (r_1)) + (lN (s_1)))).toNat) r_1) ((r_1).length) ((w_i64 ((lN (r_1)) + (lN (s_1)))).toNat) s_1))] hmix an ?_
 refine wk [2] [] [.a 4 (.own 0 (((cpy (cpy (List.replicate ((w_i64 ((lN (r_1)) + (lN (s_1)))).toNat) (0 : Int)) 0 ((w_i64 ((lN (r_1)) + (lN (s_1)))).toNat) r_1) ((r_1).length) ((w_i64 ((lN (r_1)) + (lN (s_1)))).toNat) s_1)).length))] [.s 0] [(4, .own 0 (((cpy (cpy (List.replicate ((w_i64 ((lN (r_1)) + (lN (s_1)))).toNat) (0 : Int)) 0 ((w_i64 ((lN (r_1)) + (lN (s_1)))).toNat) r_1) ((r_1).length) ((w_i64 ((lN (r_1)) + (lN (s_1)))).toNat) s_1)).length))] [(0, Rb 5 1 (Mb (cpy (cpy (List.replicate ((w_i64 ((lN (r_1)) + (lN (s_1)))).toNat) (0 : Int)) 0 ((w_i64 ((lN (r_1)) + (lN (s_1)))).toNat) r_1) ((r_1).length) ((w_i64 ((lN (r_1)) + (lN (s_1)))).toNat) s_1)))] (ac (congrArg (AV.own _) ((cpy_len h_5.1 h_5.2).trans ((cpy_len h_3.1 h_3.2).trans List.length_replicate)).symm : (.own 2 ((w_i64 ((lN (r_1)) + (lN (s_1)))).toNat) : AV) = .own 2 (((cpy (cpy (List.replicate ((w_i64 ((lN (r_1)) + (lN (s_1)))).toNat) (0 : Int)) 0 ((w_i64 ((lN (r_1)) + (lN (s_1)))).toNat) r_1) ((r_1).length) ((w_i64 ((lN (r_1)) + (lN (s_1)))).toNat) s_1)).length)) an) ?_
 refine rt ?_
 cases h
 exact ⟨.inr rfl, Nat.le_of_ble_eq_true rfl, by kernel_rfl⟩

theorem column_put_ok (F : Nat) (b_1 : List (Int)) (a_1 : T_api_Value) (r : (List (Int))) (h : column_put F b_1 a_1 = some r) : TripleG prog 34 [] [(.row 5 1 (Mb b_1))] [.own 0 ((b_1).length), e_T_api_Value a_1] [.row 5 1 (Mb r)] (.own 0 ((r).length)) := by
 refine triple_introG (fn := Go.Proofs.Try.f34) (code := codeOf Go.Proofs.Try.f34) (by kernel_rfl) (by kernel_rfl) (Nat.le_of_ble_eq_true (by kernel_rfl)) ?_
 unfold column_put at h
 refine sr [(0, { id := 1 }), (1, { id := 2, m := 1 })] [0, 3] [0, 1] 3 [.own 0 ((b_1).length), Pp 1] [Rb 5 1 (Mb b_1), Vb 24 (v_T_api_Value a_1)] hmix an ?_
 refine sq ?_
 obtain ⟨_, h_1, h⟩ := bind_some h; replace h_1 := need_some h_1
 refine rg [(4, { id := 3 }), (5, { id := 4, l := (Mb (b_1 ++ ([w_u8 a_1.Kind] : List Int))), n := ((b_1 ++ ([w_u8 a_1.Kind] : List Int))).length })] [0, 3] [1, 4] 5 [.own 4 (((b_1 ++ ([w_u8 a_1.Kind] : List Int))).length), Pp 1] [Vb 24 (v_T_api_Value a_1), Rb 5 1 (Mb (b_1 ++ ([w_u8 a_1.Kind] : List Int)))] hmix (ac (by first | (simp; done) | (simp; omega) : (b_1).length = ((List.map (AV.int .u8) b_1)).length) (ac (by first | (simp; done) | (simp; omega) : 1 = ((List.map (AV.int .u8) ([w_u8 a_1.Kind] : List Int))).length) (ac (vc_app _ _ : (Mb (b_1 ++ ([w_u8 a_1.Kind] : List Int))) = (Mb b_1) ++ (Mb ([w_u8 a_1.Kind] : List Int))) (ac (by simp : ((b_1 ++ ([w_u8 a_1.Kind] : List Int))).length = ((List.map (AV.int .u8) (b_1 ++ ([w_u8 a_1.Kind] : List Int)))).length) (ac (by first | (simp; done) | simpa using h_1 : (((List.map (AV.int .u8) b_1) : List AV).length + ((List.map (AV.int .u8) ([w_u8 a_1.Kind] : List Int)) : List AV).length) * 1 ≤ 140737488355328) an))))) ?_
 refine sq ?_
 refine sr [] [0, 3, 12] [1, 4] 5 [.own 4 (((b_1 ++ ([w_u8 a_1.Kind] : List Int))).length), Pp 1, Ii a_1.Kind] [Vb 24 (v_T_api_Value a_1), Rb 5 1 (Mb (b_1 ++ ([w_u8 a_1.Kind] : List Int)))] hmix an ?_
 refine aw_block (id := 0) (by kernel_rfl) ?_
 refine sq ?_
 refine sr [] [0, 3, 12, 13] [1, 4] 5 [.own 4 (((b_1 ++ ([w_u8 a_1.Kind] : List Int))).length), Pp 1, Ii a_1.Kind, .bool (a_1.Kind == (1 : Int))] [Vb 24 (v_T_api_Value a_1), Rb 5 1 (Mb (b_1 ++ ([w_u8 a_1.Kind] : List Int)))] hmix an ?_
 obtain ⟨o_1, h_2, h⟩ := bind_some h
 refine aw_mid (mk [(0, .own 0 (((b_1 ++ ([w_u8 a_1.Kind] : List Int))).length)), (3, Pp 1), (12, Ii a_1.Kind), (13, .bool o_1)] [(0, Rb 5 1 (Mb (b_1 ++ ([w_u8 a_1.Kind] : List Int)))), (1, Vb 24 (v_T_api_Value a_1))] 2) ?_ ?_
 ·replace h := h_2
  refine cd 13 (a_1.Kind == (1 : Int)) ?_ ?_
  ·intro g_1; replace h := cond_t g_1 h
   refine sk ?_
   cases h
   exact ⟨rfl, (sw [4, 1] [] [.s 0, .s 3, .s 12, .s 13] [.s 0, .s 1] an)⟩
  intro g_1; replace h := cond_f g_1 h
  refine rg [] [0, 3, 12, 13] [1, 4] 5 [.own 4 (((b_1 ++ ([w_u8 a_1.Kind] : List Int))).length), Pp 1, Ii a_1.Kind, .bool (a_1.Kind == (2 : Int))] [Vb 24 (v_T_api_Value a_1), Rb 5 1 (Mb (b_1 ++ ([w_u8 a_1.Kind] : List Int)))] hmix an ?_
  cases h
  exact ⟨rfl, (sw [4, 1] [] [.s 0, .s 3, .s 12, .s 13] [.s 0, .s 1] an)⟩
 refine cd 13 o_1 ?_ ?_
 ·intro g_2; replace h := cond_t g_2 h
  refine sq ?_
  obtain ⟨r_1, h_3, h⟩ := bind_some h
  refine rg [(3, { av := .own 0 ((r_1).length), frz := [0], ids := [2], l := [.sl false 1 (Mb (b_1 ++ ([w_u8 a_1.Kind] : List Int))), Ii a_1.N], post := [(.row 5 1 (Mb r_1))] })] [4] [2] 3 [.own 2 ((r_1).length)] [Rb 5 1 (Mb r_1)] hmix (ac (by first | (simp; done) | (simp; omega) : ((b_1 ++ ([w_u8 a_1.Kind] : List Int))).length = ((List.map (AV.int .u8) (b_1 ++ ([w_u8 a_1.Kind] : List Int)))).length) (ar ([.sl false 1 (Mb (b_1 ++ ([w_u8 a_1.Kind] : List Int))), Ii a_1.N] : List AV) (ac (rfl : ([] : List BoxSt) = []) (ac (codec_PutInt_ok F (b_1 ++ ([w_u8 a_1.Kind] : List Int)) a_1.N r_1 h_3 : TripleG prog 35 [] [] [.sl false 1 (Mb (b_1 ++ ([w_u8 a_1.Kind] : List Int))), Ii a_1.N] [(.row 5 1 (Mb r_1))] (.own 0 ((r_1).length))) an)))) ?_
  refine wk [2] [] [.s 4] [.s 0] [(4, .own 0 ((r_1).length))] [(0, Rb 5 1 (Mb r_1))] an ?_
  refine rt ?_
  cases h
  exact ⟨.inr rfl, Nat.le_of_ble_eq_true rfl, by kernel_rfl⟩
 intro g_2; replace h := cond_f g_2 h
 refine sr [] [0, 3, 20] [0, 1] 2 [.own 0 (((b_1 ++ ([w_u8 a_1.Kind] : List Int))).length), Pp 1, .bool (a_1.Kind == (3 : Int))] [Rb 5 1 (Mb (b_1 ++ ([w_u8 a_1.Kind] : List Int))), Vb 24 (v_T_api_Value a_1)] hmix an ?_
 refine cd 20 (a_1.Kind == (3 : Int)) ?_ ?_
 ·intro g_3; replace h := cond_t g_3 h
  refine sq ?_
  obtain ⟨r_2, h_4, h⟩ := bind_some h
  refine rg [(3, { av := .own 0 ((r_2).length), frz := [0], ids := [2], l := [.sl false 1 (Mb (b_1 ++ ([w_u8 a_1.Kind] : List Int))), .str a_1.S], post := [(.row 5 1 (Mb r_2))] })] [4] [2] 3 [.own 2 ((r_2).length)] [Rb 5 1 (Mb r_2)] hmix (ac (by first | (simp; done) | (simp; omega) : ((b_1 ++ ([w_u8 a_1.Kind] : List Int))).length = ((List.map (AV.int .u8) (b_1 ++ ([w_u8 a_1.Kind] : List Int)))).length) (ar ([.sl false 1 (Mb (b_1 ++ ([w_u8 a_1.Kind] : List Int))), .str a_1.S] : List AV) (ac (rfl : ([] : List BoxSt) = []) (ac (codec_PutText_ok F (b_1 ++ ([w_u8 a_1.Kind] : List Int)) a_1.S r_2 h_4 : TripleG prog 45 [] [] [.sl false 1 (Mb (b_1 ++ ([w_u8 a_1.Kind] : List Int))), .str a_1.S] [(.row 5 1 (Mb r_2))] (.own 0 ((r_2).length))) an)))) ?_
  refine wk [2] [] [.s 4] [.s 0] [(4, .own 0 ((r_2).length))] [(0, Rb 5 1 (Mb r_2))] an ?_
  refine rt ?_
  cases h
  exact ⟨.inr rfl, Nat.le_of_ble_eq_true rfl, by kernel_rfl⟩
 intro g_3; replace h := cond_f g_3 h
 refine sk ?_
 refine sr [] [4] [0] 2 [.own 0 (((b_1 ++ ([w_u8 a_1.Kind] : List Int))).length)] [Rb 5 1 (Mb (b_1 ++ ([w_u8 a_1.Kind] : List Int)))] hmix an ?_
 refine wk [0] [] [.s 4] [.s 0] [(4, .own 0 (((b_1 ++ ([w_u8 a_1.Kind] : List Int))).length))] [(0, Rb 5 1 (Mb (b_1 ++ ([w_u8 a_1.Kind] : List Int))))] an ?_
 refine rt ?_
 cases h
 exact ⟨.inr rfl, Nat.le_of_ble_eq_true rfl, by kernel_rfl⟩

theorem column_plain_ok (F : Nat) (l_1 : List (T_api_Value)) (r : (List (Int))) (h : column_plain F l_1 = some r) : TripleG prog 23 [] [] [.sl false 3 (Mp e_T_api_Value l_1)] [.row 5 1 (Mb r)] (.own 0 ((r).length)) := by
 refine triple_intro (fn := Go.Proofs.Try.f23) (code := codeOf Go.Proofs.Try.f23) (by kernel_rfl) (by kernel_rfl) (Nat.le_of_ble_eq_true (by kernel_rfl)) ?_
 unfold column_plain at h
 refine sr [(0, { id := 0, m := 1 })] [0] [] 1 [.sl false 3 (Mp e_T_api_Value l_1)] [] hmix an ?_
 refine sr [(0, { id := 1, m := 1 })] [0, 3] [1] 2 [.sl false 3 (Mp e_T_api_Value l_1), .own 1 0] [Rb 5 1 []] hmix an ?_
 refine sq ?_
 refine sr [(1, { n := (l_1).length })] [3, 6, 7, 8] [1] 2 [.own 1 0, .sl false 3 (Mp e_T_api_Value l_1), Ii (lN (l_1)), Ii 0] [Rb 5 1 []] hmix (ac (vc_len _ : ((Mp e_T_api_Value l_1)).length = (l_1).length) an) ?_
 obtain ⟨o_1, h_1, h⟩ := bind_some h
 refine aw_mid (mk [(3, .own 0 ((o_1).length))] [(0, Rb 5 1 (Mb o_1))] 1) ?_ ?_
 ·replace h := h_1
  refine aw_block (id := 0) (by kernel_rfl) ?_
  refine wk [1] [] [.s 3, .s 6, .s 7, .s 8] [.s 0] [(3, .own 0 0), (6, .sl false 3 (Mp e_T_api_Value l_1)), (7, Ii (lN (l_1))), (8, Ii 0)] [(0, Rb 5 1 [])] an ?_
  refine aw_loopF (fun n st => ∃ (v_1 : Int), ∃ (row_1 : List Int), st = mk [(3, .own 0 ((row_1).length)), (6, .sl false 3 (Mp e_T_api_Value l_1)), (7, Ii (lN (l_1))), (8, Ii v_1)] [(0, Rb 5 1 (Mb row_1))] 1 ∧ column_plain_L1 F l_1 n v_1 row_1 = some o_1) F (by kernel_rfl) ⟨_, _, rfl, h⟩ ?_ ?_
  ·rintro _ ⟨_, _, _, h⟩; exact none_ne (h : (none : Option (List Int)) = some o_1)
  rintro n_1 _ ⟨v_1, row_1, rfl, h⟩
  replace h : column_plain_L1_body F l_1 (column_plain_L1 F l_1 n_1) v_1 row_1 = some o_1 := h
  unfold column_plain_L1_body at h
  refine sr [] [3, 6, 7, 8, 9] [0] 1 [.own 0 ((row_1).length), .sl false 3 (Mp e_T_api_Value l_1), Ii (lN (l_1)), Ii v_1, .bool (decide (v_1 < (lN (l_1))))] [Rb 5 1 (Mb row_1)] hmix an ?_
  refine sq ?_
  refine cd 9 (decide (v_1 < (lN (l_1)))) ?_ ?_
  rotate_left
  ·intro g_1; replace h := cond_f g_1 h
   refine aw_exit (id := 0) (by kernel_rfl) ?_
   cases h
   exact ⟨rfl, (sw [0] [] [.s 3] [.s 0] an)⟩
  intro g_1; replace h := cond_t g_1 h
  refine sk ?_
  refine sq ?_
  refine aw_block (id := 1) (by kernel_rfl) ?_
  refine sq ?_
  obtain ⟨x_1, h_2, h⟩ := bind_some h
  refine rg [(0, { av := e_T_api_Value x_1 }), (2, { id := 1 })] [3, 5, 6, 7, 8] [0, 1] 2 [.own 0 ((row_1).length), Pp 1, .sl false 3 (Mp e_T_api_Value l_1), Ii (lN (l_1)), Ii v_1] [Rb 5 1 (Mb row_1), Vb 24 (v_T_api_Value x_1)] hmix (ac (vc_idx h_2 : idxA (Mp e_T_api_Value l_1) v_1 = some (e_T_api_Value x_1)) an) ?_
  obtain ⟨r_1, h_3, h⟩ := bind_some h
  refine rg [(2, { av := .own 0 ((r_1).length), gids := [0], giv := [(.row 5 1 (Mb row_1))], ids := [2], l := [.own 0 ((row_1).length), e_T_api_Value x_1], post := [(.row 5 1 (Mb r_1))] })] [3, 6, 7, 8] [2] 3 [.own 2 ((r_1).length), .sl false 3 (Mp e_T_api_Value l_1), Ii (lN (l_1)), Ii v_1] [Rb 5 1 (Mb r_1)] hmix (ar ([.own 0 ((row_1).length), e_T_api_Value x_1] : List AV) (ac (rfl : ([Rb 5 1 (Mb row_1)] : List BoxSt) = [Rb 5 1 (Mb row_1)]) (ac (column_put_ok F row_1 x_1 r_1 h_3 : TripleG prog 34 [] [(.row 5 1 (Mb row_1))] [.own 0 ((row_1).length), e_T_api_Value x_1] [(.row 5 1 (Mb r_1))] (.own 0 ((r_1).length))) an))) ?_
  refine rg [] [3, 6, 7, 8] [2] 3 [.own 2 ((r_1).length), .sl false 3 (Mp e_T_api_Value l_1), Ii (lN (l_1)), Ii (w_i64 (v_1 + (1 : Int)))] [Rb 5 1 (Mb r_1)] hmix an ?_
  exact ⟨_, (sw [2] [] [.s 3, .s 6, .s 7, .s 8] [.s 0] an), _, _, rfl, h⟩
 refine sr [] [2] [0] 1 [.own 0 ((o_1).length)] [Rb 5 1 (Mb o_1)] hmix an ?_
 refine wk [0] [] [.s 2] [.s 0] [(2, .own 0 ((o_1).length))] [(0, Rb 5 1 (Mb o_1))] an ?_
 refine rt ?_
 cases h
 exact ⟨.inr rfl, Nat.le_of_ble_eq_true rfl, by kernel_rfl⟩

theorem column_runs_ok (F : Nat) (l_1 : List (T_api_Value)) (r : (List (Int))) (h : column_runs F l_1 = some r) : TripleG prog 24 [] [] [.sl false 3 (Mp e_T_api_Value l_1)] [] (.sl false 1 (Mb r)) := by
 refine triple_intro (fn := Go.Proofs.Try.f24) (code := codeOf Go.Proofs.Try.f24) (by kernel_rfl) (by kernel_rfl) (Nat.le_of_ble_eq_true (by kernel_rfl)) ?_
 unfold column_runs at h
 refine sr [] [0] [] 0 [.sl false 3 (Mp e_T_api_Value l_1)] [] hmix an ?_
 refine sr [] [0, 3] [] 0 [.sl false 3 (Mp e_T_api_Value l_1), .nilsl] [] hmix an ?_
 refine sq ?_
 obtain ⟨o_1, h_1, h⟩ := bind_some h
 refine aw_mid (mk [(3, .sl false 1 (Mb o_1))] [] 0) ?_ ?_
 ·replace h := h_1
  refine aw_block (id := 0) (by kernel_rfl) ?_
  refine wk [] [] [.s 0, .a 3 (.sl false 1 [])] [] [(0, .sl false 3 (Mp e_T_api_Value l_1)), (3, .sl false 1 [])] [] (ar ([] : List AV) an) ?_
  refine aw_loopF (fun n st => ∃ (l_2 : List T_api_Value), ∃ (b_1 : List Int), st = mk [(0, .sl false 3 (Mp e_T_api_Value l_2)), (3, .sl false 1 (Mb b_1))] [] 0 ∧ column_runs_L1 F n l_2 b_1 = some o_1) F (by kernel_rfl) ⟨_, _, rfl, h⟩ ?_ ?_
  ·rintro _ ⟨_, _, _, h⟩; exact none_ne (h : (none : Option (List Int)) = some o_1)
  rintro n_1 _ ⟨l_2, b_1, rfl, h⟩
  replace h : column_runs_L1_body F (column_runs_L1 F n_1) l_2 b_1 = some o_1 := h
  unfold column_runs_L1_body at h
  refine sq ?_
  refine sr [(1, { n := (l_2).length })] [0, 3, 7] [] 0 [.sl false 3 (Mp e_T_api_Value l_2), .sl false 1 (Mb b_1), .bool (decide ((lN (l_2)) > (0 : Int)))] [] hmix (ac (vc_len _ : ((Mp e_T_api_Value l_2)).length = (l_2).length) an) ?_
  refine cd 7 (decide ((lN (l_2)) > (0 : Int))) ?_ ?_
  rotate_left
  ·intro g_1; replace h := cond_f g_1 h
   refine aw_exit (id := 0) (by kernel_rfl) ?_
   cases h
   exact ⟨rfl, (sw [] [] [.s 3] [] an)⟩
  intro g_1; replace h := cond_t g_1 h
  refine sk ?_
  refine aw_block (id := 1) (by kernel_rfl) ?_
  refine sr [] [0, 3, 4] [] 0 [.sl false 3 (Mp e_T_api_Value l_2), .sl false 1 (Mb b_1), Ii 1] [] hmix an ?_
  refine sq ?_
  obtain ⟨o_2, h_2, h⟩ := bind_some h
  refine aw_mid (mk [(0, .sl false 3 (Mp e_T_api_Value l_2)), (3, .sl false 1 (Mb b_1)), (4, Ii o_2)] [] 0) ?_ ?_
  ·replace h := h_2
   refine aw_block (id := 2) (by kernel_rfl) ?_
   refine wk [] [] [.s 0, .s 3, .s 4] [] [(0, .sl false 3 (Mp e_T_api_Value l_2)), (3, .sl false 1 (Mb b_1)), (4, Ii 1)] [] an ?_
   refine aw_loopF (fun n st => ∃ (n_2 : Int), st = mk [(0, .sl false 3 (Mp e_T_api_Value l_2)), (3, .sl false 1 (Mb b_1)), (4, Ii n_2)] [] 0 ∧ column_runs_L2 F l_2 n n_2 = some o_2) F (by kernel_rfl) ⟨_, rfl, h⟩ ?_ ?_
   ·rintro _ ⟨_, _, h⟩; exact none_ne (h : (none : Option Int) = some o_2)
   rintro n_3 _ ⟨n_2, rfl, h⟩
   replace h : column_runs_L2_body F l_2 (column_runs_L2 F l_2 n_3) n_2 = some o_2 := h
   unfold column_runs_L2_body at h
   refine sq ?_
   refine sq ?_
   obtain ⟨p_1, h_5, h⟩ := bind_some h
   refine aw_mid (mk [(0, .sl false 3 (Mp e_T_api_Value l_2)), (3, .sl false 1 (Mb b_1)), (4, Ii n_2), (21, .bool p_1)] [] 0) ?_ ?_
   ·replace h := h_5
    rcases bft (decide (n_2 < (lN (l_2)))) with gg_40 | gg_40
    ·replace h := cond_t gg_40 h
     obtain ⟨x_1, h_3, h⟩ := bind_some h
     obtain ⟨x_2, h_4, h⟩ := bind_some h
     refine rg [(2, { n := (l_2).length }), (7, { av := e_T_api_Value x_1 }), (10, { av := e_T_api_Value x_2 }), (12, { b := (decide (x_1 = x_2)), mks := [.int .i64, .int .i64, .str] }), (13, Ht)] [0, 3, 4, 13, 14, 15, 16, 17, 18, 19, 20, 21] [] 0 [.sl false 3 (Mp e_T_api_Value l_2), .sl false 1 (Mb b_1), Ii n_2, .sl false 3 (Mp e_T_api_Value l_2), Ii n_2, .ref (e_T_api_Value x_1), e_T_api_Value x_1, .sl false 3 (Mp e_T_api_Value l_2), .ref (e_T_api_Value x_2), e_T_api_Value x_2, .bool (decide (x_1 = x_2)), .bool (decide (x_1 = x_2))] [] hmix (ac (vc_len _ : ((Mp e_T_api_Value l_2)).length = (l_2).length) (ac gg_40 (ac gg_40 (ac gg_40 (ac (vc_idx h_3 : idxA (Mp e_T_api_Value l_2) n_2 = some (e_T_api_Value x_1)) (ac gg_40 (ac gg_40 (ac gg_40 (ac (vc_idx h_4 : idxA (Mp e_T_api_Value l_2) (0 : Int) = some (e_T_api_Value x_2)) (ac gg_40 (ac gg_40 (ac (eqOk_24 : EqOk prog 24 [.int .i64, .int .i64, .str]) (ac (vc_eqA (f := e_T_api_Value) inj_T_api_Value x_1 x_2 : ((decide (x_1 = x_2)) = true ↔ AV.agg [Ii x_1.Kind, Ii x_1.N, .str x_1.S] = AV.agg [Ii x_2.Kind, Ii x_2.N, .str x_2.S])) (ac gg_40 an)))))))))))))) ?_
     cases h
     exact ⟨rfl, (sw [] [] [.s 0, .s 3, .s 4, .s 21] [] an)⟩
    ·replace h := cond_f gg_40 h
     refine rg [(2, { n := (l_2).length }), (5, Hg), (6, Hg), (7, Hg), (8, Hg), (9, Hg), (10, Hg), (11, Hg), (12, Hg), (13, Hf)] [0, 3, 4, 13, 14, 15, 16, 17, 18, 19, 20, 21] [] 0 [.sl false 3 (Mp e_T_api_Value l_2), .sl false 1 (Mb b_1), Ii n_2, .tuple [], .tuple [], .tuple [], .tuple [], .tuple [], .tuple [], .tuple [], .tuple [], .bool false] [] hmix (ac (vc_len _ : ((Mp e_T_api_Value l_2)).length = (l_2).length) (ac gg_40 (ac gg_40 (ac gg_40 (ac gg_40 (ac gg_40 (ac gg_40 (ac gg_40 (ac gg_40 (ac gg_40 an)))))))))) ?_
     cases h
     exact ⟨rfl, (sw [] [] [.s 0, .s 3, .s 4, .s 21] [] an)⟩
   refine cd 21 p_1 ?_ ?_
   rotate_left
   ·intro g_2; replace h := cond_f g_2 h
    refine aw_exit (id := 2) (by kernel_rfl) ?_
    cases h
    exact ⟨rfl, (sw [] [] [.s 0, .s 3, .s 4] [] an)⟩
   intro g_2; replace h := cond_t g_2 h
   refine sk ?_
   refine aw_block (id := 3) (by kernel_rfl) ?_
   refine rg [] [0, 3, 4] [] 0 [.sl false 3 (Mp e_T_api_Value l_2), .sl false 1 (Mb b_1), Ii (w_i64 (n_2 + (1 : Int)))] [] hmix an ?_
   exact ⟨_, (sw [] [] [.s 0, .s 3, .s 4] [] an), _, rfl, h⟩
  refine sq ?_
  obtain ⟨r_1, h_6, h⟩ := bind_some h
  obtain ⟨x_3, h_7, h⟩ := bind_some h
  obtain ⟨r_2, h_8, h⟩ := bind_some h
  refine rg [(2, { av := .own 0 ((r_1).length), ids := [0], l := [.sl false 1 (Mb b_1), Ii o_2], post := [(.row 5 1 (Mb r_1))] }), (4, { av := e_T_api_Value x_3 }), (6, { av := .own 0 ((r_2).length), gids := [0], giv := [(.row 5 1 (Mb r_1))], ids := [1], l := [.own 0 ((r_1).length), e_T_api_Value x_3], post := [(.row 5 1 (Mb r_2))] })] [0, 3, 4] [1] 2 [.sl false 3 (Mp e_T_api_Value l_2), .own 1 ((r_2).length), Ii o_2] [Rb 5 1 (Mb r_2)] hmix (ar ([.sl false 1 (Mb b_1), Ii o_2] : List AV) (ac (rfl : ([] : List BoxSt) = []) (ac (codec_PutInt_ok F b_1 o_2 r_1 h_6 : TripleG prog 35 [] [] [.sl false 1 (Mb b_1), Ii o_2] [(.row 5 1 (Mb r_1))] (.own 0 ((r_1).length))) (ac (vc_idx h_7 : idxA (Mp e_T_api_Value l_2) (0 : Int) = some (e_T_api_Value x_3)) (ar ([.own 0 ((r_1).length), e_T_api_Value x_3] : List AV) (ac (rfl : ([Rb 5 1 (Mb r_1)] : List BoxSt) = [Rb 5 1 (Mb r_1)]) (ac (column_put_ok F r_1 x_3 r_2 h_8 : TripleG prog 34 [] [(.row 5 1 (Mb r_1))] [.own 0 ((r_1).length), e_T_api_Value x_3] [(.row 5 1 (Mb r_2))] (.own 0 ((r_2).length))) an))))))) ?_
  obtain ⟨_, h_9, h⟩ := bind_some h; replace h_9 := need_some h_9
  refine rg [(2, { l := (Mp e_T_api_Value (sub l_2 o_2 (lN (l_2)))) })] [0, 3] [1] 2 [.sl false 3 (Mp e_T_api_Value (sub l_2 o_2 (lN (l_2)))), .own 1 ((r_2).length)] [Rb 5 1 (Mb r_2)] hmix (ac h_9.1 (ac (vc_lenle h_9.2 : o_2 ≤ (lN ((Mp e_T_api_Value l_2)))) (ac (Int.le_refl _ : (lN ((Mp e_T_api_Value l_2))) ≤ (lN ((Mp e_T_api_Value l_2)))) (ac (vc_subn _ _ : (Mp e_T_api_Value (sub l_2 o_2 (lN (l_2)))) = (((Mp e_T_api_Value l_2)).take ((lN ((Mp e_T_api_Value l_2)))).toNat).drop (o_2).toNat) an)))) ?_
  exact ⟨_, (Sub.trans (sub_wkm [] [1] [.s 0, .a 3 (.sl false 1 (Mb r_2))] [] (sl2 := [(0, .sl false 3 (Mp e_T_api_Value (sub l_2 o_2 (lN (l_2))))), (3, .sl false 1 (Mb r_2))]) (bx2 := []) (by kernel_rfl) (ac (by first | (simp; done) | (simp; omega) : (r_2).length = ((List.map (AV.int .u8) r_2)).length) (ar 1 (ar ((Mb r_2) : List AV) (ac (rfl : (!false || false) = true) an))))) (sw [] [] [.s 0, .s 3] [] an)), _, _, rfl, h⟩
 refine sr [] [2] [] 0 [.sl false 1 (Mb o_1)] [] hmix an ?_
 refine rt ?_
 cases h
 exact ⟨.inr rfl, Nat.le_of_ble_eq_true rfl, by kernel_rfl⟩

theorem column_differences_ok (F : Nat) (k_1 : Int) (l_1 : List (T_api_Value)) (r : (List (Int)) × Bool) (h : column_differences F k_1 l_1 = some r) : TripleG prog 25 [] [] [Ii k_1, .sl false 3 (Mp e_T_api_Value l_1)] [] (.tuple [.sl false 1 (Mb r.1), .bool r.2]) := by
 refine triple_intro (fn := Go.Proofs.Try.f25) (code := codeOf Go.Proofs.Try.f25) (by kernel_rfl) (by kernel_rfl) (Nat.le_of_ble_eq_true (by kernel_rfl)) ?_
 unfold column_differences at h
 refine sr [] [0, 1] [] 0 [Ii k_1, .sl false 3 (Mp e_T_api_Value l_1)] [] hmix an ?_
 refine sq ?_
 refine sr [] [1, 11] [] 0 [.sl false 3 (Mp e_T_api_Value l_1), .bool (k_1 == (3 : Int))] [] hmix an ?_
 refine cd 11 (k_1 == (3 : Int)) ?_ ?_
 ·intro g_1; replace h := cond_t g_1 h
  refine sr [] [4, 5] [] 0 [.nilsl, .bool false] [] hmix an ?_
  refine wk [] [] [.a 4 (.sl false 1 []), .s 5] [] [(4, .sl false 1 []), (5, .bool false)] [] (ar ([] : List AV) an) ?_
  refine rt ?_
  cases h
  exact ⟨.inr rfl, Nat.le_of_ble_eq_true rfl, by kernel_rfl⟩
 intro g_1; replace h := cond_f g_1 h
 refine sk ?_
 refine sr [] [1, 6] [] 0 [.sl false 3 (Mp e_T_api_Value l_1), .nilsl] [] hmix an ?_
 refine sr [] [1, 6, 7] [] 0 [.sl false 3 (Mp e_T_api_Value l_1), .nilsl, Ii 0] [] hmix an ?_
 refine sq ?_
 refine sr [(1, { n := (l_1).length })] [6, 7, 12, 13, 14] [] 0 [.nilsl, Ii 0, .sl false 3 (Mp e_T_api_Value l_1), Ii (lN (l_1)), Ii 0] [] hmix (ac (vc_len _ : ((Mp e_T_api_Value l_1)).length = (l_1).length) an) ?_
 obtain ⟨o_1, h_1, h⟩ := bind_some h
 refine aw_conv (K1 := (fun e st' => match o_1 with | (.inl q0) => e = .normal ∧ Sub 0 st' (mk [(6, .sl false 1 (Mb q0))] [] 0) | (.inr q1) => e = .ret ∧ FinR prog Go.Proofs.Try.f25 0 [] (.tuple [.sl false 1 (Mb q1.1), .bool q1.2]) st')) ?_ ?_
 ·replace h := h_1
  refine aw_block (id := 0) (by kernel_rfl) ?_
  refine wk [] [] [.a 6 (.sl false 1 []), .s 7, .s 12, .s 13, .s 14] [] [(6, .sl false 1 []), (7, Ii 0), (12, .sl false 3 (Mp e_T_api_Value l_1)), (13, Ii (lN (l_1))), (14, Ii 0)] [] (ar ([] : List AV) an) ?_
  refine aw_loopF (fun n st => ∃ (b_1 : List Int), ∃ (last_1 : Int), ∃ (v_1 : Int), st = mk [(6, .sl false 1 (Mb b_1)), (7, Ii last_1), (12, .sl false 3 (Mp e_T_api_Value l_1)), (13, Ii (lN (l_1))), (14, Ii v_1)] [] 0 ∧ column_differences_L1 F l_1 n b_1 last_1 v_1 = some o_1) F (by kernel_rfl) ⟨_, _, _, rfl, h⟩ ?_ ?_
  ·rintro _ ⟨_, _, _, _, h⟩; exact none_ne (h : (none : Option ((List Int) ⊕ ((List (Int)) × Bool))) = some o_1)
  rintro n_1 _ ⟨b_1, last_1, v_1, rfl, h⟩
  replace h : column_differences_L1_body F l_1 (column_differences_L1 F l_1 n_1) b_1 last_1 v_1 = some o_1 := h
  unfold column_differences_L1_body at h
  refine sr [] [6, 7, 12, 13, 14, 15] [] 0 [.sl false 1 (Mb b_1), Ii last_1, .sl false 3 (Mp e_T_api_Value l_1), Ii (lN (l_1)), Ii v_1, .bool (decide (v_1 < (lN (l_1))))] [] hmix an ?_
  refine sq ?_
  refine cd 15 (decide (v_1 < (lN (l_1)))) ?_ ?_
  rotate_left
  ·intro g_2; replace h := cond_f g_2 h
   refine aw_exit (id := 0) (by kernel_rfl) ?_
   cases h
   exact ⟨rfl, (sw [] [] [.s 6] [] an)⟩
  intro g_2; replace h := cond_t g_2 h
  refine sk ?_
  refine sq ?_
  refine aw_block (id := 1) (by kernel_rfl) ?_
  refine sq ?_
  obtain ⟨x_1, h_2, h⟩ := bind_some h
  refine rg [(0, { av := e_T_api_Value x_1 }), (2, { id := 0 })] [6, 7, 9, 12, 13, 14] [0] 1 [.sl false 1 (Mb b_1), Ii last_1, Pp 0, .sl false 3 (Mp e_T_api_Value l_1), Ii (lN (l_1)), Ii v_1] [Vb 24 (v_T_api_Value x_1)] hmix (ac (vc_idx h_2 : idxA (Mp e_T_api_Value l_1) v_1 = some (e_T_api_Value x_1)) an) ?_
  refine sq ?_
  refine sr [] [6, 7, 9, 12, 13, 14, 20] [0] 1 [.sl false 1 (Mb b_1), Ii last_1, Pp 0, .sl false 3 (Mp e_T_api_Value l_1), Ii (lN (l_1)), Ii v_1, .bool (x_1.Kind == (0 : Int))] [Vb 24 (v_T_api_Value x_1)] hmix an ?_
  refine cd 20 (x_1.Kind == (0 : Int)) ?_ ?_
  ·intro g_3; replace h := cond_t g_3 h
   refine sr [] [4, 5] [] 1 [.nilsl, .bool false] [] hmix an ?_
   refine wk [] [] [.a 4 (.sl false 1 []), .s 5] [] [(4, .sl false 1 []), (5, .bool false)] [] (ar ([] : List AV) an) ?_
   refine rt ?_
   cases h
   exact ⟨rfl, Nat.le_of_ble_eq_true rfl, by kernel_rfl⟩
  intro g_3; replace h := cond_f g_3 h
  refine sk ?_
  refine sq ?_
  obtain ⟨r_1, h_3, h⟩ := bind_some h
  refine rg [(5, { av := .own 0 ((r_1).length), ids := [1], l := [.sl false 1 (Mb b_1), Ii (w_i64 (x_1.N - last_1))], post := [(.row 5 1 (Mb r_1))] })] [6, 9, 12, 13, 14] [0, 1] 2 [.own 1 ((r_1).length), Pp 0, .sl false 3 (Mp e_T_api_Value l_1), Ii (lN (l_1)), Ii v_1] [Vb 24 (v_T_api_Value x_1), Rb 5 1 (Mb r_1)] hmix (ar ([.sl false 1 (Mb b_1), Ii (w_i64 (x_1.N - last_1))] : List AV) (ac (rfl : ([] : List BoxSt) = []) (ac (codec_PutInt_ok F b_1 (w_i64 (x_1.N - last_1)) r_1 h_3 : TripleG prog 35 [] [] [.sl false 1 (Mb b_1), Ii (w_i64 (x_1.N - last_1))] [(.row 5 1 (Mb r_1))] (.own 0 ((r_1).length))) an))) ?_
  refine rg [] [6, 7, 12, 13, 14] [1] 2 [.own 1 ((r_1).length), Ii x_1.N, .sl false 3 (Mp e_T_api_Value l_1), Ii (lN (l_1)), Ii v_1] [Rb 5 1 (Mb r_1)] hmix an ?_
  refine rg [] [6, 7, 12, 13, 14] [1] 2 [.own 1 ((r_1).length), Ii x_1.N, .sl false 3 (Mp e_T_api_Value l_1), Ii (lN (l_1)), Ii (w_i64 (v_1 + (1 : Int)))] [Rb 5 1 (Mb r_1)] hmix an ?_
  exact ⟨_, (Sub.trans (sub_wkm [] [1] [.a 6 (.sl false 1 (Mb r_1)), .s 7, .s 12, .s 13, .s 14] [] (sl2 := [(6, .sl false 1 (Mb r_1)), (7, Ii x_1.N), (12, .sl false 3 (Mp e_T_api_Value l_1)), (13, Ii (lN (l_1))), (14, Ii (w_i64 (v_1 + (1 : Int))))]) (bx2 := []) (by kernel_rfl) (ac (by first | (simp; done) | (simp; omega) : (r_1).length = ((List.map (AV.int .u8) r_1)).length) (ar 1 (ar ((Mb r_1) : List AV) (ac (rfl : (!false || false) = true) an))))) (sw [] [] [.s 6, .s 7, .s 12, .s 13, .s 14] [] an)), _, _, _, rfl, h⟩
 intro e st1 hk
 rcases o_1 with q_1 | q_2
 rotate_left
 ·obtain ⟨rfl, hf⟩ := hk
  cases h
  exact ⟨st1, Sub.refl _ _, .inr rfl, hf⟩
 obtain ⟨rfl, hs⟩ := hk
 refine ⟨_, hs, ?_⟩
 refine sr [] [4, 5] [] 0 [.sl false 1 (Mb q_1), .bool true] [] hmix an ?_
 refine rt ?_
 cases h
 exact ⟨.inr rfl, Nat.le_of_ble_eq_true rfl, by kernel_rfl⟩

theorem slices_Grow_byte_byte_ok (n_1 : Int) (r : (List (Int))) (h : slices_Grow_byte_byte n_1 = some r) : TripleG prog 47 [] [] [.nilsl, Ii n_1] [.row 5 1 (Mb r)] (.own 0 ((r).length)) := by
 refine triple_intro (fn := Go.Proofs.Try.f47) (code := codeOf Go.Proofs.Try.f47) (by kernel_rfl) (by kernel_rfl) (Nat.le_of_ble_eq_true (by kernel_rfl)) ?_
 unfold slices_Grow_byte_byte at h
 refine sr [(0, { id := 0, m := 1 })] [0, 1] [] 1 [.nilsl, Ii n_1] [] hmix an ?_
 refine sq ?_
 refine sr [] [0, 1, 6] [] 1 [.nilsl, Ii n_1, .bool (decide (n_1 < (0 : Int)))] [] hmix an ?_
 obtain ⟨o_1, h_1, h⟩ := bind_some h
 refine aw_mid (mk [(0, .nilsl), (1, Ii n_1)] [] 0) ?_ ?_
 ·replace h := h_1
  refine cd 6 (decide (n_1 < (0 : Int))) ?_ ?_
  ·intro g_1; replace h := cond_t g_1 h
   exact none_ne h
  intro g_1; replace h := cond_f g_1 h
  refine sk ?_
  cases h
  exact ⟨rfl, (sw [] [] [.s 0, .s 1] [] an)⟩
 refine sq ?_
 refine sr [(2, { x := true }), (4, { n := 0 })] [0, 1] [] 0 [.nilsl, Ii (w_i64 (n_1 - (w_i64 ((0 : Int) - ((0 : Nat) : Int)))))] [] hmix (ac (rfl : ([] : List AV).length = 0) an) ?_
 refine sr [] [0, 1, 16] [] 0 [.nilsl, Ii (w_i64 (n_1 - (w_i64 ((0 : Int) - ((0 : Nat) : Int))))), .bool (decide ((w_i64 (n_1 - (w_i64 ((0 : Int) - ((0 : Nat) : Int))))) > (0 : Int)))] [] hmix an ?_
 refine cd 16 (decide ((w_i64 (n_1 - (w_i64 ((0 : Int) - ((0 : Nat) : Int))))) > (0 : Int))) ?_ ?_
 ·intro g_2; replace h := cond_t g_2 h
  obtain ⟨_, h_2, h⟩ := bind_some h; replace h_2 := need_some h_2
  refine rg [(2, { x := true }), (3, { x := true }), (5, { id := 0, n := (w_i64 (n_1 - (w_i64 ((0 : Int) - ((0 : Nat) : Int))))).toNat, x := true }), (7, { n := 0 }), (8, { l := [], n := 0, x := true })] [0] [0] 1 [.own 0 0] [Rb 5 1 []] hmix (ar (0 : Int) (ac ((Int.toNat_of_nonneg h_2.1).symm : (w_i64 (n_1 - (w_i64 ((0 : Int) - ((0 : Nat) : Int))))) = (((w_i64 (n_1 - (w_i64 ((0 : Int) - ((0 : Nat) : Int))))).toNat : Nat) : Int)) (ac h_2.2.1 (ac h_2.2.2 (ac (rfl : ([] : List AV).length = 0) (ar ((0 : Nat) : Int) (ac (Nat.zero_le _ : 0 ≤ ((w_i64 (n_1 - (w_i64 ((0 : Int) - ((0 : Nat) : Int))))).toNat)) (ac (by simp : [] = ([] : List AV).take 0) an)))))))) ?_
  refine sr [] [4] [0] 1 [.own 0 0] [Rb 5 1 []] hmix an ?_
  refine wk [0] [] [.a 4 (.own 0 ((([] : List Int)).length))] [.s 0] [(4, .own 0 ((([] : List Int)).length))] [(0, Rb 5 1 [])] (ac (congrArg (AV.own _) (by first | (simp; done) | (simp; omega)) : (.own 0 0 : AV) = .own 0 ((([] : List Int)).length)) an) ?_
  refine rt ?_
  cases h
  exact ⟨.inr rfl, Nat.le_of_ble_eq_true rfl, by kernel_rfl⟩
 intro g_2; replace h := cond_f g_2 h
 refine sk ?_
 refine sr [] [4] [] 0 [.nilsl] [] hmix an ?_
 refine aw_sub (sub_adoptS 4 none 0 5 1 (by kernel_rfl)) ?_
 refine wk [0] [] [.a 4 (.own 0 ((([] : List Int)).length))] [.s 0] [(4, .own 0 ((([] : List Int)).length))] [(0, Rb 5 1 [])] (ac (congrArg (AV.own _) (by first | (simp; done) | (simp; omega)) : (.own 0 0 : AV) = .own 0 ((([] : List Int)).length)) an) ?_
 refine rt ?_
 cases h
 exact ⟨.inr rfl, Nat.le_of_ble_eq_true rfl, by kernel_rfl⟩

theorem slices_Concat_byte_byte_ok (F : Nat) (slices_1 : List (List (Int))) (r : (List (Int))) (h : slices_Concat_byte_byte F slices_1 = some r) : TripleG prog 36 [] [] [.sl false 1 (List.map (fun l => AV.sl false 1 (l.map (AV.int .u8))) slices_1)] [.row 5 1 (Mb r)] (.own 0 ((r).length)) := by
 refine triple_intro (fn := Go.Proofs.Try.f36) (code := codeOf Go.Proofs.Try.f36) (by kernel_rfl) (by kernel_rfl) (Nat.le_of_ble_eq_true (by kernel_rfl)) ?_
 unfold slices_Concat_byte_byte at h
 refine sr [(0, { id := 0, m := 1 })] [0] [] 1 [.sl false 1 (List.map (fun l => AV.sl false 1 (l.map (AV.int .u8))) slices_1)] [] hmix an ?_
 refine sr [] [0, 3] [] 1 [.sl false 1 (List.map (fun l => AV.sl false 1 (l.map (AV.int .u8))) slices_1), Ii 0] [] hmix an ?_
 refine sq ?_
 refine sr [(1, { n := (slices_1).length })] [0, 3, 9, 10, 11] [] 1 [.sl false 1 (List.map (fun l => AV.sl false 1 (l.map (AV.int .u8))) slices_1), Ii 0, .sl false 1 (List.map (fun l => AV.sl false 1 (l.map (AV.int .u8))) slices_1), Ii (lN (slices_1)), Ii 0] [] hmix (ac (vc_len _ : ((List.map (fun l => AV.sl false 1 (l.map (AV.int .u8))) slices_1)).length = (slices_1).length) an) ?_
 obtain ⟨o_1, h_1, h⟩ := bind_some h
 refine aw_mid (mk [(0, .sl false 1 (List.map (fun l => AV.sl false 1 (l.map (AV.int .u8))) slices_1)), (3, Ii o_1)] [] 0) ?_ ?_
 ·replace h := h_1
  refine aw_block (id := 0) (by kernel_rfl) ?_
  refine wk [] [] [.s 0, .s 3, .s 9, .s 10, .s 11] [] [(0, .sl false 1 (List.map (fun l => AV.sl false 1 (l.map (AV.int .u8))) slices_1)), (3, Ii 0), (9, .sl false 1 (List.map (fun l => AV.sl false 1 (l.map (AV.int .u8))) slices_1)), (10, Ii (lN (slices_1))), (11, Ii 0)] [] an ?_
  refine aw_loopF (fun n st => ∃ (size_1 : Int), ∃ (v_1 : Int), st = mk [(0, .sl false 1 (List.map (fun l => AV.sl false 1 (l.map (AV.int .u8))) slices_1)), (3, Ii size_1), (9, .sl false 1 (List.map (fun l => AV.sl false 1 (l.map (AV.int .u8))) slices_1)), (10, Ii (lN (slices_1))), (11, Ii v_1)] [] 0 ∧ slices_Concat_byte_byte_L1 F slices_1 n size_1 v_1 = some o_1) F (by kernel_rfl) ⟨_, _, rfl, h⟩ ?_ ?_
  ·rintro _ ⟨_, _, _, h⟩; exact none_ne (h : (none : Option Int) = some o_1)
  rintro n_1 _ ⟨size_1, v_1, rfl, h⟩
  replace h : slices_Concat_byte_byte_L1_body F slices_1 (slices_Concat_byte_byte_L1 F slices_1 n_1) size_1 v_1 = some o_1 := h
  unfold slices_Concat_byte_byte_L1_body at h
  refine sr [] [0, 3, 9, 10, 11, 12] [] 0 [.sl false 1 (List.map (fun l => AV.sl false 1 (l.map (AV.int .u8))) slices_1), Ii size_1, .sl false 1 (List.map (fun l => AV.sl false 1 (l.map (AV.int .u8))) slices_1), Ii (lN (slices_1)), Ii v_1, .bool (decide (v_1 < (lN (slices_1))))] [] hmix an ?_
  refine sq ?_
  refine cd 12 (decide (v_1 < (lN (slices_1)))) ?_ ?_
  rotate_left
  ·intro g_1; replace h := cond_f g_1 h
   refine aw_exit (id := 0) (by kernel_rfl) ?_
   cases h
   exact ⟨rfl, (sw [] [] [.s 0, .s 3] [] an)⟩
  intro g_1; replace h := cond_t g_1 h
  refine sk ?_
  refine sq ?_
  refine aw_block (id := 1) (by kernel_rfl) ?_
  refine sq ?_
  obtain ⟨x_1, h_2, h⟩ := bind_some h
  refine rg [(0, { av := .sl false 1 (Mb x_1) })] [0, 3, 5, 9, 10, 11] [] 0 [.sl false 1 (List.map (fun l => AV.sl false 1 (l.map (AV.int .u8))) slices_1), Ii size_1, .sl false 1 (Mb x_1), .sl false 1 (List.map (fun l => AV.sl false 1 (l.map (AV.int .u8))) slices_1), Ii (lN (slices_1)), Ii v_1] [] hmix (ac (vc_idx h_2 : idxA (List.map (fun l => AV.sl false 1 (l.map (AV.int .u8))) slices_1) v_1 = some (.sl false 1 (Mb x_1))) an) ?_
  refine sr [(2, { n := (x_1).length })] [0, 3, 9, 10, 11] [] 0 [.sl false 1 (List.map (fun l => AV.sl false 1 (l.map (AV.int .u8))) slices_1), Ii (w_i64 (size_1 + (lN (x_1)))), .sl false 1 (List.map (fun l => AV.sl false 1 (l.map (AV.int .u8))) slices_1), Ii (lN (slices_1)), Ii v_1] [] hmix (ac (vc_len _ : ((Mb x_1)).length = (x_1).length) an) ?_
  refine sr [] [0, 3, 9, 10, 11, 20] [] 0 [.sl false 1 (List.map (fun l => AV.sl false 1 (l.map (AV.int .u8))) slices_1), Ii (w_i64 (size_1 + (lN (x_1)))), .sl false 1 (List.map (fun l => AV.sl false 1 (l.map (AV.int .u8))) slices_1), Ii (lN (slices_1)), Ii v_1, .bool (decide ((w_i64 (size_1 + (lN (x_1)))) < (0 : Int)))] [] hmix an ?_
  refine cd 20 (decide ((w_i64 (size_1 + (lN (x_1)))) < (0 : Int))) ?_ ?_
  ·intro g_2; replace h := cond_t g_2 h
   exact none_ne h
  intro g_2; replace h := cond_f g_2 h
  refine sk ?_
  refine rg [] [0, 3, 9, 10, 11] [] 0 [.sl false 1 (List.map (fun l => AV.sl false 1 (l.map (AV.int .u8))) slices_1), Ii (w_i64 (size_1 + (lN (x_1)))), .sl false 1 (List.map (fun l => AV.sl false 1 (l.map (AV.int .u8))) slices_1), Ii (lN (slices_1)), Ii (w_i64 (v_1 + (1 : Int)))] [] hmix an ?_
  exact ⟨_, (sw [] [] [.s 0, .s 3, .s 9, .s 10, .s 11] [] an), _, _, rfl, h⟩
 refine sq ?_
 obtain ⟨r_1, h_3, h⟩ := bind_some h
 refine rg [(1, { av := .own 0 ((r_1).length), ids := [0], l := [.nilsl, Ii o_1], post := [(.row 5 1 (Mb r_1))] })] [0, 6] [0] 1 [.sl false 1 (List.map (fun l => AV.sl false 1 (l.map (AV.int .u8))) slices_1), .own 0 ((r_1).length)] [Rb 5 1 (Mb r_1)] hmix (ar ([.nilsl, Ii o_1] : List AV) (ac (rfl : ([] : List BoxSt) = []) (ac (slices_Grow_byte_byte_ok o_1 r_1 h_3 : TripleG prog 47 [] [] [.nilsl, Ii o_1] [(.row 5 1 (Mb r_1))] (.own 0 ((r_1).length))) an))) ?_
 refine sq ?_
 refine sr [(1, { n := (slices_1).length })] [6, 25, 26, 27] [0] 1 [.own 0 ((r_1).length), .sl false 1 (List.map (fun l => AV.sl false 1 (l.map (AV.int .u8))) slices_1), Ii (lN (slices_1)), Ii 0] [Rb 5 1 (Mb r_1)] hmix (ac (vc_len _ : ((List.map (fun l => AV.sl false 1 (l.map (AV.int .u8))) slices_1)).length = (slices_1).length) an) ?_
 obtain ⟨o_2, h_4, h⟩ := bind_some h
 refine aw_mid (mk [(6, .own 0 ((o_2).length))] [(0, Rb 5 1 (Mb o_2))] 1) ?_ ?_
 ·replace h := h_4
  refine aw_block (id := 2) (by kernel_rfl) ?_
  refine wk [0] [] [.s 6, .s 25, .s 26, .s 27] [.s 0] [(6, .own 0 ((r_1).length)), (25, .sl false 1 (List.map (fun l => AV.sl false 1 (l.map (AV.int .u8))) slices_1)), (26, Ii (lN (slices_1))), (27, Ii 0)] [(0, Rb 5 1 (Mb r_1))] an ?_
  refine aw_loopF (fun n st => ∃ (v_2 : Int), ∃ (row_1 : List Int), st = mk [(6, .own 0 ((row_1).length)), (25, .sl false 1 (List.map (fun l => AV.sl false 1 (l.map (AV.int .u8))) slices_1)), (26, Ii (lN (slices_1))), (27, Ii v_2)] [(0, Rb 5 1 (Mb row_1))] 1 ∧ slices_Concat_byte_byte_L2 F slices_1 n v_2 row_1 = some o_2) F (by kernel_rfl) ⟨_, _, rfl, h⟩ ?_ ?_
  ·rintro _ ⟨_, _, _, h⟩; exact none_ne (h : (none : Option (List Int)) = some o_2)
  rintro n_2 _ ⟨v_2, row_1, rfl, h⟩
  replace h : slices_Concat_byte_byte_L2_body F slices_1 (slices_Concat_byte_byte_L2 F slices_1 n_2) v_2 row_1 = some o_2 := h
  unfold slices_Concat_byte_byte_L2_body at h
  refine sr [] [6, 25, 26, 27, 28] [0] 1 [.own 0 ((row_1).length), .sl false 1 (List.map (fun l => AV.sl false 1 (l.map (AV.int .u8))) slices_1), Ii (lN (slices_1)), Ii v_2, .bool (decide (v_2 < (lN (slices_1))))] [Rb 5 1 (Mb row_1)] hmix an ?_
  refine sq ?_
  refine cd 28 (decide (v_2 < (lN (slices_1)))) ?_ ?_
  rotate_left
  ·intro g_3; replace h := cond_f g_3 h
   refine aw_exit (id := 2) (by kernel_rfl) ?_
   cases h
   exact ⟨rfl, (sw [0] [] [.s 6] [.s 0] an)⟩
  intro g_3; replace h := cond_t g_3 h
  refine sk ?_
  refine sq ?_
  refine aw_block (id := 3) (by kernel_rfl) ?_
  refine sq ?_
  obtain ⟨x_2, h_5, h⟩ := bind_some h
  refine rg [(0, { av := .sl false 1 (Mb x_2) })] [6, 8, 25, 26, 27] [0] 1 [.own 0 ((row_1).length), .sl false 1 (Mb x_2), .sl false 1 (List.map (fun l => AV.sl false 1 (l.map (AV.int .u8))) slices_1), Ii (lN (slices_1)), Ii v_2] [Rb 5 1 (Mb row_1)] hmix (ac (vc_idx h_5 : idxA (List.map (fun l => AV.sl false 1 (l.map (AV.int .u8))) slices_1) v_2 = some (.sl false 1 (Mb x_2))) an) ?_
  obtain ⟨_, h_6, h⟩ := bind_some h; replace h_6 := need_some h_6
  refine rg [(2, { id := 1, l := (Mb (row_1 ++ x_2)), n := ((row_1 ++ x_2)).length })] [6, 25, 26, 27] [1] 2 [.own 1 (((row_1 ++ x_2)).length), .sl false 1 (List.map (fun l => AV.sl false 1 (l.map (AV.int .u8))) slices_1), Ii (lN (slices_1)), Ii v_2] [Rb 5 1 (Mb (row_1 ++ x_2))] hmix (ac (by first | (simp; done) | (simp; omega) : (row_1).length = ((List.map (AV.int .u8) row_1)).length) (ac (trivial : True) (ac (vc_app _ _ : (Mb (row_1 ++ x_2)) = (Mb row_1) ++ (Mb x_2)) (ac (by simp : ((row_1 ++ x_2)).length = ((List.map (AV.int .u8) (row_1 ++ x_2))).length) (ac (by first | (simp; done) | simpa using h_6 : (((List.map (AV.int .u8) row_1) : List AV).length + ((List.map (AV.int .u8) x_2) : List AV).length) * 1 ≤ 140737488355328) an))))) ?_
  refine rg [] [6, 25, 26, 27] [1] 2 [.own 1 (((row_1 ++ x_2)).length), .sl false 1 (List.map (fun l => AV.sl false 1 (l.map (AV.int .u8))) slices_1), Ii (lN (slices_1)), Ii (w_i64 (v_2 + (1 : Int)))] [Rb 5 1 (Mb (row_1 ++ x_2))] hmix an ?_
  exact ⟨_, (sw [1] [] [.s 6, .s 25, .s 26, .s 27] [.s 0] an), _, _, rfl, h⟩
 refine sr [] [2] [0] 1 [.own 0 ((o_2).length)] [Rb 5 1 (Mb o_2)] hmix an ?_
 refine wk [0] [] [.s 2] [.s 0] [(2, .own 0 ((o_2).length))] [(0, Rb 5 1 (Mb o_2))] an ?_
 refine rt ?_
 cases h
 exact ⟨.inr rfl, Nat.le_of_ble_eq_true rfl, by kernel_rfl⟩

theorem column_dictionary_ok (F : Nat) (l_1 : List (T_api_Value)) (r : (List (Int))) (h : column_dictionary F l_1 = some r) : TripleG prog 26 [] [] [.sl false 3 (Mp e_T_api_Value l_1)] [.row 5 1 (Mb r)] (.own 0 ((r).length)) := by
 refine triple_intro (fn := Go.Proofs.Try.f26) (code := codeOf Go.Proofs.Try.f26) (by kernel_rfl) (by kernel_rfl) (Nat.le_of_ble_eq_true (by kernel_rfl)) ?_
 unfold column_dictionary at h
 refine sr [(0, { id := 0, m := 1 })] [0] [] 1 [.sl false 3 (Mp e_T_api_Value l_1)] [] hmix an ?_
 refine sr [(0, { id := 1, mag := true, mks := [.int .i64, .int .i64, .str] })] [0, 3] [1] 2 [.sl false 3 (Mp e_T_api_Value l_1), .mp 1] [.live (.map true [.int .i64, .int .i64, .str] [])] hmix an ?_
 refine sr [(0, { id := 2, m := 1 })] [0, 3, 4, 5] [1, 2] 3 [.sl false 3 (Mp e_T_api_Value l_1), .mp 1, .own 2 0, .nilsl] [.live (.map true [.int .i64, .int .i64, .str] []), Rb 5 1 []] hmix an ?_
 refine sq ?_
 refine sr [(1, { n := (l_1).length })] [3, 4, 5, 11, 12, 13] [1, 2] 3 [.mp 1, .own 2 0, .nilsl, .sl false 3 (Mp e_T_api_Value l_1), Ii (lN (l_1)), Ii 0] [.live (.map true [.int .i64, .int .i64, .str] []), Rb 5 1 []] hmix (ac (vc_len _ : ((Mp e_T_api_Value l_1)).length = (l_1).length) an) ?_
 obtain ⟨o_1, h_1, h⟩ := bind_some h
 refine aw_mid (mk [(3, .mp 0), (4, .own 1 ((o_1.2.2).length)), (5, .sl false 1 (Mb o_1.1))] [(0, .live (.map true [.int .i64, .int .i64, .str] (List.map (mpE e_T_api_Value (AV.int .i64)) o_1.2.1))), (1, Rb 5 1 (Mb o_1.2.2))] 2) ?_ ?_
 ·replace h := h_1
  refine aw_block (id := 0) (by kernel_rfl) ?_
  refine wk [1, 2] [] [.s 3, .s 4, .a 5 (.sl false 1 []), .s 11, .s 12, .s 13] [.s 0, .s 1] [(3, .mp 0), (4, .own 1 0), (5, .sl false 1 []), (11, .sl false 3 (Mp e_T_api_Value l_1)), (12, Ii (lN (l_1))), (13, Ii 0)] [(0, .live (.map true [.int .i64, .int .i64, .str] [])), (1, Rb 5 1 [])] (ar ([] : List AV) an) ?_
  refine aw_loopF (fun n st => ∃ (places_1 : List Int), ∃ (v_1 : Int), ∃ (row_1 : List (T_api_Value × Int)), ∃ (row_2 : List Int), st = mk [(3, .mp 0), (4, .own 1 ((row_2).length)), (5, .sl false 1 (Mb places_1)), (11, .sl false 3 (Mp e_T_api_Value l_1)), (12, Ii (lN (l_1))), (13, Ii v_1)] [(0, .live (.map true [.int .i64, .int .i64, .str] (List.map (mpE e_T_api_Value (AV.int .i64)) row_1))), (1, Rb 5 1 (Mb row_2))] 2 ∧ column_dictionary_L1 F l_1 n places_1 v_1 row_1 row_2 = some o_1) F (by kernel_rfl) ⟨_, _, _, _, rfl, h⟩ ?_ ?_
  ·rintro _ ⟨_, _, _, _, _, h⟩; exact none_ne (h : (none : Option ((List Int) × (List (T_api_Value × Int)) × (List Int))) = some o_1)
  rintro n_1 _ ⟨places_1, v_1, row_1, row_2, rfl, h⟩
  replace h : column_dictionary_L1_body F l_1 (column_dictionary_L1 F l_1 n_1) places_1 v_1 row_1 row_2 = some o_1 := h
  unfold column_dictionary_L1_body at h
  refine sr [] [3, 4, 5, 11, 12, 13, 14] [0, 1] 2 [.mp 0, .own 1 ((row_2).length), .sl false 1 (Mb places_1), .sl false 3 (Mp e_T_api_Value l_1), Ii (lN (l_1)), Ii v_1, .bool (decide (v_1 < (lN (l_1))))] [.live (.map true [.int .i64, .int .i64, .str] (List.map (mpE e_T_api_Value (AV.int .i64)) row_1)), Rb 5 1 (Mb row_2)] hmix an ?_
  refine sq ?_
  refine cd 14 (decide (v_1 < (lN (l_1)))) ?_ ?_
  rotate_left
  ·intro g_1; replace h := cond_f g_1 h
   refine aw_exit (id := 0) (by kernel_rfl) ?_
   cases h
   exact ⟨rfl, (sw [0, 1] [] [.s 3, .s 4, .s 5] [.s 0, .s 1] an)⟩
  intro g_1; replace h := cond_t g_1 h
  refine sk ?_
  refine sq ?_
  refine aw_block (id := 1) (by kernel_rfl) ?_
  refine sq ?_
  obtain ⟨x_1, h_2, h⟩ := bind_some h
  refine rg [(0, { av := e_T_api_Value x_1 }), (2, { id := 2 })] [3, 4, 5, 7, 11, 12, 13] [0, 1, 2] 3 [.mp 0, .own 1 ((row_2).length), .sl false 1 (Mb places_1), Pp 2, .sl false 3 (Mp e_T_api_Value l_1), Ii (lN (l_1)), Ii v_1] [.live (.map true [.int .i64, .int .i64, .str] (List.map (mpE e_T_api_Value (AV.int .i64)) row_1)), Rb 5 1 (Mb row_2), Vb 24 (v_T_api_Value x_1)] hmix (ac (vc_idx h_2 : idxA (Mp e_T_api_Value l_1) v_1 = some (e_T_api_Value x_1)) an) ?_
  refine sr [(2, { av := (Ii ((mget row_1 x_1).getD (0 : Int))), g := (mget row_1 x_1).isSome })] [3, 4, 5, 7, 8, 9, 11, 12, 13] [0, 1, 2] 3 [.mp 0, .own 1 ((row_2).length), .sl false 1 (Mb places_1), Pp 2, Ii ((mget row_1 x_1).getD (0 : Int)), .bool ((mget row_1 x_1).isSome), .sl false 3 (Mp e_T_api_Value l_1), Ii (lN (l_1)), Ii v_1] [.live (.map true [.int .i64, .int .i64, .str] (List.map (mpE e_T_api_Value (AV.int .i64)) row_1)), Rb 5 1 (Mb row_2), Vb 24 (v_T_api_Value x_1)] hmix (ac (keyOk_24 : KeyOk prog 24 true [.int .i64, .int .i64, .str]) (ac (mlook_map (f := e_T_api_Value) (g := (AV.int .i64)) inj_T_api_Value row_1 x_1 (0 : Int) : MLook (List.map (mpE e_T_api_Value (AV.int .i64)) row_1) (e_T_api_Value x_1) (Ii 0) (Ii ((mget row_1 x_1).getD (0 : Int))) (mget row_1 x_1).isSome) an)) ?_
  refine sq ?_
  refine sr [] [3, 4, 5, 7, 8, 11, 12, 13, 24] [0, 1, 2] 3 [.mp 0, .own 1 ((row_2).length), .sl false 1 (Mb places_1), Pp 2, Ii ((mget row_1 x_1).getD (0 : Int)), .sl false 3 (Mp e_T_api_Value l_1), Ii (lN (l_1)), Ii v_1, .bool (!((mget row_1 x_1).isSome))] [.live (.map true [.int .i64, .int .i64, .str] (List.map (mpE e_T_api_Value (AV.int .i64)) row_1)), Rb 5 1 (Mb row_2), Vb 24 (v_T_api_Value x_1)] hmix an ?_
  obtain ⟨o_2, h_3, h⟩ := bind_some h
  refine aw_mid (mk [(3, .mp 0), (4, .own 1 ((o_2.2.2).length)), (5, .sl false 1 (Mb places_1)), (8, Ii o_2.1), (11, .sl false 3 (Mp e_T_api_Value l_1)), (12, Ii (lN (l_1))), (13, Ii v_1)] [(0, .live (.map true [.int .i64, .int .i64, .str] (List.map (mpE e_T_api_Value (AV.int .i64)) o_2.2.1))), (1, Rb 5 1 (Mb o_2.2.2))] 2) ?_ ?_
  ·replace h := h_3
   refine cd 24 (!((mget row_1 x_1).isSome)) ?_ ?_
   rotate_left
   ·intro g_2; replace h := cond_f g_2 h
    refine sk ?_
    cases h
    exact ⟨rfl, (sw [0, 1] [] [.s 3, .s 4, .s 5, .s 8, .s 11, .s 12, .s 13] [.s 0, .s 1] an)⟩
   intro g_2; replace h := cond_t g_2 h
   refine sr [(1, { n := (row_1).length })] [3, 4, 5, 7, 8, 11, 12, 13] [0, 1, 2] 3 [.mp 0, .own 1 ((row_2).length), .sl false 1 (Mb places_1), Pp 2, Ii (lN (row_1)), .sl false 3 (Mp e_T_api_Value l_1), Ii (lN (l_1)), Ii v_1] [.live (.map true [.int .i64, .int .i64, .str] (List.map (mpE e_T_api_Value (AV.int .i64)) row_1)), Rb 5 1 (Mb row_2), Vb 24 (v_T_api_Value x_1)] hmix (ac (congrArg Nat.cast (List.length_map _) : (((List.map (mpE e_T_api_Value (AV.int .i64)) row_1) : List (AV × AV)).length : Int) = (lN (row_1))) an) ?_
   refine sq ?_
   obtain ⟨_, h_4, h⟩ := bind_some h; replace h_4 := need_some h_4
   refine rg [(3, { es := (List.map (mpE e_T_api_Value (AV.int .i64)) (mput row_1 x_1 (lN (row_1)))) })] [3, 4, 5, 7, 8, 11, 12, 13] [0, 1, 2] 3 [.mp 0, .own 1 ((row_2).length), .sl false 1 (Mb places_1), Pp 2, Ii (lN (row_1)), .sl false 3 (Mp e_T_api_Value l_1), Ii (lN (l_1)), Ii v_1] [.live (.map true [.int .i64, .int .i64, .str] (List.map (mpE e_T_api_Value (AV.int .i64)) (mput row_1 x_1 (lN (row_1))))), Rb 5 1 (Mb row_2), Vb 24 (v_T_api_Value x_1)] hmix (ac (keyOk_24 : KeyOk prog 24 true [.int .i64, .int .i64, .str]) (ac (mput_map (f := e_T_api_Value) (g := (AV.int .i64)) inj_T_api_Value row_1 x_1 (lN (row_1)) : MPut (List.map (mpE e_T_api_Value (AV.int .i64)) row_1) (e_T_api_Value x_1) (Ii (lN (row_1))) (List.map (mpE e_T_api_Value (AV.int .i64)) (mput row_1 x_1 (lN (row_1))))) (ac (mlen_lt (l := row_1) h_4 : ((List.map (mpE e_T_api_Value (AV.int .i64)) row_1) : List (AV × AV)).length < maxLen) an))) ?_
   obtain ⟨r_1, h_5, h⟩ := bind_some h
   refine rg [(2, { av := .own 0 ((r_1).length), gids := [1], giv := [(.row 5 1 (Mb row_2))], ids := [3], l := [.own 0 ((row_2).length), e_T_api_Value x_1], post := [(.row 5 1 (Mb r_1))] })] [3, 4, 5, 8, 11, 12, 13] [0, 3] 4 [.mp 0, .own 3 ((r_1).length), .sl false 1 (Mb places_1), Ii (lN (row_1)), .sl false 3 (Mp e_T_api_Value l_1), Ii (lN (l_1)), Ii v_1] [.live (.map true [.int .i64, .int .i64, .str] (List.map (mpE e_T_api_Value (AV.int .i64)) (mput row_1 x_1 (lN (row_1))))), Rb 5 1 (Mb r_1)] hmix (ar ([.own 1 ((row_2).length), e_T_api_Value x_1] : List AV) (ac (rfl : ([Rb 5 1 (Mb row_2)] : List BoxSt) = [Rb 5 1 (Mb row_2)]) (ac (column_put_ok F row_2 x_1 r_1 h_5 : TripleG prog 34 [] [(.row 5 1 (Mb row_2))] [.own 0 ((row_2).length), e_T_api_Value x_1] [(.row 5 1 (Mb r_1))] (.own 0 ((r_1).length))) an))) ?_
   cases h
   exact ⟨rfl, (sw [0, 3] [] [.s 3, .s 4, .s 5, .s 8, .s 11, .s 12, .s 13] [.s 0, .s 1] an)⟩
  obtain ⟨r_2, h_6, h⟩ := bind_some h
  refine rg [(2, { av := .own 0 ((r_2).length), ids := [2], l := [.sl false 1 (Mb places_1), Ii o_2.1], post := [(.row 5 1 (Mb r_2))] })] [3, 4, 5, 11, 12, 13] [0, 1, 2] 3 [.mp 0, .own 1 ((o_2.2.2).length), .own 2 ((r_2).length), .sl false 3 (Mp e_T_api_Value l_1), Ii (lN (l_1)), Ii v_1] [.live (.map true [.int .i64, .int .i64, .str] (List.map (mpE e_T_api_Value (AV.int .i64)) o_2.2.1)), Rb 5 1 (Mb o_2.2.2), Rb 5 1 (Mb r_2)] hmix (ar ([.sl false 1 (Mb places_1), Ii o_2.1] : List AV) (ac (rfl : ([] : List BoxSt) = []) (ac (codec_PutInt_ok F places_1 o_2.1 r_2 h_6 : TripleG prog 35 [] [] [.sl false 1 (Mb places_1), Ii o_2.1] [(.row 5 1 (Mb r_2))] (.own 0 ((r_2).length))) an))) ?_
  refine rg [] [3, 4, 5, 11, 12, 13] [0, 1, 2] 3 [.mp 0, .own 1 ((o_2.2.2).length), .own 2 ((r_2).length), .sl false 3 (Mp e_T_api_Value l_1), Ii (lN (l_1)), Ii (w_i64 (v_1 + (1 : Int)))] [.live (.map true [.int .i64, .int .i64, .str] (List.map (mpE e_T_api_Value (AV.int .i64)) o_2.2.1)), Rb 5 1 (Mb o_2.2.2), Rb 5 1 (Mb r_2)] hmix an ?_
  exact ⟨_, (Sub.trans (sub_wkm [0, 1] [2] [.s 3, .s 4, .a 5 (.sl false 1 (Mb r_2)), .s 11, .s 12, .s 13] [.s 0, .s 1] (sl2 := [(3, .mp 0), (4, .own 1 ((o_2.2.2).length)), (5, .sl false 1 (Mb r_2)), (11, .sl false 3 (Mp e_T_api_Value l_1)), (12, Ii (lN (l_1))), (13, Ii (w_i64 (v_1 + (1 : Int))))]) (bx2 := [(0, .live (.map true [.int .i64, .int .i64, .str] (List.map (mpE e_T_api_Value (AV.int .i64)) o_2.2.1))), (1, Rb 5 1 (Mb o_2.2.2))]) (by kernel_rfl) (ac (by first | (simp; done) | (simp; omega) : (r_2).length = ((List.map (AV.int .u8) r_2)).length) (ar 1 (ar ((Mb r_2) : List AV) (ac (rfl : (!false || false) = true) an))))) (sw [0, 1] [] [.s 3, .s 4, .s 5, .s 11, .s 12, .s 13] [.s 0, .s 1] an)), _, _, _, _, rfl, h⟩
 refine sq ?_
 refine wk [0] [1] [.s 3, .a 4 (.sl false 1 (Mb o_1.2.2)), .s 5] [.s 0] [(3, .mp 0), (4, .sl false 1 (Mb o_1.2.2)), (5, .sl false 1 (Mb o_1.1))] [(0, .live (.map true [.int .i64, .int .i64, .str] (List.map (mpE e_T_api_Value (AV.int .i64)) o_1.2.1)))] (ac (by first | (simp; done) | (simp; omega) : (o_1.2.2).length = ((List.map (AV.int .u8) o_1.2.2)).length) (ar 1 (ar ((Mb o_1.2.2) : List AV) (ac (rfl : (!false || false) = true) an)))) ?_
 obtain ⟨r_3, h_7, h⟩ := bind_some h
 obtain ⟨r_4, h_8, h⟩ := bind_some h
 refine rg [(1, { n := (o_1.2.1).length }), (2, { av := .own 0 ((r_3).length), ids := [1], l := [.nilsl, Ii (lN (o_1.2.1))], post := [(.row 5 1 (Mb r_3))] }), (5, { frz := [1], id := 2 }), (6, { av := .own 0 ((r_4).length), frz := [2], ids := [3], l := [.sl false 1 (List.map (fun l => AV.sl false 1 (l.map (AV.int .u8))) ([r_3, o_1.2.2, o_1.1] : List (List (Int))))], post := [(.row 5 1 (Mb r_4))] })] [2] [3] 4 [.own 3 ((r_4).length)] [Rb 5 1 (Mb r_4)] hmix (ac (congrArg Nat.cast (List.length_map _) : (((List.map (mpE e_T_api_Value (AV.int .i64)) o_1.2.1) : List (AV × AV)).length : Int) = (lN (o_1.2.1))) (ar ([.nilsl, Ii (lN (o_1.2.1))] : List AV) (ac (rfl : ([] : List BoxSt) = []) (ac (triple_lo (args' := [.sl false 1 [], Ii (lN (o_1.2.1))]) (codec_PutInt_ok F [] (lN (o_1.2.1)) r_3 h_7) rfl ⟨rfl, rfl, trivial⟩ : TripleG prog 35 [] [] [.nilsl, Ii (lN (o_1.2.1))] [(.row 5 1 (Mb r_3))] (.own 0 ((r_3).length))) (ac (by first | (simp; done) | (simp; omega) : (r_3).length = ((List.map (AV.int .u8) r_3)).length) (ac (by first | (simp; done) | (simp; omega) : 3 = ((List.map (fun l => AV.sl false 1 (l.map (AV.int .u8))) ([r_3, o_1.2.2, o_1.1] : List (List (Int))))).length) (ar ([.sl false 1 (List.map (fun l => AV.sl false 1 (l.map (AV.int .u8))) ([r_3, o_1.2.2, o_1.1] : List (List (Int))))] : List AV) (ac (rfl : ([] : List BoxSt) = []) (ac (slices_Concat_byte_byte_ok F ([r_3, o_1.2.2, o_1.1] : List (List (Int))) r_4 h_8 : TripleG prog 36 [] [] [.sl false 1 (List.map (fun l => AV.sl false 1 (l.map (AV.int .u8))) ([r_3, o_1.2.2, o_1.1] : List (List (Int))))] [(.row 5 1 (Mb r_4))] (.own 0 ((r_4).length))) an))))))))) ?_
 refine wk [3] [] [.s 2] [.s 0] [(2, .own 0 ((r_4).length))] [(0, Rb 5 1 (Mb r_4))] an ?_
 refine rt ?_
 cases h
 exact ⟨.inr rfl, Nat.le_of_ble_eq_true rfl, by kernel_rfl⟩

theorem column_Encode_ok (F : Nat) (k_1 : Int) (l_1 : List (T_api_Value)) (r : T_api_Packed × Int) (h : column_Encode F k_1 l_1 = some r) : TripleG prog 12 [] [] [Ii k_1, .sl false 3 (Mp e_T_api_Value l_1)] [] (.tuple [e_T_api_Packed r.1, Ii r.2]) := by
 refine triple_intro (fn := Go.Proofs.Try.f12) (code := codeOf Go.Proofs.Try.f12) (by kernel_rfl) (by kernel_rfl) (Nat.le_of_ble_eq_true (by kernel_rfl)) ?_
 unfold column_Encode at h
 refine sr [(0, { id := 0 })] [0, 1, 4] [0] 1 [Ii k_1, .sl false 3 (Mp e_T_api_Value l_1), Pp 0] [Vb 33 [Ii 0, Ii 0, .nilsl]] hmix an ?_
 refine sq ?_
 refine sq ?_
 obtain ⟨r_1, h_1, h⟩ := bind_some h
 refine rg [(1, { av := Ii r_1, l := [Ii k_1] })] [0, 1, 4, 6] [0] 1 [Ii k_1, .sl false 3 (Mp e_T_api_Value l_1), Pp 0, Ii r_1] [Vb 33 [Ii 0, Ii 0, .nilsl]] hmix (ar ([Ii k_1] : List AV) (ac (rfl : ([] : List BoxSt) = []) (ac (column_known_ok k_1 r_1 h_1 : TripleG prog 22 [] [] [Ii k_1] [] (Ii r_1)) an))) ?_
 refine sr [] [0, 1, 4, 6, 19] [0] 1 [Ii k_1, .sl false 3 (Mp e_T_api_Value l_1), Pp 0, Ii r_1, .bool (r_1 != (0 : Int))] [Vb 33 [Ii 0, Ii 0, .nilsl]] hmix an ?_
 refine cd 19 (r_1 != (0 : Int)) ?_ ?_
 ·intro g_1; replace h := cond_t g_1 h
  refine sr [] [4, 5] [0] 1 [Pp 0, Ii r_1] [Vb 33 [Ii 0, Ii 0, .nilsl]] hmix an ?_
  refine wk [0] [] [.s 4, .s 5] [.a 0 (Vb 33 (v_T_api_Packed (⟨(0 : Int), (0 : Int), []⟩ : T_api_Packed)))] [(4, Pp 0), (5, Ii r_1)] [(0, Vb 33 (v_T_api_Packed (⟨(0 : Int), (0 : Int), []⟩ : T_api_Packed)))] (ar 33 (ac (rfl : ones [Ii ((⟨(0 : Int), (0 : Int), []⟩ : T_api_Packed).Type_), Ii ((⟨(0 : Int), (0 : Int), []⟩ : T_api_Packed).N), .sl false 1 (Mb ((⟨(0 : Int), (0 : Int), []⟩ : T_api_Packed).Bytes))] = true) (ac (rfl : (Ii 0 : AV) = Ii ((⟨(0 : Int), (0 : Int), []⟩ : T_api_Packed).Type_)) (ac (rfl : (Ii 0 : AV) = Ii ((⟨(0 : Int), (0 : Int), []⟩ : T_api_Packed).N)) (ac (rfl : ((Mb ((⟨(0 : Int), (0 : Int), []⟩ : T_api_Packed).Bytes)) : List AV) = []) an))))) ?_
  refine rt ?_
  cases h
  exact ⟨.inr rfl, Nat.le_of_ble_eq_true rfl, by kernel_rfl⟩
 intro g_1; replace h := cond_f g_1 h
 refine sk ?_
 refine sq ?_
 refine sr [(1, { n := (l_1).length })] [0, 1, 4, 24] [0] 1 [Ii k_1, .sl false 3 (Mp e_T_api_Value l_1), Pp 0, .bool (decide ((lN (l_1)) > (20000 : Int)))] [Vb 33 [Ii 0, Ii 0, .nilsl]] hmix (ac (vc_len _ : ((Mp e_T_api_Value l_1)).length = (l_1).length) an) ?_
 refine cd 24 (decide ((lN (l_1)) > (20000 : Int))) ?_ ?_
 ·intro g_2; replace h := cond_t g_2 h
  refine sr [] [4, 5] [0] 1 [Pp 0, Ii 7] [Vb 33 [Ii 0, Ii 0, .nilsl]] hmix an ?_
  refine wk [0] [] [.s 4, .s 5] [.a 0 (Vb 33 (v_T_api_Packed (⟨(0 : Int), (0 : Int), []⟩ : T_api_Packed)))] [(4, Pp 0), (5, Ii 7)] [(0, Vb 33 (v_T_api_Packed (⟨(0 : Int), (0 : Int), []⟩ : T_api_Packed)))] (ar 33 (ac (rfl : ones [Ii ((⟨(0 : Int), (0 : Int), []⟩ : T_api_Packed).Type_), Ii ((⟨(0 : Int), (0 : Int), []⟩ : T_api_Packed).N), .sl false 1 (Mb ((⟨(0 : Int), (0 : Int), []⟩ : T_api_Packed).Bytes))] = true) (ac (rfl : (Ii 0 : AV) = Ii ((⟨(0 : Int), (0 : Int), []⟩ : T_api_Packed).Type_)) (ac (rfl : (Ii 0 : AV) = Ii ((⟨(0 : Int), (0 : Int), []⟩ : T_api_Packed).N)) (ac (rfl : ((Mb ((⟨(0 : Int), (0 : Int), []⟩ : T_api_Packed).Bytes)) : List AV) = []) an))))) ?_
  refine rt ?_
  cases h
  exact ⟨.inr rfl, Nat.le_of_ble_eq_true rfl, by kernel_rfl⟩
 intro g_2; replace h := cond_f g_2 h
 refine sk ?_
 refine sq ?_
 refine sr [(1, { n := (l_1).length })] [0, 1, 4, 26, 27, 28] [0] 1 [Ii k_1, .sl false 3 (Mp e_T_api_Value l_1), Pp 0, .sl false 3 (Mp e_T_api_Value l_1), Ii (lN (l_1)), Ii 0] [Vb 33 [Ii 0, Ii 0, .nilsl]] hmix (ac (vc_len _ : ((Mp e_T_api_Value l_1)).length = (l_1).length) an) ?_
 obtain ⟨o_1, h_2, h⟩ := bind_some h
 refine aw_conv (K1 := (fun e st' => match o_1 with | (.inl q0) => e = .normal ∧ Sub 0 st' (mk [(0, Ii k_1), (1, .sl false 3 (Mp e_T_api_Value l_1)), (4, Pp 0)] [(0, Vb 33 [Ii 0, Ii 0, .nilsl])] 1) | (.inr q1) => e = .ret ∧ FinR prog Go.Proofs.Try.f12 0 [] (.tuple [e_T_api_Packed q1.1, Ii q1.2]) st')) ?_ ?_
 ·replace h := h_2
  refine aw_block (id := 0) (by kernel_rfl) ?_
  refine wk [0] [] [.s 0, .s 1, .s 4, .s 26, .s 27, .s 28] [.s 0] [(0, Ii k_1), (1, .sl false 3 (Mp e_T_api_Value l_1)), (4, Pp 0), (26, .sl false 3 (Mp e_T_api_Value l_1)), (27, Ii (lN (l_1))), (28, Ii 0)] [(0, Vb 33 [Ii 0, Ii 0, .nilsl])] an ?_
  refine aw_loopF (fun n st => ∃ (v_1 : Int), st = mk [(0, Ii k_1), (1, .sl false 3 (Mp e_T_api_Value l_1)), (4, Pp 0), (26, .sl false 3 (Mp e_T_api_Value l_1)), (27, Ii (lN (l_1))), (28, Ii v_1)] [(0, Vb 33 [Ii 0, Ii 0, .nilsl])] 1 ∧ column_Encode_L1 F k_1 l_1 n v_1 = some o_1) F (by kernel_rfl) ⟨_, rfl, h⟩ ?_ ?_
  ·rintro _ ⟨_, _, h⟩; exact none_ne (h : (none : Option (Unit ⊕ (T_api_Packed × Int))) = some o_1)
  rintro n_1 _ ⟨v_1, rfl, h⟩
  replace h : column_Encode_L1_body F k_1 l_1 (column_Encode_L1 F k_1 l_1 n_1) v_1 = some o_1 := h
  unfold column_Encode_L1_body at h
  refine sr [] [0, 1, 4, 26, 27, 28, 29] [0] 1 [Ii k_1, .sl false 3 (Mp e_T_api_Value l_1), Pp 0, .sl false 3 (Mp e_T_api_Value l_1), Ii (lN (l_1)), Ii v_1, .bool (decide (v_1 < (lN (l_1))))] [Vb 33 [Ii 0, Ii 0, .nilsl]] hmix an ?_
  refine sq ?_
  refine cd 29 (decide (v_1 < (lN (l_1)))) ?_ ?_
  rotate_left
  ·intro g_3; replace h := cond_f g_3 h
   refine aw_exit (id := 0) (by kernel_rfl) ?_
   cases h
   exact ⟨rfl, (sw [0] [] [.s 0, .s 1, .s 4] [.s 0] an)⟩
  intro g_3; replace h := cond_t g_3 h
  refine sk ?_
  refine sq ?_
  refine aw_block (id := 1) (by kernel_rfl) ?_
  refine sq ?_
  obtain ⟨x_1, h_3, h⟩ := bind_some h
  refine rg [(0, { av := e_T_api_Value x_1 }), (2, { id := 1 })] [0, 1, 4, 8, 26, 27, 28] [0, 1] 2 [Ii k_1, .sl false 3 (Mp e_T_api_Value l_1), Pp 0, Pp 1, .sl false 3 (Mp e_T_api_Value l_1), Ii (lN (l_1)), Ii v_1] [Vb 33 [Ii 0, Ii 0, .nilsl], Vb 24 (v_T_api_Value x_1)] hmix (ac (vc_idx h_3 : idxA (Mp e_T_api_Value l_1) v_1 = some (e_T_api_Value x_1)) an) ?_
  refine sq ?_
  obtain ⟨r_2, h_4, h⟩ := bind_some h
  refine rg [(2, { av := Ii r_2, l := [Ii k_1, e_T_api_Value x_1] })] [0, 1, 4, 9, 26, 27, 28] [0] 2 [Ii k_1, .sl false 3 (Mp e_T_api_Value l_1), Pp 0, Ii r_2, .sl false 3 (Mp e_T_api_Value l_1), Ii (lN (l_1)), Ii v_1] [Vb 33 [Ii 0, Ii 0, .nilsl]] hmix (ar ([Ii k_1, e_T_api_Value x_1] : List AV) (ac (rfl : ([] : List BoxSt) = []) (ac (column_Value_ok k_1 x_1 r_2 h_4 : TripleG prog 8 [] [] [Ii k_1, e_T_api_Value x_1] [] (Ii r_2)) an))) ?_
  refine sr [] [0, 1, 4, 9, 26, 27, 28, 36] [0] 2 [Ii k_1, .sl false 3 (Mp e_T_api_Value l_1), Pp 0, Ii r_2, .sl false 3 (Mp e_T_api_Value l_1), Ii (lN (l_1)), Ii v_1, .bool (r_2 != (0 : Int))] [Vb 33 [Ii 0, Ii 0, .nilsl]] hmix an ?_
  refine cd 36 (r_2 != (0 : Int)) ?_ ?_
  rotate_left
  ·intro g_4; replace h := cond_f g_4 h
   refine sk ?_
   refine rg [] [0, 1, 4, 26, 27, 28] [0] 2 [Ii k_1, .sl false 3 (Mp e_T_api_Value l_1), Pp 0, .sl false 3 (Mp e_T_api_Value l_1), Ii (lN (l_1)), Ii (w_i64 (v_1 + (1 : Int)))] [Vb 33 [Ii 0, Ii 0, .nilsl]] hmix an ?_
   exact ⟨_, (sw [0] [] [.s 0, .s 1, .s 4, .s 26, .s 27, .s 28] [.s 0] an), _, rfl, h⟩
  intro g_4; replace h := cond_t g_4 h
  refine sr [] [4, 5] [0] 2 [Pp 0, Ii r_2] [Vb 33 [Ii 0, Ii 0, .nilsl]] hmix an ?_
  refine wk [0] [] [.s 4, .s 5] [.a 0 (Vb 33 (v_T_api_Packed (⟨(0 : Int), (0 : Int), []⟩ : T_api_Packed)))] [(4, Pp 0), (5, Ii r_2)] [(0, Vb 33 (v_T_api_Packed (⟨(0 : Int), (0 : Int), []⟩ : T_api_Packed)))] (ar 33 (ac (rfl : ones [Ii ((⟨(0 : Int), (0 : Int), []⟩ : T_api_Packed).Type_), Ii ((⟨(0 : Int), (0 : Int), []⟩ : T_api_Packed).N), .sl false 1 (Mb ((⟨(0 : Int), (0 : Int), []⟩ : T_api_Packed).Bytes))] = true) (ac (rfl : (Ii 0 : AV) = Ii ((⟨(0 : Int), (0 : Int), []⟩ : T_api_Packed).Type_)) (ac (rfl : (Ii 0 : AV) = Ii ((⟨(0 : Int), (0 : Int), []⟩ : T_api_Packed).N)) (ac (rfl : ((Mb ((⟨(0 : Int), (0 : Int), []⟩ : T_api_Packed).Bytes)) : List AV) = []) an))))) ?_
  refine rt ?_
  cases h
  exact ⟨rfl, Nat.le_of_ble_eq_true rfl, by kernel_rfl⟩
 intro e st1 hk
 rcases o_1 with q_1 | q_2
 rotate_left
 ·obtain ⟨rfl, hf⟩ := hk
  cases h
  exact ⟨st1, Sub.refl _ _, .inr rfl, hf⟩
 obtain ⟨rfl, hs⟩ := hk
 refine ⟨_, hs, ?_⟩
 refine sq ?_
 obtain ⟨r_3, h_5, h⟩ := bind_some h
 refine rg [(1, { av := .own 0 ((r_3).length), ids := [1], l := [.sl false 3 (Mp e_T_api_Value l_1)], post := [(.row 5 1 (Mb r_3))] })] [0, 1, 4, 10, 11] [0, 1] 2 [Ii k_1, .sl false 3 (Mp e_T_api_Value l_1), Pp 0, .own 1 ((r_3).length), Ii 0] [Vb 33 [Ii 0, Ii 0, .nilsl], Rb 5 1 (Mb r_3)] hmix (ar ([.sl false 3 (Mp e_T_api_Value l_1)] : List AV) (ac (rfl : ([] : List BoxSt) = []) (ac (column_plain_ok F l_1 r_3 h_5 : TripleG prog 23 [] [] [.sl false 3 (Mp e_T_api_Value l_1)] [(.row 5 1 (Mb r_3))] (.own 0 ((r_3).length))) an))) ?_
 refine sq ?_
 refine sq ?_
 obtain ⟨r_4, h_6, h⟩ := bind_some h
 refine rg [(1, { av := .sl false 1 (Mb r_4), l := [.sl false 3 (Mp e_T_api_Value l_1)] })] [0, 1, 4, 10, 11, 12] [0, 1] 2 [Ii k_1, .sl false 3 (Mp e_T_api_Value l_1), Pp 0, .own 1 ((r_3).length), Ii 0, .sl false 1 (Mb r_4)] [Vb 33 [Ii 0, Ii 0, .nilsl], Rb 5 1 (Mb r_3)] hmix (ar ([.sl false 3 (Mp e_T_api_Value l_1)] : List AV) (ac (rfl : ([] : List BoxSt) = []) (ac (column_runs_ok F l_1 r_4 h_6 : TripleG prog 24 [] [] [.sl false 3 (Mp e_T_api_Value l_1)] [] (.sl false 1 (Mb r_4))) an))) ?_
 refine sr [(1, { n := (r_4).length })] [0, 1, 4, 10, 11, 12, 48] [0, 1] 2 [Ii k_1, .sl false 3 (Mp e_T_api_Value l_1), Pp 0, .own 1 ((r_3).length), Ii 0, .sl false 1 (Mb r_4), .bool (decide ((lN (r_4)) < (lN (r_3))))] [Vb 33 [Ii 0, Ii 0, .nilsl], Rb 5 1 (Mb r_3)] hmix (ac (vc_len _ : ((Mb r_4)).length = (r_4).length) an) ?_
 obtain ⟨o_2, h_7, h⟩ := bind_some h
 refine aw_mid (mk [(0, Ii k_1), (1, .sl false 3 (Mp e_T_api_Value l_1)), (4, Pp 0), (10, .sl false 1 (Mb o_2.1)), (11, Ii o_2.2)] [(0, Vb 33 [Ii 0, Ii 0, .nilsl])] 1) ?_ ?_
 ·replace h := h_7
  refine cd 48 (decide ((lN (r_4)) < (lN (r_3)))) ?_ ?_
  ·intro g_5; replace h := cond_t g_5 h
   refine rg [] [0, 1, 4, 10, 11] [0] 2 [Ii k_1, .sl false 3 (Mp e_T_api_Value l_1), Pp 0, .sl false 1 (Mb r_4), Ii 1] [Vb 33 [Ii 0, Ii 0, .nilsl]] hmix an ?_
   cases h
   exact ⟨rfl, (sw [0] [] [.s 0, .s 1, .s 4, .s 10, .s 11] [.s 0] an)⟩
  intro g_5; replace h := cond_f g_5 h
  refine sk ?_
  cases h
  exact ⟨rfl, (Sub.trans (sub_wkm [0] [1] [.s 0, .s 1, .s 4, .a 10 (.sl false 1 (Mb r_3)), .s 11, .s 12, .s 48] [.s 0] (sl2 := [(0, Ii k_1), (1, .sl false 3 (Mp e_T_api_Value l_1)), (4, Pp 0), (10, .sl false 1 (Mb r_3)), (11, Ii 0), (12, .sl false 1 (Mb r_4)), (48, .bool (decide ((lN (r_4)) < (lN (r_3)))))]) (bx2 := [(0, Vb 33 [Ii 0, Ii 0, .nilsl])]) (by kernel_rfl) (ac (by first | (simp; done) | (simp; omega) : (r_3).length = ((List.map (AV.int .u8) r_3)).length) (ar 1 (ar ((Mb r_3) : List AV) (ac (rfl : (!false || false) = true) an))))) (sw [0] [] [.s 0, .s 1, .s 4, .s 10, .s 11] [.s 0] an))⟩
 refine sq ?_
 refine sq ?_
 obtain ⟨r_5, h_8, h⟩ := bind_some h
 refine rg [(2, { av := .tuple [.sl false 1 (Mb r_5.1), .bool r_5.2], l := [Ii k_1, .sl false 3 (Mp e_T_api_Value l_1)] })] [0, 1, 4, 10, 11, 13, 14] [0] 1 [Ii k_1, .sl false 3 (Mp e_T_api_Value l_1), Pp 0, .sl false 1 (Mb o_2.1), Ii o_2.2, .sl false 1 (Mb r_5.1), .bool r_5.2] [Vb 33 [Ii 0, Ii 0, .nilsl]] hmix (ar ([Ii k_1, .sl false 3 (Mp e_T_api_Value l_1)] : List AV) (ac (rfl : ([] : List BoxSt) = []) (ac (column_differences_ok F k_1 l_1 r_5 h_8 : TripleG prog 25 [] [] [Ii k_1, .sl false 3 (Mp e_T_api_Value l_1)] [] (.tuple [.sl false 1 (Mb r_5.1), .bool r_5.2])) an))) ?_
 refine sq ?_
 refine aw_mid (mk [(0, Ii k_1), (1, .sl false 3 (Mp e_T_api_Value l_1)), (4, Pp 0), (10, .sl false 1 (Mb o_2.1)), (11, Ii o_2.2), (13, .sl false 1 (Mb r_5.1)), (63, .bool (r_5.2 && decide ((lN (r_5.1)) < (lN (o_2.1)))))] [(0, Vb 33 [Ii 0, Ii 0, .nilsl])] 1) ?_ ?_
 ·rcases Bool.eq_false_or_eq_true r_5.2 with gg_1 | gg_1
  ·refine rg [(3, { n := (r_5.1).length }), (5, { n := (o_2.1).length }), (7, Ht)] [0, 1, 4, 10, 11, 13, 63] [0] 1 [Ii k_1, .sl false 3 (Mp e_T_api_Value l_1), Pp 0, .sl false 1 (Mb o_2.1), Ii o_2.2, .sl false 1 (Mb r_5.1), .bool (decide ((lN (r_5.1)) < (lN (o_2.1))))] [Vb 33 [Ii 0, Ii 0, .nilsl]] hmix (ac gg_1 (ac gg_1 (ac (vc_len _ : ((Mb r_5.1)).length = (r_5.1).length) (ac gg_1 (ac gg_1 (ac (vc_len _ : ((Mb o_2.1)).length = (o_2.1).length) (ac gg_1 (ac gg_1 an)))))))) ?_
   exact ⟨rfl, (sw [0] [] [.s 0, .s 1, .s 4, .s 10, .s 11, .s 13, .a 63 (.bool (r_5.2 && decide ((lN (r_5.1)) < (lN (o_2.1)))))] [.s 0] (ac (congrArg AV.bool (andt gg_1 rfl) : (.bool (decide ((lN (r_5.1)) < (lN (o_2.1)))) : AV) = .bool (r_5.2 && decide ((lN (r_5.1)) < (lN (o_2.1))))) an))⟩
  ·refine rg [(2, Hg), (3, Hg), (4, Hg), (5, Hg), (6, Hg), (7, Hf)] [0, 1, 4, 10, 11, 13, 63] [0] 1 [Ii k_1, .sl false 3 (Mp e_T_api_Value l_1), Pp 0, .sl false 1 (Mb o_2.1), Ii o_2.2, .sl false 1 (Mb r_5.1), .bool false] [Vb 33 [Ii 0, Ii 0, .nilsl]] hmix (ac gg_1 (ac gg_1 (ac gg_1 (ac gg_1 (ac gg_1 (ac gg_1 an)))))) ?_
   exact ⟨rfl, (sw [0] [] [.s 0, .s 1, .s 4, .s 10, .s 11, .s 13, .a 63 (.bool (r_5.2 && decide ((lN (r_5.1)) < (lN (o_2.1)))))] [.s 0] (ac (congrArg AV.bool (andf gg_1) : (.bool false : AV) = .bool (r_5.2 && decide ((lN (r_5.1)) < (lN (o_2.1))))) an))⟩
 obtain ⟨o_3, h_9, h⟩ := bind_some h
 refine aw_mid (mk [(0, Ii k_1), (1, .sl false 3 (Mp e_T_api_Value l_1)), (4, Pp 0), (10, .sl false 1 (Mb o_3.1)), (11, Ii o_3.2)] [(0, Vb 33 [Ii 0, Ii 0, .nilsl])] 1) ?_ ?_
 ·replace h := h_9
  refine cd 63 (r_5.2 && decide ((lN (r_5.1)) < (lN (o_2.1)))) ?_ ?_
  ·intro g_6; replace h := cond_t g_6 h
   refine rg [] [0, 1, 4, 10, 11] [0] 1 [Ii k_1, .sl false 3 (Mp e_T_api_Value l_1), Pp 0, .sl false 1 (Mb r_5.1), Ii 2] [Vb 33 [Ii 0, Ii 0, .nilsl]] hmix an ?_
   cases h
   exact ⟨rfl, (sw [0] [] [.s 0, .s 1, .s 4, .s 10, .s 11] [.s 0] an)⟩
  intro g_6; replace h := cond_f g_6 h
  refine sk ?_
  cases h
  exact ⟨rfl, (sw [0] [] [.s 0, .s 1, .s 4, .s 10, .s 11] [.s 0] an)⟩
 refine sq ?_
 refine sq ?_
 obtain ⟨r_6, h_10, h⟩ := bind_some h
 refine rg [(1, { av := .own 0 ((r_6).length), ids := [1], l := [.sl false 3 (Mp e_T_api_Value l_1)], post := [(.row 5 1 (Mb r_6))] })] [0, 1, 4, 10, 11, 15] [0, 1] 2 [Ii k_1, .sl false 3 (Mp e_T_api_Value l_1), Pp 0, .sl false 1 (Mb o_3.1), Ii o_3.2, .own 1 ((r_6).length)] [Vb 33 [Ii 0, Ii 0, .nilsl], Rb 5 1 (Mb r_6)] hmix (ar ([.sl false 3 (Mp e_T_api_Value l_1)] : List AV) (ac (rfl : ([] : List BoxSt) = []) (ac (column_dictionary_ok F l_1 r_6 h_10 : TripleG prog 26 [] [] [.sl false 3 (Mp e_T_api_Value l_1)] [(.row 5 1 (Mb r_6))] (.own 0 ((r_6).length))) an))) ?_
 refine sr [(3, { n := (o_3.1).length })] [0, 1, 4, 10, 11, 15, 71] [0, 1] 2 [Ii k_1, .sl false 3 (Mp e_T_api_Value l_1), Pp 0, .sl false 1 (Mb o_3.1), Ii o_3.2, .own 1 ((r_6).length), .bool (decide ((lN (r_6)) < (lN (o_3.1))))] [Vb 33 [Ii 0, Ii 0, .nilsl], Rb 5 1 (Mb r_6)] hmix (ac (vc_len _ : ((Mb o_3.1)).length = (o_3.1).length) an) ?_
 obtain ⟨o_4, h_11, h⟩ := bind_some h
 refine aw_mid (mk [(0, Ii k_1), (1, .sl false 3 (Mp e_T_api_Value l_1)), (4, Pp 0), (10, .sl false 1 (Mb o_4.1)), (11, Ii o_4.2)] [(0, Vb 33 [Ii 0, Ii 0, .nilsl])] 1) ?_ ?_
 ·replace h := h_11
  refine cd 71 (decide ((lN (r_6)) < (lN (o_3.1)))) ?_ ?_
  ·intro g_7; replace h := cond_t g_7 h
   refine rg [] [0, 1, 4, 10, 11] [0, 1] 2 [Ii k_1, .sl false 3 (Mp e_T_api_Value l_1), Pp 0, .own 1 ((r_6).length), Ii 3] [Vb 33 [Ii 0, Ii 0, .nilsl], Rb 5 1 (Mb r_6)] hmix an ?_
   cases h
   exact ⟨rfl, (Sub.trans (sub_wkm [0] [1] [.s 0, .s 1, .s 4, .a 10 (.sl false 1 (Mb r_6)), .s 11] [.s 0] (sl2 := [(0, Ii k_1), (1, .sl false 3 (Mp e_T_api_Value l_1)), (4, Pp 0), (10, .sl false 1 (Mb r_6)), (11, Ii 3)]) (bx2 := [(0, Vb 33 [Ii 0, Ii 0, .nilsl])]) (by kernel_rfl) (ac (by first | (simp; done) | (simp; omega) : (r_6).length = ((List.map (AV.int .u8) r_6)).length) (ar 1 (ar ((Mb r_6) : List AV) (ac (rfl : (!false || false) = true) an))))) (sw [0] [] [.s 0, .s 1, .s 4, .s 10, .s 11] [.s 0] an))⟩
  intro g_7; replace h := cond_f g_7 h
  refine sk ?_
  cases h
  exact ⟨rfl, (sw [0] [] [.s 0, .s 1, .s 4, .s 10, .s 11] [.s 0] an)⟩
 refine sq ?_
 obtain ⟨_, h_12, h⟩ := bind_some h; replace h_12 := need_some h_12
 refine rg [(2, { n := (l_1).length }), (5, { id := 1 }), (7, { id := 2, l := (Mb (([w_u8 o_4.2] : List Int) ++ o_4.1)), n := ((([w_u8 o_4.2] : List Int) ++ o_4.1)).length })] [4, 5] [0, 2] 3 [Pp 0, Ii 0] [Vb 33 [Ii k_1, Ii (lN (l_1)), .own 2 (((([w_u8 o_4.2] : List Int) ++ o_4.1)).length)], Rb 5 1 (Mb (([w_u8 o_4.2] : List Int) ++ o_4.1))] hmix (ac (vc_len _ : ((Mp e_T_api_Value l_1)).length = (l_1).length) (ac (by first | (simp; done) | (simp; omega) : 1 = ((List.map (AV.int .u8) ([w_u8 o_4.2] : List Int))).length) (ac (trivial : True) (ac (vc_app _ _ : (Mb (([w_u8 o_4.2] : List Int) ++ o_4.1)) = (Mb ([w_u8 o_4.2] : List Int)) ++ (Mb o_4.1)) (ac (by simp : ((([w_u8 o_4.2] : List Int) ++ o_4.1)).length = ((List.map (AV.int .u8) (([w_u8 o_4.2] : List Int) ++ o_4.1))).length) (ac (by first | (simp; done) | simpa using h_12 : (((List.map (AV.int .u8) ([w_u8 o_4.2] : List Int)) : List AV).length + ((List.map (AV.int .u8) o_4.1) : List AV).length) * 1 ≤ 140737488355328) an)))))) ?_
 refine wk [0] [2] [.s 4, .s 5] [.a 0 (Vb 33 (v_T_api_Packed (⟨k_1, (lN (l_1)), (([w_u8 o_4.2] : List Int) ++ o_4.1)⟩ : T_api_Packed)))] [(4, Pp 0), (5, Ii 0)] [(0, Vb 33 (v_T_api_Packed (⟨k_1, (lN (l_1)), (([w_u8 o_4.2] : List Int) ++ o_4.1)⟩ : T_api_Packed)))] (ar 33 (ac (rfl : ones [Ii ((⟨k_1, (lN (l_1)), (([w_u8 o_4.2] : List Int) ++ o_4.1)⟩ : T_api_Packed).Type_), Ii ((⟨k_1, (lN (l_1)), (([w_u8 o_4.2] : List Int) ++ o_4.1)⟩ : T_api_Packed).N), .sl false 1 (Mb ((⟨k_1, (lN (l_1)), (([w_u8 o_4.2] : List Int) ++ o_4.1)⟩ : T_api_Packed).Bytes))] = true) (ac (by first | (simp; done) | (simp; omega) : ((([w_u8 o_4.2] : List Int) ++ o_4.1)).length = ((List.map (AV.int .u8) (([w_u8 o_4.2] : List Int) ++ o_4.1))).length) (ac (rfl : (Ii k_1 : AV) = Ii ((⟨k_1, (lN (l_1)), (([w_u8 o_4.2] : List Int) ++ o_4.1)⟩ : T_api_Packed).Type_)) (ac (rfl : (Ii (lN (l_1)) : AV) = Ii ((⟨k_1, (lN (l_1)), (([w_u8 o_4.2] : List Int) ++ o_4.1)⟩ : T_api_Packed).N)) (ar 1 (ac (rfl : ((Mb (([w_u8 o_4.2] : List Int) ++ o_4.1)) : List AV) = (Mb ((⟨k_1, (lN (l_1)), (([w_u8 o_4.2] : List Int) ++ o_4.1)⟩ : T_api_Packed).Bytes))) (ac (rfl : (!false || false) = true) an)))))))) ?_
 refine rt ?_
 cases h
 exact ⟨.inr rfl, Nat.le_of_ble_eq_true rfl, by kernel_rfl⟩

theorem codec_integer_ok (u_1 : Int) (r : Int) (h : codec_integer u_1 = some r) : TripleG prog 55 [] [] [.int .u64 u_1] [] (Ii r) := by
 refine triple_intro (fn := Go.Proofs.Try.f55) (code := codeOf Go.Proofs.Try.f55) (by kernel_rfl) (by kernel_rfl) (Nat.le_of_ble_eq_true (by kernel_rfl)) ?_
 unfold codec_integer at h
 refine sr [] [0] [] 0 [.int .u64 u_1] [] hmix an ?_
 refine sr [] [2] [] 0 [Ii (ixor .i64 (w_i64 (ishr .u64 u_1 (1 : Int))) (w_i64 (0 - (w_i64 (iand .u64 u_1 (1 : Int))))))] [] hmix (ac (by decide : (0 : Int) ≤ (1 : Int)) an) ?_
 refine rt ?_
 cases h
 exact ⟨.inr rfl, Nat.le_of_ble_eq_true rfl, by kernel_rfl⟩

theorem codec_Int_ok (F : Nat) (b_1 : List (Int)) (r : Int × Int × Int) (h : codec_Int F b_1 = some r) : TripleG prog 51 [] [] [.sl false 1 (Mb b_1)] [] (.tuple [Ii r.1, Ii r.2.1, Ii r.2.2]) := by
 refine triple_intro (fn := Go.Proofs.Try.f51) (code := codeOf Go.Proofs.Try.f51) (by kernel_rfl) (by kernel_rfl) (Nat.le_of_ble_eq_true (by kernel_rfl)) ?_
 unfold codec_Int at h
 refine sr [] [0] [] 0 [.sl false 1 (Mb b_1)] [] hmix an ?_
 refine sr [] [0, 5] [] 0 [.sl false 1 (Mb b_1), .int .u64 (0 : Int)] [] hmix an ?_
 refine sq ?_
 refine sr [(1, { n := (b_1).length })] [5, 8, 9, 10] [] 0 [.int .u64 (0 : Int), .sl false 1 (Mb b_1), Ii (lN (b_1)), Ii 0] [] hmix (ac (vc_len _ : ((Mb b_1)).length = (b_1).length) an) ?_
 obtain ⟨o_1, h_1, h⟩ := bind_some h
 refine aw_conv (K1 := (fun e st' => match o_1 with | (.inl q0) => e = .normal ∧ Sub 0 st' (mk [] [] 0) | (.inr q1) => e = .ret ∧ FinR prog Go.Proofs.Try.f51 0 [] (.tuple [Ii q1.1, Ii q1.2.1, Ii q1.2.2]) st')) ?_ ?_
 ·replace h := h_1
  refine aw_block (id := 0) (by kernel_rfl) ?_
  refine wk [] [] [.s 5, .s 8, .s 9, .s 10] [] [(5, .int .u64 (0 : Int)), (8, .sl false 1 (Mb b_1)), (9, Ii (lN (b_1))), (10, Ii 0)] [] an ?_
  refine aw_loopF (fun n st => ∃ (u_1 : Int), ∃ (v_1 : Int), st = mk [(5, .int .u64 u_1), (8, .sl false 1 (Mb b_1)), (9, Ii (lN (b_1))), (10, Ii v_1)] [] 0 ∧ codec_Int_L1 F b_1 n u_1 v_1 = some o_1) F (by kernel_rfl) ⟨_, _, rfl, h⟩ ?_ ?_
  ·rintro _ ⟨_, _, _, h⟩; exact none_ne (h : (none : Option (Unit ⊕ (Int × Int × Int))) = some o_1)
  rintro n_1 _ ⟨u_1, v_1, rfl, h⟩
  replace h : codec_Int_L1_body F b_1 (codec_Int_L1 F b_1 n_1) u_1 v_1 = some o_1 := h
  unfold codec_Int_L1_body at h
  refine sr [] [5, 8, 9, 10, 11] [] 0 [.int .u64 u_1, .sl false 1 (Mb b_1), Ii (lN (b_1)), Ii v_1, .bool (decide (v_1 < (lN (b_1))))] [] hmix an ?_
  refine sq ?_
  refine cd 11 (decide (v_1 < (lN (b_1)))) ?_ ?_
  rotate_left
  ·intro g_1; replace h := cond_f g_1 h
   refine aw_exit (id := 0) (by kernel_rfl) ?_
   cases h
   exact ⟨rfl, (sw [] [] [] [] an)⟩
  intro g_1; replace h := cond_t g_1 h
  refine sk ?_
  refine sq ?_
  refine aw_block (id := 1) (by kernel_rfl) ?_
  refine sq ?_
  obtain ⟨x_1, h_2, h⟩ := bind_some h
  refine rg [(1, { av := Iu x_1 })] [5, 6, 7, 8, 9, 10] [] 0 [.int .u64 u_1, Ii v_1, Iu x_1, .sl false 1 (Mb b_1), Ii (lN (b_1)), Ii v_1] [] hmix (ac (vc_idx h_2 : idxA (Mb b_1) v_1 = some (Iu x_1)) an) ?_
  refine sq ?_
  refine sq ?_
  refine aw_mid (mk [(5, .int .u64 u_1), (6, Ii v_1), (7, Iu x_1), (8, .sl false 1 (Mb b_1)), (9, Ii (lN (b_1))), (10, Ii v_1), (20, .bool ((v_1 == (9 : Int)) && decide (x_1 > (1 : Int))))] [] 0) ?_ ?_
  ·rcases bft (v_1 == (9 : Int)) with gg_7 | gg_7
   ·refine rg [(5, Ht)] [5, 6, 7, 8, 9, 10, 18, 19, 20] [] 0 [.int .u64 u_1, Ii v_1, Iu x_1, .sl false 1 (Mb b_1), Ii (lN (b_1)), Ii v_1, Iu x_1, .bool (decide (x_1 > (1 : Int))), .bool (decide (x_1 > (1 : Int)))] [] hmix (ac gg_7 (ac gg_7 (ac gg_7 an))) ?_
    exact ⟨rfl, (sw [] [] [.s 5, .s 6, .s 7, .s 8, .s 9, .s 10, .a 20 (.bool ((v_1 == (9 : Int)) && decide (x_1 > (1 : Int))))] [] (ac (congrArg AV.bool (andt gg_7 rfl) : (.bool (decide (x_1 > (1 : Int))) : AV) = .bool ((v_1 == (9 : Int)) && decide (x_1 > (1 : Int)))) an))⟩
   ·refine rg [(3, Hg), (4, Hg), (5, Hf)] [5, 6, 7, 8, 9, 10, 18, 19, 20] [] 0 [.int .u64 u_1, Ii v_1, Iu x_1, .sl false 1 (Mb b_1), Ii (lN (b_1)), Ii v_1, .tuple [], .tuple [], .bool false] [] hmix (ac gg_7 (ac gg_7 (ac gg_7 an))) ?_
    exact ⟨rfl, (sw [] [] [.s 5, .s 6, .s 7, .s 8, .s 9, .s 10, .a 20 (.bool ((v_1 == (9 : Int)) && decide (x_1 > (1 : Int))))] [] (ac (congrArg AV.bool (andf gg_7) : (.bool false : AV) = .bool ((v_1 == (9 : Int)) && decide (x_1 > (1 : Int)))) an))⟩
  refine cd 20 ((v_1 == (9 : Int)) && decide (x_1 > (1 : Int))) ?_ ?_
  ·intro g_2; replace h := cond_t g_2 h
   refine sr [] [2, 3, 4] [] 0 [Ii 0, Ii 0, Ii 10] [] hmix an ?_
   refine rt ?_
   cases h
   exact ⟨rfl, Nat.le_of_ble_eq_true rfl, by kernel_rfl⟩
  intro g_2; replace h := cond_f g_2 h
  refine sk ?_
  refine sq ?_
  obtain ⟨_, h_3, h⟩ := bind_some h; replace h_3 := need_some h_3
  refine rg [] [5, 6, 7, 8, 9, 10] [] 0 [.int .u64 (ior .u64 u_1 (ishl .u64 (w_u64 (iand .u8 x_1 (127 : Int))) (w_i64 ((7 : Int) * v_1)))), Ii v_1, Iu x_1, .sl false 1 (Mb b_1), Ii (lN (b_1)), Ii v_1] [] hmix (ac h_3 an) ?_
  refine sq ?_
  refine sr [] [5, 6, 7, 8, 9, 10, 30] [] 0 [.int .u64 (ior .u64 u_1 (ishl .u64 (w_u64 (iand .u8 x_1 (127 : Int))) (w_i64 ((7 : Int) * v_1)))), Ii v_1, Iu x_1, .sl false 1 (Mb b_1), Ii (lN (b_1)), Ii v_1, .bool (decide (x_1 ≥ (128 : Int)))] [] hmix an ?_
  refine cd 30 (decide (x_1 ≥ (128 : Int))) ?_ ?_
  ·intro g_3; replace h := cond_t g_3 h
   refine aw_exit (id := 1) (by kernel_rfl) ?_
   refine rg [] [5, 8, 9, 10] [] 0 [.int .u64 (ior .u64 u_1 (ishl .u64 (w_u64 (iand .u8 x_1 (127 : Int))) (w_i64 ((7 : Int) * v_1)))), .sl false 1 (Mb b_1), Ii (lN (b_1)), Ii (w_i64 (v_1 + (1 : Int)))] [] hmix an ?_
   exact ⟨_, (sw [] [] [.s 5, .s 8, .s 9, .s 10] [] an), _, _, rfl, h⟩
  intro g_3; replace h := cond_f g_3 h
  refine sk ?_
  refine sq ?_
  refine sq ?_
  refine aw_mid (mk [(5, .int .u64 (ior .u64 u_1 (ishl .u64 (w_u64 (iand .u8 x_1 (127 : Int))) (w_i64 ((7 : Int) * v_1))))), (6, Ii v_1), (36, .bool ((x_1 == (0 : Int)) && decide (v_1 > (0 : Int))))] [] 0) ?_ ?_
  ·rcases bft (x_1 == (0 : Int)) with gg_8 | gg_8
   ·refine rg [(5, Ht)] [5, 6, 36] [] 0 [.int .u64 (ior .u64 u_1 (ishl .u64 (w_u64 (iand .u8 x_1 (127 : Int))) (w_i64 ((7 : Int) * v_1)))), Ii v_1, .bool (decide (v_1 > (0 : Int)))] [] hmix (ac gg_8 (ac gg_8 (ac gg_8 an))) ?_
    exact ⟨rfl, (sw [] [] [.s 5, .s 6, .a 36 (.bool ((x_1 == (0 : Int)) && decide (v_1 > (0 : Int))))] [] (ac (congrArg AV.bool (andt gg_8 rfl) : (.bool (decide (v_1 > (0 : Int))) : AV) = .bool ((x_1 == (0 : Int)) && decide (v_1 > (0 : Int)))) an))⟩
   ·refine rg [(3, Hg), (4, Hg), (5, Hf)] [5, 6, 36] [] 0 [.int .u64 (ior .u64 u_1 (ishl .u64 (w_u64 (iand .u8 x_1 (127 : Int))) (w_i64 ((7 : Int) * v_1)))), Ii v_1, .bool false] [] hmix (ac gg_8 (ac gg_8 (ac gg_8 an))) ?_
    exact ⟨rfl, (sw [] [] [.s 5, .s 6, .a 36 (.bool ((x_1 == (0 : Int)) && decide (v_1 > (0 : Int))))] [] (ac (congrArg AV.bool (andf gg_8) : (.bool false : AV) = .bool ((x_1 == (0 : Int)) && decide (v_1 > (0 : Int)))) an))⟩
  refine cd 36 ((x_1 == (0 : Int)) && decide (v_1 > (0 : Int))) ?_ ?_
  ·intro g_4; replace h := cond_t g_4 h
   refine sr [] [2, 3, 4] [] 0 [Ii 0, Ii 0, Ii 10] [] hmix an ?_
   refine rt ?_
   cases h
   exact ⟨rfl, Nat.le_of_ble_eq_true rfl, by kernel_rfl⟩
  intro g_4; replace h := cond_f g_4 h
  refine sk ?_
  refine sq ?_
  obtain ⟨r_1, h_4, h⟩ := bind_some h
  refine rg [(1, { av := Ii r_1, l := [.int .u64 (ior .u64 u_1 (ishl .u64 (w_u64 (iand .u8 x_1 (127 : Int))) (w_i64 ((7 : Int) * v_1))))] })] [2, 3, 4] [] 0 [Ii r_1, Ii (w_i64 (v_1 + (1 : Int))), Ii 0] [] hmix (ar ([.int .u64 (ior .u64 u_1 (ishl .u64 (w_u64 (iand .u8 x_1 (127 : Int))) (w_i64 ((7 : Int) * v_1))))] : List AV) (ac (rfl : ([] : List BoxSt) = []) (ac (codec_integer_ok (ior .u64 u_1 (ishl .u64 (w_u64 (iand .u8 x_1 (127 : Int))) (w_i64 ((7 : Int) * v_1)))) r_1 h_4 : TripleG prog 55 [] [] [.int .u64 (ior .u64 u_1 (ishl .u64 (w_u64 (iand .u8 x_1 (127 : Int))) (w_i64 ((7 : Int) * v_1))))] [] (Ii r_1)) an))) ?_
  refine rt ?_
  cases h
  exact ⟨rfl, Nat.le_of_ble_eq_true rfl, by kernel_rfl⟩
 intro e st1 hk
 rcases o_1 with q_1 | q_2
 rotate_left
 ·obtain ⟨rfl, hf⟩ := hk
  cases h
  exact ⟨st1, Sub.refl _ _, .inr rfl, hf⟩
 obtain ⟨rfl, hs⟩ := hk
 refine ⟨_, hs, ?_⟩
 refine sr [] [2, 3, 4] [] 0 [Ii 0, Ii 0, Ii 8] [] hmix an ?_
 refine rt ?_
 cases h
 exact ⟨.inr rfl, Nat.le_of_ble_eq_true rfl, by kernel_rfl⟩

theorem column_input_num_ok (F : Nat) (x_1 : T_column_input) (r : Int × T_column_input) (h : column_input_num F x_1 = some r) : TripleG prog 41 [(.var 53 (v_T_column_input x_1))] [] [Pp 0] [(.var 53 (v_T_column_input r.2))] (Ii r.1) := by
 refine triple_intro (fn := Go.Proofs.Try.f41) (code := codeOf Go.Proofs.Try.f41) (by kernel_rfl) (by kernel_rfl) (Nat.le_of_ble_eq_true (by kernel_rfl)) ?_
 unfold column_input_num at h
 refine sr [] [0] [0] 1 [Pp 0] [Vb 53 (v_T_column_input x_1)] hmix an ?_
 refine sq ?_
 obtain ⟨r_1, h_1, h⟩ := bind_some h
 refine rg [(4, { av := .tuple [Ii r_1.1, Ii r_1.2.1, Ii r_1.2.2], l := [.sl false 1 (Mb x_1.b)] })] [0, 3, 4, 5] [0] 1 [Pp 0, Ii r_1.1, Ii r_1.2.1, Ii r_1.2.2] [Vb 53 (v_T_column_input x_1)] hmix (ar ([.sl false 1 (Mb x_1.b)] : List AV) (ac (rfl : ([] : List BoxSt) = []) (ac (codec_Int_ok F x_1.b r_1 h_1 : TripleG prog 51 [] [] [.sl false 1 (Mb x_1.b)] [] (.tuple [Ii r_1.1, Ii r_1.2.1, Ii r_1.2.2])) an))) ?_
 refine sq ?_
 refine sr [] [0, 3, 4, 16] [0] 1 [Pp 0, Ii r_1.1, Ii r_1.2.1, .bool (r_1.2.2 != (0 : Int))] [Vb 53 (v_T_column_input x_1)] hmix an ?_
 refine cd 16 (r_1.2.2 != (0 : Int)) ?_ ?_
 ·intro g_1; replace h := cond_t g_1 h
  refine sr [] [] [0] 1 [] [Vb 53 [.sl false 1 (Mb x_1.b), .bool true]] hmix an ?_
  refine sr [] [2] [0] 1 [Ii 0] [Vb 53 [.sl false 1 (Mb x_1.b), .bool true]] hmix an ?_
  refine wk [0] [] [.s 2] [.a 0 (Vb 53 (v_T_column_input (⟨x_1.b, true⟩ : T_column_input)))] [(2, Ii 0)] [(0, Vb 53 (v_T_column_input (⟨x_1.b, true⟩ : T_column_input)))] (ar 53 (ac (rfl : ones [.sl false 1 (Mb ((⟨x_1.b, true⟩ : T_column_input).b)), .bool ((⟨x_1.b, true⟩ : T_column_input).bad)] = true) (ar 1 (ac (rfl : ((Mb x_1.b) : List AV) = (Mb ((⟨x_1.b, true⟩ : T_column_input).b))) (ac (rfl : (!false || false) = true) (ac (rfl : (.bool true : AV) = .bool ((⟨x_1.b, true⟩ : T_column_input).bad)) an)))))) ?_
  refine rt ?_
  cases h
  exact ⟨.inr rfl, Nat.le_of_ble_eq_true rfl, by kernel_rfl⟩
 intro g_1; replace h := cond_f g_1 h
 refine sk ?_
 refine sq ?_
 obtain ⟨_, h_2, h⟩ := bind_some h; replace h_2 := need_some h_2
 refine rg [(6, { l := (Mb (sub x_1.b r_1.2.1 (lN (x_1.b)))) })] [3] [0] 1 [Ii r_1.1] [Vb 53 [.sl false 1 (Mb (sub x_1.b r_1.2.1 (lN (x_1.b)))), .bool x_1.bad]] hmix (ac h_2.1 (ac (vc_lenle h_2.2 : r_1.2.1 ≤ (lN ((Mb x_1.b)))) (ac (Int.le_refl _ : (lN ((Mb x_1.b))) ≤ (lN ((Mb x_1.b)))) (ac (vc_subn _ _ : (Mb (sub x_1.b r_1.2.1 (lN (x_1.b)))) = (((Mb x_1.b)).take ((lN ((Mb x_1.b)))).toNat).drop (r_1.2.1).toNat) an)))) ?_
 refine sr [] [2] [0] 1 [Ii r_1.1] [Vb 53 [.sl false 1 (Mb (sub x_1.b r_1.2.1 (lN (x_1.b)))), .bool x_1.bad]] hmix an ?_
 refine wk [0] [] [.s 2] [.a 0 (Vb 53 (v_T_column_input (⟨sub x_1.b r_1.2.1 (lN (x_1.b)), x_1.bad⟩ : T_column_input)))] [(2, Ii r_1.1)] [(0, Vb 53 (v_T_column_input (⟨sub x_1.b r_1.2.1 (lN (x_1.b)), x_1.bad⟩ : T_column_input)))] (ar 53 (ac (rfl : ones [.sl false 1 (Mb ((⟨sub x_1.b r_1.2.1 (lN (x_1.b)), x_1.bad⟩ : T_column_input).b)), .bool ((⟨sub x_1.b r_1.2.1 (lN (x_1.b)), x_1.bad⟩ : T_column_input).bad)] = true) (ar 1 (ac (rfl : ((Mb (sub x_1.b r_1.2.1 (lN (x_1.b)))) : List AV) = (Mb ((⟨sub x_1.b r_1.2.1 (lN (x_1.b)), x_1.bad⟩ : T_column_input).b))) (ac (rfl : (!false || false) = true) (ac (rfl : (.bool x_1.bad : AV) = .bool ((⟨sub x_1.b r_1.2.1 (lN (x_1.b)), x_1.bad⟩ : T_column_input).bad)) an)))))) ?_
 refine rt ?_
 cases h
 exact ⟨.inr rfl, Nat.le_of_ble_eq_true rfl, by kernel_rfl⟩

theorem codec_Text_ok (F : Nat) (b_1 : List (Int)) (most_1 : Int) (r : (List Int) × Int × Int) (h : codec_Text F b_1 most_1 = some r) : TripleG prog 50 [] [] [.sl false 1 (Mb b_1), Ii most_1] [] (.tuple [.str r.1, Ii r.2.1, Ii r.2.2]) := by
 refine triple_intro (fn := Go.Proofs.Try.f50) (code := codeOf Go.Proofs.Try.f50) (by kernel_rfl) (by kernel_rfl) (Nat.le_of_ble_eq_true (by kernel_rfl)) ?_
 unfold codec_Text at h
 refine sr [] [0, 1] [] 0 [.sl false 1 (Mb b_1), Ii most_1] [] hmix an ?_
 refine sq ?_
 obtain ⟨r_1, h_1, h⟩ := bind_some h
 refine rg [(1, { av := .tuple [Ii r_1.1, Ii r_1.2.1, Ii r_1.2.2], l := [.sl false 1 (Mb b_1)] })] [0, 1, 7, 8, 9] [] 0 [.sl false 1 (Mb b_1), Ii most_1, Ii r_1.1, Ii r_1.2.1, Ii r_1.2.2] [] hmix (ar ([.sl false 1 (Mb b_1)] : List AV) (ac (rfl : ([] : List BoxSt) = []) (ac (codec_Int_ok F b_1 r_1 h_1 : TripleG prog 51 [] [] [.sl false 1 (Mb b_1)] [] (.tuple [Ii r_1.1, Ii r_1.2.1, Ii r_1.2.2])) an))) ?_
 refine sq ?_
 refine aw_block (id := 0) (by kernel_rfl) ?_
 refine sr [] [0, 1, 7, 8, 9, 16] [] 0 [.sl false 1 (Mb b_1), Ii most_1, Ii r_1.1, Ii r_1.2.1, Ii r_1.2.2, .bool (r_1.2.2 != (0 : Int))] [] hmix an ?_
 refine cd 16 (r_1.2.2 != (0 : Int)) ?_ ?_
 ·intro g_1; replace h := cond_t g_1 h
  refine sr [] [4, 5, 6] [] 0 [.str ([] : List Int), Ii 0, Ii r_1.2.2] [] hmix an ?_
  refine rt ?_
  cases h
  exact ⟨.inr rfl, Nat.le_of_ble_eq_true rfl, by kernel_rfl⟩
 intro g_1; replace h := cond_f g_1 h
 refine sr [] [0, 1, 7, 8, 20] [] 0 [.sl false 1 (Mb b_1), Ii most_1, Ii r_1.1, Ii r_1.2.1, .bool (decide (r_1.1 < (0 : Int)))] [] hmix an ?_
 refine cd 20 (decide (r_1.1 < (0 : Int))) ?_ ?_
 ·intro g_2; replace h := cond_t g_2 h
  refine sr [] [4, 5, 6] [] 0 [.str ([] : List Int), Ii 0, Ii 10] [] hmix an ?_
  refine rt ?_
  cases h
  exact ⟨.inr rfl, Nat.le_of_ble_eq_true rfl, by kernel_rfl⟩
 intro g_2; replace h := cond_f g_2 h
 refine sr [] [0, 7, 8, 23] [] 0 [.sl false 1 (Mb b_1), Ii r_1.1, Ii r_1.2.1, .bool (decide (r_1.1 > most_1))] [] hmix an ?_
 refine cd 23 (decide (r_1.1 > most_1)) ?_ ?_
 ·intro g_3; replace h := cond_t g_3 h
  refine sr [] [4, 5, 6] [] 0 [.str ([] : List Int), Ii 0, Ii 7] [] hmix an ?_
  refine rt ?_
  cases h
  exact ⟨.inr rfl, Nat.le_of_ble_eq_true rfl, by kernel_rfl⟩
 intro g_3; replace h := cond_f g_3 h
 refine sr [(2, { n := (b_1).length })] [0, 7, 8, 27] [] 0 [.sl false 1 (Mb b_1), Ii r_1.1, Ii r_1.2.1, .bool (decide (r_1.1 > (w_i64 ((lN (b_1)) - r_1.2.1))))] [] hmix (ac (vc_len _ : ((Mb b_1)).length = (b_1).length) an) ?_
 refine cd 27 (decide (r_1.1 > (w_i64 ((lN (b_1)) - r_1.2.1)))) ?_ ?_
 ·intro g_4; replace h := cond_t g_4 h
  refine sr [] [4, 5, 6] [] 0 [.str ([] : List Int), Ii 0, Ii 8] [] hmix an ?_
  refine rt ?_
  cases h
  exact ⟨.inr rfl, Nat.le_of_ble_eq_true rfl, by kernel_rfl⟩
 intro g_4; replace h := cond_f g_4 h
 refine sk ?_
 refine sq ?_
 obtain ⟨_, h_2, h⟩ := bind_some h; replace h_2 := need_some h_2
 refine rg [(5, { l := (Mb (sub b_1 r_1.2.1 (w_i64 (r_1.2.1 + r_1.1)))) }), (6, { s := sub b_1 r_1.2.1 (w_i64 (r_1.2.1 + r_1.1)) })] [4, 5, 6] [] 0 [.str (sub b_1 r_1.2.1 (w_i64 (r_1.2.1 + r_1.1))), Ii (w_i64 (r_1.2.1 + r_1.1)), Ii 0] [] hmix (ac h_2.1 (ac h_2.2.1 (ac (vc_lenle h_2.2.2 : (w_i64 (r_1.2.1 + r_1.1)) ≤ (lN ((Mb b_1)))) (ac (vc_sub _ _ _ : (Mb (sub b_1 r_1.2.1 (w_i64 (r_1.2.1 + r_1.1)))) = (((Mb b_1)).take (w_i64 (r_1.2.1 + r_1.1)).toNat).drop (r_1.2.1).toNat) (ac (rfl : (Mb (sub b_1 r_1.2.1 (w_i64 (r_1.2.1 + r_1.1)))) = List.map (AV.int .u8) (sub b_1 r_1.2.1 (w_i64 (r_1.2.1 + r_1.1)))) an))))) ?_
 refine rt ?_
 cases h
 exact ⟨.inr rfl, Nat.le_of_ble_eq_true rfl, by kernel_rfl⟩

theorem column_input_value_ok (F : Nat) (x_1 : T_column_input) (r : T_api_Value × T_column_input) (h : column_input_value F x_1 = some r) : TripleG prog 40 [(.var 53 (v_T_column_input x_1))] [] [Pp 0] [(.var 53 (v_T_column_input r.2))] (e_T_api_Value r.1) := by
 refine triple_intro (fn := Go.Proofs.Try.f40) (code := codeOf Go.Proofs.Try.f40) (by kernel_rfl) (by kernel_rfl) (Nat.le_of_ble_eq_true (by kernel_rfl)) ?_
 unfold column_input_value at h
 refine sr [(0, { id := 1 })] [0, 2] [0, 1] 2 [Pp 0, Pp 1] [Vb 53 (v_T_column_input x_1), Vb 24 [Ii 0, Ii 0, .str ([] : List Int)]] hmix an ?_
 refine sq ?_
 refine sr [(4, { n := (x_1.b).length })] [0, 2, 12] [0, 1] 2 [Pp 0, Pp 1, .bool ((lN (x_1.b)) == (0 : Int))] [Vb 53 (v_T_column_input x_1), Vb 24 [Ii 0, Ii 0, .str ([] : List Int)]] hmix (ac (vc_len _ : ((Mb x_1.b)).length = (x_1.b).length) an) ?_
 refine cd 12 ((lN (x_1.b)) == (0 : Int)) ?_ ?_
 ·intro g_1; replace h := cond_t g_1 h
  refine sr [] [2] [0, 1] 2 [Pp 1] [Vb 53 [.sl false 1 (Mb x_1.b), .bool true], Vb 24 [Ii 0, Ii 0, .str ([] : List Int)]] hmix an ?_
  refine sr [] [2] [0, 1] 2 [Pp 1] [Vb 53 [.sl false 1 (Mb x_1.b), .bool true], Vb 24 [Ii 0, Ii 0, .str ([] : List Int)]] hmix an ?_
  refine wk [0, 1] [] [.s 2] [.a 0 (Vb 53 (v_T_column_input (⟨x_1.b, true⟩ : T_column_input))), .a 1 (Vb 24 (v_T_api_Value (⟨(0 : Int), (0 : Int), ([] : List Int)⟩ : T_api_Value)))] [(2, Pp 1)] [(0, Vb 53 (v_T_column_input (⟨x_1.b, true⟩ : T_column_input))), (1, Vb 24 (v_T_api_Value (⟨(0 : Int), (0 : Int), ([] : List Int)⟩ : T_api_Value)))] (ar 53 (ac (rfl : ones [.sl false 1 (Mb ((⟨x_1.b, true⟩ : T_column_input).b)), .bool ((⟨x_1.b, true⟩ : T_column_input).bad)] = true) (ar 1 (ac (rfl : ((Mb x_1.b) : List AV) = (Mb ((⟨x_1.b, true⟩ : T_column_input).b))) (ac (rfl : (!false || false) = true) (ac (rfl : (.bool true : AV) = .bool ((⟨x_1.b, true⟩ : T_column_input).bad)) (ar 24 (ac (rfl : ones [Ii ((⟨(0 : Int), (0 : Int), ([] : List Int)⟩ : T_api_Value).Kind), Ii ((⟨(0 : Int), (0 : Int), ([] : List Int)⟩ : T_api_Value).N), .str ((⟨(0 : Int), (0 : Int), ([] : List Int)⟩ : T_api_Value).S)] = true) (ac (rfl : (Ii 0 : AV) = Ii ((⟨(0 : Int), (0 : Int), ([] : List Int)⟩ : T_api_Value).Kind)) (ac (rfl : (Ii 0 : AV) = Ii ((⟨(0 : Int), (0 : Int), ([] : List Int)⟩ : T_api_Value).N)) (ac (rfl : (.str ([] : List Int) : AV) = .str ((⟨(0 : Int), (0 : Int), ([] : List Int)⟩ : T_api_Value).S)) an))))))))))) ?_
  refine rt ?_
  cases h
  exact ⟨.inr rfl, Nat.le_of_ble_eq_true rfl, by kernel_rfl⟩
 intro g_1; replace h := cond_f g_1 h
 refine sk ?_
 refine sq ?_
 obtain ⟨x_2, h_1, h⟩ := bind_some h
 refine rg [(4, { av := Iu x_2 }), (8, { id := 2 })] [0, 2, 3] [0, 1, 2] 3 [Pp 0, Pp 1, Pp 2] [Vb 53 (v_T_column_input x_1), Vb 24 [Ii 0, Ii 0, .str ([] : List Int)], Vb 24 [Ii (w_i64 x_2), Ii 0, .str ([] : List Int)]] hmix (ac (vc_idx h_1 : idxA (Mb x_1.b) (0 : Int) = some (Iu x_2)) an) ?_
 refine sq ?_
 obtain ⟨_, h_2, h⟩ := bind_some h; replace h_2 := need_some h_2
 refine rg [(5, { l := (Mb (sub x_1.b (1 : Int) (lN (x_1.b)))) })] [0, 2, 3] [0, 1, 2] 3 [Pp 0, Pp 1, Pp 2] [Vb 53 [.sl false 1 (Mb (sub x_1.b (1 : Int) (lN (x_1.b)))), .bool x_1.bad], Vb 24 [Ii 0, Ii 0, .str ([] : List Int)], Vb 24 [Ii (w_i64 x_2), Ii 0, .str ([] : List Int)]] hmix (ac (by decide : (0 : Int) ≤ (1 : Int)) (ac (vc_lenle h_2 : (1 : Int) ≤ (lN ((Mb x_1.b)))) (ac (Int.le_refl _ : (lN ((Mb x_1.b))) ≤ (lN ((Mb x_1.b)))) (ac (vc_subn _ _ : (Mb (sub x_1.b (1 : Int) (lN (x_1.b)))) = (((Mb x_1.b)).take ((lN ((Mb x_1.b)))).toNat).drop ((1 : Int)).toNat) an)))) ?_
 refine sq ?_
 refine sr [] [0, 2, 3, 34] [0, 1, 2] 3 [Pp 0, Pp 1, Pp 2, Ii (w_i64 x_2)] [Vb 53 [.sl false 1 (Mb (sub x_1.b (1 : Int) (lN (x_1.b)))), .bool x_1.bad], Vb 24 [Ii 0, Ii 0, .str ([] : List Int)], Vb 24 [Ii (w_i64 x_2), Ii 0, .str ([] : List Int)]] hmix an ?_
 refine aw_block (id := 0) (by kernel_rfl) ?_
 refine sr [] [0, 2, 3, 34, 38] [0, 1, 2] 3 [Pp 0, Pp 1, Pp 2, Ii (w_i64 x_2), .bool ((w_i64 x_2) == (0 : Int))] [Vb 53 [.sl false 1 (Mb (sub x_1.b (1 : Int) (lN (x_1.b)))), .bool x_1.bad], Vb 24 [Ii 0, Ii 0, .str ([] : List Int)], Vb 24 [Ii (w_i64 x_2), Ii 0, .str ([] : List Int)]] hmix an ?_
 refine cd 38 ((w_i64 x_2) == (0 : Int)) ?_ ?_
 ·intro g_2; replace h := cond_t g_2 h
  refine sk ?_
  refine sr [] [2] [0, 1] 3 [Pp 1] [Vb 53 [.sl false 1 (Mb (sub x_1.b (1 : Int) (lN (x_1.b)))), .bool x_1.bad], Vb 24 [Ii (w_i64 x_2), Ii 0, .str ([] : List Int)]] hmix an ?_
  refine wk [0, 1] [] [.s 2] [.a 0 (Vb 53 (v_T_column_input (⟨sub x_1.b (1 : Int) (lN (x_1.b)), x_1.bad⟩ : T_column_input))), .a 1 (Vb 24 (v_T_api_Value (⟨w_i64 x_2, (0 : Int), ([] : List Int)⟩ : T_api_Value)))] [(2, Pp 1)] [(0, Vb 53 (v_T_column_input (⟨sub x_1.b (1 : Int) (lN (x_1.b)), x_1.bad⟩ : T_column_input))), (1, Vb 24 (v_T_api_Value (⟨w_i64 x_2, (0 : Int), ([] : List Int)⟩ : T_api_Value)))] (ar 53 (ac (rfl : ones [.sl false 1 (Mb ((⟨sub x_1.b (1 : Int) (lN (x_1.b)), x_1.bad⟩ : T_column_input).b)), .bool ((⟨sub x_1.b (1 : Int) (lN (x_1.b)), x_1.bad⟩ : T_column_input).bad)] = true) (ar 1 (ac (rfl : ((Mb (sub x_1.b (1 : Int) (lN (x_1.b)))) : List AV) = (Mb ((⟨sub x_1.b (1 : Int) (lN (x_1.b)), x_1.bad⟩ : T_column_input).b))) (ac (rfl : (!false || false) = true) (ac (rfl : (.bool x_1.bad : AV) = .bool ((⟨sub x_1.b (1 : Int) (lN (x_1.b)), x_1.bad⟩ : T_column_input).bad)) (ar 24 (ac (rfl : ones [Ii ((⟨w_i64 x_2, (0 : Int), ([] : List Int)⟩ : T_api_Value).Kind), Ii ((⟨w_i64 x_2, (0 : Int), ([] : List Int)⟩ : T_api_Value).N), .str ((⟨w_i64 x_2, (0 : Int), ([] : List Int)⟩ : T_api_Value).S)] = true) (ac (rfl : (Ii (w_i64 x_2) : AV) = Ii ((⟨w_i64 x_2, (0 : Int), ([] : List Int)⟩ : T_api_Value).Kind)) (ac (rfl : (Ii 0 : AV) = Ii ((⟨w_i64 x_2, (0 : Int), ([] : List Int)⟩ : T_api_Value).N)) (ac (rfl : (.str ([] : List Int) : AV) = .str ((⟨w_i64 x_2, (0 : Int), ([] : List Int)⟩ : T_api_Value).S)) an))))))))))) ?_
  refine rt ?_
  cases h
  exact ⟨.inr rfl, Nat.le_of_ble_eq_true rfl, by kernel_rfl⟩
 intro g_2; replace h := cond_f g_2 h
 refine sq ?_
 refine sr [] [0, 2, 3, 34, 40] [0, 1, 2] 3 [Pp 0, Pp 1, Pp 2, Ii (w_i64 x_2), .bool ((w_i64 x_2) == (1 : Int))] [Vb 53 [.sl false 1 (Mb (sub x_1.b (1 : Int) (lN (x_1.b)))), .bool x_1.bad], Vb 24 [Ii 0, Ii 0, .str ([] : List Int)], Vb 24 [Ii (w_i64 x_2), Ii 0, .str ([] : List Int)]] hmix an ?_
 obtain ⟨o_1, h_3, h⟩ := bind_some h
 refine aw_mid (mk [(0, Pp 0), (2, Pp 1), (3, Pp 2), (34, Ii (w_i64 x_2)), (40, .bool o_1)] [(0, Vb 53 [.sl false 1 (Mb (sub x_1.b (1 : Int) (lN (x_1.b)))), .bool x_1.bad]), (1, Vb 24 [Ii 0, Ii 0, .str ([] : List Int)]), (2, Vb 24 [Ii (w_i64 x_2), Ii 0, .str ([] : List Int)])] 3) ?_ ?_
 ·replace h := h_3
  refine cd 40 ((w_i64 x_2) == (1 : Int)) ?_ ?_
  ·intro g_3; replace h := cond_t g_3 h
   refine sk ?_
   cases h
   exact ⟨rfl, (sw [0, 1, 2] [] [.s 0, .s 2, .s 3, .s 34, .s 40] [.s 0, .s 1, .s 2] an)⟩
  intro g_3; replace h := cond_f g_3 h
  refine rg [] [0, 2, 3, 34, 40] [0, 1, 2] 3 [Pp 0, Pp 1, Pp 2, Ii (w_i64 x_2), .bool ((w_i64 x_2) == (2 : Int))] [Vb 53 [.sl false 1 (Mb (sub x_1.b (1 : Int) (lN (x_1.b)))), .bool x_1.bad], Vb 24 [Ii 0, Ii 0, .str ([] : List Int)], Vb 24 [Ii (w_i64 x_2), Ii 0, .str ([] : List Int)]] hmix an ?_
  cases h
  exact ⟨rfl, (sw [0, 1, 2] [] [.s 0, .s 2, .s 3, .s 34, .s 40] [.s 0, .s 1, .s 2] an)⟩
 refine cd 40 o_1 ?_ ?_
 ·intro g_4; replace h := cond_t g_4 h
  obtain ⟨r_1, h_4, h⟩ := bind_some h
  refine rg [(1, { av := Ii r_1.1, ids := [0], l := [Pp 0], post := [(.var 53 (v_T_column_input r_1.2))], pre := [(.var 53 [.sl false 1 (Mb (sub x_1.b (1 : Int) (lN (x_1.b)))), .bool x_1.bad])] })] [2, 3] [0, 1, 2] 3 [Pp 1, Pp 2] [Vb 53 (v_T_column_input r_1.2), Vb 24 [Ii 0, Ii 0, .str ([] : List Int)], Vb 24 [Ii (w_i64 x_2), Ii r_1.1, .str ([] : List Int)]] hmix (ar ([Pp 0] : List AV) (ac (rfl : ([Vb 53 [.sl false 1 (Mb (sub x_1.b (1 : Int) (lN (x_1.b)))), .bool x_1.bad]] : List BoxSt) = [Vb 53 [.sl false 1 (Mb (sub x_1.b (1 : Int) (lN (x_1.b)))), .bool x_1.bad]]) (ac (column_input_num_ok F (⟨sub x_1.b (1 : Int) (lN (x_1.b)), x_1.bad⟩ : T_column_input) r_1 h_4 : TripleG prog 41 [(.var 53 [.sl false 1 (Mb (sub x_1.b (1 : Int) (lN (x_1.b)))), .bool x_1.bad])] [] [Pp 0] [(.var 53 (v_T_column_input r_1.2))] (Ii r_1.1)) an))) ?_
  refine sr [] [2] [0, 1] 3 [Pp 1] [Vb 53 (v_T_column_input r_1.2), Vb 24 [Ii (w_i64 x_2), Ii r_1.1, .str ([] : List Int)]] hmix an ?_
  refine wk [0, 1] [] [.s 2] [.s 0, .a 1 (Vb 24 (v_T_api_Value (⟨w_i64 x_2, r_1.1, ([] : List Int)⟩ : T_api_Value)))] [(2, Pp 1)] [(0, Vb 53 (v_T_column_input r_1.2)), (1, Vb 24 (v_T_api_Value (⟨w_i64 x_2, r_1.1, ([] : List Int)⟩ : T_api_Value)))] (ar 24 (ac (rfl : ones [Ii ((⟨w_i64 x_2, r_1.1, ([] : List Int)⟩ : T_api_Value).Kind), Ii ((⟨w_i64 x_2, r_1.1, ([] : List Int)⟩ : T_api_Value).N), .str ((⟨w_i64 x_2, r_1.1, ([] : List Int)⟩ : T_api_Value).S)] = true) (ac (rfl : (Ii (w_i64 x_2) : AV) = Ii ((⟨w_i64 x_2, r_1.1, ([] : List Int)⟩ : T_api_Value).Kind)) (ac (rfl : (Ii r_1.1 : AV) = Ii ((⟨w_i64 x_2, r_1.1, ([] : List Int)⟩ : T_api_Value).N)) (ac (rfl : (.str ([] : List Int) : AV) = .str ((⟨w_i64 x_2, r_1.1, ([] : List Int)⟩ : T_api_Value).S)) an))))) ?_
  refine rt ?_
  cases h
  exact ⟨.inr rfl, Nat.le_of_ble_eq_true rfl, by kernel_rfl⟩
 intro g_4; replace h := cond_f g_4 h
 refine sr [] [0, 2, 3, 46] [0, 1, 2] 3 [Pp 0, Pp 1, Pp 2, .bool ((w_i64 x_2) == (3 : Int))] [Vb 53 [.sl false 1 (Mb (sub x_1.b (1 : Int) (lN (x_1.b)))), .bool x_1.bad], Vb 24 [Ii 0, Ii 0, .str ([] : List Int)], Vb 24 [Ii (w_i64 x_2), Ii 0, .str ([] : List Int)]] hmix an ?_
 refine cd 46 ((w_i64 x_2) == (3 : Int)) ?_ ?_
 rotate_left
 ·intro g_5; replace h := cond_f g_5 h
  refine rg [] [2, 3] [0, 1, 2] 3 [Pp 1, Pp 2] [Vb 53 [.sl false 1 (Mb (sub x_1.b (1 : Int) (lN (x_1.b)))), .bool true], Vb 24 [Ii 0, Ii 0, .str ([] : List Int)], Vb 24 [Ii (w_i64 x_2), Ii 0, .str ([] : List Int)]] hmix an ?_
  refine sr [] [2] [0, 1] 3 [Pp 1] [Vb 53 [.sl false 1 (Mb (sub x_1.b (1 : Int) (lN (x_1.b)))), .bool true], Vb 24 [Ii (w_i64 x_2), Ii 0, .str ([] : List Int)]] hmix an ?_
  refine wk [0, 1] [] [.s 2] [.a 0 (Vb 53 (v_T_column_input (⟨sub x_1.b (1 : Int) (lN (x_1.b)), true⟩ : T_column_input))), .a 1 (Vb 24 (v_T_api_Value (⟨w_i64 x_2, (0 : Int), ([] : List Int)⟩ : T_api_Value)))] [(2, Pp 1)] [(0, Vb 53 (v_T_column_input (⟨sub x_1.b (1 : Int) (lN (x_1.b)), true⟩ : T_column_input))), (1, Vb 24 (v_T_api_Value (⟨w_i64 x_2, (0 : Int), ([] : List Int)⟩ : T_api_Value)))] (ar 53 (ac (rfl : ones [.sl false 1 (Mb ((⟨sub x_1.b (1 : Int) (lN (x_1.b)), true⟩ : T_column_input).b)), .bool ((⟨sub x_1.b (1 : Int) (lN (x_1.b)), true⟩ : T_column_input).bad)] = true) (ar 1 (ac (rfl : ((Mb (sub x_1.b (1 : Int) (lN (x_1.b)))) : List AV) = (Mb ((⟨sub x_1.b (1 : Int) (lN (x_1.b)), true⟩ : T_column_input).b))) (ac (rfl : (!false || false) = true) (ac (rfl : (.bool true : AV) = .bool ((⟨sub x_1.b (1 : Int) (lN (x_1.b)), true⟩ : T_column_input).bad)) (ar 24 (ac (rfl : ones [Ii ((⟨w_i64 x_2, (0 : Int), ([] : List Int)⟩ : T_api_Value).Kind), Ii ((⟨w_i64 x_2, (0 : Int), ([] : List Int)⟩ : T_api_Value).N), .str ((⟨w_i64 x_2, (0 : Int), ([] : List Int)⟩ : T_api_Value).S)] = true) (ac (rfl : (Ii (w_i64 x_2) : AV) = Ii ((⟨w_i64 x_2, (0 : Int), ([] : List Int)⟩ : T_api_Value).Kind)) (ac (rfl : (Ii 0 : AV) = Ii ((⟨w_i64 x_2, (0 : Int), ([] : List Int)⟩ : T_api_Value).N)) (ac (rfl : (.str ([] : List Int) : AV) = .str ((⟨w_i64 x_2, (0 : Int), ([] : List Int)⟩ : T_api_Value).S)) an))))))))))) ?_
  refine rt ?_
  cases h
  exact ⟨.inr rfl, Nat.le_of_ble_eq_true rfl, by kernel_rfl⟩
 intro g_5; replace h := cond_t g_5 h
 refine sq ?_
 obtain ⟨r_2, h_5, h⟩ := bind_some h
 refine rg [(4, { av := .tuple [.str r_2.1, Ii r_2.2.1, Ii r_2.2.2], l := [.sl false 1 (Mb (sub x_1.b (1 : Int) (lN (x_1.b)))), Ii 200] })] [0, 2, 3, 4, 5, 6] [0, 1, 2] 3 [Pp 0, Pp 1, Pp 2, .str r_2.1, Ii r_2.2.1, Ii r_2.2.2] [Vb 53 [.sl false 1 (Mb (sub x_1.b (1 : Int) (lN (x_1.b)))), .bool x_1.bad], Vb 24 [Ii 0, Ii 0, .str ([] : List Int)], Vb 24 [Ii (w_i64 x_2), Ii 0, .str ([] : List Int)]] hmix (ar ([.sl false 1 (Mb (sub x_1.b (1 : Int) (lN (x_1.b)))), Ii 200] : List AV) (ac (rfl : ([] : List BoxSt) = []) (ac (codec_Text_ok F (sub x_1.b (1 : Int) (lN (x_1.b))) (200 : Int) r_2 h_5 : TripleG prog 50 [] [] [.sl false 1 (Mb (sub x_1.b (1 : Int) (lN (x_1.b)))), Ii 200] [] (.tuple [.str r_2.1, Ii r_2.2.1, Ii r_2.2.2])) an))) ?_
 refine sq ?_
 refine aw_mid (mk [(0, Pp 0), (2, Pp 1), (3, Pp 2), (4, .str r_2.1), (5, Ii r_2.2.1)] [(0, Vb 53 [.sl false 1 (Mb (sub x_1.b (1 : Int) (lN (x_1.b)))), .bool (x_1.bad || (r_2.2.2 != (0 : Int)))]), (1, Vb 24 [Ii 0, Ii 0, .str ([] : List Int)]), (2, Vb 24 [Ii (w_i64 x_2), Ii 0, .str ([] : List Int)])] 3) ?_ ?_
 ·rcases Bool.eq_false_or_eq_true x_1.bad with gg_1 | gg_1
  ·refine rg [(6, Hg), (7, Hg), (8, Ht)] [0, 2, 3, 4, 5] [0, 1, 2] 3 [Pp 0, Pp 1, Pp 2, .str r_2.1, Ii r_2.2.1] [Vb 53 [.sl false 1 (Mb (sub x_1.b (1 : Int) (lN (x_1.b)))), .bool true], Vb 24 [Ii 0, Ii 0, .str ([] : List Int)], Vb 24 [Ii (w_i64 x_2), Ii 0, .str ([] : List Int)]] hmix (ac gg_1 (ac gg_1 (ac gg_1 an))) ?_
   exact ⟨rfl, (sw [0, 1, 2] [] [.s 0, .s 2, .s 3, .s 4, .s 5] [.a 0 (Vb 53 [.sl false 1 (Mb (sub x_1.b (1 : Int) (lN (x_1.b)))), .bool (x_1.bad || (r_2.2.2 != (0 : Int)))]), .s 1, .s 2] (ar 53 (ac (rfl : ones [.sl false 1 (Mb (sub x_1.b (1 : Int) (lN (x_1.b)))), .bool (x_1.bad || (r_2.2.2 != (0 : Int)))] = true) (ar 1 (ar ((Mb (sub x_1.b (1 : Int) (lN (x_1.b)))) : List AV) (ac (rfl : (!false || false) = true) (ac (congrArg AV.bool (ort gg_1) : (.bool true : AV) = .bool (x_1.bad || (r_2.2.2 != (0 : Int)))) an)))))))⟩
  ·refine rg [(8, Hf)] [0, 2, 3, 4, 5] [0, 1, 2] 3 [Pp 0, Pp 1, Pp 2, .str r_2.1, Ii r_2.2.1] [Vb 53 [.sl false 1 (Mb (sub x_1.b (1 : Int) (lN (x_1.b)))), .bool (r_2.2.2 != (0 : Int))], Vb 24 [Ii 0, Ii 0, .str ([] : List Int)], Vb 24 [Ii (w_i64 x_2), Ii 0, .str ([] : List Int)]] hmix (ac gg_1 (ac gg_1 (ac gg_1 an))) ?_
   exact ⟨rfl, (sw [0, 1, 2] [] [.s 0, .s 2, .s 3, .s 4, .s 5] [.a 0 (Vb 53 [.sl false 1 (Mb (sub x_1.b (1 : Int) (lN (x_1.b)))), .bool (x_1.bad || (r_2.2.2 != (0 : Int)))]), .s 1, .s 2] (ar 53 (ac (rfl : ones [.sl false 1 (Mb (sub x_1.b (1 : Int) (lN (x_1.b)))), .bool (x_1.bad || (r_2.2.2 != (0 : Int)))] = true) (ar 1 (ar ((Mb (sub x_1.b (1 : Int) (lN (x_1.b)))) : List AV) (ac (rfl : (!false || false) = true) (ac (congrArg AV.bool (orf gg_1 rfl) : (.bool (r_2.2.2 != (0 : Int)) : AV) = .bool (x_1.bad || (r_2.2.2 != (0 : Int)))) an)))))))⟩
 refine sr [] [0, 2, 3, 4, 5, 72] [0, 1, 2] 3 [Pp 0, Pp 1, Pp 2, .str r_2.1, Ii r_2.2.1, .bool (!(x_1.bad || (r_2.2.2 != (0 : Int))))] [Vb 53 [.sl false 1 (Mb (sub x_1.b (1 : Int) (lN (x_1.b)))), .bool (x_1.bad || (r_2.2.2 != (0 : Int)))], Vb 24 [Ii 0, Ii 0, .str ([] : List Int)], Vb 24 [Ii (w_i64 x_2), Ii 0, .str ([] : List Int)]] hmix an ?_
 refine cd 72 (!(x_1.bad || (r_2.2.2 != (0 : Int)))) ?_ ?_
 rotate_left
 ·intro g_6; replace h := cond_f g_6 h
  refine sk ?_
  refine sr [] [2] [0, 1] 3 [Pp 1] [Vb 53 [.sl false 1 (Mb (sub x_1.b (1 : Int) (lN (x_1.b)))), .bool (x_1.bad || (r_2.2.2 != (0 : Int)))], Vb 24 [Ii (w_i64 x_2), Ii 0, .str ([] : List Int)]] hmix an ?_
  refine wk [0, 1] [] [.s 2] [.a 0 (Vb 53 (v_T_column_input (⟨sub x_1.b (1 : Int) (lN (x_1.b)), (x_1.bad || (r_2.2.2 != (0 : Int)))⟩ : T_column_input))), .a 1 (Vb 24 (v_T_api_Value (⟨w_i64 x_2, (0 : Int), ([] : List Int)⟩ : T_api_Value)))] [(2, Pp 1)] [(0, Vb 53 (v_T_column_input (⟨sub x_1.b (1 : Int) (lN (x_1.b)), (x_1.bad || (r_2.2.2 != (0 : Int)))⟩ : T_column_input))), (1, Vb 24 (v_T_api_Value (⟨w_i64 x_2, (0 : Int), ([] : List Int)⟩ : T_api_Value)))] (ar 53 (ac (rfl : ones [.sl false 1 (Mb ((⟨sub x_1.b (1 : Int) (lN (x_1.b)), (x_1.bad || (r_2.2.2 != (0 : Int)))⟩ : T_column_input).b)), .bool ((⟨sub x_1.b (1 : Int) (lN (x_1.b)), (x_1.bad || (r_2.2.2 != (0 : Int)))⟩ : T_column_input).bad)] = true) (ar 1 (ac (rfl : ((Mb (sub x_1.b (1 : Int) (lN (x_1.b)))) : List AV) = (Mb ((⟨sub x_1.b (1 : Int) (lN (x_1.b)), (x_1.bad || (r_2.2.2 != (0 : Int)))⟩ : T_column_input).b))) (ac (rfl : (!false || false) = true) (ac (rfl : (.bool (x_1.bad || (r_2.2.2 != (0 : Int))) : AV) = .bool ((⟨sub x_1.b (1 : Int) (lN (x_1.b)), (x_1.bad || (r_2.2.2 != (0 : Int)))⟩ : T_column_input).bad)) (ar 24 (ac (rfl : ones [Ii ((⟨w_i64 x_2, (0 : Int), ([] : List Int)⟩ : T_api_Value).Kind), Ii ((⟨w_i64 x_2, (0 : Int), ([] : List Int)⟩ : T_api_Value).N), .str ((⟨w_i64 x_2, (0 : Int), ([] : List Int)⟩ : T_api_Value).S)] = true) (ac (rfl : (Ii (w_i64 x_2) : AV) = Ii ((⟨w_i64 x_2, (0 : Int), ([] : List Int)⟩ : T_api_Value).Kind)) (ac (rfl : (Ii 0 : AV) = Ii ((⟨w_i64 x_2, (0 : Int), ([] : List Int)⟩ : T_api_Value).N)) (ac (rfl : (.str ([] : List Int) : AV) = .str ((⟨w_i64 x_2, (0 : Int), ([] : List Int)⟩ : T_api_Value).S)) an))))))))))) ?_
  refine rt ?_
  cases h
  exact ⟨.inr rfl, Nat.le_of_ble_eq_true rfl, by kernel_rfl⟩
 intro g_6; replace h := cond_t g_6 h
 obtain ⟨_, h_6, h⟩ := bind_some h; replace h_6 := need_some h_6
 refine rg [(7, { l := (Mb (sub (sub x_1.b (1 : Int) (lN (x_1.b))) r_2.2.1 (lN (sub x_1.b (1 : Int) (lN (x_1.b)))))) })] [2, 3] [0, 1, 2] 3 [Pp 1, Pp 2] [Vb 53 [.sl false 1 (Mb (sub (sub x_1.b (1 : Int) (lN (x_1.b))) r_2.2.1 (lN (sub x_1.b (1 : Int) (lN (x_1.b)))))), .bool (x_1.bad || (r_2.2.2 != (0 : Int)))], Vb 24 [Ii 0, Ii 0, .str ([] : List Int)], Vb 24 [Ii (w_i64 x_2), Ii 0, .str r_2.1]] hmix (ac h_6.1 (ac (vc_lenle h_6.2 : r_2.2.1 ≤ (lN ((Mb (sub x_1.b (1 : Int) (lN (x_1.b))))))) (ac (Int.le_refl _ : (lN ((Mb (sub x_1.b (1 : Int) (lN (x_1.b)))))) ≤ (lN ((Mb (sub x_1.b (1 : Int) (lN (x_1.b))))))) (ac (vc_subn _ _ : (Mb (sub (sub x_1.b (1 : Int) (lN (x_1.b))) r_2.2.1 (lN (sub x_1.b (1 : Int) (lN (x_1.b)))))) = (((Mb (sub x_1.b (1 : Int) (lN (x_1.b))))).take ((lN ((Mb (sub x_1.b (1 : Int) (lN (x_1.b))))))).toNat).drop (r_2.2.1).toNat) an)))) ?_
 refine sr [] [2] [0, 1] 3 [Pp 1] [Vb 53 [.sl false 1 (Mb (sub (sub x_1.b (1 : Int) (lN (x_1.b))) r_2.2.1 (lN (sub x_1.b (1 : Int) (lN (x_1.b)))))), .bool (x_1.bad || (r_2.2.2 != (0 : Int)))], Vb 24 [Ii (w_i64 x_2), Ii 0, .str r_2.1]] hmix an ?_
 refine wk [0, 1] [] [.s 2] [.a 0 (Vb 53 (v_T_column_input (⟨sub (sub x_1.b (1 : Int) (lN (x_1.b))) r_2.2.1 (lN (sub x_1.b (1 : Int) (lN (x_1.b)))), (x_1.bad || (r_2.2.2 != (0 : Int)))⟩ : T_column_input))), .a 1 (Vb 24 (v_T_api_Value (⟨w_i64 x_2, (0 : Int), r_2.1⟩ : T_api_Value)))] [(2, Pp 1)] [(0, Vb 53 (v_T_column_input (⟨sub (sub x_1.b (1 : Int) (lN (x_1.b))) r_2.2.1 (lN (sub x_1.b (1 : Int) (lN (x_1.b)))), (x_1.bad || (r_2.2.2 != (0 : Int)))⟩ : T_column_input))), (1, Vb 24 (v_T_api_Value (⟨w_i64 x_2, (0 : Int), r_2.1⟩ : T_api_Value)))] (ar 53 (ac (rfl : ones [.sl false 1 (Mb ((⟨sub (sub x_1.b (1 : Int) (lN (x_1.b))) r_2.2.1 (lN (sub x_1.b (1 : Int) (lN (x_1.b)))), (x_1.bad || (r_2.2.2 != (0 : Int)))⟩ : T_column_input).b)), .bool ((⟨sub (sub x_1.b (1 : Int) (lN (x_1.b))) r_2.2.1 (lN (sub x_1.b (1 : Int) (lN (x_1.b)))), (x_1.bad || (r_2.2.2 != (0 : Int)))⟩ : T_column_input).bad)] = true) (ar 1 (ac (rfl : ((Mb (sub (sub x_1.b (1 : Int) (lN (x_1.b))) r_2.2.1 (lN (sub x_1.b (1 : Int) (lN (x_1.b)))))) : List AV) = (Mb ((⟨sub (sub x_1.b (1 : Int) (lN (x_1.b))) r_2.2.1 (lN (sub x_1.b (1 : Int) (lN (x_1.b)))), (x_1.bad || (r_2.2.2 != (0 : Int)))⟩ : T_column_input).b))) (ac (rfl : (!false || false) = true) (ac (rfl : (.bool (x_1.bad || (r_2.2.2 != (0 : Int))) : AV) = .bool ((⟨sub (sub x_1.b (1 : Int) (lN (x_1.b))) r_2.2.1 (lN (sub x_1.b (1 : Int) (lN (x_1.b)))), (x_1.bad || (r_2.2.2 != (0 : Int)))⟩ : T_column_input).bad)) (ar 24 (ac (rfl : ones [Ii ((⟨w_i64 x_2, (0 : Int), r_2.1⟩ : T_api_Value).Kind), Ii ((⟨w_i64 x_2, (0 : Int), r_2.1⟩ : T_api_Value).N), .str ((⟨w_i64 x_2, (0 : Int), r_2.1⟩ : T_api_Value).S)] = true) (ac (rfl : (Ii (w_i64 x_2) : AV) = Ii ((⟨w_i64 x_2, (0 : Int), r_2.1⟩ : T_api_Value).Kind)) (ac (rfl : (Ii 0 : AV) = Ii ((⟨w_i64 x_2, (0 : Int), r_2.1⟩ : T_api_Value).N)) (ac (rfl : (.str r_2.1 : AV) = .str ((⟨w_i64 x_2, (0 : Int), r_2.1⟩ : T_api_Value).S)) an))))))))))) ?_
 refine rt ?_
 cases h
 exact ⟨.inr rfl, Nat.le_of_ble_eq_true rfl, by kernel_rfl⟩

theorem bits_Mul64_ok (x_1 : Int) (y_1 : Int) (r : Int × Int) (h : bits_Mul64 x_1 y_1 = some r) : TripleG prog 57 [] [] [.int .u64 x_1, .int .u64 y_1] [] (.tuple [.int .u64 r.1, .int .u64 r.2]) := by
 refine triple_intro (fn := Go.Proofs.Try.f57) (code := codeOf Go.Proofs.Try.f57) (by kernel_rfl) (by kernel_rfl) (Nat.le_of_ble_eq_true (by kernel_rfl)) ?_
 unfold bits_Mul64 at h
 refine sr [] [0, 1] [] 0 [.int .u64 x_1, .int .u64 y_1] [] hmix an ?_
 refine sr [] [0, 1, 6] [] 0 [.int .u64 x_1, .int .u64 y_1, .int .u64 (iand .u64 x_1 (4294967295 : Int))] [] hmix an ?_
 refine sr [] [0, 1, 6, 7] [] 0 [.int .u64 x_1, .int .u64 y_1, .int .u64 (iand .u64 x_1 (4294967295 : Int)), .int .u64 (ishr .u64 x_1 (32 : Int))] [] hmix (ac (by decide : (0 : Int) ≤ (32 : Int)) an) ?_
 refine sr [] [0, 1, 6, 7, 8] [] 0 [.int .u64 x_1, .int .u64 y_1, .int .u64 (iand .u64 x_1 (4294967295 : Int)), .int .u64 (ishr .u64 x_1 (32 : Int)), .int .u64 (iand .u64 y_1 (4294967295 : Int))] [] hmix an ?_
 refine sr [] [0, 1, 6, 7, 8, 9] [] 0 [.int .u64 x_1, .int .u64 y_1, .int .u64 (iand .u64 x_1 (4294967295 : Int)), .int .u64 (ishr .u64 x_1 (32 : Int)), .int .u64 (iand .u64 y_1 (4294967295 : Int)), .int .u64 (ishr .u64 y_1 (32 : Int))] [] hmix (ac (by decide : (0 : Int) ≤ (32 : Int)) an) ?_
 refine sr [] [0, 1, 6, 7, 8, 9, 10] [] 0 [.int .u64 x_1, .int .u64 y_1, .int .u64 (iand .u64 x_1 (4294967295 : Int)), .int .u64 (ishr .u64 x_1 (32 : Int)), .int .u64 (iand .u64 y_1 (4294967295 : Int)), .int .u64 (ishr .u64 y_1 (32 : Int)), .int .u64 (w_u64 ((iand .u64 x_1 (4294967295 : Int)) * (iand .u64 y_1 (4294967295 : Int))))] [] hmix an ?_
 refine sr [] [0, 1, 6, 7, 9, 11] [] 0 [.int .u64 x_1, .int .u64 y_1, .int .u64 (iand .u64 x_1 (4294967295 : Int)), .int .u64 (ishr .u64 x_1 (32 : Int)), .int .u64 (ishr .u64 y_1 (32 : Int)), .int .u64 (w_u64 ((w_u64 ((ishr .u64 x_1 (32 : Int)) * (iand .u64 y_1 (4294967295 : Int)))) + (ishr .u64 (w_u64 ((iand .u64 x_1 (4294967295 : Int)) * (iand .u64 y_1 (4294967295 : Int)))) (32 : Int))))] [] hmix (ac (by decide : (0 : Int) ≤ (32 : Int)) an) ?_
 refine sr [] [0, 1, 6, 7, 9, 11, 12] [] 0 [.int .u64 x_1, .int .u64 y_1, .int .u64 (iand .u64 x_1 (4294967295 : Int)), .int .u64 (ishr .u64 x_1 (32 : Int)), .int .u64 (ishr .u64 y_1 (32 : Int)), .int .u64 (w_u64 ((w_u64 ((ishr .u64 x_1 (32 : Int)) * (iand .u64 y_1 (4294967295 : Int)))) + (ishr .u64 (w_u64 ((iand .u64 x_1 (4294967295 : Int)) * (iand .u64 y_1 (4294967295 : Int)))) (32 : Int)))), .int .u64 (iand .u64 (w_u64 ((w_u64 ((ishr .u64 x_1 (32 : Int)) * (iand .u64 y_1 (4294967295 : Int)))) + (ishr .u64 (w_u64 ((iand .u64 x_1 (4294967295 : Int)) * (iand .u64 y_1 (4294967295 : Int)))) (32 : Int)))) (4294967295 : Int))] [] hmix an ?_
 refine sr [] [0, 1, 6, 7, 9, 12, 13] [] 0 [.int .u64 x_1, .int .u64 y_1, .int .u64 (iand .u64 x_1 (4294967295 : Int)), .int .u64 (ishr .u64 x_1 (32 : Int)), .int .u64 (ishr .u64 y_1 (32 : Int)), .int .u64 (iand .u64 (w_u64 ((w_u64 ((ishr .u64 x_1 (32 : Int)) * (iand .u64 y_1 (4294967295 : Int)))) + (ishr .u64 (w_u64 ((iand .u64 x_1 (4294967295 : Int)) * (iand .u64 y_1 (4294967295 : Int)))) (32 : Int)))) (4294967295 : Int)), .int .u64 (ishr .u64 (w_u64 ((w_u64 ((ishr .u64 x_1 (32 : Int)) * (iand .u64 y_1 (4294967295 : Int)))) + (ishr .u64 (w_u64 ((iand .u64 x_1 (4294967295 : Int)) * (iand .u64 y_1 (4294967295 : Int)))) (32 : Int)))) (32 : Int))] [] hmix (ac (by decide : (0 : Int) ≤ (32 : Int)) an) ?_
 refine sr [] [0, 1, 7, 9, 12, 13] [] 0 [.int .u64 x_1, .int .u64 y_1, .int .u64 (ishr .u64 x_1 (32 : Int)), .int .u64 (ishr .u64 y_1 (32 : Int)), .int .u64 (w_u64 ((iand .u64 (w_u64 ((w_u64 ((ishr .u64 x_1 (32 : Int)) * (iand .u64 y_1 (4294967295 : Int)))) + (ishr .u64 (w_u64 ((iand .u64 x_1 (4294967295 : Int)) * (iand .u64 y_1 (4294967295 : Int)))) (32 : Int)))) (4294967295 : Int)) + (w_u64 ((iand .u64 x_1 (4294967295 : Int)) * (ishr .u64 y_1 (32 : Int)))))), .int .u64 (ishr .u64 (w_u64 ((w_u64 ((ishr .u64 x_1 (32 : Int)) * (iand .u64 y_1 (4294967295 : Int)))) + (ishr .u64 (w_u64 ((iand .u64 x_1 (4294967295 : Int)) * (iand .u64 y_1 (4294967295 : Int)))) (32 : Int)))) (32 : Int))] [] hmix an ?_
 refine sr [] [0, 1, 4] [] 0 [.int .u64 x_1, .int .u64 y_1, .int .u64 (w_u64 ((w_u64 ((w_u64 ((ishr .u64 x_1 (32 : Int)) * (ishr .u64 y_1 (32 : Int)))) + (ishr .u64 (w_u64 ((w_u64 ((ishr .u64 x_1 (32 : Int)) * (iand .u64 y_1 (4294967295 : Int)))) + (ishr .u64 (w_u64 ((iand .u64 x_1 (4294967295 : Int)) * (iand .u64 y_1 (4294967295 : Int)))) (32 : Int)))) (32 : Int)))) + (ishr .u64 (w_u64 ((iand .u64 (w_u64 ((w_u64 ((ishr .u64 x_1 (32 : Int)) * (iand .u64 y_1 (4294967295 : Int)))) + (ishr .u64 (w_u64 ((iand .u64 x_1 (4294967295 : Int)) * (iand .u64 y_1 (4294967295 : Int)))) (32 : Int)))) (4294967295 : Int)) + (w_u64 ((iand .u64 x_1 (4294967295 : Int)) * (ishr .u64 y_1 (32 : Int)))))) (32 : Int))))] [] hmix (ac (by decide : (0 : Int) ≤ (32 : Int)) an) ?_
 refine sr [] [4, 5] [] 0 [.int .u64 (w_u64 ((w_u64 ((w_u64 ((ishr .u64 x_1 (32 : Int)) * (ishr .u64 y_1 (32 : Int)))) + (ishr .u64 (w_u64 ((w_u64 ((ishr .u64 x_1 (32 : Int)) * (iand .u64 y_1 (4294967295 : Int)))) + (ishr .u64 (w_u64 ((iand .u64 x_1 (4294967295 : Int)) * (iand .u64 y_1 (4294967295 : Int)))) (32 : Int)))) (32 : Int)))) + (ishr .u64 (w_u64 ((iand .u64 (w_u64 ((w_u64 ((ishr .u64 x_1 (32 : Int)) * (iand .u64 y_1 (4294967295 : Int)))) + (ishr .u64 (w_u64 ((iand .u64 x_1 (4294967295 : Int)) * (iand .u64 y_1 (4294967295 : Int)))) (32 : Int)))) (4294967295 : Int)) + (w_u64 ((iand .u64 x_1 (4294967295 : Int)) * (ishr .u64 y_1 (32 : Int)))))) (32 : Int)))), .int .u64 (w_u64 (x_1 * y_1))] [] hmix an ?_
 refine rt ?_
 cases h
 exact ⟨.inr rfl, Nat.le_of_ble_eq_true rfl, by kernel_rfl⟩

theorem bits_Mul_ok (x_1 : Int) (y_1 : Int) (r : Int × Int) (h : bits_Mul x_1 y_1 = some r) : TripleG prog 52 [] [] [.int .u64 x_1, .int .u64 y_1] [] (.tuple [.int .u64 r.1, .int .u64 r.2]) := by
 refine triple_intro (fn := Go.Proofs.Try.f52) (code := codeOf Go.Proofs.Try.f52) (by kernel_rfl) (by kernel_rfl) (Nat.le_of_ble_eq_true (by kernel_rfl)) ?_
 unfold bits_Mul at h
 refine sr [] [0, 1] [] 0 [.int .u64 x_1, .int .u64 y_1] [] hmix an ?_
 refine sq ?_
 refine aw_condC (b := false) (by kernel_rfl) ?_
 simp only [cond_false]
 refine sk ?_
 refine sq ?_
 obtain ⟨r_1, h_1, h⟩ := bind_some h
 refine rg [(2, { av := .tuple [.int .u64 r_1.1, .int .u64 r_1.2], l := [.int .u64 x_1, .int .u64 y_1] })] [8, 9] [] 0 [.int .u64 r_1.1, .int .u64 r_1.2] [] hmix (ar ([.int .u64 x_1, .int .u64 y_1] : List AV) (ac (rfl : ([] : List BoxSt) = []) (ac (bits_Mul64_ok x_1 y_1 r_1 h_1 : TripleG prog 57 [] [] [.int .u64 x_1, .int .u64 y_1] [] (.tuple [.int .u64 r_1.1, .int .u64 r_1.2])) an))) ?_
 refine sr [] [4, 5] [] 0 [.int .u64 r_1.1, .int .u64 r_1.2] [] hmix an ?_
 refine rt ?_
 cases h
 exact ⟨.inr rfl, Nat.le_of_ble_eq_true rfl, by kernel_rfl⟩

theorem slices_Repeat_tracebook_api_Value_tracebook_api_Value_ok (F : Nat) (x_1 : List (T_api_Value)) (count_1 : Int) (r : (List (T_api_Value))) (h : slices_Repeat_tracebook_api_Value_tracebook_api_Value F x_1 count_1 = some r) : TripleG prog 42 [] [] [.sl false 3 (Mp e_T_api_Value x_1), Ii count_1] [.row 24 3 (Mp e_T_api_Value r)] (.own 0 ((r).length)) := by
 refine triple_intro (fn := Go.Proofs.Try.f42) (code := codeOf Go.Proofs.Try.f42) (by kernel_rfl) (by kernel_rfl) (Nat.le_of_ble_eq_true (by kernel_rfl)) ?_
 unfold slices_Repeat_tracebook_api_Value_tracebook_api_Value at h
 refine sr [(0, { id := 0, m := 1 })] [0, 1] [] 1 [.sl false 3 (Mp e_T_api_Value x_1), Ii count_1] [] hmix an ?_
 refine sq ?_
 refine sr [] [0, 1, 10] [] 1 [.sl false 3 (Mp e_T_api_Value x_1), Ii count_1, .bool (decide (count_1 < (0 : Int)))] [] hmix an ?_
 obtain ⟨o_1, h_1, h⟩ := bind_some h
 refine aw_mid (mk [(0, .sl false 3 (Mp e_T_api_Value x_1)), (1, Ii count_1)] [] 0) ?_ ?_
 ·replace h := h_1
  refine cd 10 (decide (count_1 < (0 : Int))) ?_ ?_
  ·intro g_1; replace h := cond_t g_1 h
   exact none_ne h
  intro g_1; replace h := cond_f g_1 h
  refine sk ?_
  cases h
  exact ⟨rfl, (sw [] [] [.s 0, .s 1] [] an)⟩
 refine sq ?_
 obtain ⟨r_1, h_2, h⟩ := bind_some h
 refine rg [(1, { n := (x_1).length }), (5, { av := .tuple [.int .u64 r_1.1, .int .u64 r_1.2], l := [.int .u64 (w_u64 (lN (x_1))), .int .u64 (w_u64 count_1)] })] [0, 5, 6] [] 0 [.sl false 3 (Mp e_T_api_Value x_1), .int .u64 r_1.1, .int .u64 r_1.2] [] hmix (ac (vc_len _ : ((Mp e_T_api_Value x_1)).length = (x_1).length) (ar ([.int .u64 (w_u64 (lN (x_1))), .int .u64 (w_u64 count_1)] : List AV) (ac (rfl : ([] : List BoxSt) = []) (ac (bits_Mul_ok (w_u64 (lN (x_1))) (w_u64 count_1) r_1 h_2 : TripleG prog 52 [] [] [.int .u64 (w_u64 (lN (x_1))), .int .u64 (w_u64 count_1)] [] (.tuple [.int .u64 r_1.1, .int .u64 r_1.2])) an)))) ?_
 refine sq ?_
 refine sq ?_
 refine aw_mid (mk [(0, .sl false 3 (Mp e_T_api_Value x_1)), (6, .int .u64 r_1.2), (26, .bool (decide (r_1.1 > (0 : Int)) || decide (r_1.2 > (9223372036854775807 : Int))))] [] 0) ?_ ?_
 ·rcases bft (decide (r_1.1 > (0 : Int))) with gg_2 | gg_2
  ·refine rg [(3, Hg), (4, Hg), (5, Ht)] [0, 6, 26] [] 0 [.sl false 3 (Mp e_T_api_Value x_1), .int .u64 r_1.2, .bool true] [] hmix (ac gg_2 (ac gg_2 (ac gg_2 an))) ?_
   exact ⟨rfl, (sw [] [] [.s 0, .s 6, .a 26 (.bool (decide (r_1.1 > (0 : Int)) || decide (r_1.2 > (9223372036854775807 : Int))))] [] (ac (congrArg AV.bool (ort gg_2) : (.bool true : AV) = .bool (decide (r_1.1 > (0 : Int)) || decide (r_1.2 > (9223372036854775807 : Int)))) an))⟩
  ·refine rg [(5, Hf)] [0, 6, 26] [] 0 [.sl false 3 (Mp e_T_api_Value x_1), .int .u64 r_1.2, .bool (decide (r_1.2 > (9223372036854775807 : Int)))] [] hmix (ac gg_2 (ac gg_2 (ac gg_2 an))) ?_
   exact ⟨rfl, (sw [] [] [.s 0, .s 6, .a 26 (.bool (decide (r_1.1 > (0 : Int)) || decide (r_1.2 > (9223372036854775807 : Int))))] [] (ac (congrArg AV.bool (orf gg_2 rfl) : (.bool (decide (r_1.2 > (9223372036854775807 : Int))) : AV) = .bool (decide (r_1.1 > (0 : Int)) || decide (r_1.2 > (9223372036854775807 : Int)))) an))⟩
 obtain ⟨o_2, h_3, h⟩ := bind_some h
 refine aw_mid (mk [(0, .sl false 3 (Mp e_T_api_Value x_1)), (6, .int .u64 r_1.2)] [] 0) ?_ ?_
 ·replace h := h_3
  refine cd 26 (decide (r_1.1 > (0 : Int)) || decide (r_1.2 > (9223372036854775807 : Int))) ?_ ?_
  ·intro g_2; replace h := cond_t g_2 h
   exact none_ne h
  intro g_2; replace h := cond_f g_2 h
  refine sk ?_
  cases h
  exact ⟨rfl, (sw [] [] [.s 0, .s 6] [] an)⟩
 refine sq ?_
 obtain ⟨_, h_4, h⟩ := bind_some h; replace h_4 := need_some h_4
 refine rg [(2, { id := 0, l := (Mp e_T_api_Value (List.replicate ((w_i64 r_1.2).toNat) (⟨(0 : Int), (0 : Int), []⟩ : T_api_Value))), m := (w_i64 r_1.2).toNat, n := (w_i64 r_1.2).toNat })] [0, 7] [0] 1 [.sl false 3 (Mp e_T_api_Value x_1), .own 0 ((w_i64 r_1.2).toNat)] [Rb 24 3 (Mp e_T_api_Value (List.replicate ((w_i64 r_1.2).toNat) (⟨(0 : Int), (0 : Int), []⟩ : T_api_Value)))] hmix (ac ((Int.toNat_of_nonneg h_4.1).symm : w_i64 r_1.2 = (((w_i64 r_1.2).toNat : Nat) : Int)) (ac ((Int.toNat_of_nonneg h_4.1).symm : w_i64 r_1.2 = (((w_i64 r_1.2).toNat : Nat) : Int)) (ac (Nat.le_refl _ : ((w_i64 r_1.2).toNat) ≤ ((w_i64 r_1.2).toNat)) (ac h_4.2 (ac (vc_rep : (Mp e_T_api_Value (List.replicate ((w_i64 r_1.2).toNat) (⟨(0 : Int), (0 : Int), []⟩ : T_api_Value))) = List.replicate ((w_i64 r_1.2).toNat) (e_T_api_Value (⟨(0 : Int), (0 : Int), []⟩ : T_api_Value))) an))))) ?_
 refine sq ?_
 obtain ⟨_, h_5, h⟩ := bind_some h; replace h_5 := need_some h_5
 refine rg [(2, { l := (Mp e_T_api_Value (cpy (List.replicate ((w_i64 r_1.2).toNat) (⟨(0 : Int), (0 : Int), []⟩ : T_api_Value)) 0 ((w_i64 r_1.2).toNat) x_1)), n := (min (x_1).length ((w_i64 r_1.2).toNat - 0)) })] [7, 8] [0] 1 [.own 0 ((w_i64 r_1.2).toNat), Ii (((min (x_1).length ((w_i64 r_1.2).toNat - 0)) : Nat) : Int)] [Rb 24 3 (Mp e_T_api_Value (cpy (List.replicate ((w_i64 r_1.2).toNat) (⟨(0 : Int), (0 : Int), []⟩ : T_api_Value)) 0 ((w_i64 r_1.2).toNat) x_1))] hmix (ac (trivial : True) (ac h_5.1 (ac (vc_lenle' h_5.2 : ((w_i64 r_1.2).toNat) ≤ ((Mp e_T_api_Value (List.replicate ((w_i64 r_1.2).toNat) (⟨(0 : Int), (0 : Int), []⟩ : T_api_Value)))).length) (ac (by simp : (min (x_1).length ((w_i64 r_1.2).toNat - 0)) = min ((List.map e_T_api_Value x_1) : List AV).length ((w_i64 r_1.2).toNat - 0)) (ac (by simp [cpy] : (List.map e_T_api_Value (cpy (List.replicate ((w_i64 r_1.2).toNat) (⟨(0 : Int), (0 : Int), []⟩ : T_api_Value)) 0 ((w_i64 r_1.2).toNat) x_1)) = ((List.map e_T_api_Value (List.replicate ((w_i64 r_1.2).toNat) (⟨(0 : Int), (0 : Int), []⟩ : T_api_Value)))).take 0 ++ ((List.map e_T_api_Value x_1) : List AV).take (min (x_1).length ((w_i64 r_1.2).toNat - 0)) ++ ((List.map e_T_api_Value (List.replicate ((w_i64 r_1.2).toNat) (⟨(0 : Int), (0 : Int), []⟩ : T_api_Value)))).drop (0 + (min (x_1).length ((w_i64 r_1.2).toNat - 0)))) an))))) ?_
 refine sq ?_
 obtain ⟨o_3, h_6, h⟩ := bind_some h
 refine aw_mid (mk [(7, .own 0 ((o_3).length))] [(0, Rb 24 3 (Mp e_T_api_Value o_3))] 1) ?_ ?_
 ·replace h := h_6
  refine aw_block (id := 0) (by kernel_rfl) ?_
  refine wk [0] [] [.a 7 (.own 0 (((cpy (List.replicate ((w_i64 r_1.2).toNat) (⟨(0 : Int), (0 : Int), []⟩ : T_api_Value)) 0 ((w_i64 r_1.2).toNat) x_1)).length)), .s 8] [.s 0] [(7, .own 0 (((cpy (List.replicate ((w_i64 r_1.2).toNat) (⟨(0 : Int), (0 : Int), []⟩ : T_api_Value)) 0 ((w_i64 r_1.2).toNat) x_1)).length)), (8, Ii (((min (x_1).length ((w_i64 r_1.2).toNat - 0)) : Nat) : Int))] [(0, Rb 24 3 (Mp e_T_api_Value (cpy (List.replicate ((w_i64 r_1.2).toNat) (⟨(0 : Int), (0 : Int), []⟩ : T_api_Value)) 0 ((w_i64 r_1.2).toNat) x_1)))] (ac (congrArg (AV.own _) ((cpy_len h_5.1 h_5.2).trans List.length_replicate).symm : (.own 0 ((w_i64 r_1.2).toNat) : AV) = .own 0 (((cpy (List.replicate ((w_i64 r_1.2).toNat) (⟨(0 : Int), (0 : Int), []⟩ : T_api_Value)) 0 ((w_i64 r_1.2).toNat) x_1)).length)) an) ?_
  refine aw_loopF (fun n st => ∃ (n_1 : Int), ∃ (row_1 : List T_api_Value), st = mk [(7, .own 0 ((row_1).length)), (8, Ii n_1)] [(0, Rb 24 3 (Mp e_T_api_Value row_1))] 1 ∧ slices_Repeat_tracebook_api_Value_tracebook_api_Value_L1 F n n_1 row_1 = some o_3) F (by kernel_rfl) ⟨_, _, rfl, h⟩ ?_ ?_
  ·rintro _ ⟨_, _, _, h⟩; exact none_ne (h : (none : Option (List T_api_Value)) = some o_3)
  rintro n_2 _ ⟨n_1, row_1, rfl, h⟩
  replace h : slices_Repeat_tracebook_api_Value_tracebook_api_Value_L1_body F (slices_Repeat_tracebook_api_Value_tracebook_api_Value_L1 F n_2) n_1 row_1 = some o_3 := h
  unfold slices_Repeat_tracebook_api_Value_tracebook_api_Value_L1_body at h
  refine sq ?_
  refine sr [] [7, 8, 37] [0] 1 [.own 0 ((row_1).length), Ii n_1, .bool (decide (n_1 < (lN (row_1))))] [Rb 24 3 (Mp e_T_api_Value row_1)] hmix an ?_
  refine cd 37 (decide (n_1 < (lN (row_1)))) ?_ ?_
  rotate_left
  ·intro g_3; replace h := cond_f g_3 h
   refine aw_exit (id := 0) (by kernel_rfl) ?_
   cases h
   exact ⟨rfl, (sw [0] [] [.s 7] [.s 0] an)⟩
  intro g_3; replace h := cond_t g_3 h
  refine sk ?_
  refine aw_block (id := 1) (by kernel_rfl) ?_
  obtain ⟨_, h_7, h⟩ := bind_some h; replace h_7 := need_some h_7
  obtain ⟨_, h_8, h⟩ := bind_some h; replace h_8 := need_some h_8
  obtain ⟨_, h_9, h⟩ := bind_some h; replace h_9 := need_some h_9
  obtain ⟨_, h_10, h⟩ := bind_some h; replace h_10 := need_some h_10
  refine rg [(7, { l := (Mp e_T_api_Value (cpy row_1 ((n_1).toNat) ((row_1).length) (((row_1).take ((n_1).toNat)).drop 0))), n := (min (((row_1).take ((n_1).toNat)).drop 0).length ((row_1).length - (n_1).toNat)) })] [7, 8] [0] 1 [.own 0 ((row_1).length), Ii (w_i64 (n_1 + (((min (((row_1).take ((n_1).toNat)).drop 0).length ((row_1).length - (n_1).toNat)) : Nat) : Int)))] [Rb 24 3 (Mp e_T_api_Value (cpy row_1 ((n_1).toNat) ((row_1).length) (((row_1).take ((n_1).toNat)).drop 0)))] hmix (ac h_7.1 (ac h_7.2 (ac (Int.le_refl _ : (lN (row_1)) ≤ (lN (row_1))) (ac (by decide : (0 : Int) ≤ (0 : Int)) (ac h_8.1 (ac h_8.2 (ac (vc_lenle' h_9.2 : ((n_1).toNat) ≤ ((Mp e_T_api_Value row_1)).length) (ac h_9.1 (ac h_10.1 (ac (vc_lenle' h_10.2 : ((row_1).length) ≤ ((Mp e_T_api_Value row_1)).length) (ac (by simp : (min (((row_1).take ((n_1).toNat)).drop 0).length ((row_1).length - (n_1).toNat)) = min ((((List.map e_T_api_Value row_1)).take ((n_1).toNat)).drop 0 : List AV).length ((row_1).length - (n_1).toNat)) (ac (by simp [cpy] : (List.map e_T_api_Value (cpy row_1 ((n_1).toNat) ((row_1).length) (((row_1).take ((n_1).toNat)).drop 0))) = ((List.map e_T_api_Value row_1)).take ((n_1).toNat) ++ ((((List.map e_T_api_Value row_1)).take ((n_1).toNat)).drop 0 : List AV).take (min (((row_1).take ((n_1).toNat)).drop 0).length ((row_1).length - (n_1).toNat)) ++ ((List.map e_T_api_Value row_1)).drop ((n_1).toNat + (min (((row_1).take ((n_1).toNat)).drop 0).length ((row_1).length - (n_1).toNat)))) an)))))))))))) ?_
  exact ⟨_, (sw [0] [] [.a 7 (.own 0 (((cpy row_1 ((n_1).toNat) ((row_1).length) (((row_1).take ((n_1).toNat)).drop 0))).length)), .s 8] [.s 0] (ac (congrArg (AV.own _) (cpy_len h_10.1 h_10.2).symm : (.own 0 ((row_1).length) : AV) = .own 0 (((cpy row_1 ((n_1).toNat) ((row_1).length) (((row_1).take ((n_1).toNat)).drop 0))).length)) an)), _, _, rfl, h⟩
 refine sr [] [4] [0] 1 [.own 0 ((o_3).length)] [Rb 24 3 (Mp e_T_api_Value o_3)] hmix an ?_
 refine wk [0] [] [.s 4] [.s 0] [(4, .own 0 ((o_3).length))] [(0, Rb 24 3 (Mp e_T_api_Value o_3))] an ?_
 refine rt ?_
 cases h
 exact ⟨.inr rfl, Nat.le_of_ble_eq_true rfl, by kernel_rfl⟩

theorem column_input_values_ok (F : Nat) (x_1 : T_column_input) (coding_1 : Int) (k_1 : Int) (n_1 : Int) (r : (List (T_api_Value)) × T_column_input) (h : column_input_values F x_1 coding_1 k_1 n_1 = some r) : TripleG prog 31 [(.var 53 (v_T_column_input x_1))] [] [Pp 0, Iu coding_1, Ii k_1, Ii n_1] [(.var 53 (v_T_column_input r.2)), .row 24 3 (Mp e_T_api_Value r.1)] (.own 1 ((r.1).length)) := by
 refine triple_intro (fn := Go.Proofs.Try.f31) (code := codeOf Go.Proofs.Try.f31) (by kernel_rfl) (by kernel_rfl) (Nat.le_of_ble_eq_true (by kernel_rfl)) ?_
 unfold column_input_values at h
 refine sr [(0, { id := 1, m := 1 })] [0, 1, 2, 3] [0] 2 [Pp 0, Iu coding_1, Ii k_1, Ii n_1] [Vb 53 (v_T_column_input x_1)] hmix an ?_
 refine sr [(0, { id := 2, m := 1 })] [0, 1, 2, 3, 9] [0, 2] 3 [Pp 0, Iu coding_1, Ii k_1, Ii n_1, .own 2 0] [Vb 53 (v_T_column_input x_1), Rb 24 3 []] hmix an ?_
 refine sq ?_
 refine sr [] [0, 2, 3, 9, 15] [0, 2] 3 [Pp 0, Ii k_1, Ii n_1, .own 2 0, Iu coding_1] [Vb 53 (v_T_column_input x_1), Rb 24 3 []] hmix an ?_
 obtain ⟨o_1, h_1, h⟩ := bind_some h
 refine aw_mid (mk [(0, Pp 0), (9, .own 1 ((o_1.2.2).length))] [(0, Vb 53 [.sl false 1 (Mb o_1.1), .bool o_1.2.1]), (1, Rb 24 3 (Mp e_T_api_Value o_1.2.2))] 2) ?_ ?_
 ·replace h := h_1
  refine aw_block (id := 0) (by kernel_rfl) ?_
  refine sr [] [0, 2, 3, 9, 15, 19] [0, 2] 3 [Pp 0, Ii k_1, Ii n_1, .own 2 0, Iu coding_1, .bool (coding_1 == (0 : Int))] [Vb 53 (v_T_column_input x_1), Rb 24 3 []] hmix an ?_
  refine cd 19 (coding_1 == (0 : Int)) ?_ ?_
  ·intro g_1; replace h := cond_t g_1 h
   obtain ⟨o_2, h_2, h⟩ := bind_some h
   refine aw_mid (mk [(0, Pp 0), (9, .own 1 ((o_2.2.2).length))] [(0, Vb 53 [.sl false 1 (Mb o_2.1), .bool o_2.2.1]), (1, Rb 24 3 (Mp e_T_api_Value o_2.2.2))] 2) ?_ ?_
   ·replace h := h_2
    refine aw_block (id := 1) (by kernel_rfl) ?_
    refine wk [0, 2] [] [.s 0, .s 3, .s 9] [.s 0, .s 1] [(0, Pp 0), (3, Ii n_1), (9, .own 1 0)] [(0, Vb 53 (v_T_column_input x_1)), (1, Rb 24 3 [])] an ?_
    refine aw_loopF (fun n st => ∃ (c_1 : List Int), ∃ (c_2 : Bool), ∃ (row_1 : List T_api_Value), st = mk [(0, Pp 0), (3, Ii n_1), (9, .own 1 ((row_1).length))] [(0, Vb 53 [.sl false 1 (Mb c_1), .bool c_2]), (1, Rb 24 3 (Mp e_T_api_Value row_1))] 2 ∧ column_input_values_L1 F n_1 n c_1 c_2 row_1 = some o_2) F (by kernel_rfl) ⟨_, _, _, rfl, h⟩ ?_ ?_
    ·rintro _ ⟨_, _, _, _, h⟩; exact none_ne (h : (none : Option ((List Int) × Bool × (List T_api_Value))) = some o_2)
    rintro n_2 _ ⟨c_1, c_2, row_1, rfl, h⟩
    replace h : column_input_values_L1_body F n_1 (column_input_values_L1 F n_1 n_2) c_1 c_2 row_1 = some o_2 := h
    unfold column_input_values_L1_body at h
    refine sq ?_
    refine sq ?_
    refine aw_mid (mk [(0, Pp 0), (3, Ii n_1), (9, .own 1 ((row_1).length)), (31, .bool (decide ((lN (row_1)) < n_1) && !c_2))] [(0, Vb 53 [.sl false 1 (Mb c_1), .bool c_2]), (1, Rb 24 3 (Mp e_T_api_Value row_1))] 2) ?_ ?_
    ·rcases bft (decide ((lN (row_1)) < n_1)) with gg_119 | gg_119
     ·refine rg [(10, Ht)] [0, 3, 9, 26, 27, 28, 29, 30, 31] [0, 1] 2 [Pp 0, Ii n_1, .own 1 ((row_1).length), Pp 0, Pp 0, .ptr 0 0 0 1, .bool c_2, .bool (!c_2), .bool (!c_2)] [Vb 53 [.sl false 1 (Mb c_1), .bool c_2], Rb 24 3 (Mp e_T_api_Value row_1)] hmix (ac gg_119 (ac gg_119 (ac gg_119 (ac gg_119 (ac gg_119 (ac gg_119 an)))))) ?_
      exact ⟨rfl, (sw [0, 1] [] [.s 0, .s 3, .s 9, .a 31 (.bool (decide ((lN (row_1)) < n_1) && !c_2))] [.s 0, .s 1] (ac (congrArg AV.bool (andt gg_119 rfl) : (.bool (!c_2) : AV) = .bool (decide ((lN (row_1)) < n_1) && !c_2)) an))⟩
     ·refine rg [(5, Hg), (6, Hg), (7, Hg), (8, Hg), (9, Hg), (10, Hf)] [0, 3, 9, 26, 27, 28, 29, 30, 31] [0, 1] 2 [Pp 0, Ii n_1, .own 1 ((row_1).length), .tuple [], .tuple [], .tuple [], .tuple [], .tuple [], .bool false] [Vb 53 [.sl false 1 (Mb c_1), .bool c_2], Rb 24 3 (Mp e_T_api_Value row_1)] hmix (ac gg_119 (ac gg_119 (ac gg_119 (ac gg_119 (ac gg_119 (ac gg_119 an)))))) ?_
      exact ⟨rfl, (sw [0, 1] [] [.s 0, .s 3, .s 9, .a 31 (.bool (decide ((lN (row_1)) < n_1) && !c_2))] [.s 0, .s 1] (ac (congrArg AV.bool (andf gg_119) : (.bool false : AV) = .bool (decide ((lN (row_1)) < n_1) && !c_2)) an))⟩
    refine cd 31 (decide ((lN (row_1)) < n_1) && !c_2) ?_ ?_
    rotate_left
    ·intro g_2; replace h := cond_f g_2 h
     refine aw_exit (id := 1) (by kernel_rfl) ?_
     cases h
     exact ⟨rfl, (sw [0, 1] [] [.s 0, .s 9] [.s 0, .s 1] an)⟩
    intro g_2; replace h := cond_t g_2 h
    refine sk ?_
    refine aw_block (id := 2) (by kernel_rfl) ?_
    obtain ⟨r_1, h_3, h⟩ := bind_some h
    obtain ⟨_, h_4, h⟩ := bind_some h; replace h_4 := need_some h_4
    refine rg [(2, { av := e_T_api_Value r_1.1, ids := [0], l := [Pp 0], post := [(.var 53 (v_T_column_input r_1.2))], pre := [(.var 53 [.sl false 1 (Mb c_1), .bool c_2])] }), (3, { id := 2 }), (4, { id := 3, l := (Mp e_T_api_Value (row_1 ++ ([r_1.1] : List T_api_Value))), n := ((row_1 ++ ([r_1.1] : List T_api_Value))).length })] [0, 3, 9] [0, 3] 4 [Pp 0, Ii n_1, .own 3 (((row_1 ++ ([r_1.1] : List T_api_Value))).length)] [Vb 53 (v_T_column_input r_1.2), Rb 24 3 (Mp e_T_api_Value (row_1 ++ ([r_1.1] : List T_api_Value)))] hmix (ar ([Pp 0] : List AV) (ac (rfl : ([Vb 53 [.sl false 1 (Mb c_1), .bool c_2]] : List BoxSt) = [Vb 53 [.sl false 1 (Mb c_1), .bool c_2]]) (ac (column_input_value_ok F (⟨c_1, c_2⟩ : T_column_input) r_1 h_3 : TripleG prog 40 [(.var 53 [.sl false 1 (Mb c_1), .bool c_2])] [] [Pp 0] [(.var 53 (v_T_column_input r_1.2))] (e_T_api_Value r_1.1)) (ac (by first | (simp; done) | (simp; omega) : (row_1).length = ((List.map e_T_api_Value row_1)).length) (ac (by first | (simp; done) | (simp; omega) : 1 = ((List.map e_T_api_Value ([r_1.1] : List T_api_Value))).length) (ac (vc_app _ _ : (Mp e_T_api_Value (row_1 ++ ([r_1.1] : List T_api_Value))) = (Mp e_T_api_Value row_1) ++ (Mp e_T_api_Value ([r_1.1] : List T_api_Value))) (ac (by simp : ((row_1 ++ ([r_1.1] : List T_api_Value))).length = ((List.map e_T_api_Value (row_1 ++ ([r_1.1] : List T_api_Value)))).length) (ac (by first | (simp; done) | simpa using h_4 : (((List.map e_T_api_Value row_1) : List AV).length + ((List.map e_T_api_Value ([r_1.1] : List T_api_Value)) : List AV).length) * 32 ≤ 140737488355328) an)))))))) ?_
    exact ⟨_, (sw [0, 3] [] [.s 0, .s 3, .s 9] [.s 0, .s 1] an), _, _, _, rfl, h⟩
   cases h
   exact ⟨rfl, (sw [0, 1] [] [.s 0, .s 9] [.s 0, .s 1] an)⟩
  intro g_1; replace h := cond_f g_1 h
  refine sr [] [0, 2, 3, 9, 15, 37] [0, 2] 3 [Pp 0, Ii k_1, Ii n_1, .own 2 0, Iu coding_1, .bool (coding_1 == (1 : Int))] [Vb 53 (v_T_column_input x_1), Rb 24 3 []] hmix an ?_
  refine cd 37 (coding_1 == (1 : Int)) ?_ ?_
  ·intro g_3; replace h := cond_t g_3 h
   obtain ⟨o_3, h_5, h⟩ := bind_some h
   refine aw_mid (mk [(0, Pp 0), (9, .own 1 ((o_3.2.2).length))] [(0, Vb 53 [.sl false 1 (Mb o_3.1), .bool o_3.2.1]), (1, Rb 24 3 (Mp e_T_api_Value o_3.2.2))] 2) ?_ ?_
   ·replace h := h_5
    refine aw_block (id := 3) (by kernel_rfl) ?_
    refine wk [0, 2] [] [.s 0, .s 3, .s 9] [.s 0, .s 1] [(0, Pp 0), (3, Ii n_1), (9, .own 1 0)] [(0, Vb 53 (v_T_column_input x_1)), (1, Rb 24 3 [])] an ?_
    refine aw_loopF (fun n st => ∃ (c_3 : List Int), ∃ (c_4 : Bool), ∃ (row_2 : List T_api_Value), st = mk [(0, Pp 0), (3, Ii n_1), (9, .own 1 ((row_2).length))] [(0, Vb 53 [.sl false 1 (Mb c_3), .bool c_4]), (1, Rb 24 3 (Mp e_T_api_Value row_2))] 2 ∧ column_input_values_L2 F n_1 n c_3 c_4 row_2 = some o_3) F (by kernel_rfl) ⟨_, _, _, rfl, h⟩ ?_ ?_
    ·rintro _ ⟨_, _, _, _, h⟩; exact none_ne (h : (none : Option ((List Int) × Bool × (List T_api_Value))) = some o_3)
    rintro n_3 _ ⟨c_3, c_4, row_2, rfl, h⟩
    replace h : column_input_values_L2_body F n_1 (column_input_values_L2 F n_1 n_3) c_3 c_4 row_2 = some o_3 := h
    unfold column_input_values_L2_body at h
    refine sq ?_
    refine sq ?_
    refine aw_mid (mk [(0, Pp 0), (3, Ii n_1), (9, .own 1 ((row_2).length)), (49, .bool (decide ((lN (row_2)) < n_1) && !c_4))] [(0, Vb 53 [.sl false 1 (Mb c_3), .bool c_4]), (1, Rb 24 3 (Mp e_T_api_Value row_2))] 2) ?_ ?_
    ·rcases bft (decide ((lN (row_2)) < n_1)) with gg_129 | gg_129
     ·refine rg [(10, Ht)] [0, 3, 9, 44, 45, 46, 47, 48, 49] [0, 1] 2 [Pp 0, Ii n_1, .own 1 ((row_2).length), Pp 0, Pp 0, .ptr 0 0 0 1, .bool c_4, .bool (!c_4), .bool (!c_4)] [Vb 53 [.sl false 1 (Mb c_3), .bool c_4], Rb 24 3 (Mp e_T_api_Value row_2)] hmix (ac gg_129 (ac gg_129 (ac gg_129 (ac gg_129 (ac gg_129 (ac gg_129 an)))))) ?_
      exact ⟨rfl, (sw [0, 1] [] [.s 0, .s 3, .s 9, .a 49 (.bool (decide ((lN (row_2)) < n_1) && !c_4))] [.s 0, .s 1] (ac (congrArg AV.bool (andt gg_129 rfl) : (.bool (!c_4) : AV) = .bool (decide ((lN (row_2)) < n_1) && !c_4)) an))⟩
     ·refine rg [(5, Hg), (6, Hg), (7, Hg), (8, Hg), (9, Hg), (10, Hf)] [0, 3, 9, 44, 45, 46, 47, 48, 49] [0, 1] 2 [Pp 0, Ii n_1, .own 1 ((row_2).length), .tuple [], .tuple [], .tuple [], .tuple [], .tuple [], .bool false] [Vb 53 [.sl false 1 (Mb c_3), .bool c_4], Rb 24 3 (Mp e_T_api_Value row_2)] hmix (ac gg_129 (ac gg_129 (ac gg_129 (ac gg_129 (ac gg_129 (ac gg_129 an)))))) ?_
      exact ⟨rfl, (sw [0, 1] [] [.s 0, .s 3, .s 9, .a 49 (.bool (decide ((lN (row_2)) < n_1) && !c_4))] [.s 0, .s 1] (ac (congrArg AV.bool (andf gg_129) : (.bool false : AV) = .bool (decide ((lN (row_2)) < n_1) && !c_4)) an))⟩
    refine cd 49 (decide ((lN (row_2)) < n_1) && !c_4) ?_ ?_
    rotate_left
    ·intro g_4; replace h := cond_f g_4 h
     refine aw_exit (id := 3) (by kernel_rfl) ?_
     cases h
     exact ⟨rfl, (sw [0, 1] [] [.s 0, .s 9] [.s 0, .s 1] an)⟩
    intro g_4; replace h := cond_t g_4 h
    refine sk ?_
    refine aw_block (id := 4) (by kernel_rfl) ?_
    refine sq ?_
    obtain ⟨r_2, h_6, h⟩ := bind_some h
    refine rg [(1, { av := Ii r_2.1, ids := [0], l := [Pp 0], post := [(.var 53 (v_T_column_input r_2.2))], pre := [(.var 53 [.sl false 1 (Mb c_3), .bool c_4])] })] [0, 3, 9, 10] [0, 1] 2 [Pp 0, Ii n_1, .own 1 ((row_2).length), Ii r_2.1] [Vb 53 (v_T_column_input r_2.2), Rb 24 3 (Mp e_T_api_Value row_2)] hmix (ar ([Pp 0] : List AV) (ac (rfl : ([Vb 53 [.sl false 1 (Mb c_3), .bool c_4]] : List BoxSt) = [Vb 53 [.sl false 1 (Mb c_3), .bool c_4]]) (ac (column_input_num_ok F (⟨c_3, c_4⟩ : T_column_input) r_2 h_6 : TripleG prog 41 [(.var 53 [.sl false 1 (Mb c_3), .bool c_4])] [] [Pp 0] [(.var 53 (v_T_column_input r_2.2))] (Ii r_2.1)) an))) ?_
    refine sq ?_
    refine aw_mid (mk [(0, Pp 0), (3, Ii n_1), (9, .own 1 ((row_2).length)), (10, Ii r_2.1)] [(0, Vb 53 [.sl false 1 (Mb r_2.2.b), .bool (r_2.2.bad || (decide (r_2.1 < (1 : Int)) || decide (r_2.1 > (w_i64 (n_1 - (lN (row_2)))))))]), (1, Rb 24 3 (Mp e_T_api_Value row_2))] 2) ?_ ?_
    ·rcases Bool.eq_false_or_eq_true r_2.2.bad with gg_130 | gg_130
     ·refine rg [(6, Hg), (7, Hg), (8, Ht), (10, Hg), (11, Hg), (12, Hg), (13, Hg), (14, Hg), (15, Hg), (16, Ht)] [0, 3, 9, 10, 58, 59, 62, 63, 64, 65, 66, 67] [0, 1] 2 [Pp 0, Ii n_1, .own 1 ((row_2).length), Ii r_2.1, .tuple [], .tuple [], .tuple [], .tuple [], .tuple [], .tuple [], .tuple [], .tuple []] [Vb 53 [.sl false 1 (Mb r_2.2.b), .bool true], Rb 24 3 (Mp e_T_api_Value row_2)] hmix (ac gg_130 (ac gg_130 (ac gg_130 (ax (ax (ax (ax (ax (ax (ar true an)))))))))) ?_
      exact ⟨rfl, (sw [0, 1] [] [.s 0, .s 3, .s 9, .s 10] [.a 0 (Vb 53 [.sl false 1 (Mb r_2.2.b), .bool (r_2.2.bad || (decide (r_2.1 < (1 : Int)) || decide (r_2.1 > (w_i64 (n_1 - (lN (row_2)))))))]), .s 1] (ar 53 (ac (rfl : ones [.sl false 1 (Mb r_2.2.b), .bool (r_2.2.bad || (decide (r_2.1 < (1 : Int)) || decide (r_2.1 > (w_i64 (n_1 - (lN (row_2)))))))] = true) (ar 1 (ar ((Mb r_2.2.b) : List AV) (ac (rfl : (!false || false) = true) (ac (congrArg AV.bool (ort gg_130) : (.bool true : AV) = .bool (r_2.2.bad || (decide (r_2.1 < (1 : Int)) || decide (r_2.1 > (w_i64 (n_1 - (lN (row_2)))))))) an)))))))⟩
     ·rcases bft (decide (r_2.1 < (1 : Int))) with gg_131 | gg_131
      ·refine rg [(8, Hf), (10, Hg), (11, Hg), (12, Hg), (13, Hg), (14, Hg), (15, Hg), (16, Ht)] [0, 3, 9, 10, 58, 59, 62, 63, 64, 65, 66, 67] [0, 1] 2 [Pp 0, Ii n_1, .own 1 ((row_2).length), Ii r_2.1, Ii r_2.1, .bool (decide (r_2.1 < (1 : Int))), .tuple [], .tuple [], .tuple [], .tuple [], .tuple [], .tuple []] [Vb 53 [.sl false 1 (Mb r_2.2.b), .bool true], Rb 24 3 (Mp e_T_api_Value row_2)] hmix (ac gg_130 (ac gg_130 (ac gg_130 (ac gg_131 (ac gg_131 (ac gg_131 (ac gg_131 (ac gg_131 (ac gg_131 (ac gg_131 an)))))))))) ?_
       exact ⟨rfl, (sw [0, 1] [] [.s 0, .s 3, .s 9, .s 10] [.a 0 (Vb 53 [.sl false 1 (Mb r_2.2.b), .bool (r_2.2.bad || (decide (r_2.1 < (1 : Int)) || decide (r_2.1 > (w_i64 (n_1 - (lN (row_2)))))))]), .s 1] (ar 53 (ac (rfl : ones [.sl false 1 (Mb r_2.2.b), .bool (r_2.2.bad || (decide (r_2.1 < (1 : Int)) || decide (r_2.1 > (w_i64 (n_1 - (lN (row_2)))))))] = true) (ar 1 (ar ((Mb r_2.2.b) : List AV) (ac (rfl : (!false || false) = true) (ac (congrArg AV.bool (orf gg_130 (ort gg_131)) : (.bool true : AV) = .bool (r_2.2.bad || (decide (r_2.1 < (1 : Int)) || decide (r_2.1 > (w_i64 (n_1 - (lN (row_2)))))))) an)))))))⟩
      ·refine rg [(8, Hf), (16, Hf)] [0, 3, 9, 10, 58, 59, 62, 63, 64, 65, 66, 67] [0, 1] 2 [Pp 0, Ii n_1, .own 1 ((row_2).length), Ii r_2.1, Ii r_2.1, .bool (decide (r_2.1 < (1 : Int))), Ii r_2.1, Ii n_1, .own 1 ((row_2).length), Ii (lN (row_2)), Ii (w_i64 (n_1 - (lN (row_2)))), .bool (decide (r_2.1 > (w_i64 (n_1 - (lN (row_2))))))] [Vb 53 [.sl false 1 (Mb r_2.2.b), .bool (decide (r_2.1 > (w_i64 (n_1 - (lN (row_2))))))], Rb 24 3 (Mp e_T_api_Value row_2)] hmix (ac gg_130 (ac gg_130 (ac gg_130 (ac gg_131 (ac gg_131 (ac gg_131 (ac gg_131 (ac gg_131 (ac gg_131 (ac gg_131 an)))))))))) ?_
       exact ⟨rfl, (sw [0, 1] [] [.s 0, .s 3, .s 9, .s 10] [.a 0 (Vb 53 [.sl false 1 (Mb r_2.2.b), .bool (r_2.2.bad || (decide (r_2.1 < (1 : Int)) || decide (r_2.1 > (w_i64 (n_1 - (lN (row_2)))))))]), .s 1] (ar 53 (ac (rfl : ones [.sl false 1 (Mb r_2.2.b), .bool (r_2.2.bad || (decide (r_2.1 < (1 : Int)) || decide (r_2.1 > (w_i64 (n_1 - (lN (row_2)))))))] = true) (ar 1 (ar ((Mb r_2.2.b) : List AV) (ac (rfl : (!false || false) = true) (ac (congrArg AV.bool (orf gg_130 (orf gg_131 rfl)) : (.bool (decide (r_2.1 > (w_i64 (n_1 - (lN (row_2)))))) : AV) = .bool (r_2.2.bad || (decide (r_2.1 < (1 : Int)) || decide (r_2.1 > (w_i64 (n_1 - (lN (row_2)))))))) an)))))))⟩
    refine sr [] [0, 3, 9, 10, 75] [0, 1] 2 [Pp 0, Ii n_1, .own 1 ((row_2).length), Ii r_2.1, .bool (!(r_2.2.bad || (decide (r_2.1 < (1 : Int)) || decide (r_2.1 > (w_i64 (n_1 - (lN (row_2))))))))] [Vb 53 [.sl false 1 (Mb r_2.2.b), .bool (r_2.2.bad || (decide (r_2.1 < (1 : Int)) || decide (r_2.1 > (w_i64 (n_1 - (lN (row_2)))))))], Rb 24 3 (Mp e_T_api_Value row_2)] hmix an ?_
    refine cd 75 (!(r_2.2.bad || (decide (r_2.1 < (1 : Int)) || decide (r_2.1 > (w_i64 (n_1 - (lN (row_2)))))))) ?_ ?_
    rotate_left
    ·intro g_5; replace h := cond_f g_5 h
     refine sk ?_
     exact ⟨_, (sw [0, 1] [] [.s 0, .s 3, .s 9] [.s 0, .s 1] an), _, _, _, rfl, h⟩
    intro g_5; replace h := cond_t g_5 h
    obtain ⟨r_3, h_7, h⟩ := bind_some h
    obtain ⟨r_4, h_8, h⟩ := bind_some h
    obtain ⟨_, h_9, h⟩ := bind_some h; replace h_9 := need_some h_9
    refine rg [(2, { av := e_T_api_Value r_3.1, ids := [0], l := [Pp 0], post := [(.var 53 (v_T_column_input r_3.2))], pre := [(.var 53 [.sl false 1 (Mb r_2.2.b), .bool (r_2.2.bad || (decide (r_2.1 < (1 : Int)) || decide (r_2.1 > (w_i64 (n_1 - (lN (row_2)))))))])] }), (3, { id := 2 }), (5, { av := .own 0 ((r_4).length), frz := [2], ids := [3], l := [.sl false 3 (Mp e_T_api_Value ([r_3.1] : List T_api_Value)), Ii r_2.1], post := [(.row 24 3 (Mp e_T_api_Value r_4))] }), (6, { id := 4, l := (Mp e_T_api_Value (row_2 ++ r_4)), n := ((row_2 ++ r_4)).length })] [0, 3, 9] [0, 4] 5 [Pp 0, Ii n_1, .own 4 (((row_2 ++ r_4)).length)] [Vb 53 (v_T_column_input r_3.2), Rb 24 3 (Mp e_T_api_Value (row_2 ++ r_4))] hmix (ar ([Pp 0] : List AV) (ac (rfl : ([Vb 53 [.sl false 1 (Mb r_2.2.b), .bool (r_2.2.bad || (decide (r_2.1 < (1 : Int)) || decide (r_2.1 > (w_i64 (n_1 - (lN (row_2)))))))]] : List BoxSt) = [Vb 53 [.sl false 1 (Mb r_2.2.b), .bool (r_2.2.bad || (decide (r_2.1 < (1 : Int)) || decide (r_2.1 > (w_i64 (n_1 - (lN (row_2)))))))]]) (ac (column_input_value_ok F (⟨r_2.2.b, (r_2.2.bad || (decide (r_2.1 < (1 : Int)) || decide (r_2.1 > (w_i64 (n_1 - (lN (row_2)))))))⟩ : T_column_input) r_3 h_7 : TripleG prog 40 [(.var 53 [.sl false 1 (Mb r_2.2.b), .bool (r_2.2.bad || (decide (r_2.1 < (1 : Int)) || decide (r_2.1 > (w_i64 (n_1 - (lN (row_2)))))))])] [] [Pp 0] [(.var 53 (v_T_column_input r_3.2))] (e_T_api_Value r_3.1)) (ac (by first | (simp; done) | (simp; omega) : 1 = ((List.map e_T_api_Value ([r_3.1] : List T_api_Value))).length) (ar ([.sl false 3 (Mp e_T_api_Value ([r_3.1] : List T_api_Value)), Ii r_2.1] : List AV) (ac (rfl : ([] : List BoxSt) = []) (ac (slices_Repeat_tracebook_api_Value_tracebook_api_Value_ok F ([r_3.1] : List T_api_Value) r_2.1 r_4 h_8 : TripleG prog 42 [] [] [.sl false 3 (Mp e_T_api_Value ([r_3.1] : List T_api_Value)), Ii r_2.1] [(.row 24 3 (Mp e_T_api_Value r_4))] (.own 0 ((r_4).length))) (ac (by first | (simp; done) | (simp; omega) : (row_2).length = ((List.map e_T_api_Value row_2)).length) (ac (by first | (simp; done) | (simp; omega) : (r_4).length = ((List.map e_T_api_Value r_4)).length) (ac (vc_app _ _ : (Mp e_T_api_Value (row_2 ++ r_4)) = (Mp e_T_api_Value row_2) ++ (Mp e_T_api_Value r_4)) (ac (by simp : ((row_2 ++ r_4)).length = ((List.map e_T_api_Value (row_2 ++ r_4))).length) (ac (by first | (simp; done) | simpa using h_9 : (((List.map e_T_api_Value row_2) : List AV).length + ((List.map e_T_api_Value r_4) : List AV).length) * 32 ≤ 140737488355328) an)))))))))))) ?_
    exact ⟨_, (sw [0, 4] [] [.s 0, .s 3, .s 9] [.s 0, .s 1] an), _, _, _, rfl, h⟩
   cases h
   exact ⟨rfl, (sw [0, 1] [] [.s 0, .s 9] [.s 0, .s 1] an)⟩
  intro g_3; replace h := cond_f g_3 h
  refine sr [] [0, 2, 3, 9, 15, 83] [0, 2] 3 [Pp 0, Ii k_1, Ii n_1, .own 2 0, Iu coding_1, .bool (coding_1 == (2 : Int))] [Vb 53 (v_T_column_input x_1), Rb 24 3 []] hmix an ?_
  refine cd 83 (coding_1 == (2 : Int)) ?_ ?_
  ·intro g_6; replace h := cond_t g_6 h
   refine sr [] [0, 2, 3, 9, 11] [0, 2] 3 [Pp 0, Ii k_1, Ii n_1, .own 2 0, Ii 0] [Vb 53 (v_T_column_input x_1), Rb 24 3 []] hmix an ?_
   obtain ⟨o_4, h_10, h⟩ := bind_some h
   refine aw_mid (mk [(0, Pp 0), (9, .own 1 ((o_4.2.2).length))] [(0, Vb 53 [.sl false 1 (Mb o_4.1), .bool o_4.2.1]), (1, Rb 24 3 (Mp e_T_api_Value o_4.2.2))] 2) ?_ ?_
   ·replace h := h_10
    refine aw_block (id := 5) (by kernel_rfl) ?_
    refine wk [0, 2] [] [.s 0, .s 2, .s 3, .s 9, .s 11] [.s 0, .s 1] [(0, Pp 0), (2, Ii k_1), (3, Ii n_1), (9, .own 1 0), (11, Ii 0)] [(0, Vb 53 (v_T_column_input x_1)), (1, Rb 24 3 [])] an ?_
    refine aw_loopF (fun n st => ∃ (last_1 : Int), ∃ (c_5 : List Int), ∃ (c_6 : Bool), ∃ (row_3 : List T_api_Value), st = mk [(0, Pp 0), (2, Ii k_1), (3, Ii n_1), (9, .own 1 ((row_3).length)), (11, Ii last_1)] [(0, Vb 53 [.sl false 1 (Mb c_5), .bool c_6]), (1, Rb 24 3 (Mp e_T_api_Value row_3))] 2 ∧ column_input_values_L3 F k_1 n_1 n last_1 c_5 c_6 row_3 = some o_4) F (by kernel_rfl) ⟨_, _, _, _, rfl, h⟩ ?_ ?_
    ·rintro _ ⟨_, _, _, _, _, h⟩; exact none_ne (h : (none : Option ((List Int) × Bool × (List T_api_Value))) = some o_4)
    rintro n_4 _ ⟨last_1, c_5, c_6, row_3, rfl, h⟩
    replace h : column_input_values_L3_body F k_1 n_1 (column_input_values_L3 F k_1 n_1 n_4) last_1 c_5 c_6 row_3 = some o_4 := h
    unfold column_input_values_L3_body at h
    refine sq ?_
    refine sq ?_
    refine aw_mid (mk [(0, Pp 0), (2, Ii k_1), (3, Ii n_1), (9, .own 1 ((row_3).length)), (11, Ii last_1), (95, .bool (decide ((lN (row_3)) < n_1) && !c_6))] [(0, Vb 53 [.sl false 1 (Mb c_5), .bool c_6]), (1, Rb 24 3 (Mp e_T_api_Value row_3))] 2) ?_ ?_
    ·rcases bft (decide ((lN (row_3)) < n_1)) with gg_135 | gg_135
     ·refine rg [(10, Ht)] [0, 2, 3, 9, 11, 90, 91, 92, 93, 94, 95] [0, 1] 2 [Pp 0, Ii k_1, Ii n_1, .own 1 ((row_3).length), Ii last_1, Pp 0, Pp 0, .ptr 0 0 0 1, .bool c_6, .bool (!c_6), .bool (!c_6)] [Vb 53 [.sl false 1 (Mb c_5), .bool c_6], Rb 24 3 (Mp e_T_api_Value row_3)] hmix (ac gg_135 (ac gg_135 (ac gg_135 (ac gg_135 (ac gg_135 (ac gg_135 an)))))) ?_
      exact ⟨rfl, (sw [0, 1] [] [.s 0, .s 2, .s 3, .s 9, .s 11, .a 95 (.bool (decide ((lN (row_3)) < n_1) && !c_6))] [.s 0, .s 1] (ac (congrArg AV.bool (andt gg_135 rfl) : (.bool (!c_6) : AV) = .bool (decide ((lN (row_3)) < n_1) && !c_6)) an))⟩
     ·refine rg [(5, Hg), (6, Hg), (7, Hg), (8, Hg), (9, Hg), (10, Hf)] [0, 2, 3, 9, 11, 90, 91, 92, 93, 94, 95] [0, 1] 2 [Pp 0, Ii k_1, Ii n_1, .own 1 ((row_3).length), Ii last_1, .tuple [], .tuple [], .tuple [], .tuple [], .tuple [], .bool false] [Vb 53 [.sl false 1 (Mb c_5), .bool c_6], Rb 24 3 (Mp e_T_api_Value row_3)] hmix (ac gg_135 (ac gg_135 (ac gg_135 (ac gg_135 (ac gg_135 (ac gg_135 an)))))) ?_
      exact ⟨rfl, (sw [0, 1] [] [.s 0, .s 2, .s 3, .s 9, .s 11, .a 95 (.bool (decide ((lN (row_3)) < n_1) && !c_6))] [.s 0, .s 1] (ac (congrArg AV.bool (andf gg_135) : (.bool false : AV) = .bool (decide ((lN (row_3)) < n_1) && !c_6)) an))⟩
    refine cd 95 (decide ((lN (row_3)) < n_1) && !c_6) ?_ ?_
    rotate_left
    ·intro g_7; replace h := cond_f g_7 h
     refine aw_exit (id := 5) (by kernel_rfl) ?_
     cases h
     exact ⟨rfl, (sw [0, 1] [] [.s 0, .s 9] [.s 0, .s 1] an)⟩
    intro g_7; replace h := cond_t g_7 h
    refine sk ?_
    refine aw_block (id := 6) (by kernel_rfl) ?_
    refine sq ?_
    obtain ⟨r_5, h_11, h⟩ := bind_some h
    refine rg [(2, { av := Ii r_5.1, ids := [0], l := [Pp 0], post := [(.var 53 (v_T_column_input r_5.2))], pre := [(.var 53 [.sl false 1 (Mb c_5), .bool c_6])] })] [0, 2, 3, 9, 11] [0, 1] 2 [Pp 0, Ii k_1, Ii n_1, .own 1 ((row_3).length), Ii (w_i64 (last_1 + r_5.1))] [Vb 53 (v_T_column_input r_5.2), Rb 24 3 (Mp e_T_api_Value row_3)] hmix (ar ([Pp 0] : List AV) (ac (rfl : ([Vb 53 [.sl false 1 (Mb c_5), .bool c_6]] : List BoxSt) = [Vb 53 [.sl false 1 (Mb c_5), .bool c_6]]) (ac (column_input_num_ok F (⟨c_5, c_6⟩ : T_column_input) r_5 h_11 : TripleG prog 41 [(.var 53 [.sl false 1 (Mb c_5), .bool c_6])] [] [Pp 0] [(.var 53 (v_T_column_input r_5.2))] (Ii r_5.1)) an))) ?_
    obtain ⟨_, h_12, h⟩ := bind_some h; replace h_12 := need_some h_12
    refine rg [(4, { id := 2 }), (5, { id := 3, l := (Mp e_T_api_Value (row_3 ++ ([(⟨k_1, w_i64 (last_1 + r_5.1), ([] : List Int)⟩ : T_api_Value)] : List T_api_Value))), n := ((row_3 ++ ([(⟨k_1, w_i64 (last_1 + r_5.1), ([] : List Int)⟩ : T_api_Value)] : List T_api_Value))).length })] [0, 2, 3, 9, 11] [0, 3] 4 [Pp 0, Ii k_1, Ii n_1, .own 3 (((row_3 ++ ([(⟨k_1, w_i64 (last_1 + r_5.1), ([] : List Int)⟩ : T_api_Value)] : List T_api_Value))).length), Ii (w_i64 (last_1 + r_5.1))] [Vb 53 (v_T_column_input r_5.2), Rb 24 3 (Mp e_T_api_Value (row_3 ++ ([(⟨k_1, w_i64 (last_1 + r_5.1), ([] : List Int)⟩ : T_api_Value)] : List T_api_Value)))] hmix (ac (by first | (simp; done) | (simp; omega) : (row_3).length = ((List.map e_T_api_Value row_3)).length) (ac (by first | (simp; done) | (simp; omega) : 1 = ((List.map e_T_api_Value ([(⟨k_1, w_i64 (last_1 + r_5.1), ([] : List Int)⟩ : T_api_Value)] : List T_api_Value))).length) (ac (vc_app _ _ : (Mp e_T_api_Value (row_3 ++ ([(⟨k_1, w_i64 (last_1 + r_5.1), ([] : List Int)⟩ : T_api_Value)] : List T_api_Value))) = (Mp e_T_api_Value row_3) ++ (Mp e_T_api_Value ([(⟨k_1, w_i64 (last_1 + r_5.1), ([] : List Int)⟩ : T_api_Value)] : List T_api_Value))) (ac (by simp : ((row_3 ++ ([(⟨k_1, w_i64 (last_1 + r_5.1), ([] : List Int)⟩ : T_api_Value)] : List T_api_Value))).length = ((List.map e_T_api_Value (row_3 ++ ([(⟨k_1, w_i64 (last_1 + r_5.1), ([] : List Int)⟩ : T_api_Value)] : List T_api_Value)))).length) (ac (by first | (simp; done) | simpa using h_12 : (((List.map e_T_api_Value row_3) : List AV).length + ((List.map e_T_api_Value ([(⟨k_1, w_i64 (last_1 + r_5.1), ([] : List Int)⟩ : T_api_Value)] : List T_api_Value)) : List AV).length) * 32 ≤ 140737488355328) an))))) ?_
    exact ⟨_, (sw [0, 3] [] [.s 0, .s 2, .s 3, .s 9, .s 11] [.s 0, .s 1] an), _, _, _, _, rfl, h⟩
   cases h
   exact ⟨rfl, (sw [0, 1] [] [.s 0, .s 9] [.s 0, .s 1] an)⟩
  intro g_6; replace h := cond_f g_6 h
  refine sr [] [0, 3, 9, 106] [0, 2] 3 [Pp 0, Ii n_1, .own 2 0, .bool (coding_1 == (3 : Int))] [Vb 53 (v_T_column_input x_1), Rb 24 3 []] hmix an ?_
  refine cd 106 (coding_1 == (3 : Int)) ?_ ?_
  rotate_left
  ·intro g_8; replace h := cond_f g_8 h
   refine rg [] [0, 9] [0, 2] 3 [Pp 0, .own 2 0] [Vb 53 [.sl false 1 (Mb x_1.b), .bool true], Rb 24 3 []] hmix an ?_
   cases h
   exact ⟨rfl, (sw [0, 2] [] [.s 0, .s 9] [.s 0, .s 1] an)⟩
  intro g_8; replace h := cond_t g_8 h
  refine sq ?_
  obtain ⟨r_6, h_13, h⟩ := bind_some h
  refine rg [(1, { av := Ii r_6.1, ids := [0], l := [Pp 0], post := [(.var 53 (v_T_column_input r_6.2))], pre := [(.var 53 (v_T_column_input x_1))] })] [0, 3, 9, 12] [0, 2] 3 [Pp 0, Ii n_1, .own 2 0, Ii r_6.1] [Vb 53 (v_T_column_input r_6.2), Rb 24 3 []] hmix (ar ([Pp 0] : List AV) (ac (rfl : ([Vb 53 (v_T_column_input x_1)] : List BoxSt) = [Vb 53 (v_T_column_input x_1)]) (ac (column_input_num_ok F x_1 r_6 h_13 : TripleG prog 41 [(.var 53 (v_T_column_input x_1))] [] [Pp 0] [(.var 53 (v_T_column_input r_6.2))] (Ii r_6.1)) an))) ?_
  refine sq ?_
  refine aw_mid (mk [(0, Pp 0), (3, Ii n_1), (9, .own 1 0), (12, Ii r_6.1)] [(0, Vb 53 [.sl false 1 (Mb r_6.2.b), .bool (r_6.2.bad || (decide (r_6.1 < (0 : Int)) || decide (r_6.1 > n_1)))]), (1, Rb 24 3 [])] 2) ?_ ?_
  ·rcases Bool.eq_false_or_eq_true r_6.2.bad with gg_136 | gg_136
   ·refine rg [(6, Hg), (7, Hg), (8, Ht), (10, Hg), (11, Hg), (12, Hg), (13, Ht)] [0, 3, 9, 12] [0, 2] 3 [Pp 0, Ii n_1, .own 2 0, Ii r_6.1] [Vb 53 [.sl false 1 (Mb r_6.2.b), .bool true], Rb 24 3 []] hmix (ac gg_136 (ac gg_136 (ac gg_136 (ax (ax (ax (ar true an))))))) ?_
    exact ⟨rfl, (sw [0, 2] [] [.s 0, .s 3, .s 9, .s 12] [.a 0 (Vb 53 [.sl false 1 (Mb r_6.2.b), .bool (r_6.2.bad || (decide (r_6.1 < (0 : Int)) || decide (r_6.1 > n_1)))]), .s 1] (ar 53 (ac (rfl : ones [.sl false 1 (Mb r_6.2.b), .bool (r_6.2.bad || (decide (r_6.1 < (0 : Int)) || decide (r_6.1 > n_1)))] = true) (ar 1 (ar ((Mb r_6.2.b) : List AV) (ac (rfl : (!false || false) = true) (ac (congrArg AV.bool (ort gg_136) : (.bool true : AV) = .bool (r_6.2.bad || (decide (r_6.1 < (0 : Int)) || decide (r_6.1 > n_1)))) an)))))))⟩
   ·rcases bft (decide (r_6.1 < (0 : Int))) with gg_137 | gg_137
    ·refine rg [(8, Hf), (10, Hg), (11, Hg), (12, Hg), (13, Ht)] [0, 3, 9, 12] [0, 2] 3 [Pp 0, Ii n_1, .own 2 0, Ii r_6.1] [Vb 53 [.sl false 1 (Mb r_6.2.b), .bool true], Rb 24 3 []] hmix (ac gg_136 (ac gg_136 (ac gg_136 (ac gg_137 (ac gg_137 (ac gg_137 (ac gg_137 an))))))) ?_
     exact ⟨rfl, (sw [0, 2] [] [.s 0, .s 3, .s 9, .s 12] [.a 0 (Vb 53 [.sl false 1 (Mb r_6.2.b), .bool (r_6.2.bad || (decide (r_6.1 < (0 : Int)) || decide (r_6.1 > n_1)))]), .s 1] (ar 53 (ac (rfl : ones [.sl false 1 (Mb r_6.2.b), .bool (r_6.2.bad || (decide (r_6.1 < (0 : Int)) || decide (r_6.1 > n_1)))] = true) (ar 1 (ar ((Mb r_6.2.b) : List AV) (ac (rfl : (!false || false) = true) (ac (congrArg AV.bool (orf gg_136 (ort gg_137)) : (.bool true : AV) = .bool (r_6.2.bad || (decide (r_6.1 < (0 : Int)) || decide (r_6.1 > n_1)))) an)))))))⟩
    ·refine rg [(8, Hf), (13, Hf)] [0, 3, 9, 12] [0, 2] 3 [Pp 0, Ii n_1, .own 2 0, Ii r_6.1] [Vb 53 [.sl false 1 (Mb r_6.2.b), .bool (decide (r_6.1 > n_1))], Rb 24 3 []] hmix (ac gg_136 (ac gg_136 (ac gg_136 (ac gg_137 (ac gg_137 (ac gg_137 (ac gg_137 an))))))) ?_
     exact ⟨rfl, (sw [0, 2] [] [.s 0, .s 3, .s 9, .s 12] [.a 0 (Vb 53 [.sl false 1 (Mb r_6.2.b), .bool (r_6.2.bad || (decide (r_6.1 < (0 : Int)) || decide (r_6.1 > n_1)))]), .s 1] (ar 53 (ac (rfl : ones [.sl false 1 (Mb r_6.2.b), .bool (r_6.2.bad || (decide (r_6.1 < (0 : Int)) || decide (r_6.1 > n_1)))] = true) (ar 1 (ar ((Mb r_6.2.b) : List AV) (ac (rfl : (!false || false) = true) (ac (congrArg AV.bool (orf gg_136 (orf gg_137 rfl)) : (.bool (decide (r_6.1 > n_1)) : AV) = .bool (r_6.2.bad || (decide (r_6.1 < (0 : Int)) || decide (r_6.1 > n_1)))) an)))))))⟩
  refine sr [(0, { id := 2, m := 1 })] [0, 3, 9, 12, 13] [0, 1, 2] 3 [Pp 0, Ii n_1, .own 1 0, Ii r_6.1, .own 2 0] [Vb 53 [.sl false 1 (Mb r_6.2.b), .bool (r_6.2.bad || (decide (r_6.1 < (0 : Int)) || decide (r_6.1 > n_1)))], Rb 24 3 [], Rb 24 3 []] hmix an ?_
  refine sq ?_
  obtain ⟨o_5, h_14, h⟩ := bind_some h
  refine aw_mid (mk [(0, Pp 0), (3, Ii n_1), (9, .own 1 0), (13, .own 2 ((o_5.2.2).length))] [(0, Vb 53 [.sl false 1 (Mb o_5.1), .bool o_5.2.1]), (1, Rb 24 3 []), (2, Rb 24 3 (Mp e_T_api_Value o_5.2.2))] 3) ?_ ?_
  ·replace h := h_14
   refine aw_block (id := 7) (by kernel_rfl) ?_
   refine wk [0, 1, 2] [] [.s 0, .s 3, .s 9, .s 12, .s 13] [.s 0, .s 1, .s 2] [(0, Pp 0), (3, Ii n_1), (9, .own 1 0), (12, Ii r_6.1), (13, .own 2 0)] [(0, Vb 53 [.sl false 1 (Mb r_6.2.b), .bool (r_6.2.bad || (decide (r_6.1 < (0 : Int)) || decide (r_6.1 > n_1)))]), (1, Rb 24 3 []), (2, Rb 24 3 [])] an ?_
   refine aw_loopF (fun n st => ∃ (c_7 : List Int), ∃ (c_8 : Bool), ∃ (row_4 : List T_api_Value), st = mk [(0, Pp 0), (3, Ii n_1), (9, .own 1 0), (12, Ii r_6.1), (13, .own 2 ((row_4).length))] [(0, Vb 53 [.sl false 1 (Mb c_7), .bool c_8]), (1, Rb 24 3 []), (2, Rb 24 3 (Mp e_T_api_Value row_4))] 3 ∧ column_input_values_L4 F r_6 n c_7 c_8 row_4 = some o_5) F (by kernel_rfl) ⟨_, _, _, rfl, h⟩ ?_ ?_
   ·rintro _ ⟨_, _, _, _, h⟩; exact none_ne (h : (none : Option ((List Int) × Bool × (List T_api_Value))) = some o_5)
   rintro n_5 _ ⟨c_7, c_8, row_4, rfl, h⟩
   replace h : column_input_values_L4_body F r_6 (column_input_values_L4 F r_6 n_5) c_7 c_8 row_4 = some o_5 := h
   unfold column_input_values_L4_body at h
   refine sq ?_
   refine sq ?_
   refine aw_mid (mk [(0, Pp 0), (3, Ii n_1), (9, .own 1 0), (12, Ii r_6.1), (13, .own 2 ((row_4).length)), (136, .bool (decide ((lN (row_4)) < r_6.1) && !c_8))] [(0, Vb 53 [.sl false 1 (Mb c_7), .bool c_8]), (1, Rb 24 3 []), (2, Rb 24 3 (Mp e_T_api_Value row_4))] 3) ?_ ?_
   ·rcases bft (decide ((lN (row_4)) < r_6.1)) with gg_141 | gg_141
    ·refine rg [(10, Ht)] [0, 3, 9, 12, 13, 131, 132, 133, 134, 135, 136] [0, 1, 2] 3 [Pp 0, Ii n_1, .own 1 0, Ii r_6.1, .own 2 ((row_4).length), Pp 0, Pp 0, .ptr 0 0 0 1, .bool c_8, .bool (!c_8), .bool (!c_8)] [Vb 53 [.sl false 1 (Mb c_7), .bool c_8], Rb 24 3 [], Rb 24 3 (Mp e_T_api_Value row_4)] hmix (ac gg_141 (ac gg_141 (ac gg_141 (ac gg_141 (ac gg_141 (ac gg_141 an)))))) ?_
     exact ⟨rfl, (sw [0, 1, 2] [] [.s 0, .s 3, .s 9, .s 12, .s 13, .a 136 (.bool (decide ((lN (row_4)) < r_6.1) && !c_8))] [.s 0, .s 1, .s 2] (ac (congrArg AV.bool (andt gg_141 rfl) : (.bool (!c_8) : AV) = .bool (decide ((lN (row_4)) < r_6.1) && !c_8)) an))⟩
    ·refine rg [(5, Hg), (6, Hg), (7, Hg), (8, Hg), (9, Hg), (10, Hf)] [0, 3, 9, 12, 13, 131, 132, 133, 134, 135, 136] [0, 1, 2] 3 [Pp 0, Ii n_1, .own 1 0, Ii r_6.1, .own 2 ((row_4).length), .tuple [], .tuple [], .tuple [], .tuple [], .tuple [], .bool false] [Vb 53 [.sl false 1 (Mb c_7), .bool c_8], Rb 24 3 [], Rb 24 3 (Mp e_T_api_Value row_4)] hmix (ac gg_141 (ac gg_141 (ac gg_141 (ac gg_141 (ac gg_141 (ac gg_141 an)))))) ?_
     exact ⟨rfl, (sw [0, 1, 2] [] [.s 0, .s 3, .s 9, .s 12, .s 13, .a 136 (.bool (decide ((lN (row_4)) < r_6.1) && !c_8))] [.s 0, .s 1, .s 2] (ac (congrArg AV.bool (andf gg_141) : (.bool false : AV) = .bool (decide ((lN (row_4)) < r_6.1) && !c_8)) an))⟩
   refine cd 136 (decide ((lN (row_4)) < r_6.1) && !c_8) ?_ ?_
   rotate_left
   ·intro g_9; replace h := cond_f g_9 h
    refine aw_exit (id := 7) (by kernel_rfl) ?_
    cases h
    exact ⟨rfl, (sw [0, 1, 2] [] [.s 0, .s 3, .s 9, .s 13] [.s 0, .s 1, .s 2] an)⟩
   intro g_9; replace h := cond_t g_9 h
   refine sk ?_
   refine aw_block (id := 8) (by kernel_rfl) ?_
   obtain ⟨r_7, h_15, h⟩ := bind_some h
   obtain ⟨_, h_16, h⟩ := bind_some h; replace h_16 := need_some h_16
   refine rg [(2, { av := e_T_api_Value r_7.1, ids := [0], l := [Pp 0], post := [(.var 53 (v_T_column_input r_7.2))], pre := [(.var 53 [.sl false 1 (Mb c_7), .bool c_8])] }), (3, { id := 3 }), (4, { id := 4, l := (Mp e_T_api_Value (row_4 ++ ([r_7.1] : List T_api_Value))), n := ((row_4 ++ ([r_7.1] : List T_api_Value))).length })] [0, 3, 9, 12, 13] [0, 1, 4] 5 [Pp 0, Ii n_1, .own 1 0, Ii r_6.1, .own 4 (((row_4 ++ ([r_7.1] : List T_api_Value))).length)] [Vb 53 (v_T_column_input r_7.2), Rb 24 3 [], Rb 24 3 (Mp e_T_api_Value (row_4 ++ ([r_7.1] : List T_api_Value)))] hmix (ar ([Pp 0] : List AV) (ac (rfl : ([Vb 53 [.sl false 1 (Mb c_7), .bool c_8]] : List BoxSt) = [Vb 53 [.sl false 1 (Mb c_7), .bool c_8]]) (ac (column_input_value_ok F (⟨c_7, c_8⟩ : T_column_input) r_7 h_15 : TripleG prog 40 [(.var 53 [.sl false 1 (Mb c_7), .bool c_8])] [] [Pp 0] [(.var 53 (v_T_column_input r_7.2))] (e_T_api_Value r_7.1)) (ac (by first | (simp; done) | (simp; omega) : (row_4).length = ((List.map e_T_api_Value row_4)).length) (ac (by first | (simp; done) | (simp; omega) : 1 = ((List.map e_T_api_Value ([r_7.1] : List T_api_Value))).length) (ac (vc_app _ _ : (Mp e_T_api_Value (row_4 ++ ([r_7.1] : List T_api_Value))) = (Mp e_T_api_Value row_4) ++ (Mp e_T_api_Value ([r_7.1] : List T_api_Value))) (ac (by simp : ((row_4 ++ ([r_7.1] : List T_api_Value))).length = ((List.map e_T_api_Value (row_4 ++ ([r_7.1] : List T_api_Value)))).length) (ac (by first | (simp; done) | simpa using h_16 : (((List.map e_T_api_Value row_4) : List AV).length + ((List.map e_T_api_Value ([r_7.1] : List T_api_Value)) : List AV).length) * 32 ≤ 140737488355328) an)))))))) ?_
   exact ⟨_, (sw [0, 1, 4] [] [.s 0, .s 3, .s 9, .s 12, .s 13] [.s 0, .s 1, .s 2] an), _, _, _, rfl, h⟩
  obtain ⟨o_6, h_17, h⟩ := bind_some h
  refine aw_mid (mk [(0, Pp 0), (9, .own 1 ((o_6.2.2).length))] [(0, Vb 53 [.sl false 1 (Mb o_6.1), .bool o_6.2.1]), (1, Rb 24 3 (Mp e_T_api_Value o_6.2.2))] 2) ?_ ?_
  ·replace h := h_17
   refine aw_block (id := 9) (by kernel_rfl) ?_
   refine wk [0, 1, 2] [] [.s 0, .s 3, .s 9, .s 13] [.s 0, .s 1, .s 2] [(0, Pp 0), (3, Ii n_1), (9, .own 1 0), (13, .own 2 ((o_5.2.2).length))] [(0, Vb 53 [.sl false 1 (Mb o_5.1), .bool o_5.2.1]), (1, Rb 24 3 []), (2, Rb 24 3 (Mp e_T_api_Value o_5.2.2))] an ?_
   refine aw_loopF (fun n st => ∃ (c_9 : List Int), ∃ (c_10 : Bool), ∃ (row_5 : List T_api_Value), st = mk [(0, Pp 0), (3, Ii n_1), (9, .own 1 ((row_5).length)), (13, .own 2 ((o_5.2.2).length))] [(0, Vb 53 [.sl false 1 (Mb c_9), .bool c_10]), (1, Rb 24 3 (Mp e_T_api_Value row_5)), (2, Rb 24 3 (Mp e_T_api_Value o_5.2.2))] 3 ∧ column_input_values_L5 F n_1 o_5 n c_9 c_10 row_5 = some o_6) F (by kernel_rfl) ⟨_, _, _, rfl, h⟩ ?_ ?_
   ·rintro _ ⟨_, _, _, _, h⟩; exact none_ne (h : (none : Option ((List Int) × Bool × (List T_api_Value))) = some o_6)
   rintro n_6 _ ⟨c_9, c_10, row_5, rfl, h⟩
   replace h : column_input_values_L5_body F n_1 o_5 (column_input_values_L5 F n_1 o_5 n_6) c_9 c_10 row_5 = some o_6 := h
   unfold column_input_values_L5_body at h
   refine sq ?_
   refine sq ?_
   refine aw_mid (mk [(0, Pp 0), (3, Ii n_1), (9, .own 1 ((row_5).length)), (13, .own 2 ((o_5.2.2).length)), (152, .bool (decide ((lN (row_5)) < n_1) && !c_10))] [(0, Vb 53 [.sl false 1 (Mb c_9), .bool c_10]), (1, Rb 24 3 (Mp e_T_api_Value row_5)), (2, Rb 24 3 (Mp e_T_api_Value o_5.2.2))] 3) ?_ ?_
   ·rcases bft (decide ((lN (row_5)) < n_1)) with gg_151 | gg_151
    ·refine rg [(10, Ht)] [0, 3, 9, 13, 147, 148, 149, 150, 151, 152] [0, 1, 2] 3 [Pp 0, Ii n_1, .own 1 ((row_5).length), .own 2 ((o_5.2.2).length), Pp 0, Pp 0, .ptr 0 0 0 1, .bool c_10, .bool (!c_10), .bool (!c_10)] [Vb 53 [.sl false 1 (Mb c_9), .bool c_10], Rb 24 3 (Mp e_T_api_Value row_5), Rb 24 3 (Mp e_T_api_Value o_5.2.2)] hmix (ac gg_151 (ac gg_151 (ac gg_151 (ac gg_151 (ac gg_151 (ac gg_151 an)))))) ?_
     exact ⟨rfl, (sw [0, 1, 2] [] [.s 0, .s 3, .s 9, .s 13, .a 152 (.bool (decide ((lN (row_5)) < n_1) && !c_10))] [.s 0, .s 1, .s 2] (ac (congrArg AV.bool (andt gg_151 rfl) : (.bool (!c_10) : AV) = .bool (decide ((lN (row_5)) < n_1) && !c_10)) an))⟩
    ·refine rg [(5, Hg), (6, Hg), (7, Hg), (8, Hg), (9, Hg), (10, Hf)] [0, 3, 9, 13, 147, 148, 149, 150, 151, 152] [0, 1, 2] 3 [Pp 0, Ii n_1, .own 1 ((row_5).length), .own 2 ((o_5.2.2).length), .tuple [], .tuple [], .tuple [], .tuple [], .tuple [], .bool false] [Vb 53 [.sl false 1 (Mb c_9), .bool c_10], Rb 24 3 (Mp e_T_api_Value row_5), Rb 24 3 (Mp e_T_api_Value o_5.2.2)] hmix (ac gg_151 (ac gg_151 (ac gg_151 (ac gg_151 (ac gg_151 (ac gg_151 an)))))) ?_
     exact ⟨rfl, (sw [0, 1, 2] [] [.s 0, .s 3, .s 9, .s 13, .a 152 (.bool (decide ((lN (row_5)) < n_1) && !c_10))] [.s 0, .s 1, .s 2] (ac (congrArg AV.bool (andf gg_151) : (.bool false : AV) = .bool (decide ((lN (row_5)) < n_1) && !c_10)) an))⟩
   refine cd 152 (decide ((lN (row_5)) < n_1) && !c_10) ?_ ?_
   rotate_left
   ·intro g_10; replace h := cond_f g_10 h
    refine aw_exit (id := 9) (by kernel_rfl) ?_
    cases h
    exact ⟨rfl, (sw [0, 1] [] [.s 0, .s 9] [.s 0, .s 1] an)⟩
   intro g_10; replace h := cond_t g_10 h
   refine sk ?_
   refine aw_block (id := 10) (by kernel_rfl) ?_
   refine sq ?_
   obtain ⟨r_8, h_18, h⟩ := bind_some h
   refine rg [(1, { av := Ii r_8.1, ids := [0], l := [Pp 0], post := [(.var 53 (v_T_column_input r_8.2))], pre := [(.var 53 [.sl false 1 (Mb c_9), .bool c_10])] })] [0, 3, 9, 13, 14] [0, 1, 2] 3 [Pp 0, Ii n_1, .own 1 ((row_5).length), .own 2 ((o_5.2.2).length), Ii r_8.1] [Vb 53 (v_T_column_input r_8.2), Rb 24 3 (Mp e_T_api_Value row_5), Rb 24 3 (Mp e_T_api_Value o_5.2.2)] hmix (ar ([Pp 0] : List AV) (ac (rfl : ([Vb 53 [.sl false 1 (Mb c_9), .bool c_10]] : List BoxSt) = [Vb 53 [.sl false 1 (Mb c_9), .bool c_10]]) (ac (column_input_num_ok F (⟨c_9, c_10⟩ : T_column_input) r_8 h_18 : TripleG prog 41 [(.var 53 [.sl false 1 (Mb c_9), .bool c_10])] [] [Pp 0] [(.var 53 (v_T_column_input r_8.2))] (Ii r_8.1)) an))) ?_
   refine sq ?_
   refine aw_mid (mk [(0, Pp 0), (3, Ii n_1), (9, .own 1 ((row_5).length)), (13, .own 2 ((o_5.2.2).length)), (14, Ii r_8.1)] [(0, Vb 53 [.sl false 1 (Mb r_8.2.b), .bool (r_8.2.bad || (decide (r_8.1 < (0 : Int)) || decide (r_8.1 ≥ (lN (o_5.2.2)))))]), (1, Rb 24 3 (Mp e_T_api_Value row_5)), (2, Rb 24 3 (Mp e_T_api_Value o_5.2.2))] 3) ?_ ?_
   ·rcases Bool.eq_false_or_eq_true r_8.2.bad with gg_152 | gg_152
    ·refine rg [(6, Hg), (7, Hg), (8, Ht), (10, Hg), (11, Hg), (12, Hg), (13, Hg), (14, Ht)] [0, 3, 9, 13, 14, 161, 162, 165, 166, 167, 168] [0, 1, 2] 3 [Pp 0, Ii n_1, .own 1 ((row_5).length), .own 2 ((o_5.2.2).length), Ii r_8.1, .tuple [], .tuple [], .tuple [], .tuple [], .tuple [], .tuple []] [Vb 53 [.sl false 1 (Mb r_8.2.b), .bool true], Rb 24 3 (Mp e_T_api_Value row_5), Rb 24 3 (Mp e_T_api_Value o_5.2.2)] hmix (ac gg_152 (ac gg_152 (ac gg_152 (ax (ax (ax (ax (ar true an)))))))) ?_
     exact ⟨rfl, (sw [0, 1, 2] [] [.s 0, .s 3, .s 9, .s 13, .s 14] [.a 0 (Vb 53 [.sl false 1 (Mb r_8.2.b), .bool (r_8.2.bad || (decide (r_8.1 < (0 : Int)) || decide (r_8.1 ≥ (lN (o_5.2.2)))))]), .s 1, .s 2] (ar 53 (ac (rfl : ones [.sl false 1 (Mb r_8.2.b), .bool (r_8.2.bad || (decide (r_8.1 < (0 : Int)) || decide (r_8.1 ≥ (lN (o_5.2.2)))))] = true) (ar 1 (ar ((Mb r_8.2.b) : List AV) (ac (rfl : (!false || false) = true) (ac (congrArg AV.bool (ort gg_152) : (.bool true : AV) = .bool (r_8.2.bad || (decide (r_8.1 < (0 : Int)) || decide (r_8.1 ≥ (lN (o_5.2.2)))))) an)))))))⟩
    ·rcases bft (decide (r_8.1 < (0 : Int))) with gg_153 | gg_153
     ·refine rg [(8, Hf), (10, Hg), (11, Hg), (12, Hg), (13, Hg), (14, Ht)] [0, 3, 9, 13, 14, 161, 162, 165, 166, 167, 168] [0, 1, 2] 3 [Pp 0, Ii n_1, .own 1 ((row_5).length), .own 2 ((o_5.2.2).length), Ii r_8.1, Ii r_8.1, .bool (decide (r_8.1 < (0 : Int))), .tuple [], .tuple [], .tuple [], .tuple []] [Vb 53 [.sl false 1 (Mb r_8.2.b), .bool true], Rb 24 3 (Mp e_T_api_Value row_5), Rb 24 3 (Mp e_T_api_Value o_5.2.2)] hmix (ac gg_152 (ac gg_152 (ac gg_152 (ac gg_153 (ac gg_153 (ac gg_153 (ac gg_153 (ac gg_153 an)))))))) ?_
      exact ⟨rfl, (sw [0, 1, 2] [] [.s 0, .s 3, .s 9, .s 13, .s 14] [.a 0 (Vb 53 [.sl false 1 (Mb r_8.2.b), .bool (r_8.2.bad || (decide (r_8.1 < (0 : Int)) || decide (r_8.1 ≥ (lN (o_5.2.2)))))]), .s 1, .s 2] (ar 53 (ac (rfl : ones [.sl false 1 (Mb r_8.2.b), .bool (r_8.2.bad || (decide (r_8.1 < (0 : Int)) || decide (r_8.1 ≥ (lN (o_5.2.2)))))] = true) (ar 1 (ar ((Mb r_8.2.b) : List AV) (ac (rfl : (!false || false) = true) (ac (congrArg AV.bool (orf gg_152 (ort gg_153)) : (.bool true : AV) = .bool (r_8.2.bad || (decide (r_8.1 < (0 : Int)) || decide (r_8.1 ≥ (lN (o_5.2.2)))))) an)))))))⟩
     ·refine rg [(8, Hf), (14, Hf)] [0, 3, 9, 13, 14, 161, 162, 165, 166, 167, 168] [0, 1, 2] 3 [Pp 0, Ii n_1, .own 1 ((row_5).length), .own 2 ((o_5.2.2).length), Ii r_8.1, Ii r_8.1, .bool (decide (r_8.1 < (0 : Int))), Ii r_8.1, .own 2 ((o_5.2.2).length), Ii (lN (o_5.2.2)), .bool (decide (r_8.1 ≥ (lN (o_5.2.2))))] [Vb 53 [.sl false 1 (Mb r_8.2.b), .bool (decide (r_8.1 ≥ (lN (o_5.2.2))))], Rb 24 3 (Mp e_T_api_Value row_5), Rb 24 3 (Mp e_T_api_Value o_5.2.2)] hmix (ac gg_152 (ac gg_152 (ac gg_152 (ac gg_153 (ac gg_153 (ac gg_153 (ac gg_153 (ac gg_153 an)))))))) ?_
      exact ⟨rfl, (sw [0, 1, 2] [] [.s 0, .s 3, .s 9, .s 13, .s 14] [.a 0 (Vb 53 [.sl false 1 (Mb r_8.2.b), .bool (r_8.2.bad || (decide (r_8.1 < (0 : Int)) || decide (r_8.1 ≥ (lN (o_5.2.2)))))]), .s 1, .s 2] (ar 53 (ac (rfl : ones [.sl false 1 (Mb r_8.2.b), .bool (r_8.2.bad || (decide (r_8.1 < (0 : Int)) || decide (r_8.1 ≥ (lN (o_5.2.2)))))] = true) (ar 1 (ar ((Mb r_8.2.b) : List AV) (ac (rfl : (!false || false) = true) (ac (congrArg AV.bool (orf gg_152 (orf gg_153 rfl)) : (.bool (decide (r_8.1 ≥ (lN (o_5.2.2)))) : AV) = .bool (r_8.2.bad || (decide (r_8.1 < (0 : Int)) || decide (r_8.1 ≥ (lN (o_5.2.2)))))) an)))))))⟩
   refine sr [] [0, 3, 9, 13, 14, 176] [0, 1, 2] 3 [Pp 0, Ii n_1, .own 1 ((row_5).length), .own 2 ((o_5.2.2).length), Ii r_8.1, .bool (!(r_8.2.bad || (decide (r_8.1 < (0 : Int)) || decide (r_8.1 ≥ (lN (o_5.2.2))))))] [Vb 53 [.sl false 1 (Mb r_8.2.b), .bool (r_8.2.bad || (decide (r_8.1 < (0 : Int)) || decide (r_8.1 ≥ (lN (o_5.2.2)))))], Rb 24 3 (Mp e_T_api_Value row_5), Rb 24 3 (Mp e_T_api_Value o_5.2.2)] hmix an ?_
   refine cd 176 (!(r_8.2.bad || (decide (r_8.1 < (0 : Int)) || decide (r_8.1 ≥ (lN (o_5.2.2)))))) ?_ ?_
   rotate_left
   ·intro g_11; replace h := cond_f g_11 h
    refine sk ?_
    exact ⟨_, (sw [0, 1, 2] [] [.s 0, .s 3, .s 9, .s 13] [.s 0, .s 1, .s 2] an), _, _, _, rfl, h⟩
   intro g_11; replace h := cond_t g_11 h
   obtain ⟨x_2, h_19, h⟩ := bind_some h
   obtain ⟨_, h_20, h⟩ := bind_some h; replace h_20 := need_some h_20
   refine rg [(4, { av := e_T_api_Value x_2 }), (5, { id := 3 }), (6, { id := 4, l := (Mp e_T_api_Value (row_5 ++ ([x_2] : List T_api_Value))), n := ((row_5 ++ ([x_2] : List T_api_Value))).length })] [0, 3, 9, 13] [0, 2, 4] 5 [Pp 0, Ii n_1, .own 4 (((row_5 ++ ([x_2] : List T_api_Value))).length), .own 2 ((o_5.2.2).length)] [Vb 53 [.sl false 1 (Mb r_8.2.b), .bool (r_8.2.bad || (decide (r_8.1 < (0 : Int)) || decide (r_8.1 ≥ (lN (o_5.2.2)))))], Rb 24 3 (Mp e_T_api_Value o_5.2.2), Rb 24 3 (Mp e_T_api_Value (row_5 ++ ([x_2] : List T_api_Value)))] hmix (ac (idxL_lo h_19 : (0 : Int) ≤ r_8.1) (ac (by first | (simp; done) | simpa using idxL_hi h_19 : r_8.1 < (((o_5.2.2).length : Nat) : Int)) (ac (vc_get h_19 : (Mp e_T_api_Value o_5.2.2)[(r_8.1).toNat]? = some (e_T_api_Value x_2)) (ac (by first | (simp; done) | (simp; omega) : (row_5).length = ((List.map e_T_api_Value row_5)).length) (ac (by first | (simp; done) | (simp; omega) : 1 = ((List.map e_T_api_Value ([x_2] : List T_api_Value))).length) (ac (vc_app _ _ : (Mp e_T_api_Value (row_5 ++ ([x_2] : List T_api_Value))) = (Mp e_T_api_Value row_5) ++ (Mp e_T_api_Value ([x_2] : List T_api_Value))) (ac (by simp : ((row_5 ++ ([x_2] : List T_api_Value))).length = ((List.map e_T_api_Value (row_5 ++ ([x_2] : List T_api_Value)))).length) (ac (by first | (simp; done) | simpa using h_20 : (((List.map e_T_api_Value row_5) : List AV).length + ((List.map e_T_api_Value ([x_2] : List T_api_Value)) : List AV).length) * 32 ≤ 140737488355328) an)))))))) ?_
   exact ⟨_, (sw [0, 4, 2] [] [.s 0, .s 3, .s 9, .s 13] [.s 0, .s 1, .s 2] an), _, _, _, rfl, h⟩
  cases h
  exact ⟨rfl, (sw [0, 1] [] [.s 0, .s 9] [.s 0, .s 1] an)⟩
 refine sq ?_
 refine aw_mid (mk [(9, .own 1 ((o_1.2.2).length))] [(0, Vb 53 [.sl false 1 (Mb o_1.1), .bool (o_1.2.1 || decide ((lN (o_1.1)) > (0 : Int)))]), (1, Rb 24 3 (Mp e_T_api_Value o_1.2.2))] 2) ?_ ?_
 ·rcases Bool.eq_false_or_eq_true o_1.2.1 with gg_154 | gg_154
  ·refine rg [(6, Hg), (7, Hg), (8, Hg), (9, Hg), (10, Hg), (11, Hg), (12, Ht)] [9] [0, 1] 2 [.own 1 ((o_1.2.2).length)] [Vb 53 [.sl false 1 (Mb o_1.1), .bool true], Rb 24 3 (Mp e_T_api_Value o_1.2.2)] hmix (ac gg_154 (ac gg_154 (ac gg_154 (ac gg_154 (ac gg_154 (ac gg_154 (ac gg_154 an))))))) ?_
   exact ⟨rfl, (sw [0, 1] [] [.s 9] [.a 0 (Vb 53 [.sl false 1 (Mb o_1.1), .bool (o_1.2.1 || decide ((lN (o_1.1)) > (0 : Int)))]), .s 1] (ar 53 (ac (rfl : ones [.sl false 1 (Mb o_1.1), .bool (o_1.2.1 || decide ((lN (o_1.1)) > (0 : Int)))] = true) (ar 1 (ar ((Mb o_1.1) : List AV) (ac (rfl : (!false || false) = true) (ac (congrArg AV.bool (ort gg_154) : (.bool true : AV) = .bool (o_1.2.1 || decide ((lN (o_1.1)) > (0 : Int)))) an)))))))⟩
  ·refine rg [(10, { n := (o_1.1).length }), (12, Hf)] [9] [0, 1] 2 [.own 1 ((o_1.2.2).length)] [Vb 53 [.sl false 1 (Mb o_1.1), .bool (decide ((lN (o_1.1)) > (0 : Int)))], Rb 24 3 (Mp e_T_api_Value o_1.2.2)] hmix (ac gg_154 (ac gg_154 (ac gg_154 (ac gg_154 (ac gg_154 (ac (vc_len _ : ((Mb o_1.1)).length = (o_1.1).length) (ac gg_154 (ac gg_154 an)))))))) ?_
   exact ⟨rfl, (sw [0, 1] [] [.s 9] [.a 0 (Vb 53 [.sl false 1 (Mb o_1.1), .bool (o_1.2.1 || decide ((lN (o_1.1)) > (0 : Int)))]), .s 1] (ar 53 (ac (rfl : ones [.sl false 1 (Mb o_1.1), .bool (o_1.2.1 || decide ((lN (o_1.1)) > (0 : Int)))] = true) (ar 1 (ar ((Mb o_1.1) : List AV) (ac (rfl : (!false || false) = true) (ac (congrArg AV.bool (orf gg_154 rfl) : (.bool (decide ((lN (o_1.1)) > (0 : Int))) : AV) = .bool (o_1.2.1 || decide ((lN (o_1.1)) > (0 : Int)))) an)))))))⟩
 refine sr [] [8] [0, 1] 2 [.own 1 ((o_1.2.2).length)] [Vb 53 [.sl false 1 (Mb o_1.1), .bool (o_1.2.1 || decide ((lN (o_1.1)) > (0 : Int)))], Rb 24 3 (Mp e_T_api_Value o_1.2.2)] hmix an ?_
 refine wk [0, 1] [] [.s 8] [.a 0 (Vb 53 (v_T_column_input (⟨o_1.1, (o_1.2.1 || decide ((lN (o_1.1)) > (0 : Int)))⟩ : T_column_input))), .s 1] [(8, .own 1 ((o_1.2.2).length))] [(0, Vb 53 (v_T_column_input (⟨o_1.1, (o_1.2.1 || decide ((lN (o_1.1)) > (0 : Int)))⟩ : T_column_input))), (1, Rb 24 3 (Mp e_T_api_Value o_1.2.2))] (ar 53 (ac (rfl : ones [.sl false 1 (Mb ((⟨o_1.1, (o_1.2.1 || decide ((lN (o_1.1)) > (0 : Int)))⟩ : T_column_input).b)), .bool ((⟨o_1.1, (o_1.2.1 || decide ((lN (o_1.1)) > (0 : Int)))⟩ : T_column_input).bad)] = true) (ar 1 (ac (rfl : ((Mb o_1.1) : List AV) = (Mb ((⟨o_1.1, (o_1.2.1 || decide ((lN (o_1.1)) > (0 : Int)))⟩ : T_column_input).b))) (ac (rfl : (!false || false) = true) (ac (rfl : (.bool (o_1.2.1 || decide ((lN (o_1.1)) > (0 : Int))) : AV) = .bool ((⟨o_1.1, (o_1.2.1 || decide ((lN (o_1.1)) > (0 : Int)))⟩ : T_column_input).bad)) an)))))) ?_
 refine rt ?_
 cases h
 exact ⟨.inr rfl, Nat.le_of_ble_eq_true rfl, by kernel_rfl⟩

theorem bytes_Equal_ok (a_1 : List (Int)) (b_1 : List (Int)) (r : Bool) (h : bytes_Equal a_1 b_1 = some r) : TripleG prog 32 [] [] [.sl false 1 (Mb a_1), .sl false 1 (Mb b_1)] [] (.bool r) := by
 refine triple_intro (fn := Go.Proofs.Try.f32) (code := codeOf Go.Proofs.Try.f32) (by kernel_rfl) (by kernel_rfl) (Nat.le_of_ble_eq_true (by kernel_rfl)) ?_
 unfold bytes_Equal at h
 refine sr [] [0, 1] [] 0 [.sl false 1 (Mb a_1), .sl false 1 (Mb b_1)] [] hmix an ?_
 refine sr [(1, { s := a_1 }), (3, { s := b_1 })] [4] [] 0 [.bool (a_1 == b_1)] [] hmix (ac (rfl : (Mb a_1) = List.map (AV.int .u8) a_1) (ac (rfl : (Mb b_1) = List.map (AV.int .u8) b_1) an)) ?_
 refine rt ?_
 cases h
 exact ⟨.inr rfl, Nat.le_of_ble_eq_true rfl, by kernel_rfl⟩

theorem column_Decode_ok (F : Nat) (p_1 : T_api_Packed) (r : (List (T_api_Value)) × Int) (h : column_Decode F p_1 = some r) : TripleG prog 14 [] [] [e_T_api_Packed p_1] [] (.tuple [.sl false 3 (Mp e_T_api_Value r.1), Ii r.2]) := by
 refine triple_intro (fn := Go.Proofs.Try.f14) (code := codeOf Go.Proofs.Try.f14) (by kernel_rfl) (by kernel_rfl) (Nat.le_of_ble_eq_true (by kernel_rfl)) ?_
 unfold column_Decode at h
 refine sr [(0, { id := 0 })] [1] [0] 1 [Pp 0] [Vb 33 (v_T_api_Packed p_1)] hmix an ?_
 refine sq ?_
 refine sq ?_
 obtain ⟨r_1, h_1, h⟩ := bind_some h
 refine rg [(2, { av := Ii r_1, l := [Ii p_1.Type_] })] [1, 4] [0] 1 [Pp 0, Ii r_1] [Vb 33 (v_T_api_Packed p_1)] hmix (ar ([Ii p_1.Type_] : List AV) (ac (rfl : ([] : List BoxSt) = []) (ac (column_known_ok p_1.Type_ r_1 h_1 : TripleG prog 22 [] [] [Ii p_1.Type_] [] (Ii r_1)) an))) ?_
 refine sr [] [1, 4, 13] [0] 1 [Pp 0, Ii r_1, .bool (r_1 != (0 : Int))] [Vb 33 (v_T_api_Packed p_1)] hmix an ?_
 refine cd 13 (r_1 != (0 : Int)) ?_ ?_
 ·intro g_1; replace h := cond_t g_1 h
  refine sr [] [2, 3] [] 1 [.nilsl, Ii r_1] [] hmix an ?_
  refine wk [] [] [.a 2 (.sl false 3 []), .s 3] [] [(2, .sl false 3 []), (3, Ii r_1)] [] (ar ([] : List AV) an) ?_
  refine rt ?_
  cases h
  exact ⟨.inr rfl, Nat.le_of_ble_eq_true rfl, by kernel_rfl⟩
 intro g_1; replace h := cond_f g_1 h
 refine sk ?_
 refine sq ?_
 refine sr [] [1, 17] [0] 1 [Pp 0, .bool (decide (p_1.N > (20000 : Int)))] [Vb 33 (v_T_api_Packed p_1)] hmix an ?_
 refine cd 17 (decide (p_1.N > (20000 : Int))) ?_ ?_
 ·intro g_2; replace h := cond_t g_2 h
  refine sr [] [2, 3] [] 1 [.nilsl, Ii 7] [] hmix an ?_
  refine wk [] [] [.a 2 (.sl false 3 []), .s 3] [] [(2, .sl false 3 []), (3, Ii 7)] [] (ar ([] : List AV) an) ?_
  refine rt ?_
  cases h
  exact ⟨.inr rfl, Nat.le_of_ble_eq_true rfl, by kernel_rfl⟩
 intro g_2; replace h := cond_f g_2 h
 refine sk ?_
 refine sq ?_
 refine sq ?_
 refine aw_mid (mk [(1, Pp 0), (26, .bool (decide (p_1.N < (0 : Int)) || ((lN (p_1.Bytes)) == (0 : Int))))] [(0, Vb 33 (v_T_api_Packed p_1))] 1) ?_ ?_
 ·rcases bft (decide (p_1.N < (0 : Int))) with gg_4 | gg_4
  ·refine rg [(4, Hg), (5, Hg), (6, Hg), (7, Hg), (8, Ht)] [1, 26] [0] 1 [Pp 0, .bool true] [Vb 33 (v_T_api_Packed p_1)] hmix (ac gg_4 (ac gg_4 (ac gg_4 (ac gg_4 (ac gg_4 an))))) ?_
   exact ⟨rfl, (sw [0] [] [.s 1, .a 26 (.bool (decide (p_1.N < (0 : Int)) || ((lN (p_1.Bytes)) == (0 : Int))))] [.s 0] (ac (congrArg AV.bool (ort gg_4) : (.bool true : AV) = .bool (decide (p_1.N < (0 : Int)) || ((lN (p_1.Bytes)) == (0 : Int)))) an))⟩
  ·refine rg [(6, { n := (p_1.Bytes).length }), (8, Hf)] [1, 26] [0] 1 [Pp 0, .bool ((lN (p_1.Bytes)) == (0 : Int))] [Vb 33 (v_T_api_Packed p_1)] hmix (ac gg_4 (ac gg_4 (ac gg_4 (ac (vc_len _ : ((Mb p_1.Bytes)).length = (p_1.Bytes).length) (ac gg_4 (ac gg_4 an)))))) ?_
   exact ⟨rfl, (sw [0] [] [.s 1, .a 26 (.bool (decide (p_1.N < (0 : Int)) || ((lN (p_1.Bytes)) == (0 : Int))))] [.s 0] (ac (congrArg AV.bool (orf gg_4 rfl) : (.bool ((lN (p_1.Bytes)) == (0 : Int)) : AV) = .bool (decide (p_1.N < (0 : Int)) || ((lN (p_1.Bytes)) == (0 : Int)))) an))⟩
 refine cd 26 (decide (p_1.N < (0 : Int)) || ((lN (p_1.Bytes)) == (0 : Int))) ?_ ?_
 ·intro g_3; replace h := cond_t g_3 h
  refine sr [] [2, 3] [] 1 [.nilsl, Ii 10] [] hmix an ?_
  refine wk [] [] [.a 2 (.sl false 3 []), .s 3] [] [(2, .sl false 3 []), (3, Ii 10)] [] (ar ([] : List AV) an) ?_
  refine rt ?_
  cases h
  exact ⟨.inr rfl, Nat.le_of_ble_eq_true rfl, by kernel_rfl⟩
 intro g_3; replace h := cond_f g_3 h
 refine sk ?_
 refine sq ?_
 obtain ⟨_, h_2, h⟩ := bind_some h; replace h_2 := need_some h_2
 refine rg [(2, { l := (Mb (sub p_1.Bytes (1 : Int) (lN (p_1.Bytes)))) }), (4, { id := 1 })] [1, 5] [0, 1] 2 [Pp 0, Pp 1] [Vb 33 (v_T_api_Packed p_1), Vb 53 [.sl false 1 (Mb (sub p_1.Bytes (1 : Int) (lN (p_1.Bytes)))), .bool false]] hmix (ac (by decide : (0 : Int) ≤ (1 : Int)) (ac (vc_lenle h_2 : (1 : Int) ≤ (lN ((Mb p_1.Bytes)))) (ac (Int.le_refl _ : (lN ((Mb p_1.Bytes))) ≤ (lN ((Mb p_1.Bytes)))) (ac (vc_subn _ _ : (Mb (sub p_1.Bytes (1 : Int) (lN (p_1.Bytes)))) = (((Mb p_1.Bytes)).take ((lN ((Mb p_1.Bytes)))).toNat).drop ((1 : Int)).toNat) an)))) ?_
 refine sq ?_
 obtain ⟨x_1, h_3, h⟩ := bind_some h
 obtain ⟨r_2, h_4, h⟩ := bind_some h
 refine rg [(3, { av := Iu x_1 }), (9, { av := .own 1 ((r_2.1).length), ids := [1, 2], l := [Pp 0, Iu x_1, Ii p_1.Type_, Ii p_1.N], post := [(.var 53 (v_T_column_input r_2.2)), (.row 24 3 (Mp e_T_api_Value r_2.1))], pre := [(.var 53 [.sl false 1 (Mb (sub p_1.Bytes (1 : Int) (lN (p_1.Bytes)))), .bool false])] })] [1, 5, 6] [0, 1, 2] 3 [Pp 0, Pp 1, .own 2 ((r_2.1).length)] [Vb 33 (v_T_api_Packed p_1), Vb 53 (v_T_column_input r_2.2), Rb 24 3 (Mp e_T_api_Value r_2.1)] hmix (ac (vc_idx h_3 : idxA (Mb p_1.Bytes) (0 : Int) = some (Iu x_1)) (ar ([Pp 1, Iu x_1, Ii p_1.Type_, Ii p_1.N] : List AV) (ac (rfl : ([Vb 53 [.sl false 1 (Mb (sub p_1.Bytes (1 : Int) (lN (p_1.Bytes)))), .bool false]] : List BoxSt) = [Vb 53 [.sl false 1 (Mb (sub p_1.Bytes (1 : Int) (lN (p_1.Bytes)))), .bool false]]) (ac (column_input_values_ok F (⟨sub p_1.Bytes (1 : Int) (lN (p_1.Bytes)), false⟩ : T_column_input) x_1 p_1.Type_ p_1.N r_2 h_4 : TripleG prog 31 [(.var 53 [.sl false 1 (Mb (sub p_1.Bytes (1 : Int) (lN (p_1.Bytes)))), .bool false])] [] [Pp 0, Iu x_1, Ii p_1.Type_, Ii p_1.N] [(.var 53 (v_T_column_input r_2.2)), (.row 24 3 (Mp e_T_api_Value r_2.1))] (.own 1 ((r_2.1).length))) an)))) ?_
 refine sq ?_
 refine sr [] [1, 6, 45] [0, 2] 3 [Pp 0, .own 2 ((r_2.1).length), .bool r_2.2.bad] [Vb 33 (v_T_api_Packed p_1), Rb 24 3 (Mp e_T_api_Value r_2.1)] hmix an ?_
 refine cd 45 r_2.2.bad ?_ ?_
 ·intro g_4; replace h := cond_t g_4 h
  refine sr [] [2, 3] [] 3 [.nilsl, Ii 10] [] hmix an ?_
  refine wk [] [] [.a 2 (.sl false 3 []), .s 3] [] [(2, .sl false 3 []), (3, Ii 10)] [] (ar ([] : List AV) an) ?_
  refine rt ?_
  cases h
  exact ⟨.inr rfl, Nat.le_of_ble_eq_true rfl, by kernel_rfl⟩
 intro g_4; replace h := cond_f g_4 h
 refine sk ?_
 refine sq ?_
 refine wk [0] [2] [.s 1, .a 6 (.sl false 3 (Mp e_T_api_Value r_2.1))] [.s 0] [(1, Pp 0), (6, .sl false 3 (Mp e_T_api_Value r_2.1))] [(0, Vb 33 (v_T_api_Packed p_1))] (ac (by first | (simp; done) | (simp; omega) : (r_2.1).length = ((List.map e_T_api_Value r_2.1)).length) (ar 3 (ar ((Mp e_T_api_Value r_2.1) : List AV) (ac (rfl : (!false || false) = true) an)))) ?_
 obtain ⟨r_3, h_5, h⟩ := bind_some h
 refine rg [(3, { av := .tuple [e_T_api_Packed r_3.1, Ii r_3.2], l := [Ii p_1.Type_, .sl false 3 (Mp e_T_api_Value r_2.1)] }), (7, { id := 1 })] [1, 6, 7, 8] [0, 1] 2 [Pp 0, .sl false 3 (Mp e_T_api_Value r_2.1), Pp 1, Ii r_3.2] [Vb 33 (v_T_api_Packed p_1), Vb 33 (v_T_api_Packed r_3.1)] hmix (ar ([Ii p_1.Type_, .sl false 3 (Mp e_T_api_Value r_2.1)] : List AV) (ac (rfl : ([] : List BoxSt) = []) (ac (column_Encode_ok F p_1.Type_ r_2.1 r_3 h_5 : TripleG prog 12 [] [] [Ii p_1.Type_, .sl false 3 (Mp e_T_api_Value r_2.1)] [] (.tuple [e_T_api_Packed r_3.1, Ii r_3.2])) an))) ?_
 refine sq ?_
 refine sq ?_
 obtain ⟨p_2, h_7, h⟩ := bind_some h
 refine aw_mid (mk [(6, .sl false 3 (Mp e_T_api_Value r_2.1)), (69, .bool p_2)] [] 0) ?_ ?_
 ·replace h := h_7
  rcases bft (r_3.2 != (0 : Int)) with gg_5 | gg_5
  ·replace h := cond_t gg_5 h
   refine rg [(3, Hg), (4, Hg), (5, Hg), (6, Hg), (7, Hg), (8, Ht), (10, Hg), (11, Hg), (12, Hg), (13, Hg), (14, Hg), (15, Hg), (16, Ht)] [6, 69] [] 2 [.sl false 3 (Mp e_T_api_Value r_2.1), .bool true] [] hmix (ac gg_5 (ac gg_5 (ac gg_5 (ac gg_5 (ac gg_5 (ac gg_5 (ax (ax (ax (ax (ax (ax (ar true an))))))))))))) ?_
   cases h
   exact ⟨rfl, (sw [] [] [.s 6, .s 69] [] an)⟩
  ·replace h := cond_f gg_5 h
   rcases bft (r_3.1.N != p_1.N) with gg_6 | gg_6
   ·replace h := cond_t gg_6 h
    refine rg [(8, Hf), (10, Hg), (11, Hg), (12, Hg), (13, Hg), (14, Hg), (15, Hg), (16, Ht)] [6, 69] [] 2 [.sl false 3 (Mp e_T_api_Value r_2.1), .bool true] [] hmix (ac gg_5 (ac gg_5 (ac gg_5 (ac gg_5 (ac gg_5 (ac gg_5 (ac gg_6 (ac gg_6 (ac gg_6 (ac gg_6 (ac gg_6 (ac gg_6 (ac gg_6 an))))))))))))) ?_
    cases h
    exact ⟨rfl, (sw [] [] [.s 6, .s 69] [] an)⟩
   ·replace h := cond_f gg_6 h
    obtain ⟨r_4, h_6, h⟩ := bind_some h
    refine rg [(8, Hf), (14, { av := .bool r_4, l := [.sl false 1 (Mb r_3.1.Bytes), .sl false 1 (Mb p_1.Bytes)] }), (16, Hf)] [6, 69] [] 2 [.sl false 3 (Mp e_T_api_Value r_2.1), .bool (!r_4)] [] hmix (ac gg_5 (ac gg_5 (ac gg_5 (ac gg_5 (ac gg_5 (ac gg_5 (ac gg_6 (ac gg_6 (ac gg_6 (ac gg_6 (ac gg_6 (ar ([.sl false 1 (Mb r_3.1.Bytes), .sl false 1 (Mb p_1.Bytes)] : List AV) (ac (rfl : ([] : List BoxSt) = []) (ac (bytes_Equal_ok r_3.1.Bytes p_1.Bytes r_4 h_6 : TripleG prog 32 [] [] [.sl false 1 (Mb r_3.1.Bytes), .sl false 1 (Mb p_1.Bytes)] [] (.bool r_4)) (ac gg_6 (ac gg_6 an)))))))))))))))) ?_
    cases h
    exact ⟨rfl, (sw [] [] [.s 6, .s 69] [] an)⟩
 refine cd 69 p_2 ?_ ?_
 ·intro g_5; replace h := cond_t g_5 h
  refine sr [] [2, 3] [] 0 [.nilsl, Ii 10] [] hmix an ?_
  refine wk [] [] [.a 2 (.sl false 3 []), .s 3] [] [(2, .sl false 3 []), (3, Ii 10)] [] (ar ([] : List AV) an) ?_
  refine rt ?_
  cases h
  exact ⟨.inr rfl, Nat.le_of_ble_eq_true rfl, by kernel_rfl⟩
 intro g_5; replace h := cond_f g_5 h
 refine sk ?_
 refine sr [] [2, 3] [] 0 [.sl false 3 (Mp e_T_api_Value r_2.1), Ii 0] [] hmix an ?_
 refine rt ?_
 cases h
 exact ⟨.inr rfl, Nat.le_of_ble_eq_true rfl, by kernel_rfl⟩

theorem column_Coding_ok (F : Nat) (p_1 : T_api_Packed) (r : Int × Int) (h : column_Coding F p_1 = some r) : TripleG prog 15 [] [] [e_T_api_Packed p_1] [] (.tuple [Ii r.1, Ii r.2]) := by
 refine triple_intro (fn := Go.Proofs.Try.f15) (code := codeOf Go.Proofs.Try.f15) (by kernel_rfl) (by kernel_rfl) (Nat.le_of_ble_eq_true (by kernel_rfl)) ?_
 unfold column_Coding at h
 refine sr [(0, { id := 0 })] [1] [0] 1 [Pp 0] [Vb 33 (v_T_api_Packed p_1)] hmix an ?_
 refine sq ?_
 refine sq ?_
 obtain ⟨r_1, h_1, h⟩ := bind_some h
 refine rg [(1, { av := .tuple [.sl false 3 (Mp e_T_api_Value r_1.1), Ii r_1.2], l := [e_T_api_Packed p_1] })] [1, 5] [0] 1 [Pp 0, Ii r_1.2] [Vb 33 (v_T_api_Packed p_1)] hmix (ar ([e_T_api_Packed p_1] : List AV) (ac (rfl : ([] : List BoxSt) = []) (ac (column_Decode_ok F p_1 r_1 h_1 : TripleG prog 14 [] [] [e_T_api_Packed p_1] [] (.tuple [.sl false 3 (Mp e_T_api_Value r_1.1), Ii r_1.2])) an))) ?_
 refine sr [] [1, 5, 12] [0] 1 [Pp 0, Ii r_1.2, .bool (r_1.2 != (0 : Int))] [Vb 33 (v_T_api_Packed p_1)] hmix an ?_
 refine cd 12 (r_1.2 != (0 : Int)) ?_ ?_
 ·intro g_1; replace h := cond_t g_1 h
  refine sr [] [2, 3] [] 1 [Ii 0, Ii r_1.2] [] hmix an ?_
  refine rt ?_
  cases h
  exact ⟨.inr rfl, Nat.le_of_ble_eq_true rfl, by kernel_rfl⟩
 intro g_1; replace h := cond_f g_1 h
 refine sk ?_
 refine sq ?_
 obtain ⟨x_1, h_2, h⟩ := bind_some h
 refine rg [(2, { av := Iu x_1 })] [2, 3] [] 1 [Ii (w_i64 x_1), Ii 0] [] hmix (ac (vc_idx h_2 : idxA (Mb p_1.Bytes) (0 : Int) = some (Iu x_1)) an) ?_
 refine rt ?_
 cases h
 exact ⟨.inr rfl, Nat.le_of_ble_eq_true rfl, by kernel_rfl⟩

end Go.Ab
