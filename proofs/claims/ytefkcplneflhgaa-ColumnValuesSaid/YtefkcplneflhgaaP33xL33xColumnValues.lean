/- Printed: the typed Lean functions of the Go functions, or the proofs that the Go functions meet them. No conditions but those that the theorems name. -/
import Derived.Test.YtefkcplneflhgaaP33x3
namespace Go.Ab
open Go
set_option linter.unusedVariables false
theorem L33_ColumnValues_ok (F : Nat) (k_1 : Int) (a_1 : T_api_Value) (r : Bool) (h : L33_ColumnValues F k_1 a_1 = some r) : TripleG prog 3 [] [] [.int .i64 k_1, e_T_api_Value a_1] [] (.bool r) := by
  refine triple_intro (fn := Go.Proofs.Try.f3) (code := codeOf Go.Proofs.Try.f3) (by kernel_rfl) (by kernel_rfl) (Nat.le_of_ble_eq_true (by kernel_rfl)) ?_
  unfold L33_ColumnValues at h
  refine aw_seq (by kernel_rfl) ?_
  refine aw_region [(0, { id := 0 })] [0, 3] [0] 1 (vals := [.int .i64 k_1, .ptr 0 0 0 0]) (bxs := [.live (.var 24 (v_T_api_Value a_1))]) (by kernel_rfl) hmix an ?_
  refine aw_seq (by kernel_rfl) ?_
  obtain ⟨p_1, h_4, h⟩ := bind_some h
  refine aw_mid (mk [(4, .bool p_1)] [] 0) ?_ ?_
  · replace h := h_4
    rcases Bool.eq_false_or_eq_true (decide ((((a_1.S).length : Nat) : Int) > (300 : Int))) with gg_1 | gg_1
    · replace h := cond_t gg_1 h
      refine aw_region [(5, { g := false }), (6, { g := false }), (7, { g := false }), (8, { g := false }), (9, { g := false }), (10, { g := false }), (11, { g := false }), (12, { g := false }), (14, { g := false }), (15, { b := true })] [4] [] 1 (vals := [.bool true]) (bxs := []) (by kernel_rfl) hmix (ac gg_1 (ac gg_1 (ac gg_1 (ac gg_1 (ac gg_1 (ac gg_1 (ac gg_1 (ac gg_1 (ac gg_1 (ac gg_1 an)))))))))) ?_
      replace h := Option.some.inj h; subst h
      exact ⟨rfl, (sub_wkm [] [] [.s 4] [] (by kernel_rfl) an)⟩
    · replace h := cond_f gg_1 h
      obtain ⟨r_1, h_1, h⟩ := bind_some h
      obtain ⟨r_2, h_2, h⟩ := bind_some h
      rcases Bool.eq_false_or_eq_true (r_1 == r_2) with gg_2 | gg_2
      · replace h := cond_t gg_2 h
        obtain ⟨r_3, h_3, h⟩ := bind_some h
        refine aw_region [(7, { av := .int .i64 r_1, l := [.int .i64 k_1, e_T_api_Value a_1] }), (10, { av := .int .i64 r_2, l := [.int .i64 k_1, e_T_api_Value a_1] }), (13, { av := .bool r_3, l := [] }), (14, { b := true }), (15, { b := false })] [4] [] 1 (vals := [.bool r_3]) (bxs := []) (by kernel_rfl) hmix (ac gg_1 (ac gg_1 (ac gg_1 (ac (rfl : ([.int .i64 k_1, e_T_api_Value a_1] : List AV) = [.int .i64 k_1, e_T_api_Value a_1]) (ac (rfl : ([] : List BoxSt) = []) (ac (column_Value_ok k_1 a_1 r_1 h_1 : TripleG prog 8 [] [] [.int .i64 k_1, e_T_api_Value a_1] [] (.int .i64 r_1)) (ac gg_1 (ac gg_1 (ac gg_1 (ac (rfl : ([.int .i64 k_1, e_T_api_Value a_1] : List AV) = [.int .i64 k_1, e_T_api_Value a_1]) (ac (rfl : ([] : List BoxSt) = []) (ac (R33_Value_ok k_1 a_1 r_2 h_2 : TripleG prog 9 [] [] [.int .i64 k_1, e_T_api_Value a_1] [] (.int .i64 r_2)) (ac gg_1 (ac gg_1 (ac gg_2 (ac (rfl : ([] : List AV) = []) (ac (rfl : ([] : List BoxSt) = []) (ac (L33_awake_ok F r_3 h_3 : TripleG prog 10 [] [] [] [] (.bool r_3)) (ac gg_1 (ac gg_2 (ac gg_1 an))))))))))))))))))))) ?_
        replace h := Option.some.inj h; subst h
        exact ⟨rfl, (sub_wkm [] [] [.s 4] [] (by kernel_rfl) an)⟩
      · replace h := cond_f gg_2 h
        refine aw_region [(7, { av := .int .i64 r_1, l := [.int .i64 k_1, e_T_api_Value a_1] }), (10, { av := .int .i64 r_2, l := [.int .i64 k_1, e_T_api_Value a_1] }), (13, { g := false }), (14, { b := false }), (15, { b := false })] [4] [] 1 (vals := [.bool false]) (bxs := []) (by kernel_rfl) hmix (ac gg_1 (ac gg_1 (ac gg_1 (ac (rfl : ([.int .i64 k_1, e_T_api_Value a_1] : List AV) = [.int .i64 k_1, e_T_api_Value a_1]) (ac (rfl : ([] : List BoxSt) = []) (ac (column_Value_ok k_1 a_1 r_1 h_1 : TripleG prog 8 [] [] [.int .i64 k_1, e_T_api_Value a_1] [] (.int .i64 r_1)) (ac gg_1 (ac gg_1 (ac gg_1 (ac (rfl : ([.int .i64 k_1, e_T_api_Value a_1] : List AV) = [.int .i64 k_1, e_T_api_Value a_1]) (ac (rfl : ([] : List BoxSt) = []) (ac (R33_Value_ok k_1 a_1 r_2 h_2 : TripleG prog 9 [] [] [.int .i64 k_1, e_T_api_Value a_1] [] (.int .i64 r_2)) (ac gg_1 (ac gg_1 (ac gg_2 (ac gg_1 (ac gg_2 (ac gg_1 an)))))))))))))))))) ?_
        replace h := Option.some.inj h; subst h
        exact ⟨rfl, (sub_wkm [] [] [.s 4] [] (by kernel_rfl) an)⟩
  refine aw_ret (by kernel_rfl) ?_
  replace h := Option.some.inj h; subst h
  exact ⟨.inr rfl, Nat.le_of_ble_eq_true rfl, by kernel_rfl⟩

end Go.Ab
