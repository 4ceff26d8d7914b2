/- Printed: the typed Lean functions of the Go functions, or the proofs that the Go functions meet them. No conditions but those that the theorems name. -/
import Derived.Test.YtollmoogggcmaaaP08xD
import Derived.Test.YtollmoogggcmaaaProg
namespace Go.Ab
open Go
set_option linter.unusedVariables false
noncomputable abbrev prog := Go.Proofs.Try.prog
theorem hmix : prog.follows .mixedOrders = true := by kernel_rfl
theorem ext_67 : ExtIdx prog 67 := ⟨_, Go.Proofs.Try.func67, by kernel_rfl, by kernel_rfl, by kernel_rfl, by kernel_rfl⟩
theorem keyOk_9 : KeyOk prog 9 false [.str] := keyOk_str (by kernel_rfl)
theorem keyOk_67 : KeyOk prog 67 true [.int .i64, .int .i64] := keyOk_agg (by kernel_rfl) (by kernel_rfl) (by kernel_rfl) (by kernel_rfl)
theorem inj_Arr2_Int : ∀ a b : Arr2_Int, e_Arr2_Int a = e_Arr2_Int b → a = b := by
  intro a b h
  cases a; cases b; simpa [e_Arr2_Int, v_Arr2_Int] using h
theorem eqOk_67 : EqOk prog 67 [.int .i64, .int .i64] := eqOk_agg keyOk_67 (by kernel_rfl) (by kernel_rfl)

theorem L08_short_ok (e_1 : T_api_Event) (r : Bool) (h : L08_short e_1 = some r) : TripleG prog 9 [] [] [e_T_api_Event e_1] [] (.bool r) := by
  refine triple_intro (fn := Go.Proofs.Try.f9) (code := codeOf Go.Proofs.Try.f9) (by kernel_rfl) (by kernel_rfl) (Nat.le_of_ble_eq_true (by kernel_rfl)) ?_
  unfold L08_short at h
  refine aw_seq (by kernel_rfl) ?_
  refine aw_region [(0, { id := 0 })] [1] [0] 1 (vals := [.ptr 0 0 0 0]) (bxs := [.live (.var 28 (v_T_api_Event e_1))]) (by kernel_rfl) hmix an ?_
  refine aw_seq (by kernel_rfl) ?_
  refine aw_region [(2, { n := (e_1.Stack).length })] [2] [] 1 (vals := [.bool (decide ((((e_1.Stack).length : Nat) : Int) ≤ (40 : Int)))]) (bxs := []) (by kernel_rfl) hmix (ac (vc_len _ : ((List.map AV.str e_1.Stack)).length = (e_1.Stack).length) an) ?_
  refine aw_ret (by kernel_rfl) ?_
  replace h := Option.some.inj h; subst h
  exact ⟨.inr rfl, Nat.le_of_ble_eq_true rfl, by kernel_rfl⟩

theorem stringslite_IndexByte_ok (s_1 : List Int) (c_1 : Int) (r : Int) (h : stringslite_IndexByte s_1 c_1 = some r) : TripleG prog 66 [] [] [.str s_1, .int .u8 c_1] [] (.int .i64 r) := by
  refine triple_intro (fn := Go.Proofs.Try.f66) (code := codeOf Go.Proofs.Try.f66) (by kernel_rfl) (by kernel_rfl) (Nat.le_of_ble_eq_true (by kernel_rfl)) ?_
  unfold stringslite_IndexByte at h
  refine aw_seq (by kernel_rfl) ?_
  refine aw_region [] [0, 1] [] 0 (vals := [.str s_1, .int .u8 c_1]) (bxs := []) (by kernel_rfl) hmix an ?_
  refine aw_seq (by kernel_rfl) ?_
  refine aw_region [] [4] [] 0 (vals := [.int .i64 (idxByte s_1 c_1)]) (bxs := []) (by kernel_rfl) hmix (ac (ext_67 : ExtIdx prog 67) an) ?_
  refine aw_ret (by kernel_rfl) ?_
  replace h := Option.some.inj h; subst h
  exact ⟨.inr rfl, Nat.le_of_ble_eq_true rfl, by kernel_rfl⟩

theorem strings_IndexByte_ok (s_1 : List Int) (c_1 : Int) (r : Int) (h : strings_IndexByte s_1 c_1 = some r) : TripleG prog 65 [] [] [.str s_1, .int .u8 c_1] [] (.int .i64 r) := by
  refine triple_intro (fn := Go.Proofs.Try.f65) (code := codeOf Go.Proofs.Try.f65) (by kernel_rfl) (by kernel_rfl) (Nat.le_of_ble_eq_true (by kernel_rfl)) ?_
  unfold strings_IndexByte at h
  refine aw_seq (by kernel_rfl) ?_
  refine aw_region [] [0, 1] [] 0 (vals := [.str s_1, .int .u8 c_1]) (bxs := []) (by kernel_rfl) hmix an ?_
  refine aw_seq (by kernel_rfl) ?_
  obtain ⟨r_1, h_1, h⟩ := bind_some h
  refine aw_region [(2, { av := .int .i64 r_1, l := [.str s_1, .int .u8 c_1] })] [4] [] 0 (vals := [.int .i64 r_1]) (bxs := []) (by kernel_rfl) hmix (ac (rfl : ([.str s_1, .int .u8 c_1] : List AV) = [.str s_1, .int .u8 c_1]) (ac (rfl : ([] : List BoxSt) = []) (ac (stringslite_IndexByte_ok s_1 c_1 r_1 h_1 : TripleG prog 66 [] [] [.str s_1, .int .u8 c_1] [] (.int .i64 r_1)) an))) ?_
  refine aw_ret (by kernel_rfl) ?_
  replace h := Option.some.inj h; subst h
  exact ⟨.inr rfl, Nat.le_of_ble_eq_true rfl, by kernel_rfl⟩

theorem intern_letter_ok (c_1 : Int) (r : Bool) (h : intern_letter c_1 = some r) : TripleG prog 59 [] [] [.int .u8 c_1] [] (.bool r) := by
  refine triple_intro (fn := Go.Proofs.Try.f59) (code := codeOf Go.Proofs.Try.f59) (by kernel_rfl) (by kernel_rfl) (Nat.le_of_ble_eq_true (by kernel_rfl)) ?_
  unfold intern_letter at h
  refine aw_seq (by kernel_rfl) ?_
  refine aw_region [] [0] [] 0 (vals := [.int .u8 c_1]) (bxs := []) (by kernel_rfl) hmix an ?_
  refine aw_seq (by kernel_rfl) ?_
  obtain ⟨p_1, h_2, h⟩ := bind_some h
  refine aw_mid (mk [(2, .bool p_1)] [] 0) ?_ ?_
  · replace h := h_2
    rcases Bool.eq_false_or_eq_true (decide (c_1 ≥ (97 : Int))) with gg_1 | gg_1
    · replace h := cond_t gg_1 h
      rcases Bool.eq_false_or_eq_true (decide (c_1 ≤ (122 : Int))) with gg_2 | gg_2
      · replace h := cond_t gg_2 h
        refine aw_region [(5, { b := true }), (7, { g := false }), (8, { g := false }), (9, { g := false }), (12, { g := false }), (13, { b := true }), (15, { g := false }), (16, { g := false }), (17, { g := false }), (20, { g := false }), (21, { b := true }), (23, { g := false }), (24, { g := false }), (25, { g := false }), (26, { b := true })] [2] [] 0 (vals := [.bool true]) (bxs := []) (by kernel_rfl) hmix (ac gg_1 (ac gg_1 (ac gg_1 (ac gg_2 (ac gg_2 (ac gg_2 (ac gg_2 (ac gg_2 (ac (rfl : true = !false) (ac (rfl : true = !false) (ac (rfl : true = !false) (ac (rfl : true = !false) (ac (rfl : true = true) (ac (rfl : true = !false) (ac (rfl : true = !false) (ac (rfl : true = !false) (ac (rfl : true = true) an))))))))))))))))) ?_
        replace h := Option.some.inj h; subst h
        exact ⟨rfl, (sub_wkm [] [] [.s 2] [] (by kernel_rfl) an)⟩
      · replace h := cond_f gg_2 h
        rcases Bool.eq_false_or_eq_true (decide (c_1 ≥ (65 : Int))) with gg_3 | gg_3
        · replace h := cond_t gg_3 h
          rcases Bool.eq_false_or_eq_true (decide (c_1 ≤ (90 : Int))) with gg_4 | gg_4
          · replace h := cond_t gg_4 h
            refine aw_region [(5, { b := true }), (12, { b := true }), (13, { b := false }), (15, { g := false }), (16, { g := false }), (17, { g := false }), (20, { g := false }), (21, { b := true }), (23, { g := false }), (24, { g := false }), (25, { g := false }), (26, { b := true })] [2] [] 0 (vals := [.bool true]) (bxs := []) (by kernel_rfl) hmix (ac gg_1 (ac gg_1 (ac gg_1 (ac gg_2 (ac gg_2 (ac gg_2 (ac gg_3 (ac gg_3 (ac gg_2 (ac gg_3 (ac gg_2 (ac gg_4 (ac gg_4 (ac gg_4 (ac gg_4 (ac gg_4 (ac (rfl : true = !false) (ac (rfl : true = !false) (ac (rfl : true = !false) (ac (rfl : true = true) an)))))))))))))))))))) ?_
            replace h := Option.some.inj h; subst h
            exact ⟨rfl, (sub_wkm [] [] [.s 2] [] (by kernel_rfl) an)⟩
          · replace h := cond_f gg_4 h
            rcases Bool.eq_false_or_eq_true (decide (c_1 ≥ (48 : Int))) with gg_5 | gg_5
            · replace h := cond_t gg_5 h
              rcases Bool.eq_false_or_eq_true (decide (c_1 ≤ (57 : Int))) with gg_6 | gg_6
              · replace h := cond_t gg_6 h
                refine aw_region [(5, { b := true }), (12, { b := true }), (13, { b := false }), (20, { b := true }), (21, { b := false }), (23, { g := false }), (24, { g := false }), (25, { g := false }), (26, { b := true })] [2] [] 0 (vals := [.bool true]) (bxs := []) (by kernel_rfl) hmix (ac gg_1 (ac gg_1 (ac gg_1 (ac gg_2 (ac gg_2 (ac gg_2 (ac gg_3 (ac gg_3 (ac gg_2 (ac gg_3 (ac gg_2 (ac gg_4 (ac gg_4 (ac gg_4 (ac gg_5 (ac gg_5 (ac gg_4 (ac gg_5 (ac gg_4 (ac gg_6 (ac gg_6 (ac gg_6 (ac gg_6 an))))))))))))))))))))))) ?_
                replace h := Option.some.inj h; subst h
                exact ⟨rfl, (sub_wkm [] [] [.s 2] [] (by kernel_rfl) an)⟩
              · replace h := cond_f gg_6 h
                obtain ⟨r_1, h_1, h⟩ := bind_some h
                refine aw_region [(5, { b := true }), (12, { b := true }), (13, { b := false }), (20, { b := true }), (21, { b := false }), (24, { av := .int .i64 r_1, l := [.str ([95, 46, 58, 47, 60, 62, 36, 42, 126, 45] : List Int), .int .u8 c_1] }), (26, { b := false })] [2] [] 0 (vals := [.bool (decide (r_1 ≥ (0 : Int)))]) (bxs := []) (by kernel_rfl) hmix (ac gg_1 (ac gg_1 (ac gg_1 (ac gg_2 (ac gg_2 (ac gg_2 (ac gg_3 (ac gg_3 (ac gg_2 (ac gg_3 (ac gg_2 (ac gg_4 (ac gg_4 (ac gg_4 (ac gg_5 (ac gg_5 (ac gg_4 (ac gg_5 (ac gg_4 (ac gg_6 (ac gg_6 (ac (rfl : ([.str ([95, 46, 58, 47, 60, 62, 36, 42, 126, 45] : List Int), .int .u8 c_1] : List AV) = [.str ([95, 46, 58, 47, 60, 62, 36, 42, 126, 45] : List Int), .int .u8 c_1]) (ac (rfl : ([] : List BoxSt) = []) (ac (strings_IndexByte_ok ([95, 46, 58, 47, 60, 62, 36, 42, 126, 45] : List Int) c_1 r_1 h_1 : TripleG prog 65 [] [] [.str ([95, 46, 58, 47, 60, 62, 36, 42, 126, 45] : List Int), .int .u8 c_1] [] (.int .i64 r_1)) (ac gg_6 (ac gg_6 an)))))))))))))))))))))))))) ?_
                replace h := Option.some.inj h; subst h
                exact ⟨rfl, (sub_wkm [] [] [.s 2] [] (by kernel_rfl) an)⟩
            · replace h := cond_f gg_5 h
              obtain ⟨r_1, h_1, h⟩ := bind_some h
              refine aw_region [(5, { b := true }), (12, { b := true }), (13, { b := false }), (18, { g := false }), (19, { g := false }), (20, { b := false }), (21, { b := false }), (24, { av := .int .i64 r_1, l := [.str ([95, 46, 58, 47, 60, 62, 36, 42, 126, 45] : List Int), .int .u8 c_1] }), (26, { b := false })] [2] [] 0 (vals := [.bool (decide (r_1 ≥ (0 : Int)))]) (bxs := []) (by kernel_rfl) hmix (ac gg_1 (ac gg_1 (ac gg_1 (ac gg_2 (ac gg_2 (ac gg_2 (ac gg_3 (ac gg_3 (ac gg_2 (ac gg_3 (ac gg_2 (ac gg_4 (ac gg_4 (ac gg_4 (ac gg_5 (ac gg_5 (ac gg_4 (ac gg_5 (ac gg_4 (ac (rfl : false = false) (ac (rfl : false = false) (ac (rfl : ([.str ([95, 46, 58, 47, 60, 62, 36, 42, 126, 45] : List Int), .int .u8 c_1] : List AV) = [.str ([95, 46, 58, 47, 60, 62, 36, 42, 126, 45] : List Int), .int .u8 c_1]) (ac (rfl : ([] : List BoxSt) = []) (ac (strings_IndexByte_ok ([95, 46, 58, 47, 60, 62, 36, 42, 126, 45] : List Int) c_1 r_1 h_1 : TripleG prog 65 [] [] [.str ([95, 46, 58, 47, 60, 62, 36, 42, 126, 45] : List Int), .int .u8 c_1] [] (.int .i64 r_1)) (ac (rfl : false = false) (ac (rfl : false = false) an)))))))))))))))))))))))))) ?_
              replace h := Option.some.inj h; subst h
              exact ⟨rfl, (sub_wkm [] [] [.s 2] [] (by kernel_rfl) an)⟩
        · replace h := cond_f gg_3 h
          rcases Bool.eq_false_or_eq_true (decide (c_1 ≥ (48 : Int))) with gg_7 | gg_7
          · replace h := cond_t gg_7 h
            rcases Bool.eq_false_or_eq_true (decide (c_1 ≤ (57 : Int))) with gg_8 | gg_8
            · replace h := cond_t gg_8 h
              refine aw_region [(5, { b := true }), (10, { g := false }), (11, { g := false }), (12, { b := false }), (13, { b := false }), (20, { b := true }), (21, { b := false }), (23, { g := false }), (24, { g := false }), (25, { g := false }), (26, { b := true })] [2] [] 0 (vals := [.bool true]) (bxs := []) (by kernel_rfl) hmix (ac gg_1 (ac gg_1 (ac gg_1 (ac gg_2 (ac gg_2 (ac gg_2 (ac gg_3 (ac gg_3 (ac gg_2 (ac gg_3 (ac gg_2 (ac (rfl : false = false) (ac (rfl : false = false) (ac (rfl : false = false) (ac gg_7 (ac gg_7 (ac (rfl : false = false) (ac gg_7 (ac (rfl : false = false) (ac gg_8 (ac gg_8 (ac gg_8 (ac gg_8 an))))))))))))))))))))))) ?_
              replace h := Option.some.inj h; subst h
              exact ⟨rfl, (sub_wkm [] [] [.s 2] [] (by kernel_rfl) an)⟩
            · replace h := cond_f gg_8 h
              obtain ⟨r_1, h_1, h⟩ := bind_some h
              refine aw_region [(5, { b := true }), (10, { g := false }), (11, { g := false }), (12, { b := false }), (13, { b := false }), (20, { b := true }), (21, { b := false }), (24, { av := .int .i64 r_1, l := [.str ([95, 46, 58, 47, 60, 62, 36, 42, 126, 45] : List Int), .int .u8 c_1] }), (26, { b := false })] [2] [] 0 (vals := [.bool (decide (r_1 ≥ (0 : Int)))]) (bxs := []) (by kernel_rfl) hmix (ac gg_1 (ac gg_1 (ac gg_1 (ac gg_2 (ac gg_2 (ac gg_2 (ac gg_3 (ac gg_3 (ac gg_2 (ac gg_3 (ac gg_2 (ac (rfl : false = false) (ac (rfl : false = false) (ac (rfl : false = false) (ac gg_7 (ac gg_7 (ac (rfl : false = false) (ac gg_7 (ac (rfl : false = false) (ac gg_8 (ac gg_8 (ac (rfl : ([.str ([95, 46, 58, 47, 60, 62, 36, 42, 126, 45] : List Int), .int .u8 c_1] : List AV) = [.str ([95, 46, 58, 47, 60, 62, 36, 42, 126, 45] : List Int), .int .u8 c_1]) (ac (rfl : ([] : List BoxSt) = []) (ac (strings_IndexByte_ok ([95, 46, 58, 47, 60, 62, 36, 42, 126, 45] : List Int) c_1 r_1 h_1 : TripleG prog 65 [] [] [.str ([95, 46, 58, 47, 60, 62, 36, 42, 126, 45] : List Int), .int .u8 c_1] [] (.int .i64 r_1)) (ac gg_8 (ac gg_8 an)))))))))))))))))))))))))) ?_
              replace h := Option.some.inj h; subst h
              exact ⟨rfl, (sub_wkm [] [] [.s 2] [] (by kernel_rfl) an)⟩
          · replace h := cond_f gg_7 h
            obtain ⟨r_1, h_1, h⟩ := bind_some h
            refine aw_region [(5, { b := true }), (10, { g := false }), (11, { g := false }), (12, { b := false }), (13, { b := false }), (18, { g := false }), (19, { g := false }), (20, { b := false }), (21, { b := false }), (24, { av := .int .i64 r_1, l := [.str ([95, 46, 58, 47, 60, 62, 36, 42, 126, 45] : List Int), .int .u8 c_1] }), (26, { b := false })] [2] [] 0 (vals := [.bool (decide (r_1 ≥ (0 : Int)))]) (bxs := []) (by kernel_rfl) hmix (ac gg_1 (ac gg_1 (ac gg_1 (ac gg_2 (ac gg_2 (ac gg_2 (ac gg_3 (ac gg_3 (ac gg_2 (ac gg_3 (ac gg_2 (ac (rfl : false = false) (ac (rfl : false = false) (ac (rfl : false = false) (ac gg_7 (ac gg_7 (ac (rfl : false = false) (ac gg_7 (ac (rfl : false = false) (ac (rfl : false = false) (ac (rfl : false = false) (ac (rfl : ([.str ([95, 46, 58, 47, 60, 62, 36, 42, 126, 45] : List Int), .int .u8 c_1] : List AV) = [.str ([95, 46, 58, 47, 60, 62, 36, 42, 126, 45] : List Int), .int .u8 c_1]) (ac (rfl : ([] : List BoxSt) = []) (ac (strings_IndexByte_ok ([95, 46, 58, 47, 60, 62, 36, 42, 126, 45] : List Int) c_1 r_1 h_1 : TripleG prog 65 [] [] [.str ([95, 46, 58, 47, 60, 62, 36, 42, 126, 45] : List Int), .int .u8 c_1] [] (.int .i64 r_1)) (ac (rfl : false = false) (ac (rfl : false = false) an)))))))))))))))))))))))))) ?_
            replace h := Option.some.inj h; subst h
            exact ⟨rfl, (sub_wkm [] [] [.s 2] [] (by kernel_rfl) an)⟩
    · replace h := cond_f gg_1 h
      rcases Bool.eq_false_or_eq_true (decide (c_1 ≥ (65 : Int))) with gg_9 | gg_9
      · replace h := cond_t gg_9 h
        rcases Bool.eq_false_or_eq_true (decide (c_1 ≤ (90 : Int))) with gg_10 | gg_10
        · replace h := cond_t gg_10 h
          refine aw_region [(3, { g := false }), (4, { g := false }), (5, { b := false }), (12, { b := true }), (13, { b := false }), (15, { g := false }), (16, { g := false }), (17, { g := false }), (20, { g := false }), (21, { b := true }), (23, { g := false }), (24, { g := false }), (25, { g := false }), (26, { b := true })] [2] [] 0 (vals := [.bool true]) (bxs := []) (by kernel_rfl) hmix (ac gg_1 (ac gg_1 (ac gg_1 (ac (rfl : false = false) (ac (rfl : false = false) (ac (rfl : false = false) (ac gg_9 (ac gg_9 (ac (rfl : false = false) (ac gg_9 (ac (rfl : false = false) (ac gg_10 (ac gg_10 (ac gg_10 (ac gg_10 (ac gg_10 (ac (rfl : true = !false) (ac (rfl : true = !false) (ac (rfl : true = !false) (ac (rfl : true = true) an)))))))))))))))))))) ?_
          replace h := Option.some.inj h; subst h
          exact ⟨rfl, (sub_wkm [] [] [.s 2] [] (by kernel_rfl) an)⟩
        · replace h := cond_f gg_10 h
          rcases Bool.eq_false_or_eq_true (decide (c_1 ≥ (48 : Int))) with gg_11 | gg_11
          · replace h := cond_t gg_11 h
            rcases Bool.eq_false_or_eq_true (decide (c_1 ≤ (57 : Int))) with gg_12 | gg_12
            · replace h := cond_t gg_12 h
              refine aw_region [(3, { g := false }), (4, { g := false }), (5, { b := false }), (12, { b := true }), (13, { b := false }), (20, { b := true }), (21, { b := false }), (23, { g := false }), (24, { g := false }), (25, { g := false }), (26, { b := true })] [2] [] 0 (vals := [.bool true]) (bxs := []) (by kernel_rfl) hmix (ac gg_1 (ac gg_1 (ac gg_1 (ac (rfl : false = false) (ac (rfl : false = false) (ac (rfl : false = false) (ac gg_9 (ac gg_9 (ac (rfl : false = false) (ac gg_9 (ac (rfl : false = false) (ac gg_10 (ac gg_10 (ac gg_10 (ac gg_11 (ac gg_11 (ac gg_10 (ac gg_11 (ac gg_10 (ac gg_12 (ac gg_12 (ac gg_12 (ac gg_12 an))))))))))))))))))))))) ?_
              replace h := Option.some.inj h; subst h
              exact ⟨rfl, (sub_wkm [] [] [.s 2] [] (by kernel_rfl) an)⟩
            · replace h := cond_f gg_12 h
              obtain ⟨r_1, h_1, h⟩ := bind_some h
              refine aw_region [(3, { g := false }), (4, { g := false }), (5, { b := false }), (12, { b := true }), (13, { b := false }), (20, { b := true }), (21, { b := false }), (24, { av := .int .i64 r_1, l := [.str ([95, 46, 58, 47, 60, 62, 36, 42, 126, 45] : List Int), .int .u8 c_1] }), (26, { b := false })] [2] [] 0 (vals := [.bool (decide (r_1 ≥ (0 : Int)))]) (bxs := []) (by kernel_rfl) hmix (ac gg_1 (ac gg_1 (ac gg_1 (ac (rfl : false = false) (ac (rfl : false = false) (ac (rfl : false = false) (ac gg_9 (ac gg_9 (ac (rfl : false = false) (ac gg_9 (ac (rfl : false = false) (ac gg_10 (ac gg_10 (ac gg_10 (ac gg_11 (ac gg_11 (ac gg_10 (ac gg_11 (ac gg_10 (ac gg_12 (ac gg_12 (ac (rfl : ([.str ([95, 46, 58, 47, 60, 62, 36, 42, 126, 45] : List Int), .int .u8 c_1] : List AV) = [.str ([95, 46, 58, 47, 60, 62, 36, 42, 126, 45] : List Int), .int .u8 c_1]) (ac (rfl : ([] : List BoxSt) = []) (ac (strings_IndexByte_ok ([95, 46, 58, 47, 60, 62, 36, 42, 126, 45] : List Int) c_1 r_1 h_1 : TripleG prog 65 [] [] [.str ([95, 46, 58, 47, 60, 62, 36, 42, 126, 45] : List Int), .int .u8 c_1] [] (.int .i64 r_1)) (ac gg_12 (ac gg_12 an)))))))))))))))))))))))))) ?_
              replace h := Option.some.inj h; subst h
              exact ⟨rfl, (sub_wkm [] [] [.s 2] [] (by kernel_rfl) an)⟩
          · replace h := cond_f gg_11 h
            obtain ⟨r_1, h_1, h⟩ := bind_some h
            refine aw_region [(3, { g := false }), (4, { g := false }), (5, { b := false }), (12, { b := true }), (13, { b := false }), (18, { g := false }), (19, { g := false }), (20, { b := false }), (21, { b := false }), (24, { av := .int .i64 r_1, l := [.str ([95, 46, 58, 47, 60, 62, 36, 42, 126, 45] : List Int), .int .u8 c_1] }), (26, { b := false })] [2] [] 0 (vals := [.bool (decide (r_1 ≥ (0 : Int)))]) (bxs := []) (by kernel_rfl) hmix (ac gg_1 (ac gg_1 (ac gg_1 (ac (rfl : false = false) (ac (rfl : false = false) (ac (rfl : false = false) (ac gg_9 (ac gg_9 (ac (rfl : false = false) (ac gg_9 (ac (rfl : false = false) (ac gg_10 (ac gg_10 (ac gg_10 (ac gg_11 (ac gg_11 (ac gg_10 (ac gg_11 (ac gg_10 (ac (rfl : false = false) (ac (rfl : false = false) (ac (rfl : ([.str ([95, 46, 58, 47, 60, 62, 36, 42, 126, 45] : List Int), .int .u8 c_1] : List AV) = [.str ([95, 46, 58, 47, 60, 62, 36, 42, 126, 45] : List Int), .int .u8 c_1]) (ac (rfl : ([] : List BoxSt) = []) (ac (strings_IndexByte_ok ([95, 46, 58, 47, 60, 62, 36, 42, 126, 45] : List Int) c_1 r_1 h_1 : TripleG prog 65 [] [] [.str ([95, 46, 58, 47, 60, 62, 36, 42, 126, 45] : List Int), .int .u8 c_1] [] (.int .i64 r_1)) (ac (rfl : false = false) (ac (rfl : false = false) an)))))))))))))))))))))))))) ?_
            replace h := Option.some.inj h; subst h
            exact ⟨rfl, (sub_wkm [] [] [.s 2] [] (by kernel_rfl) an)⟩
      · replace h := cond_f gg_9 h
        rcases Bool.eq_false_or_eq_true (decide (c_1 ≥ (48 : Int))) with gg_13 | gg_13
        · replace h := cond_t gg_13 h
          rcases Bool.eq_false_or_eq_true (decide (c_1 ≤ (57 : Int))) with gg_14 | gg_14
          · replace h := cond_t gg_14 h
            refine aw_region [(3, { g := false }), (4, { g := false }), (5, { b := false }), (10, { g := false }), (11, { g := false }), (12, { b := false }), (13, { b := false }), (20, { b := true }), (21, { b := false }), (23, { g := false }), (24, { g := false }), (25, { g := false }), (26, { b := true })] [2] [] 0 (vals := [.bool true]) (bxs := []) (by kernel_rfl) hmix (ac gg_1 (ac gg_1 (ac gg_1 (ac (rfl : false = false) (ac (rfl : false = false) (ac (rfl : false = false) (ac gg_9 (ac gg_9 (ac (rfl : false = false) (ac gg_9 (ac (rfl : false = false) (ac (rfl : false = false) (ac (rfl : false = false) (ac (rfl : false = false) (ac gg_13 (ac gg_13 (ac (rfl : false = false) (ac gg_13 (ac (rfl : false = false) (ac gg_14 (ac gg_14 (ac gg_14 (ac gg_14 an))))))))))))))))))))))) ?_
            replace h := Option.some.inj h; subst h
            exact ⟨rfl, (sub_wkm [] [] [.s 2] [] (by kernel_rfl) an)⟩
          · replace h := cond_f gg_14 h
            obtain ⟨r_1, h_1, h⟩ := bind_some h
            refine aw_region [(3, { g := false }), (4, { g := false }), (5, { b := false }), (10, { g := false }), (11, { g := false }), (12, { b := false }), (13, { b := false }), (20, { b := true }), (21, { b := false }), (24, { av := .int .i64 r_1, l := [.str ([95, 46, 58, 47, 60, 62, 36, 42, 126, 45] : List Int), .int .u8 c_1] }), (26, { b := false })] [2] [] 0 (vals := [.bool (decide (r_1 ≥ (0 : Int)))]) (bxs := []) (by kernel_rfl) hmix (ac gg_1 (ac gg_1 (ac gg_1 (ac (rfl : false = false) (ac (rfl : false = false) (ac (rfl : false = false) (ac gg_9 (ac gg_9 (ac (rfl : false = false) (ac gg_9 (ac (rfl : false = false) (ac (rfl : false = false) (ac (rfl : false = false) (ac (rfl : false = false) (ac gg_13 (ac gg_13 (ac (rfl : false = false) (ac gg_13 (ac (rfl : false = false) (ac gg_14 (ac gg_14 (ac (rfl : ([.str ([95, 46, 58, 47, 60, 62, 36, 42, 126, 45] : List Int), .int .u8 c_1] : List AV) = [.str ([95, 46, 58, 47, 60, 62, 36, 42, 126, 45] : List Int), .int .u8 c_1]) (ac (rfl : ([] : List BoxSt) = []) (ac (strings_IndexByte_ok ([95, 46, 58, 47, 60, 62, 36, 42, 126, 45] : List Int) c_1 r_1 h_1 : TripleG prog 65 [] [] [.str ([95, 46, 58, 47, 60, 62, 36, 42, 126, 45] : List Int), .int .u8 c_1] [] (.int .i64 r_1)) (ac gg_14 (ac gg_14 an)))))))))))))))))))))))))) ?_
            replace h := Option.some.inj h; subst h
            exact ⟨rfl, (sub_wkm [] [] [.s 2] [] (by kernel_rfl) an)⟩
        · replace h := cond_f gg_13 h
          obtain ⟨r_1, h_1, h⟩ := bind_some h
          refine aw_region [(3, { g := false }), (4, { g := false }), (5, { b := false }), (10, { g := false }), (11, { g := false }), (12, { b := false }), (13, { b := false }), (18, { g := false }), (19, { g := false }), (20, { b := false }), (21, { b := false }), (24, { av := .int .i64 r_1, l := [.str ([95, 46, 58, 47, 60, 62, 36, 42, 126, 45] : List Int), .int .u8 c_1] }), (26, { b := false })] [2] [] 0 (vals := [.bool (decide (r_1 ≥ (0 : Int)))]) (bxs := []) (by kernel_rfl) hmix (ac gg_1 (ac gg_1 (ac gg_1 (ac (rfl : false = false) (ac (rfl : false = false) (ac (rfl : false = false) (ac gg_9 (ac gg_9 (ac (rfl : false = false) (ac gg_9 (ac (rfl : false = false) (ac (rfl : false = false) (ac (rfl : false = false) (ac (rfl : false = false) (ac gg_13 (ac gg_13 (ac (rfl : false = false) (ac gg_13 (ac (rfl : false = false) (ac (rfl : false = false) (ac (rfl : false = false) (ac (rfl : ([.str ([95, 46, 58, 47, 60, 62, 36, 42, 126, 45] : List Int), .int .u8 c_1] : List AV) = [.str ([95, 46, 58, 47, 60, 62, 36, 42, 126, 45] : List Int), .int .u8 c_1]) (ac (rfl : ([] : List BoxSt) = []) (ac (strings_IndexByte_ok ([95, 46, 58, 47, 60, 62, 36, 42, 126, 45] : List Int) c_1 r_1 h_1 : TripleG prog 65 [] [] [.str ([95, 46, 58, 47, 60, 62, 36, 42, 126, 45] : List Int), .int .u8 c_1] [] (.int .i64 r_1)) (ac (rfl : false = false) (ac (rfl : false = false) an)))))))))))))))))))))))))) ?_
          replace h := Option.some.inj h; subst h
          exact ⟨rfl, (sub_wkm [] [] [.s 2] [] (by kernel_rfl) an)⟩
  refine aw_ret (by kernel_rfl) ?_
  replace h := Option.some.inj h; subst h
  exact ⟨.inr rfl, Nat.le_of_ble_eq_true rfl, by kernel_rfl⟩

theorem intern_Name_ok (F : Nat) (s_1 : List Int) (r : Int) (h : intern_Name F s_1 = some r) : TripleG prog 41 [] [] [.str s_1] [] (.int .i64 r) := by
  refine triple_intro (fn := Go.Proofs.Try.f41) (code := codeOf Go.Proofs.Try.f41) (by kernel_rfl) (by kernel_rfl) (Nat.le_of_ble_eq_true (by kernel_rfl)) ?_
  unfold intern_Name at h
  refine aw_seq (by kernel_rfl) ?_
  refine aw_region [] [0] [] 0 (vals := [.str s_1]) (bxs := []) (by kernel_rfl) hmix an ?_
  refine aw_seq (by kernel_rfl) ?_
  refine aw_seq (by kernel_rfl) ?_
  refine aw_mid (mk [(0, .str s_1), (10, .bool ((s_1 == ([] : List Int)) || decide ((((s_1).length : Nat) : Int) > (40 : Int))))] [] 0) ?_ ?_
  · rcases Bool.eq_false_or_eq_true (s_1 == ([] : List Int)) with gg_1 | gg_1
    · refine aw_region [(3, { g := false }), (4, { g := false }), (5, { g := false }), (6, { b := true })] [0, 10] [] 0 (vals := [.str s_1, .bool true]) (bxs := []) (by kernel_rfl) hmix (ac gg_1 (ac gg_1 (ac gg_1 (ac gg_1 an)))) ?_
      exact ⟨rfl, (sub_wkm [] [] [.s 0, .a 10 (.bool ((s_1 == ([] : List Int)) || decide ((((s_1).length : Nat) : Int) > (40 : Int))))] [] (by kernel_rfl) (ac (congrArg AV.bool (ort gg_1) : (.bool true : AV) = .bool ((s_1 == ([] : List Int)) || decide ((((s_1).length : Nat) : Int) > (40 : Int)))) an))⟩
    · refine aw_region [(6, { b := false })] [0, 10] [] 0 (vals := [.str s_1, .bool (decide ((((s_1).length : Nat) : Int) > (40 : Int)))]) (bxs := []) (by kernel_rfl) hmix (ac gg_1 (ac gg_1 (ac gg_1 (ac gg_1 an)))) ?_
      exact ⟨rfl, (sub_wkm [] [] [.s 0, .a 10 (.bool ((s_1 == ([] : List Int)) || decide ((((s_1).length : Nat) : Int) > (40 : Int))))] [] (by kernel_rfl) (ac (congrArg AV.bool (orf gg_1 rfl) : (.bool (decide ((((s_1).length : Nat) : Int) > (40 : Int))) : AV) = .bool ((s_1 == ([] : List Int)) || decide ((((s_1).length : Nat) : Int) > (40 : Int)))) an))⟩
  refine aw_cond (t := 10) (b := ((s_1 == ([] : List Int)) || decide ((((s_1).length : Nat) : Int) > (40 : Int)))) (by kernel_rfl) (by kernel_rfl) ?_ ?_
  · intro g_1; replace h := cond_t g_1 h
    refine aw_seq (by kernel_rfl) ?_
    refine aw_region [] [2] [] 0 (vals := [.int .i64 (3 : Int)]) (bxs := []) (by kernel_rfl) hmix an ?_
    refine aw_ret (by kernel_rfl) ?_
    replace h := Option.some.inj h; subst h
    exact ⟨.inr rfl, Nat.le_of_ble_eq_true rfl, by kernel_rfl⟩
  intro g_1; replace h := cond_f g_1 h
  refine aw_skip (by kernel_rfl) ?_
  refine aw_seq (by kernel_rfl) ?_
  refine aw_seq (by kernel_rfl) ?_
  refine aw_region [] [0, 12, 13] [] 0 (vals := [.str s_1, .int .i64 (((s_1).length : Nat) : Int), .int .i64 (0 : Int)]) (bxs := []) (by kernel_rfl) hmix an ?_
  obtain ⟨o_1, h_1, h⟩ := bind_some h
  refine aw_conv (K1 := (fun e st' => match o_1 with | (.inl q0) => e = .normal ∧ Sub 0 st' (mk [] [] 0) | (.inr q1) => e = .ret ∧ FinR prog Go.Proofs.Try.f41 0 [] (.int .i64 q1) st')) ?_ ?_
  · replace h := h_1
    refine aw_block (id := 0) (by kernel_rfl) ?_
    refine aw_sub (sub_wkm [] [] [.s 0, .s 12, .s 13] [] (sl2 := [(0, .str s_1), (12, .int .i64 (((s_1).length : Nat) : Int)), (13, .int .i64 (0 : Int))]) (bx2 := []) (by kernel_rfl) an) ?_
    refine aw_loopF (fun n st => ∃ (v_1 : Int), st = mk [(0, .str s_1), (12, .int .i64 (((s_1).length : Nat) : Int)), (13, .int .i64 v_1)] [] 0 ∧ intern_Name_L1 F s_1 n v_1 = some o_1) F (by kernel_rfl) ⟨_, rfl, h⟩ ?_ ?_
    · rintro _ ⟨_, _, h⟩; exact none_ne (h : (none : Option (Unit ⊕ Int)) = some o_1)
    rintro n_1 _ ⟨v_1, rfl, h⟩
    replace h : intern_Name_L1_body F s_1 (intern_Name_L1 F s_1 n_1) v_1 = some o_1 := h
    unfold intern_Name_L1_body at h
    refine aw_seq (by kernel_rfl) ?_
    refine aw_region [] [0, 12, 13, 14] [] 0 (vals := [.str s_1, .int .i64 (((s_1).length : Nat) : Int), .int .i64 v_1, .bool (decide (v_1 < (((s_1).length : Nat) : Int)))]) (bxs := []) (by kernel_rfl) hmix an ?_
    refine aw_seq (by kernel_rfl) ?_
    refine aw_cond (t := 14) (b := (decide (v_1 < (((s_1).length : Nat) : Int)))) (by kernel_rfl) (by kernel_rfl) ?_ ?_
    rotate_left
    · intro g_2; replace h := cond_f g_2 h
      refine aw_exit (id := 0) (by kernel_rfl) ?_
      replace h := Option.some.inj h; subst h
      exact ⟨rfl, (sub_wkm [] [] [] [] (by kernel_rfl) an)⟩
    intro g_2; replace h := cond_t g_2 h
    refine aw_skip (by kernel_rfl) ?_
    refine aw_seq (by kernel_rfl) ?_
    refine aw_block (id := 1) (by kernel_rfl) ?_
    refine aw_seq (by kernel_rfl) ?_
    refine aw_region [] [0, 3, 12, 13] [] 0 (vals := [.str s_1, .int .i64 v_1, .int .i64 (((s_1).length : Nat) : Int), .int .i64 v_1]) (bxs := []) (by kernel_rfl) hmix an ?_
    refine aw_seq (by kernel_rfl) ?_
    obtain ⟨c_1, h_2, h⟩ := bind_some h
    obtain ⟨r_1, h_3, h⟩ := bind_some h
    refine aw_region [(2, { z := c_1 }), (3, { av := .bool r_1, l := [.int .u8 c_1] })] [0, 12, 13, 20] [] 0 (vals := [.str s_1, .int .i64 (((s_1).length : Nat) : Int), .int .i64 v_1, .bool (!r_1)]) (bxs := []) (by kernel_rfl) hmix (ac h_2 (ac (rfl : ([.int .u8 c_1] : List AV) = [.int .u8 c_1]) (ac (rfl : ([] : List BoxSt) = []) (ac (intern_letter_ok c_1 r_1 h_3 : TripleG prog 59 [] [] [.int .u8 c_1] [] (.bool r_1)) an)))) ?_
    refine aw_cond (t := 20) (b := (!r_1)) (by kernel_rfl) (by kernel_rfl) ?_ ?_
    rotate_left
    · intro g_3; replace h := cond_f g_3 h
      refine aw_skip (by kernel_rfl) ?_
      refine aw_region [] [0, 12, 13] [] 0 (vals := [.str s_1, .int .i64 (((s_1).length : Nat) : Int), .int .i64 (w_i64 (v_1 + (1 : Int)))]) (bxs := []) (by kernel_rfl) hmix an ?_
      exact ⟨_, (sub_wkm [] [] [.s 0, .s 12, .s 13] [] (by kernel_rfl) an), _, rfl, h⟩
    intro g_3; replace h := cond_t g_3 h
    refine aw_seq (by kernel_rfl) ?_
    refine aw_region [] [2] [] 0 (vals := [.int .i64 (3 : Int)]) (bxs := []) (by kernel_rfl) hmix an ?_
    refine aw_ret (by kernel_rfl) ?_
    replace h := Option.some.inj h; subst h
    exact ⟨rfl, Nat.le_of_ble_eq_true rfl, by kernel_rfl⟩
  intro e st1 hk
  rcases o_1 with q_1 | q_2
  rotate_left
  · obtain ⟨rfl, hf⟩ := hk
    replace h := Option.some.inj h; subst h
    exact ⟨st1, Sub.refl _ _, .inr rfl, hf⟩
  obtain ⟨rfl, hs⟩ := hk
  refine ⟨_, hs, ?_⟩
  refine aw_seq (by kernel_rfl) ?_
  refine aw_region [] [2] [] 0 (vals := [.int .i64 (0 : Int)]) (bxs := []) (by kernel_rfl) hmix an ?_
  refine aw_ret (by kernel_rfl) ?_
  replace h := Option.some.inj h; subst h
  exact ⟨.inr rfl, Nat.le_of_ble_eq_true rfl, by kernel_rfl⟩

theorem intern_checkNames_ok (F : Nat) (names_1 : List (List Int)) (r : Int) (h : intern_checkNames F names_1 = some r) : TripleG prog 37 [] [] [.sl false 1 (List.map AV.str names_1)] [] (.int .i64 r) := by
  refine triple_intro (fn := Go.Proofs.Try.f37) (code := codeOf Go.Proofs.Try.f37) (by kernel_rfl) (by kernel_rfl) (Nat.le_of_ble_eq_true (by kernel_rfl)) ?_
  unfold intern_checkNames at h
  refine aw_seq (by kernel_rfl) ?_
  refine aw_region [] [0] [] 0 (vals := [.sl false 1 (List.map AV.str names_1)]) (bxs := []) (by kernel_rfl) hmix an ?_
  refine aw_seq (by kernel_rfl) ?_
  refine aw_region [(0, { id := 0, mag := false, mks := [.str] })] [0, 3] [0] 1 (vals := [.sl false 1 (List.map AV.str names_1), .mp 0]) (bxs := [.live (.map false [.str] [])]) (by kernel_rfl) hmix an ?_
  refine aw_seq (by kernel_rfl) ?_
  refine aw_seq (by kernel_rfl) ?_
  refine aw_region [(1, { n := (names_1).length })] [3, 8, 9, 10] [0] 1 (vals := [.mp 0, .sl false 1 (List.map AV.str names_1), .int .i64 (((names_1).length : Nat) : Int), .int .i64 (0 : Int)]) (bxs := [.live (.map false [.str] [])]) (by kernel_rfl) hmix (ac (vc_len _ : ((List.map AV.str names_1)).length = (names_1).length) an) ?_
  obtain ⟨o_1, h_1, h⟩ := bind_some h
  refine aw_conv (K1 := (fun e st' => match o_1 with | (.inl q0) => e = .normal ∧ Sub 0 st' (mk [] [] 0) | (.inr q1) => e = .ret ∧ FinR prog Go.Proofs.Try.f37 0 [] (.int .i64 q1) st')) ?_ ?_
  · replace h := h_1
    refine aw_block (id := 0) (by kernel_rfl) ?_
    refine aw_sub (sub_wkm [0] [] [.s 3, .s 8, .s 9, .s 10] [.s 0] (sl2 := [(3, .mp 0), (8, .sl false 1 (List.map AV.str names_1)), (9, .int .i64 (((names_1).length : Nat) : Int)), (10, .int .i64 (0 : Int))]) (bx2 := [(0, .live (.map false [.str] []))]) (by kernel_rfl) an) ?_
    refine aw_loopF (fun n st => ∃ (v_1 : Int), ∃ (row_1 : List ((List Int) × Bool)), st = mk [(3, .mp 0), (8, .sl false 1 (List.map AV.str names_1)), (9, .int .i64 (((names_1).length : Nat) : Int)), (10, .int .i64 v_1)] [(0, .live (.map false [.str] (List.map (mpE AV.str AV.bool) row_1)))] 1 ∧ intern_checkNames_L1 F names_1 n v_1 row_1 = some o_1) F (by kernel_rfl) ⟨_, _, rfl, h⟩ ?_ ?_
    · rintro _ ⟨_, _, _, h⟩; exact none_ne (h : (none : Option (Unit ⊕ Int)) = some o_1)
    rintro n_1 _ ⟨v_1, row_1, rfl, h⟩
    replace h : intern_checkNames_L1_body F names_1 (intern_checkNames_L1 F names_1 n_1) v_1 row_1 = some o_1 := h
    unfold intern_checkNames_L1_body at h
    refine aw_seq (by kernel_rfl) ?_
    refine aw_region [] [3, 8, 9, 10, 11] [0] 1 (vals := [.mp 0, .sl false 1 (List.map AV.str names_1), .int .i64 (((names_1).length : Nat) : Int), .int .i64 v_1, .bool (decide (v_1 < (((names_1).length : Nat) : Int)))]) (bxs := [.live (.map false [.str] (List.map (mpE AV.str AV.bool) row_1))]) (by kernel_rfl) hmix an ?_
    refine aw_seq (by kernel_rfl) ?_
    refine aw_cond (t := 11) (b := (decide (v_1 < (((names_1).length : Nat) : Int)))) (by kernel_rfl) (by kernel_rfl) ?_ ?_
    rotate_left
    · intro g_1; replace h := cond_f g_1 h
      refine aw_exit (id := 0) (by kernel_rfl) ?_
      replace h := Option.some.inj h; subst h
      exact ⟨rfl, (sub_wkm [] [] [] [] (by kernel_rfl) an)⟩
    intro g_1; replace h := cond_t g_1 h
    refine aw_skip (by kernel_rfl) ?_
    refine aw_seq (by kernel_rfl) ?_
    refine aw_block (id := 1) (by kernel_rfl) ?_
    refine aw_seq (by kernel_rfl) ?_
    obtain ⟨x_1, h_2, h⟩ := bind_some h
    refine aw_region [(0, { av := .str x_1 })] [3, 5, 8, 9, 10] [0] 1 (vals := [.mp 0, .str x_1, .sl false 1 (List.map AV.str names_1), .int .i64 (((names_1).length : Nat) : Int), .int .i64 v_1]) (bxs := [.live (.map false [.str] (List.map (mpE AV.str AV.bool) row_1))]) (by kernel_rfl) hmix (ac (vc_idx h_2 : idxA (List.map AV.str names_1) v_1 = some (.str x_1)) an) ?_
    refine aw_seq (by kernel_rfl) ?_
    refine aw_seq (by kernel_rfl) ?_
    obtain ⟨r_1, h_3, h⟩ := bind_some h
    refine aw_region [(1, { av := .int .i64 r_1, l := [.str x_1] })] [3, 5, 6, 8, 9, 10] [0] 1 (vals := [.mp 0, .str x_1, .int .i64 r_1, .sl false 1 (List.map AV.str names_1), .int .i64 (((names_1).length : Nat) : Int), .int .i64 v_1]) (bxs := [.live (.map false [.str] (List.map (mpE AV.str AV.bool) row_1))]) (by kernel_rfl) hmix (ac (rfl : ([.str x_1] : List AV) = [.str x_1]) (ac (rfl : ([] : List BoxSt) = []) (ac (intern_Name_ok F x_1 r_1 h_3 : TripleG prog 41 [] [] [.str x_1] [] (.int .i64 r_1)) an))) ?_
    refine aw_seq (by kernel_rfl) ?_
    refine aw_region [] [3, 5, 6, 8, 9, 10, 17] [0] 1 (vals := [.mp 0, .str x_1, .int .i64 r_1, .sl false 1 (List.map AV.str names_1), .int .i64 (((names_1).length : Nat) : Int), .int .i64 v_1, .bool (r_1 != (0 : Int))]) (bxs := [.live (.map false [.str] (List.map (mpE AV.str AV.bool) row_1))]) (by kernel_rfl) hmix an ?_
    refine aw_cond (t := 17) (b := (r_1 != (0 : Int))) (by kernel_rfl) (by kernel_rfl) ?_ ?_
    · intro g_2; replace h := cond_t g_2 h
      refine aw_seq (by kernel_rfl) ?_
      refine aw_region [] [2] [] 1 (vals := [.int .i64 r_1]) (bxs := []) (by kernel_rfl) hmix an ?_
      refine aw_ret (by kernel_rfl) ?_
      replace h := Option.some.inj h; subst h
      exact ⟨rfl, Nat.le_of_ble_eq_true rfl, by kernel_rfl⟩
    intro g_2; replace h := cond_f g_2 h
    refine aw_skip (by kernel_rfl) ?_
    refine aw_seq (by kernel_rfl) ?_
    refine aw_seq (by kernel_rfl) ?_
    refine aw_region [(2, { av := (.bool ((mget row_1 x_1).getD false)), g := (mget row_1 x_1).isSome })] [3, 5, 8, 9, 10, 21] [0] 1 (vals := [.mp 0, .str x_1, .sl false 1 (List.map AV.str names_1), .int .i64 (((names_1).length : Nat) : Int), .int .i64 v_1, .bool ((mget row_1 x_1).getD false)]) (bxs := [.live (.map false [.str] (List.map (mpE AV.str AV.bool) row_1))]) (by kernel_rfl) hmix (ac (keyOk_9 : KeyOk prog 9 false [.str]) (ac (mlook_map (f := AV.str) (g := AV.bool) inj_str row_1 x_1 false : MLook (List.map (mpE AV.str AV.bool) row_1) (.str x_1) (.bool false) (.bool ((mget row_1 x_1).getD false)) (mget row_1 x_1).isSome) an)) ?_
    refine aw_cond (t := 21) (b := ((mget row_1 x_1).getD false)) (by kernel_rfl) (by kernel_rfl) ?_ ?_
    · intro g_3; replace h := cond_t g_3 h
      refine aw_seq (by kernel_rfl) ?_
      refine aw_region [] [2] [] 1 (vals := [.int .i64 (4 : Int)]) (bxs := []) (by kernel_rfl) hmix an ?_
      refine aw_ret (by kernel_rfl) ?_
      replace h := Option.some.inj h; subst h
      exact ⟨rfl, Nat.le_of_ble_eq_true rfl, by kernel_rfl⟩
    intro g_3; replace h := cond_f g_3 h
    refine aw_skip (by kernel_rfl) ?_
    obtain ⟨_, h_4, h⟩ := bind_some h; replace h_4 := need_some h_4
    refine aw_region [(2, { es := (List.map (mpE AV.str AV.bool) (mput row_1 x_1 true)) })] [3, 8, 9, 10] [0] 1 (vals := [.mp 0, .sl false 1 (List.map AV.str names_1), .int .i64 (((names_1).length : Nat) : Int), .int .i64 v_1]) (bxs := [.live (.map false [.str] (List.map (mpE AV.str AV.bool) (mput row_1 x_1 true)))]) (by kernel_rfl) hmix (ac (keyOk_9 : KeyOk prog 9 false [.str]) (ac (mput_map (f := AV.str) (g := AV.bool) inj_str row_1 x_1 true : MPut (List.map (mpE AV.str AV.bool) row_1) (.str x_1) (.bool true) (List.map (mpE AV.str AV.bool) (mput row_1 x_1 true))) (ac (mlen_lt (l := row_1) h_4 : ((List.map (mpE AV.str AV.bool) row_1) : List (AV × AV)).length < maxLen) an))) ?_
    refine aw_region [] [3, 8, 9, 10] [0] 1 (vals := [.mp 0, .sl false 1 (List.map AV.str names_1), .int .i64 (((names_1).length : Nat) : Int), .int .i64 (w_i64 (v_1 + (1 : Int)))]) (bxs := [.live (.map false [.str] (List.map (mpE AV.str AV.bool) (mput row_1 x_1 true)))]) (by kernel_rfl) hmix an ?_
    exact ⟨_, (sub_wkm [0] [] [.s 3, .s 8, .s 9, .s 10] [.s 0] (by kernel_rfl) an), _, _, rfl, h⟩
  intro e st1 hk
  rcases o_1 with q_1 | q_2
  rotate_left
  · obtain ⟨rfl, hf⟩ := hk
    replace h := Option.some.inj h; subst h
    exact ⟨st1, Sub.refl _ _, .inr rfl, hf⟩
  obtain ⟨rfl, hs⟩ := hk
  refine ⟨_, hs, ?_⟩
  refine aw_seq (by kernel_rfl) ?_
  refine aw_region [] [2] [] 0 (vals := [.int .i64 (0 : Int)]) (bxs := []) (by kernel_rfl) hmix an ?_
  refine aw_ret (by kernel_rfl) ?_
  replace h := Option.some.inj h; subst h
  exact ⟨.inr rfl, Nat.le_of_ble_eq_true rfl, by kernel_rfl⟩

theorem intern_Check_ok (F : Nat) (names_1 : List (List Int)) (stacks_1 : List (Arr2_Int)) (r : Int) (h : intern_Check F names_1 stacks_1 = some r) : TripleG prog 19 [] [] [.sl false 1 (List.map AV.str names_1), .sl false 2 (List.map e_Arr2_Int stacks_1)] [] (.int .i64 r) := by
  refine triple_intro (fn := Go.Proofs.Try.f19) (code := codeOf Go.Proofs.Try.f19) (by kernel_rfl) (by kernel_rfl) (Nat.le_of_ble_eq_true (by kernel_rfl)) ?_
  unfold intern_Check at h
  refine aw_seq (by kernel_rfl) ?_
  refine aw_region [] [0, 1] [] 0 (vals := [.sl false 1 (List.map AV.str names_1), .sl false 2 (List.map e_Arr2_Int stacks_1)]) (bxs := []) (by kernel_rfl) hmix an ?_
  refine aw_seq (by kernel_rfl) ?_
  refine aw_seq (by kernel_rfl) ?_
  refine aw_mid (mk [(0, .sl false 1 (List.map AV.str names_1)), (1, .sl false 2 (List.map e_Arr2_Int stacks_1)), (17, .bool (decide ((((names_1).length : Nat) : Int) > (1000 : Int)) || decide ((((stacks_1).length : Nat) : Int) > (1000 : Int))))] [] 0) ?_ ?_
  · rcases Bool.eq_false_or_eq_true (decide ((((names_1).length : Nat) : Int) > (1000 : Int))) with gg_1 | gg_1
    · refine aw_region [(1, { n := (names_1).length }), (4, { g := false }), (5, { g := false }), (6, { g := false }), (7, { b := true })] [0, 1, 17] [] 0 (vals := [.sl false 1 (List.map AV.str names_1), .sl false 2 (List.map e_Arr2_Int stacks_1), .bool true]) (bxs := []) (by kernel_rfl) hmix (ac (vc_len _ : ((List.map AV.str names_1)).length = (names_1).length) (ac gg_1 (ac gg_1 (ac gg_1 (ac gg_1 an))))) ?_
      exact ⟨rfl, (sub_wkm [] [] [.s 0, .s 1, .a 17 (.bool (decide ((((names_1).length : Nat) : Int) > (1000 : Int)) || decide ((((stacks_1).length : Nat) : Int) > (1000 : Int))))] [] (by kernel_rfl) (ac (congrArg AV.bool (ort gg_1) : (.bool true : AV) = .bool (decide ((((names_1).length : Nat) : Int) > (1000 : Int)) || decide ((((stacks_1).length : Nat) : Int) > (1000 : Int)))) an))⟩
    · refine aw_region [(1, { n := (names_1).length }), (5, { n := (stacks_1).length }), (7, { b := false })] [0, 1, 17] [] 0 (vals := [.sl false 1 (List.map AV.str names_1), .sl false 2 (List.map e_Arr2_Int stacks_1), .bool (decide ((((stacks_1).length : Nat) : Int) > (1000 : Int)))]) (bxs := []) (by kernel_rfl) hmix (ac (vc_len _ : ((List.map AV.str names_1)).length = (names_1).length) (ac gg_1 (ac gg_1 (ac (vc_len _ : ((List.map e_Arr2_Int stacks_1)).length = (stacks_1).length) (ac gg_1 (ac gg_1 an)))))) ?_
      exact ⟨rfl, (sub_wkm [] [] [.s 0, .s 1, .a 17 (.bool (decide ((((names_1).length : Nat) : Int) > (1000 : Int)) || decide ((((stacks_1).length : Nat) : Int) > (1000 : Int))))] [] (by kernel_rfl) (ac (congrArg AV.bool (orf gg_1 rfl) : (.bool (decide ((((stacks_1).length : Nat) : Int) > (1000 : Int))) : AV) = .bool (decide ((((names_1).length : Nat) : Int) > (1000 : Int)) || decide ((((stacks_1).length : Nat) : Int) > (1000 : Int)))) an))⟩
  refine aw_cond (t := 17) (b := (decide ((((names_1).length : Nat) : Int) > (1000 : Int)) || decide ((((stacks_1).length : Nat) : Int) > (1000 : Int)))) (by kernel_rfl) (by kernel_rfl) ?_ ?_
  · intro g_1; replace h := cond_t g_1 h
    refine aw_seq (by kernel_rfl) ?_
    refine aw_region [] [4] [] 0 (vals := [.int .i64 (7 : Int)]) (bxs := []) (by kernel_rfl) hmix an ?_
    refine aw_ret (by kernel_rfl) ?_
    replace h := Option.some.inj h; subst h
    exact ⟨.inr rfl, Nat.le_of_ble_eq_true rfl, by kernel_rfl⟩
  intro g_1; replace h := cond_f g_1 h
  refine aw_skip (by kernel_rfl) ?_
  refine aw_seq (by kernel_rfl) ?_
  refine aw_seq (by kernel_rfl) ?_
  obtain ⟨r_1, h_1, h⟩ := bind_some h
  refine aw_region [(1, { av := .int .i64 r_1, l := [.sl false 1 (List.map AV.str names_1)] })] [0, 1, 5] [] 0 (vals := [.sl false 1 (List.map AV.str names_1), .sl false 2 (List.map e_Arr2_Int stacks_1), .int .i64 r_1]) (bxs := []) (by kernel_rfl) hmix (ac (rfl : ([.sl false 1 (List.map AV.str names_1)] : List AV) = [.sl false 1 (List.map AV.str names_1)]) (ac (rfl : ([] : List BoxSt) = []) (ac (intern_checkNames_ok F names_1 r_1 h_1 : TripleG prog 37 [] [] [.sl false 1 (List.map AV.str names_1)] [] (.int .i64 r_1)) an))) ?_
  refine aw_seq (by kernel_rfl) ?_
  refine aw_region [] [0, 1, 5, 21] [] 0 (vals := [.sl false 1 (List.map AV.str names_1), .sl false 2 (List.map e_Arr2_Int stacks_1), .int .i64 r_1, .bool (r_1 != (0 : Int))]) (bxs := []) (by kernel_rfl) hmix an ?_
  refine aw_cond (t := 21) (b := (r_1 != (0 : Int))) (by kernel_rfl) (by kernel_rfl) ?_ ?_
  · intro g_2; replace h := cond_t g_2 h
    refine aw_seq (by kernel_rfl) ?_
    refine aw_region [] [4] [] 0 (vals := [.int .i64 r_1]) (bxs := []) (by kernel_rfl) hmix an ?_
    refine aw_ret (by kernel_rfl) ?_
    replace h := Option.some.inj h; subst h
    exact ⟨.inr rfl, Nat.le_of_ble_eq_true rfl, by kernel_rfl⟩
  intro g_2; replace h := cond_f g_2 h
  refine aw_skip (by kernel_rfl) ?_
  refine aw_seq (by kernel_rfl) ?_
  refine aw_region [(0, { id := 0, mag := true, mks := [.int .i64, .int .i64] })] [0, 1, 6] [0] 1 (vals := [.sl false 1 (List.map AV.str names_1), .sl false 2 (List.map e_Arr2_Int stacks_1), .mp 0]) (bxs := [.live (.map true [.int .i64, .int .i64] [])]) (by kernel_rfl) hmix an ?_
  refine aw_seq (by kernel_rfl) ?_
  obtain ⟨_, h_2, h⟩ := bind_some h; replace h_2 := need_some h_2
  refine aw_region [(1, { n := (stacks_1).length }), (2, { id := 1, l := (List.map (AV.int .i64) (List.replicate ((stacks_1).length) (0 : Int))), m := (stacks_1).length, n := (stacks_1).length })] [0, 1, 6, 7] [0, 1] 2 (vals := [.sl false 1 (List.map AV.str names_1), .sl false 2 (List.map e_Arr2_Int stacks_1), .mp 0, .own 1 ((stacks_1).length)]) (bxs := [.live (.map true [.int .i64, .int .i64] []), .live (.row 3 1 (List.map (AV.int .i64) (List.replicate ((stacks_1).length) (0 : Int))))]) (by kernel_rfl) hmix (ac (vc_len _ : ((List.map e_Arr2_Int stacks_1)).length = (stacks_1).length) (ac (rfl : (((stacks_1).length : Nat) : Int) = (((stacks_1).length : Nat) : Int)) (ac (rfl : (((stacks_1).length : Nat) : Int) = (((stacks_1).length : Nat) : Int)) (ac (Nat.le_refl _ : ((stacks_1).length) ≤ ((stacks_1).length)) (ac h_2 (ac (vc_rep : (List.map (AV.int .i64) (List.replicate ((stacks_1).length) (0 : Int))) = List.replicate ((stacks_1).length) (.int .i64 (0 : Int))) an)))))) ?_
  refine aw_seq (by kernel_rfl) ?_
  refine aw_seq (by kernel_rfl) ?_
  refine aw_region [(1, { n := (stacks_1).length })] [0, 6, 7, 27, 28, 29] [0, 1] 2 (vals := [.sl false 1 (List.map AV.str names_1), .mp 0, .own 1 ((stacks_1).length), .sl false 2 (List.map e_Arr2_Int stacks_1), .int .i64 (((stacks_1).length : Nat) : Int), .int .i64 (0 : Int)]) (bxs := [.live (.map true [.int .i64, .int .i64] []), .live (.row 3 1 (List.map (AV.int .i64) (List.replicate ((stacks_1).length) (0 : Int))))]) (by kernel_rfl) hmix (ac (vc_len _ : ((List.map e_Arr2_Int stacks_1)).length = (stacks_1).length) an) ?_
  obtain ⟨o_1, h_3, h⟩ := bind_some h
  refine aw_conv (K1 := (fun e st' => match o_1 with | (.inl q0) => e = .normal ∧ Sub 0 st' (mk [] [] 0) | (.inr q1) => e = .ret ∧ FinR prog Go.Proofs.Try.f19 0 [] (.int .i64 q1) st')) ?_ ?_
  · replace h := h_3
    refine aw_block (id := 0) (by kernel_rfl) ?_
    refine aw_sub (sub_wkm [0, 1] [] [.s 0, .s 6, .a 7 (.own 1 (((List.replicate ((stacks_1).length) (0 : Int))).length)), .s 27, .s 28, .s 29] [.s 0, .s 1] (sl2 := [(0, .sl false 1 (List.map AV.str names_1)), (6, .mp 0), (7, .own 1 (((List.replicate ((stacks_1).length) (0 : Int))).length)), (27, .sl false 2 (List.map e_Arr2_Int stacks_1)), (28, .int .i64 (((stacks_1).length : Nat) : Int)), (29, .int .i64 (0 : Int))]) (bx2 := [(0, .live (.map true [.int .i64, .int .i64] [])), (1, .live (.row 3 1 (List.map (AV.int .i64) (List.replicate ((stacks_1).length) (0 : Int)))))]) (by kernel_rfl) (ac (congrArg (AV.own _) List.length_replicate.symm : (.own 1 ((stacks_1).length) : AV) = .own 1 (((List.replicate ((stacks_1).length) (0 : Int))).length)) an)) ?_
    refine aw_loopF (fun n st => ∃ (v_1 : Int), ∃ (row_1 : List (Arr2_Int × Bool)), ∃ (row_2 : List Int), st = mk [(0, .sl false 1 (List.map AV.str names_1)), (6, .mp 0), (7, .own 1 ((row_2).length)), (27, .sl false 2 (List.map e_Arr2_Int stacks_1)), (28, .int .i64 (((stacks_1).length : Nat) : Int)), (29, .int .i64 v_1)] [(0, .live (.map true [.int .i64, .int .i64] (List.map (mpE e_Arr2_Int AV.bool) row_1))), (1, .live (.row 3 1 (List.map (AV.int .i64) row_2)))] 2 ∧ intern_Check_L1 F names_1 stacks_1 n v_1 row_1 row_2 = some o_1) F (by kernel_rfl) ⟨_, _, _, rfl, h⟩ ?_ ?_
    · rintro _ ⟨_, _, _, _, h⟩; exact none_ne (h : (none : Option (Unit ⊕ Int)) = some o_1)
    rintro n_1 _ ⟨v_1, row_1, row_2, rfl, h⟩
    replace h : intern_Check_L1_body F names_1 stacks_1 (intern_Check_L1 F names_1 stacks_1 n_1) v_1 row_1 row_2 = some o_1 := h
    unfold intern_Check_L1_body at h
    refine aw_seq (by kernel_rfl) ?_
    refine aw_region [] [0, 6, 7, 27, 28, 29, 30] [0, 1] 2 (vals := [.sl false 1 (List.map AV.str names_1), .mp 0, .own 1 ((row_2).length), .sl false 2 (List.map e_Arr2_Int stacks_1), .int .i64 (((stacks_1).length : Nat) : Int), .int .i64 v_1, .bool (decide (v_1 < (((stacks_1).length : Nat) : Int)))]) (bxs := [.live (.map true [.int .i64, .int .i64] (List.map (mpE e_Arr2_Int AV.bool) row_1)), .live (.row 3 1 (List.map (AV.int .i64) row_2))]) (by kernel_rfl) hmix an ?_
    refine aw_seq (by kernel_rfl) ?_
    refine aw_cond (t := 30) (b := (decide (v_1 < (((stacks_1).length : Nat) : Int)))) (by kernel_rfl) (by kernel_rfl) ?_ ?_
    rotate_left
    · intro g_3; replace h := cond_f g_3 h
      refine aw_exit (id := 0) (by kernel_rfl) ?_
      replace h := Option.some.inj h; subst h
      exact ⟨rfl, (sub_wkm [] [] [] [] (by kernel_rfl) an)⟩
    intro g_3; replace h := cond_t g_3 h
    refine aw_skip (by kernel_rfl) ?_
    refine aw_seq (by kernel_rfl) ?_
    refine aw_block (id := 1) (by kernel_rfl) ?_
    refine aw_seq (by kernel_rfl) ?_
    obtain ⟨x_1, h_4, h⟩ := bind_some h
    refine aw_region [(1, { av := .agg [.int .i64 x_1.c0, .int .i64 x_1.c1] }), (3, { id := 2 })] [0, 6, 7, 8, 9, 27, 28, 29] [0, 1, 2] 3 (vals := [.sl false 1 (List.map AV.str names_1), .mp 0, .own 1 ((row_2).length), .int .i64 v_1, .ptr 2 0 0 0, .sl false 2 (List.map e_Arr2_Int stacks_1), .int .i64 (((stacks_1).length : Nat) : Int), .int .i64 v_1]) (bxs := [.live (.map true [.int .i64, .int .i64] (List.map (mpE e_Arr2_Int AV.bool) row_1)), .live (.row 3 1 (List.map (AV.int .i64) row_2)), .live (.var 67 [.int .i64 x_1.c0, .int .i64 x_1.c1])]) (by kernel_rfl) hmix (ac (vc_idx h_4 : idxA (List.map e_Arr2_Int stacks_1) v_1 = some (.agg [.int .i64 x_1.c0, .int .i64 x_1.c1])) an) ?_
    refine aw_seq (by kernel_rfl) ?_
    refine aw_block (id := 2) (by kernel_rfl) ?_
    refine aw_seq (by kernel_rfl) ?_
    refine aw_mid (mk [(0, .sl false 1 (List.map AV.str names_1)), (6, .mp 0), (7, .own 1 ((row_2).length)), (8, .int .i64 v_1), (9, .ptr 2 0 0 0), (27, .sl false 2 (List.map e_Arr2_Int stacks_1)), (28, .int .i64 (((stacks_1).length : Nat) : Int)), (29, .int .i64 v_1), (34, .bool (decide (x_1.c0 < (-1 : Int)) || (decide (x_1.c0 ≥ v_1) || (decide (x_1.c1 < (0 : Int)) || decide (x_1.c1 ≥ (((names_1).length : Nat) : Int))))))] [(0, .live (.map true [.int .i64, .int .i64] (List.map (mpE e_Arr2_Int AV.bool) row_1))), (1, .live (.row 3 1 (List.map (AV.int .i64) row_2))), (2, .live (.var 67 [.int .i64 x_1.c0, .int .i64 x_1.c1]))] 3) ?_ ?_
    · rcases Bool.eq_false_or_eq_true (decide (x_1.c0 < (-1 : Int))) with gg_11 | gg_11
      · refine aw_region [(4, { g := false }), (5, { g := false }), (6, { g := false }), (7, { g := false }), (8, { b := true }), (10, { g := false }), (11, { g := false }), (12, { g := false }), (13, { b := true }), (15, { g := false }), (16, { g := false }), (17, { g := false }), (18, { g := false }), (19, { g := false }), (20, { b := true })] [0, 6, 7, 8, 9, 27, 28, 29, 34, 39, 40, 41, 42, 45, 46, 47, 50, 51, 52, 53, 54] [0, 1, 2] 3 (vals := [.sl false 1 (List.map AV.str names_1), .mp 0, .own 1 ((row_2).length), .int .i64 v_1, .ptr 2 0 0 0, .sl false 2 (List.map e_Arr2_Int stacks_1), .int .i64 (((stacks_1).length : Nat) : Int), .int .i64 v_1, .bool true, .tuple [], .tuple [], .tuple [], .tuple [], .tuple [], .tuple [], .tuple [], .tuple [], .tuple [], .tuple [], .tuple [], .tuple []]) (bxs := [.live (.map true [.int .i64, .int .i64] (List.map (mpE e_Arr2_Int AV.bool) row_1)), .live (.row 3 1 (List.map (AV.int .i64) row_2)), .live (.var 67 [.int .i64 x_1.c0, .int .i64 x_1.c1])]) (by kernel_rfl) hmix (ac (by decide : (0 : Int) ≤ (0 : Int)) (ac (by decide : (0 : Int) < ((2 : Nat) : Int)) (ac gg_11 (ac gg_11 (ac gg_11 (ac gg_11 (ac gg_11 (ac (rfl : true = !false) (ac (rfl : true = !false) (ac (rfl : true = !false) (ac (rfl : true = true) (ac (rfl : true = !false) (ac (rfl : true = !false) (ac (rfl : true = !false) (ac (rfl : true = !false) (ac (rfl : true = !false) (ac (rfl : true = true) an))))))))))))))))) ?_
        exact ⟨rfl, (sub_wkm [0, 1, 2] [] [.s 0, .s 6, .s 7, .s 8, .s 9, .s 27, .s 28, .s 29, .a 34 (.bool (decide (x_1.c0 < (-1 : Int)) || (decide (x_1.c0 ≥ v_1) || (decide (x_1.c1 < (0 : Int)) || decide (x_1.c1 ≥ (((names_1).length : Nat) : Int))))))] [.s 0, .s 1, .s 2] (by kernel_rfl) (ac (congrArg AV.bool (ort gg_11) : (.bool true : AV) = .bool (decide (x_1.c0 < (-1 : Int)) || (decide (x_1.c0 ≥ v_1) || (decide (x_1.c1 < (0 : Int)) || decide (x_1.c1 ≥ (((names_1).length : Nat) : Int)))))) an))⟩
      · rcases Bool.eq_false_or_eq_true (decide (x_1.c0 ≥ v_1)) with gg_12 | gg_12
        · refine aw_region [(8, { b := false }), (10, { g := false }), (11, { g := false }), (12, { g := false }), (13, { b := true }), (15, { g := false }), (16, { g := false }), (17, { g := false }), (18, { g := false }), (19, { g := false }), (20, { b := true })] [0, 6, 7, 8, 9, 27, 28, 29, 34, 39, 40, 41, 42, 45, 46, 47, 50, 51, 52, 53, 54] [0, 1, 2] 3 (vals := [.sl false 1 (List.map AV.str names_1), .mp 0, .own 1 ((row_2).length), .int .i64 v_1, .ptr 2 0 0 0, .sl false 2 (List.map e_Arr2_Int stacks_1), .int .i64 (((stacks_1).length : Nat) : Int), .int .i64 v_1, .bool true, .ptr 2 0 0 0, .int .i64 x_1.c0, .int .i64 v_1, .bool (decide (x_1.c0 ≥ v_1)), .tuple [], .tuple [], .tuple [], .tuple [], .tuple [], .tuple [], .tuple [], .tuple []]) (bxs := [.live (.map true [.int .i64, .int .i64] (List.map (mpE e_Arr2_Int AV.bool) row_1)), .live (.row 3 1 (List.map (AV.int .i64) row_2)), .live (.var 67 [.int .i64 x_1.c0, .int .i64 x_1.c1])]) (by kernel_rfl) hmix (ac (by decide : (0 : Int) ≤ (0 : Int)) (ac (by decide : (0 : Int) < ((2 : Nat) : Int)) (ac gg_11 (ac (by decide : (0 : Int) ≤ (0 : Int)) (ac (by decide : (0 : Int) < ((2 : Nat) : Int)) (ac gg_11 (ac gg_11 (ac gg_11 (ac gg_11 (ac gg_12 (ac gg_12 (ac gg_12 (ac gg_12 (ac (rfl : true = !false) (ac (rfl : true = !false) (ac (rfl : true = !false) (ac (rfl : true = !false) (ac (rfl : true = !false) (ac (rfl : true = true) an))))))))))))))))))) ?_
          exact ⟨rfl, (sub_wkm [0, 1, 2] [] [.s 0, .s 6, .s 7, .s 8, .s 9, .s 27, .s 28, .s 29, .a 34 (.bool (decide (x_1.c0 < (-1 : Int)) || (decide (x_1.c0 ≥ v_1) || (decide (x_1.c1 < (0 : Int)) || decide (x_1.c1 ≥ (((names_1).length : Nat) : Int))))))] [.s 0, .s 1, .s 2] (by kernel_rfl) (ac (congrArg AV.bool (orf gg_11 (ort gg_12)) : (.bool true : AV) = .bool (decide (x_1.c0 < (-1 : Int)) || (decide (x_1.c0 ≥ v_1) || (decide (x_1.c1 < (0 : Int)) || decide (x_1.c1 ≥ (((names_1).length : Nat) : Int)))))) an))⟩
        · rcases Bool.eq_false_or_eq_true (decide (x_1.c1 < (0 : Int))) with gg_13 | gg_13
          · refine aw_region [(8, { b := false }), (13, { b := false }), (15, { g := false }), (16, { g := false }), (17, { g := false }), (18, { g := false }), (19, { g := false }), (20, { b := true })] [0, 6, 7, 8, 9, 27, 28, 29, 34, 39, 40, 41, 42, 45, 46, 47, 50, 51, 52, 53, 54] [0, 1, 2] 3 (vals := [.sl false 1 (List.map AV.str names_1), .mp 0, .own 1 ((row_2).length), .int .i64 v_1, .ptr 2 0 0 0, .sl false 2 (List.map e_Arr2_Int stacks_1), .int .i64 (((stacks_1).length : Nat) : Int), .int .i64 v_1, .bool true, .ptr 2 0 0 0, .int .i64 x_1.c0, .int .i64 v_1, .bool (decide (x_1.c0 ≥ v_1)), .ptr 2 0 0 1, .int .i64 x_1.c1, .bool (decide (x_1.c1 < (0 : Int))), .tuple [], .tuple [], .tuple [], .tuple [], .tuple []]) (bxs := [.live (.map true [.int .i64, .int .i64] (List.map (mpE e_Arr2_Int AV.bool) row_1)), .live (.row 3 1 (List.map (AV.int .i64) row_2)), .live (.var 67 [.int .i64 x_1.c0, .int .i64 x_1.c1])]) (by kernel_rfl) hmix (ac (by decide : (0 : Int) ≤ (0 : Int)) (ac (by decide : (0 : Int) < ((2 : Nat) : Int)) (ac gg_11 (ac (by decide : (0 : Int) ≤ (0 : Int)) (ac (by decide : (0 : Int) < ((2 : Nat) : Int)) (ac gg_11 (ac gg_11 (ac gg_11 (ac gg_11 (ac gg_12 (ac (by decide : (0 : Int) ≤ (1 : Int)) (ac (by decide : (1 : Int) < ((2 : Nat) : Int)) (ac gg_12 (ac gg_12 (ac gg_12 (ac gg_13 (ac gg_13 (ac gg_13 (ac gg_13 (ac gg_13 (ac gg_13 an))))))))))))))))))))) ?_
            exact ⟨rfl, (sub_wkm [0, 1, 2] [] [.s 0, .s 6, .s 7, .s 8, .s 9, .s 27, .s 28, .s 29, .a 34 (.bool (decide (x_1.c0 < (-1 : Int)) || (decide (x_1.c0 ≥ v_1) || (decide (x_1.c1 < (0 : Int)) || decide (x_1.c1 ≥ (((names_1).length : Nat) : Int))))))] [.s 0, .s 1, .s 2] (by kernel_rfl) (ac (congrArg AV.bool (orf gg_11 (orf gg_12 (ort gg_13))) : (.bool true : AV) = .bool (decide (x_1.c0 < (-1 : Int)) || (decide (x_1.c0 ≥ v_1) || (decide (x_1.c1 < (0 : Int)) || decide (x_1.c1 ≥ (((names_1).length : Nat) : Int)))))) an))⟩
          · refine aw_region [(8, { b := false }), (13, { b := false }), (18, { n := (names_1).length }), (20, { b := false })] [0, 6, 7, 8, 9, 27, 28, 29, 34, 39, 40, 41, 42, 45, 46, 47, 50, 51, 52, 53, 54] [0, 1, 2] 3 (vals := [.sl false 1 (List.map AV.str names_1), .mp 0, .own 1 ((row_2).length), .int .i64 v_1, .ptr 2 0 0 0, .sl false 2 (List.map e_Arr2_Int stacks_1), .int .i64 (((stacks_1).length : Nat) : Int), .int .i64 v_1, .bool (decide (x_1.c1 ≥ (((names_1).length : Nat) : Int))), .ptr 2 0 0 0, .int .i64 x_1.c0, .int .i64 v_1, .bool (decide (x_1.c0 ≥ v_1)), .ptr 2 0 0 1, .int .i64 x_1.c1, .bool (decide (x_1.c1 < (0 : Int))), .ptr 2 0 0 1, .int .i64 x_1.c1, .sl false 1 (List.map AV.str names_1), .int .i64 (((names_1).length : Nat) : Int), .bool (decide (x_1.c1 ≥ (((names_1).length : Nat) : Int)))]) (bxs := [.live (.map true [.int .i64, .int .i64] (List.map (mpE e_Arr2_Int AV.bool) row_1)), .live (.row 3 1 (List.map (AV.int .i64) row_2)), .live (.var 67 [.int .i64 x_1.c0, .int .i64 x_1.c1])]) (by kernel_rfl) hmix (ac (by decide : (0 : Int) ≤ (0 : Int)) (ac (by decide : (0 : Int) < ((2 : Nat) : Int)) (ac gg_11 (ac (by decide : (0 : Int) ≤ (0 : Int)) (ac (by decide : (0 : Int) < ((2 : Nat) : Int)) (ac gg_11 (ac gg_11 (ac gg_11 (ac gg_11 (ac gg_12 (ac (by decide : (0 : Int) ≤ (1 : Int)) (ac (by decide : (1 : Int) < ((2 : Nat) : Int)) (ac gg_12 (ac gg_12 (ac gg_12 (ac gg_13 (ac (by decide : (0 : Int) ≤ (1 : Int)) (ac (by decide : (1 : Int) < ((2 : Nat) : Int)) (ac gg_13 (ac gg_13 (ac gg_13 (ac (vc_len _ : ((List.map AV.str names_1)).length = (names_1).length) (ac gg_13 (ac gg_13 an)))))))))))))))))))))))) ?_
            exact ⟨rfl, (sub_wkm [0, 1, 2] [] [.s 0, .s 6, .s 7, .s 8, .s 9, .s 27, .s 28, .s 29, .a 34 (.bool (decide (x_1.c0 < (-1 : Int)) || (decide (x_1.c0 ≥ v_1) || (decide (x_1.c1 < (0 : Int)) || decide (x_1.c1 ≥ (((names_1).length : Nat) : Int))))))] [.s 0, .s 1, .s 2] (by kernel_rfl) (ac (congrArg AV.bool (orf gg_11 (orf gg_12 (orf gg_13 rfl))) : (.bool (decide (x_1.c1 ≥ (((names_1).length : Nat) : Int))) : AV) = .bool (decide (x_1.c0 < (-1 : Int)) || (decide (x_1.c0 ≥ v_1) || (decide (x_1.c1 < (0 : Int)) || decide (x_1.c1 ≥ (((names_1).length : Nat) : Int)))))) an))⟩
    refine aw_cond (t := 34) (b := (decide (x_1.c0 < (-1 : Int)) || (decide (x_1.c0 ≥ v_1) || (decide (x_1.c1 < (0 : Int)) || decide (x_1.c1 ≥ (((names_1).length : Nat) : Int)))))) (by kernel_rfl) (by kernel_rfl) ?_ ?_
    · intro g_4; replace h := cond_t g_4 h
      refine aw_seq (by kernel_rfl) ?_
      refine aw_region [] [4] [] 3 (vals := [.int .i64 (2 : Int)]) (bxs := []) (by kernel_rfl) hmix an ?_
      refine aw_ret (by kernel_rfl) ?_
      replace h := Option.some.inj h; subst h
      exact ⟨rfl, Nat.le_of_ble_eq_true rfl, by kernel_rfl⟩
    intro g_4; replace h := cond_f g_4 h
    refine aw_seq (by kernel_rfl) ?_
    refine aw_region [(2, { av := (.bool ((mget row_1 x_1).getD false)), g := (mget row_1 x_1).isSome })] [0, 6, 7, 8, 9, 27, 28, 29, 56] [0, 1, 2] 3 (vals := [.sl false 1 (List.map AV.str names_1), .mp 0, .own 1 ((row_2).length), .int .i64 v_1, .ptr 2 0 0 0, .sl false 2 (List.map e_Arr2_Int stacks_1), .int .i64 (((stacks_1).length : Nat) : Int), .int .i64 v_1, .bool ((mget row_1 x_1).getD false)]) (bxs := [.live (.map true [.int .i64, .int .i64] (List.map (mpE e_Arr2_Int AV.bool) row_1)), .live (.row 3 1 (List.map (AV.int .i64) row_2)), .live (.var 67 [.int .i64 x_1.c0, .int .i64 x_1.c1])]) (by kernel_rfl) hmix (ac (keyOk_67 : KeyOk prog 67 true [.int .i64, .int .i64]) (ac (mlook_map (f := e_Arr2_Int) (g := AV.bool) inj_Arr2_Int row_1 x_1 false : MLook (List.map (mpE e_Arr2_Int AV.bool) row_1) (.agg [.int .i64 x_1.c0, .int .i64 x_1.c1]) (.bool false) (.bool ((mget row_1 x_1).getD false)) (mget row_1 x_1).isSome) an)) ?_
    refine aw_cond (t := 56) (b := ((mget row_1 x_1).getD false)) (by kernel_rfl) (by kernel_rfl) ?_ ?_
    · intro g_5; replace h := cond_t g_5 h
      refine aw_seq (by kernel_rfl) ?_
      refine aw_region [] [4] [] 3 (vals := [.int .i64 (4 : Int)]) (bxs := []) (by kernel_rfl) hmix an ?_
      refine aw_ret (by kernel_rfl) ?_
      replace h := Option.some.inj h; subst h
      exact ⟨rfl, Nat.le_of_ble_eq_true rfl, by kernel_rfl⟩
    intro g_5; replace h := cond_f g_5 h
    refine aw_skip (by kernel_rfl) ?_
    refine aw_seq (by kernel_rfl) ?_
    obtain ⟨_, h_5, h⟩ := bind_some h; replace h_5 := need_some h_5
    refine aw_region [(2, { es := (List.map (mpE e_Arr2_Int AV.bool) (mput row_1 x_1 true)) })] [0, 6, 7, 8, 9, 27, 28, 29] [0, 1, 2] 3 (vals := [.sl false 1 (List.map AV.str names_1), .mp 0, .own 1 ((row_2).length), .int .i64 v_1, .ptr 2 0 0 0, .sl false 2 (List.map e_Arr2_Int stacks_1), .int .i64 (((stacks_1).length : Nat) : Int), .int .i64 v_1]) (bxs := [.live (.map true [.int .i64, .int .i64] (List.map (mpE e_Arr2_Int AV.bool) (mput row_1 x_1 true))), .live (.row 3 1 (List.map (AV.int .i64) row_2)), .live (.var 67 [.int .i64 x_1.c0, .int .i64 x_1.c1])]) (by kernel_rfl) hmix (ac (keyOk_67 : KeyOk prog 67 true [.int .i64, .int .i64]) (ac (mput_map (f := e_Arr2_Int) (g := AV.bool) inj_Arr2_Int row_1 x_1 true : MPut (List.map (mpE e_Arr2_Int AV.bool) row_1) (.agg [.int .i64 x_1.c0, .int .i64 x_1.c1]) (.bool true) (List.map (mpE e_Arr2_Int AV.bool) (mput row_1 x_1 true))) (ac (mlen_lt (l := row_1) h_5 : ((List.map (mpE e_Arr2_Int AV.bool) row_1) : List (AV × AV)).length < maxLen) an))) ?_
    refine aw_seq (by kernel_rfl) ?_
    obtain ⟨x_2, h_6, h⟩ := bind_some h
    refine aw_region [(3, { av := .int .i64 x_2, l := (List.map (AV.int .i64) ((row_2).set ((v_1).toNat) (1 : Int))) })] [0, 6, 7, 8, 9, 27, 28, 29] [0, 1, 2] 3 (vals := [.sl false 1 (List.map AV.str names_1), .mp 0, .own 1 ((row_2).length), .int .i64 v_1, .ptr 2 0 0 0, .sl false 2 (List.map e_Arr2_Int stacks_1), .int .i64 (((stacks_1).length : Nat) : Int), .int .i64 v_1]) (bxs := [.live (.map true [.int .i64, .int .i64] (List.map (mpE e_Arr2_Int AV.bool) (mput row_1 x_1 true))), .live (.row 3 1 (List.map (AV.int .i64) ((row_2).set ((v_1).toNat) (1 : Int)))), .live (.var 67 [.int .i64 x_1.c0, .int .i64 x_1.c1])]) (by kernel_rfl) hmix (ac (idxL_lo h_6 : (0 : Int) ≤ v_1) (ac (by first | (simp; done) | simpa using idxL_hi h_6 : v_1 < (((row_2).length : Nat) : Int)) (ac (vc_get h_6 : (List.map (AV.int .i64) row_2)[(v_1).toNat]? = some (.int .i64 x_2)) (ac (vc_set _ _ _ : (List.map (AV.int .i64) ((row_2).set ((v_1).toNat) (1 : Int))) = List.set (List.map (AV.int .i64) row_2) ((v_1).toNat) (setElem (.int .i64 x_2) 0 [.int .i64 (1 : Int)])) an)))) ?_
    refine aw_seq (by kernel_rfl) ?_
    refine aw_seq (by kernel_rfl) ?_
    refine aw_region [] [0, 6, 7, 8, 9, 27, 28, 29, 67] [0, 1, 2] 3 (vals := [.sl false 1 (List.map AV.str names_1), .mp 0, .own 1 ((row_2).length), .int .i64 v_1, .ptr 2 0 0 0, .sl false 2 (List.map e_Arr2_Int stacks_1), .int .i64 (((stacks_1).length : Nat) : Int), .int .i64 v_1, .bool (x_1.c0 != (-1 : Int))]) (bxs := [.live (.map true [.int .i64, .int .i64] (List.map (mpE e_Arr2_Int AV.bool) (mput row_1 x_1 true))), .live (.row 3 1 (List.map (AV.int .i64) ((row_2).set ((v_1).toNat) (1 : Int)))), .live (.var 67 [.int .i64 x_1.c0, .int .i64 x_1.c1])]) (by kernel_rfl) hmix (ac (by decide : (0 : Int) ≤ (0 : Int)) (ac (by decide : (0 : Int) < ((2 : Nat) : Int)) an)) ?_
    obtain ⟨o_2, h_7, h⟩ := bind_some h
    refine aw_mid (mk [(0, .sl false 1 (List.map AV.str names_1)), (6, .mp 0), (7, .own 1 ((o_2).length)), (8, .int .i64 v_1), (27, .sl false 2 (List.map e_Arr2_Int stacks_1)), (28, .int .i64 (((stacks_1).length : Nat) : Int)), (29, .int .i64 v_1)] [(0, .live (.map true [.int .i64, .int .i64] (List.map (mpE e_Arr2_Int AV.bool) (mput row_1 x_1 true)))), (1, .live (.row 3 1 (List.map (AV.int .i64) o_2)))] 2) ?_ ?_
    · replace h := h_7
      refine aw_cond (t := 67) (b := (x_1.c0 != (-1 : Int))) (by kernel_rfl) (by kernel_rfl) ?_ ?_
      rotate_left
      · intro g_6; replace h := cond_f g_6 h
        refine aw_skip (by kernel_rfl) ?_
        replace h := Option.some.inj h; subst h
        exact ⟨rfl, (sub_wkm [0, 1] [] [.s 0, .s 6, .a 7 (.own 1 (((row_2).set ((v_1).toNat) (1 : Int)).length)), .s 8, .s 27, .s 28, .s 29] [.s 0, .s 1] (by kernel_rfl) (ac (congrArg (AV.own _) (by first | (simp; done) | (simp; omega)) : (.own 1 ((row_2).length) : AV) = .own 1 (((row_2).set ((v_1).toNat) (1 : Int)).length)) an))⟩
      intro g_6; replace h := cond_t g_6 h
      obtain ⟨x_3, h_8, h⟩ := bind_some h
      obtain ⟨x_4, h_9, h⟩ := bind_some h
      obtain ⟨x_5, h_10, h⟩ := bind_some h
      refine aw_region [(3, { av := .int .i64 x_3 }), (8, { av := .int .i64 x_4 }), (11, { av := .int .i64 x_5, l := (List.map (AV.int .i64) (((row_2).set ((v_1).toNat) (1 : Int)).set ((v_1).toNat) (w_i64 (x_3 + x_4)))) })] [0, 6, 7, 8, 27, 28, 29] [0, 1] 3 (vals := [.sl false 1 (List.map AV.str names_1), .mp 0, .own 1 ((row_2).length), .int .i64 v_1, .sl false 2 (List.map e_Arr2_Int stacks_1), .int .i64 (((stacks_1).length : Nat) : Int), .int .i64 v_1]) (bxs := [.live (.map true [.int .i64, .int .i64] (List.map (mpE e_Arr2_Int AV.bool) (mput row_1 x_1 true))), .live (.row 3 1 (List.map (AV.int .i64) (((row_2).set ((v_1).toNat) (1 : Int)).set ((v_1).toNat) (w_i64 (x_3 + x_4)))))]) (by kernel_rfl) hmix (ac (idxL_lo h_8 : (0 : Int) ≤ v_1) (ac (by first | (simp; done) | simpa using idxL_hi h_8 : v_1 < (((row_2).length : Nat) : Int)) (ac (vc_get h_8 : (List.map (AV.int .i64) ((row_2).set ((v_1).toNat) (1 : Int)))[(v_1).toNat]? = some (.int .i64 x_3)) (ac (by decide : (0 : Int) ≤ (0 : Int)) (ac (by decide : (0 : Int) < ((2 : Nat) : Int)) (ac (idxL_lo h_9 : (0 : Int) ≤ x_1.c0) (ac (by first | (simp; done) | simpa using idxL_hi h_9 : x_1.c0 < (((row_2).length : Nat) : Int)) (ac (vc_get h_9 : (List.map (AV.int .i64) ((row_2).set ((v_1).toNat) (1 : Int)))[(x_1.c0).toNat]? = some (.int .i64 x_4)) (ac (idxL_lo h_10 : (0 : Int) ≤ v_1) (ac (by first | (simp; done) | simpa using idxL_hi h_10 : v_1 < (((row_2).length : Nat) : Int)) (ac (vc_get h_10 : (List.map (AV.int .i64) ((row_2).set ((v_1).toNat) (1 : Int)))[(v_1).toNat]? = some (.int .i64 x_5)) (ac (vc_set _ _ _ : (List.map (AV.int .i64) (((row_2).set ((v_1).toNat) (1 : Int)).set ((v_1).toNat) (w_i64 (x_3 + x_4)))) = List.set (List.map (AV.int .i64) ((row_2).set ((v_1).toNat) (1 : Int))) ((v_1).toNat) (setElem (.int .i64 x_5) 0 [.int .i64 (w_i64 (x_3 + x_4))])) an)))))))))))) ?_
      replace h := Option.some.inj h; subst h
      exact ⟨rfl, (sub_wkm [0, 1] [] [.s 0, .s 6, .a 7 (.own 1 ((((row_2).set ((v_1).toNat) (1 : Int)).set ((v_1).toNat) (w_i64 (x_3 + x_4))).length)), .s 8, .s 27, .s 28, .s 29] [.s 0, .s 1] (by kernel_rfl) (ac (congrArg (AV.own _) (by first | (simp; done) | (simp; omega)) : (.own 1 ((row_2).length) : AV) = .own 1 ((((row_2).set ((v_1).toNat) (1 : Int)).set ((v_1).toNat) (w_i64 (x_3 + x_4))).length)) an))⟩
    refine aw_seq (by kernel_rfl) ?_
    obtain ⟨x_6, h_11, h⟩ := bind_some h
    refine aw_region [(3, { av := .int .i64 x_6 })] [0, 6, 7, 27, 28, 29, 83] [0, 1] 2 (vals := [.sl false 1 (List.map AV.str names_1), .mp 0, .own 1 ((o_2).length), .sl false 2 (List.map e_Arr2_Int stacks_1), .int .i64 (((stacks_1).length : Nat) : Int), .int .i64 v_1, .bool (decide (x_6 > (32 : Int)))]) (bxs := [.live (.map true [.int .i64, .int .i64] (List.map (mpE e_Arr2_Int AV.bool) (mput row_1 x_1 true))), .live (.row 3 1 (List.map (AV.int .i64) o_2))]) (by kernel_rfl) hmix (ac (idxL_lo h_11 : (0 : Int) ≤ v_1) (ac (by first | (simp; done) | simpa using idxL_hi h_11 : v_1 < (((o_2).length : Nat) : Int)) (ac (vc_get h_11 : (List.map (AV.int .i64) o_2)[(v_1).toNat]? = some (.int .i64 x_6)) an))) ?_
    refine aw_cond (t := 83) (b := (decide (x_6 > (32 : Int)))) (by kernel_rfl) (by kernel_rfl) ?_ ?_
    rotate_left
    · intro g_7; replace h := cond_f g_7 h
      refine aw_skip (by kernel_rfl) ?_
      refine aw_region [] [0, 6, 7, 27, 28, 29] [0, 1] 2 (vals := [.sl false 1 (List.map AV.str names_1), .mp 0, .own 1 ((o_2).length), .sl false 2 (List.map e_Arr2_Int stacks_1), .int .i64 (((stacks_1).length : Nat) : Int), .int .i64 (w_i64 (v_1 + (1 : Int)))]) (bxs := [.live (.map true [.int .i64, .int .i64] (List.map (mpE e_Arr2_Int AV.bool) (mput row_1 x_1 true))), .live (.row 3 1 (List.map (AV.int .i64) o_2))]) (by kernel_rfl) hmix an ?_
      exact ⟨_, (sub_wkm [0, 1] [] [.s 0, .s 6, .s 7, .s 27, .s 28, .s 29] [.s 0, .s 1] (by kernel_rfl) an), _, _, _, rfl, h⟩
    intro g_7; replace h := cond_t g_7 h
    refine aw_seq (by kernel_rfl) ?_
    refine aw_region [] [4] [] 2 (vals := [.int .i64 (7 : Int)]) (bxs := []) (by kernel_rfl) hmix an ?_
    refine aw_ret (by kernel_rfl) ?_
    replace h := Option.some.inj h; subst h
    exact ⟨rfl, Nat.le_of_ble_eq_true rfl, by kernel_rfl⟩
  intro e st1 hk
  rcases o_1 with q_1 | q_2
  rotate_left
  · obtain ⟨rfl, hf⟩ := hk
    replace h := Option.some.inj h; subst h
    exact ⟨st1, Sub.refl _ _, .inr rfl, hf⟩
  obtain ⟨rfl, hs⟩ := hk
  refine ⟨_, hs, ?_⟩
  refine aw_seq (by kernel_rfl) ?_
  refine aw_region [] [4] [] 0 (vals := [.int .i64 (0 : Int)]) (bxs := []) (by kernel_rfl) hmix an ?_
  refine aw_ret (by kernel_rfl) ?_
  replace h := Option.some.inj h; subst h
  exact ⟨.inr rfl, Nat.le_of_ble_eq_true rfl, by kernel_rfl⟩

theorem event_forms_ok (r : (List (T_event_form))) (h : event_forms = some r) : TripleG prog 58 [] [] [] [.row 71 9 (List.map e_T_event_form r)] (.own 0 ((r).length)) := by
  refine triple_intro (fn := Go.Proofs.Try.f58) (code := codeOf Go.Proofs.Try.f58) (by kernel_rfl) (by kernel_rfl) (Nat.le_of_ble_eq_true (by kernel_rfl)) ?_
  unfold event_forms at h
  refine aw_seq (by kernel_rfl) ?_
  refine aw_region [(0, { id := 0, m := 1 })] [] [] 1 (vals := []) (bxs := []) (by kernel_rfl) hmix an ?_
  refine aw_seq (by kernel_rfl) ?_
  refine aw_region [(13, { id := 1 })] [0] [1] 2 (vals := [.own 1 13]) (bxs := [.live (.row 71 9 (List.map e_T_event_form ([(⟨([] : List Int), false, false, false, false, (0 : Int), (0 : Int), (0 : Int), (0 : Int)⟩ : T_event_form), (⟨([98, 101, 103, 105, 110] : List Int), true, false, false, false, (0 : Int), (0 : Int), (0 : Int), (0 : Int)⟩ : T_event_form), (⟨([101, 110, 100] : List Int), false, false, false, false, (0 : Int), (0 : Int), (0 : Int), (0 : Int)⟩ : T_event_form), (⟨([109, 97, 114, 107] : List Int), true, false, false, false, (0 : Int), (0 : Int), (0 : Int), (0 : Int)⟩ : T_event_form), (⟨([99, 111, 117, 110, 116] : List Int), true, true, false, false, (-1000000000000000 : Int), (1000000000000000 : Int), (0 : Int), (0 : Int)⟩ : T_event_form), (⟨([115, 97, 109, 112, 108, 101] : List Int), false, true, false, true, (1 : Int), (1000000000000 : Int), (0 : Int), (0 : Int)⟩ : T_event_form), (⟨([115, 101, 110, 100] : List Int), false, true, false, false, (0 : Int), (1000000000000000 : Int), (0 : Int), (0 : Int)⟩ : T_event_form), (⟨([114, 101, 99, 118] : List Int), false, true, false, false, (0 : Int), (1000000000000000 : Int), (0 : Int), (0 : Int)⟩ : T_event_form), (⟨([114, 117, 110] : List Int), false, true, false, false, (0 : Int), (63 : Int), (0 : Int), (0 : Int)⟩ : T_event_form), (⟨([115, 116, 111, 112] : List Int), false, true, true, false, (0 : Int), (3 : Int), (0 : Int), (1000000000000000 : Int)⟩ : T_event_form), (⟨([119, 97, 107, 101] : List Int), false, true, false, false, (0 : Int), (1000000000000000 : Int), (0 : Int), (0 : Int)⟩ : T_event_form), (⟨([97, 108, 108, 111, 99] : List Int), false, true, true, true, (0 : Int), (1000000000000000 : Int), (1 : Int), (1000000000000 : Int)⟩ : T_event_form), (⟨([102, 114, 101, 101] : List Int), false, true, false, false, (0 : Int), (1000000000000000 : Int), (0 : Int), (0 : Int)⟩ : T_event_form)] : List T_event_form)))]) (by kernel_rfl) hmix an ?_
  refine aw_sub (sub_wkm [1] [] [.a 0 (.own 0 ((([(⟨([] : List Int), false, false, false, false, (0 : Int), (0 : Int), (0 : Int), (0 : Int)⟩ : T_event_form), (⟨([98, 101, 103, 105, 110] : List Int), true, false, false, false, (0 : Int), (0 : Int), (0 : Int), (0 : Int)⟩ : T_event_form), (⟨([101, 110, 100] : List Int), false, false, false, false, (0 : Int), (0 : Int), (0 : Int), (0 : Int)⟩ : T_event_form), (⟨([109, 97, 114, 107] : List Int), true, false, false, false, (0 : Int), (0 : Int), (0 : Int), (0 : Int)⟩ : T_event_form), (⟨([99, 111, 117, 110, 116] : List Int), true, true, false, false, (-1000000000000000 : Int), (1000000000000000 : Int), (0 : Int), (0 : Int)⟩ : T_event_form), (⟨([115, 97, 109, 112, 108, 101] : List Int), false, true, false, true, (1 : Int), (1000000000000 : Int), (0 : Int), (0 : Int)⟩ : T_event_form), (⟨([115, 101, 110, 100] : List Int), false, true, false, false, (0 : Int), (1000000000000000 : Int), (0 : Int), (0 : Int)⟩ : T_event_form), (⟨([114, 101, 99, 118] : List Int), false, true, false, false, (0 : Int), (1000000000000000 : Int), (0 : Int), (0 : Int)⟩ : T_event_form), (⟨([114, 117, 110] : List Int), false, true, false, false, (0 : Int), (63 : Int), (0 : Int), (0 : Int)⟩ : T_event_form), (⟨([115, 116, 111, 112] : List Int), false, true, true, false, (0 : Int), (3 : Int), (0 : Int), (1000000000000000 : Int)⟩ : T_event_form), (⟨([119, 97, 107, 101] : List Int), false, true, false, false, (0 : Int), (1000000000000000 : Int), (0 : Int), (0 : Int)⟩ : T_event_form), (⟨([97, 108, 108, 111, 99] : List Int), false, true, true, true, (0 : Int), (1000000000000000 : Int), (1 : Int), (1000000000000 : Int)⟩ : T_event_form), (⟨([102, 114, 101, 101] : List Int), false, true, false, false, (0 : Int), (1000000000000000 : Int), (0 : Int), (0 : Int)⟩ : T_event_form)] : List T_event_form)).length))] [.s 0] (sl2 := [(0, .own 0 ((([(⟨([] : List Int), false, false, false, false, (0 : Int), (0 : Int), (0 : Int), (0 : Int)⟩ : T_event_form), (⟨([98, 101, 103, 105, 110] : List Int), true, false, false, false, (0 : Int), (0 : Int), (0 : Int), (0 : Int)⟩ : T_event_form), (⟨([101, 110, 100] : List Int), false, false, false, false, (0 : Int), (0 : Int), (0 : Int), (0 : Int)⟩ : T_event_form), (⟨([109, 97, 114, 107] : List Int), true, false, false, false, (0 : Int), (0 : Int), (0 : Int), (0 : Int)⟩ : T_event_form), (⟨([99, 111, 117, 110, 116] : List Int), true, true, false, false, (-1000000000000000 : Int), (1000000000000000 : Int), (0 : Int), (0 : Int)⟩ : T_event_form), (⟨([115, 97, 109, 112, 108, 101] : List Int), false, true, false, true, (1 : Int), (1000000000000 : Int), (0 : Int), (0 : Int)⟩ : T_event_form), (⟨([115, 101, 110, 100] : List Int), false, true, false, false, (0 : Int), (1000000000000000 : Int), (0 : Int), (0 : Int)⟩ : T_event_form), (⟨([114, 101, 99, 118] : List Int), false, true, false, false, (0 : Int), (1000000000000000 : Int), (0 : Int), (0 : Int)⟩ : T_event_form), (⟨([114, 117, 110] : List Int), false, true, false, false, (0 : Int), (63 : Int), (0 : Int), (0 : Int)⟩ : T_event_form), (⟨([115, 116, 111, 112] : List Int), false, true, true, false, (0 : Int), (3 : Int), (0 : Int), (1000000000000000 : Int)⟩ : T_event_form), (⟨([119, 97, 107, 101] : List Int), false, true, false, false, (0 : Int), (1000000000000000 : Int), (0 : Int), (0 : Int)⟩ : T_event_form), (⟨([97, 108, 108, 111, 99] : List Int), false, true, true, true, (0 : Int), (1000000000000000 : Int), (1 : Int), (1000000000000 : Int)⟩ : T_event_form), (⟨([102, 114, 101, 101] : List Int), false, true, false, false, (0 : Int), (1000000000000000 : Int), (0 : Int), (0 : Int)⟩ : T_event_form)] : List T_event_form)).length))]) (bx2 := [(0, .live (.row 71 9 (List.map e_T_event_form ([(⟨([] : List Int), false, false, false, false, (0 : Int), (0 : Int), (0 : Int), (0 : Int)⟩ : T_event_form), (⟨([98, 101, 103, 105, 110] : List Int), true, false, false, false, (0 : Int), (0 : Int), (0 : Int), (0 : Int)⟩ : T_event_form), (⟨([101, 110, 100] : List Int), false, false, false, false, (0 : Int), (0 : Int), (0 : Int), (0 : Int)⟩ : T_event_form), (⟨([109, 97, 114, 107] : List Int), true, false, false, false, (0 : Int), (0 : Int), (0 : Int), (0 : Int)⟩ : T_event_form), (⟨([99, 111, 117, 110, 116] : List Int), true, true, false, false, (-1000000000000000 : Int), (1000000000000000 : Int), (0 : Int), (0 : Int)⟩ : T_event_form), (⟨([115, 97, 109, 112, 108, 101] : List Int), false, true, false, true, (1 : Int), (1000000000000 : Int), (0 : Int), (0 : Int)⟩ : T_event_form), (⟨([115, 101, 110, 100] : List Int), false, true, false, false, (0 : Int), (1000000000000000 : Int), (0 : Int), (0 : Int)⟩ : T_event_form), (⟨([114, 101, 99, 118] : List Int), false, true, false, false, (0 : Int), (1000000000000000 : Int), (0 : Int), (0 : Int)⟩ : T_event_form), (⟨([114, 117, 110] : List Int), false, true, false, false, (0 : Int), (63 : Int), (0 : Int), (0 : Int)⟩ : T_event_form), (⟨([115, 116, 111, 112] : List Int), false, true, true, false, (0 : Int), (3 : Int), (0 : Int), (1000000000000000 : Int)⟩ : T_event_form), (⟨([119, 97, 107, 101] : List Int), false, true, false, false, (0 : Int), (1000000000000000 : Int), (0 : Int), (0 : Int)⟩ : T_event_form), (⟨([97, 108, 108, 111, 99] : List Int), false, true, true, true, (0 : Int), (1000000000000000 : Int), (1 : Int), (1000000000000 : Int)⟩ : T_event_form), (⟨([102, 114, 101, 101] : List Int), false, true, false, false, (0 : Int), (1000000000000000 : Int), (0 : Int), (0 : Int)⟩ : T_event_form)] : List T_event_form))))]) (by kernel_rfl) (ac (congrArg (AV.own _) (by first | (simp; done) | (simp; omega)) : (.own 1 13 : AV) = .own 1 ((([(⟨([] : List Int), false, false, false, false, (0 : Int), (0 : Int), (0 : Int), (0 : Int)⟩ : T_event_form), (⟨([98, 101, 103, 105, 110] : List Int), true, false, false, false, (0 : Int), (0 : Int), (0 : Int), (0 : Int)⟩ : T_event_form), (⟨([101, 110, 100] : List Int), false, false, false, false, (0 : Int), (0 : Int), (0 : Int), (0 : Int)⟩ : T_event_form), (⟨([109, 97, 114, 107] : List Int), true, false, false, false, (0 : Int), (0 : Int), (0 : Int), (0 : Int)⟩ : T_event_form), (⟨([99, 111, 117, 110, 116] : List Int), true, true, false, false, (-1000000000000000 : Int), (1000000000000000 : Int), (0 : Int), (0 : Int)⟩ : T_event_form), (⟨([115, 97, 109, 112, 108, 101] : List Int), false, true, false, true, (1 : Int), (1000000000000 : Int), (0 : Int), (0 : Int)⟩ : T_event_form), (⟨([115, 101, 110, 100] : List Int), false, true, false, false, (0 : Int), (1000000000000000 : Int), (0 : Int), (0 : Int)⟩ : T_event_form), (⟨([114, 101, 99, 118] : List Int), false, true, false, false, (0 : Int), (1000000000000000 : Int), (0 : Int), (0 : Int)⟩ : T_event_form), (⟨([114, 117, 110] : List Int), false, true, false, false, (0 : Int), (63 : Int), (0 : Int), (0 : Int)⟩ : T_event_form), (⟨([115, 116, 111, 112] : List Int), false, true, true, false, (0 : Int), (3 : Int), (0 : Int), (1000000000000000 : Int)⟩ : T_event_form), (⟨([119, 97, 107, 101] : List Int), false, true, false, false, (0 : Int), (1000000000000000 : Int), (0 : Int), (0 : Int)⟩ : T_event_form), (⟨([97, 108, 108, 111, 99] : List Int), false, true, true, true, (0 : Int), (1000000000000000 : Int), (1 : Int), (1000000000000 : Int)⟩ : T_event_form), (⟨([102, 114, 101, 101] : List Int), false, true, false, false, (0 : Int), (1000000000000000 : Int), (0 : Int), (0 : Int)⟩ : T_event_form)] : List T_event_form)).length)) an)) ?_
  refine aw_ret (by kernel_rfl) ?_
  replace h := Option.some.inj h; subst h
  exact ⟨.inr rfl, Nat.le_of_ble_eq_true rfl, by kernel_rfl⟩

theorem event_formOf_ok (k_1 : Int) (r : T_event_form × Bool) (h : event_formOf k_1 = some r) : TripleG prog 38 [] [] [.int .i64 k_1] [] (.tuple [e_T_event_form r.1, .bool r.2]) := by
  refine triple_intro (fn := Go.Proofs.Try.f38) (code := codeOf Go.Proofs.Try.f38) (by kernel_rfl) (by kernel_rfl) (Nat.le_of_ble_eq_true (by kernel_rfl)) ?_
  unfold event_formOf at h
  refine aw_seq (by kernel_rfl) ?_
  refine aw_region [(0, { id := 0 })] [0, 2] [0] 1 (vals := [.int .i64 k_1, .ptr 0 0 0 0]) (bxs := [.live (.var 71 [.str ([] : List Int), .bool false, .bool false, .bool false, .bool false, .int .i64 (0 : Int), .int .i64 (0 : Int), .int .i64 (0 : Int), .int .i64 (0 : Int)])]) (by kernel_rfl) hmix an ?_
  refine aw_seq (by kernel_rfl) ?_
  obtain ⟨r_1, h_1, h⟩ := bind_some h
  refine aw_region [(0, { av := .own 0 ((r_1).length), ids := [1], l := [], post := [(.row 71 9 (List.map e_T_event_form r_1))] })] [0, 2, 4] [0, 1] 2 (vals := [.int .i64 k_1, .ptr 0 0 0 0, .own 1 ((r_1).length)]) (bxs := [.live (.var 71 [.str ([] : List Int), .bool false, .bool false, .bool false, .bool false, .int .i64 (0 : Int), .int .i64 (0 : Int), .int .i64 (0 : Int), .int .i64 (0 : Int)]), .live (.row 71 9 (List.map e_T_event_form r_1))]) (by kernel_rfl) hmix (ac (rfl : ([] : List AV) = []) (ac (rfl : ([] : List BoxSt) = []) (ac (event_forms_ok r_1 h_1 : TripleG prog 58 [] [] [] [(.row 71 9 (List.map e_T_event_form r_1))] (.own 0 ((r_1).length))) an))) ?_
  refine aw_seq (by kernel_rfl) ?_
  refine aw_seq (by kernel_rfl) ?_
  refine aw_mid (mk [(0, .int .i64 k_1), (2, .ptr 0 0 0 0), (4, .own 1 ((r_1).length)), (13, .bool (decide (k_1 < (1 : Int)) || decide (k_1 ≥ (((r_1).length : Nat) : Int))))] [(0, .live (.var 71 [.str ([] : List Int), .bool false, .bool false, .bool false, .bool false, .int .i64 (0 : Int), .int .i64 (0 : Int), .int .i64 (0 : Int), .int .i64 (0 : Int)])), (1, .live (.row 71 9 (List.map e_T_event_form r_1)))] 2) ?_ ?_
  · rcases Bool.eq_false_or_eq_true (decide (k_1 < (1 : Int))) with gg_1 | gg_1
    · refine aw_region [(3, { g := false }), (4, { g := false }), (5, { g := false }), (6, { g := false }), (7, { b := true })] [0, 2, 4, 13] [0, 1] 2 (vals := [.int .i64 k_1, .ptr 0 0 0 0, .own 1 ((r_1).length), .bool true]) (bxs := [.live (.var 71 [.str ([] : List Int), .bool false, .bool false, .bool false, .bool false, .int .i64 (0 : Int), .int .i64 (0 : Int), .int .i64 (0 : Int), .int .i64 (0 : Int)]), .live (.row 71 9 (List.map e_T_event_form r_1))]) (by kernel_rfl) hmix (ac gg_1 (ac gg_1 (ac gg_1 (ac gg_1 (ac gg_1 an))))) ?_
      exact ⟨rfl, (sub_wkm [0, 1] [] [.s 0, .s 2, .s 4, .a 13 (.bool (decide (k_1 < (1 : Int)) || decide (k_1 ≥ (((r_1).length : Nat) : Int))))] [.s 0, .s 1] (by kernel_rfl) (ac (congrArg AV.bool (ort gg_1) : (.bool true : AV) = .bool (decide (k_1 < (1 : Int)) || decide (k_1 ≥ (((r_1).length : Nat) : Int)))) an))⟩
    · refine aw_region [(7, { b := false })] [0, 2, 4, 13] [0, 1] 2 (vals := [.int .i64 k_1, .ptr 0 0 0 0, .own 1 ((r_1).length), .bool (decide (k_1 ≥ (((r_1).length : Nat) : Int)))]) (bxs := [.live (.var 71 [.str ([] : List Int), .bool false, .bool false, .bool false, .bool false, .int .i64 (0 : Int), .int .i64 (0 : Int), .int .i64 (0 : Int), .int .i64 (0 : Int)]), .live (.row 71 9 (List.map e_T_event_form r_1))]) (by kernel_rfl) hmix (ac gg_1 (ac gg_1 (ac gg_1 (ac gg_1 (ac gg_1 an))))) ?_
      exact ⟨rfl, (sub_wkm [0, 1] [] [.s 0, .s 2, .s 4, .a 13 (.bool (decide (k_1 < (1 : Int)) || decide (k_1 ≥ (((r_1).length : Nat) : Int))))] [.s 0, .s 1] (by kernel_rfl) (ac (congrArg AV.bool (orf gg_1 rfl) : (.bool (decide (k_1 ≥ (((r_1).length : Nat) : Int))) : AV) = .bool (decide (k_1 < (1 : Int)) || decide (k_1 ≥ (((r_1).length : Nat) : Int)))) an))⟩
  refine aw_cond (t := 13) (b := (decide (k_1 < (1 : Int)) || decide (k_1 ≥ (((r_1).length : Nat) : Int)))) (by kernel_rfl) (by kernel_rfl) ?_ ?_
  · intro g_1; replace h := cond_t g_1 h
    refine aw_seq (by kernel_rfl) ?_
    refine aw_region [] [2, 3] [0] 2 (vals := [.ptr 0 0 0 0, .bool false]) (bxs := [.live (.var 71 [.str ([] : List Int), .bool false, .bool false, .bool false, .bool false, .int .i64 (0 : Int), .int .i64 (0 : Int), .int .i64 (0 : Int), .int .i64 (0 : Int)])]) (by kernel_rfl) hmix an ?_
    refine aw_sub (sub_wkm [0] [] [.s 2, .s 3] [.a 0 (.live (.var 71 (v_T_event_form (⟨([] : List Int), false, false, false, false, (0 : Int), (0 : Int), (0 : Int), (0 : Int)⟩ : T_event_form))))] (sl2 := [(2, .ptr 0 0 0 0), (3, .bool false)]) (bx2 := [(0, .live (.var 71 (v_T_event_form (⟨([] : List Int), false, false, false, false, (0 : Int), (0 : Int), (0 : Int), (0 : Int)⟩ : T_event_form))))]) (by kernel_rfl) (ac (rfl : 71 = 71) (ac (rfl : ones [.str ((⟨([] : List Int), false, false, false, false, (0 : Int), (0 : Int), (0 : Int), (0 : Int)⟩ : T_event_form).word), .bool ((⟨([] : List Int), false, false, false, false, (0 : Int), (0 : Int), (0 : Int), (0 : Int)⟩ : T_event_form).name), .bool ((⟨([] : List Int), false, false, false, false, (0 : Int), (0 : Int), (0 : Int), (0 : Int)⟩ : T_event_form).n), .bool ((⟨([] : List Int), false, false, false, false, (0 : Int), (0 : Int), (0 : Int), (0 : Int)⟩ : T_event_form).m), .bool ((⟨([] : List Int), false, false, false, false, (0 : Int), (0 : Int), (0 : Int), (0 : Int)⟩ : T_event_form).stack), .int .i64 ((⟨([] : List Int), false, false, false, false, (0 : Int), (0 : Int), (0 : Int), (0 : Int)⟩ : T_event_form).least), .int .i64 ((⟨([] : List Int), false, false, false, false, (0 : Int), (0 : Int), (0 : Int), (0 : Int)⟩ : T_event_form).most), .int .i64 ((⟨([] : List Int), false, false, false, false, (0 : Int), (0 : Int), (0 : Int), (0 : Int)⟩ : T_event_form).mLeast), .int .i64 ((⟨([] : List Int), false, false, false, false, (0 : Int), (0 : Int), (0 : Int), (0 : Int)⟩ : T_event_form).mMost)] = true) (ac (rfl : (.str ([] : List Int) : AV) = .str ((⟨([] : List Int), false, false, false, false, (0 : Int), (0 : Int), (0 : Int), (0 : Int)⟩ : T_event_form).word)) (ac (rfl : (.bool false : AV) = .bool ((⟨([] : List Int), false, false, false, false, (0 : Int), (0 : Int), (0 : Int), (0 : Int)⟩ : T_event_form).name)) (ac (rfl : (.bool false : AV) = .bool ((⟨([] : List Int), false, false, false, false, (0 : Int), (0 : Int), (0 : Int), (0 : Int)⟩ : T_event_form).n)) (ac (rfl : (.bool false : AV) = .bool ((⟨([] : List Int), false, false, false, false, (0 : Int), (0 : Int), (0 : Int), (0 : Int)⟩ : T_event_form).m)) (ac (rfl : (.bool false : AV) = .bool ((⟨([] : List Int), false, false, false, false, (0 : Int), (0 : Int), (0 : Int), (0 : Int)⟩ : T_event_form).stack)) (ac (rfl : (.int .i64 (0 : Int) : AV) = .int .i64 ((⟨([] : List Int), false, false, false, false, (0 : Int), (0 : Int), (0 : Int), (0 : Int)⟩ : T_event_form).least)) (ac (rfl : (.int .i64 (0 : Int) : AV) = .int .i64 ((⟨([] : List Int), false, false, false, false, (0 : Int), (0 : Int), (0 : Int), (0 : Int)⟩ : T_event_form).most)) (ac (rfl : (.int .i64 (0 : Int) : AV) = .int .i64 ((⟨([] : List Int), false, false, false, false, (0 : Int), (0 : Int), (0 : Int), (0 : Int)⟩ : T_event_form).mLeast)) (ac (rfl : (.int .i64 (0 : Int) : AV) = .int .i64 ((⟨([] : List Int), false, false, false, false, (0 : Int), (0 : Int), (0 : Int), (0 : Int)⟩ : T_event_form).mMost)) an)))))))))))) ?_
    refine aw_ret (by kernel_rfl) ?_
    replace h := Option.some.inj h; subst h
    exact ⟨.inr rfl, Nat.le_of_ble_eq_true rfl, by kernel_rfl⟩
  intro g_1; replace h := cond_f g_1 h
  refine aw_skip (by kernel_rfl) ?_
  refine aw_seq (by kernel_rfl) ?_
  obtain ⟨x_1, h_2, h⟩ := bind_some h
  refine aw_region [(3, { av := e_T_event_form x_1 })] [2, 3] [0] 2 (vals := [.ptr 0 0 0 0, .bool true]) (bxs := [.live (.var 71 (v_T_event_form x_1))]) (by kernel_rfl) hmix (ac (idxL_lo h_2 : (0 : Int) ≤ k_1) (ac (by first | (simp; done) | simpa using idxL_hi h_2 : k_1 < (((r_1).length : Nat) : Int)) (ac (vc_get h_2 : (List.map e_T_event_form r_1)[(k_1).toNat]? = some (e_T_event_form x_1)) an))) ?_
  refine aw_sub (sub_wkm [0] [] [.s 2, .s 3] [.s 0] (sl2 := [(2, .ptr 0 0 0 0), (3, .bool true)]) (bx2 := [(0, .live (.var 71 (v_T_event_form x_1)))]) (by kernel_rfl) an) ?_
  refine aw_ret (by kernel_rfl) ?_
  replace h := Option.some.inj h; subst h
  exact ⟨.inr rfl, Nat.le_of_ble_eq_true rfl, by kernel_rfl⟩

theorem intern_Frames_ok (F : Nat) (l_1 : List (List Int)) (r : Int) (h : intern_Frames F l_1 = some r) : TripleG prog 44 [] [] [.sl false 1 (List.map AV.str l_1)] [] (.int .i64 r) := by
  refine triple_intro (fn := Go.Proofs.Try.f44) (code := codeOf Go.Proofs.Try.f44) (by kernel_rfl) (by kernel_rfl) (Nat.le_of_ble_eq_true (by kernel_rfl)) ?_
  unfold intern_Frames at h
  refine aw_seq (by kernel_rfl) ?_
  refine aw_region [] [0] [] 0 (vals := [.sl false 1 (List.map AV.str l_1)]) (bxs := []) (by kernel_rfl) hmix an ?_
  refine aw_seq (by kernel_rfl) ?_
  refine aw_seq (by kernel_rfl) ?_
  refine aw_region [(1, { n := (l_1).length })] [0, 8] [] 0 (vals := [.sl false 1 (List.map AV.str l_1), .bool (decide ((((l_1).length : Nat) : Int) > (32 : Int)))]) (bxs := []) (by kernel_rfl) hmix (ac (vc_len _ : ((List.map AV.str l_1)).length = (l_1).length) an) ?_
  refine aw_cond (t := 8) (b := (decide ((((l_1).length : Nat) : Int) > (32 : Int)))) (by kernel_rfl) (by kernel_rfl) ?_ ?_
  · intro g_1; replace h := cond_t g_1 h
    refine aw_seq (by kernel_rfl) ?_
    refine aw_region [] [2] [] 0 (vals := [.int .i64 (7 : Int)]) (bxs := []) (by kernel_rfl) hmix an ?_
    refine aw_ret (by kernel_rfl) ?_
    replace h := Option.some.inj h; subst h
    exact ⟨.inr rfl, Nat.le_of_ble_eq_true rfl, by kernel_rfl⟩
  intro g_1; replace h := cond_f g_1 h
  refine aw_skip (by kernel_rfl) ?_
  refine aw_seq (by kernel_rfl) ?_
  refine aw_seq (by kernel_rfl) ?_
  refine aw_region [(1, { n := (l_1).length })] [9, 10, 11] [] 0 (vals := [.sl false 1 (List.map AV.str l_1), .int .i64 (((l_1).length : Nat) : Int), .int .i64 (0 : Int)]) (bxs := []) (by kernel_rfl) hmix (ac (vc_len _ : ((List.map AV.str l_1)).length = (l_1).length) an) ?_
  obtain ⟨o_1, h_1, h⟩ := bind_some h
  refine aw_conv (K1 := (fun e st' => match o_1 with | (.inl q0) => e = .normal ∧ Sub 0 st' (mk [] [] 0) | (.inr q1) => e = .ret ∧ FinR prog Go.Proofs.Try.f44 0 [] (.int .i64 q1) st')) ?_ ?_
  · replace h := h_1
    refine aw_block (id := 0) (by kernel_rfl) ?_
    refine aw_sub (sub_wkm [] [] [.s 9, .s 10, .s 11] [] (sl2 := [(9, .sl false 1 (List.map AV.str l_1)), (10, .int .i64 (((l_1).length : Nat) : Int)), (11, .int .i64 (0 : Int))]) (bx2 := []) (by kernel_rfl) an) ?_
    refine aw_loopF (fun n st => ∃ (v_1 : Int), st = mk [(9, .sl false 1 (List.map AV.str l_1)), (10, .int .i64 (((l_1).length : Nat) : Int)), (11, .int .i64 v_1)] [] 0 ∧ intern_Frames_L1 F l_1 n v_1 = some o_1) F (by kernel_rfl) ⟨_, rfl, h⟩ ?_ ?_
    · rintro _ ⟨_, _, h⟩; exact none_ne (h : (none : Option (Unit ⊕ Int)) = some o_1)
    rintro n_1 _ ⟨v_1, rfl, h⟩
    replace h : intern_Frames_L1_body F l_1 (intern_Frames_L1 F l_1 n_1) v_1 = some o_1 := h
    unfold intern_Frames_L1_body at h
    refine aw_seq (by kernel_rfl) ?_
    refine aw_region [] [9, 10, 11, 12] [] 0 (vals := [.sl false 1 (List.map AV.str l_1), .int .i64 (((l_1).length : Nat) : Int), .int .i64 v_1, .bool (decide (v_1 < (((l_1).length : Nat) : Int)))]) (bxs := []) (by kernel_rfl) hmix an ?_
    refine aw_seq (by kernel_rfl) ?_
    refine aw_cond (t := 12) (b := (decide (v_1 < (((l_1).length : Nat) : Int)))) (by kernel_rfl) (by kernel_rfl) ?_ ?_
    rotate_left
    · intro g_2; replace h := cond_f g_2 h
      refine aw_exit (id := 0) (by kernel_rfl) ?_
      replace h := Option.some.inj h; subst h
      exact ⟨rfl, (sub_wkm [] [] [] [] (by kernel_rfl) an)⟩
    intro g_2; replace h := cond_t g_2 h
    refine aw_skip (by kernel_rfl) ?_
    refine aw_seq (by kernel_rfl) ?_
    refine aw_block (id := 1) (by kernel_rfl) ?_
    refine aw_seq (by kernel_rfl) ?_
    obtain ⟨x_1, h_2, h⟩ := bind_some h
    refine aw_region [(0, { av := .str x_1 })] [4, 9, 10, 11] [] 0 (vals := [.str x_1, .sl false 1 (List.map AV.str l_1), .int .i64 (((l_1).length : Nat) : Int), .int .i64 v_1]) (bxs := []) (by kernel_rfl) hmix (ac (vc_idx h_2 : idxA (List.map AV.str l_1) v_1 = some (.str x_1)) an) ?_
    refine aw_seq (by kernel_rfl) ?_
    obtain ⟨r_1, h_3, h⟩ := bind_some h
    refine aw_region [(1, { av := .int .i64 r_1, l := [.str x_1] })] [5, 9, 10, 11] [] 0 (vals := [.int .i64 r_1, .sl false 1 (List.map AV.str l_1), .int .i64 (((l_1).length : Nat) : Int), .int .i64 v_1]) (bxs := []) (by kernel_rfl) hmix (ac (rfl : ([.str x_1] : List AV) = [.str x_1]) (ac (rfl : ([] : List BoxSt) = []) (ac (intern_Name_ok F x_1 r_1 h_3 : TripleG prog 41 [] [] [.str x_1] [] (.int .i64 r_1)) an))) ?_
    refine aw_seq (by kernel_rfl) ?_
    refine aw_region [] [5, 9, 10, 11, 18] [] 0 (vals := [.int .i64 r_1, .sl false 1 (List.map AV.str l_1), .int .i64 (((l_1).length : Nat) : Int), .int .i64 v_1, .bool (r_1 != (0 : Int))]) (bxs := []) (by kernel_rfl) hmix an ?_
    refine aw_cond (t := 18) (b := (r_1 != (0 : Int))) (by kernel_rfl) (by kernel_rfl) ?_ ?_
    rotate_left
    · intro g_3; replace h := cond_f g_3 h
      refine aw_skip (by kernel_rfl) ?_
      refine aw_region [] [9, 10, 11] [] 0 (vals := [.sl false 1 (List.map AV.str l_1), .int .i64 (((l_1).length : Nat) : Int), .int .i64 (w_i64 (v_1 + (1 : Int)))]) (bxs := []) (by kernel_rfl) hmix an ?_
      exact ⟨_, (sub_wkm [] [] [.s 9, .s 10, .s 11] [] (by kernel_rfl) an), _, rfl, h⟩
    intro g_3; replace h := cond_t g_3 h
    refine aw_seq (by kernel_rfl) ?_
    refine aw_region [] [2] [] 0 (vals := [.int .i64 r_1]) (bxs := []) (by kernel_rfl) hmix an ?_
    refine aw_ret (by kernel_rfl) ?_
    replace h := Option.some.inj h; subst h
    exact ⟨rfl, Nat.le_of_ble_eq_true rfl, by kernel_rfl⟩
  intro e st1 hk
  rcases o_1 with q_1 | q_2
  rotate_left
  · obtain ⟨rfl, hf⟩ := hk
    replace h := Option.some.inj h; subst h
    exact ⟨st1, Sub.refl _ _, .inr rfl, hf⟩
  obtain ⟨rfl, hs⟩ := hk
  refine ⟨_, hs, ?_⟩
  refine aw_seq (by kernel_rfl) ?_
  refine aw_region [] [2] [] 0 (vals := [.int .i64 (0 : Int)]) (bxs := []) (by kernel_rfl) hmix an ?_
  refine aw_ret (by kernel_rfl) ?_
  replace h := Option.some.inj h; subst h
  exact ⟨.inr rfl, Nat.le_of_ble_eq_true rfl, by kernel_rfl⟩

theorem event_names_ok (F : Nat) (f_1 : T_event_form) (e_1 : T_api_Event) (r : Int) (h : event_names F f_1 e_1 = some r) : TripleG prog 39 [] [] [e_T_event_form f_1, e_T_api_Event e_1] [] (.int .i64 r) := by
  refine triple_intro (fn := Go.Proofs.Try.f39) (code := codeOf Go.Proofs.Try.f39) (by kernel_rfl) (by kernel_rfl) (Nat.le_of_ble_eq_true (by kernel_rfl)) ?_
  unfold event_names at h
  refine aw_seq (by kernel_rfl) ?_
  refine aw_region [(0, { id := 0 }), (1, { id := 1 })] [2, 3] [0, 1] 2 (vals := [.ptr 0 0 0 0, .ptr 1 0 0 0]) (bxs := [.live (.var 71 (v_T_event_form f_1)), .live (.var 28 (v_T_api_Event e_1))]) (by kernel_rfl) hmix an ?_
  refine aw_seq (by kernel_rfl) ?_
  refine aw_seq (by kernel_rfl) ?_
  refine aw_region [] [3, 6] [1] 2 (vals := [.ptr 1 0 0 0, .bool f_1.name]) (bxs := [.live (.var 28 (v_T_api_Event e_1))]) (by kernel_rfl) hmix an ?_
  refine aw_cond (t := 6) (b := f_1.name) (by kernel_rfl) (by kernel_rfl) ?_ ?_
  · intro g_1; replace h := cond_t g_1 h
    refine aw_seq (by kernel_rfl) ?_
    obtain ⟨r_1, h_1, h⟩ := bind_some h
    refine aw_region [(2, { av := .int .i64 r_1, l := [.str e_1.Name] })] [4] [] 2 (vals := [.int .i64 r_1]) (bxs := []) (by kernel_rfl) hmix (ac (rfl : ([.str e_1.Name] : List AV) = [.str e_1.Name]) (ac (rfl : ([] : List BoxSt) = []) (ac (intern_Name_ok F e_1.Name r_1 h_1 : TripleG prog 41 [] [] [.str e_1.Name] [] (.int .i64 r_1)) an))) ?_
    refine aw_ret (by kernel_rfl) ?_
    replace h := Option.some.inj h; subst h
    exact ⟨.inr rfl, Nat.le_of_ble_eq_true rfl, by kernel_rfl⟩
  intro g_1; replace h := cond_f g_1 h
  refine aw_skip (by kernel_rfl) ?_
  refine aw_seq (by kernel_rfl) ?_
  obtain ⟨r_2, h_2, h⟩ := bind_some h
  refine aw_region [(2, { av := .int .i64 r_2, l := [.sl false 1 (List.map AV.str e_1.Stack)] })] [4] [] 2 (vals := [.int .i64 r_2]) (bxs := []) (by kernel_rfl) hmix (ac (rfl : ([.sl false 1 (List.map AV.str e_1.Stack)] : List AV) = [.sl false 1 (List.map AV.str e_1.Stack)]) (ac (rfl : ([] : List BoxSt) = []) (ac (intern_Frames_ok F e_1.Stack r_2 h_2 : TripleG prog 44 [] [] [.sl false 1 (List.map AV.str e_1.Stack)] [] (.int .i64 r_2)) an))) ?_
  refine aw_ret (by kernel_rfl) ?_
  replace h := Option.some.inj h; subst h
  exact ⟨.inr rfl, Nat.le_of_ble_eq_true rfl, by kernel_rfl⟩

theorem event_Check_ok (F : Nat) (e_1 : T_api_Event) (r : Int) (h : event_Check F e_1 = some r) : TripleG prog 20 [] [] [e_T_api_Event e_1] [] (.int .i64 r) := by
  refine triple_intro (fn := Go.Proofs.Try.f20) (code := codeOf Go.Proofs.Try.f20) (by kernel_rfl) (by kernel_rfl) (Nat.le_of_ble_eq_true (by kernel_rfl)) ?_
  unfold event_Check at h
  refine aw_seq (by kernel_rfl) ?_
  refine aw_region [(0, { id := 0 })] [1] [0] 1 (vals := [.ptr 0 0 0 0]) (bxs := [.live (.var 28 (v_T_api_Event e_1))]) (by kernel_rfl) hmix an ?_
  refine aw_seq (by kernel_rfl) ?_
  refine aw_seq (by kernel_rfl) ?_
  refine aw_mid (mk [(1, .ptr 0 0 0 0), (13, .bool (decide (e_1.At < (0 : Int)) || decide (e_1.At > (1000000000000 : Int))))] [(0, .live (.var 28 (v_T_api_Event e_1)))] 1) ?_ ?_
  · rcases Bool.eq_false_or_eq_true (decide (e_1.At < (0 : Int))) with gg_1 | gg_1
    · refine aw_region [(4, { g := false }), (5, { g := false }), (6, { g := false }), (7, { b := true })] [1, 13] [0] 1 (vals := [.ptr 0 0 0 0, .bool true]) (bxs := [.live (.var 28 (v_T_api_Event e_1))]) (by kernel_rfl) hmix (ac gg_1 (ac gg_1 (ac gg_1 (ac gg_1 an)))) ?_
      exact ⟨rfl, (sub_wkm [0] [] [.s 1, .a 13 (.bool (decide (e_1.At < (0 : Int)) || decide (e_1.At > (1000000000000 : Int))))] [.s 0] (by kernel_rfl) (ac (congrArg AV.bool (ort gg_1) : (.bool true : AV) = .bool (decide (e_1.At < (0 : Int)) || decide (e_1.At > (1000000000000 : Int)))) an))⟩
    · refine aw_region [(7, { b := false })] [1, 13] [0] 1 (vals := [.ptr 0 0 0 0, .bool (decide (e_1.At > (1000000000000 : Int)))]) (bxs := [.live (.var 28 (v_T_api_Event e_1))]) (by kernel_rfl) hmix (ac gg_1 (ac gg_1 (ac gg_1 (ac gg_1 an)))) ?_
      exact ⟨rfl, (sub_wkm [0] [] [.s 1, .a 13 (.bool (decide (e_1.At < (0 : Int)) || decide (e_1.At > (1000000000000 : Int))))] [.s 0] (by kernel_rfl) (ac (congrArg AV.bool (orf gg_1 rfl) : (.bool (decide (e_1.At > (1000000000000 : Int))) : AV) = .bool (decide (e_1.At < (0 : Int)) || decide (e_1.At > (1000000000000 : Int)))) an))⟩
  refine aw_cond (t := 13) (b := (decide (e_1.At < (0 : Int)) || decide (e_1.At > (1000000000000 : Int)))) (by kernel_rfl) (by kernel_rfl) ?_ ?_
  · intro g_1; replace h := cond_t g_1 h
    refine aw_seq (by kernel_rfl) ?_
    refine aw_region [] [2] [] 1 (vals := [.int .i64 (2 : Int)]) (bxs := []) (by kernel_rfl) hmix an ?_
    refine aw_ret (by kernel_rfl) ?_
    replace h := Option.some.inj h; subst h
    exact ⟨.inr rfl, Nat.le_of_ble_eq_true rfl, by kernel_rfl⟩
  intro g_1; replace h := cond_f g_1 h
  refine aw_skip (by kernel_rfl) ?_
  refine aw_seq (by kernel_rfl) ?_
  obtain ⟨r_1, h_1, h⟩ := bind_some h
  refine aw_region [(2, { av := .tuple [e_T_event_form r_1.1, .bool r_1.2], l := [.int .i64 e_1.Kind] }), (6, { id := 1 })] [1, 3, 4] [0, 1] 2 (vals := [.ptr 0 0 0 0, .ptr 1 0 0 0, .bool r_1.2]) (bxs := [.live (.var 28 (v_T_api_Event e_1)), .live (.var 71 (v_T_event_form r_1.1))]) (by kernel_rfl) hmix (ac (rfl : ([.int .i64 e_1.Kind] : List AV) = [.int .i64 e_1.Kind]) (ac (rfl : ([] : List BoxSt) = []) (ac (event_formOf_ok e_1.Kind r_1 h_1 : TripleG prog 38 [] [] [.int .i64 e_1.Kind] [] (.tuple [e_T_event_form r_1.1, .bool r_1.2])) an))) ?_
  refine aw_seq (by kernel_rfl) ?_
  refine aw_seq (by kernel_rfl) ?_
  obtain ⟨p_1, h_2, h⟩ := bind_some h
  refine aw_mid (mk [(1, .ptr 0 0 0 0), (3, .ptr 1 0 0 0), (62, .bool p_1)] [(0, .live (.var 28 (v_T_api_Event e_1))), (1, .live (.var 71 (v_T_event_form r_1.1)))] 2) ?_ ?_
  · replace h := h_2
    rcases Bool.eq_false_or_eq_true (!r_1.2) with gg_2 | gg_2
    · replace h := cond_t gg_2 h
      refine aw_region [(3, { g := false }), (4, { g := false }), (5, { g := false }), (6, { g := false }), (10, { g := false }), (11, { b := true }), (13, { g := false }), (14, { g := false }), (15, { g := false }), (16, { g := false }), (20, { g := false }), (21, { b := true }), (23, { g := false }), (24, { g := false }), (25, { g := false }), (26, { g := false }), (30, { g := false }), (31, { b := true }), (33, { g := false }), (34, { g := false }), (35, { g := false }), (36, { g := false }), (41, { g := false }), (42, { b := true })] [1, 3, 62] [0, 1] 2 (vals := [.ptr 0 0 0 0, .ptr 1 0 0 0, .bool true]) (bxs := [.live (.var 28 (v_T_api_Event e_1)), .live (.var 71 (v_T_event_form r_1.1))]) (by kernel_rfl) hmix (ac gg_2 (ac gg_2 (ac gg_2 (ac gg_2 (ac gg_2 (ac gg_2 (ac (rfl : true = !false) (ac (rfl : true = !false) (ac (rfl : true = !false) (ac (rfl : true = !false) (ac (rfl : true = !false) (ac (rfl : true = true) (ac (rfl : true = !false) (ac (rfl : true = !false) (ac (rfl : true = !false) (ac (rfl : true = !false) (ac (rfl : true = !false) (ac (rfl : true = true) (ac (rfl : true = !false) (ac (rfl : true = !false) (ac (rfl : true = !false) (ac (rfl : true = !false) (ac (rfl : true = !false) (ac (rfl : true = true) an)))))))))))))))))))))))) ?_
      replace h := Option.some.inj h; subst h
      exact ⟨rfl, (sub_wkm [0, 1] [] [.s 1, .s 3, .s 62] [.s 0, .s 1] (by kernel_rfl) an)⟩
    · replace h := cond_f gg_2 h
      rcases Bool.eq_false_or_eq_true (!r_1.1.name) with gg_3 | gg_3
      · replace h := cond_t gg_3 h
        rcases Bool.eq_false_or_eq_true (!(e_1.Name == ([] : List Int))) with gg_4 | gg_4
        · replace h := cond_t gg_4 h
          refine aw_region [(10, { b := true }), (11, { b := false }), (13, { g := false }), (14, { g := false }), (15, { g := false }), (16, { g := false }), (20, { g := false }), (21, { b := true }), (23, { g := false }), (24, { g := false }), (25, { g := false }), (26, { g := false }), (30, { g := false }), (31, { b := true }), (33, { g := false }), (34, { g := false }), (35, { g := false }), (36, { g := false }), (41, { g := false }), (42, { b := true })] [1, 3, 62] [0, 1] 2 (vals := [.ptr 0 0 0 0, .ptr 1 0 0 0, .bool true]) (bxs := [.live (.var 28 (v_T_api_Event e_1)), .live (.var 71 (v_T_event_form r_1.1))]) (by kernel_rfl) hmix (ac gg_2 (ac gg_2 (ac gg_2 (ac gg_2 (ac gg_3 (ac gg_3 (ac gg_3 (ac gg_2 (ac gg_3 (ac gg_2 (ac gg_4 (ac gg_4 (ac gg_4 (ac gg_4 (ac gg_4 (ac gg_4 (ac (rfl : true = !false) (ac (rfl : true = !false) (ac (rfl : true = !false) (ac (rfl : true = !false) (ac (rfl : true = !false) (ac (rfl : true = true) (ac (rfl : true = !false) (ac (rfl : true = !false) (ac (rfl : true = !false) (ac (rfl : true = !false) (ac (rfl : true = !false) (ac (rfl : true = true) an)))))))))))))))))))))))))))) ?_
          replace h := Option.some.inj h; subst h
          exact ⟨rfl, (sub_wkm [0, 1] [] [.s 1, .s 3, .s 62] [.s 0, .s 1] (by kernel_rfl) an)⟩
        · replace h := cond_f gg_4 h
          rcases Bool.eq_false_or_eq_true (!r_1.1.n) with gg_5 | gg_5
          · replace h := cond_t gg_5 h
            rcases Bool.eq_false_or_eq_true (e_1.N != (0 : Int)) with gg_6 | gg_6
            · replace h := cond_t gg_6 h
              refine aw_region [(10, { b := true }), (11, { b := false }), (20, { b := true }), (21, { b := false }), (23, { g := false }), (24, { g := false }), (25, { g := false }), (26, { g := false }), (30, { g := false }), (31, { b := true }), (33, { g := false }), (34, { g := false }), (35, { g := false }), (36, { g := false }), (41, { g := false }), (42, { b := true })] [1, 3, 62] [0, 1] 2 (vals := [.ptr 0 0 0 0, .ptr 1 0 0 0, .bool true]) (bxs := [.live (.var 28 (v_T_api_Event e_1)), .live (.var 71 (v_T_event_form r_1.1))]) (by kernel_rfl) hmix (ac gg_2 (ac gg_2 (ac gg_2 (ac gg_2 (ac gg_3 (ac gg_3 (ac gg_3 (ac gg_2 (ac gg_3 (ac gg_2 (ac gg_4 (ac gg_4 (ac gg_4 (ac gg_4 (ac gg_5 (ac gg_5 (ac gg_5 (ac gg_4 (ac gg_5 (ac gg_4 (ac gg_6 (ac gg_6 (ac gg_6 (ac gg_6 (ac gg_6 (ac gg_6 (ac (rfl : true = !false) (ac (rfl : true = !false) (ac (rfl : true = !false) (ac (rfl : true = !false) (ac (rfl : true = !false) (ac (rfl : true = true) an)))))))))))))))))))))))))))))))) ?_
              replace h := Option.some.inj h; subst h
              exact ⟨rfl, (sub_wkm [0, 1] [] [.s 1, .s 3, .s 62] [.s 0, .s 1] (by kernel_rfl) an)⟩
            · replace h := cond_f gg_6 h
              rcases Bool.eq_false_or_eq_true (!r_1.1.m) with gg_7 | gg_7
              · replace h := cond_t gg_7 h
                rcases Bool.eq_false_or_eq_true (e_1.M != (0 : Int)) with gg_8 | gg_8
                · replace h := cond_t gg_8 h
                  refine aw_region [(10, { b := true }), (11, { b := false }), (20, { b := true }), (21, { b := false }), (30, { b := true }), (31, { b := false }), (33, { g := false }), (34, { g := false }), (35, { g := false }), (36, { g := false }), (41, { g := false }), (42, { b := true })] [1, 3, 62] [0, 1] 2 (vals := [.ptr 0 0 0 0, .ptr 1 0 0 0, .bool true]) (bxs := [.live (.var 28 (v_T_api_Event e_1)), .live (.var 71 (v_T_event_form r_1.1))]) (by kernel_rfl) hmix (ac gg_2 (ac gg_2 (ac gg_2 (ac gg_2 (ac gg_3 (ac gg_3 (ac gg_3 (ac gg_2 (ac gg_3 (ac gg_2 (ac gg_4 (ac gg_4 (ac gg_4 (ac gg_4 (ac gg_5 (ac gg_5 (ac gg_5 (ac gg_4 (ac gg_5 (ac gg_4 (ac gg_6 (ac gg_6 (ac gg_6 (ac gg_6 (ac gg_7 (ac gg_7 (ac gg_7 (ac gg_6 (ac gg_7 (ac gg_6 (ac gg_8 (ac gg_8 (ac gg_8 (ac gg_8 (ac gg_8 (ac gg_8 an)))))))))))))))))))))))))))))))))))) ?_
                  replace h := Option.some.inj h; subst h
                  exact ⟨rfl, (sub_wkm [0, 1] [] [.s 1, .s 3, .s 62] [.s 0, .s 1] (by kernel_rfl) an)⟩
                · replace h := cond_f gg_8 h
                  rcases Bool.eq_false_or_eq_true (!r_1.1.stack) with gg_9 | gg_9
                  · replace h := cond_t gg_9 h
                    refine aw_region [(10, { b := true }), (11, { b := false }), (20, { b := true }), (21, { b := false }), (30, { b := true }), (31, { b := false }), (39, { n := (e_1.Stack).length }), (41, { b := true }), (42, { b := false })] [1, 3, 62] [0, 1] 2 (vals := [.ptr 0 0 0 0, .ptr 1 0 0 0, .bool (decide ((((e_1.Stack).length : Nat) : Int) > (0 : Int)))]) (bxs := [.live (.var 28 (v_T_api_Event e_1)), .live (.var 71 (v_T_event_form r_1.1))]) (by kernel_rfl) hmix (ac gg_2 (ac gg_2 (ac gg_2 (ac gg_2 (ac gg_3 (ac gg_3 (ac gg_3 (ac gg_2 (ac gg_3 (ac gg_2 (ac gg_4 (ac gg_4 (ac gg_4 (ac gg_4 (ac gg_5 (ac gg_5 (ac gg_5 (ac gg_4 (ac gg_5 (ac gg_4 (ac gg_6 (ac gg_6 (ac gg_6 (ac gg_6 (ac gg_7 (ac gg_7 (ac gg_7 (ac gg_6 (ac gg_7 (ac gg_6 (ac gg_8 (ac gg_8 (ac gg_8 (ac gg_8 (ac gg_9 (ac gg_9 (ac gg_9 (ac (vc_len _ : ((List.map AV.str e_1.Stack)).length = (e_1.Stack).length) (ac gg_9 (ac gg_8 (ac gg_9 (ac gg_8 an)))))))))))))))))))))))))))))))))))))))))) ?_
                    replace h := Option.some.inj h; subst h
                    exact ⟨rfl, (sub_wkm [0, 1] [] [.s 1, .s 3, .s 62] [.s 0, .s 1] (by kernel_rfl) an)⟩
                  · replace h := cond_f gg_9 h
                    refine aw_region [(10, { b := true }), (11, { b := false }), (20, { b := true }), (21, { b := false }), (30, { b := true }), (31, { b := false }), (37, { g := false }), (38, { g := false }), (39, { g := false }), (40, { g := false }), (41, { b := false }), (42, { b := false })] [1, 3, 62] [0, 1] 2 (vals := [.ptr 0 0 0 0, .ptr 1 0 0 0, .bool false]) (bxs := [.live (.var 28 (v_T_api_Event e_1)), .live (.var 71 (v_T_event_form r_1.1))]) (by kernel_rfl) hmix (ac gg_2 (ac gg_2 (ac gg_2 (ac gg_2 (ac gg_3 (ac gg_3 (ac gg_3 (ac gg_2 (ac gg_3 (ac gg_2 (ac gg_4 (ac gg_4 (ac gg_4 (ac gg_4 (ac gg_5 (ac gg_5 (ac gg_5 (ac gg_4 (ac gg_5 (ac gg_4 (ac gg_6 (ac gg_6 (ac gg_6 (ac gg_6 (ac gg_7 (ac gg_7 (ac gg_7 (ac gg_6 (ac gg_7 (ac gg_6 (ac gg_8 (ac gg_8 (ac gg_8 (ac gg_8 (ac gg_9 (ac gg_9 (ac gg_9 (ac gg_9 (ac gg_8 (ac gg_9 (ac gg_8 an))))))))))))))))))))))))))))))))))))))))) ?_
                    replace h := Option.some.inj h; subst h
                    exact ⟨rfl, (sub_wkm [0, 1] [] [.s 1, .s 3, .s 62] [.s 0, .s 1] (by kernel_rfl) an)⟩
              · replace h := cond_f gg_7 h
                rcases Bool.eq_false_or_eq_true (!r_1.1.stack) with gg_10 | gg_10
                · replace h := cond_t gg_10 h
                  refine aw_region [(10, { b := true }), (11, { b := false }), (20, { b := true }), (21, { b := false }), (27, { g := false }), (28, { g := false }), (29, { g := false }), (30, { b := false }), (31, { b := false }), (39, { n := (e_1.Stack).length }), (41, { b := true }), (42, { b := false })] [1, 3, 62] [0, 1] 2 (vals := [.ptr 0 0 0 0, .ptr 1 0 0 0, .bool (decide ((((e_1.Stack).length : Nat) : Int) > (0 : Int)))]) (bxs := [.live (.var 28 (v_T_api_Event e_1)), .live (.var 71 (v_T_event_form r_1.1))]) (by kernel_rfl) hmix (ac gg_2 (ac gg_2 (ac gg_2 (ac gg_2 (ac gg_3 (ac gg_3 (ac gg_3 (ac gg_2 (ac gg_3 (ac gg_2 (ac gg_4 (ac gg_4 (ac gg_4 (ac gg_4 (ac gg_5 (ac gg_5 (ac gg_5 (ac gg_4 (ac gg_5 (ac gg_4 (ac gg_6 (ac gg_6 (ac gg_6 (ac gg_6 (ac gg_7 (ac gg_7 (ac gg_7 (ac gg_6 (ac gg_7 (ac gg_6 (ac (rfl : false = false) (ac (rfl : false = false) (ac (rfl : false = false) (ac (rfl : false = false) (ac gg_10 (ac gg_10 (ac gg_10 (ac (vc_len _ : ((List.map AV.str e_1.Stack)).length = (e_1.Stack).length) (ac gg_10 (ac (rfl : false = false) (ac gg_10 (ac (rfl : false = false) an)))))))))))))))))))))))))))))))))))))))))) ?_
                  replace h := Option.some.inj h; subst h
                  exact ⟨rfl, (sub_wkm [0, 1] [] [.s 1, .s 3, .s 62] [.s 0, .s 1] (by kernel_rfl) an)⟩
                · replace h := cond_f gg_10 h
                  refine aw_region [(10, { b := true }), (11, { b := false }), (20, { b := true }), (21, { b := false }), (27, { g := false }), (28, { g := false }), (29, { g := false }), (30, { b := false }), (31, { b := false }), (37, { g := false }), (38, { g := false }), (39, { g := false }), (40, { g := false }), (41, { b := false }), (42, { b := false })] [1, 3, 62] [0, 1] 2 (vals := [.ptr 0 0 0 0, .ptr 1 0 0 0, .bool false]) (bxs := [.live (.var 28 (v_T_api_Event e_1)), .live (.var 71 (v_T_event_form r_1.1))]) (by kernel_rfl) hmix (ac gg_2 (ac gg_2 (ac gg_2 (ac gg_2 (ac gg_3 (ac gg_3 (ac gg_3 (ac gg_2 (ac gg_3 (ac gg_2 (ac gg_4 (ac gg_4 (ac gg_4 (ac gg_4 (ac gg_5 (ac gg_5 (ac gg_5 (ac gg_4 (ac gg_5 (ac gg_4 (ac gg_6 (ac gg_6 (ac gg_6 (ac gg_6 (ac gg_7 (ac gg_7 (ac gg_7 (ac gg_6 (ac gg_7 (ac gg_6 (ac (rfl : false = false) (ac (rfl : false = false) (ac (rfl : false = false) (ac (rfl : false = false) (ac gg_10 (ac gg_10 (ac gg_10 (ac gg_10 (ac (rfl : false = false) (ac gg_10 (ac (rfl : false = false) an))))))))))))))))))))))))))))))))))))))))) ?_
                  replace h := Option.some.inj h; subst h
                  exact ⟨rfl, (sub_wkm [0, 1] [] [.s 1, .s 3, .s 62] [.s 0, .s 1] (by kernel_rfl) an)⟩
          · replace h := cond_f gg_5 h
            rcases Bool.eq_false_or_eq_true (!r_1.1.m) with gg_11 | gg_11
            · replace h := cond_t gg_11 h
              rcases Bool.eq_false_or_eq_true (e_1.M != (0 : Int)) with gg_12 | gg_12
              · replace h := cond_t gg_12 h
                refine aw_region [(10, { b := true }), (11, { b := false }), (17, { g := false }), (18, { g := false }), (19, { g := false }), (20, { b := false }), (21, { b := false }), (30, { b := true }), (31, { b := false }), (33, { g := false }), (34, { g := false }), (35, { g := false }), (36, { g := false }), (41, { g := false }), (42, { b := true })] [1, 3, 62] [0, 1] 2 (vals := [.ptr 0 0 0 0, .ptr 1 0 0 0, .bool true]) (bxs := [.live (.var 28 (v_T_api_Event e_1)), .live (.var 71 (v_T_event_form r_1.1))]) (by kernel_rfl) hmix (ac gg_2 (ac gg_2 (ac gg_2 (ac gg_2 (ac gg_3 (ac gg_3 (ac gg_3 (ac gg_2 (ac gg_3 (ac gg_2 (ac gg_4 (ac gg_4 (ac gg_4 (ac gg_4 (ac gg_5 (ac gg_5 (ac gg_5 (ac gg_4 (ac gg_5 (ac gg_4 (ac (rfl : false = false) (ac (rfl : false = false) (ac (rfl : false = false) (ac (rfl : false = false) (ac gg_11 (ac gg_11 (ac gg_11 (ac (rfl : false = false) (ac gg_11 (ac (rfl : false = false) (ac gg_12 (ac gg_12 (ac gg_12 (ac gg_12 (ac gg_12 (ac gg_12 an)))))))))))))))))))))))))))))))))))) ?_
                replace h := Option.some.inj h; subst h
                exact ⟨rfl, (sub_wkm [0, 1] [] [.s 1, .s 3, .s 62] [.s 0, .s 1] (by kernel_rfl) an)⟩
              · replace h := cond_f gg_12 h
                rcases Bool.eq_false_or_eq_true (!r_1.1.stack) with gg_13 | gg_13
                · replace h := cond_t gg_13 h
                  refine aw_region [(10, { b := true }), (11, { b := false }), (17, { g := false }), (18, { g := false }), (19, { g := false }), (20, { b := false }), (21, { b := false }), (30, { b := true }), (31, { b := false }), (39, { n := (e_1.Stack).length }), (41, { b := true }), (42, { b := false })] [1, 3, 62] [0, 1] 2 (vals := [.ptr 0 0 0 0, .ptr 1 0 0 0, .bool (decide ((((e_1.Stack).length : Nat) : Int) > (0 : Int)))]) (bxs := [.live (.var 28 (v_T_api_Event e_1)), .live (.var 71 (v_T_event_form r_1.1))]) (by kernel_rfl) hmix (ac gg_2 (ac gg_2 (ac gg_2 (ac gg_2 (ac gg_3 (ac gg_3 (ac gg_3 (ac gg_2 (ac gg_3 (ac gg_2 (ac gg_4 (ac gg_4 (ac gg_4 (ac gg_4 (ac gg_5 (ac gg_5 (ac gg_5 (ac gg_4 (ac gg_5 (ac gg_4 (ac (rfl : false = false) (ac (rfl : false = false) (ac (rfl : false = false) (ac (rfl : false = false) (ac gg_11 (ac gg_11 (ac gg_11 (ac (rfl : false = false) (ac gg_11 (ac (rfl : false = false) (ac gg_12 (ac gg_12 (ac gg_12 (ac gg_12 (ac gg_13 (ac gg_13 (ac gg_13 (ac (vc_len _ : ((List.map AV.str e_1.Stack)).length = (e_1.Stack).length) (ac gg_13 (ac gg_12 (ac gg_13 (ac gg_12 an)))))))))))))))))))))))))))))))))))))))))) ?_
                  replace h := Option.some.inj h; subst h
                  exact ⟨rfl, (sub_wkm [0, 1] [] [.s 1, .s 3, .s 62] [.s 0, .s 1] (by kernel_rfl) an)⟩
                · replace h := cond_f gg_13 h
                  refine aw_region [(10, { b := true }), (11, { b := false }), (17, { g := false }), (18, { g := false }), (19, { g := false }), (20, { b := false }), (21, { b := false }), (30, { b := true }), (31, { b := false }), (37, { g := false }), (38, { g := false }), (39, { g := false }), (40, { g := false }), (41, { b := false }), (42, { b := false })] [1, 3, 62] [0, 1] 2 (vals := [.ptr 0 0 0 0, .ptr 1 0 0 0, .bool false]) (bxs := [.live (.var 28 (v_T_api_Event e_1)), .live (.var 71 (v_T_event_form r_1.1))]) (by kernel_rfl) hmix (ac gg_2 (ac gg_2 (ac gg_2 (ac gg_2 (ac gg_3 (ac gg_3 (ac gg_3 (ac gg_2 (ac gg_3 (ac gg_2 (ac gg_4 (ac gg_4 (ac gg_4 (ac gg_4 (ac gg_5 (ac gg_5 (ac gg_5 (ac gg_4 (ac gg_5 (ac gg_4 (ac (rfl : false = false) (ac (rfl : false = false) (ac (rfl : false = false) (ac (rfl : false = false) (ac gg_11 (ac gg_11 (ac gg_11 (ac (rfl : false = false) (ac gg_11 (ac (rfl : false = false) (ac gg_12 (ac gg_12 (ac gg_12 (ac gg_12 (ac gg_13 (ac gg_13 (ac gg_13 (ac gg_13 (ac gg_12 (ac gg_13 (ac gg_12 an))))))))))))))))))))))))))))))))))))))))) ?_
                  replace h := Option.some.inj h; subst h
                  exact ⟨rfl, (sub_wkm [0, 1] [] [.s 1, .s 3, .s 62] [.s 0, .s 1] (by kernel_rfl) an)⟩
            · replace h := cond_f gg_11 h
              rcases Bool.eq_false_or_eq_true (!r_1.1.stack) with gg_14 | gg_14
              · replace h := cond_t gg_14 h
                refine aw_region [(10, { b := true }), (11, { b := false }), (17, { g := false }), (18, { g := false }), (19, { g := false }), (20, { b := false }), (21, { b := false }), (27, { g := false }), (28, { g := false }), (29, { g := false }), (30, { b := false }), (31, { b := false }), (39, { n := (e_1.Stack).length }), (41, { b := true }), (42, { b := false })] [1, 3, 62] [0, 1] 2 (vals := [.ptr 0 0 0 0, .ptr 1 0 0 0, .bool (decide ((((e_1.Stack).length : Nat) : Int) > (0 : Int)))]) (bxs := [.live (.var 28 (v_T_api_Event e_1)), .live (.var 71 (v_T_event_form r_1.1))]) (by kernel_rfl) hmix (ac gg_2 (ac gg_2 (ac gg_2 (ac gg_2 (ac gg_3 (ac gg_3 (ac gg_3 (ac gg_2 (ac gg_3 (ac gg_2 (ac gg_4 (ac gg_4 (ac gg_4 (ac gg_4 (ac gg_5 (ac gg_5 (ac gg_5 (ac gg_4 (ac gg_5 (ac gg_4 (ac (rfl : false = false) (ac (rfl : false = false) (ac (rfl : false = false) (ac (rfl : false = false) (ac gg_11 (ac gg_11 (ac gg_11 (ac (rfl : false = false) (ac gg_11 (ac (rfl : false = false) (ac (rfl : false = false) (ac (rfl : false = false) (ac (rfl : false = false) (ac (rfl : false = false) (ac gg_14 (ac gg_14 (ac gg_14 (ac (vc_len _ : ((List.map AV.str e_1.Stack)).length = (e_1.Stack).length) (ac gg_14 (ac (rfl : false = false) (ac gg_14 (ac (rfl : false = false) an)))))))))))))))))))))))))))))))))))))))))) ?_
                replace h := Option.some.inj h; subst h
                exact ⟨rfl, (sub_wkm [0, 1] [] [.s 1, .s 3, .s 62] [.s 0, .s 1] (by kernel_rfl) an)⟩
              · replace h := cond_f gg_14 h
                refine aw_region [(10, { b := true }), (11, { b := false }), (17, { g := false }), (18, { g := false }), (19, { g := false }), (20, { b := false }), (21, { b := false }), (27, { g := false }), (28, { g := false }), (29, { g := false }), (30, { b := false }), (31, { b := false }), (37, { g := false }), (38, { g := false }), (39, { g := false }), (40, { g := false }), (41, { b := false }), (42, { b := false })] [1, 3, 62] [0, 1] 2 (vals := [.ptr 0 0 0 0, .ptr 1 0 0 0, .bool false]) (bxs := [.live (.var 28 (v_T_api_Event e_1)), .live (.var 71 (v_T_event_form r_1.1))]) (by kernel_rfl) hmix (ac gg_2 (ac gg_2 (ac gg_2 (ac gg_2 (ac gg_3 (ac gg_3 (ac gg_3 (ac gg_2 (ac gg_3 (ac gg_2 (ac gg_4 (ac gg_4 (ac gg_4 (ac gg_4 (ac gg_5 (ac gg_5 (ac gg_5 (ac gg_4 (ac gg_5 (ac gg_4 (ac (rfl : false = false) (ac (rfl : false = false) (ac (rfl : false = false) (ac (rfl : false = false) (ac gg_11 (ac gg_11 (ac gg_11 (ac (rfl : false = false) (ac gg_11 (ac (rfl : false = false) (ac (rfl : false = false) (ac (rfl : false = false) (ac (rfl : false = false) (ac (rfl : false = false) (ac gg_14 (ac gg_14 (ac gg_14 (ac gg_14 (ac (rfl : false = false) (ac gg_14 (ac (rfl : false = false) an))))))))))))))))))))))))))))))))))))))))) ?_
                replace h := Option.some.inj h; subst h
                exact ⟨rfl, (sub_wkm [0, 1] [] [.s 1, .s 3, .s 62] [.s 0, .s 1] (by kernel_rfl) an)⟩
      · replace h := cond_f gg_3 h
        rcases Bool.eq_false_or_eq_true (!r_1.1.n) with gg_15 | gg_15
        · replace h := cond_t gg_15 h
          rcases Bool.eq_false_or_eq_true (e_1.N != (0 : Int)) with gg_16 | gg_16
          · replace h := cond_t gg_16 h
            refine aw_region [(7, { g := false }), (8, { g := false }), (9, { g := false }), (10, { b := false }), (11, { b := false }), (20, { b := true }), (21, { b := false }), (23, { g := false }), (24, { g := false }), (25, { g := false }), (26, { g := false }), (30, { g := false }), (31, { b := true }), (33, { g := false }), (34, { g := false }), (35, { g := false }), (36, { g := false }), (41, { g := false }), (42, { b := true })] [1, 3, 62] [0, 1] 2 (vals := [.ptr 0 0 0 0, .ptr 1 0 0 0, .bool true]) (bxs := [.live (.var 28 (v_T_api_Event e_1)), .live (.var 71 (v_T_event_form r_1.1))]) (by kernel_rfl) hmix (ac gg_2 (ac gg_2 (ac gg_2 (ac gg_2 (ac gg_3 (ac gg_3 (ac gg_3 (ac gg_2 (ac gg_3 (ac gg_2 (ac (rfl : false = false) (ac (rfl : false = false) (ac (rfl : false = false) (ac (rfl : false = false) (ac gg_15 (ac gg_15 (ac gg_15 (ac (rfl : false = false) (ac gg_15 (ac (rfl : false = false) (ac gg_16 (ac gg_16 (ac gg_16 (ac gg_16 (ac gg_16 (ac gg_16 (ac (rfl : true = !false) (ac (rfl : true = !false) (ac (rfl : true = !false) (ac (rfl : true = !false) (ac (rfl : true = !false) (ac (rfl : true = true) an)))))))))))))))))))))))))))))))) ?_
            replace h := Option.some.inj h; subst h
            exact ⟨rfl, (sub_wkm [0, 1] [] [.s 1, .s 3, .s 62] [.s 0, .s 1] (by kernel_rfl) an)⟩
          · replace h := cond_f gg_16 h
            rcases Bool.eq_false_or_eq_true (!r_1.1.m) with gg_17 | gg_17
            · replace h := cond_t gg_17 h
              rcases Bool.eq_false_or_eq_true (e_1.M != (0 : Int)) with gg_18 | gg_18
              · replace h := cond_t gg_18 h
                refine aw_region [(7, { g := false }), (8, { g := false }), (9, { g := false }), (10, { b := false }), (11, { b := false }), (20, { b := true }), (21, { b := false }), (30, { b := true }), (31, { b := false }), (33, { g := false }), (34, { g := false }), (35, { g := false }), (36, { g := false }), (41, { g := false }), (42, { b := true })] [1, 3, 62] [0, 1] 2 (vals := [.ptr 0 0 0 0, .ptr 1 0 0 0, .bool true]) (bxs := [.live (.var 28 (v_T_api_Event e_1)), .live (.var 71 (v_T_event_form r_1.1))]) (by kernel_rfl) hmix (ac gg_2 (ac gg_2 (ac gg_2 (ac gg_2 (ac gg_3 (ac gg_3 (ac gg_3 (ac gg_2 (ac gg_3 (ac gg_2 (ac (rfl : false = false) (ac (rfl : false = false) (ac (rfl : false = false) (ac (rfl : false = false) (ac gg_15 (ac gg_15 (ac gg_15 (ac (rfl : false = false) (ac gg_15 (ac (rfl : false = false) (ac gg_16 (ac gg_16 (ac gg_16 (ac gg_16 (ac gg_17 (ac gg_17 (ac gg_17 (ac gg_16 (ac gg_17 (ac gg_16 (ac gg_18 (ac gg_18 (ac gg_18 (ac gg_18 (ac gg_18 (ac gg_18 an)))))))))))))))))))))))))))))))))))) ?_
                replace h := Option.some.inj h; subst h
                exact ⟨rfl, (sub_wkm [0, 1] [] [.s 1, .s 3, .s 62] [.s 0, .s 1] (by kernel_rfl) an)⟩
              · replace h := cond_f gg_18 h
                rcases Bool.eq_false_or_eq_true (!r_1.1.stack) with gg_19 | gg_19
                · replace h := cond_t gg_19 h
                  refine aw_region [(7, { g := false }), (8, { g := false }), (9, { g := false }), (10, { b := false }), (11, { b := false }), (20, { b := true }), (21, { b := false }), (30, { b := true }), (31, { b := false }), (39, { n := (e_1.Stack).length }), (41, { b := true }), (42, { b := false })] [1, 3, 62] [0, 1] 2 (vals := [.ptr 0 0 0 0, .ptr 1 0 0 0, .bool (decide ((((e_1.Stack).length : Nat) : Int) > (0 : Int)))]) (bxs := [.live (.var 28 (v_T_api_Event e_1)), .live (.var 71 (v_T_event_form r_1.1))]) (by kernel_rfl) hmix (ac gg_2 (ac gg_2 (ac gg_2 (ac gg_2 (ac gg_3 (ac gg_3 (ac gg_3 (ac gg_2 (ac gg_3 (ac gg_2 (ac (rfl : false = false) (ac (rfl : false = false) (ac (rfl : false = false) (ac (rfl : false = false) (ac gg_15 (ac gg_15 (ac gg_15 (ac (rfl : false = false) (ac gg_15 (ac (rfl : false = false) (ac gg_16 (ac gg_16 (ac gg_16 (ac gg_16 (ac gg_17 (ac gg_17 (ac gg_17 (ac gg_16 (ac gg_17 (ac gg_16 (ac gg_18 (ac gg_18 (ac gg_18 (ac gg_18 (ac gg_19 (ac gg_19 (ac gg_19 (ac (vc_len _ : ((List.map AV.str e_1.Stack)).length = (e_1.Stack).length) (ac gg_19 (ac gg_18 (ac gg_19 (ac gg_18 an)))))))))))))))))))))))))))))))))))))))))) ?_
                  replace h := Option.some.inj h; subst h
                  exact ⟨rfl, (sub_wkm [0, 1] [] [.s 1, .s 3, .s 62] [.s 0, .s 1] (by kernel_rfl) an)⟩
                · replace h := cond_f gg_19 h
                  refine aw_region [(7, { g := false }), (8, { g := false }), (9, { g := false }), (10, { b := false }), (11, { b := false }), (20, { b := true }), (21, { b := false }), (30, { b := true }), (31, { b := false }), (37, { g := false }), (38, { g := false }), (39, { g := false }), (40, { g := false }), (41, { b := false }), (42, { b := false })] [1, 3, 62] [0, 1] 2 (vals := [.ptr 0 0 0 0, .ptr 1 0 0 0, .bool false]) (bxs := [.live (.var 28 (v_T_api_Event e_1)), .live (.var 71 (v_T_event_form r_1.1))]) (by kernel_rfl) hmix (ac gg_2 (ac gg_2 (ac gg_2 (ac gg_2 (ac gg_3 (ac gg_3 (ac gg_3 (ac gg_2 (ac gg_3 (ac gg_2 (ac (rfl : false = false) (ac (rfl : false = false) (ac (rfl : false = false) (ac (rfl : false = false) (ac gg_15 (ac gg_15 (ac gg_15 (ac (rfl : false = false) (ac gg_15 (ac (rfl : false = false) (ac gg_16 (ac gg_16 (ac gg_16 (ac gg_16 (ac gg_17 (ac gg_17 (ac gg_17 (ac gg_16 (ac gg_17 (ac gg_16 (ac gg_18 (ac gg_18 (ac gg_18 (ac gg_18 (ac gg_19 (ac gg_19 (ac gg_19 (ac gg_19 (ac gg_18 (ac gg_19 (ac gg_18 an))))))))))))))))))))))))))))))))))))))))) ?_
                  replace h := Option.some.inj h; subst h
                  exact ⟨rfl, (sub_wkm [0, 1] [] [.s 1, .s 3, .s 62] [.s 0, .s 1] (by kernel_rfl) an)⟩
            · replace h := cond_f gg_17 h
              rcases Bool.eq_false_or_eq_true (!r_1.1.stack) with gg_20 | gg_20
              · replace h := cond_t gg_20 h
                refine aw_region [(7, { g := false }), (8, { g := false }), (9, { g := false }), (10, { b := false }), (11, { b := false }), (20, { b := true }), (21, { b := false }), (27, { g := false }), (28, { g := false }), (29, { g := false }), (30, { b := false }), (31, { b := false }), (39, { n := (e_1.Stack).length }), (41, { b := true }), (42, { b := false })] [1, 3, 62] [0, 1] 2 (vals := [.ptr 0 0 0 0, .ptr 1 0 0 0, .bool (decide ((((e_1.Stack).length : Nat) : Int) > (0 : Int)))]) (bxs := [.live (.var 28 (v_T_api_Event e_1)), .live (.var 71 (v_T_event_form r_1.1))]) (by kernel_rfl) hmix (ac gg_2 (ac gg_2 (ac gg_2 (ac gg_2 (ac gg_3 (ac gg_3 (ac gg_3 (ac gg_2 (ac gg_3 (ac gg_2 (ac (rfl : false = false) (ac (rfl : false = false) (ac (rfl : false = false) (ac (rfl : false = false) (ac gg_15 (ac gg_15 (ac gg_15 (ac (rfl : false = false) (ac gg_15 (ac (rfl : false = false) (ac gg_16 (ac gg_16 (ac gg_16 (ac gg_16 (ac gg_17 (ac gg_17 (ac gg_17 (ac gg_16 (ac gg_17 (ac gg_16 (ac (rfl : false = false) (ac (rfl : false = false) (ac (rfl : false = false) (ac (rfl : false = false) (ac gg_20 (ac gg_20 (ac gg_20 (ac (vc_len _ : ((List.map AV.str e_1.Stack)).length = (e_1.Stack).length) (ac gg_20 (ac (rfl : false = false) (ac gg_20 (ac (rfl : false = false) an)))))))))))))))))))))))))))))))))))))))))) ?_
                replace h := Option.some.inj h; subst h
                exact ⟨rfl, (sub_wkm [0, 1] [] [.s 1, .s 3, .s 62] [.s 0, .s 1] (by kernel_rfl) an)⟩
              · replace h := cond_f gg_20 h
                refine aw_region [(7, { g := false }), (8, { g := false }), (9, { g := false }), (10, { b := false }), (11, { b := false }), (20, { b := true }), (21, { b := false }), (27, { g := false }), (28, { g := false }), (29, { g := false }), (30, { b := false }), (31, { b := false }), (37, { g := false }), (38, { g := false }), (39, { g := false }), (40, { g := false }), (41, { b := false }), (42, { b := false })] [1, 3, 62] [0, 1] 2 (vals := [.ptr 0 0 0 0, .ptr 1 0 0 0, .bool false]) (bxs := [.live (.var 28 (v_T_api_Event e_1)), .live (.var 71 (v_T_event_form r_1.1))]) (by kernel_rfl) hmix (ac gg_2 (ac gg_2 (ac gg_2 (ac gg_2 (ac gg_3 (ac gg_3 (ac gg_3 (ac gg_2 (ac gg_3 (ac gg_2 (ac (rfl : false = false) (ac (rfl : false = false) (ac (rfl : false = false) (ac (rfl : false = false) (ac gg_15 (ac gg_15 (ac gg_15 (ac (rfl : false = false) (ac gg_15 (ac (rfl : false = false) (ac gg_16 (ac gg_16 (ac gg_16 (ac gg_16 (ac gg_17 (ac gg_17 (ac gg_17 (ac gg_16 (ac gg_17 (ac gg_16 (ac (rfl : false = false) (ac (rfl : false = false) (ac (rfl : false = false) (ac (rfl : false = false) (ac gg_20 (ac gg_20 (ac gg_20 (ac gg_20 (ac (rfl : false = false) (ac gg_20 (ac (rfl : false = false) an))))))))))))))))))))))))))))))))))))))))) ?_
                replace h := Option.some.inj h; subst h
                exact ⟨rfl, (sub_wkm [0, 1] [] [.s 1, .s 3, .s 62] [.s 0, .s 1] (by kernel_rfl) an)⟩
        · replace h := cond_f gg_15 h
          rcases Bool.eq_false_or_eq_true (!r_1.1.m) with gg_21 | gg_21
          · replace h := cond_t gg_21 h
            rcases Bool.eq_false_or_eq_true (e_1.M != (0 : Int)) with gg_22 | gg_22
            · replace h := cond_t gg_22 h
              refine aw_region [(7, { g := false }), (8, { g := false }), (9, { g := false }), (10, { b := false }), (11, { b := false }), (17, { g := false }), (18, { g := false }), (19, { g := false }), (20, { b := false }), (21, { b := false }), (30, { b := true }), (31, { b := false }), (33, { g := false }), (34, { g := false }), (35, { g := false }), (36, { g := false }), (41, { g := false }), (42, { b := true })] [1, 3, 62] [0, 1] 2 (vals := [.ptr 0 0 0 0, .ptr 1 0 0 0, .bool true]) (bxs := [.live (.var 28 (v_T_api_Event e_1)), .live (.var 71 (v_T_event_form r_1.1))]) (by kernel_rfl) hmix (ac gg_2 (ac gg_2 (ac gg_2 (ac gg_2 (ac gg_3 (ac gg_3 (ac gg_3 (ac gg_2 (ac gg_3 (ac gg_2 (ac (rfl : false = false) (ac (rfl : false = false) (ac (rfl : false = false) (ac (rfl : false = false) (ac gg_15 (ac gg_15 (ac gg_15 (ac (rfl : false = false) (ac gg_15 (ac (rfl : false = false) (ac (rfl : false = false) (ac (rfl : false = false) (ac (rfl : false = false) (ac (rfl : false = false) (ac gg_21 (ac gg_21 (ac gg_21 (ac (rfl : false = false) (ac gg_21 (ac (rfl : false = false) (ac gg_22 (ac gg_22 (ac gg_22 (ac gg_22 (ac gg_22 (ac gg_22 an)))))))))))))))))))))))))))))))))))) ?_
              replace h := Option.some.inj h; subst h
              exact ⟨rfl, (sub_wkm [0, 1] [] [.s 1, .s 3, .s 62] [.s 0, .s 1] (by kernel_rfl) an)⟩
            · replace h := cond_f gg_22 h
              rcases Bool.eq_false_or_eq_true (!r_1.1.stack) with gg_23 | gg_23
              · replace h := cond_t gg_23 h
                refine aw_region [(7, { g := false }), (8, { g := false }), (9, { g := false }), (10, { b := false }), (11, { b := false }), (17, { g := false }), (18, { g := false }), (19, { g := false }), (20, { b := false }), (21, { b := false }), (30, { b := true }), (31, { b := false }), (39, { n := (e_1.Stack).length }), (41, { b := true }), (42, { b := false })] [1, 3, 62] [0, 1] 2 (vals := [.ptr 0 0 0 0, .ptr 1 0 0 0, .bool (decide ((((e_1.Stack).length : Nat) : Int) > (0 : Int)))]) (bxs := [.live (.var 28 (v_T_api_Event e_1)), .live (.var 71 (v_T_event_form r_1.1))]) (by kernel_rfl) hmix (ac gg_2 (ac gg_2 (ac gg_2 (ac gg_2 (ac gg_3 (ac gg_3 (ac gg_3 (ac gg_2 (ac gg_3 (ac gg_2 (ac (rfl : false = false) (ac (rfl : false = false) (ac (rfl : false = false) (ac (rfl : false = false) (ac gg_15 (ac gg_15 (ac gg_15 (ac (rfl : false = false) (ac gg_15 (ac (rfl : false = false) (ac (rfl : false = false) (ac (rfl : false = false) (ac (rfl : false = false) (ac (rfl : false = false) (ac gg_21 (ac gg_21 (ac gg_21 (ac (rfl : false = false) (ac gg_21 (ac (rfl : false = false) (ac gg_22 (ac gg_22 (ac gg_22 (ac gg_22 (ac gg_23 (ac gg_23 (ac gg_23 (ac (vc_len _ : ((List.map AV.str e_1.Stack)).length = (e_1.Stack).length) (ac gg_23 (ac gg_22 (ac gg_23 (ac gg_22 an)))))))))))))))))))))))))))))))))))))))))) ?_
                replace h := Option.some.inj h; subst h
                exact ⟨rfl, (sub_wkm [0, 1] [] [.s 1, .s 3, .s 62] [.s 0, .s 1] (by kernel_rfl) an)⟩
              · replace h := cond_f gg_23 h
                refine aw_region [(7, { g := false }), (8, { g := false }), (9, { g := false }), (10, { b := false }), (11, { b := false }), (17, { g := false }), (18, { g := false }), (19, { g := false }), (20, { b := false }), (21, { b := false }), (30, { b := true }), (31, { b := false }), (37, { g := false }), (38, { g := false }), (39, { g := false }), (40, { g := false }), (41, { b := false }), (42, { b := false })] [1, 3, 62] [0, 1] 2 (vals := [.ptr 0 0 0 0, .ptr 1 0 0 0, .bool false]) (bxs := [.live (.var 28 (v_T_api_Event e_1)), .live (.var 71 (v_T_event_form r_1.1))]) (by kernel_rfl) hmix (ac gg_2 (ac gg_2 (ac gg_2 (ac gg_2 (ac gg_3 (ac gg_3 (ac gg_3 (ac gg_2 (ac gg_3 (ac gg_2 (ac (rfl : false = false) (ac (rfl : false = false) (ac (rfl : false = false) (ac (rfl : false = false) (ac gg_15 (ac gg_15 (ac gg_15 (ac (rfl : false = false) (ac gg_15 (ac (rfl : false = false) (ac (rfl : false = false) (ac (rfl : false = false) (ac (rfl : false = false) (ac (rfl : false = false) (ac gg_21 (ac gg_21 (ac gg_21 (ac (rfl : false = false) (ac gg_21 (ac (rfl : false = false) (ac gg_22 (ac gg_22 (ac gg_22 (ac gg_22 (ac gg_23 (ac gg_23 (ac gg_23 (ac gg_23 (ac gg_22 (ac gg_23 (ac gg_22 an))))))))))))))))))))))))))))))))))))))))) ?_
                replace h := Option.some.inj h; subst h
                exact ⟨rfl, (sub_wkm [0, 1] [] [.s 1, .s 3, .s 62] [.s 0, .s 1] (by kernel_rfl) an)⟩
          · replace h := cond_f gg_21 h
            rcases Bool.eq_false_or_eq_true (!r_1.1.stack) with gg_24 | gg_24
            · replace h := cond_t gg_24 h
              refine aw_region [(7, { g := false }), (8, { g := false }), (9, { g := false }), (10, { b := false }), (11, { b := false }), (17, { g := false }), (18, { g := false }), (19, { g := false }), (20, { b := false }), (21, { b := false }), (27, { g := false }), (28, { g := false }), (29, { g := false }), (30, { b := false }), (31, { b := false }), (39, { n := (e_1.Stack).length }), (41, { b := true }), (42, { b := false })] [1, 3, 62] [0, 1] 2 (vals := [.ptr 0 0 0 0, .ptr 1 0 0 0, .bool (decide ((((e_1.Stack).length : Nat) : Int) > (0 : Int)))]) (bxs := [.live (.var 28 (v_T_api_Event e_1)), .live (.var 71 (v_T_event_form r_1.1))]) (by kernel_rfl) hmix (ac gg_2 (ac gg_2 (ac gg_2 (ac gg_2 (ac gg_3 (ac gg_3 (ac gg_3 (ac gg_2 (ac gg_3 (ac gg_2 (ac (rfl : false = false) (ac (rfl : false = false) (ac (rfl : false = false) (ac (rfl : false = false) (ac gg_15 (ac gg_15 (ac gg_15 (ac (rfl : false = false) (ac gg_15 (ac (rfl : false = false) (ac (rfl : false = false) (ac (rfl : false = false) (ac (rfl : false = false) (ac (rfl : false = false) (ac gg_21 (ac gg_21 (ac gg_21 (ac (rfl : false = false) (ac gg_21 (ac (rfl : false = false) (ac (rfl : false = false) (ac (rfl : false = false) (ac (rfl : false = false) (ac (rfl : false = false) (ac gg_24 (ac gg_24 (ac gg_24 (ac (vc_len _ : ((List.map AV.str e_1.Stack)).length = (e_1.Stack).length) (ac gg_24 (ac (rfl : false = false) (ac gg_24 (ac (rfl : false = false) an)))))))))))))))))))))))))))))))))))))))))) ?_
              replace h := Option.some.inj h; subst h
              exact ⟨rfl, (sub_wkm [0, 1] [] [.s 1, .s 3, .s 62] [.s 0, .s 1] (by kernel_rfl) an)⟩
            · replace h := cond_f gg_24 h
              refine aw_region [(7, { g := false }), (8, { g := false }), (9, { g := false }), (10, { b := false }), (11, { b := false }), (17, { g := false }), (18, { g := false }), (19, { g := false }), (20, { b := false }), (21, { b := false }), (27, { g := false }), (28, { g := false }), (29, { g := false }), (30, { b := false }), (31, { b := false }), (37, { g := false }), (38, { g := false }), (39, { g := false }), (40, { g := false }), (41, { b := false }), (42, { b := false })] [1, 3, 62] [0, 1] 2 (vals := [.ptr 0 0 0 0, .ptr 1 0 0 0, .bool false]) (bxs := [.live (.var 28 (v_T_api_Event e_1)), .live (.var 71 (v_T_event_form r_1.1))]) (by kernel_rfl) hmix (ac gg_2 (ac gg_2 (ac gg_2 (ac gg_2 (ac gg_3 (ac gg_3 (ac gg_3 (ac gg_2 (ac gg_3 (ac gg_2 (ac (rfl : false = false) (ac (rfl : false = false) (ac (rfl : false = false) (ac (rfl : false = false) (ac gg_15 (ac gg_15 (ac gg_15 (ac (rfl : false = false) (ac gg_15 (ac (rfl : false = false) (ac (rfl : false = false) (ac (rfl : false = false) (ac (rfl : false = false) (ac (rfl : false = false) (ac gg_21 (ac gg_21 (ac gg_21 (ac (rfl : false = false) (ac gg_21 (ac (rfl : false = false) (ac (rfl : false = false) (ac (rfl : false = false) (ac (rfl : false = false) (ac (rfl : false = false) (ac gg_24 (ac gg_24 (ac gg_24 (ac gg_24 (ac (rfl : false = false) (ac gg_24 (ac (rfl : false = false) an))))))))))))))))))))))))))))))))))))))))) ?_
              replace h := Option.some.inj h; subst h
              exact ⟨rfl, (sub_wkm [0, 1] [] [.s 1, .s 3, .s 62] [.s 0, .s 1] (by kernel_rfl) an)⟩
  refine aw_cond (t := 62) (b := p_1) (by kernel_rfl) (by kernel_rfl) ?_ ?_
  · intro g_2; replace h := cond_t g_2 h
    refine aw_seq (by kernel_rfl) ?_
    refine aw_region [] [2] [] 2 (vals := [.int .i64 (1 : Int)]) (bxs := []) (by kernel_rfl) hmix an ?_
    refine aw_ret (by kernel_rfl) ?_
    replace h := Option.some.inj h; subst h
    exact ⟨.inr rfl, Nat.le_of_ble_eq_true rfl, by kernel_rfl⟩
  intro g_2; replace h := cond_f g_2 h
  refine aw_skip (by kernel_rfl) ?_
  refine aw_seq (by kernel_rfl) ?_
  refine aw_seq (by kernel_rfl) ?_
  obtain ⟨r_2, h_3, h⟩ := bind_some h
  refine aw_region [(2, { av := .int .i64 r_2, l := [e_T_event_form r_1.1, e_T_api_Event e_1] })] [1, 3, 5] [0, 1] 2 (vals := [.ptr 0 0 0 0, .ptr 1 0 0 0, .int .i64 r_2]) (bxs := [.live (.var 28 (v_T_api_Event e_1)), .live (.var 71 (v_T_event_form r_1.1))]) (by kernel_rfl) hmix (ac (rfl : ([e_T_event_form r_1.1, e_T_api_Event e_1] : List AV) = [e_T_event_form r_1.1, e_T_api_Event e_1]) (ac (rfl : ([] : List BoxSt) = []) (ac (event_names_ok F r_1.1 e_1 r_2 h_3 : TripleG prog 39 [] [] [e_T_event_form r_1.1, e_T_api_Event e_1] [] (.int .i64 r_2)) an))) ?_
  refine aw_seq (by kernel_rfl) ?_
  refine aw_region [] [1, 3, 5, 67] [0, 1] 2 (vals := [.ptr 0 0 0 0, .ptr 1 0 0 0, .int .i64 r_2, .bool (r_2 != (0 : Int))]) (bxs := [.live (.var 28 (v_T_api_Event e_1)), .live (.var 71 (v_T_event_form r_1.1))]) (by kernel_rfl) hmix an ?_
  refine aw_cond (t := 67) (b := (r_2 != (0 : Int))) (by kernel_rfl) (by kernel_rfl) ?_ ?_
  · intro g_3; replace h := cond_t g_3 h
    refine aw_seq (by kernel_rfl) ?_
    refine aw_region [] [2] [] 2 (vals := [.int .i64 r_2]) (bxs := []) (by kernel_rfl) hmix an ?_
    refine aw_ret (by kernel_rfl) ?_
    replace h := Option.some.inj h; subst h
    exact ⟨.inr rfl, Nat.le_of_ble_eq_true rfl, by kernel_rfl⟩
  intro g_3; replace h := cond_f g_3 h
  refine aw_skip (by kernel_rfl) ?_
  refine aw_seq (by kernel_rfl) ?_
  refine aw_block (id := 0) (by kernel_rfl) ?_
  refine aw_seq (by kernel_rfl) ?_
  refine aw_mid (mk [(1, .ptr 0 0 0 0), (3, .ptr 1 0 0 0), (69, .bool (r_1.1.n && (decide (e_1.N < r_1.1.least) || decide (e_1.N > r_1.1.most))))] [(0, .live (.var 28 (v_T_api_Event e_1))), (1, .live (.var 71 (v_T_event_form r_1.1)))] 2) ?_ ?_
  · rcases Bool.eq_false_or_eq_true r_1.1.n with gg_25 | gg_25
    · rcases Bool.eq_false_or_eq_true (decide (e_1.N < r_1.1.least)) with gg_26 | gg_26
      · refine aw_region [(9, { g := false }), (10, { g := false }), (11, { g := false }), (12, { g := false }), (13, { g := false }), (14, { b := true }), (15, { b := true })] [1, 3, 69] [0, 1] 2 (vals := [.ptr 0 0 0 0, .ptr 1 0 0 0, .bool true]) (bxs := [.live (.var 28 (v_T_api_Event e_1)), .live (.var 71 (v_T_event_form r_1.1))]) (by kernel_rfl) hmix (ac gg_25 (ac gg_25 (ac gg_25 (ac gg_25 (ac gg_25 (ac gg_25 (ac gg_26 (ac gg_26 (ac gg_26 (ac gg_26 (ac gg_26 (ac gg_25 (ac gg_26 (ac gg_25 an)))))))))))))) ?_
        exact ⟨rfl, (sub_wkm [0, 1] [] [.s 1, .s 3, .a 69 (.bool (r_1.1.n && (decide (e_1.N < r_1.1.least) || decide (e_1.N > r_1.1.most))))] [.s 0, .s 1] (by kernel_rfl) (ac (congrArg AV.bool (andt gg_25 (ort gg_26)) : (.bool true : AV) = .bool (r_1.1.n && (decide (e_1.N < r_1.1.least) || decide (e_1.N > r_1.1.most)))) an))⟩
      · refine aw_region [(14, { b := false }), (15, { b := true })] [1, 3, 69] [0, 1] 2 (vals := [.ptr 0 0 0 0, .ptr 1 0 0 0, .bool (decide (e_1.N > r_1.1.most))]) (bxs := [.live (.var 28 (v_T_api_Event e_1)), .live (.var 71 (v_T_event_form r_1.1))]) (by kernel_rfl) hmix (ac gg_25 (ac gg_25 (ac gg_25 (ac gg_25 (ac gg_25 (ac gg_25 (ac gg_26 (ac gg_26 (ac gg_26 (ac gg_26 (ac gg_26 (ac gg_25 (ac gg_26 (ac gg_25 an)))))))))))))) ?_
        exact ⟨rfl, (sub_wkm [0, 1] [] [.s 1, .s 3, .a 69 (.bool (r_1.1.n && (decide (e_1.N < r_1.1.least) || decide (e_1.N > r_1.1.most))))] [.s 0, .s 1] (by kernel_rfl) (ac (congrArg AV.bool (andt gg_25 (orf gg_26 rfl)) : (.bool (decide (e_1.N > r_1.1.most)) : AV) = .bool (r_1.1.n && (decide (e_1.N < r_1.1.least) || decide (e_1.N > r_1.1.most)))) an))⟩
    · refine aw_region [(3, { g := false }), (4, { g := false }), (5, { g := false }), (6, { g := false }), (7, { g := false }), (8, { g := false }), (14, { g := false }), (15, { b := false })] [1, 3, 69] [0, 1] 2 (vals := [.ptr 0 0 0 0, .ptr 1 0 0 0, .bool false]) (bxs := [.live (.var 28 (v_T_api_Event e_1)), .live (.var 71 (v_T_event_form r_1.1))]) (by kernel_rfl) hmix (ac gg_25 (ac gg_25 (ac gg_25 (ac gg_25 (ac gg_25 (ac gg_25 (ac gg_25 (ac gg_25 an)))))))) ?_
      exact ⟨rfl, (sub_wkm [0, 1] [] [.s 1, .s 3, .a 69 (.bool (r_1.1.n && (decide (e_1.N < r_1.1.least) || decide (e_1.N > r_1.1.most))))] [.s 0, .s 1] (by kernel_rfl) (ac (congrArg AV.bool (andf gg_25) : (.bool false : AV) = .bool (r_1.1.n && (decide (e_1.N < r_1.1.least) || decide (e_1.N > r_1.1.most)))) an))⟩
  refine aw_cond (t := 69) (b := (r_1.1.n && (decide (e_1.N < r_1.1.least) || decide (e_1.N > r_1.1.most)))) (by kernel_rfl) (by kernel_rfl) ?_ ?_
  · intro g_4; replace h := cond_t g_4 h
    refine aw_seq (by kernel_rfl) ?_
    refine aw_region [] [2] [] 2 (vals := [.int .i64 (2 : Int)]) (bxs := []) (by kernel_rfl) hmix an ?_
    refine aw_ret (by kernel_rfl) ?_
    replace h := Option.some.inj h; subst h
    exact ⟨.inr rfl, Nat.le_of_ble_eq_true rfl, by kernel_rfl⟩
  intro g_4; replace h := cond_f g_4 h
  refine aw_seq (by kernel_rfl) ?_
  refine aw_mid (mk [(1, .ptr 0 0 0 0), (3, .ptr 1 0 0 0), (86, .bool ((e_1.Kind == (9 : Int)) && ((e_1.N != (2 : Int)) && (e_1.M != (0 : Int)))))] [(0, .live (.var 28 (v_T_api_Event e_1))), (1, .live (.var 71 (v_T_event_form r_1.1)))] 2) ?_ ?_
  · rcases Bool.eq_false_or_eq_true (e_1.Kind == (9 : Int)) with gg_27 | gg_27
    · rcases Bool.eq_false_or_eq_true (e_1.N != (2 : Int)) with gg_28 | gg_28
      · refine aw_region [(7, { b := true }), (12, { b := true })] [1, 3, 86] [0, 1] 2 (vals := [.ptr 0 0 0 0, .ptr 1 0 0 0, .bool (e_1.M != (0 : Int))]) (bxs := [.live (.var 28 (v_T_api_Event e_1)), .live (.var 71 (v_T_event_form r_1.1))]) (by kernel_rfl) hmix (ac gg_27 (ac gg_27 (ac gg_27 (ac gg_27 (ac gg_28 (ac gg_28 (ac gg_28 (ac gg_28 an)))))))) ?_
        exact ⟨rfl, (sub_wkm [0, 1] [] [.s 1, .s 3, .a 86 (.bool ((e_1.Kind == (9 : Int)) && ((e_1.N != (2 : Int)) && (e_1.M != (0 : Int)))))] [.s 0, .s 1] (by kernel_rfl) (ac (congrArg AV.bool (andt gg_27 (andt gg_28 rfl)) : (.bool (e_1.M != (0 : Int)) : AV) = .bool ((e_1.Kind == (9 : Int)) && ((e_1.N != (2 : Int)) && (e_1.M != (0 : Int))))) an))⟩
      · refine aw_region [(7, { b := true }), (9, { g := false }), (10, { g := false }), (11, { g := false }), (12, { b := false })] [1, 3, 86] [0, 1] 2 (vals := [.ptr 0 0 0 0, .ptr 1 0 0 0, .bool false]) (bxs := [.live (.var 28 (v_T_api_Event e_1)), .live (.var 71 (v_T_event_form r_1.1))]) (by kernel_rfl) hmix (ac gg_27 (ac gg_27 (ac gg_27 (ac gg_27 (ac gg_28 (ac gg_28 (ac gg_28 (ac gg_28 an)))))))) ?_
        exact ⟨rfl, (sub_wkm [0, 1] [] [.s 1, .s 3, .a 86 (.bool ((e_1.Kind == (9 : Int)) && ((e_1.N != (2 : Int)) && (e_1.M != (0 : Int)))))] [.s 0, .s 1] (by kernel_rfl) (ac (congrArg AV.bool (andt gg_27 (andf gg_28)) : (.bool false : AV) = .bool ((e_1.Kind == (9 : Int)) && ((e_1.N != (2 : Int)) && (e_1.M != (0 : Int))))) an))⟩
    · refine aw_region [(4, { g := false }), (5, { g := false }), (6, { g := false }), (7, { b := false }), (9, { g := false }), (10, { g := false }), (11, { g := false }), (12, { b := false })] [1, 3, 86] [0, 1] 2 (vals := [.ptr 0 0 0 0, .ptr 1 0 0 0, .bool false]) (bxs := [.live (.var 28 (v_T_api_Event e_1)), .live (.var 71 (v_T_event_form r_1.1))]) (by kernel_rfl) hmix (ac gg_27 (ac gg_27 (ac gg_27 (ac gg_27 (ac (rfl : false = !true) (ac (rfl : false = !true) (ac (rfl : false = !true) (ac (rfl : false = false) an)))))))) ?_
      exact ⟨rfl, (sub_wkm [0, 1] [] [.s 1, .s 3, .a 86 (.bool ((e_1.Kind == (9 : Int)) && ((e_1.N != (2 : Int)) && (e_1.M != (0 : Int)))))] [.s 0, .s 1] (by kernel_rfl) (ac (congrArg AV.bool (andf gg_27) : (.bool false : AV) = .bool ((e_1.Kind == (9 : Int)) && ((e_1.N != (2 : Int)) && (e_1.M != (0 : Int))))) an))⟩
  refine aw_cond (t := 86) (b := ((e_1.Kind == (9 : Int)) && ((e_1.N != (2 : Int)) && (e_1.M != (0 : Int))))) (by kernel_rfl) (by kernel_rfl) ?_ ?_
  · intro g_5; replace h := cond_t g_5 h
    refine aw_seq (by kernel_rfl) ?_
    refine aw_region [] [2] [] 2 (vals := [.int .i64 (1 : Int)]) (bxs := []) (by kernel_rfl) hmix an ?_
    refine aw_ret (by kernel_rfl) ?_
    replace h := Option.some.inj h; subst h
    exact ⟨.inr rfl, Nat.le_of_ble_eq_true rfl, by kernel_rfl⟩
  intro g_5; replace h := cond_f g_5 h
  refine aw_seq (by kernel_rfl) ?_
  refine aw_mid (mk [(100, .bool (r_1.1.m && (bif decide (e_1.M < r_1.1.mLeast) then ((e_1.Kind != (9 : Int)) || (e_1.N == (2 : Int))) else (decide (e_1.M > r_1.1.mMost) && ((e_1.Kind != (9 : Int)) || (e_1.N == (2 : Int)))))))] [] 0) ?_ ?_
  · rcases Bool.eq_false_or_eq_true r_1.1.m with gg_29 | gg_29
    · rcases Bool.eq_false_or_eq_true (decide (e_1.M < r_1.1.mLeast)) with gg_30 | gg_30
      · rcases Bool.eq_false_or_eq_true (e_1.Kind != (9 : Int)) with gg_31 | gg_31
        · refine aw_region [(9, { g := false }), (10, { g := false }), (11, { g := false }), (12, { g := false }), (13, { g := false }), (14, { b := true }), (15, { b := true }), (21, { g := false }), (22, { g := false }), (23, { g := false }), (24, { b := true }), (25, { b := true })] [100] [] 2 (vals := [.bool true]) (bxs := []) (by kernel_rfl) hmix (ac gg_29 (ac gg_29 (ac gg_29 (ac gg_29 (ac gg_29 (ac gg_29 (ac gg_30 (ac gg_30 (ac gg_30 (ac gg_30 (ac gg_30 (ac gg_29 (ac gg_30 (ac gg_29 (ac (rfl : true = true) (ac (rfl : true = true) (ac (rfl : true = true) (ac (rfl : true = true) (ac gg_31 (ac gg_31 (ac gg_31 (ac (rfl : true = true) (ac gg_31 (ac (rfl : true = true) an)))))))))))))))))))))))) ?_
          exact ⟨rfl, (sub_wkm [] [] [.a 100 (.bool (r_1.1.m && (bif decide (e_1.M < r_1.1.mLeast) then ((e_1.Kind != (9 : Int)) || (e_1.N == (2 : Int))) else (decide (e_1.M > r_1.1.mMost) && ((e_1.Kind != (9 : Int)) || (e_1.N == (2 : Int)))))))] [] (by kernel_rfl) (ac (congrArg AV.bool (andt gg_29 (ctr gg_30 (ort gg_31))) : (.bool true : AV) = .bool (r_1.1.m && (bif decide (e_1.M < r_1.1.mLeast) then ((e_1.Kind != (9 : Int)) || (e_1.N == (2 : Int))) else (decide (e_1.M > r_1.1.mMost) && ((e_1.Kind != (9 : Int)) || (e_1.N == (2 : Int))))))) an))⟩
        · refine aw_region [(9, { g := false }), (10, { g := false }), (11, { g := false }), (12, { g := false }), (13, { g := false }), (14, { b := true }), (15, { b := true }), (24, { b := false }), (25, { b := true })] [100] [] 2 (vals := [.bool (e_1.N == (2 : Int))]) (bxs := []) (by kernel_rfl) hmix (ac gg_29 (ac gg_29 (ac gg_29 (ac gg_29 (ac gg_29 (ac gg_29 (ac gg_30 (ac gg_30 (ac gg_30 (ac gg_30 (ac gg_30 (ac gg_29 (ac gg_30 (ac gg_29 (ac (rfl : true = true) (ac (rfl : true = true) (ac (rfl : true = true) (ac (rfl : true = true) (ac gg_31 (ac gg_31 (ac gg_31 (ac (rfl : true = true) (ac gg_31 (ac (rfl : true = true) an)))))))))))))))))))))))) ?_
          exact ⟨rfl, (sub_wkm [] [] [.a 100 (.bool (r_1.1.m && (bif decide (e_1.M < r_1.1.mLeast) then ((e_1.Kind != (9 : Int)) || (e_1.N == (2 : Int))) else (decide (e_1.M > r_1.1.mMost) && ((e_1.Kind != (9 : Int)) || (e_1.N == (2 : Int)))))))] [] (by kernel_rfl) (ac (congrArg AV.bool (andt gg_29 (ctr gg_30 (orf gg_31 rfl))) : (.bool (e_1.N == (2 : Int)) : AV) = .bool (r_1.1.m && (bif decide (e_1.M < r_1.1.mLeast) then ((e_1.Kind != (9 : Int)) || (e_1.N == (2 : Int))) else (decide (e_1.M > r_1.1.mMost) && ((e_1.Kind != (9 : Int)) || (e_1.N == (2 : Int))))))) an))⟩
      · rcases Bool.eq_false_or_eq_true (decide (e_1.M > r_1.1.mMost)) with gg_32 | gg_32
        · rcases Bool.eq_false_or_eq_true (e_1.Kind != (9 : Int)) with gg_33 | gg_33
          · refine aw_region [(14, { b := false }), (15, { b := true }), (21, { g := false }), (22, { g := false }), (23, { g := false }), (24, { b := true }), (25, { b := true })] [100] [] 2 (vals := [.bool true]) (bxs := []) (by kernel_rfl) hmix (ac gg_29 (ac gg_29 (ac gg_29 (ac gg_29 (ac gg_29 (ac gg_29 (ac gg_30 (ac gg_30 (ac gg_30 (ac gg_30 (ac gg_30 (ac gg_29 (ac gg_30 (ac gg_29 (ac gg_32 (ac gg_32 (ac gg_32 (ac gg_32 (ac gg_33 (ac gg_33 (ac gg_33 (ac gg_32 (ac gg_33 (ac gg_32 an)))))))))))))))))))))))) ?_
            exact ⟨rfl, (sub_wkm [] [] [.a 100 (.bool (r_1.1.m && (bif decide (e_1.M < r_1.1.mLeast) then ((e_1.Kind != (9 : Int)) || (e_1.N == (2 : Int))) else (decide (e_1.M > r_1.1.mMost) && ((e_1.Kind != (9 : Int)) || (e_1.N == (2 : Int)))))))] [] (by kernel_rfl) (ac (congrArg AV.bool (andt gg_29 (cfr gg_30 (andt gg_32 (ort gg_33)))) : (.bool true : AV) = .bool (r_1.1.m && (bif decide (e_1.M < r_1.1.mLeast) then ((e_1.Kind != (9 : Int)) || (e_1.N == (2 : Int))) else (decide (e_1.M > r_1.1.mMost) && ((e_1.Kind != (9 : Int)) || (e_1.N == (2 : Int))))))) an))⟩
          · refine aw_region [(14, { b := false }), (15, { b := true }), (24, { b := false }), (25, { b := true })] [100] [] 2 (vals := [.bool (e_1.N == (2 : Int))]) (bxs := []) (by kernel_rfl) hmix (ac gg_29 (ac gg_29 (ac gg_29 (ac gg_29 (ac gg_29 (ac gg_29 (ac gg_30 (ac gg_30 (ac gg_30 (ac gg_30 (ac gg_30 (ac gg_29 (ac gg_30 (ac gg_29 (ac gg_32 (ac gg_32 (ac gg_32 (ac gg_32 (ac gg_33 (ac gg_33 (ac gg_33 (ac gg_32 (ac gg_33 (ac gg_32 an)))))))))))))))))))))))) ?_
            exact ⟨rfl, (sub_wkm [] [] [.a 100 (.bool (r_1.1.m && (bif decide (e_1.M < r_1.1.mLeast) then ((e_1.Kind != (9 : Int)) || (e_1.N == (2 : Int))) else (decide (e_1.M > r_1.1.mMost) && ((e_1.Kind != (9 : Int)) || (e_1.N == (2 : Int)))))))] [] (by kernel_rfl) (ac (congrArg AV.bool (andt gg_29 (cfr gg_30 (andt gg_32 (orf gg_33 rfl)))) : (.bool (e_1.N == (2 : Int)) : AV) = .bool (r_1.1.m && (bif decide (e_1.M < r_1.1.mLeast) then ((e_1.Kind != (9 : Int)) || (e_1.N == (2 : Int))) else (decide (e_1.M > r_1.1.mMost) && ((e_1.Kind != (9 : Int)) || (e_1.N == (2 : Int))))))) an))⟩
        · refine aw_region [(14, { b := false }), (15, { b := true }), (17, { g := false }), (18, { g := false }), (19, { g := false }), (20, { g := false }), (24, { g := false }), (25, { b := false })] [100] [] 2 (vals := [.bool false]) (bxs := []) (by kernel_rfl) hmix (ac gg_29 (ac gg_29 (ac gg_29 (ac gg_29 (ac gg_29 (ac gg_29 (ac gg_30 (ac gg_30 (ac gg_30 (ac gg_30 (ac gg_30 (ac gg_29 (ac gg_30 (ac gg_29 (ac gg_32 (ac gg_32 (ac gg_32 (ac gg_32 (ac gg_32 (ac gg_32 an)))))))))))))))))))) ?_
          exact ⟨rfl, (sub_wkm [] [] [.a 100 (.bool (r_1.1.m && (bif decide (e_1.M < r_1.1.mLeast) then ((e_1.Kind != (9 : Int)) || (e_1.N == (2 : Int))) else (decide (e_1.M > r_1.1.mMost) && ((e_1.Kind != (9 : Int)) || (e_1.N == (2 : Int)))))))] [] (by kernel_rfl) (ac (congrArg AV.bool (andt gg_29 (cfr gg_30 (andf gg_32))) : (.bool false : AV) = .bool (r_1.1.m && (bif decide (e_1.M < r_1.1.mLeast) then ((e_1.Kind != (9 : Int)) || (e_1.N == (2 : Int))) else (decide (e_1.M > r_1.1.mMost) && ((e_1.Kind != (9 : Int)) || (e_1.N == (2 : Int))))))) an))⟩
    · refine aw_region [(3, { g := false }), (4, { g := false }), (5, { g := false }), (6, { g := false }), (7, { g := false }), (8, { g := false }), (14, { g := false }), (15, { b := false }), (17, { g := false }), (18, { g := false }), (19, { g := false }), (20, { g := false }), (24, { g := false }), (25, { b := false })] [100] [] 2 (vals := [.bool false]) (bxs := []) (by kernel_rfl) hmix (ac gg_29 (ac gg_29 (ac gg_29 (ac gg_29 (ac gg_29 (ac gg_29 (ac gg_29 (ac gg_29 (ac (rfl : false = !true) (ac (rfl : false = !true) (ac (rfl : false = !true) (ac (rfl : false = !true) (ac (rfl : false = !true) (ac (rfl : false = false) an)))))))))))))) ?_
      exact ⟨rfl, (sub_wkm [] [] [.a 100 (.bool (r_1.1.m && (bif decide (e_1.M < r_1.1.mLeast) then ((e_1.Kind != (9 : Int)) || (e_1.N == (2 : Int))) else (decide (e_1.M > r_1.1.mMost) && ((e_1.Kind != (9 : Int)) || (e_1.N == (2 : Int)))))))] [] (by kernel_rfl) (ac (congrArg AV.bool (andf gg_29) : (.bool false : AV) = .bool (r_1.1.m && (bif decide (e_1.M < r_1.1.mLeast) then ((e_1.Kind != (9 : Int)) || (e_1.N == (2 : Int))) else (decide (e_1.M > r_1.1.mMost) && ((e_1.Kind != (9 : Int)) || (e_1.N == (2 : Int))))))) an))⟩
  refine aw_cond (t := 100) (b := (r_1.1.m && (bif decide (e_1.M < r_1.1.mLeast) then ((e_1.Kind != (9 : Int)) || (e_1.N == (2 : Int))) else (decide (e_1.M > r_1.1.mMost) && ((e_1.Kind != (9 : Int)) || (e_1.N == (2 : Int))))))) (by kernel_rfl) (by kernel_rfl) ?_ ?_
  · intro g_6; replace h := cond_t g_6 h
    refine aw_seq (by kernel_rfl) ?_
    refine aw_region [] [2] [] 0 (vals := [.int .i64 (2 : Int)]) (bxs := []) (by kernel_rfl) hmix an ?_
    refine aw_ret (by kernel_rfl) ?_
    replace h := Option.some.inj h; subst h
    exact ⟨.inr rfl, Nat.le_of_ble_eq_true rfl, by kernel_rfl⟩
  intro g_6; replace h := cond_f g_6 h
  refine aw_skip (by kernel_rfl) ?_
  refine aw_seq (by kernel_rfl) ?_
  refine aw_region [] [2] [] 0 (vals := [.int .i64 (0 : Int)]) (bxs := []) (by kernel_rfl) hmix an ?_
  refine aw_ret (by kernel_rfl) ?_
  replace h := Option.some.inj h; subst h
  exact ⟨.inr rfl, Nat.le_of_ble_eq_true rfl, by kernel_rfl⟩

theorem record_uses_ok (k_1 : Int) (r : Bool × Bool × Bool × Bool) (h : record_uses k_1 = some r) : TripleG prog 21 [] [] [.int .i64 k_1] [] (.tuple [.bool r.1, .bool r.2.1, .bool r.2.2.1, .bool r.2.2.2]) := by
  refine triple_intro (fn := Go.Proofs.Try.f21) (code := codeOf Go.Proofs.Try.f21) (by kernel_rfl) (by kernel_rfl) (Nat.le_of_ble_eq_true (by kernel_rfl)) ?_
  unfold record_uses at h
  refine aw_seq (by kernel_rfl) ?_
  refine aw_region [] [0] [] 0 (vals := [.int .i64 k_1]) (bxs := []) (by kernel_rfl) hmix an ?_
  refine aw_seq (by kernel_rfl) ?_
  refine aw_mid (mk [(0, .int .i64 k_1), (2, .bool ((k_1 == (1 : Int)) || ((k_1 == (3 : Int)) || (k_1 == (4 : Int)))))] [] 0) ?_ ?_
  · rcases Bool.eq_false_or_eq_true (k_1 == (1 : Int)) with gg_1 | gg_1
    · refine aw_region [(3, { g := false }), (4, { g := false }), (5, { b := true }), (7, { g := false }), (8, { g := false }), (9, { b := true })] [0, 2] [] 0 (vals := [.int .i64 k_1, .bool true]) (bxs := []) (by kernel_rfl) hmix (ac gg_1 (ac gg_1 (ac gg_1 (ac (rfl : true = !false) (ac (rfl : true = !false) (ac (rfl : true = true) an)))))) ?_
      exact ⟨rfl, (sub_wkm [] [] [.s 0, .a 2 (.bool ((k_1 == (1 : Int)) || ((k_1 == (3 : Int)) || (k_1 == (4 : Int)))))] [] (by kernel_rfl) (ac (congrArg AV.bool (ort gg_1) : (.bool true : AV) = .bool ((k_1 == (1 : Int)) || ((k_1 == (3 : Int)) || (k_1 == (4 : Int))))) an))⟩
    · rcases Bool.eq_false_or_eq_true (k_1 == (3 : Int)) with gg_2 | gg_2
      · refine aw_region [(5, { b := false }), (7, { g := false }), (8, { g := false }), (9, { b := true })] [0, 2] [] 0 (vals := [.int .i64 k_1, .bool true]) (bxs := []) (by kernel_rfl) hmix (ac gg_1 (ac gg_1 (ac gg_1 (ac gg_2 (ac gg_2 (ac gg_2 an)))))) ?_
        exact ⟨rfl, (sub_wkm [] [] [.s 0, .a 2 (.bool ((k_1 == (1 : Int)) || ((k_1 == (3 : Int)) || (k_1 == (4 : Int)))))] [] (by kernel_rfl) (ac (congrArg AV.bool (orf gg_1 (ort gg_2)) : (.bool true : AV) = .bool ((k_1 == (1 : Int)) || ((k_1 == (3 : Int)) || (k_1 == (4 : Int))))) an))⟩
      · refine aw_region [(5, { b := false }), (9, { b := false })] [0, 2] [] 0 (vals := [.int .i64 k_1, .bool (k_1 == (4 : Int))]) (bxs := []) (by kernel_rfl) hmix (ac gg_1 (ac gg_1 (ac gg_1 (ac gg_2 (ac gg_2 (ac gg_2 an)))))) ?_
        exact ⟨rfl, (sub_wkm [] [] [.s 0, .a 2 (.bool ((k_1 == (1 : Int)) || ((k_1 == (3 : Int)) || (k_1 == (4 : Int)))))] [] (by kernel_rfl) (ac (congrArg AV.bool (orf gg_1 (orf gg_2 rfl)) : (.bool (k_1 == (4 : Int)) : AV) = .bool ((k_1 == (1 : Int)) || ((k_1 == (3 : Int)) || (k_1 == (4 : Int))))) an))⟩
  refine aw_seq (by kernel_rfl) ?_
  refine aw_region [] [0, 2, 3] [] 0 (vals := [.int .i64 k_1, .bool ((k_1 == (1 : Int)) || ((k_1 == (3 : Int)) || (k_1 == (4 : Int)))), .bool (decide (k_1 ≥ (4 : Int)))]) (bxs := []) (by kernel_rfl) hmix an ?_
  refine aw_seq (by kernel_rfl) ?_
  refine aw_mid (mk [(0, .int .i64 k_1), (2, .bool ((k_1 == (1 : Int)) || ((k_1 == (3 : Int)) || (k_1 == (4 : Int))))), (3, .bool (decide (k_1 ≥ (4 : Int)))), (4, .bool ((k_1 == (9 : Int)) || (k_1 == (11 : Int))))] [] 0) ?_ ?_
  · rcases Bool.eq_false_or_eq_true (k_1 == (9 : Int)) with gg_3 | gg_3
    · refine aw_region [(3, { g := false }), (4, { g := false }), (5, { b := true })] [0, 2, 3, 4] [] 0 (vals := [.int .i64 k_1, .bool ((k_1 == (1 : Int)) || ((k_1 == (3 : Int)) || (k_1 == (4 : Int)))), .bool (decide (k_1 ≥ (4 : Int))), .bool true]) (bxs := []) (by kernel_rfl) hmix (ac gg_3 (ac gg_3 (ac gg_3 an))) ?_
      exact ⟨rfl, (sub_wkm [] [] [.s 0, .s 2, .s 3, .a 4 (.bool ((k_1 == (9 : Int)) || (k_1 == (11 : Int))))] [] (by kernel_rfl) (ac (congrArg AV.bool (ort gg_3) : (.bool true : AV) = .bool ((k_1 == (9 : Int)) || (k_1 == (11 : Int)))) an))⟩
    · refine aw_region [(5, { b := false })] [0, 2, 3, 4] [] 0 (vals := [.int .i64 k_1, .bool ((k_1 == (1 : Int)) || ((k_1 == (3 : Int)) || (k_1 == (4 : Int)))), .bool (decide (k_1 ≥ (4 : Int))), .bool (k_1 == (11 : Int))]) (bxs := []) (by kernel_rfl) hmix (ac gg_3 (ac gg_3 (ac gg_3 an))) ?_
      exact ⟨rfl, (sub_wkm [] [] [.s 0, .s 2, .s 3, .a 4 (.bool ((k_1 == (9 : Int)) || (k_1 == (11 : Int))))] [] (by kernel_rfl) (ac (congrArg AV.bool (orf gg_3 rfl) : (.bool (k_1 == (11 : Int)) : AV) = .bool ((k_1 == (9 : Int)) || (k_1 == (11 : Int)))) an))⟩
  refine aw_seq (by kernel_rfl) ?_
  refine aw_mid (mk [(2, .bool ((k_1 == (1 : Int)) || ((k_1 == (3 : Int)) || (k_1 == (4 : Int))))), (3, .bool (decide (k_1 ≥ (4 : Int)))), (4, .bool ((k_1 == (9 : Int)) || (k_1 == (11 : Int)))), (5, .bool ((k_1 == (5 : Int)) || (k_1 == (11 : Int))))] [] 0) ?_ ?_
  · rcases Bool.eq_false_or_eq_true (k_1 == (5 : Int)) with gg_4 | gg_4
    · refine aw_region [(3, { g := false }), (4, { g := false }), (5, { b := true })] [2, 3, 4, 5] [] 0 (vals := [.bool ((k_1 == (1 : Int)) || ((k_1 == (3 : Int)) || (k_1 == (4 : Int)))), .bool (decide (k_1 ≥ (4 : Int))), .bool ((k_1 == (9 : Int)) || (k_1 == (11 : Int))), .bool true]) (bxs := []) (by kernel_rfl) hmix (ac gg_4 (ac gg_4 (ac gg_4 an))) ?_
      exact ⟨rfl, (sub_wkm [] [] [.s 2, .s 3, .s 4, .a 5 (.bool ((k_1 == (5 : Int)) || (k_1 == (11 : Int))))] [] (by kernel_rfl) (ac (congrArg AV.bool (ort gg_4) : (.bool true : AV) = .bool ((k_1 == (5 : Int)) || (k_1 == (11 : Int)))) an))⟩
    · refine aw_region [(5, { b := false })] [2, 3, 4, 5] [] 0 (vals := [.bool ((k_1 == (1 : Int)) || ((k_1 == (3 : Int)) || (k_1 == (4 : Int)))), .bool (decide (k_1 ≥ (4 : Int))), .bool ((k_1 == (9 : Int)) || (k_1 == (11 : Int))), .bool (k_1 == (11 : Int))]) (bxs := []) (by kernel_rfl) hmix (ac gg_4 (ac gg_4 (ac gg_4 an))) ?_
      exact ⟨rfl, (sub_wkm [] [] [.s 2, .s 3, .s 4, .a 5 (.bool ((k_1 == (5 : Int)) || (k_1 == (11 : Int))))] [] (by kernel_rfl) (ac (congrArg AV.bool (orf gg_4 rfl) : (.bool (k_1 == (11 : Int)) : AV) = .bool ((k_1 == (5 : Int)) || (k_1 == (11 : Int)))) an))⟩
  refine aw_seq (by kernel_rfl) ?_
  refine aw_region [] [2, 3, 4, 5] [] 0 (vals := [.bool ((k_1 == (1 : Int)) || ((k_1 == (3 : Int)) || (k_1 == (4 : Int)))), .bool (decide (k_1 ≥ (4 : Int))), .bool ((k_1 == (9 : Int)) || (k_1 == (11 : Int))), .bool ((k_1 == (5 : Int)) || (k_1 == (11 : Int)))]) (bxs := []) (by kernel_rfl) hmix an ?_
  refine aw_ret (by kernel_rfl) ?_
  replace h := Option.some.inj h; subst h
  exact ⟨.inr rfl, Nat.le_of_ble_eq_true rfl, by kernel_rfl⟩

theorem codec_number_ok (n_1 : Int) (r : Int) (h : codec_number n_1 = some r) : TripleG prog 40 [] [] [.int .i64 n_1] [] (.int .u64 r) := by
  refine triple_intro (fn := Go.Proofs.Try.f40) (code := codeOf Go.Proofs.Try.f40) (by kernel_rfl) (by kernel_rfl) (Nat.le_of_ble_eq_true (by kernel_rfl)) ?_
  unfold codec_number at h
  refine aw_seq (by kernel_rfl) ?_
  refine aw_region [] [0] [] 0 (vals := [.int .i64 n_1]) (bxs := []) (by kernel_rfl) hmix an ?_
  refine aw_seq (by kernel_rfl) ?_
  refine aw_region [] [2] [] 0 (vals := [.int .u64 (ixor .u64 (ishl .u64 (w_u64 n_1) (1 : Int)) (w_u64 (ishr .i64 n_1 (63 : Int))))]) (bxs := []) (by kernel_rfl) hmix (ac (by decide : (0 : Int) ≤ (1 : Int)) (ac (by decide : (0 : Int) ≤ (63 : Int)) an)) ?_
  refine aw_ret (by kernel_rfl) ?_
  replace h := Option.some.inj h; subst h
  exact ⟨.inr rfl, Nat.le_of_ble_eq_true rfl, by kernel_rfl⟩

theorem codec_PutInt_ok (F : Nat) (b_1 : List (Int)) (n_1 : Int) (r : (List (Int))) (h : codec_PutInt F b_1 n_1 = some r) : TripleG prog 22 [] [] [.sl false 1 (List.map (AV.int .u8) b_1), .int .i64 n_1] [.row 5 1 (List.map (AV.int .u8) r)] (.own 0 ((r).length)) := by
  refine triple_intro (fn := Go.Proofs.Try.f22) (code := codeOf Go.Proofs.Try.f22) (by kernel_rfl) (by kernel_rfl) (Nat.le_of_ble_eq_true (by kernel_rfl)) ?_
  unfold codec_PutInt at h
  refine aw_seq (by kernel_rfl) ?_
  refine aw_region [(0, { id := 0, m := 1 })] [0, 1] [] 1 (vals := [.sl false 1 (List.map (AV.int .u8) b_1), .int .i64 n_1]) (bxs := []) (by kernel_rfl) hmix an ?_
  refine aw_seq (by kernel_rfl) ?_
  refine aw_region [(0, { b := true, id := 1 })] [0, 1, 5] [1] 2 (vals := [.sl false 1 (List.map (AV.int .u8) b_1), .int .i64 n_1, .ptr 1 0 0 0]) (bxs := [.live (.row 75 1 (List.map (AV.int .u8) (List.replicate 10 (0 : Int))))]) (by kernel_rfl) hmix an ?_
  refine aw_seq (by kernel_rfl) ?_
  refine aw_region [] [0, 1, 5, 6] [1] 2 (vals := [.sl false 1 (List.map (AV.int .u8) b_1), .int .i64 n_1, .ptr 1 0 0 0, .int .i64 (0 : Int)]) (bxs := [.live (.row 75 1 (List.map (AV.int .u8) (List.replicate 10 (0 : Int))))]) (by kernel_rfl) hmix an ?_
  refine aw_seq (by kernel_rfl) ?_
  refine aw_seq (by kernel_rfl) ?_
  obtain ⟨r_1, h_1, h⟩ := bind_some h
  refine aw_region [(1, { av := .int .u64 r_1, l := [.int .i64 n_1] })] [0, 5, 6, 7] [1] 2 (vals := [.sl false 1 (List.map (AV.int .u8) b_1), .ptr 1 0 0 0, .int .i64 (0 : Int), .int .u64 r_1]) (bxs := [.live (.row 75 1 (List.map (AV.int .u8) (List.replicate 10 (0 : Int))))]) (by kernel_rfl) hmix (ac (rfl : ([.int .i64 n_1] : List AV) = [.int .i64 n_1]) (ac (rfl : ([] : List BoxSt) = []) (ac (codec_number_ok n_1 r_1 h_1 : TripleG prog 40 [] [] [.int .i64 n_1] [] (.int .u64 r_1)) an))) ?_
  obtain ⟨o_1, h_2, h⟩ := bind_some h
  refine aw_mid (mk [(0, .sl false 1 (List.map (AV.int .u8) b_1)), (5, .ptr 0 0 0 0), (6, .int .i64 o_1.1)] [(0, .live (.row 75 1 (List.map (AV.int .u8) o_1.2)))] 1) ?_ ?_
  · replace h := h_2
    refine aw_block (id := 0) (by kernel_rfl) ?_
    refine aw_sub (sub_wkm [1] [] [.s 0, .s 5, .s 6, .s 7] [.s 0] (sl2 := [(0, .sl false 1 (List.map (AV.int .u8) b_1)), (5, .ptr 0 0 0 0), (6, .int .i64 (0 : Int)), (7, .int .u64 r_1)]) (bx2 := [(0, .live (.row 75 1 (List.map (AV.int .u8) (List.replicate 10 (0 : Int)))))]) (by kernel_rfl) an) ?_
    refine aw_loopF (fun n st => ∃ (size_1 : Int), ∃ (u_1 : Int), ∃ (row_1 : List Int), st = mk [(0, .sl false 1 (List.map (AV.int .u8) b_1)), (5, .ptr 0 0 0 0), (6, .int .i64 size_1), (7, .int .u64 u_1)] [(0, .live (.row 75 1 (List.map (AV.int .u8) row_1)))] 1 ∧ codec_PutInt_L1 F n size_1 u_1 row_1 = some o_1) F (by kernel_rfl) ⟨_, _, _, rfl, h⟩ ?_ ?_
    · rintro _ ⟨_, _, _, _, h⟩; exact none_ne (h : (none : Option (Int × (List Int))) = some o_1)
    rintro n_2 _ ⟨size_1, u_1, row_1, rfl, h⟩
    replace h : codec_PutInt_L1_body F (codec_PutInt_L1 F n_2) size_1 u_1 row_1 = some o_1 := h
    unfold codec_PutInt_L1_body at h
    refine aw_seq (by kernel_rfl) ?_
    refine aw_block (id := 1) (by kernel_rfl) ?_
    refine aw_seq (by kernel_rfl) ?_
    obtain ⟨_, h_3, h⟩ := bind_some h; replace h_3 := need_some h_3
    obtain ⟨x_1, h_4, h⟩ := bind_some h
    refine aw_region [(4, { b := true }), (5, { av := .int .u8 x_1, l := (List.map (AV.int .u8) ((row_1).set ((size_1).toNat) (w_u8 (iand .u64 u_1 (127 : Int))))) })] [0, 5, 6, 7] [0] 1 (vals := [.sl false 1 (List.map (AV.int .u8) b_1), .ptr 0 0 0 0, .int .i64 size_1, .int .u64 u_1]) (bxs := [.live (.row 75 1 (List.map (AV.int .u8) ((row_1).set ((size_1).toNat) (w_u8 (iand .u64 u_1 (127 : Int))))))]) (by kernel_rfl) hmix (ac h_3.1 (ac h_3.2 (ac (vc_getN h_4 : (List.map (AV.int .u8) row_1)[(size_1).toNat]? = some (.int .u8 x_1)) (ac (vc_set _ _ _ : (List.map (AV.int .u8) ((row_1).set ((size_1).toNat) (w_u8 (iand .u64 u_1 (127 : Int))))) = List.set (List.map (AV.int .u8) row_1) ((size_1).toNat) (setElem (.int .u8 x_1) 0 [.int .u8 (w_u8 (iand .u64 u_1 (127 : Int)))])) an)))) ?_
    refine aw_seq (by kernel_rfl) ?_
    refine aw_region [] [0, 5, 6, 7] [0] 1 (vals := [.sl false 1 (List.map (AV.int .u8) b_1), .ptr 0 0 0 0, .int .i64 (w_i64 (size_1 + (1 : Int))), .int .u64 u_1]) (bxs := [.live (.row 75 1 (List.map (AV.int .u8) ((row_1).set ((size_1).toNat) (w_u8 (iand .u64 u_1 (127 : Int))))))]) (by kernel_rfl) hmix an ?_
    refine aw_seq (by kernel_rfl) ?_
    refine aw_seq (by kernel_rfl) ?_
    refine aw_region [] [0, 5, 6, 7, 20] [0] 1 (vals := [.sl false 1 (List.map (AV.int .u8) b_1), .ptr 0 0 0 0, .int .i64 (w_i64 (size_1 + (1 : Int))), .int .u64 u_1, .bool (decide (u_1 < (128 : Int)))]) (bxs := [.live (.row 75 1 (List.map (AV.int .u8) ((row_1).set ((size_1).toNat) (w_u8 (iand .u64 u_1 (127 : Int))))))]) (by kernel_rfl) hmix an ?_
    refine aw_cond (t := 20) (b := (decide (u_1 < (128 : Int)))) (by kernel_rfl) (by kernel_rfl) ?_ ?_
    · intro g_1; replace h := cond_t g_1 h
      refine aw_exit (id := 0) (by kernel_rfl) ?_
      replace h := Option.some.inj h; subst h
      exact ⟨rfl, (sub_wkm [0] [] [.s 0, .s 5, .s 6] [.s 0] (by kernel_rfl) an)⟩
    intro g_1; replace h := cond_f g_1 h
    refine aw_skip (by kernel_rfl) ?_
    obtain ⟨_, h_5, h⟩ := bind_some h; replace h_5 := need_some h_5
    obtain ⟨x_2, h_6, h⟩ := bind_some h
    obtain ⟨_, h_7, h⟩ := bind_some h; replace h_7 := need_some h_7
    obtain ⟨x_3, h_8, h⟩ := bind_some h
    refine aw_region [(2, { b := true }), (3, { av := .int .u8 x_2 }), (5, { b := true }), (6, { av := .int .u8 x_3, l := (List.map (AV.int .u8) (((row_1).set ((size_1).toNat) (w_u8 (iand .u64 u_1 (127 : Int)))).set ((w_i64 ((w_i64 (size_1 + (1 : Int))) - (1 : Int))).toNat) (ior .u8 x_2 (128 : Int)))) })] [0, 5, 6, 7] [0] 1 (vals := [.sl false 1 (List.map (AV.int .u8) b_1), .ptr 0 0 0 0, .int .i64 (w_i64 (size_1 + (1 : Int))), .int .u64 u_1]) (bxs := [.live (.row 75 1 (List.map (AV.int .u8) (((row_1).set ((size_1).toNat) (w_u8 (iand .u64 u_1 (127 : Int)))).set ((w_i64 ((w_i64 (size_1 + (1 : Int))) - (1 : Int))).toNat) (ior .u8 x_2 (128 : Int)))))]) (by kernel_rfl) hmix (ac h_5.1 (ac h_5.2 (ac (vc_getN h_6 : (List.map (AV.int .u8) ((row_1).set ((size_1).toNat) (w_u8 (iand .u64 u_1 (127 : Int)))))[(w_i64 ((w_i64 (size_1 + (1 : Int))) - (1 : Int))).toNat]? = some (.int .u8 x_2)) (ac h_7.1 (ac h_7.2 (ac (vc_getN h_8 : (List.map (AV.int .u8) ((row_1).set ((size_1).toNat) (w_u8 (iand .u64 u_1 (127 : Int)))))[(w_i64 ((w_i64 (size_1 + (1 : Int))) - (1 : Int))).toNat]? = some (.int .u8 x_3)) (ac (vc_set _ _ _ : (List.map (AV.int .u8) (((row_1).set ((size_1).toNat) (w_u8 (iand .u64 u_1 (127 : Int)))).set ((w_i64 ((w_i64 (size_1 + (1 : Int))) - (1 : Int))).toNat) (ior .u8 x_2 (128 : Int)))) = List.set (List.map (AV.int .u8) ((row_1).set ((size_1).toNat) (w_u8 (iand .u64 u_1 (127 : Int))))) ((w_i64 ((w_i64 (size_1 + (1 : Int))) - (1 : Int))).toNat) (setElem (.int .u8 x_3) 0 [.int .u8 (ior .u8 x_2 (128 : Int))])) an))))))) ?_
    refine aw_region [] [0, 5, 6, 7] [0] 1 (vals := [.sl false 1 (List.map (AV.int .u8) b_1), .ptr 0 0 0 0, .int .i64 (w_i64 (size_1 + (1 : Int))), .int .u64 (ishr .u64 u_1 (7 : Int))]) (bxs := [.live (.row 75 1 (List.map (AV.int .u8) (((row_1).set ((size_1).toNat) (w_u8 (iand .u64 u_1 (127 : Int)))).set ((w_i64 ((w_i64 (size_1 + (1 : Int))) - (1 : Int))).toNat) (ior .u8 x_2 (128 : Int)))))]) (by kernel_rfl) hmix (ac (by decide : (0 : Int) ≤ (7 : Int)) an) ?_
    exact ⟨_, (sub_wkm [0] [] [.s 0, .s 5, .s 6, .s 7] [.s 0] (by kernel_rfl) an), _, _, _, rfl, h⟩
  refine aw_seq (by kernel_rfl) ?_
  obtain ⟨_, h_9, h⟩ := bind_some h; replace h_9 := need_some h_9
  obtain ⟨_, h_10, h⟩ := bind_some h; replace h_10 := need_some h_10
  obtain ⟨_, h_11, h⟩ := bind_some h; replace h_11 := need_some h_11
  obtain ⟨_, h_12, h⟩ := bind_some h; replace h_12 := need_some h_12
  refine aw_region [(2, { n := (b_1).length }), (4, { n := (b_1).length }), (5, { l := (List.map (AV.int .u8) (sub b_1 (0 : Int) (((b_1).length : Nat) : Int))) }), (8, { dep := true, id := 1, l := (List.map (AV.int .u8) ((sub b_1 (0 : Int) (((b_1).length : Nat) : Int)) ++ (((o_1.2).take ((o_1.1).toNat)).drop 0))), n := (((sub b_1 (0 : Int) (((b_1).length : Nat) : Int)) ++ (((o_1.2).take ((o_1.1).toNat)).drop 0))).length })] [4] [1] 2 (vals := [.own 1 ((((sub b_1 (0 : Int) (((b_1).length : Nat) : Int)) ++ (((o_1.2).take ((o_1.1).toNat)).drop 0))).length)]) (bxs := [.live (.row 5 1 (List.map (AV.int .u8) ((sub b_1 (0 : Int) (((b_1).length : Nat) : Int)) ++ (((o_1.2).take ((o_1.1).toNat)).drop 0))))]) (by kernel_rfl) hmix (ac (vc_len _ : ((List.map (AV.int .u8) b_1)).length = (b_1).length) (ac (vc_len _ : ((List.map (AV.int .u8) b_1)).length = (b_1).length) (ac (by decide : (0 : Int) ≤ (0 : Int)) (ac (Int.natCast_nonneg _ : (0 : Int) ≤ (((b_1).length : Nat) : Int)) (ac (vc_lenle (Int.le_refl _) : (((b_1).length : Nat) : Int) ≤ ((((List.map (AV.int .u8) b_1)).length : Nat) : Int)) (ac (rfl : (((b_1).length : Nat) : Int) = (((b_1).length : Nat) : Int)) (ac (vc_sub _ _ _ : (List.map (AV.int .u8) (sub b_1 (0 : Int) (((b_1).length : Nat) : Int))) = (((List.map (AV.int .u8) b_1)).take ((((b_1).length : Nat) : Int)).toNat).drop ((0 : Int)).toNat) (ac (by decide : (0 : Int) ≤ (0 : Int)) (ac h_9.1 (ac h_9.2.1 (ac (vc_lenle' h_9.2.2 : 10 ≤ ((List.map (AV.int .u8) o_1.2)).length) (ac (vc_lenle' h_10.2 : ((o_1.1).toNat) ≤ ((List.map (AV.int .u8) o_1.2)).length) (ac h_10.1 (ac (vc_app_part _ _ _ _ : (List.map (AV.int .u8) ((sub b_1 (0 : Int) (((b_1).length : Nat) : Int)) ++ (((o_1.2).take ((o_1.1).toNat)).drop 0))) = (List.map (AV.int .u8) (sub b_1 (0 : Int) (((b_1).length : Nat) : Int))) ++ (((List.map (AV.int .u8) o_1.2)).take ((o_1.1).toNat)).drop 0) (ac (by first | (simp; done) | simpa using h_11 : (((List.map (AV.int .u8) (sub b_1 (0 : Int) (((b_1).length : Nat) : Int))) : List AV).length + ((((List.map (AV.int .u8) o_1.2)).take ((o_1.1).toNat)).drop 0 : List AV).length) * 1 ≤ 140737488355328) (ac (by first | (simp; done) | simpa using h_12 : 0 < ((((List.map (AV.int .u8) o_1.2)).take ((o_1.1).toNat)).drop 0 : List AV).length ∨ ((List.map (AV.int .u8) (sub b_1 (0 : Int) (((b_1).length : Nat) : Int))) : List AV).length = 0) (ac (by simp : (((sub b_1 (0 : Int) (((b_1).length : Nat) : Int)) ++ (((o_1.2).take ((o_1.1).toNat)).drop 0))).length = ((List.map (AV.int .u8) ((sub b_1 (0 : Int) (((b_1).length : Nat) : Int)) ++ (((o_1.2).take ((o_1.1).toNat)).drop 0)))).length) an))))))))))))))))) ?_
  refine aw_sub (sub_wkm [1] [] [.s 4] [.s 0] (sl2 := [(4, .own 0 ((((sub b_1 (0 : Int) (((b_1).length : Nat) : Int)) ++ (((o_1.2).take ((o_1.1).toNat)).drop 0))).length))]) (bx2 := [(0, .live (.row 5 1 (List.map (AV.int .u8) ((sub b_1 (0 : Int) (((b_1).length : Nat) : Int)) ++ (((o_1.2).take ((o_1.1).toNat)).drop 0)))))]) (by kernel_rfl) an) ?_
  refine aw_ret (by kernel_rfl) ?_
  replace h := Option.some.inj h; subst h
  exact ⟨.inr rfl, Nat.le_of_ble_eq_true rfl, by kernel_rfl⟩

theorem slices_Index_string_string_ok (F : Nat) (s_1 : List (List Int)) (a_1 : List Int) (r : Int) (h : slices_Index_string_string F s_1 a_1 = some r) : TripleG prog 42 [] [] [.sl false 1 (List.map AV.str s_1), .str a_1] [] (.int .i64 r) := by
  refine triple_intro (fn := Go.Proofs.Try.f42) (code := codeOf Go.Proofs.Try.f42) (by kernel_rfl) (by kernel_rfl) (Nat.le_of_ble_eq_true (by kernel_rfl)) ?_
  unfold slices_Index_string_string at h
  refine aw_seq (by kernel_rfl) ?_
  refine aw_region [] [0, 1] [] 0 (vals := [.sl false 1 (List.map AV.str s_1), .str a_1]) (bxs := []) (by kernel_rfl) hmix an ?_
  refine aw_seq (by kernel_rfl) ?_
  refine aw_seq (by kernel_rfl) ?_
  refine aw_region [(1, { n := (s_1).length })] [0, 1, 7, 8] [] 0 (vals := [.sl false 1 (List.map AV.str s_1), .str a_1, .int .i64 (((s_1).length : Nat) : Int), .int .i64 (0 : Int)]) (bxs := []) (by kernel_rfl) hmix (ac (vc_len _ : ((List.map AV.str s_1)).length = (s_1).length) an) ?_
  obtain ⟨o_1, h_1, h⟩ := bind_some h
  refine aw_conv (K1 := (fun e st' => match o_1 with | (.inl q0) => e = .normal ∧ Sub 0 st' (mk [] [] 0) | (.inr q1) => e = .ret ∧ FinR prog Go.Proofs.Try.f42 0 [] (.int .i64 q1) st')) ?_ ?_
  · replace h := h_1
    refine aw_block (id := 0) (by kernel_rfl) ?_
    refine aw_sub (sub_wkm [] [] [.s 0, .s 1, .s 7, .s 8] [] (sl2 := [(0, .sl false 1 (List.map AV.str s_1)), (1, .str a_1), (7, .int .i64 (((s_1).length : Nat) : Int)), (8, .int .i64 (0 : Int))]) (bx2 := []) (by kernel_rfl) an) ?_
    refine aw_loopF (fun n st => ∃ (v_1 : Int), st = mk [(0, .sl false 1 (List.map AV.str s_1)), (1, .str a_1), (7, .int .i64 (((s_1).length : Nat) : Int)), (8, .int .i64 v_1)] [] 0 ∧ slices_Index_string_string_L1 F s_1 a_1 n v_1 = some o_1) F (by kernel_rfl) ⟨_, rfl, h⟩ ?_ ?_
    · rintro _ ⟨_, _, h⟩; exact none_ne (h : (none : Option (Unit ⊕ Int)) = some o_1)
    rintro n_1 _ ⟨v_1, rfl, h⟩
    replace h : slices_Index_string_string_L1_body F s_1 a_1 (slices_Index_string_string_L1 F s_1 a_1 n_1) v_1 = some o_1 := h
    unfold slices_Index_string_string_L1_body at h
    refine aw_seq (by kernel_rfl) ?_
    refine aw_region [] [0, 1, 7, 8, 9] [] 0 (vals := [.sl false 1 (List.map AV.str s_1), .str a_1, .int .i64 (((s_1).length : Nat) : Int), .int .i64 v_1, .bool (decide (v_1 < (((s_1).length : Nat) : Int)))]) (bxs := []) (by kernel_rfl) hmix an ?_
    refine aw_seq (by kernel_rfl) ?_
    refine aw_cond (t := 9) (b := (decide (v_1 < (((s_1).length : Nat) : Int)))) (by kernel_rfl) (by kernel_rfl) ?_ ?_
    rotate_left
    · intro g_1; replace h := cond_f g_1 h
      refine aw_exit (id := 0) (by kernel_rfl) ?_
      replace h := Option.some.inj h; subst h
      exact ⟨rfl, (sub_wkm [] [] [] [] (by kernel_rfl) an)⟩
    intro g_1; replace h := cond_t g_1 h
    refine aw_skip (by kernel_rfl) ?_
    refine aw_seq (by kernel_rfl) ?_
    refine aw_block (id := 1) (by kernel_rfl) ?_
    refine aw_seq (by kernel_rfl) ?_
    refine aw_region [] [0, 1, 5, 7, 8] [] 0 (vals := [.sl false 1 (List.map AV.str s_1), .str a_1, .int .i64 v_1, .int .i64 (((s_1).length : Nat) : Int), .int .i64 v_1]) (bxs := []) (by kernel_rfl) hmix an ?_
    refine aw_seq (by kernel_rfl) ?_
    obtain ⟨x_1, h_2, h⟩ := bind_some h
    refine aw_region [(3, { av := .str x_1 })] [0, 1, 5, 7, 8, 16] [] 0 (vals := [.sl false 1 (List.map AV.str s_1), .str a_1, .int .i64 v_1, .int .i64 (((s_1).length : Nat) : Int), .int .i64 v_1, .bool (a_1 == x_1)]) (bxs := []) (by kernel_rfl) hmix (ac (vc_idx h_2 : idxA (List.map AV.str s_1) v_1 = some (.str x_1)) an) ?_
    refine aw_cond (t := 16) (b := (a_1 == x_1)) (by kernel_rfl) (by kernel_rfl) ?_ ?_
    rotate_left
    · intro g_2; replace h := cond_f g_2 h
      refine aw_skip (by kernel_rfl) ?_
      refine aw_region [] [0, 1, 7, 8] [] 0 (vals := [.sl false 1 (List.map AV.str s_1), .str a_1, .int .i64 (((s_1).length : Nat) : Int), .int .i64 (w_i64 (v_1 + (1 : Int)))]) (bxs := []) (by kernel_rfl) hmix an ?_
      exact ⟨_, (sub_wkm [] [] [.s 0, .s 1, .s 7, .s 8] [] (by kernel_rfl) an), _, rfl, h⟩
    intro g_2; replace h := cond_t g_2 h
    refine aw_seq (by kernel_rfl) ?_
    refine aw_region [] [4] [] 0 (vals := [.int .i64 v_1]) (bxs := []) (by kernel_rfl) hmix an ?_
    refine aw_ret (by kernel_rfl) ?_
    replace h := Option.some.inj h; subst h
    exact ⟨rfl, Nat.le_of_ble_eq_true rfl, by kernel_rfl⟩
  intro e st1 hk
  rcases o_1 with q_1 | q_2
  rotate_left
  · obtain ⟨rfl, hf⟩ := hk
    replace h := Option.some.inj h; subst h
    exact ⟨st1, Sub.refl _ _, .inr rfl, hf⟩
  obtain ⟨rfl, hs⟩ := hk
  refine ⟨_, hs, ?_⟩
  refine aw_seq (by kernel_rfl) ?_
  refine aw_region [] [4] [] 0 (vals := [.int .i64 (-1 : Int)]) (bxs := []) (by kernel_rfl) hmix an ?_
  refine aw_ret (by kernel_rfl) ?_
  replace h := Option.some.inj h; subst h
  exact ⟨.inr rfl, Nat.le_of_ble_eq_true rfl, by kernel_rfl⟩

theorem slices_Clone_string_string_ok (s_1 : List (List Int)) (r : (List (List Int))) (h : slices_Clone_string_string s_1 = some r) : TripleG prog 43 [] [] [.sl false 1 (List.map AV.str s_1)] [.row 9 1 (List.map AV.str r)] (.own 0 ((r).length)) := by
  refine triple_intro (fn := Go.Proofs.Try.f43) (code := codeOf Go.Proofs.Try.f43) (by kernel_rfl) (by kernel_rfl) (Nat.le_of_ble_eq_true (by kernel_rfl)) ?_
  unfold slices_Clone_string_string at h
  refine aw_seq (by kernel_rfl) ?_
  refine aw_region [(0, { id := 0, m := 1 })] [0] [] 1 (vals := [.sl false 1 (List.map AV.str s_1)]) (bxs := []) (by kernel_rfl) hmix an ?_
  refine aw_seq (by kernel_rfl) ?_
  refine aw_seq (by kernel_rfl) ?_
  refine aw_region [] [0, 4] [] 1 (vals := [.sl false 1 (List.map AV.str s_1), .nb (List.map AV.str s_1)]) (bxs := []) (by kernel_rfl) hmix an ?_
  refine aw_condN (t := 4) (l := (List.map AV.str s_1)) (by kernel_rfl) (by kernel_rfl) ?_ ?_
  · intro h_2; replace h_2 := List.map_eq_nil_iff.1 h_2
    replace h := Eq.trans (show (some []) = ((need (((([] : List (List Int))).length + (s_1).length) * 16 ≤ 140737488355328)).bind fun _ =>
 some ([] ++ s_1)) from by simp [h_2, need]) h
    refine aw_seq (by kernel_rfl) ?_
    refine aw_region [(0, { id := 1, m := 1 })] [2] [1] 2 (vals := [.own 1 0]) (bxs := [.live (.row 9 1 [])]) (by kernel_rfl) hmix an ?_
    refine aw_sub (sub_wkm [1] [] [.a 2 (.own 0 ((([] : List (List Int))).length))] [.s 0] (sl2 := [(2, .own 0 ((([] : List (List Int))).length))]) (bx2 := [(0, .live (.row 9 1 []))]) (by kernel_rfl) (ac (congrArg (AV.own _) (by first | (simp; done) | (simp; omega)) : (.own 1 0 : AV) = .own 1 ((([] : List (List Int))).length)) an)) ?_
    refine aw_ret (by kernel_rfl) ?_
    replace h := Option.some.inj h; subst h
    exact ⟨.inr rfl, Nat.le_of_ble_eq_true rfl, by kernel_rfl⟩
  refine aw_skip (by kernel_rfl) ?_
  refine aw_seq (by kernel_rfl) ?_
  obtain ⟨_, h_1, h⟩ := bind_some h; replace h_1 := need_some h_1
  refine aw_region [(0, { id := 1 }), (2, { id := 2, l := (List.map AV.str ([] ++ s_1)), n := (([] ++ s_1)).length })] [2] [2] 3 (vals := [.own 2 ((([] ++ s_1)).length)]) (bxs := [.live (.row 9 1 (List.map AV.str ([] ++ s_1)))]) (by kernel_rfl) hmix (ac (by first | (simp; done) | (simp; omega) : 0 = (([] : List AV)).length) (ac (trivial : True) (ac (by simp : (List.map AV.str ([] ++ s_1)) = [] ++ (List.map AV.str s_1)) (ac (by simp : (([] ++ s_1)).length = ((List.map AV.str ([] ++ s_1))).length) (ac (by first | (simp; done) | simpa using h_1 : (([] : List AV).length + ((List.map AV.str s_1) : List AV).length) * 16 ≤ 140737488355328) an))))) ?_
  refine aw_sub (sub_wkm [2] [] [.s 2] [.s 0] (sl2 := [(2, .own 0 ((([] ++ s_1)).length))]) (bx2 := [(0, .live (.row 9 1 (List.map AV.str ([] ++ s_1))))]) (by kernel_rfl) an) ?_
  refine aw_ret (by kernel_rfl) ?_
  replace h := Option.some.inj h; subst h
  exact ⟨.inr rfl, Nat.le_of_ble_eq_true rfl, by kernel_rfl⟩

theorem intern_Put_ok (F : Nat) (names_1 : List (List Int)) (s_1 : List Int) (r : Int × (List (List Int)) × Int) (h : intern_Put F names_1 s_1 = some r) : TripleG prog 23 [] [] [.sl false 1 (List.map AV.str names_1), .str s_1] [] (.tuple [.int .i64 r.1, .sl false 1 (List.map AV.str r.2.1), .int .i64 r.2.2]) := by
  refine triple_intro (fn := Go.Proofs.Try.f23) (code := codeOf Go.Proofs.Try.f23) (by kernel_rfl) (by kernel_rfl) (Nat.le_of_ble_eq_true (by kernel_rfl)) ?_
  unfold intern_Put at h
  refine aw_seq (by kernel_rfl) ?_
  refine aw_region [] [0, 1] [] 0 (vals := [.sl false 1 (List.map AV.str names_1), .str s_1]) (bxs := []) (by kernel_rfl) hmix an ?_
  refine aw_seq (by kernel_rfl) ?_
  refine aw_seq (by kernel_rfl) ?_
  obtain ⟨r_1, h_1, h⟩ := bind_some h
  refine aw_region [(1, { av := .int .i64 r_1, l := [.str s_1] })] [0, 1, 7] [] 0 (vals := [.sl false 1 (List.map AV.str names_1), .str s_1, .int .i64 r_1]) (bxs := []) (by kernel_rfl) hmix (ac (rfl : ([.str s_1] : List AV) = [.str s_1]) (ac (rfl : ([] : List BoxSt) = []) (ac (intern_Name_ok F s_1 r_1 h_1 : TripleG prog 41 [] [] [.str s_1] [] (.int .i64 r_1)) an))) ?_
  refine aw_seq (by kernel_rfl) ?_
  refine aw_region [] [0, 1, 7, 12] [] 0 (vals := [.sl false 1 (List.map AV.str names_1), .str s_1, .int .i64 r_1, .bool (r_1 != (0 : Int))]) (bxs := []) (by kernel_rfl) hmix an ?_
  refine aw_cond (t := 12) (b := (r_1 != (0 : Int))) (by kernel_rfl) (by kernel_rfl) ?_ ?_
  · intro g_1; replace h := cond_t g_1 h
    refine aw_seq (by kernel_rfl) ?_
    refine aw_region [] [4, 5, 6] [] 0 (vals := [.int .i64 (0 : Int), .sl false 1 (List.map AV.str names_1), .int .i64 r_1]) (bxs := []) (by kernel_rfl) hmix an ?_
    refine aw_ret (by kernel_rfl) ?_
    replace h := Option.some.inj h; subst h
    exact ⟨.inr rfl, Nat.le_of_ble_eq_true rfl, by kernel_rfl⟩
  intro g_1; replace h := cond_f g_1 h
  refine aw_skip (by kernel_rfl) ?_
  refine aw_seq (by kernel_rfl) ?_
  refine aw_seq (by kernel_rfl) ?_
  obtain ⟨r_2, h_2, h⟩ := bind_some h
  refine aw_region [(2, { av := .int .i64 r_2, l := [.sl false 1 (List.map AV.str names_1), .str s_1] })] [0, 1, 8] [] 0 (vals := [.sl false 1 (List.map AV.str names_1), .str s_1, .int .i64 r_2]) (bxs := []) (by kernel_rfl) hmix (ac (rfl : ([.sl false 1 (List.map AV.str names_1), .str s_1] : List AV) = [.sl false 1 (List.map AV.str names_1), .str s_1]) (ac (rfl : ([] : List BoxSt) = []) (ac (slices_Index_string_string_ok F names_1 s_1 r_2 h_2 : TripleG prog 42 [] [] [.sl false 1 (List.map AV.str names_1), .str s_1] [] (.int .i64 r_2)) an))) ?_
  refine aw_seq (by kernel_rfl) ?_
  refine aw_region [] [0, 1, 8, 19] [] 0 (vals := [.sl false 1 (List.map AV.str names_1), .str s_1, .int .i64 r_2, .bool (decide (r_2 ≥ (0 : Int)))]) (bxs := []) (by kernel_rfl) hmix an ?_
  refine aw_cond (t := 19) (b := (decide (r_2 ≥ (0 : Int)))) (by kernel_rfl) (by kernel_rfl) ?_ ?_
  · intro g_2; replace h := cond_t g_2 h
    refine aw_seq (by kernel_rfl) ?_
    refine aw_region [] [4, 5, 6] [] 0 (vals := [.int .i64 r_2, .sl false 1 (List.map AV.str names_1), .int .i64 (0 : Int)]) (bxs := []) (by kernel_rfl) hmix an ?_
    refine aw_ret (by kernel_rfl) ?_
    replace h := Option.some.inj h; subst h
    exact ⟨.inr rfl, Nat.le_of_ble_eq_true rfl, by kernel_rfl⟩
  intro g_2; replace h := cond_f g_2 h
  refine aw_skip (by kernel_rfl) ?_
  refine aw_seq (by kernel_rfl) ?_
  refine aw_seq (by kernel_rfl) ?_
  refine aw_region [(1, { n := (names_1).length })] [0, 1, 24] [] 0 (vals := [.sl false 1 (List.map AV.str names_1), .str s_1, .bool (decide ((((names_1).length : Nat) : Int) ≥ (1000 : Int)))]) (bxs := []) (by kernel_rfl) hmix (ac (vc_len _ : ((List.map AV.str names_1)).length = (names_1).length) an) ?_
  refine aw_cond (t := 24) (b := (decide ((((names_1).length : Nat) : Int) ≥ (1000 : Int)))) (by kernel_rfl) (by kernel_rfl) ?_ ?_
  · intro g_3; replace h := cond_t g_3 h
    refine aw_seq (by kernel_rfl) ?_
    refine aw_region [] [4, 5, 6] [] 0 (vals := [.int .i64 (0 : Int), .sl false 1 (List.map AV.str names_1), .int .i64 (6 : Int)]) (bxs := []) (by kernel_rfl) hmix an ?_
    refine aw_ret (by kernel_rfl) ?_
    replace h := Option.some.inj h; subst h
    exact ⟨.inr rfl, Nat.le_of_ble_eq_true rfl, by kernel_rfl⟩
  intro g_3; replace h := cond_f g_3 h
  refine aw_skip (by kernel_rfl) ?_
  refine aw_seq (by kernel_rfl) ?_
  obtain ⟨r_3, h_3, h⟩ := bind_some h
  obtain ⟨_, h_4, h⟩ := bind_some h; replace h_4 := need_some h_4
  refine aw_region [(1, { n := (names_1).length }), (3, { av := .own 0 ((r_3).length), ids := [0], l := [.sl false 1 (List.map AV.str names_1)], post := [(.row 9 1 (List.map AV.str r_3))] }), (5, { id := 1 }), (6, { id := 2, l := (List.map AV.str (r_3 ++ ([s_1] : List (List Int)))), n := ((r_3 ++ ([s_1] : List (List Int)))).length })] [4, 5, 6] [2] 3 (vals := [.int .i64 (((names_1).length : Nat) : Int), .own 2 (((r_3 ++ ([s_1] : List (List Int)))).length), .int .i64 (0 : Int)]) (bxs := [.live (.row 9 1 (List.map AV.str (r_3 ++ ([s_1] : List (List Int)))))]) (by kernel_rfl) hmix (ac (vc_len _ : ((List.map AV.str names_1)).length = (names_1).length) (ac (rfl : ([.sl false 1 (List.map AV.str names_1)] : List AV) = [.sl false 1 (List.map AV.str names_1)]) (ac (rfl : ([] : List BoxSt) = []) (ac (slices_Clone_string_string_ok names_1 r_3 h_3 : TripleG prog 43 [] [] [.sl false 1 (List.map AV.str names_1)] [(.row 9 1 (List.map AV.str r_3))] (.own 0 ((r_3).length))) (ac (by first | (simp; done) | (simp; omega) : (r_3).length = ((List.map AV.str r_3)).length) (ac (by first | (simp; done) | (simp; omega) : 1 = ((List.map AV.str ([s_1] : List (List Int)))).length) (ac (vc_app _ _ : (List.map AV.str (r_3 ++ ([s_1] : List (List Int)))) = (List.map AV.str r_3) ++ (List.map AV.str ([s_1] : List (List Int)))) (ac (by simp : ((r_3 ++ ([s_1] : List (List Int)))).length = ((List.map AV.str (r_3 ++ ([s_1] : List (List Int))))).length) (ac (by first | (simp; done) | simpa using h_4 : (((List.map AV.str r_3) : List AV).length + ((List.map AV.str ([s_1] : List (List Int))) : List AV).length) * 16 ≤ 140737488355328) an))))))))) ?_
  refine aw_sub (sub_wkm [] [2] [.s 4, .a 5 (.sl false 1 (List.map AV.str (r_3 ++ ([s_1] : List (List Int))))), .s 6] [] (sl2 := [(4, .int .i64 (((names_1).length : Nat) : Int)), (5, .sl false 1 (List.map AV.str (r_3 ++ ([s_1] : List (List Int))))), (6, .int .i64 (0 : Int))]) (bx2 := []) (by kernel_rfl) (ac (by first | (simp; done) | (simp; omega) : ((r_3 ++ ([s_1] : List (List Int)))).length = ((List.map AV.str (r_3 ++ ([s_1] : List (List Int))))).length) (ac (rfl : 1 = 1) (ac (rfl : ((List.map AV.str (r_3 ++ ([s_1] : List (List Int)))) : List AV) = (List.map AV.str (r_3 ++ ([s_1] : List (List Int))))) (ac (rfl : (!false || false) = true) an))))) ?_
  refine aw_ret (by kernel_rfl) ?_
  replace h := Option.some.inj h; subst h
  exact ⟨.inr rfl, Nat.le_of_ble_eq_true rfl, by kernel_rfl⟩

theorem slices_Clone_2_int_2_int_ok (s_1 : List (Arr2_Int)) (r : (List (Arr2_Int))) (h : slices_Clone_2_int_2_int s_1 = some r) : TripleG prog 45 [] [] [.sl false 2 (List.map e_Arr2_Int s_1)] [.row 67 2 (List.map e_Arr2_Int r)] (.own 0 ((r).length)) := by
  refine triple_intro (fn := Go.Proofs.Try.f45) (code := codeOf Go.Proofs.Try.f45) (by kernel_rfl) (by kernel_rfl) (Nat.le_of_ble_eq_true (by kernel_rfl)) ?_
  unfold slices_Clone_2_int_2_int at h
  refine aw_seq (by kernel_rfl) ?_
  refine aw_region [(0, { id := 0, m := 1 })] [0] [] 1 (vals := [.sl false 2 (List.map e_Arr2_Int s_1)]) (bxs := []) (by kernel_rfl) hmix an ?_
  refine aw_seq (by kernel_rfl) ?_
  refine aw_seq (by kernel_rfl) ?_
  refine aw_region [] [0, 4] [] 1 (vals := [.sl false 2 (List.map e_Arr2_Int s_1), .nb (List.map e_Arr2_Int s_1)]) (bxs := []) (by kernel_rfl) hmix an ?_
  refine aw_condN (t := 4) (l := (List.map e_Arr2_Int s_1)) (by kernel_rfl) (by kernel_rfl) ?_ ?_
  · intro h_2; replace h_2 := List.map_eq_nil_iff.1 h_2
    replace h := Eq.trans (show (some []) = ((need (((([] : List Arr2_Int)).length + (s_1).length) * 16 ≤ 140737488355328)).bind fun _ =>
 some ([] ++ s_1)) from by simp [h_2, need]) h
    refine aw_seq (by kernel_rfl) ?_
    refine aw_region [(0, { id := 1, m := 1 })] [2] [1] 2 (vals := [.own 1 0]) (bxs := [.live (.row 67 2 [])]) (by kernel_rfl) hmix an ?_
    refine aw_sub (sub_wkm [1] [] [.a 2 (.own 0 ((([] : List Arr2_Int)).length))] [.s 0] (sl2 := [(2, .own 0 ((([] : List Arr2_Int)).length))]) (bx2 := [(0, .live (.row 67 2 []))]) (by kernel_rfl) (ac (congrArg (AV.own _) (by first | (simp; done) | (simp; omega)) : (.own 1 0 : AV) = .own 1 ((([] : List Arr2_Int)).length)) an)) ?_
    refine aw_ret (by kernel_rfl) ?_
    replace h := Option.some.inj h; subst h
    exact ⟨.inr rfl, Nat.le_of_ble_eq_true rfl, by kernel_rfl⟩
  refine aw_skip (by kernel_rfl) ?_
  refine aw_seq (by kernel_rfl) ?_
  obtain ⟨_, h_1, h⟩ := bind_some h; replace h_1 := need_some h_1
  refine aw_region [(0, { id := 1 }), (2, { id := 2, l := (List.map e_Arr2_Int ([] ++ s_1)), n := (([] ++ s_1)).length })] [2] [2] 3 (vals := [.own 2 ((([] ++ s_1)).length)]) (bxs := [.live (.row 67 2 (List.map e_Arr2_Int ([] ++ s_1)))]) (by kernel_rfl) hmix (ac (by first | (simp; done) | (simp; omega) : 0 = (([] : List AV)).length) (ac (trivial : True) (ac (by simp : (List.map e_Arr2_Int ([] ++ s_1)) = [] ++ (List.map e_Arr2_Int s_1)) (ac (by simp : (([] ++ s_1)).length = ((List.map e_Arr2_Int ([] ++ s_1))).length) (ac (by first | (simp; done) | simpa using h_1 : (([] : List AV).length + ((List.map e_Arr2_Int s_1) : List AV).length) * 16 ≤ 140737488355328) an))))) ?_
  refine aw_sub (sub_wkm [2] [] [.s 2] [.s 0] (sl2 := [(2, .own 0 ((([] ++ s_1)).length))]) (bx2 := [(0, .live (.row 67 2 (List.map e_Arr2_Int ([] ++ s_1))))]) (by kernel_rfl) an) ?_
  refine aw_ret (by kernel_rfl) ?_
  replace h := Option.some.inj h; subst h
  exact ⟨.inr rfl, Nat.le_of_ble_eq_true rfl, by kernel_rfl⟩

theorem slices_Index_2_int_2_int_ok (F : Nat) (s_1 : List (Arr2_Int)) (a_1 : Arr2_Int) (r : Int) (h : slices_Index_2_int_2_int F s_1 a_1 = some r) : TripleG prog 46 [] [] [.sl false 2 (List.map e_Arr2_Int s_1), .agg [.int .i64 a_1.c0, .int .i64 a_1.c1]] [] (.int .i64 r) := by
  refine triple_intro (fn := Go.Proofs.Try.f46) (code := codeOf Go.Proofs.Try.f46) (by kernel_rfl) (by kernel_rfl) (Nat.le_of_ble_eq_true (by kernel_rfl)) ?_
  unfold slices_Index_2_int_2_int at h
  refine aw_seq (by kernel_rfl) ?_
  refine aw_region [(0, { id := 0 })] [0, 3] [0] 1 (vals := [.sl false 2 (List.map e_Arr2_Int s_1), .ptr 0 0 0 0]) (bxs := [.live (.var 67 [.int .i64 a_1.c0, .int .i64 a_1.c1])]) (by kernel_rfl) hmix an ?_
  refine aw_seq (by kernel_rfl) ?_
  refine aw_seq (by kernel_rfl) ?_
  refine aw_region [(1, { n := (s_1).length })] [0, 3, 7, 8] [0] 1 (vals := [.sl false 2 (List.map e_Arr2_Int s_1), .ptr 0 0 0 0, .int .i64 (((s_1).length : Nat) : Int), .int .i64 (0 : Int)]) (bxs := [.live (.var 67 [.int .i64 a_1.c0, .int .i64 a_1.c1])]) (by kernel_rfl) hmix (ac (vc_len _ : ((List.map e_Arr2_Int s_1)).length = (s_1).length) an) ?_
  obtain ⟨o_1, h_1, h⟩ := bind_some h
  refine aw_conv (K1 := (fun e st' => match o_1 with | (.inl q0) => e = .normal ∧ Sub 0 st' (mk [] [] 0) | (.inr q1) => e = .ret ∧ FinR prog Go.Proofs.Try.f46 0 [] (.int .i64 q1) st')) ?_ ?_
  · replace h := h_1
    refine aw_block (id := 0) (by kernel_rfl) ?_
    refine aw_sub (sub_wkm [0] [] [.s 0, .s 3, .s 7, .s 8] [.s 0] (sl2 := [(0, .sl false 2 (List.map e_Arr2_Int s_1)), (3, .ptr 0 0 0 0), (7, .int .i64 (((s_1).length : Nat) : Int)), (8, .int .i64 (0 : Int))]) (bx2 := [(0, .live (.var 67 [.int .i64 a_1.c0, .int .i64 a_1.c1]))]) (by kernel_rfl) an) ?_
    refine aw_loopF (fun n st => ∃ (v_1 : Int), st = mk [(0, .sl false 2 (List.map e_Arr2_Int s_1)), (3, .ptr 0 0 0 0), (7, .int .i64 (((s_1).length : Nat) : Int)), (8, .int .i64 v_1)] [(0, .live (.var 67 [.int .i64 a_1.c0, .int .i64 a_1.c1]))] 1 ∧ slices_Index_2_int_2_int_L1 F s_1 a_1 n v_1 = some o_1) F (by kernel_rfl) ⟨_, rfl, h⟩ ?_ ?_
    · rintro _ ⟨_, _, h⟩; exact none_ne (h : (none : Option (Unit ⊕ Int)) = some o_1)
    rintro n_1 _ ⟨v_1, rfl, h⟩
    replace h : slices_Index_2_int_2_int_L1_body F s_1 a_1 (slices_Index_2_int_2_int_L1 F s_1 a_1 n_1) v_1 = some o_1 := h
    unfold slices_Index_2_int_2_int_L1_body at h
    refine aw_seq (by kernel_rfl) ?_
    refine aw_region [] [0, 3, 7, 8, 9] [0] 1 (vals := [.sl false 2 (List.map e_Arr2_Int s_1), .ptr 0 0 0 0, .int .i64 (((s_1).length : Nat) : Int), .int .i64 v_1, .bool (decide (v_1 < (((s_1).length : Nat) : Int)))]) (bxs := [.live (.var 67 [.int .i64 a_1.c0, .int .i64 a_1.c1])]) (by kernel_rfl) hmix an ?_
    refine aw_seq (by kernel_rfl) ?_
    refine aw_cond (t := 9) (b := (decide (v_1 < (((s_1).length : Nat) : Int)))) (by kernel_rfl) (by kernel_rfl) ?_ ?_
    rotate_left
    · intro g_1; replace h := cond_f g_1 h
      refine aw_exit (id := 0) (by kernel_rfl) ?_
      replace h := Option.some.inj h; subst h
      exact ⟨rfl, (sub_wkm [] [] [] [] (by kernel_rfl) an)⟩
    intro g_1; replace h := cond_t g_1 h
    refine aw_skip (by kernel_rfl) ?_
    refine aw_seq (by kernel_rfl) ?_
    refine aw_block (id := 1) (by kernel_rfl) ?_
    refine aw_seq (by kernel_rfl) ?_
    refine aw_region [] [0, 3, 5, 7, 8] [0] 1 (vals := [.sl false 2 (List.map e_Arr2_Int s_1), .ptr 0 0 0 0, .int .i64 v_1, .int .i64 (((s_1).length : Nat) : Int), .int .i64 v_1]) (bxs := [.live (.var 67 [.int .i64 a_1.c0, .int .i64 a_1.c1])]) (by kernel_rfl) hmix an ?_
    refine aw_seq (by kernel_rfl) ?_
    obtain ⟨x_1, h_2, h⟩ := bind_some h
    refine aw_region [(3, { av := .agg [.int .i64 x_1.c0, .int .i64 x_1.c1] }), (5, { b := (decide (a_1 = x_1)), mks := [.int .i64, .int .i64] })] [0, 3, 5, 7, 8, 16] [0] 1 (vals := [.sl false 2 (List.map e_Arr2_Int s_1), .ptr 0 0 0 0, .int .i64 v_1, .int .i64 (((s_1).length : Nat) : Int), .int .i64 v_1, .bool (decide (a_1 = x_1))]) (bxs := [.live (.var 67 [.int .i64 a_1.c0, .int .i64 a_1.c1])]) (by kernel_rfl) hmix (ac (vc_idx h_2 : idxA (List.map e_Arr2_Int s_1) v_1 = some (.agg [.int .i64 x_1.c0, .int .i64 x_1.c1])) (ac (eqOk_67 : EqOk prog 67 [.int .i64, .int .i64]) (ac (vc_eqA (f := e_Arr2_Int) inj_Arr2_Int a_1 x_1 : ((decide (a_1 = x_1)) = true ↔ AV.agg [.int .i64 a_1.c0, .int .i64 a_1.c1] = AV.agg [.int .i64 x_1.c0, .int .i64 x_1.c1])) an))) ?_
    refine aw_cond (t := 16) (b := (decide (a_1 = x_1))) (by kernel_rfl) (by kernel_rfl) ?_ ?_
    rotate_left
    · intro g_2; replace h := cond_f g_2 h
      refine aw_skip (by kernel_rfl) ?_
      refine aw_region [] [0, 3, 7, 8] [0] 1 (vals := [.sl false 2 (List.map e_Arr2_Int s_1), .ptr 0 0 0 0, .int .i64 (((s_1).length : Nat) : Int), .int .i64 (w_i64 (v_1 + (1 : Int)))]) (bxs := [.live (.var 67 [.int .i64 a_1.c0, .int .i64 a_1.c1])]) (by kernel_rfl) hmix an ?_
      exact ⟨_, (sub_wkm [0] [] [.s 0, .s 3, .s 7, .s 8] [.s 0] (by kernel_rfl) an), _, rfl, h⟩
    intro g_2; replace h := cond_t g_2 h
    refine aw_seq (by kernel_rfl) ?_
    refine aw_region [] [4] [] 1 (vals := [.int .i64 v_1]) (bxs := []) (by kernel_rfl) hmix an ?_
    refine aw_ret (by kernel_rfl) ?_
    replace h := Option.some.inj h; subst h
    exact ⟨rfl, Nat.le_of_ble_eq_true rfl, by kernel_rfl⟩
  intro e st1 hk
  rcases o_1 with q_1 | q_2
  rotate_left
  · obtain ⟨rfl, hf⟩ := hk
    replace h := Option.some.inj h; subst h
    exact ⟨st1, Sub.refl _ _, .inr rfl, hf⟩
  obtain ⟨rfl, hs⟩ := hk
  refine ⟨_, hs, ?_⟩
  refine aw_seq (by kernel_rfl) ?_
  refine aw_region [] [4] [] 0 (vals := [.int .i64 (-1 : Int)]) (bxs := []) (by kernel_rfl) hmix an ?_
  refine aw_ret (by kernel_rfl) ?_
  replace h := Option.some.inj h; subst h
  exact ⟨.inr rfl, Nat.le_of_ble_eq_true rfl, by kernel_rfl⟩

theorem intern_PutStack_ok (F : Nat) (names_1 : List (List Int)) (stacks_1 : List (Arr2_Int)) (l_1 : List (List Int)) (r : Int × (List (List Int)) × (List (Arr2_Int)) × Int) (h : intern_PutStack F names_1 stacks_1 l_1 = some r) : TripleG prog 24 [] [] [.sl false 1 (List.map AV.str names_1), .sl false 2 (List.map e_Arr2_Int stacks_1), .sl false 1 (List.map AV.str l_1)] [] (.tuple [.int .i64 r.1, .sl false 1 (List.map AV.str r.2.1), .sl false 2 (List.map e_Arr2_Int r.2.2.1), .int .i64 r.2.2.2]) := by
  refine triple_intro (fn := Go.Proofs.Try.f24) (code := codeOf Go.Proofs.Try.f24) (by kernel_rfl) (by kernel_rfl) (Nat.le_of_ble_eq_true (by kernel_rfl)) ?_
  unfold intern_PutStack at h
  refine aw_seq (by kernel_rfl) ?_
  refine aw_region [] [0, 1, 2] [] 0 (vals := [.sl false 1 (List.map AV.str names_1), .sl false 2 (List.map e_Arr2_Int stacks_1), .sl false 1 (List.map AV.str l_1)]) (bxs := []) (by kernel_rfl) hmix an ?_
  refine aw_seq (by kernel_rfl) ?_
  refine aw_seq (by kernel_rfl) ?_
  obtain ⟨r_1, h_1, h⟩ := bind_some h
  refine aw_region [(1, { av := .int .i64 r_1, l := [.sl false 1 (List.map AV.str l_1)] })] [0, 1, 2, 10] [] 0 (vals := [.sl false 1 (List.map AV.str names_1), .sl false 2 (List.map e_Arr2_Int stacks_1), .sl false 1 (List.map AV.str l_1), .int .i64 r_1]) (bxs := []) (by kernel_rfl) hmix (ac (rfl : ([.sl false 1 (List.map AV.str l_1)] : List AV) = [.sl false 1 (List.map AV.str l_1)]) (ac (rfl : ([] : List BoxSt) = []) (ac (intern_Frames_ok F l_1 r_1 h_1 : TripleG prog 44 [] [] [.sl false 1 (List.map AV.str l_1)] [] (.int .i64 r_1)) an))) ?_
  refine aw_seq (by kernel_rfl) ?_
  refine aw_region [] [0, 1, 2, 10, 23] [] 0 (vals := [.sl false 1 (List.map AV.str names_1), .sl false 2 (List.map e_Arr2_Int stacks_1), .sl false 1 (List.map AV.str l_1), .int .i64 r_1, .bool (r_1 != (0 : Int))]) (bxs := []) (by kernel_rfl) hmix an ?_
  refine aw_cond (t := 23) (b := (r_1 != (0 : Int))) (by kernel_rfl) (by kernel_rfl) ?_ ?_
  · intro g_1; replace h := cond_t g_1 h
    refine aw_seq (by kernel_rfl) ?_
    refine aw_region [] [6, 7, 8, 9] [] 0 (vals := [.int .i64 (0 : Int), .sl false 1 (List.map AV.str names_1), .sl false 2 (List.map e_Arr2_Int stacks_1), .int .i64 r_1]) (bxs := []) (by kernel_rfl) hmix an ?_
    refine aw_ret (by kernel_rfl) ?_
    replace h := Option.some.inj h; subst h
    exact ⟨.inr rfl, Nat.le_of_ble_eq_true rfl, by kernel_rfl⟩
  intro g_1; replace h := cond_f g_1 h
  refine aw_skip (by kernel_rfl) ?_
  refine aw_seq (by kernel_rfl) ?_
  obtain ⟨r_2, h_2, h⟩ := bind_some h
  refine aw_region [(2, { av := .own 0 ((r_2).length), ids := [0], l := [.sl false 2 (List.map e_Arr2_Int stacks_1)], post := [(.row 67 2 (List.map e_Arr2_Int r_2))] })] [0, 1, 2, 11, 12, 13] [0] 1 (vals := [.sl false 1 (List.map AV.str names_1), .sl false 2 (List.map e_Arr2_Int stacks_1), .sl false 1 (List.map AV.str l_1), .int .i64 (-1 : Int), .sl false 1 (List.map AV.str names_1), .own 0 ((r_2).length)]) (bxs := [.live (.row 67 2 (List.map e_Arr2_Int r_2))]) (by kernel_rfl) hmix (ac (rfl : ([.sl false 2 (List.map e_Arr2_Int stacks_1)] : List AV) = [.sl false 2 (List.map e_Arr2_Int stacks_1)]) (ac (rfl : ([] : List BoxSt) = []) (ac (slices_Clone_2_int_2_int_ok stacks_1 r_2 h_2 : TripleG prog 45 [] [] [.sl false 2 (List.map e_Arr2_Int stacks_1)] [(.row 67 2 (List.map e_Arr2_Int r_2))] (.own 0 ((r_2).length))) an))) ?_
  refine aw_seq (by kernel_rfl) ?_
  refine aw_seq (by kernel_rfl) ?_
  refine aw_region [(1, { n := (l_1).length })] [0, 1, 11, 12, 13, 30, 31, 32] [0] 1 (vals := [.sl false 1 (List.map AV.str names_1), .sl false 2 (List.map e_Arr2_Int stacks_1), .int .i64 (-1 : Int), .sl false 1 (List.map AV.str names_1), .own 0 ((r_2).length), .sl false 1 (List.map AV.str l_1), .int .i64 (((l_1).length : Nat) : Int), .int .i64 (0 : Int)]) (bxs := [.live (.row 67 2 (List.map e_Arr2_Int r_2))]) (by kernel_rfl) hmix (ac (vc_len _ : ((List.map AV.str l_1)).length = (l_1).length) an) ?_
  obtain ⟨o_1, h_3, h⟩ := bind_some h
  refine aw_conv (K1 := (fun e st' => match o_1 with | (.inl q0) => e = .normal ∧ Sub 0 st' (mk [(11, .int .i64 q0.1), (12, .sl false 1 (List.map AV.str q0.2.1)), (13, .own 0 ((q0.2.2).length))] [(0, .live (.row 67 2 (List.map e_Arr2_Int q0.2.2)))] 1) | (.inr q1) => e = .ret ∧ FinR prog Go.Proofs.Try.f24 0 [] (.tuple [.int .i64 q1.1, .sl false 1 (List.map AV.str q1.2.1), .sl false 2 (List.map e_Arr2_Int q1.2.2.1), .int .i64 q1.2.2.2]) st')) ?_ ?_
  · replace h := h_3
    refine aw_block (id := 0) (by kernel_rfl) ?_
    refine aw_sub (sub_wkm [0] [] [.s 0, .s 1, .s 11, .s 12, .s 13, .s 30, .s 31, .s 32] [.s 0] (sl2 := [(0, .sl false 1 (List.map AV.str names_1)), (1, .sl false 2 (List.map e_Arr2_Int stacks_1)), (11, .int .i64 (-1 : Int)), (12, .sl false 1 (List.map AV.str names_1)), (13, .own 0 ((r_2).length)), (30, .sl false 1 (List.map AV.str l_1)), (31, .int .i64 (((l_1).length : Nat) : Int)), (32, .int .i64 (0 : Int))]) (bx2 := [(0, .live (.row 67 2 (List.map e_Arr2_Int r_2)))]) (by kernel_rfl) an) ?_
    refine aw_loopF (fun n st => ∃ (at__1 : Int), ∃ (n_1 : List (List Int)), ∃ (v_1 : Int), ∃ (row_1 : List Arr2_Int), st = mk [(0, .sl false 1 (List.map AV.str names_1)), (1, .sl false 2 (List.map e_Arr2_Int stacks_1)), (11, .int .i64 at__1), (12, .sl false 1 (List.map AV.str n_1)), (13, .own 0 ((row_1).length)), (30, .sl false 1 (List.map AV.str l_1)), (31, .int .i64 (((l_1).length : Nat) : Int)), (32, .int .i64 v_1)] [(0, .live (.row 67 2 (List.map e_Arr2_Int row_1)))] 1 ∧ intern_PutStack_L1 F names_1 stacks_1 l_1 n at__1 n_1 v_1 row_1 = some o_1) F (by kernel_rfl) ⟨_, _, _, _, rfl, h⟩ ?_ ?_
    · rintro _ ⟨_, _, _, _, _, h⟩; exact none_ne (h : (none : Option ((Int × (List (List Int)) × (List Arr2_Int)) ⊕ (Int × (List (List Int)) × (List (Arr2_Int)) × Int))) = some o_1)
    rintro n_2 _ ⟨at__1, n_1, v_1, row_1, rfl, h⟩
    replace h : intern_PutStack_L1_body F names_1 stacks_1 l_1 (intern_PutStack_L1 F names_1 stacks_1 l_1 n_2) at__1 n_1 v_1 row_1 = some o_1 := h
    unfold intern_PutStack_L1_body at h
    refine aw_seq (by kernel_rfl) ?_
    refine aw_region [] [0, 1, 11, 12, 13, 30, 31, 32, 33] [0] 1 (vals := [.sl false 1 (List.map AV.str names_1), .sl false 2 (List.map e_Arr2_Int stacks_1), .int .i64 at__1, .sl false 1 (List.map AV.str n_1), .own 0 ((row_1).length), .sl false 1 (List.map AV.str l_1), .int .i64 (((l_1).length : Nat) : Int), .int .i64 v_1, .bool (decide (v_1 < (((l_1).length : Nat) : Int)))]) (bxs := [.live (.row 67 2 (List.map e_Arr2_Int row_1))]) (by kernel_rfl) hmix an ?_
    refine aw_seq (by kernel_rfl) ?_
    refine aw_cond (t := 33) (b := (decide (v_1 < (((l_1).length : Nat) : Int)))) (by kernel_rfl) (by kernel_rfl) ?_ ?_
    rotate_left
    · intro g_2; replace h := cond_f g_2 h
      refine aw_exit (id := 0) (by kernel_rfl) ?_
      replace h := Option.some.inj h; subst h
      exact ⟨rfl, (sub_wkm [0] [] [.s 11, .s 12, .s 13] [.s 0] (by kernel_rfl) an)⟩
    intro g_2; replace h := cond_t g_2 h
    refine aw_skip (by kernel_rfl) ?_
    refine aw_seq (by kernel_rfl) ?_
    refine aw_block (id := 1) (by kernel_rfl) ?_
    refine aw_seq (by kernel_rfl) ?_
    obtain ⟨x_1, h_4, h⟩ := bind_some h
    refine aw_region [(0, { av := .str x_1 })] [0, 1, 11, 12, 13, 15, 30, 31, 32] [0] 1 (vals := [.sl false 1 (List.map AV.str names_1), .sl false 2 (List.map e_Arr2_Int stacks_1), .int .i64 at__1, .sl false 1 (List.map AV.str n_1), .own 0 ((row_1).length), .str x_1, .sl false 1 (List.map AV.str l_1), .int .i64 (((l_1).length : Nat) : Int), .int .i64 v_1]) (bxs := [.live (.row 67 2 (List.map e_Arr2_Int row_1))]) (by kernel_rfl) hmix (ac (vc_idx h_4 : idxA (List.map AV.str l_1) v_1 = some (.str x_1)) an) ?_
    refine aw_seq (by kernel_rfl) ?_
    obtain ⟨r_3, h_5, h⟩ := bind_some h
    refine aw_region [(2, { av := .tuple [.int .i64 r_3.1, .sl false 1 (List.map AV.str r_3.2.1), .int .i64 r_3.2.2], l := [.sl false 1 (List.map AV.str n_1), .str x_1] })] [0, 1, 11, 13, 16, 17, 18, 30, 31, 32] [0] 1 (vals := [.sl false 1 (List.map AV.str names_1), .sl false 2 (List.map e_Arr2_Int stacks_1), .int .i64 at__1, .own 0 ((row_1).length), .int .i64 r_3.1, .sl false 1 (List.map AV.str r_3.2.1), .int .i64 r_3.2.2, .sl false 1 (List.map AV.str l_1), .int .i64 (((l_1).length : Nat) : Int), .int .i64 v_1]) (bxs := [.live (.row 67 2 (List.map e_Arr2_Int row_1))]) (by kernel_rfl) hmix (ac (rfl : ([.sl false 1 (List.map AV.str n_1), .str x_1] : List AV) = [.sl false 1 (List.map AV.str n_1), .str x_1]) (ac (rfl : ([] : List BoxSt) = []) (ac (intern_Put_ok F n_1 x_1 r_3 h_5 : TripleG prog 23 [] [] [.sl false 1 (List.map AV.str n_1), .str x_1] [] (.tuple [.int .i64 r_3.1, .sl false 1 (List.map AV.str r_3.2.1), .int .i64 r_3.2.2])) an))) ?_
    refine aw_seq (by kernel_rfl) ?_
    refine aw_seq (by kernel_rfl) ?_
    refine aw_region [] [0, 1, 11, 13, 16, 17, 18, 30, 31, 32, 44] [0] 1 (vals := [.sl false 1 (List.map AV.str names_1), .sl false 2 (List.map e_Arr2_Int stacks_1), .int .i64 at__1, .own 0 ((row_1).length), .int .i64 r_3.1, .sl false 1 (List.map AV.str r_3.2.1), .int .i64 r_3.2.2, .sl false 1 (List.map AV.str l_1), .int .i64 (((l_1).length : Nat) : Int), .int .i64 v_1, .bool (r_3.2.2 != (0 : Int))]) (bxs := [.live (.row 67 2 (List.map e_Arr2_Int row_1))]) (by kernel_rfl) hmix an ?_
    refine aw_cond (t := 44) (b := (r_3.2.2 != (0 : Int))) (by kernel_rfl) (by kernel_rfl) ?_ ?_
    · intro g_3; replace h := cond_t g_3 h
      refine aw_seq (by kernel_rfl) ?_
      refine aw_region [] [6, 7, 8, 9] [] 1 (vals := [.int .i64 (0 : Int), .sl false 1 (List.map AV.str names_1), .sl false 2 (List.map e_Arr2_Int stacks_1), .int .i64 r_3.2.2]) (bxs := []) (by kernel_rfl) hmix an ?_
      refine aw_ret (by kernel_rfl) ?_
      replace h := Option.some.inj h; subst h
      exact ⟨rfl, Nat.le_of_ble_eq_true rfl, by kernel_rfl⟩
    intro g_3; replace h := cond_f g_3 h
    refine aw_skip (by kernel_rfl) ?_
    refine aw_seq (by kernel_rfl) ?_
    refine aw_region [] [0, 1, 11, 12, 13, 16, 30, 31, 32] [0] 1 (vals := [.sl false 1 (List.map AV.str names_1), .sl false 2 (List.map e_Arr2_Int stacks_1), .int .i64 at__1, .sl false 1 (List.map AV.str r_3.2.1), .own 0 ((row_1).length), .int .i64 r_3.1, .sl false 1 (List.map AV.str l_1), .int .i64 (((l_1).length : Nat) : Int), .int .i64 v_1]) (bxs := [.live (.row 67 2 (List.map e_Arr2_Int row_1))]) (by kernel_rfl) hmix an ?_
    refine aw_seq (by kernel_rfl) ?_
    refine aw_region [(3, { id := 1 })] [0, 1, 12, 13, 19, 30, 31, 32] [0, 1] 2 (vals := [.sl false 1 (List.map AV.str names_1), .sl false 2 (List.map e_Arr2_Int stacks_1), .sl false 1 (List.map AV.str r_3.2.1), .own 0 ((row_1).length), .ptr 1 0 0 0, .sl false 1 (List.map AV.str l_1), .int .i64 (((l_1).length : Nat) : Int), .int .i64 v_1]) (bxs := [.live (.row 67 2 (List.map e_Arr2_Int row_1)), .live (.var 67 [.int .i64 at__1, .int .i64 r_3.1])]) (by kernel_rfl) hmix an ?_
    refine aw_seq (by kernel_rfl) ?_
    refine aw_seq (by kernel_rfl) ?_
    obtain ⟨r_4, h_6, h⟩ := bind_some h
    refine aw_region [(2, { av := .int .i64 r_4, l := [.sl false 2 (List.map e_Arr2_Int row_1), .agg [.int .i64 at__1, .int .i64 r_3.1]], lend := [0] })] [0, 1, 11, 12, 13, 19, 30, 31, 32] [0, 1] 2 (vals := [.sl false 1 (List.map AV.str names_1), .sl false 2 (List.map e_Arr2_Int stacks_1), .int .i64 r_4, .sl false 1 (List.map AV.str r_3.2.1), .own 0 ((row_1).length), .ptr 1 0 0 0, .sl false 1 (List.map AV.str l_1), .int .i64 (((l_1).length : Nat) : Int), .int .i64 v_1]) (bxs := [.live (.row 67 2 (List.map e_Arr2_Int row_1)), .live (.var 67 [.int .i64 at__1, .int .i64 r_3.1])]) (by kernel_rfl) hmix (ac (by first | (simp; done) | (simp; omega) : (row_1).length = ((List.map e_Arr2_Int row_1)).length) (ac (rfl : ([.sl false 2 (List.map e_Arr2_Int row_1), .agg [.int .i64 at__1, .int .i64 r_3.1]] : List AV) = [.sl false 2 (List.map e_Arr2_Int row_1), .agg [.int .i64 at__1, .int .i64 r_3.1]]) (ac (rfl : ([] : List BoxSt) = []) (ac (triple_lo (args' := [.sl false 2 (List.map e_Arr2_Int row_1), .agg [.int .i64 ((⟨at__1, r_3.1⟩ : Arr2_Int).c0), .int .i64 ((⟨at__1, r_3.1⟩ : Arr2_Int).c1)]]) (slices_Index_2_int_2_int_ok F row_1 (⟨at__1, r_3.1⟩ : Arr2_Int) r_4 h_6) rfl ⟨rfl, rfl, rfl, rfl, rfl, trivial⟩ : TripleG prog 46 [] [] [.sl false 2 (List.map e_Arr2_Int row_1), .agg [.int .i64 at__1, .int .i64 r_3.1]] [] (.int .i64 r_4)) an)))) ?_
    refine aw_seq (by kernel_rfl) ?_
    refine aw_region [] [0, 1, 11, 12, 13, 19, 30, 31, 32, 56] [0, 1] 2 (vals := [.sl false 1 (List.map AV.str names_1), .sl false 2 (List.map e_Arr2_Int stacks_1), .int .i64 r_4, .sl false 1 (List.map AV.str r_3.2.1), .own 0 ((row_1).length), .ptr 1 0 0 0, .sl false 1 (List.map AV.str l_1), .int .i64 (((l_1).length : Nat) : Int), .int .i64 v_1, .bool (decide (r_4 ≥ (0 : Int)))]) (bxs := [.live (.row 67 2 (List.map e_Arr2_Int row_1)), .live (.var 67 [.int .i64 at__1, .int .i64 r_3.1])]) (by kernel_rfl) hmix an ?_
    refine aw_cond (t := 56) (b := (decide (r_4 ≥ (0 : Int)))) (by kernel_rfl) (by kernel_rfl) ?_ ?_
    · intro g_4; replace h := cond_t g_4 h
      refine aw_exit (id := 1) (by kernel_rfl) ?_
      refine aw_region [] [0, 1, 11, 12, 13, 30, 31, 32] [0] 2 (vals := [.sl false 1 (List.map AV.str names_1), .sl false 2 (List.map e_Arr2_Int stacks_1), .int .i64 r_4, .sl false 1 (List.map AV.str r_3.2.1), .own 0 ((row_1).length), .sl false 1 (List.map AV.str l_1), .int .i64 (((l_1).length : Nat) : Int), .int .i64 (w_i64 (v_1 + (1 : Int)))]) (bxs := [.live (.row 67 2 (List.map e_Arr2_Int row_1))]) (by kernel_rfl) hmix an ?_
      exact ⟨_, (sub_wkm [0] [] [.s 0, .s 1, .s 11, .s 12, .s 13, .s 30, .s 31, .s 32] [.s 0] (by kernel_rfl) an), _, _, _, _, rfl, h⟩
    intro g_4; replace h := cond_f g_4 h
    refine aw_skip (by kernel_rfl) ?_
    refine aw_seq (by kernel_rfl) ?_
    refine aw_seq (by kernel_rfl) ?_
    refine aw_region [] [0, 1, 12, 13, 19, 30, 31, 32, 59] [0, 1] 2 (vals := [.sl false 1 (List.map AV.str names_1), .sl false 2 (List.map e_Arr2_Int stacks_1), .sl false 1 (List.map AV.str r_3.2.1), .own 0 ((row_1).length), .ptr 1 0 0 0, .sl false 1 (List.map AV.str l_1), .int .i64 (((l_1).length : Nat) : Int), .int .i64 v_1, .bool (decide ((((row_1).length : Nat) : Int) ≥ (1000 : Int)))]) (bxs := [.live (.row 67 2 (List.map e_Arr2_Int row_1)), .live (.var 67 [.int .i64 at__1, .int .i64 r_3.1])]) (by kernel_rfl) hmix an ?_
    refine aw_cond (t := 59) (b := (decide ((((row_1).length : Nat) : Int) ≥ (1000 : Int)))) (by kernel_rfl) (by kernel_rfl) ?_ ?_
    · intro g_5; replace h := cond_t g_5 h
      refine aw_seq (by kernel_rfl) ?_
      refine aw_region [] [6, 7, 8, 9] [] 2 (vals := [.int .i64 (0 : Int), .sl false 1 (List.map AV.str names_1), .sl false 2 (List.map e_Arr2_Int stacks_1), .int .i64 (6 : Int)]) (bxs := []) (by kernel_rfl) hmix an ?_
      refine aw_ret (by kernel_rfl) ?_
      replace h := Option.some.inj h; subst h
      exact ⟨rfl, Nat.le_of_ble_eq_true rfl, by kernel_rfl⟩
    intro g_5; replace h := cond_f g_5 h
    refine aw_skip (by kernel_rfl) ?_
    refine aw_seq (by kernel_rfl) ?_
    refine aw_region [] [0, 1, 11, 12, 13, 19, 30, 31, 32] [0, 1] 2 (vals := [.sl false 1 (List.map AV.str names_1), .sl false 2 (List.map e_Arr2_Int stacks_1), .int .i64 (((row_1).length : Nat) : Int), .sl false 1 (List.map AV.str r_3.2.1), .own 0 ((row_1).length), .ptr 1 0 0 0, .sl false 1 (List.map AV.str l_1), .int .i64 (((l_1).length : Nat) : Int), .int .i64 v_1]) (bxs := [.live (.row 67 2 (List.map e_Arr2_Int row_1)), .live (.var 67 [.int .i64 at__1, .int .i64 r_3.1])]) (by kernel_rfl) hmix an ?_
    obtain ⟨_, h_7, h⟩ := bind_some h; replace h_7 := need_some h_7
    refine aw_region [(2, { id := 2 }), (3, { id := 3, l := (List.map e_Arr2_Int (row_1 ++ ([(⟨at__1, r_3.1⟩ : Arr2_Int)] : List Arr2_Int))), n := ((row_1 ++ ([(⟨at__1, r_3.1⟩ : Arr2_Int)] : List Arr2_Int))).length })] [0, 1, 11, 12, 13, 30, 31, 32] [3] 4 (vals := [.sl false 1 (List.map AV.str names_1), .sl false 2 (List.map e_Arr2_Int stacks_1), .int .i64 (((row_1).length : Nat) : Int), .sl false 1 (List.map AV.str r_3.2.1), .own 3 (((row_1 ++ ([(⟨at__1, r_3.1⟩ : Arr2_Int)] : List Arr2_Int))).length), .sl false 1 (List.map AV.str l_1), .int .i64 (((l_1).length : Nat) : Int), .int .i64 v_1]) (bxs := [.live (.row 67 2 (List.map e_Arr2_Int (row_1 ++ ([(⟨at__1, r_3.1⟩ : Arr2_Int)] : List Arr2_Int))))]) (by kernel_rfl) hmix (ac (by first | (simp; done) | (simp; omega) : (row_1).length = ((List.map e_Arr2_Int row_1)).length) (ac (by first | (simp; done) | (simp; omega) : 1 = ((List.map e_Arr2_Int ([(⟨at__1, r_3.1⟩ : Arr2_Int)] : List Arr2_Int))).length) (ac (vc_app _ _ : (List.map e_Arr2_Int (row_1 ++ ([(⟨at__1, r_3.1⟩ : Arr2_Int)] : List Arr2_Int))) = (List.map e_Arr2_Int row_1) ++ (List.map e_Arr2_Int ([(⟨at__1, r_3.1⟩ : Arr2_Int)] : List Arr2_Int))) (ac (by simp : ((row_1 ++ ([(⟨at__1, r_3.1⟩ : Arr2_Int)] : List Arr2_Int))).length = ((List.map e_Arr2_Int (row_1 ++ ([(⟨at__1, r_3.1⟩ : Arr2_Int)] : List Arr2_Int)))).length) (ac (by first | (simp; done) | simpa using h_7 : (((List.map e_Arr2_Int row_1) : List AV).length + ((List.map e_Arr2_Int ([(⟨at__1, r_3.1⟩ : Arr2_Int)] : List Arr2_Int)) : List AV).length) * 16 ≤ 140737488355328) an))))) ?_
    refine aw_region [] [0, 1, 11, 12, 13, 30, 31, 32] [3] 4 (vals := [.sl false 1 (List.map AV.str names_1), .sl false 2 (List.map e_Arr2_Int stacks_1), .int .i64 (((row_1).length : Nat) : Int), .sl false 1 (List.map AV.str r_3.2.1), .own 3 (((row_1 ++ ([(⟨at__1, r_3.1⟩ : Arr2_Int)] : List Arr2_Int))).length), .sl false 1 (List.map AV.str l_1), .int .i64 (((l_1).length : Nat) : Int), .int .i64 (w_i64 (v_1 + (1 : Int)))]) (bxs := [.live (.row 67 2 (List.map e_Arr2_Int (row_1 ++ ([(⟨at__1, r_3.1⟩ : Arr2_Int)] : List Arr2_Int))))]) (by kernel_rfl) hmix an ?_
    exact ⟨_, (sub_wkm [3] [] [.s 0, .s 1, .s 11, .s 12, .s 13, .s 30, .s 31, .s 32] [.s 0] (by kernel_rfl) an), _, _, _, _, rfl, h⟩
  intro e st1 hk
  rcases o_1 with q_1 | q_2
  rotate_left
  · obtain ⟨rfl, hf⟩ := hk
    replace h := Option.some.inj h; subst h
    exact ⟨st1, Sub.refl _ _, .inr rfl, hf⟩
  obtain ⟨rfl, hs⟩ := hk
  refine ⟨_, hs, ?_⟩
  refine aw_seq (by kernel_rfl) ?_
  refine aw_region [] [6, 7, 8, 9] [0] 1 (vals := [.int .i64 q_1.1, .sl false 1 (List.map AV.str q_1.2.1), .own 0 ((q_1.2.2).length), .int .i64 (0 : Int)]) (bxs := [.live (.row 67 2 (List.map e_Arr2_Int q_1.2.2))]) (by kernel_rfl) hmix an ?_
  refine aw_sub (sub_wkm [] [0] [.s 6, .s 7, .a 8 (.sl false 2 (List.map e_Arr2_Int q_1.2.2)), .s 9] [] (sl2 := [(6, .int .i64 q_1.1), (7, .sl false 1 (List.map AV.str q_1.2.1)), (8, .sl false 2 (List.map e_Arr2_Int q_1.2.2)), (9, .int .i64 (0 : Int))]) (bx2 := []) (by kernel_rfl) (ac (by first | (simp; done) | (simp; omega) : (q_1.2.2).length = ((List.map e_Arr2_Int q_1.2.2)).length) (ac (rfl : 2 = 2) (ac (rfl : ((List.map e_Arr2_Int q_1.2.2) : List AV) = (List.map e_Arr2_Int q_1.2.2)) (ac (rfl : (!false || false) = true) an))))) ?_
  refine aw_ret (by kernel_rfl) ?_
  replace h := Option.some.inj h; subst h
  exact ⟨.inr rfl, Nat.le_of_ble_eq_true rfl, by kernel_rfl⟩

theorem record_Encode_ok (F : Nat) (names_1 : List (List Int)) (stacks_1 : List (Arr2_Int)) (e_1 : T_api_Event) (r : (List (Int)) × (List (List Int)) × (List (Arr2_Int)) × Int) (h : record_Encode F names_1 stacks_1 e_1 = some r) : TripleG prog 11 [] [] [.sl false 1 (List.map AV.str names_1), .sl false 2 (List.map e_Arr2_Int stacks_1), e_T_api_Event e_1] [.row 5 1 (List.map (AV.int .u8) r.1)] (.tuple [.own 0 ((r.1).length), .sl false 1 (List.map AV.str r.2.1), .sl false 2 (List.map e_Arr2_Int r.2.2.1), .int .i64 r.2.2.2]) := by
  refine triple_intro (fn := Go.Proofs.Try.f11) (code := codeOf Go.Proofs.Try.f11) (by kernel_rfl) (by kernel_rfl) (Nat.le_of_ble_eq_true (by kernel_rfl)) ?_
  unfold record_Encode at h
  refine aw_seq (by kernel_rfl) ?_
  refine aw_region [(0, { id := 0 }), (1, { id := 1, m := 1 })] [0, 1, 5] [0] 2 (vals := [.sl false 1 (List.map AV.str names_1), .sl false 2 (List.map e_Arr2_Int stacks_1), .ptr 0 0 0 0]) (bxs := [.live (.var 28 (v_T_api_Event e_1))]) (by kernel_rfl) hmix an ?_
  refine aw_seq (by kernel_rfl) ?_
  refine aw_seq (by kernel_rfl) ?_
  obtain ⟨r_1, h_1, h⟩ := bind_some h
  refine aw_region [(2, { av := .int .i64 r_1, l := [.sl false 1 (List.map AV.str names_1), .sl false 2 (List.map e_Arr2_Int stacks_1)] })] [0, 1, 5, 26] [0] 2 (vals := [.sl false 1 (List.map AV.str names_1), .sl false 2 (List.map e_Arr2_Int stacks_1), .ptr 0 0 0 0, .bool (r_1 != (0 : Int))]) (bxs := [.live (.var 28 (v_T_api_Event e_1))]) (by kernel_rfl) hmix (ac (rfl : ([.sl false 1 (List.map AV.str names_1), .sl false 2 (List.map e_Arr2_Int stacks_1)] : List AV) = [.sl false 1 (List.map AV.str names_1), .sl false 2 (List.map e_Arr2_Int stacks_1)]) (ac (rfl : ([] : List BoxSt) = []) (ac (intern_Check_ok F names_1 stacks_1 r_1 h_1 : TripleG prog 19 [] [] [.sl false 1 (List.map AV.str names_1), .sl false 2 (List.map e_Arr2_Int stacks_1)] [] (.int .i64 r_1)) an))) ?_
  refine aw_cond (t := 26) (b := (r_1 != (0 : Int))) (by kernel_rfl) (by kernel_rfl) ?_ ?_
  · intro g_1; replace h := cond_t g_1 h
    refine aw_seq (by kernel_rfl) ?_
    refine aw_region [(0, { id := 2, m := 1 })] [6, 7, 8, 9] [2] 3 (vals := [.own 2 0, .nilsl, .nilsl, .int .i64 (1 : Int)]) (bxs := [.live (.row 5 1 [])]) (by kernel_rfl) hmix an ?_
    refine aw_sub (sub_wkm [2] [] [.a 6 (.own 0 ((([] : List Int)).length)), .a 7 (.sl false 1 []), .a 8 (.sl false 2 []), .s 9] [.s 0] (sl2 := [(6, .own 0 ((([] : List Int)).length)), (7, .sl false 1 []), (8, .sl false 2 []), (9, .int .i64 (1 : Int))]) (bx2 := [(0, .live (.row 5 1 []))]) (by kernel_rfl) (ac (congrArg (AV.own _) (by first | (simp; done) | (simp; omega)) : (.own 2 0 : AV) = .own 2 ((([] : List Int)).length)) (ac (rfl : ([] : List AV) = []) (ac (rfl : ([] : List AV) = []) an)))) ?_
    refine aw_ret (by kernel_rfl) ?_
    replace h := Option.some.inj h; subst h
    exact ⟨.inr rfl, Nat.le_of_ble_eq_true rfl, by kernel_rfl⟩
  intro g_1; replace h := cond_f g_1 h
  refine aw_skip (by kernel_rfl) ?_
  refine aw_seq (by kernel_rfl) ?_
  refine aw_seq (by kernel_rfl) ?_
  obtain ⟨r_2, h_2, h⟩ := bind_some h
  refine aw_region [(1, { av := .int .i64 r_2, l := [e_T_api_Event e_1] })] [0, 1, 5, 10] [0] 2 (vals := [.sl false 1 (List.map AV.str names_1), .sl false 2 (List.map e_Arr2_Int stacks_1), .ptr 0 0 0 0, .int .i64 r_2]) (bxs := [.live (.var 28 (v_T_api_Event e_1))]) (by kernel_rfl) hmix (ac (rfl : ([e_T_api_Event e_1] : List AV) = [e_T_api_Event e_1]) (ac (rfl : ([] : List BoxSt) = []) (ac (event_Check_ok F e_1 r_2 h_2 : TripleG prog 20 [] [] [e_T_api_Event e_1] [] (.int .i64 r_2)) an))) ?_
  refine aw_seq (by kernel_rfl) ?_
  refine aw_region [] [0, 1, 5, 10, 30] [0] 2 (vals := [.sl false 1 (List.map AV.str names_1), .sl false 2 (List.map e_Arr2_Int stacks_1), .ptr 0 0 0 0, .int .i64 r_2, .bool (r_2 != (0 : Int))]) (bxs := [.live (.var 28 (v_T_api_Event e_1))]) (by kernel_rfl) hmix an ?_
  refine aw_cond (t := 30) (b := (r_2 != (0 : Int))) (by kernel_rfl) (by kernel_rfl) ?_ ?_
  · intro g_2; replace h := cond_t g_2 h
    refine aw_seq (by kernel_rfl) ?_
    refine aw_region [(1, { id := 2, m := 1 })] [6, 7, 8, 9] [2] 3 (vals := [.own 2 0, .nilsl, .nilsl, .int .i64 r_2]) (bxs := [.live (.row 5 1 [])]) (by kernel_rfl) hmix an ?_
    refine aw_sub (sub_wkm [2] [] [.a 6 (.own 0 ((([] : List Int)).length)), .a 7 (.sl false 1 []), .a 8 (.sl false 2 []), .s 9] [.s 0] (sl2 := [(6, .own 0 ((([] : List Int)).length)), (7, .sl false 1 []), (8, .sl false 2 []), (9, .int .i64 r_2)]) (bx2 := [(0, .live (.row 5 1 []))]) (by kernel_rfl) (ac (congrArg (AV.own _) (by first | (simp; done) | (simp; omega)) : (.own 2 0 : AV) = .own 2 ((([] : List Int)).length)) (ac (rfl : ([] : List AV) = []) (ac (rfl : ([] : List AV) = []) an)))) ?_
    refine aw_ret (by kernel_rfl) ?_
    replace h := Option.some.inj h; subst h
    exact ⟨.inr rfl, Nat.le_of_ble_eq_true rfl, by kernel_rfl⟩
  intro g_2; replace h := cond_f g_2 h
  refine aw_skip (by kernel_rfl) ?_
  refine aw_seq (by kernel_rfl) ?_
  obtain ⟨r_3, h_3, h⟩ := bind_some h
  refine aw_region [(2, { av := .tuple [.bool r_3.1, .bool r_3.2.1, .bool r_3.2.2.1, .bool r_3.2.2.2], l := [.int .i64 e_1.Kind] })] [0, 1, 5, 11, 12, 13, 14] [0] 2 (vals := [.sl false 1 (List.map AV.str names_1), .sl false 2 (List.map e_Arr2_Int stacks_1), .ptr 0 0 0 0, .bool r_3.1, .bool r_3.2.1, .bool r_3.2.2.1, .bool r_3.2.2.2]) (bxs := [.live (.var 28 (v_T_api_Event e_1))]) (by kernel_rfl) hmix (ac (rfl : ([.int .i64 e_1.Kind] : List AV) = [.int .i64 e_1.Kind]) (ac (rfl : ([] : List BoxSt) = []) (ac (record_uses_ok e_1.Kind r_3 h_3 : TripleG prog 21 [] [] [.int .i64 e_1.Kind] [] (.tuple [.bool r_3.1, .bool r_3.2.1, .bool r_3.2.2.1, .bool r_3.2.2.2])) an))) ?_
  refine aw_seq (by kernel_rfl) ?_
  obtain ⟨r_4, h_4, h⟩ := bind_some h
  obtain ⟨r_5, h_5, h⟩ := bind_some h
  refine aw_region [(2, { av := .own 0 ((r_4).length), ids := [2], l := [.nilsl, .int .i64 e_1.Kind], post := [(.row 5 1 (List.map (AV.int .u8) r_4))] }), (5, { av := .own 0 ((r_5).length), frz := [2], ids := [3], l := [.sl false 1 (List.map (AV.int .u8) r_4), .int .i64 e_1.At], post := [(.row 5 1 (List.map (AV.int .u8) r_5))] })] [0, 1, 5, 11, 12, 13, 14, 15] [0, 3] 4 (vals := [.sl false 1 (List.map AV.str names_1), .sl false 2 (List.map e_Arr2_Int stacks_1), .ptr 0 0 0 0, .bool r_3.1, .bool r_3.2.1, .bool r_3.2.2.1, .bool r_3.2.2.2, .own 3 ((r_5).length)]) (bxs := [.live (.var 28 (v_T_api_Event e_1)), .live (.row 5 1 (List.map (AV.int .u8) r_5))]) (by kernel_rfl) hmix (ac (rfl : ([.nilsl, .int .i64 e_1.Kind] : List AV) = [.nilsl, .int .i64 e_1.Kind]) (ac (rfl : ([] : List BoxSt) = []) (ac (triple_lo (args' := [.sl false 1 [], .int .i64 e_1.Kind]) (codec_PutInt_ok F [] e_1.Kind r_4 h_4) rfl ⟨rfl, rfl, trivial⟩ : TripleG prog 22 [] [] [.nilsl, .int .i64 e_1.Kind] [(.row 5 1 (List.map (AV.int .u8) r_4))] (.own 0 ((r_4).length))) (ac (by first | (simp; done) | (simp; omega) : (r_4).length = ((List.map (AV.int .u8) r_4)).length) (ac (rfl : ([.sl false 1 (List.map (AV.int .u8) r_4), .int .i64 e_1.At] : List AV) = [.sl false 1 (List.map (AV.int .u8) r_4), .int .i64 e_1.At]) (ac (rfl : ([] : List BoxSt) = []) (ac (codec_PutInt_ok F r_4 e_1.At r_5 h_5 : TripleG prog 22 [] [] [.sl false 1 (List.map (AV.int .u8) r_4), .int .i64 e_1.At] [(.row 5 1 (List.map (AV.int .u8) r_5))] (.own 0 ((r_5).length))) an))))))) ?_
  refine aw_seq (by kernel_rfl) ?_
  refine aw_seq (by kernel_rfl) ?_
  refine aw_region [] [0, 1, 5, 12, 13, 14, 15, 46] [0, 3] 4 (vals := [.sl false 1 (List.map AV.str names_1), .sl false 2 (List.map e_Arr2_Int stacks_1), .ptr 0 0 0 0, .bool r_3.2.1, .bool r_3.2.2.1, .bool r_3.2.2.2, .own 3 ((r_5).length), .bool r_3.1]) (bxs := [.live (.var 28 (v_T_api_Event e_1)), .live (.row 5 1 (List.map (AV.int .u8) r_5))]) (by kernel_rfl) hmix an ?_
  obtain ⟨o_1, h_6, h⟩ := bind_some h
  refine aw_conv (K1 := (fun e st' => match o_1 with | (.inl q0) => e = .normal ∧ Sub 0 st' (mk [(0, .sl false 1 (List.map AV.str q0.1)), (1, .sl false 2 (List.map e_Arr2_Int stacks_1)), (5, .ptr 0 0 0 0), (12, .bool r_3.2.1), (13, .bool r_3.2.2.1), (14, .bool r_3.2.2.2), (15, .own 1 ((q0.2).length))] [(0, .live (.var 28 (v_T_api_Event e_1))), (1, .live (.row 5 1 (List.map (AV.int .u8) q0.2)))] 2) | (.inr q1) => e = .ret ∧ FinR prog Go.Proofs.Try.f11 0 [.row 5 1 (List.map (AV.int .u8) q1.1)] (.tuple [.own 0 ((q1.1).length), .sl false 1 (List.map AV.str q1.2.1), .sl false 2 (List.map e_Arr2_Int q1.2.2.1), .int .i64 q1.2.2.2]) st')) ?_ ?_
  · replace h := h_6
    refine aw_cond (t := 46) (b := r_3.1) (by kernel_rfl) (by kernel_rfl) ?_ ?_
    rotate_left
    · intro g_3; replace h := cond_f g_3 h
      refine aw_skip (by kernel_rfl) ?_
      replace h := Option.some.inj h; subst h
      exact ⟨rfl, (sub_wkm [0, 3] [] [.s 0, .s 1, .s 5, .s 12, .s 13, .s 14, .s 15] [.s 0, .s 1] (by kernel_rfl) an)⟩
    intro g_3; replace h := cond_t g_3 h
    refine aw_seq (by kernel_rfl) ?_
    obtain ⟨r_6, h_7, h⟩ := bind_some h
    refine aw_region [(3, { av := .tuple [.int .i64 r_6.1, .sl false 1 (List.map AV.str r_6.2.1), .int .i64 r_6.2.2], l := [.sl false 1 (List.map AV.str names_1), .str e_1.Name] })] [1, 5, 12, 13, 14, 15, 16, 17, 18] [0, 3] 4 (vals := [.sl false 2 (List.map e_Arr2_Int stacks_1), .ptr 0 0 0 0, .bool r_3.2.1, .bool r_3.2.2.1, .bool r_3.2.2.2, .own 3 ((r_5).length), .int .i64 r_6.1, .sl false 1 (List.map AV.str r_6.2.1), .int .i64 r_6.2.2]) (bxs := [.live (.var 28 (v_T_api_Event e_1)), .live (.row 5 1 (List.map (AV.int .u8) r_5))]) (by kernel_rfl) hmix (ac (rfl : ([.sl false 1 (List.map AV.str names_1), .str e_1.Name] : List AV) = [.sl false 1 (List.map AV.str names_1), .str e_1.Name]) (ac (rfl : ([] : List BoxSt) = []) (ac (intern_Put_ok F names_1 e_1.Name r_6 h_7 : TripleG prog 23 [] [] [.sl false 1 (List.map AV.str names_1), .str e_1.Name] [] (.tuple [.int .i64 r_6.1, .sl false 1 (List.map AV.str r_6.2.1), .int .i64 r_6.2.2])) an))) ?_
    refine aw_seq (by kernel_rfl) ?_
    refine aw_seq (by kernel_rfl) ?_
    refine aw_region [] [1, 5, 12, 13, 14, 15, 16, 17, 18, 56] [0, 3] 4 (vals := [.sl false 2 (List.map e_Arr2_Int stacks_1), .ptr 0 0 0 0, .bool r_3.2.1, .bool r_3.2.2.1, .bool r_3.2.2.2, .own 3 ((r_5).length), .int .i64 r_6.1, .sl false 1 (List.map AV.str r_6.2.1), .int .i64 r_6.2.2, .bool (r_6.2.2 != (0 : Int))]) (bxs := [.live (.var 28 (v_T_api_Event e_1)), .live (.row 5 1 (List.map (AV.int .u8) r_5))]) (by kernel_rfl) hmix an ?_
    refine aw_cond (t := 56) (b := (r_6.2.2 != (0 : Int))) (by kernel_rfl) (by kernel_rfl) ?_ ?_
    rotate_left
    · intro g_4; replace h := cond_f g_4 h
      refine aw_skip (by kernel_rfl) ?_
      obtain ⟨r_7, h_8, h⟩ := bind_some h
      refine aw_region [(2, { av := .own 0 ((r_7).length), frz := [3], ids := [4], l := [.sl false 1 (List.map (AV.int .u8) r_5), .int .i64 r_6.1], post := [(.row 5 1 (List.map (AV.int .u8) r_7))] })] [0, 1, 5, 12, 13, 14, 15] [0, 4] 5 (vals := [.sl false 1 (List.map AV.str r_6.2.1), .sl false 2 (List.map e_Arr2_Int stacks_1), .ptr 0 0 0 0, .bool r_3.2.1, .bool r_3.2.2.1, .bool r_3.2.2.2, .own 4 ((r_7).length)]) (bxs := [.live (.var 28 (v_T_api_Event e_1)), .live (.row 5 1 (List.map (AV.int .u8) r_7))]) (by kernel_rfl) hmix (ac (by first | (simp; done) | (simp; omega) : (r_5).length = ((List.map (AV.int .u8) r_5)).length) (ac (rfl : ([.sl false 1 (List.map (AV.int .u8) r_5), .int .i64 r_6.1] : List AV) = [.sl false 1 (List.map (AV.int .u8) r_5), .int .i64 r_6.1]) (ac (rfl : ([] : List BoxSt) = []) (ac (codec_PutInt_ok F r_5 r_6.1 r_7 h_8 : TripleG prog 22 [] [] [.sl false 1 (List.map (AV.int .u8) r_5), .int .i64 r_6.1] [(.row 5 1 (List.map (AV.int .u8) r_7))] (.own 0 ((r_7).length))) an)))) ?_
      replace h := Option.some.inj h; subst h
      exact ⟨rfl, (sub_wkm [0, 4] [] [.s 0, .s 1, .s 5, .s 12, .s 13, .s 14, .s 15] [.s 0, .s 1] (by kernel_rfl) an)⟩
    intro g_4; replace h := cond_t g_4 h
    refine aw_seq (by kernel_rfl) ?_
    refine aw_region [(1, { id := 4, m := 1 })] [6, 7, 8, 9] [4] 5 (vals := [.own 4 0, .nilsl, .nilsl, .int .i64 r_6.2.2]) (bxs := [.live (.row 5 1 [])]) (by kernel_rfl) hmix an ?_
    refine aw_sub (sub_wkm [4] [] [.a 6 (.own 0 ((([] : List Int)).length)), .a 7 (.sl false 1 []), .a 8 (.sl false 2 []), .s 9] [.s 0] (sl2 := [(6, .own 0 ((([] : List Int)).length)), (7, .sl false 1 []), (8, .sl false 2 []), (9, .int .i64 r_6.2.2)]) (bx2 := [(0, .live (.row 5 1 []))]) (by kernel_rfl) (ac (congrArg (AV.own _) (by first | (simp; done) | (simp; omega)) : (.own 4 0 : AV) = .own 4 ((([] : List Int)).length)) (ac (rfl : ([] : List AV) = []) (ac (rfl : ([] : List AV) = []) an)))) ?_
    refine aw_ret (by kernel_rfl) ?_
    replace h := Option.some.inj h; subst h
    exact ⟨rfl, Nat.le_of_ble_eq_true rfl, by kernel_rfl⟩
  intro e st1 hk
  rcases o_1 with q_1 | q_2
  rotate_left
  · obtain ⟨rfl, hf⟩ := hk
    replace h := Option.some.inj h; subst h
    exact ⟨st1, Sub.refl _ _, .inr rfl, hf⟩
  obtain ⟨rfl, hs⟩ := hk
  refine ⟨_, hs, ?_⟩
  refine aw_seq (by kernel_rfl) ?_
  refine aw_seq (by kernel_rfl) ?_
  refine aw_region [] [0, 1, 5, 13, 14, 15, 62] [0, 1] 2 (vals := [.sl false 1 (List.map AV.str q_1.1), .sl false 2 (List.map e_Arr2_Int stacks_1), .ptr 0 0 0 0, .bool r_3.2.2.1, .bool r_3.2.2.2, .own 1 ((q_1.2).length), .bool r_3.2.1]) (bxs := [.live (.var 28 (v_T_api_Event e_1)), .live (.row 5 1 (List.map (AV.int .u8) q_1.2))]) (by kernel_rfl) hmix an ?_
  obtain ⟨o_2, h_9, h⟩ := bind_some h
  refine aw_mid (mk [(0, .sl false 1 (List.map AV.str q_1.1)), (1, .sl false 2 (List.map e_Arr2_Int stacks_1)), (5, .ptr 0 0 0 0), (13, .bool r_3.2.2.1), (14, .bool r_3.2.2.2), (15, .own 1 ((o_2).length))] [(0, .live (.var 28 (v_T_api_Event e_1))), (1, .live (.row 5 1 (List.map (AV.int .u8) o_2)))] 2) ?_ ?_
  · replace h := h_9
    refine aw_cond (t := 62) (b := r_3.2.1) (by kernel_rfl) (by kernel_rfl) ?_ ?_
    rotate_left
    · intro g_5; replace h := cond_f g_5 h
      refine aw_skip (by kernel_rfl) ?_
      replace h := Option.some.inj h; subst h
      exact ⟨rfl, (sub_wkm [0, 1] [] [.s 0, .s 1, .s 5, .s 13, .s 14, .s 15] [.s 0, .s 1] (by kernel_rfl) an)⟩
    intro g_5; replace h := cond_t g_5 h
    obtain ⟨r_8, h_10, h⟩ := bind_some h
    refine aw_region [(3, { av := .own 0 ((r_8).length), frz := [1], ids := [2], l := [.sl false 1 (List.map (AV.int .u8) q_1.2), .int .i64 e_1.N], post := [(.row 5 1 (List.map (AV.int .u8) r_8))] })] [0, 1, 5, 13, 14, 15] [0, 2] 3 (vals := [.sl false 1 (List.map AV.str q_1.1), .sl false 2 (List.map e_Arr2_Int stacks_1), .ptr 0 0 0 0, .bool r_3.2.2.1, .bool r_3.2.2.2, .own 2 ((r_8).length)]) (bxs := [.live (.var 28 (v_T_api_Event e_1)), .live (.row 5 1 (List.map (AV.int .u8) r_8))]) (by kernel_rfl) hmix (ac (by first | (simp; done) | (simp; omega) : (q_1.2).length = ((List.map (AV.int .u8) q_1.2)).length) (ac (rfl : ([.sl false 1 (List.map (AV.int .u8) q_1.2), .int .i64 e_1.N] : List AV) = [.sl false 1 (List.map (AV.int .u8) q_1.2), .int .i64 e_1.N]) (ac (rfl : ([] : List BoxSt) = []) (ac (codec_PutInt_ok F q_1.2 e_1.N r_8 h_10 : TripleG prog 22 [] [] [.sl false 1 (List.map (AV.int .u8) q_1.2), .int .i64 e_1.N] [(.row 5 1 (List.map (AV.int .u8) r_8))] (.own 0 ((r_8).length))) an)))) ?_
    replace h := Option.some.inj h; subst h
    exact ⟨rfl, (sub_wkm [0, 2] [] [.s 0, .s 1, .s 5, .s 13, .s 14, .s 15] [.s 0, .s 1] (by kernel_rfl) an)⟩
  refine aw_seq (by kernel_rfl) ?_
  refine aw_seq (by kernel_rfl) ?_
  refine aw_region [] [0, 1, 5, 14, 15, 67] [0, 1] 2 (vals := [.sl false 1 (List.map AV.str q_1.1), .sl false 2 (List.map e_Arr2_Int stacks_1), .ptr 0 0 0 0, .bool r_3.2.2.2, .own 1 ((o_2).length), .bool r_3.2.2.1]) (bxs := [.live (.var 28 (v_T_api_Event e_1)), .live (.row 5 1 (List.map (AV.int .u8) o_2))]) (by kernel_rfl) hmix an ?_
  obtain ⟨o_3, h_11, h⟩ := bind_some h
  refine aw_mid (mk [(0, .sl false 1 (List.map AV.str q_1.1)), (1, .sl false 2 (List.map e_Arr2_Int stacks_1)), (5, .ptr 0 0 0 0), (14, .bool r_3.2.2.2), (15, .own 1 ((o_3).length))] [(0, .live (.var 28 (v_T_api_Event e_1))), (1, .live (.row 5 1 (List.map (AV.int .u8) o_3)))] 2) ?_ ?_
  · replace h := h_11
    refine aw_cond (t := 67) (b := r_3.2.2.1) (by kernel_rfl) (by kernel_rfl) ?_ ?_
    rotate_left
    · intro g_6; replace h := cond_f g_6 h
      refine aw_skip (by kernel_rfl) ?_
      replace h := Option.some.inj h; subst h
      exact ⟨rfl, (sub_wkm [0, 1] [] [.s 0, .s 1, .s 5, .s 14, .s 15] [.s 0, .s 1] (by kernel_rfl) an)⟩
    intro g_6; replace h := cond_t g_6 h
    obtain ⟨r_9, h_12, h⟩ := bind_some h
    refine aw_region [(3, { av := .own 0 ((r_9).length), frz := [1], ids := [2], l := [.sl false 1 (List.map (AV.int .u8) o_2), .int .i64 e_1.M], post := [(.row 5 1 (List.map (AV.int .u8) r_9))] })] [0, 1, 5, 14, 15] [0, 2] 3 (vals := [.sl false 1 (List.map AV.str q_1.1), .sl false 2 (List.map e_Arr2_Int stacks_1), .ptr 0 0 0 0, .bool r_3.2.2.2, .own 2 ((r_9).length)]) (bxs := [.live (.var 28 (v_T_api_Event e_1)), .live (.row 5 1 (List.map (AV.int .u8) r_9))]) (by kernel_rfl) hmix (ac (by first | (simp; done) | (simp; omega) : (o_2).length = ((List.map (AV.int .u8) o_2)).length) (ac (rfl : ([.sl false 1 (List.map (AV.int .u8) o_2), .int .i64 e_1.M] : List AV) = [.sl false 1 (List.map (AV.int .u8) o_2), .int .i64 e_1.M]) (ac (rfl : ([] : List BoxSt) = []) (ac (codec_PutInt_ok F o_2 e_1.M r_9 h_12 : TripleG prog 22 [] [] [.sl false 1 (List.map (AV.int .u8) o_2), .int .i64 e_1.M] [(.row 5 1 (List.map (AV.int .u8) r_9))] (.own 0 ((r_9).length))) an)))) ?_
    replace h := Option.some.inj h; subst h
    exact ⟨rfl, (sub_wkm [0, 2] [] [.s 0, .s 1, .s 5, .s 14, .s 15] [.s 0, .s 1] (by kernel_rfl) an)⟩
  refine aw_seq (by kernel_rfl) ?_
  refine aw_seq (by kernel_rfl) ?_
  refine aw_region [] [0, 1, 5, 15, 72] [0, 1] 2 (vals := [.sl false 1 (List.map AV.str q_1.1), .sl false 2 (List.map e_Arr2_Int stacks_1), .ptr 0 0 0 0, .own 1 ((o_3).length), .bool r_3.2.2.2]) (bxs := [.live (.var 28 (v_T_api_Event e_1)), .live (.row 5 1 (List.map (AV.int .u8) o_3))]) (by kernel_rfl) hmix an ?_
  obtain ⟨o_4, h_13, h⟩ := bind_some h
  refine aw_conv (K1 := (fun e st' => match o_4 with | (.inl q0) => e = .normal ∧ Sub 0 st' (mk [(0, .sl false 1 (List.map AV.str q0.1)), (1, .sl false 2 (List.map e_Arr2_Int q0.2.1)), (15, .own 0 ((q0.2.2).length))] [(0, .live (.row 5 1 (List.map (AV.int .u8) q0.2.2)))] 1) | (.inr q1) => e = .ret ∧ FinR prog Go.Proofs.Try.f11 0 [.row 5 1 (List.map (AV.int .u8) q1.1)] (.tuple [.own 0 ((q1.1).length), .sl false 1 (List.map AV.str q1.2.1), .sl false 2 (List.map e_Arr2_Int q1.2.2.1), .int .i64 q1.2.2.2]) st')) ?_ ?_
  · replace h := h_13
    refine aw_cond (t := 72) (b := r_3.2.2.2) (by kernel_rfl) (by kernel_rfl) ?_ ?_
    rotate_left
    · intro g_7; replace h := cond_f g_7 h
      refine aw_skip (by kernel_rfl) ?_
      replace h := Option.some.inj h; subst h
      exact ⟨rfl, (sub_wkm [1] [] [.s 0, .s 1, .s 15] [.s 0] (by kernel_rfl) an)⟩
    intro g_7; replace h := cond_t g_7 h
    refine aw_seq (by kernel_rfl) ?_
    obtain ⟨r_10, h_14, h⟩ := bind_some h
    refine aw_region [(4, { av := .tuple [.int .i64 r_10.1, .sl false 1 (List.map AV.str r_10.2.1), .sl false 2 (List.map e_Arr2_Int r_10.2.2.1), .int .i64 r_10.2.2.2], l := [.sl false 1 (List.map AV.str q_1.1), .sl false 2 (List.map e_Arr2_Int stacks_1), .sl false 1 (List.map AV.str e_1.Stack)] })] [15, 19, 20, 21, 22] [1] 2 (vals := [.own 1 ((o_3).length), .int .i64 r_10.1, .sl false 1 (List.map AV.str r_10.2.1), .sl false 2 (List.map e_Arr2_Int r_10.2.2.1), .int .i64 r_10.2.2.2]) (bxs := [.live (.row 5 1 (List.map (AV.int .u8) o_3))]) (by kernel_rfl) hmix (ac (rfl : ([.sl false 1 (List.map AV.str q_1.1), .sl false 2 (List.map e_Arr2_Int stacks_1), .sl false 1 (List.map AV.str e_1.Stack)] : List AV) = [.sl false 1 (List.map AV.str q_1.1), .sl false 2 (List.map e_Arr2_Int stacks_1), .sl false 1 (List.map AV.str e_1.Stack)]) (ac (rfl : ([] : List BoxSt) = []) (ac (intern_PutStack_ok F q_1.1 stacks_1 e_1.Stack r_10 h_14 : TripleG prog 24 [] [] [.sl false 1 (List.map AV.str q_1.1), .sl false 2 (List.map e_Arr2_Int stacks_1), .sl false 1 (List.map AV.str e_1.Stack)] [] (.tuple [.int .i64 r_10.1, .sl false 1 (List.map AV.str r_10.2.1), .sl false 2 (List.map e_Arr2_Int r_10.2.2.1), .int .i64 r_10.2.2.2])) an))) ?_
    refine aw_seq (by kernel_rfl) ?_
    refine aw_seq (by kernel_rfl) ?_
    refine aw_region [] [15, 19, 20, 21, 22, 84] [1] 2 (vals := [.own 1 ((o_3).length), .int .i64 r_10.1, .sl false 1 (List.map AV.str r_10.2.1), .sl false 2 (List.map e_Arr2_Int r_10.2.2.1), .int .i64 r_10.2.2.2, .bool (r_10.2.2.2 != (0 : Int))]) (bxs := [.live (.row 5 1 (List.map (AV.int .u8) o_3))]) (by kernel_rfl) hmix an ?_
    refine aw_cond (t := 84) (b := (r_10.2.2.2 != (0 : Int))) (by kernel_rfl) (by kernel_rfl) ?_ ?_
    rotate_left
    · intro g_8; replace h := cond_f g_8 h
      refine aw_skip (by kernel_rfl) ?_
      obtain ⟨r_11, h_15, h⟩ := bind_some h
      refine aw_region [(2, { av := .own 0 ((r_11).length), frz := [1], ids := [2], l := [.sl false 1 (List.map (AV.int .u8) o_3), .int .i64 r_10.1], post := [(.row 5 1 (List.map (AV.int .u8) r_11))] })] [0, 1, 15] [2] 3 (vals := [.sl false 1 (List.map AV.str r_10.2.1), .sl false 2 (List.map e_Arr2_Int r_10.2.2.1), .own 2 ((r_11).length)]) (bxs := [.live (.row 5 1 (List.map (AV.int .u8) r_11))]) (by kernel_rfl) hmix (ac (by first | (simp; done) | (simp; omega) : (o_3).length = ((List.map (AV.int .u8) o_3)).length) (ac (rfl : ([.sl false 1 (List.map (AV.int .u8) o_3), .int .i64 r_10.1] : List AV) = [.sl false 1 (List.map (AV.int .u8) o_3), .int .i64 r_10.1]) (ac (rfl : ([] : List BoxSt) = []) (ac (codec_PutInt_ok F o_3 r_10.1 r_11 h_15 : TripleG prog 22 [] [] [.sl false 1 (List.map (AV.int .u8) o_3), .int .i64 r_10.1] [(.row 5 1 (List.map (AV.int .u8) r_11))] (.own 0 ((r_11).length))) an)))) ?_
      replace h := Option.some.inj h; subst h
      exact ⟨rfl, (sub_wkm [2] [] [.s 0, .s 1, .s 15] [.s 0] (by kernel_rfl) an)⟩
    intro g_8; replace h := cond_t g_8 h
    refine aw_seq (by kernel_rfl) ?_
    refine aw_region [(1, { id := 2, m := 1 })] [6, 7, 8, 9] [2] 3 (vals := [.own 2 0, .nilsl, .nilsl, .int .i64 r_10.2.2.2]) (bxs := [.live (.row 5 1 [])]) (by kernel_rfl) hmix an ?_
    refine aw_sub (sub_wkm [2] [] [.a 6 (.own 0 ((([] : List Int)).length)), .a 7 (.sl false 1 []), .a 8 (.sl false 2 []), .s 9] [.s 0] (sl2 := [(6, .own 0 ((([] : List Int)).length)), (7, .sl false 1 []), (8, .sl false 2 []), (9, .int .i64 r_10.2.2.2)]) (bx2 := [(0, .live (.row 5 1 []))]) (by kernel_rfl) (ac (congrArg (AV.own _) (by first | (simp; done) | (simp; omega)) : (.own 2 0 : AV) = .own 2 ((([] : List Int)).length)) (ac (rfl : ([] : List AV) = []) (ac (rfl : ([] : List AV) = []) an)))) ?_
    refine aw_ret (by kernel_rfl) ?_
    replace h := Option.some.inj h; subst h
    exact ⟨rfl, Nat.le_of_ble_eq_true rfl, by kernel_rfl⟩
  intro e st1 hk
  rcases o_4 with q_3 | q_4
  rotate_left
  · obtain ⟨rfl, hf⟩ := hk
    replace h := Option.some.inj h; subst h
    exact ⟨st1, Sub.refl _ _, .inr rfl, hf⟩
  obtain ⟨rfl, hs⟩ := hk
  refine ⟨_, hs, ?_⟩
  refine aw_seq (by kernel_rfl) ?_
  refine aw_region [] [6, 7, 8, 9] [0] 1 (vals := [.own 0 ((q_3.2.2).length), .sl false 1 (List.map AV.str q_3.1), .sl false 2 (List.map e_Arr2_Int q_3.2.1), .int .i64 (0 : Int)]) (bxs := [.live (.row 5 1 (List.map (AV.int .u8) q_3.2.2))]) (by kernel_rfl) hmix an ?_
  refine aw_sub (sub_wkm [0] [] [.s 6, .s 7, .s 8, .s 9] [.s 0] (sl2 := [(6, .own 0 ((q_3.2.2).length)), (7, .sl false 1 (List.map AV.str q_3.1)), (8, .sl false 2 (List.map e_Arr2_Int q_3.2.1)), (9, .int .i64 (0 : Int))]) (bx2 := [(0, .live (.row 5 1 (List.map (AV.int .u8) q_3.2.2)))]) (by kernel_rfl) an) ?_
  refine aw_ret (by kernel_rfl) ?_
  replace h := Option.some.inj h; subst h
  exact ⟨.inr rfl, Nat.le_of_ble_eq_true rfl, by kernel_rfl⟩

theorem codec_integer_ok (u_1 : Int) (r : Int) (h : codec_integer u_1 = some r) : TripleG prog 63 [] [] [.int .u64 u_1] [] (.int .i64 r) := by
  refine triple_intro (fn := Go.Proofs.Try.f63) (code := codeOf Go.Proofs.Try.f63) (by kernel_rfl) (by kernel_rfl) (Nat.le_of_ble_eq_true (by kernel_rfl)) ?_
  unfold codec_integer at h
  refine aw_seq (by kernel_rfl) ?_
  refine aw_region [] [0] [] 0 (vals := [.int .u64 u_1]) (bxs := []) (by kernel_rfl) hmix an ?_
  refine aw_seq (by kernel_rfl) ?_
  refine aw_region [] [2] [] 0 (vals := [.int .i64 (ixor .i64 (w_i64 (ishr .u64 u_1 (1 : Int))) (w_i64 (0 - (w_i64 (iand .u64 u_1 (1 : Int))))))]) (bxs := []) (by kernel_rfl) hmix (ac (by decide : (0 : Int) ≤ (1 : Int)) an) ?_
  refine aw_ret (by kernel_rfl) ?_
  replace h := Option.some.inj h; subst h
  exact ⟨.inr rfl, Nat.le_of_ble_eq_true rfl, by kernel_rfl⟩

theorem codec_Int_ok (F : Nat) (b_1 : List (Int)) (r : Int × Int × Int) (h : codec_Int F b_1 = some r) : TripleG prog 55 [] [] [.sl false 1 (List.map (AV.int .u8) b_1)] [] (.tuple [.int .i64 r.1, .int .i64 r.2.1, .int .i64 r.2.2]) := by
  refine triple_intro (fn := Go.Proofs.Try.f55) (code := codeOf Go.Proofs.Try.f55) (by kernel_rfl) (by kernel_rfl) (Nat.le_of_ble_eq_true (by kernel_rfl)) ?_
  unfold codec_Int at h
  refine aw_seq (by kernel_rfl) ?_
  refine aw_region [] [0] [] 0 (vals := [.sl false 1 (List.map (AV.int .u8) b_1)]) (bxs := []) (by kernel_rfl) hmix an ?_
  refine aw_seq (by kernel_rfl) ?_
  refine aw_region [] [0, 5] [] 0 (vals := [.sl false 1 (List.map (AV.int .u8) b_1), .int .u64 (0 : Int)]) (bxs := []) (by kernel_rfl) hmix an ?_
  refine aw_seq (by kernel_rfl) ?_
  refine aw_seq (by kernel_rfl) ?_
  refine aw_region [(1, { n := (b_1).length })] [5, 8, 9, 10] [] 0 (vals := [.int .u64 (0 : Int), .sl false 1 (List.map (AV.int .u8) b_1), .int .i64 (((b_1).length : Nat) : Int), .int .i64 (0 : Int)]) (bxs := []) (by kernel_rfl) hmix (ac (vc_len _ : ((List.map (AV.int .u8) b_1)).length = (b_1).length) an) ?_
  obtain ⟨o_1, h_1, h⟩ := bind_some h
  refine aw_conv (K1 := (fun e st' => match o_1 with | (.inl q0) => e = .normal ∧ Sub 0 st' (mk [] [] 0) | (.inr q1) => e = .ret ∧ FinR prog Go.Proofs.Try.f55 0 [] (.tuple [.int .i64 q1.1, .int .i64 q1.2.1, .int .i64 q1.2.2]) st')) ?_ ?_
  · replace h := h_1
    refine aw_block (id := 0) (by kernel_rfl) ?_
    refine aw_sub (sub_wkm [] [] [.s 5, .s 8, .s 9, .s 10] [] (sl2 := [(5, .int .u64 (0 : Int)), (8, .sl false 1 (List.map (AV.int .u8) b_1)), (9, .int .i64 (((b_1).length : Nat) : Int)), (10, .int .i64 (0 : Int))]) (bx2 := []) (by kernel_rfl) an) ?_
    refine aw_loopF (fun n st => ∃ (u_1 : Int), ∃ (v_1 : Int), st = mk [(5, .int .u64 u_1), (8, .sl false 1 (List.map (AV.int .u8) b_1)), (9, .int .i64 (((b_1).length : Nat) : Int)), (10, .int .i64 v_1)] [] 0 ∧ codec_Int_L1 F b_1 n u_1 v_1 = some o_1) F (by kernel_rfl) ⟨_, _, rfl, h⟩ ?_ ?_
    · rintro _ ⟨_, _, _, h⟩; exact none_ne (h : (none : Option (Unit ⊕ (Int × Int × Int))) = some o_1)
    rintro n_1 _ ⟨u_1, v_1, rfl, h⟩
    replace h : codec_Int_L1_body F b_1 (codec_Int_L1 F b_1 n_1) u_1 v_1 = some o_1 := h
    unfold codec_Int_L1_body at h
    refine aw_seq (by kernel_rfl) ?_
    refine aw_region [] [5, 8, 9, 10, 11] [] 0 (vals := [.int .u64 u_1, .sl false 1 (List.map (AV.int .u8) b_1), .int .i64 (((b_1).length : Nat) : Int), .int .i64 v_1, .bool (decide (v_1 < (((b_1).length : Nat) : Int)))]) (bxs := []) (by kernel_rfl) hmix an ?_
    refine aw_seq (by kernel_rfl) ?_
    refine aw_cond (t := 11) (b := (decide (v_1 < (((b_1).length : Nat) : Int)))) (by kernel_rfl) (by kernel_rfl) ?_ ?_
    rotate_left
    · intro g_1; replace h := cond_f g_1 h
      refine aw_exit (id := 0) (by kernel_rfl) ?_
      replace h := Option.some.inj h; subst h
      exact ⟨rfl, (sub_wkm [] [] [] [] (by kernel_rfl) an)⟩
    intro g_1; replace h := cond_t g_1 h
    refine aw_skip (by kernel_rfl) ?_
    refine aw_seq (by kernel_rfl) ?_
    refine aw_block (id := 1) (by kernel_rfl) ?_
    refine aw_seq (by kernel_rfl) ?_
    obtain ⟨x_1, h_2, h⟩ := bind_some h
    refine aw_region [(1, { av := .int .u8 x_1 })] [5, 6, 7, 8, 9, 10] [] 0 (vals := [.int .u64 u_1, .int .i64 v_1, .int .u8 x_1, .sl false 1 (List.map (AV.int .u8) b_1), .int .i64 (((b_1).length : Nat) : Int), .int .i64 v_1]) (bxs := []) (by kernel_rfl) hmix (ac (vc_idx h_2 : idxA (List.map (AV.int .u8) b_1) v_1 = some (.int .u8 x_1)) an) ?_
    refine aw_seq (by kernel_rfl) ?_
    refine aw_seq (by kernel_rfl) ?_
    refine aw_mid (mk [(5, .int .u64 u_1), (6, .int .i64 v_1), (7, .int .u8 x_1), (8, .sl false 1 (List.map (AV.int .u8) b_1)), (9, .int .i64 (((b_1).length : Nat) : Int)), (10, .int .i64 v_1), (20, .bool ((v_1 == (9 : Int)) && decide (x_1 > (1 : Int))))] [] 0) ?_ ?_
    · rcases Bool.eq_false_or_eq_true (v_1 == (9 : Int)) with gg_7 | gg_7
      · refine aw_region [(5, { b := true })] [5, 6, 7, 8, 9, 10, 18, 19, 20] [] 0 (vals := [.int .u64 u_1, .int .i64 v_1, .int .u8 x_1, .sl false 1 (List.map (AV.int .u8) b_1), .int .i64 (((b_1).length : Nat) : Int), .int .i64 v_1, .int .u8 x_1, .bool (decide (x_1 > (1 : Int))), .bool (decide (x_1 > (1 : Int)))]) (bxs := []) (by kernel_rfl) hmix (ac gg_7 (ac gg_7 (ac gg_7 an))) ?_
        exact ⟨rfl, (sub_wkm [] [] [.s 5, .s 6, .s 7, .s 8, .s 9, .s 10, .a 20 (.bool ((v_1 == (9 : Int)) && decide (x_1 > (1 : Int))))] [] (by kernel_rfl) (ac (congrArg AV.bool (andt gg_7 rfl) : (.bool (decide (x_1 > (1 : Int))) : AV) = .bool ((v_1 == (9 : Int)) && decide (x_1 > (1 : Int)))) an))⟩
      · refine aw_region [(3, { g := false }), (4, { g := false }), (5, { b := false })] [5, 6, 7, 8, 9, 10, 18, 19, 20] [] 0 (vals := [.int .u64 u_1, .int .i64 v_1, .int .u8 x_1, .sl false 1 (List.map (AV.int .u8) b_1), .int .i64 (((b_1).length : Nat) : Int), .int .i64 v_1, .tuple [], .tuple [], .bool false]) (bxs := []) (by kernel_rfl) hmix (ac gg_7 (ac gg_7 (ac gg_7 an))) ?_
        exact ⟨rfl, (sub_wkm [] [] [.s 5, .s 6, .s 7, .s 8, .s 9, .s 10, .a 20 (.bool ((v_1 == (9 : Int)) && decide (x_1 > (1 : Int))))] [] (by kernel_rfl) (ac (congrArg AV.bool (andf gg_7) : (.bool false : AV) = .bool ((v_1 == (9 : Int)) && decide (x_1 > (1 : Int)))) an))⟩
    refine aw_cond (t := 20) (b := ((v_1 == (9 : Int)) && decide (x_1 > (1 : Int)))) (by kernel_rfl) (by kernel_rfl) ?_ ?_
    · intro g_2; replace h := cond_t g_2 h
      refine aw_seq (by kernel_rfl) ?_
      refine aw_region [] [2, 3, 4] [] 0 (vals := [.int .i64 (0 : Int), .int .i64 (0 : Int), .int .i64 (10 : Int)]) (bxs := []) (by kernel_rfl) hmix an ?_
      refine aw_ret (by kernel_rfl) ?_
      replace h := Option.some.inj h; subst h
      exact ⟨rfl, Nat.le_of_ble_eq_true rfl, by kernel_rfl⟩
    intro g_2; replace h := cond_f g_2 h
    refine aw_skip (by kernel_rfl) ?_
    refine aw_seq (by kernel_rfl) ?_
    obtain ⟨_, h_3, h⟩ := bind_some h; replace h_3 := need_some h_3
    refine aw_region [] [5, 6, 7, 8, 9, 10] [] 0 (vals := [.int .u64 (ior .u64 u_1 (ishl .u64 (w_u64 (iand .u8 x_1 (127 : Int))) (w_i64 ((7 : Int) * v_1)))), .int .i64 v_1, .int .u8 x_1, .sl false 1 (List.map (AV.int .u8) b_1), .int .i64 (((b_1).length : Nat) : Int), .int .i64 v_1]) (bxs := []) (by kernel_rfl) hmix (ac h_3 an) ?_
    refine aw_seq (by kernel_rfl) ?_
    refine aw_seq (by kernel_rfl) ?_
    refine aw_region [] [5, 6, 7, 8, 9, 10, 30] [] 0 (vals := [.int .u64 (ior .u64 u_1 (ishl .u64 (w_u64 (iand .u8 x_1 (127 : Int))) (w_i64 ((7 : Int) * v_1)))), .int .i64 v_1, .int .u8 x_1, .sl false 1 (List.map (AV.int .u8) b_1), .int .i64 (((b_1).length : Nat) : Int), .int .i64 v_1, .bool (decide (x_1 ≥ (128 : Int)))]) (bxs := []) (by kernel_rfl) hmix an ?_
    refine aw_cond (t := 30) (b := (decide (x_1 ≥ (128 : Int)))) (by kernel_rfl) (by kernel_rfl) ?_ ?_
    · intro g_3; replace h := cond_t g_3 h
      refine aw_exit (id := 1) (by kernel_rfl) ?_
      refine aw_region [] [5, 8, 9, 10] [] 0 (vals := [.int .u64 (ior .u64 u_1 (ishl .u64 (w_u64 (iand .u8 x_1 (127 : Int))) (w_i64 ((7 : Int) * v_1)))), .sl false 1 (List.map (AV.int .u8) b_1), .int .i64 (((b_1).length : Nat) : Int), .int .i64 (w_i64 (v_1 + (1 : Int)))]) (bxs := []) (by kernel_rfl) hmix an ?_
      exact ⟨_, (sub_wkm [] [] [.s 5, .s 8, .s 9, .s 10] [] (by kernel_rfl) an), _, _, rfl, h⟩
    intro g_3; replace h := cond_f g_3 h
    refine aw_skip (by kernel_rfl) ?_
    refine aw_seq (by kernel_rfl) ?_
    refine aw_seq (by kernel_rfl) ?_
    refine aw_mid (mk [(5, .int .u64 (ior .u64 u_1 (ishl .u64 (w_u64 (iand .u8 x_1 (127 : Int))) (w_i64 ((7 : Int) * v_1))))), (6, .int .i64 v_1), (36, .bool ((x_1 == (0 : Int)) && decide (v_1 > (0 : Int))))] [] 0) ?_ ?_
    · rcases Bool.eq_false_or_eq_true (x_1 == (0 : Int)) with gg_8 | gg_8
      · refine aw_region [(5, { b := true })] [5, 6, 36] [] 0 (vals := [.int .u64 (ior .u64 u_1 (ishl .u64 (w_u64 (iand .u8 x_1 (127 : Int))) (w_i64 ((7 : Int) * v_1)))), .int .i64 v_1, .bool (decide (v_1 > (0 : Int)))]) (bxs := []) (by kernel_rfl) hmix (ac gg_8 (ac gg_8 (ac gg_8 an))) ?_
        exact ⟨rfl, (sub_wkm [] [] [.s 5, .s 6, .a 36 (.bool ((x_1 == (0 : Int)) && decide (v_1 > (0 : Int))))] [] (by kernel_rfl) (ac (congrArg AV.bool (andt gg_8 rfl) : (.bool (decide (v_1 > (0 : Int))) : AV) = .bool ((x_1 == (0 : Int)) && decide (v_1 > (0 : Int)))) an))⟩
      · refine aw_region [(3, { g := false }), (4, { g := false }), (5, { b := false })] [5, 6, 36] [] 0 (vals := [.int .u64 (ior .u64 u_1 (ishl .u64 (w_u64 (iand .u8 x_1 (127 : Int))) (w_i64 ((7 : Int) * v_1)))), .int .i64 v_1, .bool false]) (bxs := []) (by kernel_rfl) hmix (ac gg_8 (ac gg_8 (ac gg_8 an))) ?_
        exact ⟨rfl, (sub_wkm [] [] [.s 5, .s 6, .a 36 (.bool ((x_1 == (0 : Int)) && decide (v_1 > (0 : Int))))] [] (by kernel_rfl) (ac (congrArg AV.bool (andf gg_8) : (.bool false : AV) = .bool ((x_1 == (0 : Int)) && decide (v_1 > (0 : Int)))) an))⟩
    refine aw_cond (t := 36) (b := ((x_1 == (0 : Int)) && decide (v_1 > (0 : Int)))) (by kernel_rfl) (by kernel_rfl) ?_ ?_
    · intro g_4; replace h := cond_t g_4 h
      refine aw_seq (by kernel_rfl) ?_
      refine aw_region [] [2, 3, 4] [] 0 (vals := [.int .i64 (0 : Int), .int .i64 (0 : Int), .int .i64 (10 : Int)]) (bxs := []) (by kernel_rfl) hmix an ?_
      refine aw_ret (by kernel_rfl) ?_
      replace h := Option.some.inj h; subst h
      exact ⟨rfl, Nat.le_of_ble_eq_true rfl, by kernel_rfl⟩
    intro g_4; replace h := cond_f g_4 h
    refine aw_skip (by kernel_rfl) ?_
    refine aw_seq (by kernel_rfl) ?_
    obtain ⟨r_1, h_4, h⟩ := bind_some h
    refine aw_region [(1, { av := .int .i64 r_1, l := [.int .u64 (ior .u64 u_1 (ishl .u64 (w_u64 (iand .u8 x_1 (127 : Int))) (w_i64 ((7 : Int) * v_1))))] })] [2, 3, 4] [] 0 (vals := [.int .i64 r_1, .int .i64 (w_i64 (v_1 + (1 : Int))), .int .i64 (0 : Int)]) (bxs := []) (by kernel_rfl) hmix (ac (rfl : ([.int .u64 (ior .u64 u_1 (ishl .u64 (w_u64 (iand .u8 x_1 (127 : Int))) (w_i64 ((7 : Int) * v_1))))] : List AV) = [.int .u64 (ior .u64 u_1 (ishl .u64 (w_u64 (iand .u8 x_1 (127 : Int))) (w_i64 ((7 : Int) * v_1))))]) (ac (rfl : ([] : List BoxSt) = []) (ac (codec_integer_ok (ior .u64 u_1 (ishl .u64 (w_u64 (iand .u8 x_1 (127 : Int))) (w_i64 ((7 : Int) * v_1)))) r_1 h_4 : TripleG prog 63 [] [] [.int .u64 (ior .u64 u_1 (ishl .u64 (w_u64 (iand .u8 x_1 (127 : Int))) (w_i64 ((7 : Int) * v_1))))] [] (.int .i64 r_1)) an))) ?_
    refine aw_ret (by kernel_rfl) ?_
    replace h := Option.some.inj h; subst h
    exact ⟨rfl, Nat.le_of_ble_eq_true rfl, by kernel_rfl⟩
  intro e st1 hk
  rcases o_1 with q_1 | q_2
  rotate_left
  · obtain ⟨rfl, hf⟩ := hk
    replace h := Option.some.inj h; subst h
    exact ⟨st1, Sub.refl _ _, .inr rfl, hf⟩
  obtain ⟨rfl, hs⟩ := hk
  refine ⟨_, hs, ?_⟩
  refine aw_seq (by kernel_rfl) ?_
  refine aw_region [] [2, 3, 4] [] 0 (vals := [.int .i64 (0 : Int), .int .i64 (0 : Int), .int .i64 (8 : Int)]) (bxs := []) (by kernel_rfl) hmix an ?_
  refine aw_ret (by kernel_rfl) ?_
  replace h := Option.some.inj h; subst h
  exact ⟨.inr rfl, Nat.le_of_ble_eq_true rfl, by kernel_rfl⟩

end Go.Ab
