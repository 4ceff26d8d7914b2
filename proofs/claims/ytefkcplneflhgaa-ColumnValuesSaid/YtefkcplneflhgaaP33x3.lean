/- Printed: the typed Lean functions of the Go functions, or the proofs that the Go functions meet them. No conditions but those that the theorems name. -/
import Derived.Test.YtefkcplneflhgaaP33x2
namespace Go.Ab
open Go
set_option linter.unusedVariables false
theorem R05_Text_ok (F : Nat) (b_1 : List (Int)) (most_1 : Int) (r : (List Int) × Int × Int) (h : R05_Text F b_1 most_1 = some r) : TripleG prog 54 [] [] [.sl false 1 (List.map (AV.int .u8) b_1), .int .i64 most_1] [] (.tuple [.str r.1, .int .i64 r.2.1, .int .i64 r.2.2]) := by
  refine triple_intro (fn := Go.Proofs.Try.f54) (code := codeOf Go.Proofs.Try.f54) (by kernel_rfl) (by kernel_rfl) (Nat.le_of_ble_eq_true (by kernel_rfl)) ?_
  unfold R05_Text at h
  refine aw_seq (by kernel_rfl) ?_
  refine aw_region [] [0, 1] [] 0 (vals := [.sl false 1 (List.map (AV.int .u8) b_1), .int .i64 most_1]) (bxs := []) (by kernel_rfl) hmix an ?_
  refine aw_seq (by kernel_rfl) ?_
  obtain ⟨r_1, h_1, h⟩ := bind_some h
  refine aw_region [(1, { av := .tuple [.int .i64 r_1.1, .int .i64 r_1.2.1, .int .i64 r_1.2.2], l := [.sl false 1 (List.map (AV.int .u8) b_1)] })] [0, 1, 7, 8, 9] [] 0 (vals := [.sl false 1 (List.map (AV.int .u8) b_1), .int .i64 most_1, .int .i64 r_1.1, .int .i64 r_1.2.1, .int .i64 r_1.2.2]) (bxs := []) (by kernel_rfl) hmix (ac (rfl : ([.sl false 1 (List.map (AV.int .u8) b_1)] : List AV) = [.sl false 1 (List.map (AV.int .u8) b_1)]) (ac (rfl : ([] : List BoxSt) = []) (ac (R05_Int_ok F b_1 r_1 h_1 : TripleG prog 43 [] [] [.sl false 1 (List.map (AV.int .u8) b_1)] [] (.tuple [.int .i64 r_1.1, .int .i64 r_1.2.1, .int .i64 r_1.2.2])) an))) ?_
  refine aw_seq (by kernel_rfl) ?_
  refine aw_block (id := 0) (by kernel_rfl) ?_
  refine aw_seq (by kernel_rfl) ?_
  refine aw_region [] [0, 1, 7, 8, 9, 16] [] 0 (vals := [.sl false 1 (List.map (AV.int .u8) b_1), .int .i64 most_1, .int .i64 r_1.1, .int .i64 r_1.2.1, .int .i64 r_1.2.2, .bool (r_1.2.2 != (0 : Int))]) (bxs := []) (by kernel_rfl) hmix an ?_
  refine aw_cond (t := 16) (b := (r_1.2.2 != (0 : Int))) (by kernel_rfl) (by kernel_rfl) ?_ ?_
  · intro g_1; replace h := cond_t g_1 h
    refine aw_seq (by kernel_rfl) ?_
    refine aw_region [] [4, 5, 6] [] 0 (vals := [.str ([] : List Int), .int .i64 (0 : Int), .int .i64 r_1.2.2]) (bxs := []) (by kernel_rfl) hmix an ?_
    refine aw_ret (by kernel_rfl) ?_
    replace h := Option.some.inj h; subst h
    exact ⟨.inr rfl, Nat.le_of_ble_eq_true rfl, by kernel_rfl⟩
  intro g_1; replace h := cond_f g_1 h
  refine aw_seq (by kernel_rfl) ?_
  refine aw_region [] [0, 1, 7, 8, 20] [] 0 (vals := [.sl false 1 (List.map (AV.int .u8) b_1), .int .i64 most_1, .int .i64 r_1.1, .int .i64 r_1.2.1, .bool (decide (r_1.1 < (0 : Int)))]) (bxs := []) (by kernel_rfl) hmix an ?_
  refine aw_cond (t := 20) (b := (decide (r_1.1 < (0 : Int)))) (by kernel_rfl) (by kernel_rfl) ?_ ?_
  · intro g_2; replace h := cond_t g_2 h
    refine aw_seq (by kernel_rfl) ?_
    refine aw_region [] [4, 5, 6] [] 0 (vals := [.str ([] : List Int), .int .i64 (0 : Int), .int .i64 (10 : Int)]) (bxs := []) (by kernel_rfl) hmix an ?_
    refine aw_ret (by kernel_rfl) ?_
    replace h := Option.some.inj h; subst h
    exact ⟨.inr rfl, Nat.le_of_ble_eq_true rfl, by kernel_rfl⟩
  intro g_2; replace h := cond_f g_2 h
  refine aw_seq (by kernel_rfl) ?_
  refine aw_region [] [0, 7, 8, 23] [] 0 (vals := [.sl false 1 (List.map (AV.int .u8) b_1), .int .i64 r_1.1, .int .i64 r_1.2.1, .bool (decide (r_1.1 > most_1))]) (bxs := []) (by kernel_rfl) hmix an ?_
  refine aw_cond (t := 23) (b := (decide (r_1.1 > most_1))) (by kernel_rfl) (by kernel_rfl) ?_ ?_
  · intro g_3; replace h := cond_t g_3 h
    refine aw_seq (by kernel_rfl) ?_
    refine aw_region [] [4, 5, 6] [] 0 (vals := [.str ([] : List Int), .int .i64 (0 : Int), .int .i64 (7 : Int)]) (bxs := []) (by kernel_rfl) hmix an ?_
    refine aw_ret (by kernel_rfl) ?_
    replace h := Option.some.inj h; subst h
    exact ⟨.inr rfl, Nat.le_of_ble_eq_true rfl, by kernel_rfl⟩
  intro g_3; replace h := cond_f g_3 h
  refine aw_seq (by kernel_rfl) ?_
  refine aw_region [(2, { n := (b_1).length })] [0, 7, 8, 27] [] 0 (vals := [.sl false 1 (List.map (AV.int .u8) b_1), .int .i64 r_1.1, .int .i64 r_1.2.1, .bool (decide (r_1.1 > (w_i64 ((((b_1).length : Nat) : Int) - r_1.2.1))))]) (bxs := []) (by kernel_rfl) hmix (ac (vc_len _ : ((List.map (AV.int .u8) b_1)).length = (b_1).length) an) ?_
  refine aw_cond (t := 27) (b := (decide (r_1.1 > (w_i64 ((((b_1).length : Nat) : Int) - r_1.2.1))))) (by kernel_rfl) (by kernel_rfl) ?_ ?_
  · intro g_4; replace h := cond_t g_4 h
    refine aw_seq (by kernel_rfl) ?_
    refine aw_region [] [4, 5, 6] [] 0 (vals := [.str ([] : List Int), .int .i64 (0 : Int), .int .i64 (8 : Int)]) (bxs := []) (by kernel_rfl) hmix an ?_
    refine aw_ret (by kernel_rfl) ?_
    replace h := Option.some.inj h; subst h
    exact ⟨.inr rfl, Nat.le_of_ble_eq_true rfl, by kernel_rfl⟩
  intro g_4; replace h := cond_f g_4 h
  refine aw_skip (by kernel_rfl) ?_
  refine aw_seq (by kernel_rfl) ?_
  obtain ⟨_, h_2, h⟩ := bind_some h; replace h_2 := need_some h_2
  refine aw_region [(5, { l := (List.map (AV.int .u8) (sub b_1 r_1.2.1 (w_i64 (r_1.2.1 + r_1.1)))) }), (6, { s := sub b_1 r_1.2.1 (w_i64 (r_1.2.1 + r_1.1)) })] [4, 5, 6] [] 0 (vals := [.str (sub b_1 r_1.2.1 (w_i64 (r_1.2.1 + r_1.1))), .int .i64 (w_i64 (r_1.2.1 + r_1.1)), .int .i64 (0 : Int)]) (bxs := []) (by kernel_rfl) hmix (ac h_2.1 (ac h_2.2.1 (ac (vc_lenle h_2.2.2 : (w_i64 (r_1.2.1 + r_1.1)) ≤ ((((List.map (AV.int .u8) b_1)).length : Nat) : Int)) (ac (vc_sub _ _ _ : (List.map (AV.int .u8) (sub b_1 r_1.2.1 (w_i64 (r_1.2.1 + r_1.1)))) = (((List.map (AV.int .u8) b_1)).take (w_i64 (r_1.2.1 + r_1.1)).toNat).drop (r_1.2.1).toNat) (ac (rfl : (List.map (AV.int .u8) (sub b_1 r_1.2.1 (w_i64 (r_1.2.1 + r_1.1)))) = List.map (AV.int .u8) (sub b_1 r_1.2.1 (w_i64 (r_1.2.1 + r_1.1)))) an))))) ?_
  refine aw_ret (by kernel_rfl) ?_
  replace h := Option.some.inj h; subst h
  exact ⟨.inr rfl, Nat.le_of_ble_eq_true rfl, by kernel_rfl⟩

theorem R33_value_ok (F : Nat) (b_1 : List (Int)) (r : T_api_Value × Int) (h : R33_value F b_1 = some r) : TripleG prog 44 [] [] [.sl false 1 (List.map (AV.int .u8) b_1)] [] (.tuple [e_T_api_Value r.1, .int .i64 r.2]) := by
  refine triple_intro (fn := Go.Proofs.Try.f44) (code := codeOf Go.Proofs.Try.f44) (by kernel_rfl) (by kernel_rfl) (Nat.le_of_ble_eq_true (by kernel_rfl)) ?_
  unfold R33_value at h
  refine aw_seq (by kernel_rfl) ?_
  refine aw_region [(0, { id := 0 })] [0, 2] [0] 1 (vals := [.sl false 1 (List.map (AV.int .u8) b_1), .ptr 0 0 0 0]) (bxs := [.live (.var 24 [.int .i64 (0 : Int), .int .i64 (0 : Int), .str ([] : List Int)])]) (by kernel_rfl) hmix an ?_
  refine aw_seq (by kernel_rfl) ?_
  refine aw_seq (by kernel_rfl) ?_
  obtain ⟨p_1, h_2, h⟩ := bind_some h
  refine aw_mid (mk [(0, .sl false 1 (List.map (AV.int .u8) b_1)), (2, .ptr 0 0 0 0), (19, .bool p_1)] [(0, .live (.var 24 [.int .i64 (0 : Int), .int .i64 (0 : Int), .str ([] : List Int)]))] 1) ?_ ?_
  · replace h := h_2
    rcases Bool.eq_false_or_eq_true ((((b_1).length : Nat) : Int) == (0 : Int)) with gg_1 | gg_1
    · replace h := cond_t gg_1 h
      refine aw_region [(1, { n := (b_1).length }), (4, { g := false }), (5, { g := false }), (6, { g := false }), (7, { g := false }), (8, { b := true })] [0, 2, 19] [0] 1 (vals := [.sl false 1 (List.map (AV.int .u8) b_1), .ptr 0 0 0 0, .bool true]) (bxs := [.live (.var 24 [.int .i64 (0 : Int), .int .i64 (0 : Int), .str ([] : List Int)])]) (by kernel_rfl) hmix (ac (vc_len _ : ((List.map (AV.int .u8) b_1)).length = (b_1).length) (ac gg_1 (ac gg_1 (ac gg_1 (ac gg_1 (ac gg_1 an)))))) ?_
      replace h := Option.some.inj h; subst h
      exact ⟨rfl, (sub_wkm [0] [] [.s 0, .s 2, .s 19] [.s 0] (by kernel_rfl) an)⟩
    · replace h := cond_f gg_1 h
      obtain ⟨x_1, h_1, h⟩ := bind_some h
      refine aw_region [(1, { n := (b_1).length }), (5, { av := .int .u8 x_1 }), (8, { b := false })] [0, 2, 19] [0] 1 (vals := [.sl false 1 (List.map (AV.int .u8) b_1), .ptr 0 0 0 0, .bool (decide (x_1 > (3 : Int)))]) (bxs := [.live (.var 24 [.int .i64 (0 : Int), .int .i64 (0 : Int), .str ([] : List Int)])]) (by kernel_rfl) hmix (ac (vc_len _ : ((List.map (AV.int .u8) b_1)).length = (b_1).length) (ac gg_1 (ac gg_1 (ac (vc_idx h_1 : idxA (List.map (AV.int .u8) b_1) (0 : Int) = some (.int .u8 x_1)) (ac gg_1 (ac gg_1 (ac gg_1 an))))))) ?_
      replace h := Option.some.inj h; subst h
      exact ⟨rfl, (sub_wkm [0] [] [.s 0, .s 2, .s 19] [.s 0] (by kernel_rfl) an)⟩
  refine aw_cond (t := 19) (b := p_1) (by kernel_rfl) (by kernel_rfl) ?_ ?_
  · intro g_1; replace h := cond_t g_1 h
    refine aw_seq (by kernel_rfl) ?_
    refine aw_region [] [2, 3] [0] 1 (vals := [.ptr 0 0 0 0, .int .i64 (0 : Int)]) (bxs := [.live (.var 24 [.int .i64 (0 : Int), .int .i64 (0 : Int), .str ([] : List Int)])]) (by kernel_rfl) hmix an ?_
    refine aw_sub (sub_wkm [0] [] [.s 2, .s 3] [.a 0 (.live (.var 24 (v_T_api_Value (⟨(0 : Int), (0 : Int), ([] : List Int)⟩ : T_api_Value))))] (sl2 := [(2, .ptr 0 0 0 0), (3, .int .i64 (0 : Int))]) (bx2 := [(0, .live (.var 24 (v_T_api_Value (⟨(0 : Int), (0 : Int), ([] : List Int)⟩ : T_api_Value))))]) (by kernel_rfl) (ac (rfl : 24 = 24) (ac (rfl : ones [.int .i64 ((⟨(0 : Int), (0 : Int), ([] : List Int)⟩ : T_api_Value).Kind), .int .i64 ((⟨(0 : Int), (0 : Int), ([] : List Int)⟩ : T_api_Value).N), .str ((⟨(0 : Int), (0 : Int), ([] : List Int)⟩ : T_api_Value).S)] = true) (ac (rfl : (.int .i64 (0 : Int) : AV) = .int .i64 ((⟨(0 : Int), (0 : Int), ([] : List Int)⟩ : T_api_Value).Kind)) (ac (rfl : (.int .i64 (0 : Int) : AV) = .int .i64 ((⟨(0 : Int), (0 : Int), ([] : List Int)⟩ : T_api_Value).N)) (ac (rfl : (.str ([] : List Int) : AV) = .str ((⟨(0 : Int), (0 : Int), ([] : List Int)⟩ : T_api_Value).S)) an)))))) ?_
    refine aw_ret (by kernel_rfl) ?_
    replace h := Option.some.inj h; subst h
    exact ⟨.inr rfl, Nat.le_of_ble_eq_true rfl, by kernel_rfl⟩
  intro g_1; replace h := cond_f g_1 h
  refine aw_skip (by kernel_rfl) ?_
  refine aw_seq (by kernel_rfl) ?_
  obtain ⟨x_2, h_3, h⟩ := bind_some h
  refine aw_region [(1, { av := .int .u8 x_2 }), (5, { id := 1 })] [0, 2, 4] [0, 1] 2 (vals := [.sl false 1 (List.map (AV.int .u8) b_1), .ptr 0 0 0 0, .ptr 1 0 0 0]) (bxs := [.live (.var 24 [.int .i64 (0 : Int), .int .i64 (0 : Int), .str ([] : List Int)]), .live (.var 24 [.int .i64 (w_i64 x_2), .int .i64 (0 : Int), .str ([] : List Int)])]) (by kernel_rfl) hmix (ac (vc_idx h_3 : idxA (List.map (AV.int .u8) b_1) (0 : Int) = some (.int .u8 x_2)) an) ?_
  refine aw_seq (by kernel_rfl) ?_
  refine aw_seq (by kernel_rfl) ?_
  refine aw_region [] [0, 2, 4, 28] [0, 1] 2 (vals := [.sl false 1 (List.map (AV.int .u8) b_1), .ptr 0 0 0 0, .ptr 1 0 0 0, .bool ((w_i64 x_2) == (0 : Int))]) (bxs := [.live (.var 24 [.int .i64 (0 : Int), .int .i64 (0 : Int), .str ([] : List Int)]), .live (.var 24 [.int .i64 (w_i64 x_2), .int .i64 (0 : Int), .str ([] : List Int)])]) (by kernel_rfl) hmix an ?_
  refine aw_cond (t := 28) (b := ((w_i64 x_2) == (0 : Int))) (by kernel_rfl) (by kernel_rfl) ?_ ?_
  · intro g_2; replace h := cond_t g_2 h
    refine aw_seq (by kernel_rfl) ?_
    refine aw_region [] [2, 3] [0] 2 (vals := [.ptr 0 0 0 0, .int .i64 (1 : Int)]) (bxs := [.live (.var 24 [.int .i64 (w_i64 x_2), .int .i64 (0 : Int), .str ([] : List Int)])]) (by kernel_rfl) hmix an ?_
    refine aw_sub (sub_wkm [0] [] [.s 2, .s 3] [.a 0 (.live (.var 24 (v_T_api_Value (⟨w_i64 x_2, (0 : Int), ([] : List Int)⟩ : T_api_Value))))] (sl2 := [(2, .ptr 0 0 0 0), (3, .int .i64 (1 : Int))]) (bx2 := [(0, .live (.var 24 (v_T_api_Value (⟨w_i64 x_2, (0 : Int), ([] : List Int)⟩ : T_api_Value))))]) (by kernel_rfl) (ac (rfl : 24 = 24) (ac (rfl : ones [.int .i64 ((⟨w_i64 x_2, (0 : Int), ([] : List Int)⟩ : T_api_Value).Kind), .int .i64 ((⟨w_i64 x_2, (0 : Int), ([] : List Int)⟩ : T_api_Value).N), .str ((⟨w_i64 x_2, (0 : Int), ([] : List Int)⟩ : T_api_Value).S)] = true) (ac (rfl : (.int .i64 (w_i64 x_2) : AV) = .int .i64 ((⟨w_i64 x_2, (0 : Int), ([] : List Int)⟩ : T_api_Value).Kind)) (ac (rfl : (.int .i64 (0 : Int) : AV) = .int .i64 ((⟨w_i64 x_2, (0 : Int), ([] : List Int)⟩ : T_api_Value).N)) (ac (rfl : (.str ([] : List Int) : AV) = .str ((⟨w_i64 x_2, (0 : Int), ([] : List Int)⟩ : T_api_Value).S)) an)))))) ?_
    refine aw_ret (by kernel_rfl) ?_
    replace h := Option.some.inj h; subst h
    exact ⟨.inr rfl, Nat.le_of_ble_eq_true rfl, by kernel_rfl⟩
  intro g_2; replace h := cond_f g_2 h
  refine aw_skip (by kernel_rfl) ?_
  refine aw_seq (by kernel_rfl) ?_
  refine aw_seq (by kernel_rfl) ?_
  refine aw_region [] [0, 2, 4, 32] [0, 1] 2 (vals := [.sl false 1 (List.map (AV.int .u8) b_1), .ptr 0 0 0 0, .ptr 1 0 0 0, .bool ((w_i64 x_2) == (3 : Int))]) (bxs := [.live (.var 24 [.int .i64 (0 : Int), .int .i64 (0 : Int), .str ([] : List Int)]), .live (.var 24 [.int .i64 (w_i64 x_2), .int .i64 (0 : Int), .str ([] : List Int)])]) (by kernel_rfl) hmix an ?_
  refine aw_cond (t := 32) (b := ((w_i64 x_2) == (3 : Int))) (by kernel_rfl) (by kernel_rfl) ?_ ?_
  · intro g_3; replace h := cond_t g_3 h
    refine aw_seq (by kernel_rfl) ?_
    obtain ⟨_, h_4, h⟩ := bind_some h; replace h_4 := need_some h_4
    obtain ⟨r_1, h_5, h⟩ := bind_some h
    refine aw_region [(1, { l := (List.map (AV.int .u8) (sub b_1 (1 : Int) (((b_1).length : Nat) : Int))) }), (2, { av := .tuple [.str r_1.1, .int .i64 r_1.2.1, .int .i64 r_1.2.2], l := [.sl false 1 (List.map (AV.int .u8) (sub b_1 (1 : Int) (((b_1).length : Nat) : Int))), .int .i64 (200 : Int)] })] [2, 4, 5, 6, 7] [0, 1] 2 (vals := [.ptr 0 0 0 0, .ptr 1 0 0 0, .str r_1.1, .int .i64 r_1.2.1, .int .i64 r_1.2.2]) (bxs := [.live (.var 24 [.int .i64 (0 : Int), .int .i64 (0 : Int), .str ([] : List Int)]), .live (.var 24 [.int .i64 (w_i64 x_2), .int .i64 (0 : Int), .str ([] : List Int)])]) (by kernel_rfl) hmix (ac (by decide : (0 : Int) ≤ (1 : Int)) (ac (vc_lenle h_4 : (1 : Int) ≤ ((((List.map (AV.int .u8) b_1)).length : Nat) : Int)) (ac (Int.le_refl _ : ((((List.map (AV.int .u8) b_1)).length : Nat) : Int) ≤ ((((List.map (AV.int .u8) b_1)).length : Nat) : Int)) (ac (vc_subn _ _ : (List.map (AV.int .u8) (sub b_1 (1 : Int) (((b_1).length : Nat) : Int))) = (((List.map (AV.int .u8) b_1)).take (((((List.map (AV.int .u8) b_1)).length : Nat) : Int)).toNat).drop ((1 : Int)).toNat) (ac (rfl : ([.sl false 1 (List.map (AV.int .u8) (sub b_1 (1 : Int) (((b_1).length : Nat) : Int))), .int .i64 (200 : Int)] : List AV) = [.sl false 1 (List.map (AV.int .u8) (sub b_1 (1 : Int) (((b_1).length : Nat) : Int))), .int .i64 (200 : Int)]) (ac (rfl : ([] : List BoxSt) = []) (ac (R05_Text_ok F (sub b_1 (1 : Int) (((b_1).length : Nat) : Int)) (200 : Int) r_1 h_5 : TripleG prog 54 [] [] [.sl false 1 (List.map (AV.int .u8) (sub b_1 (1 : Int) (((b_1).length : Nat) : Int))), .int .i64 (200 : Int)] [] (.tuple [.str r_1.1, .int .i64 r_1.2.1, .int .i64 r_1.2.2])) an))))))) ?_
    refine aw_seq (by kernel_rfl) ?_
    refine aw_region [] [2, 4, 6, 7] [0, 1] 2 (vals := [.ptr 0 0 0 0, .ptr 1 0 0 0, .int .i64 r_1.2.1, .int .i64 r_1.2.2]) (bxs := [.live (.var 24 [.int .i64 (0 : Int), .int .i64 (0 : Int), .str ([] : List Int)]), .live (.var 24 [.int .i64 (w_i64 x_2), .int .i64 (0 : Int), .str r_1.1])]) (by kernel_rfl) hmix an ?_
    refine aw_seq (by kernel_rfl) ?_
    refine aw_seq (by kernel_rfl) ?_
    refine aw_region [] [2, 4, 6, 43] [0, 1] 2 (vals := [.ptr 0 0 0 0, .ptr 1 0 0 0, .int .i64 r_1.2.1, .bool (r_1.2.2 != (0 : Int))]) (bxs := [.live (.var 24 [.int .i64 (0 : Int), .int .i64 (0 : Int), .str ([] : List Int)]), .live (.var 24 [.int .i64 (w_i64 x_2), .int .i64 (0 : Int), .str r_1.1])]) (by kernel_rfl) hmix an ?_
    refine aw_cond (t := 43) (b := (r_1.2.2 != (0 : Int))) (by kernel_rfl) (by kernel_rfl) ?_ ?_
    · intro g_4; replace h := cond_t g_4 h
      refine aw_seq (by kernel_rfl) ?_
      refine aw_region [] [2, 3] [0] 2 (vals := [.ptr 0 0 0 0, .int .i64 (0 : Int)]) (bxs := [.live (.var 24 [.int .i64 (0 : Int), .int .i64 (0 : Int), .str ([] : List Int)])]) (by kernel_rfl) hmix an ?_
      refine aw_sub (sub_wkm [0] [] [.s 2, .s 3] [.a 0 (.live (.var 24 (v_T_api_Value (⟨(0 : Int), (0 : Int), ([] : List Int)⟩ : T_api_Value))))] (sl2 := [(2, .ptr 0 0 0 0), (3, .int .i64 (0 : Int))]) (bx2 := [(0, .live (.var 24 (v_T_api_Value (⟨(0 : Int), (0 : Int), ([] : List Int)⟩ : T_api_Value))))]) (by kernel_rfl) (ac (rfl : 24 = 24) (ac (rfl : ones [.int .i64 ((⟨(0 : Int), (0 : Int), ([] : List Int)⟩ : T_api_Value).Kind), .int .i64 ((⟨(0 : Int), (0 : Int), ([] : List Int)⟩ : T_api_Value).N), .str ((⟨(0 : Int), (0 : Int), ([] : List Int)⟩ : T_api_Value).S)] = true) (ac (rfl : (.int .i64 (0 : Int) : AV) = .int .i64 ((⟨(0 : Int), (0 : Int), ([] : List Int)⟩ : T_api_Value).Kind)) (ac (rfl : (.int .i64 (0 : Int) : AV) = .int .i64 ((⟨(0 : Int), (0 : Int), ([] : List Int)⟩ : T_api_Value).N)) (ac (rfl : (.str ([] : List Int) : AV) = .str ((⟨(0 : Int), (0 : Int), ([] : List Int)⟩ : T_api_Value).S)) an)))))) ?_
      refine aw_ret (by kernel_rfl) ?_
      replace h := Option.some.inj h; subst h
      exact ⟨.inr rfl, Nat.le_of_ble_eq_true rfl, by kernel_rfl⟩
    intro g_4; replace h := cond_f g_4 h
    refine aw_skip (by kernel_rfl) ?_
    refine aw_seq (by kernel_rfl) ?_
    refine aw_region [] [2, 3] [0] 2 (vals := [.ptr 0 0 0 0, .int .i64 (w_i64 (r_1.2.1 + (1 : Int)))]) (bxs := [.live (.var 24 [.int .i64 (w_i64 x_2), .int .i64 (0 : Int), .str r_1.1])]) (by kernel_rfl) hmix an ?_
    refine aw_sub (sub_wkm [0] [] [.s 2, .s 3] [.a 0 (.live (.var 24 (v_T_api_Value (⟨w_i64 x_2, (0 : Int), r_1.1⟩ : T_api_Value))))] (sl2 := [(2, .ptr 0 0 0 0), (3, .int .i64 (w_i64 (r_1.2.1 + (1 : Int))))]) (bx2 := [(0, .live (.var 24 (v_T_api_Value (⟨w_i64 x_2, (0 : Int), r_1.1⟩ : T_api_Value))))]) (by kernel_rfl) (ac (rfl : 24 = 24) (ac (rfl : ones [.int .i64 ((⟨w_i64 x_2, (0 : Int), r_1.1⟩ : T_api_Value).Kind), .int .i64 ((⟨w_i64 x_2, (0 : Int), r_1.1⟩ : T_api_Value).N), .str ((⟨w_i64 x_2, (0 : Int), r_1.1⟩ : T_api_Value).S)] = true) (ac (rfl : (.int .i64 (w_i64 x_2) : AV) = .int .i64 ((⟨w_i64 x_2, (0 : Int), r_1.1⟩ : T_api_Value).Kind)) (ac (rfl : (.int .i64 (0 : Int) : AV) = .int .i64 ((⟨w_i64 x_2, (0 : Int), r_1.1⟩ : T_api_Value).N)) (ac (rfl : (.str r_1.1 : AV) = .str ((⟨w_i64 x_2, (0 : Int), r_1.1⟩ : T_api_Value).S)) an)))))) ?_
    refine aw_ret (by kernel_rfl) ?_
    replace h := Option.some.inj h; subst h
    exact ⟨.inr rfl, Nat.le_of_ble_eq_true rfl, by kernel_rfl⟩
  intro g_3; replace h := cond_f g_3 h
  refine aw_skip (by kernel_rfl) ?_
  refine aw_seq (by kernel_rfl) ?_
  obtain ⟨_, h_6, h⟩ := bind_some h; replace h_6 := need_some h_6
  obtain ⟨r_2, h_7, h⟩ := bind_some h
  refine aw_region [(1, { l := (List.map (AV.int .u8) (sub b_1 (1 : Int) (((b_1).length : Nat) : Int))) }), (2, { av := .tuple [.int .i64 r_2.1, .int .i64 r_2.2.1, .int .i64 r_2.2.2], l := [.sl false 1 (List.map (AV.int .u8) (sub b_1 (1 : Int) (((b_1).length : Nat) : Int)))] })] [2, 4, 8, 9, 10] [0, 1] 2 (vals := [.ptr 0 0 0 0, .ptr 1 0 0 0, .int .i64 r_2.1, .int .i64 r_2.2.1, .int .i64 r_2.2.2]) (bxs := [.live (.var 24 [.int .i64 (0 : Int), .int .i64 (0 : Int), .str ([] : List Int)]), .live (.var 24 [.int .i64 (w_i64 x_2), .int .i64 (0 : Int), .str ([] : List Int)])]) (by kernel_rfl) hmix (ac (by decide : (0 : Int) ≤ (1 : Int)) (ac (vc_lenle h_6 : (1 : Int) ≤ ((((List.map (AV.int .u8) b_1)).length : Nat) : Int)) (ac (Int.le_refl _ : ((((List.map (AV.int .u8) b_1)).length : Nat) : Int) ≤ ((((List.map (AV.int .u8) b_1)).length : Nat) : Int)) (ac (vc_subn _ _ : (List.map (AV.int .u8) (sub b_1 (1 : Int) (((b_1).length : Nat) : Int))) = (((List.map (AV.int .u8) b_1)).take (((((List.map (AV.int .u8) b_1)).length : Nat) : Int)).toNat).drop ((1 : Int)).toNat) (ac (rfl : ([.sl false 1 (List.map (AV.int .u8) (sub b_1 (1 : Int) (((b_1).length : Nat) : Int)))] : List AV) = [.sl false 1 (List.map (AV.int .u8) (sub b_1 (1 : Int) (((b_1).length : Nat) : Int)))]) (ac (rfl : ([] : List BoxSt) = []) (ac (R05_Int_ok F (sub b_1 (1 : Int) (((b_1).length : Nat) : Int)) r_2 h_7 : TripleG prog 43 [] [] [.sl false 1 (List.map (AV.int .u8) (sub b_1 (1 : Int) (((b_1).length : Nat) : Int)))] [] (.tuple [.int .i64 r_2.1, .int .i64 r_2.2.1, .int .i64 r_2.2.2])) an))))))) ?_
  refine aw_seq (by kernel_rfl) ?_
  refine aw_region [] [2, 4, 9, 10] [0, 1] 2 (vals := [.ptr 0 0 0 0, .ptr 1 0 0 0, .int .i64 r_2.2.1, .int .i64 r_2.2.2]) (bxs := [.live (.var 24 [.int .i64 (0 : Int), .int .i64 (0 : Int), .str ([] : List Int)]), .live (.var 24 [.int .i64 (w_i64 x_2), .int .i64 r_2.1, .str ([] : List Int)])]) (by kernel_rfl) hmix an ?_
  refine aw_seq (by kernel_rfl) ?_
  refine aw_seq (by kernel_rfl) ?_
  refine aw_region [] [2, 4, 9, 58] [0, 1] 2 (vals := [.ptr 0 0 0 0, .ptr 1 0 0 0, .int .i64 r_2.2.1, .bool (r_2.2.2 != (0 : Int))]) (bxs := [.live (.var 24 [.int .i64 (0 : Int), .int .i64 (0 : Int), .str ([] : List Int)]), .live (.var 24 [.int .i64 (w_i64 x_2), .int .i64 r_2.1, .str ([] : List Int)])]) (by kernel_rfl) hmix an ?_
  refine aw_cond (t := 58) (b := (r_2.2.2 != (0 : Int))) (by kernel_rfl) (by kernel_rfl) ?_ ?_
  · intro g_5; replace h := cond_t g_5 h
    refine aw_seq (by kernel_rfl) ?_
    refine aw_region [] [2, 3] [0] 2 (vals := [.ptr 0 0 0 0, .int .i64 (0 : Int)]) (bxs := [.live (.var 24 [.int .i64 (0 : Int), .int .i64 (0 : Int), .str ([] : List Int)])]) (by kernel_rfl) hmix an ?_
    refine aw_sub (sub_wkm [0] [] [.s 2, .s 3] [.a 0 (.live (.var 24 (v_T_api_Value (⟨(0 : Int), (0 : Int), ([] : List Int)⟩ : T_api_Value))))] (sl2 := [(2, .ptr 0 0 0 0), (3, .int .i64 (0 : Int))]) (bx2 := [(0, .live (.var 24 (v_T_api_Value (⟨(0 : Int), (0 : Int), ([] : List Int)⟩ : T_api_Value))))]) (by kernel_rfl) (ac (rfl : 24 = 24) (ac (rfl : ones [.int .i64 ((⟨(0 : Int), (0 : Int), ([] : List Int)⟩ : T_api_Value).Kind), .int .i64 ((⟨(0 : Int), (0 : Int), ([] : List Int)⟩ : T_api_Value).N), .str ((⟨(0 : Int), (0 : Int), ([] : List Int)⟩ : T_api_Value).S)] = true) (ac (rfl : (.int .i64 (0 : Int) : AV) = .int .i64 ((⟨(0 : Int), (0 : Int), ([] : List Int)⟩ : T_api_Value).Kind)) (ac (rfl : (.int .i64 (0 : Int) : AV) = .int .i64 ((⟨(0 : Int), (0 : Int), ([] : List Int)⟩ : T_api_Value).N)) (ac (rfl : (.str ([] : List Int) : AV) = .str ((⟨(0 : Int), (0 : Int), ([] : List Int)⟩ : T_api_Value).S)) an)))))) ?_
    refine aw_ret (by kernel_rfl) ?_
    replace h := Option.some.inj h; subst h
    exact ⟨.inr rfl, Nat.le_of_ble_eq_true rfl, by kernel_rfl⟩
  intro g_5; replace h := cond_f g_5 h
  refine aw_skip (by kernel_rfl) ?_
  refine aw_seq (by kernel_rfl) ?_
  refine aw_region [] [2, 3] [0] 2 (vals := [.ptr 0 0 0 0, .int .i64 (w_i64 (r_2.2.1 + (1 : Int)))]) (bxs := [.live (.var 24 [.int .i64 (w_i64 x_2), .int .i64 r_2.1, .str ([] : List Int)])]) (by kernel_rfl) hmix an ?_
  refine aw_sub (sub_wkm [0] [] [.s 2, .s 3] [.a 0 (.live (.var 24 (v_T_api_Value (⟨w_i64 x_2, r_2.1, ([] : List Int)⟩ : T_api_Value))))] (sl2 := [(2, .ptr 0 0 0 0), (3, .int .i64 (w_i64 (r_2.2.1 + (1 : Int))))]) (bx2 := [(0, .live (.var 24 (v_T_api_Value (⟨w_i64 x_2, r_2.1, ([] : List Int)⟩ : T_api_Value))))]) (by kernel_rfl) (ac (rfl : 24 = 24) (ac (rfl : ones [.int .i64 ((⟨w_i64 x_2, r_2.1, ([] : List Int)⟩ : T_api_Value).Kind), .int .i64 ((⟨w_i64 x_2, r_2.1, ([] : List Int)⟩ : T_api_Value).N), .str ((⟨w_i64 x_2, r_2.1, ([] : List Int)⟩ : T_api_Value).S)] = true) (ac (rfl : (.int .i64 (w_i64 x_2) : AV) = .int .i64 ((⟨w_i64 x_2, r_2.1, ([] : List Int)⟩ : T_api_Value).Kind)) (ac (rfl : (.int .i64 r_2.1 : AV) = .int .i64 ((⟨w_i64 x_2, r_2.1, ([] : List Int)⟩ : T_api_Value).N)) (ac (rfl : (.str ([] : List Int) : AV) = .str ((⟨w_i64 x_2, r_2.1, ([] : List Int)⟩ : T_api_Value).S)) an)))))) ?_
  refine aw_ret (by kernel_rfl) ?_
  replace h := Option.some.inj h; subst h
  exact ⟨.inr rfl, Nat.le_of_ble_eq_true rfl, by kernel_rfl⟩

theorem R33_unpack_ok (F : Nat) (p_1 : T_api_Packed) (r : (List (T_api_Value))) (h : R33_unpack F p_1 = some r) : TripleG prog 33 [] [] [e_T_api_Packed p_1] [.row 24 3 (List.map e_T_api_Value r)] (.own 0 ((r).length)) := by
  refine triple_intro (fn := Go.Proofs.Try.f33) (code := codeOf Go.Proofs.Try.f33) (by kernel_rfl) (by kernel_rfl) (Nat.le_of_ble_eq_true (by kernel_rfl)) ?_
  unfold R33_unpack at h
  refine aw_seq (by kernel_rfl) ?_
  refine aw_region [(0, { id := 0 }), (1, { id := 1, m := 1 })] [1] [0] 2 (vals := [.ptr 0 0 0 0]) (bxs := [.live (.var 33 (v_T_api_Packed p_1))]) (by kernel_rfl) hmix an ?_
  refine aw_seq (by kernel_rfl) ?_
  refine aw_region [(0, { id := 2, m := 1 })] [1, 3] [0, 2] 3 (vals := [.ptr 0 0 0 0, .own 2 0]) (bxs := [.live (.var 33 (v_T_api_Packed p_1)), .live (.row 24 3 [])]) (by kernel_rfl) hmix an ?_
  refine aw_seq (by kernel_rfl) ?_
  refine aw_region [(0, { id := 3, m := 1 })] [1, 3, 4] [0, 2, 3] 4 (vals := [.ptr 0 0 0 0, .own 2 0, .own 3 0]) (bxs := [.live (.var 33 (v_T_api_Packed p_1)), .live (.row 24 3 []), .live (.row 24 3 [])]) (by kernel_rfl) hmix an ?_
  refine aw_seq (by kernel_rfl) ?_
  refine aw_seq (by kernel_rfl) ?_
  refine aw_region [(2, { n := (p_1.Bytes).length })] [1, 3, 4, 24] [0, 2, 3] 4 (vals := [.ptr 0 0 0 0, .own 2 0, .own 3 0, .bool ((((p_1.Bytes).length : Nat) : Int) == (0 : Int))]) (bxs := [.live (.var 33 (v_T_api_Packed p_1)), .live (.row 24 3 []), .live (.row 24 3 [])]) (by kernel_rfl) hmix (ac (vc_len _ : ((List.map (AV.int .u8) p_1.Bytes)).length = (p_1.Bytes).length) an) ?_
  refine aw_cond (t := 24) (b := ((((p_1.Bytes).length : Nat) : Int) == (0 : Int))) (by kernel_rfl) (by kernel_rfl) ?_ ?_
  · intro g_1; replace h := cond_t g_1 h
    refine aw_seq (by kernel_rfl) ?_
    refine aw_region [(0, { id := 4, m := 1 })] [2] [4] 5 (vals := [.own 4 0]) (bxs := [.live (.row 24 3 [])]) (by kernel_rfl) hmix an ?_
    refine aw_sub (sub_wkm [4] [] [.a 2 (.own 0 ((([] : List T_api_Value)).length))] [.s 0] (sl2 := [(2, .own 0 ((([] : List T_api_Value)).length))]) (bx2 := [(0, .live (.row 24 3 []))]) (by kernel_rfl) (ac (congrArg (AV.own _) (by first | (simp; done) | (simp; omega)) : (.own 4 0 : AV) = .own 4 ((([] : List T_api_Value)).length)) an)) ?_
    refine aw_ret (by kernel_rfl) ?_
    replace h := Option.some.inj h; subst h
    exact ⟨.inr rfl, Nat.le_of_ble_eq_true rfl, by kernel_rfl⟩
  intro g_1; replace h := cond_f g_1 h
  refine aw_skip (by kernel_rfl) ?_
  refine aw_seq (by kernel_rfl) ?_
  obtain ⟨_, h_1, h⟩ := bind_some h; replace h_1 := need_some h_1
  refine aw_region [(2, { l := (List.map (AV.int .u8) (sub p_1.Bytes (1 : Int) (((p_1.Bytes).length : Nat) : Int))) })] [1, 3, 4, 5] [0, 2, 3] 4 (vals := [.ptr 0 0 0 0, .own 2 0, .own 3 0, .sl false 1 (List.map (AV.int .u8) (sub p_1.Bytes (1 : Int) (((p_1.Bytes).length : Nat) : Int)))]) (bxs := [.live (.var 33 (v_T_api_Packed p_1)), .live (.row 24 3 []), .live (.row 24 3 [])]) (by kernel_rfl) hmix (ac (by decide : (0 : Int) ≤ (1 : Int)) (ac (vc_lenle h_1 : (1 : Int) ≤ ((((List.map (AV.int .u8) p_1.Bytes)).length : Nat) : Int)) (ac (Int.le_refl _ : ((((List.map (AV.int .u8) p_1.Bytes)).length : Nat) : Int) ≤ ((((List.map (AV.int .u8) p_1.Bytes)).length : Nat) : Int)) (ac (vc_subn _ _ : (List.map (AV.int .u8) (sub p_1.Bytes (1 : Int) (((p_1.Bytes).length : Nat) : Int))) = (((List.map (AV.int .u8) p_1.Bytes)).take (((((List.map (AV.int .u8) p_1.Bytes)).length : Nat) : Int)).toNat).drop ((1 : Int)).toNat) an)))) ?_
  refine aw_seq (by kernel_rfl) ?_
  refine aw_seq (by kernel_rfl) ?_
  obtain ⟨x_1, h_2, h⟩ := bind_some h
  refine aw_region [(2, { av := .int .u8 x_1 })] [1, 3, 4, 5, 32] [0, 2, 3] 4 (vals := [.ptr 0 0 0 0, .own 2 0, .own 3 0, .sl false 1 (List.map (AV.int .u8) (sub p_1.Bytes (1 : Int) (((p_1.Bytes).length : Nat) : Int))), .bool (x_1 == (3 : Int))]) (bxs := [.live (.var 33 (v_T_api_Packed p_1)), .live (.row 24 3 []), .live (.row 24 3 [])]) (by kernel_rfl) hmix (ac (vc_idx h_2 : idxA (List.map (AV.int .u8) p_1.Bytes) (0 : Int) = some (.int .u8 x_1)) an) ?_
  obtain ⟨o_1, h_3, h⟩ := bind_some h
  refine aw_conv (K1 := (fun e st' => match o_1 with | (.inl q0) => e = .normal ∧ Sub 0 st' (mk [(1, .ptr 0 0 0 0), (3, .own 1 0), (4, .own 2 ((q0.2).length)), (5, .sl false 1 (List.map (AV.int .u8) q0.1))] [(0, .live (.var 33 (v_T_api_Packed p_1))), (1, .live (.row 24 3 [])), (2, .live (.row 24 3 (List.map e_T_api_Value q0.2)))] 3) | (.inr q1) => e = .ret ∧ FinR prog Go.Proofs.Try.f33 0 [.row 24 3 (List.map e_T_api_Value q1)] (.own 0 ((q1).length)) st')) ?_ ?_
  · replace h := h_3
    refine aw_cond (t := 32) (b := (x_1 == (3 : Int))) (by kernel_rfl) (by kernel_rfl) ?_ ?_
    rotate_left
    · intro g_2; replace h := cond_f g_2 h
      refine aw_skip (by kernel_rfl) ?_
      replace h := Option.some.inj h; subst h
      exact ⟨rfl, (sub_wkm [0, 2, 3] [] [.s 1, .s 3, .s 4, .s 5] [.s 0, .s 1, .s 2] (by kernel_rfl) an)⟩
    intro g_2; replace h := cond_t g_2 h
    refine aw_seq (by kernel_rfl) ?_
    obtain ⟨r_1, h_4, h⟩ := bind_some h
    refine aw_region [(1, { av := .tuple [.int .i64 r_1.1, .int .i64 r_1.2.1, .int .i64 r_1.2.2], l := [.sl false 1 (List.map (AV.int .u8) (sub p_1.Bytes (1 : Int) (((p_1.Bytes).length : Nat) : Int)))] })] [1, 3, 4, 5, 6, 7, 8] [0, 2, 3] 4 (vals := [.ptr 0 0 0 0, .own 2 0, .own 3 0, .sl false 1 (List.map (AV.int .u8) (sub p_1.Bytes (1 : Int) (((p_1.Bytes).length : Nat) : Int))), .int .i64 r_1.1, .int .i64 r_1.2.1, .int .i64 r_1.2.2]) (bxs := [.live (.var 33 (v_T_api_Packed p_1)), .live (.row 24 3 []), .live (.row 24 3 [])]) (by kernel_rfl) hmix (ac (rfl : ([.sl false 1 (List.map (AV.int .u8) (sub p_1.Bytes (1 : Int) (((p_1.Bytes).length : Nat) : Int)))] : List AV) = [.sl false 1 (List.map (AV.int .u8) (sub p_1.Bytes (1 : Int) (((p_1.Bytes).length : Nat) : Int)))]) (ac (rfl : ([] : List BoxSt) = []) (ac (R05_Int_ok F (sub p_1.Bytes (1 : Int) (((p_1.Bytes).length : Nat) : Int)) r_1 h_4 : TripleG prog 43 [] [] [.sl false 1 (List.map (AV.int .u8) (sub p_1.Bytes (1 : Int) (((p_1.Bytes).length : Nat) : Int)))] [] (.tuple [.int .i64 r_1.1, .int .i64 r_1.2.1, .int .i64 r_1.2.2])) an))) ?_
    refine aw_seq (by kernel_rfl) ?_
    refine aw_seq (by kernel_rfl) ?_
    refine aw_region [] [1, 3, 4, 5, 6, 7, 40] [0, 2, 3] 4 (vals := [.ptr 0 0 0 0, .own 2 0, .own 3 0, .sl false 1 (List.map (AV.int .u8) (sub p_1.Bytes (1 : Int) (((p_1.Bytes).length : Nat) : Int))), .int .i64 r_1.1, .int .i64 r_1.2.1, .bool (r_1.2.2 != (0 : Int))]) (bxs := [.live (.var 33 (v_T_api_Packed p_1)), .live (.row 24 3 []), .live (.row 24 3 [])]) (by kernel_rfl) hmix an ?_
    refine aw_cond (t := 40) (b := (r_1.2.2 != (0 : Int))) (by kernel_rfl) (by kernel_rfl) ?_ ?_
    · intro g_3; replace h := cond_t g_3 h
      refine aw_seq (by kernel_rfl) ?_
      refine aw_region [(0, { id := 4, m := 1 })] [2] [4] 5 (vals := [.own 4 0]) (bxs := [.live (.row 24 3 [])]) (by kernel_rfl) hmix an ?_
      refine aw_sub (sub_wkm [4] [] [.a 2 (.own 0 ((([] : List T_api_Value)).length))] [.s 0] (sl2 := [(2, .own 0 ((([] : List T_api_Value)).length))]) (bx2 := [(0, .live (.row 24 3 []))]) (by kernel_rfl) (ac (congrArg (AV.own _) (by first | (simp; done) | (simp; omega)) : (.own 4 0 : AV) = .own 4 ((([] : List T_api_Value)).length)) an)) ?_
      refine aw_ret (by kernel_rfl) ?_
      replace h := Option.some.inj h; subst h
      exact ⟨rfl, Nat.le_of_ble_eq_true rfl, by kernel_rfl⟩
    intro g_3; replace h := cond_f g_3 h
    refine aw_skip (by kernel_rfl) ?_
    refine aw_seq (by kernel_rfl) ?_
    obtain ⟨_, h_5, h⟩ := bind_some h; replace h_5 := need_some h_5
    refine aw_region [(2, { l := (List.map (AV.int .u8) (sub (sub p_1.Bytes (1 : Int) (((p_1.Bytes).length : Nat) : Int)) r_1.2.1 (((sub p_1.Bytes (1 : Int) (((p_1.Bytes).length : Nat) : Int)).length : Nat) : Int))) })] [1, 3, 4, 5, 6] [0, 2, 3] 4 (vals := [.ptr 0 0 0 0, .own 2 0, .own 3 0, .sl false 1 (List.map (AV.int .u8) (sub (sub p_1.Bytes (1 : Int) (((p_1.Bytes).length : Nat) : Int)) r_1.2.1 (((sub p_1.Bytes (1 : Int) (((p_1.Bytes).length : Nat) : Int)).length : Nat) : Int))), .int .i64 r_1.1]) (bxs := [.live (.var 33 (v_T_api_Packed p_1)), .live (.row 24 3 []), .live (.row 24 3 [])]) (by kernel_rfl) hmix (ac h_5.1 (ac (vc_lenle h_5.2 : r_1.2.1 ≤ ((((List.map (AV.int .u8) (sub p_1.Bytes (1 : Int) (((p_1.Bytes).length : Nat) : Int)))).length : Nat) : Int)) (ac (Int.le_refl _ : ((((List.map (AV.int .u8) (sub p_1.Bytes (1 : Int) (((p_1.Bytes).length : Nat) : Int)))).length : Nat) : Int) ≤ ((((List.map (AV.int .u8) (sub p_1.Bytes (1 : Int) (((p_1.Bytes).length : Nat) : Int)))).length : Nat) : Int)) (ac (vc_subn _ _ : (List.map (AV.int .u8) (sub (sub p_1.Bytes (1 : Int) (((p_1.Bytes).length : Nat) : Int)) r_1.2.1 (((sub p_1.Bytes (1 : Int) (((p_1.Bytes).length : Nat) : Int)).length : Nat) : Int))) = (((List.map (AV.int .u8) (sub p_1.Bytes (1 : Int) (((p_1.Bytes).length : Nat) : Int)))).take (((((List.map (AV.int .u8) (sub p_1.Bytes (1 : Int) (((p_1.Bytes).length : Nat) : Int)))).length : Nat) : Int)).toNat).drop (r_1.2.1).toNat) an)))) ?_
    refine aw_seq (by kernel_rfl) ?_
    refine aw_region [] [1, 3, 4, 5, 6, 9] [0, 2, 3] 4 (vals := [.ptr 0 0 0 0, .own 2 0, .own 3 0, .sl false 1 (List.map (AV.int .u8) (sub (sub p_1.Bytes (1 : Int) (((p_1.Bytes).length : Nat) : Int)) r_1.2.1 (((sub p_1.Bytes (1 : Int) (((p_1.Bytes).length : Nat) : Int)).length : Nat) : Int))), .int .i64 r_1.1, .int .i64 (0 : Int)]) (bxs := [.live (.var 33 (v_T_api_Packed p_1)), .live (.row 24 3 []), .live (.row 24 3 [])]) (by kernel_rfl) hmix an ?_
    obtain ⟨o_2, h_6, h⟩ := bind_some h
    refine aw_mid (mk [(1, .ptr 0 0 0 0), (3, .own 1 0), (4, .own 2 ((o_2.2).length)), (5, .sl false 1 (List.map (AV.int .u8) o_2.1))] [(0, .live (.var 33 (v_T_api_Packed p_1))), (1, .live (.row 24 3 [])), (2, .live (.row 24 3 (List.map e_T_api_Value o_2.2)))] 3) ?_ ?_
    · replace h := h_6
      refine aw_block (id := 0) (by kernel_rfl) ?_
      refine aw_sub (sub_wkm [0, 2, 3] [] [.s 1, .s 3, .s 4, .s 5, .s 6, .s 9] [.s 0, .s 1, .s 2] (sl2 := [(1, .ptr 0 0 0 0), (3, .own 1 0), (4, .own 2 0), (5, .sl false 1 (List.map (AV.int .u8) (sub (sub p_1.Bytes (1 : Int) (((p_1.Bytes).length : Nat) : Int)) r_1.2.1 (((sub p_1.Bytes (1 : Int) (((p_1.Bytes).length : Nat) : Int)).length : Nat) : Int)))), (6, .int .i64 r_1.1), (9, .int .i64 (0 : Int))]) (bx2 := [(0, .live (.var 33 (v_T_api_Packed p_1))), (1, .live (.row 24 3 [])), (2, .live (.row 24 3 []))]) (by kernel_rfl) an) ?_
      refine aw_loopF (fun n st => ∃ (b_1 : List Int), ∃ (i_1 : Int), ∃ (row_1 : List T_api_Value), st = mk [(1, .ptr 0 0 0 0), (3, .own 1 0), (4, .own 2 ((row_1).length)), (5, .sl false 1 (List.map (AV.int .u8) b_1)), (6, .int .i64 r_1.1), (9, .int .i64 i_1)] [(0, .live (.var 33 (v_T_api_Packed p_1))), (1, .live (.row 24 3 [])), (2, .live (.row 24 3 (List.map e_T_api_Value row_1)))] 3 ∧ R33_unpack_L1 F p_1 r_1 n b_1 i_1 row_1 = some o_2) F (by kernel_rfl) ⟨_, _, _, rfl, h⟩ ?_ ?_
      · rintro _ ⟨_, _, _, _, h⟩; exact none_ne (h : (none : Option ((List Int) × (List T_api_Value))) = some o_2)
      rintro n_1 _ ⟨b_1, i_1, row_1, rfl, h⟩
      replace h : R33_unpack_L1_body F p_1 r_1 (R33_unpack_L1 F p_1 r_1 n_1) b_1 i_1 row_1 = some o_2 := h
      unfold R33_unpack_L1_body at h
      refine aw_seq (by kernel_rfl) ?_
      refine aw_seq (by kernel_rfl) ?_
      refine aw_mid (mk [(1, .ptr 0 0 0 0), (3, .own 1 0), (4, .own 2 ((row_1).length)), (5, .sl false 1 (List.map (AV.int .u8) b_1)), (6, .int .i64 r_1.1), (9, .int .i64 i_1), (52, .bool (decide (i_1 < r_1.1) && decide (i_1 < p_1.N)))] [(0, .live (.var 33 (v_T_api_Packed p_1))), (1, .live (.row 24 3 [])), (2, .live (.row 24 3 (List.map e_T_api_Value row_1)))] 3) ?_ ?_
      · rcases Bool.eq_false_or_eq_true (decide (i_1 < r_1.1)) with gg_40 | gg_40
        · refine aw_region [(8, { b := true })] [1, 3, 4, 5, 6, 9, 48, 49, 50, 51, 52] [0, 1, 2] 3 (vals := [.ptr 0 0 0 0, .own 1 0, .own 2 ((row_1).length), .sl false 1 (List.map (AV.int .u8) b_1), .int .i64 r_1.1, .int .i64 i_1, .int .i64 i_1, .ptr 0 0 0 1, .int .i64 p_1.N, .bool (decide (i_1 < p_1.N)), .bool (decide (i_1 < p_1.N))]) (bxs := [.live (.var 33 (v_T_api_Packed p_1)), .live (.row 24 3 []), .live (.row 24 3 (List.map e_T_api_Value row_1))]) (by kernel_rfl) hmix (ac gg_40 (ac gg_40 (ac gg_40 (ac gg_40 (ac gg_40 an))))) ?_
          exact ⟨rfl, (sub_wkm [0, 1, 2] [] [.s 1, .s 3, .s 4, .s 5, .s 6, .s 9, .a 52 (.bool (decide (i_1 < r_1.1) && decide (i_1 < p_1.N)))] [.s 0, .s 1, .s 2] (by kernel_rfl) (ac (congrArg AV.bool (andt gg_40 rfl) : (.bool (decide (i_1 < p_1.N)) : AV) = .bool (decide (i_1 < r_1.1) && decide (i_1 < p_1.N))) an))⟩
        · refine aw_region [(4, { g := false }), (5, { g := false }), (6, { g := false }), (7, { g := false }), (8, { b := false })] [1, 3, 4, 5, 6, 9, 48, 49, 50, 51, 52] [0, 1, 2] 3 (vals := [.ptr 0 0 0 0, .own 1 0, .own 2 ((row_1).length), .sl false 1 (List.map (AV.int .u8) b_1), .int .i64 r_1.1, .int .i64 i_1, .tuple [], .tuple [], .tuple [], .tuple [], .bool false]) (bxs := [.live (.var 33 (v_T_api_Packed p_1)), .live (.row 24 3 []), .live (.row 24 3 (List.map e_T_api_Value row_1))]) (by kernel_rfl) hmix (ac gg_40 (ac gg_40 (ac gg_40 (ac gg_40 (ac gg_40 an))))) ?_
          exact ⟨rfl, (sub_wkm [0, 1, 2] [] [.s 1, .s 3, .s 4, .s 5, .s 6, .s 9, .a 52 (.bool (decide (i_1 < r_1.1) && decide (i_1 < p_1.N)))] [.s 0, .s 1, .s 2] (by kernel_rfl) (ac (congrArg AV.bool (andf gg_40) : (.bool false : AV) = .bool (decide (i_1 < r_1.1) && decide (i_1 < p_1.N))) an))⟩
      refine aw_cond (t := 52) (b := (decide (i_1 < r_1.1) && decide (i_1 < p_1.N))) (by kernel_rfl) (by kernel_rfl) ?_ ?_
      rotate_left
      · intro g_4; replace h := cond_f g_4 h
        refine aw_exit (id := 0) (by kernel_rfl) ?_
        replace h := Option.some.inj h; subst h
        exact ⟨rfl, (sub_wkm [0, 1, 2] [] [.s 1, .s 3, .s 4, .s 5] [.s 0, .s 1, .s 2] (by kernel_rfl) an)⟩
      intro g_4; replace h := cond_t g_4 h
      refine aw_skip (by kernel_rfl) ?_
      refine aw_seq (by kernel_rfl) ?_
      refine aw_block (id := 1) (by kernel_rfl) ?_
      refine aw_seq (by kernel_rfl) ?_
      obtain ⟨r_2, h_7, h⟩ := bind_some h
      refine aw_region [(1, { av := .tuple [e_T_api_Value r_2.1, .int .i64 r_2.2], l := [.sl false 1 (List.map (AV.int .u8) b_1)] }), (5, { id := 3 })] [1, 3, 4, 5, 6, 9, 10, 11] [0, 1, 2, 3] 4 (vals := [.ptr 0 0 0 0, .own 1 0, .own 2 ((row_1).length), .sl false 1 (List.map (AV.int .u8) b_1), .int .i64 r_1.1, .int .i64 i_1, .ptr 3 0 0 0, .int .i64 r_2.2]) (bxs := [.live (.var 33 (v_T_api_Packed p_1)), .live (.row 24 3 []), .live (.row 24 3 (List.map e_T_api_Value row_1)), .live (.var 24 (v_T_api_Value r_2.1))]) (by kernel_rfl) hmix (ac (rfl : ([.sl false 1 (List.map (AV.int .u8) b_1)] : List AV) = [.sl false 1 (List.map (AV.int .u8) b_1)]) (ac (rfl : ([] : List BoxSt) = []) (ac (R33_value_ok F b_1 r_2 h_7 : TripleG prog 44 [] [] [.sl false 1 (List.map (AV.int .u8) b_1)] [] (.tuple [e_T_api_Value r_2.1, .int .i64 r_2.2])) an))) ?_
      refine aw_seq (by kernel_rfl) ?_
      obtain ⟨_, h_8, h⟩ := bind_some h; replace h_8 := need_some h_8
      refine aw_region [(2, { id := 4 }), (3, { id := 5, l := (List.map e_T_api_Value (row_1 ++ ([r_2.1] : List T_api_Value))), n := ((row_1 ++ ([r_2.1] : List T_api_Value))).length })] [1, 3, 4, 5, 6, 9, 11] [0, 1, 5] 6 (vals := [.ptr 0 0 0 0, .own 1 0, .own 5 (((row_1 ++ ([r_2.1] : List T_api_Value))).length), .sl false 1 (List.map (AV.int .u8) b_1), .int .i64 r_1.1, .int .i64 i_1, .int .i64 r_2.2]) (bxs := [.live (.var 33 (v_T_api_Packed p_1)), .live (.row 24 3 []), .live (.row 24 3 (List.map e_T_api_Value (row_1 ++ ([r_2.1] : List T_api_Value))))]) (by kernel_rfl) hmix (ac (by first | (simp; done) | (simp; omega) : (row_1).length = ((List.map e_T_api_Value row_1)).length) (ac (by first | (simp; done) | (simp; omega) : 1 = ((List.map e_T_api_Value ([r_2.1] : List T_api_Value))).length) (ac (vc_app _ _ : (List.map e_T_api_Value (row_1 ++ ([r_2.1] : List T_api_Value))) = (List.map e_T_api_Value row_1) ++ (List.map e_T_api_Value ([r_2.1] : List T_api_Value))) (ac (by simp : ((row_1 ++ ([r_2.1] : List T_api_Value))).length = ((List.map e_T_api_Value (row_1 ++ ([r_2.1] : List T_api_Value)))).length) (ac (by first | (simp; done) | simpa using h_8 : (((List.map e_T_api_Value row_1) : List AV).length + ((List.map e_T_api_Value ([r_2.1] : List T_api_Value)) : List AV).length) * 32 ≤ 140737488355328) an))))) ?_
      obtain ⟨_, h_9, h⟩ := bind_some h; replace h_9 := need_some h_9
      refine aw_region [(2, { l := (List.map (AV.int .u8) (sub b_1 r_2.2 (((b_1).length : Nat) : Int))) })] [1, 3, 4, 5, 6, 9] [0, 1, 5] 6 (vals := [.ptr 0 0 0 0, .own 1 0, .own 5 (((row_1 ++ ([r_2.1] : List T_api_Value))).length), .sl false 1 (List.map (AV.int .u8) (sub b_1 r_2.2 (((b_1).length : Nat) : Int))), .int .i64 r_1.1, .int .i64 i_1]) (bxs := [.live (.var 33 (v_T_api_Packed p_1)), .live (.row 24 3 []), .live (.row 24 3 (List.map e_T_api_Value (row_1 ++ ([r_2.1] : List T_api_Value))))]) (by kernel_rfl) hmix (ac h_9.1 (ac (vc_lenle h_9.2 : r_2.2 ≤ ((((List.map (AV.int .u8) b_1)).length : Nat) : Int)) (ac (Int.le_refl _ : ((((List.map (AV.int .u8) b_1)).length : Nat) : Int) ≤ ((((List.map (AV.int .u8) b_1)).length : Nat) : Int)) (ac (vc_subn _ _ : (List.map (AV.int .u8) (sub b_1 r_2.2 (((b_1).length : Nat) : Int))) = (((List.map (AV.int .u8) b_1)).take (((((List.map (AV.int .u8) b_1)).length : Nat) : Int)).toNat).drop (r_2.2).toNat) an)))) ?_
      refine aw_region [] [1, 3, 4, 5, 6, 9] [0, 1, 5] 6 (vals := [.ptr 0 0 0 0, .own 1 0, .own 5 (((row_1 ++ ([r_2.1] : List T_api_Value))).length), .sl false 1 (List.map (AV.int .u8) (sub b_1 r_2.2 (((b_1).length : Nat) : Int))), .int .i64 r_1.1, .int .i64 (w_i64 (i_1 + (1 : Int)))]) (bxs := [.live (.var 33 (v_T_api_Packed p_1)), .live (.row 24 3 []), .live (.row 24 3 (List.map e_T_api_Value (row_1 ++ ([r_2.1] : List T_api_Value))))]) (by kernel_rfl) hmix an ?_
      exact ⟨_, (sub_wkm [0, 1, 5] [] [.s 1, .s 3, .s 4, .s 5, .s 6, .s 9] [.s 0, .s 1, .s 2] (by kernel_rfl) an), _, _, _, rfl, h⟩
    replace h := Option.some.inj h; subst h
    exact ⟨rfl, (sub_wkm [0, 1, 2] [] [.s 1, .s 3, .s 4, .s 5] [.s 0, .s 1, .s 2] (by kernel_rfl) an)⟩
  intro e st1 hk
  rcases o_1 with q_1 | q_2
  rotate_left
  · obtain ⟨rfl, hf⟩ := hk
    replace h := Option.some.inj h; subst h
    exact ⟨st1, Sub.refl _ _, .inr rfl, hf⟩
  obtain ⟨rfl, hs⟩ := hk
  refine ⟨_, hs, ?_⟩
  refine aw_seq (by kernel_rfl) ?_
  obtain ⟨o_3, h_10, h⟩ := bind_some h
  refine aw_conv (K1 := (fun e st' => match o_3 with | (.inl q0) => e = .normal ∧ Sub 0 st' (mk [(3, .own 0 ((q0).length))] [(0, .live (.row 24 3 (List.map e_T_api_Value q0)))] 1) | (.inr q1) => e = .ret ∧ FinR prog Go.Proofs.Try.f33 0 [.row 24 3 (List.map e_T_api_Value q1)] (.own 0 ((q1).length)) st')) ?_ ?_
  · replace h := h_10
    refine aw_block (id := 2) (by kernel_rfl) ?_
    refine aw_sub (sub_wkm [0, 1, 2] [] [.s 1, .s 3, .s 4, .s 5] [.s 0, .s 1, .s 2] (sl2 := [(1, .ptr 0 0 0 0), (3, .own 1 0), (4, .own 2 ((q_1.2).length)), (5, .sl false 1 (List.map (AV.int .u8) q_1.1))]) (bx2 := [(0, .live (.var 33 (v_T_api_Packed p_1))), (1, .live (.row 24 3 [])), (2, .live (.row 24 3 (List.map e_T_api_Value q_1.2)))]) (by kernel_rfl) an) ?_
    refine aw_loopF (fun n st => ∃ (b_2 : List Int), ∃ (row_2 : List T_api_Value), st = mk [(1, .ptr 0 0 0 0), (3, .own 1 ((row_2).length)), (4, .own 2 ((q_1.2).length)), (5, .sl false 1 (List.map (AV.int .u8) b_2))] [(0, .live (.var 33 (v_T_api_Packed p_1))), (1, .live (.row 24 3 (List.map e_T_api_Value row_2))), (2, .live (.row 24 3 (List.map e_T_api_Value q_1.2)))] 3 ∧ R33_unpack_L2 F p_1 q_1 n b_2 row_2 = some o_3) F (by kernel_rfl) ⟨_, _, rfl, h⟩ ?_ ?_
    · rintro _ ⟨_, _, _, h⟩; exact none_ne (h : (none : Option ((List T_api_Value) ⊕ (List (T_api_Value)))) = some o_3)
    rintro n_2 _ ⟨b_2, row_2, rfl, h⟩
    replace h : R33_unpack_L2_body F p_1 q_1 (R33_unpack_L2 F p_1 q_1 n_2) b_2 row_2 = some o_3 := h
    unfold R33_unpack_L2_body at h
    refine aw_seq (by kernel_rfl) ?_
    refine aw_seq (by kernel_rfl) ?_
    refine aw_mid (mk [(1, .ptr 0 0 0 0), (3, .own 1 ((row_2).length)), (4, .own 2 ((q_1.2).length)), (5, .sl false 1 (List.map (AV.int .u8) b_2)), (76, .bool (decide ((((row_2).length : Nat) : Int) < p_1.N) && decide ((((b_2).length : Nat) : Int) > (0 : Int))))] [(0, .live (.var 33 (v_T_api_Packed p_1))), (1, .live (.row 24 3 (List.map e_T_api_Value row_2))), (2, .live (.row 24 3 (List.map e_T_api_Value q_1.2)))] 3) ?_ ?_
    · rcases Bool.eq_false_or_eq_true (decide ((((row_2).length : Nat) : Int) < p_1.N)) with gg_59 | gg_59
      · refine aw_region [(7, { n := (b_2).length }), (9, { b := true })] [1, 3, 4, 5, 73, 74, 75, 76] [0, 1, 2] 3 (vals := [.ptr 0 0 0 0, .own 1 ((row_2).length), .own 2 ((q_1.2).length), .sl false 1 (List.map (AV.int .u8) b_2), .sl false 1 (List.map (AV.int .u8) b_2), .int .i64 (((b_2).length : Nat) : Int), .bool (decide ((((b_2).length : Nat) : Int) > (0 : Int))), .bool (decide ((((b_2).length : Nat) : Int) > (0 : Int)))]) (bxs := [.live (.var 33 (v_T_api_Packed p_1)), .live (.row 24 3 (List.map e_T_api_Value row_2)), .live (.row 24 3 (List.map e_T_api_Value q_1.2))]) (by kernel_rfl) hmix (ac gg_59 (ac gg_59 (ac (vc_len _ : ((List.map (AV.int .u8) b_2)).length = (b_2).length) (ac gg_59 (ac gg_59 an))))) ?_
        exact ⟨rfl, (sub_wkm [0, 1, 2] [] [.s 1, .s 3, .s 4, .s 5, .a 76 (.bool (decide ((((row_2).length : Nat) : Int) < p_1.N) && decide ((((b_2).length : Nat) : Int) > (0 : Int))))] [.s 0, .s 1, .s 2] (by kernel_rfl) (ac (congrArg AV.bool (andt gg_59 rfl) : (.bool (decide ((((b_2).length : Nat) : Int) > (0 : Int))) : AV) = .bool (decide ((((row_2).length : Nat) : Int) < p_1.N) && decide ((((b_2).length : Nat) : Int) > (0 : Int)))) an))⟩
      · refine aw_region [(6, { g := false }), (7, { g := false }), (8, { g := false }), (9, { b := false })] [1, 3, 4, 5, 73, 74, 75, 76] [0, 1, 2] 3 (vals := [.ptr 0 0 0 0, .own 1 ((row_2).length), .own 2 ((q_1.2).length), .sl false 1 (List.map (AV.int .u8) b_2), .tuple [], .tuple [], .tuple [], .bool false]) (bxs := [.live (.var 33 (v_T_api_Packed p_1)), .live (.row 24 3 (List.map e_T_api_Value row_2)), .live (.row 24 3 (List.map e_T_api_Value q_1.2))]) (by kernel_rfl) hmix (ac gg_59 (ac gg_59 (ac gg_59 (ac gg_59 an)))) ?_
        exact ⟨rfl, (sub_wkm [0, 1, 2] [] [.s 1, .s 3, .s 4, .s 5, .a 76 (.bool (decide ((((row_2).length : Nat) : Int) < p_1.N) && decide ((((b_2).length : Nat) : Int) > (0 : Int))))] [.s 0, .s 1, .s 2] (by kernel_rfl) (ac (congrArg AV.bool (andf gg_59) : (.bool false : AV) = .bool (decide ((((row_2).length : Nat) : Int) < p_1.N) && decide ((((b_2).length : Nat) : Int) > (0 : Int)))) an))⟩
    refine aw_cond (t := 76) (b := (decide ((((row_2).length : Nat) : Int) < p_1.N) && decide ((((b_2).length : Nat) : Int) > (0 : Int)))) (by kernel_rfl) (by kernel_rfl) ?_ ?_
    rotate_left
    · intro g_5; replace h := cond_f g_5 h
      refine aw_exit (id := 2) (by kernel_rfl) ?_
      replace h := Option.some.inj h; subst h
      exact ⟨rfl, (sub_wkm [1] [] [.s 3] [.s 0] (by kernel_rfl) an)⟩
    intro g_5; replace h := cond_t g_5 h
    refine aw_skip (by kernel_rfl) ?_
    refine aw_block (id := 3) (by kernel_rfl) ?_
    refine aw_seq (by kernel_rfl) ?_
    refine aw_seq (by kernel_rfl) ?_
    obtain ⟨x_2, h_11, h⟩ := bind_some h
    refine aw_region [(2, { av := .int .u8 x_2 })] [1, 3, 4, 5, 81] [0, 1, 2] 3 (vals := [.ptr 0 0 0 0, .own 1 ((row_2).length), .own 2 ((q_1.2).length), .sl false 1 (List.map (AV.int .u8) b_2), .bool (x_2 == (0 : Int))]) (bxs := [.live (.var 33 (v_T_api_Packed p_1)), .live (.row 24 3 (List.map e_T_api_Value row_2)), .live (.row 24 3 (List.map e_T_api_Value q_1.2))]) (by kernel_rfl) hmix (ac (vc_idx h_11 : idxA (List.map (AV.int .u8) p_1.Bytes) (0 : Int) = some (.int .u8 x_2)) an) ?_
    refine aw_cond (t := 81) (b := (x_2 == (0 : Int))) (by kernel_rfl) (by kernel_rfl) ?_ ?_
    · intro g_6; replace h := cond_t g_6 h
      refine aw_seq (by kernel_rfl) ?_
      obtain ⟨r_3, h_12, h⟩ := bind_some h
      refine aw_region [(1, { av := .tuple [e_T_api_Value r_3.1, .int .i64 r_3.2], l := [.sl false 1 (List.map (AV.int .u8) b_2)] }), (5, { id := 3 })] [1, 3, 4, 5, 12, 13] [0, 1, 2, 3] 4 (vals := [.ptr 0 0 0 0, .own 1 ((row_2).length), .own 2 ((q_1.2).length), .sl false 1 (List.map (AV.int .u8) b_2), .ptr 3 0 0 0, .int .i64 r_3.2]) (bxs := [.live (.var 33 (v_T_api_Packed p_1)), .live (.row 24 3 (List.map e_T_api_Value row_2)), .live (.row 24 3 (List.map e_T_api_Value q_1.2)), .live (.var 24 (v_T_api_Value r_3.1))]) (by kernel_rfl) hmix (ac (rfl : ([.sl false 1 (List.map (AV.int .u8) b_2)] : List AV) = [.sl false 1 (List.map (AV.int .u8) b_2)]) (ac (rfl : ([] : List BoxSt) = []) (ac (R33_value_ok F b_2 r_3 h_12 : TripleG prog 44 [] [] [.sl false 1 (List.map (AV.int .u8) b_2)] [] (.tuple [e_T_api_Value r_3.1, .int .i64 r_3.2])) an))) ?_
      refine aw_seq (by kernel_rfl) ?_
      refine aw_seq (by kernel_rfl) ?_
      refine aw_region [] [1, 3, 4, 5, 12, 13, 88] [0, 1, 2, 3] 4 (vals := [.ptr 0 0 0 0, .own 1 ((row_2).length), .own 2 ((q_1.2).length), .sl false 1 (List.map (AV.int .u8) b_2), .ptr 3 0 0 0, .int .i64 r_3.2, .bool (r_3.2 == (0 : Int))]) (bxs := [.live (.var 33 (v_T_api_Packed p_1)), .live (.row 24 3 (List.map e_T_api_Value row_2)), .live (.row 24 3 (List.map e_T_api_Value q_1.2)), .live (.var 24 (v_T_api_Value r_3.1))]) (by kernel_rfl) hmix an ?_
      refine aw_cond (t := 88) (b := (r_3.2 == (0 : Int))) (by kernel_rfl) (by kernel_rfl) ?_ ?_
      · intro g_7; replace h := cond_t g_7 h
        refine aw_seq (by kernel_rfl) ?_
        refine aw_region [(0, { id := 4, m := 1 })] [2] [4] 5 (vals := [.own 4 0]) (bxs := [.live (.row 24 3 [])]) (by kernel_rfl) hmix an ?_
        refine aw_sub (sub_wkm [4] [] [.a 2 (.own 0 ((([] : List T_api_Value)).length))] [.s 0] (sl2 := [(2, .own 0 ((([] : List T_api_Value)).length))]) (bx2 := [(0, .live (.row 24 3 []))]) (by kernel_rfl) (ac (congrArg (AV.own _) (by first | (simp; done) | (simp; omega)) : (.own 4 0 : AV) = .own 4 ((([] : List T_api_Value)).length)) an)) ?_
        refine aw_ret (by kernel_rfl) ?_
        replace h := Option.some.inj h; subst h
        exact ⟨rfl, Nat.le_of_ble_eq_true rfl, by kernel_rfl⟩
      intro g_7; replace h := cond_f g_7 h
      refine aw_skip (by kernel_rfl) ?_
      refine aw_seq (by kernel_rfl) ?_
      obtain ⟨_, h_13, h⟩ := bind_some h; replace h_13 := need_some h_13
      refine aw_region [(2, { id := 4 }), (3, { id := 5, l := (List.map e_T_api_Value (row_2 ++ ([r_3.1] : List T_api_Value))), n := ((row_2 ++ ([r_3.1] : List T_api_Value))).length })] [1, 3, 4, 5, 13] [0, 2, 5] 6 (vals := [.ptr 0 0 0 0, .own 5 (((row_2 ++ ([r_3.1] : List T_api_Value))).length), .own 2 ((q_1.2).length), .sl false 1 (List.map (AV.int .u8) b_2), .int .i64 r_3.2]) (bxs := [.live (.var 33 (v_T_api_Packed p_1)), .live (.row 24 3 (List.map e_T_api_Value q_1.2)), .live (.row 24 3 (List.map e_T_api_Value (row_2 ++ ([r_3.1] : List T_api_Value))))]) (by kernel_rfl) hmix (ac (by first | (simp; done) | (simp; omega) : (row_2).length = ((List.map e_T_api_Value row_2)).length) (ac (by first | (simp; done) | (simp; omega) : 1 = ((List.map e_T_api_Value ([r_3.1] : List T_api_Value))).length) (ac (vc_app _ _ : (List.map e_T_api_Value (row_2 ++ ([r_3.1] : List T_api_Value))) = (List.map e_T_api_Value row_2) ++ (List.map e_T_api_Value ([r_3.1] : List T_api_Value))) (ac (by simp : ((row_2 ++ ([r_3.1] : List T_api_Value))).length = ((List.map e_T_api_Value (row_2 ++ ([r_3.1] : List T_api_Value)))).length) (ac (by first | (simp; done) | simpa using h_13 : (((List.map e_T_api_Value row_2) : List AV).length + ((List.map e_T_api_Value ([r_3.1] : List T_api_Value)) : List AV).length) * 32 ≤ 140737488355328) an))))) ?_
      refine aw_seq (by kernel_rfl) ?_
      obtain ⟨_, h_14, h⟩ := bind_some h; replace h_14 := need_some h_14
      refine aw_region [(2, { l := (List.map (AV.int .u8) (sub b_2 r_3.2 (((b_2).length : Nat) : Int))) })] [1, 3, 4, 5] [0, 2, 5] 6 (vals := [.ptr 0 0 0 0, .own 5 (((row_2 ++ ([r_3.1] : List T_api_Value))).length), .own 2 ((q_1.2).length), .sl false 1 (List.map (AV.int .u8) (sub b_2 r_3.2 (((b_2).length : Nat) : Int)))]) (bxs := [.live (.var 33 (v_T_api_Packed p_1)), .live (.row 24 3 (List.map e_T_api_Value q_1.2)), .live (.row 24 3 (List.map e_T_api_Value (row_2 ++ ([r_3.1] : List T_api_Value))))]) (by kernel_rfl) hmix (ac h_14.1 (ac (vc_lenle h_14.2 : r_3.2 ≤ ((((List.map (AV.int .u8) b_2)).length : Nat) : Int)) (ac (Int.le_refl _ : ((((List.map (AV.int .u8) b_2)).length : Nat) : Int) ≤ ((((List.map (AV.int .u8) b_2)).length : Nat) : Int)) (ac (vc_subn _ _ : (List.map (AV.int .u8) (sub b_2 r_3.2 (((b_2).length : Nat) : Int))) = (((List.map (AV.int .u8) b_2)).take (((((List.map (AV.int .u8) b_2)).length : Nat) : Int)).toNat).drop (r_3.2).toNat) an)))) ?_
      refine aw_exit (id := 3) (by kernel_rfl) ?_
      exact ⟨_, (sub_wkm [0, 5, 2] [] [.s 1, .s 3, .s 4, .s 5] [.s 0, .s 1, .s 2] (by kernel_rfl) an), _, _, rfl, h⟩
    intro g_6; replace h := cond_f g_6 h
    refine aw_skip (by kernel_rfl) ?_
    refine aw_seq (by kernel_rfl) ?_
    obtain ⟨r_4, h_15, h⟩ := bind_some h
    refine aw_region [(1, { av := .tuple [.int .i64 r_4.1, .int .i64 r_4.2.1, .int .i64 r_4.2.2], l := [.sl false 1 (List.map (AV.int .u8) b_2)] })] [1, 3, 4, 5, 14, 15, 16] [0, 1, 2] 3 (vals := [.ptr 0 0 0 0, .own 1 ((row_2).length), .own 2 ((q_1.2).length), .sl false 1 (List.map (AV.int .u8) b_2), .int .i64 r_4.1, .int .i64 r_4.2.1, .int .i64 r_4.2.2]) (bxs := [.live (.var 33 (v_T_api_Packed p_1)), .live (.row 24 3 (List.map e_T_api_Value row_2)), .live (.row 24 3 (List.map e_T_api_Value q_1.2))]) (by kernel_rfl) hmix (ac (rfl : ([.sl false 1 (List.map (AV.int .u8) b_2)] : List AV) = [.sl false 1 (List.map (AV.int .u8) b_2)]) (ac (rfl : ([] : List BoxSt) = []) (ac (R05_Int_ok F b_2 r_4 h_15 : TripleG prog 43 [] [] [.sl false 1 (List.map (AV.int .u8) b_2)] [] (.tuple [.int .i64 r_4.1, .int .i64 r_4.2.1, .int .i64 r_4.2.2])) an))) ?_
    refine aw_seq (by kernel_rfl) ?_
    refine aw_seq (by kernel_rfl) ?_
    refine aw_region [] [1, 3, 4, 5, 14, 15, 103] [0, 1, 2] 3 (vals := [.ptr 0 0 0 0, .own 1 ((row_2).length), .own 2 ((q_1.2).length), .sl false 1 (List.map (AV.int .u8) b_2), .int .i64 r_4.1, .int .i64 r_4.2.1, .bool (r_4.2.2 != (0 : Int))]) (bxs := [.live (.var 33 (v_T_api_Packed p_1)), .live (.row 24 3 (List.map e_T_api_Value row_2)), .live (.row 24 3 (List.map e_T_api_Value q_1.2))]) (by kernel_rfl) hmix an ?_
    refine aw_cond (t := 103) (b := (r_4.2.2 != (0 : Int))) (by kernel_rfl) (by kernel_rfl) ?_ ?_
    · intro g_8; replace h := cond_t g_8 h
      refine aw_seq (by kernel_rfl) ?_
      refine aw_region [(0, { id := 3, m := 1 })] [2] [3] 4 (vals := [.own 3 0]) (bxs := [.live (.row 24 3 [])]) (by kernel_rfl) hmix an ?_
      refine aw_sub (sub_wkm [3] [] [.a 2 (.own 0 ((([] : List T_api_Value)).length))] [.s 0] (sl2 := [(2, .own 0 ((([] : List T_api_Value)).length))]) (bx2 := [(0, .live (.row 24 3 []))]) (by kernel_rfl) (ac (congrArg (AV.own _) (by first | (simp; done) | (simp; omega)) : (.own 3 0 : AV) = .own 3 ((([] : List T_api_Value)).length)) an)) ?_
      refine aw_ret (by kernel_rfl) ?_
      replace h := Option.some.inj h; subst h
      exact ⟨rfl, Nat.le_of_ble_eq_true rfl, by kernel_rfl⟩
    intro g_8; replace h := cond_f g_8 h
    refine aw_skip (by kernel_rfl) ?_
    refine aw_seq (by kernel_rfl) ?_
    obtain ⟨_, h_16, h⟩ := bind_some h; replace h_16 := need_some h_16
    refine aw_region [(2, { l := (List.map (AV.int .u8) (sub b_2 r_4.2.1 (((b_2).length : Nat) : Int))) })] [1, 3, 4, 5, 14] [0, 1, 2] 3 (vals := [.ptr 0 0 0 0, .own 1 ((row_2).length), .own 2 ((q_1.2).length), .sl false 1 (List.map (AV.int .u8) (sub b_2 r_4.2.1 (((b_2).length : Nat) : Int))), .int .i64 r_4.1]) (bxs := [.live (.var 33 (v_T_api_Packed p_1)), .live (.row 24 3 (List.map e_T_api_Value row_2)), .live (.row 24 3 (List.map e_T_api_Value q_1.2))]) (by kernel_rfl) hmix (ac h_16.1 (ac (vc_lenle h_16.2 : r_4.2.1 ≤ ((((List.map (AV.int .u8) b_2)).length : Nat) : Int)) (ac (Int.le_refl _ : ((((List.map (AV.int .u8) b_2)).length : Nat) : Int) ≤ ((((List.map (AV.int .u8) b_2)).length : Nat) : Int)) (ac (vc_subn _ _ : (List.map (AV.int .u8) (sub b_2 r_4.2.1 (((b_2).length : Nat) : Int))) = (((List.map (AV.int .u8) b_2)).take (((((List.map (AV.int .u8) b_2)).length : Nat) : Int)).toNat).drop (r_4.2.1).toNat) an)))) ?_
    refine aw_seq (by kernel_rfl) ?_
    refine aw_seq (by kernel_rfl) ?_
    obtain ⟨x_3, h_17, h⟩ := bind_some h
    refine aw_region [(2, { av := .int .u8 x_3 })] [1, 3, 4, 5, 14, 111] [0, 1, 2] 3 (vals := [.ptr 0 0 0 0, .own 1 ((row_2).length), .own 2 ((q_1.2).length), .sl false 1 (List.map (AV.int .u8) (sub b_2 r_4.2.1 (((b_2).length : Nat) : Int))), .int .i64 r_4.1, .bool (x_3 == (2 : Int))]) (bxs := [.live (.var 33 (v_T_api_Packed p_1)), .live (.row 24 3 (List.map e_T_api_Value row_2)), .live (.row 24 3 (List.map e_T_api_Value q_1.2))]) (by kernel_rfl) hmix (ac (vc_idx h_17 : idxA (List.map (AV.int .u8) p_1.Bytes) (0 : Int) = some (.int .u8 x_3)) an) ?_
    refine aw_cond (t := 111) (b := (x_3 == (2 : Int))) (by kernel_rfl) (by kernel_rfl) ?_ ?_
    · intro g_9; replace h := cond_t g_9 h
      refine aw_seq (by kernel_rfl) ?_
      refine aw_region [(4, { id := 3 })] [1, 3, 4, 5, 17] [0, 1, 2, 3] 4 (vals := [.ptr 0 0 0 0, .own 1 ((row_2).length), .own 2 ((q_1.2).length), .sl false 1 (List.map (AV.int .u8) (sub b_2 r_4.2.1 (((b_2).length : Nat) : Int))), .ptr 3 0 0 0]) (bxs := [.live (.var 33 (v_T_api_Packed p_1)), .live (.row 24 3 (List.map e_T_api_Value row_2)), .live (.row 24 3 (List.map e_T_api_Value q_1.2)), .live (.var 24 [.int .i64 p_1.Type_, .int .i64 r_4.1, .str ([] : List Int)])]) (by kernel_rfl) hmix an ?_
      refine aw_seq (by kernel_rfl) ?_
      refine aw_seq (by kernel_rfl) ?_
      refine aw_region [] [1, 3, 4, 5, 17, 118] [0, 1, 2, 3] 4 (vals := [.ptr 0 0 0 0, .own 1 ((row_2).length), .own 2 ((q_1.2).length), .sl false 1 (List.map (AV.int .u8) (sub b_2 r_4.2.1 (((b_2).length : Nat) : Int))), .ptr 3 0 0 0, .bool (decide ((((row_2).length : Nat) : Int) > (0 : Int)))]) (bxs := [.live (.var 33 (v_T_api_Packed p_1)), .live (.row 24 3 (List.map e_T_api_Value row_2)), .live (.row 24 3 (List.map e_T_api_Value q_1.2)), .live (.var 24 [.int .i64 p_1.Type_, .int .i64 r_4.1, .str ([] : List Int)])]) (by kernel_rfl) hmix an ?_
      obtain ⟨o_4, h_18, h⟩ := bind_some h
      refine aw_mid (mk [(1, .ptr 0 0 0 0), (3, .own 1 ((row_2).length)), (4, .own 2 ((q_1.2).length)), (5, .sl false 1 (List.map (AV.int .u8) (sub b_2 r_4.2.1 (((b_2).length : Nat) : Int)))), (17, .ptr 3 0 0 0)] [(0, .live (.var 33 (v_T_api_Packed p_1))), (1, .live (.row 24 3 (List.map e_T_api_Value row_2))), (2, .live (.row 24 3 (List.map e_T_api_Value q_1.2))), (3, .live (.var 24 [.int .i64 p_1.Type_, .int .i64 o_4, .str ([] : List Int)]))] 4) ?_ ?_
      · replace h := h_18
        refine aw_cond (t := 118) (b := (decide ((((row_2).length : Nat) : Int) > (0 : Int)))) (by kernel_rfl) (by kernel_rfl) ?_ ?_
        rotate_left
        · intro g_10; replace h := cond_f g_10 h
          refine aw_skip (by kernel_rfl) ?_
          replace h := Option.some.inj h; subst h
          exact ⟨rfl, (sub_wkm [0, 1, 2, 3] [] [.s 1, .s 3, .s 4, .s 5, .s 17] [.s 0, .s 1, .s 2, .s 3] (by kernel_rfl) an)⟩
        intro g_10; replace h := cond_t g_10 h
        obtain ⟨x_4, h_19, h⟩ := bind_some h
        refine aw_region [(8, { av := e_T_api_Value x_4 })] [1, 3, 4, 5, 17] [0, 1, 2, 3] 4 (vals := [.ptr 0 0 0 0, .own 1 ((row_2).length), .own 2 ((q_1.2).length), .sl false 1 (List.map (AV.int .u8) (sub b_2 r_4.2.1 (((b_2).length : Nat) : Int))), .ptr 3 0 0 0]) (bxs := [.live (.var 33 (v_T_api_Packed p_1)), .live (.row 24 3 (List.map e_T_api_Value row_2)), .live (.row 24 3 (List.map e_T_api_Value q_1.2)), .live (.var 24 [.int .i64 p_1.Type_, .int .i64 (w_i64 (r_4.1 + x_4.N)), .str ([] : List Int)])]) (by kernel_rfl) hmix (ac (idxL_lo h_19 : (0 : Int) ≤ (w_i64 ((((row_2).length : Nat) : Int) - (1 : Int)))) (ac (by first | (simp; done) | simpa using idxL_hi h_19 : (w_i64 ((((row_2).length : Nat) : Int) - (1 : Int))) < (((row_2).length : Nat) : Int)) (ac (vc_get h_19 : (List.map e_T_api_Value row_2)[(w_i64 ((((row_2).length : Nat) : Int) - (1 : Int))).toNat]? = some (e_T_api_Value x_4)) an))) ?_
        replace h := Option.some.inj h; subst h
        exact ⟨rfl, (sub_wkm [0, 1, 2, 3] [] [.s 1, .s 3, .s 4, .s 5, .s 17] [.s 0, .s 1, .s 2, .s 3] (by kernel_rfl) an)⟩
      refine aw_seq (by kernel_rfl) ?_
      obtain ⟨_, h_20, h⟩ := bind_some h; replace h_20 := need_some h_20
      refine aw_region [(2, { id := 4 }), (3, { id := 5, l := (List.map e_T_api_Value (row_2 ++ ([(⟨p_1.Type_, o_4, ([] : List Int)⟩ : T_api_Value)] : List T_api_Value))), n := ((row_2 ++ ([(⟨p_1.Type_, o_4, ([] : List Int)⟩ : T_api_Value)] : List T_api_Value))).length })] [1, 3, 4, 5] [0, 2, 5] 6 (vals := [.ptr 0 0 0 0, .own 5 (((row_2 ++ ([(⟨p_1.Type_, o_4, ([] : List Int)⟩ : T_api_Value)] : List T_api_Value))).length), .own 2 ((q_1.2).length), .sl false 1 (List.map (AV.int .u8) (sub b_2 r_4.2.1 (((b_2).length : Nat) : Int)))]) (bxs := [.live (.var 33 (v_T_api_Packed p_1)), .live (.row 24 3 (List.map e_T_api_Value q_1.2)), .live (.row 24 3 (List.map e_T_api_Value (row_2 ++ ([(⟨p_1.Type_, o_4, ([] : List Int)⟩ : T_api_Value)] : List T_api_Value))))]) (by kernel_rfl) hmix (ac (by first | (simp; done) | (simp; omega) : (row_2).length = ((List.map e_T_api_Value row_2)).length) (ac (by first | (simp; done) | (simp; omega) : 1 = ((List.map e_T_api_Value ([(⟨p_1.Type_, o_4, ([] : List Int)⟩ : T_api_Value)] : List T_api_Value))).length) (ac (vc_app _ _ : (List.map e_T_api_Value (row_2 ++ ([(⟨p_1.Type_, o_4, ([] : List Int)⟩ : T_api_Value)] : List T_api_Value))) = (List.map e_T_api_Value row_2) ++ (List.map e_T_api_Value ([(⟨p_1.Type_, o_4, ([] : List Int)⟩ : T_api_Value)] : List T_api_Value))) (ac (by simp : ((row_2 ++ ([(⟨p_1.Type_, o_4, ([] : List Int)⟩ : T_api_Value)] : List T_api_Value))).length = ((List.map e_T_api_Value (row_2 ++ ([(⟨p_1.Type_, o_4, ([] : List Int)⟩ : T_api_Value)] : List T_api_Value)))).length) (ac (by first | (simp; done) | simpa using h_20 : (((List.map e_T_api_Value row_2) : List AV).length + ((List.map e_T_api_Value ([(⟨p_1.Type_, o_4, ([] : List Int)⟩ : T_api_Value)] : List T_api_Value)) : List AV).length) * 32 ≤ 140737488355328) an))))) ?_
      refine aw_exit (id := 3) (by kernel_rfl) ?_
      exact ⟨_, (sub_wkm [0, 5, 2] [] [.s 1, .s 3, .s 4, .s 5] [.s 0, .s 1, .s 2] (by kernel_rfl) an), _, _, rfl, h⟩
    intro g_9; replace h := cond_f g_9 h
    refine aw_skip (by kernel_rfl) ?_
    refine aw_seq (by kernel_rfl) ?_
    refine aw_seq (by kernel_rfl) ?_
    obtain ⟨x_5, h_21, h⟩ := bind_some h
    refine aw_region [(2, { av := .int .u8 x_5 })] [1, 3, 4, 5, 14, 138] [0, 1, 2] 3 (vals := [.ptr 0 0 0 0, .own 1 ((row_2).length), .own 2 ((q_1.2).length), .sl false 1 (List.map (AV.int .u8) (sub b_2 r_4.2.1 (((b_2).length : Nat) : Int))), .int .i64 r_4.1, .bool (x_5 == (3 : Int))]) (bxs := [.live (.var 33 (v_T_api_Packed p_1)), .live (.row 24 3 (List.map e_T_api_Value row_2)), .live (.row 24 3 (List.map e_T_api_Value q_1.2))]) (by kernel_rfl) hmix (ac (vc_idx h_21 : idxA (List.map (AV.int .u8) p_1.Bytes) (0 : Int) = some (.int .u8 x_5)) an) ?_
    refine aw_cond (t := 138) (b := (x_5 == (3 : Int))) (by kernel_rfl) (by kernel_rfl) ?_ ?_
    · intro g_11; replace h := cond_t g_11 h
      refine aw_seq (by kernel_rfl) ?_
      refine aw_seq (by kernel_rfl) ?_
      refine aw_mid (mk [(1, .ptr 0 0 0 0), (3, .own 1 ((row_2).length)), (4, .own 2 ((q_1.2).length)), (5, .sl false 1 (List.map (AV.int .u8) (sub b_2 r_4.2.1 (((b_2).length : Nat) : Int)))), (14, .int .i64 r_4.1), (146, .bool (decide (r_4.1 < (0 : Int)) || decide (r_4.1 ≥ (((q_1.2).length : Nat) : Int))))] [(0, .live (.var 33 (v_T_api_Packed p_1))), (1, .live (.row 24 3 (List.map e_T_api_Value row_2))), (2, .live (.row 24 3 (List.map e_T_api_Value q_1.2)))] 3) ?_ ?_
      · rcases Bool.eq_false_or_eq_true (decide (r_4.1 < (0 : Int))) with gg_60 | gg_60
        · refine aw_region [(3, { g := false }), (4, { g := false }), (5, { g := false }), (6, { g := false }), (7, { b := true })] [1, 3, 4, 5, 14, 142, 143, 144, 145, 146] [0, 1, 2] 3 (vals := [.ptr 0 0 0 0, .own 1 ((row_2).length), .own 2 ((q_1.2).length), .sl false 1 (List.map (AV.int .u8) (sub b_2 r_4.2.1 (((b_2).length : Nat) : Int))), .int .i64 r_4.1, .tuple [], .tuple [], .tuple [], .tuple [], .bool true]) (bxs := [.live (.var 33 (v_T_api_Packed p_1)), .live (.row 24 3 (List.map e_T_api_Value row_2)), .live (.row 24 3 (List.map e_T_api_Value q_1.2))]) (by kernel_rfl) hmix (ac gg_60 (ac gg_60 (ac gg_60 (ac gg_60 (ac gg_60 an))))) ?_
          exact ⟨rfl, (sub_wkm [0, 1, 2] [] [.s 1, .s 3, .s 4, .s 5, .s 14, .a 146 (.bool (decide (r_4.1 < (0 : Int)) || decide (r_4.1 ≥ (((q_1.2).length : Nat) : Int))))] [.s 0, .s 1, .s 2] (by kernel_rfl) (ac (congrArg AV.bool (ort gg_60) : (.bool true : AV) = .bool (decide (r_4.1 < (0 : Int)) || decide (r_4.1 ≥ (((q_1.2).length : Nat) : Int)))) an))⟩
        · refine aw_region [(7, { b := false })] [1, 3, 4, 5, 14, 142, 143, 144, 145, 146] [0, 1, 2] 3 (vals := [.ptr 0 0 0 0, .own 1 ((row_2).length), .own 2 ((q_1.2).length), .sl false 1 (List.map (AV.int .u8) (sub b_2 r_4.2.1 (((b_2).length : Nat) : Int))), .int .i64 r_4.1, .int .i64 r_4.1, .own 2 ((q_1.2).length), .int .i64 (((q_1.2).length : Nat) : Int), .bool (decide (r_4.1 ≥ (((q_1.2).length : Nat) : Int))), .bool (decide (r_4.1 ≥ (((q_1.2).length : Nat) : Int)))]) (bxs := [.live (.var 33 (v_T_api_Packed p_1)), .live (.row 24 3 (List.map e_T_api_Value row_2)), .live (.row 24 3 (List.map e_T_api_Value q_1.2))]) (by kernel_rfl) hmix (ac gg_60 (ac gg_60 (ac gg_60 (ac gg_60 (ac gg_60 an))))) ?_
          exact ⟨rfl, (sub_wkm [0, 1, 2] [] [.s 1, .s 3, .s 4, .s 5, .s 14, .a 146 (.bool (decide (r_4.1 < (0 : Int)) || decide (r_4.1 ≥ (((q_1.2).length : Nat) : Int))))] [.s 0, .s 1, .s 2] (by kernel_rfl) (ac (congrArg AV.bool (orf gg_60 rfl) : (.bool (decide (r_4.1 ≥ (((q_1.2).length : Nat) : Int))) : AV) = .bool (decide (r_4.1 < (0 : Int)) || decide (r_4.1 ≥ (((q_1.2).length : Nat) : Int)))) an))⟩
      refine aw_cond (t := 146) (b := (decide (r_4.1 < (0 : Int)) || decide (r_4.1 ≥ (((q_1.2).length : Nat) : Int)))) (by kernel_rfl) (by kernel_rfl) ?_ ?_
      · intro g_12; replace h := cond_t g_12 h
        refine aw_seq (by kernel_rfl) ?_
        refine aw_region [(0, { id := 3, m := 1 })] [2] [3] 4 (vals := [.own 3 0]) (bxs := [.live (.row 24 3 [])]) (by kernel_rfl) hmix an ?_
        refine aw_sub (sub_wkm [3] [] [.a 2 (.own 0 ((([] : List T_api_Value)).length))] [.s 0] (sl2 := [(2, .own 0 ((([] : List T_api_Value)).length))]) (bx2 := [(0, .live (.row 24 3 []))]) (by kernel_rfl) (ac (congrArg (AV.own _) (by first | (simp; done) | (simp; omega)) : (.own 3 0 : AV) = .own 3 ((([] : List T_api_Value)).length)) an)) ?_
        refine aw_ret (by kernel_rfl) ?_
        replace h := Option.some.inj h; subst h
        exact ⟨rfl, Nat.le_of_ble_eq_true rfl, by kernel_rfl⟩
      intro g_12; replace h := cond_f g_12 h
      refine aw_skip (by kernel_rfl) ?_
      refine aw_seq (by kernel_rfl) ?_
      obtain ⟨x_6, h_22, h⟩ := bind_some h
      obtain ⟨_, h_23, h⟩ := bind_some h; replace h_23 := need_some h_23
      refine aw_region [(4, { av := e_T_api_Value x_6 }), (5, { id := 3 }), (6, { id := 4, l := (List.map e_T_api_Value (row_2 ++ ([x_6] : List T_api_Value))), n := ((row_2 ++ ([x_6] : List T_api_Value))).length })] [1, 3, 4, 5] [0, 2, 4] 5 (vals := [.ptr 0 0 0 0, .own 4 (((row_2 ++ ([x_6] : List T_api_Value))).length), .own 2 ((q_1.2).length), .sl false 1 (List.map (AV.int .u8) (sub b_2 r_4.2.1 (((b_2).length : Nat) : Int)))]) (bxs := [.live (.var 33 (v_T_api_Packed p_1)), .live (.row 24 3 (List.map e_T_api_Value q_1.2)), .live (.row 24 3 (List.map e_T_api_Value (row_2 ++ ([x_6] : List T_api_Value))))]) (by kernel_rfl) hmix (ac (idxL_lo h_22 : (0 : Int) ≤ r_4.1) (ac (by first | (simp; done) | simpa using idxL_hi h_22 : r_4.1 < (((q_1.2).length : Nat) : Int)) (ac (vc_get h_22 : (List.map e_T_api_Value q_1.2)[(r_4.1).toNat]? = some (e_T_api_Value x_6)) (ac (by first | (simp; done) | (simp; omega) : (row_2).length = ((List.map e_T_api_Value row_2)).length) (ac (by first | (simp; done) | (simp; omega) : 1 = ((List.map e_T_api_Value ([x_6] : List T_api_Value))).length) (ac (vc_app _ _ : (List.map e_T_api_Value (row_2 ++ ([x_6] : List T_api_Value))) = (List.map e_T_api_Value row_2) ++ (List.map e_T_api_Value ([x_6] : List T_api_Value))) (ac (by simp : ((row_2 ++ ([x_6] : List T_api_Value))).length = ((List.map e_T_api_Value (row_2 ++ ([x_6] : List T_api_Value)))).length) (ac (by first | (simp; done) | simpa using h_23 : (((List.map e_T_api_Value row_2) : List AV).length + ((List.map e_T_api_Value ([x_6] : List T_api_Value)) : List AV).length) * 32 ≤ 140737488355328) an)))))))) ?_
      refine aw_exit (id := 3) (by kernel_rfl) ?_
      exact ⟨_, (sub_wkm [0, 4, 2] [] [.s 1, .s 3, .s 4, .s 5] [.s 0, .s 1, .s 2] (by kernel_rfl) an), _, _, rfl, h⟩
    intro g_11; replace h := cond_f g_11 h
    refine aw_skip (by kernel_rfl) ?_
    refine aw_seq (by kernel_rfl) ?_
    obtain ⟨r_5, h_24, h⟩ := bind_some h
    refine aw_region [(1, { av := .tuple [e_T_api_Value r_5.1, .int .i64 r_5.2], l := [.sl false 1 (List.map (AV.int .u8) (sub b_2 r_4.2.1 (((b_2).length : Nat) : Int)))] }), (5, { id := 3 })] [1, 3, 4, 5, 14, 18, 19] [0, 1, 2, 3] 4 (vals := [.ptr 0 0 0 0, .own 1 ((row_2).length), .own 2 ((q_1.2).length), .sl false 1 (List.map (AV.int .u8) (sub b_2 r_4.2.1 (((b_2).length : Nat) : Int))), .int .i64 r_4.1, .ptr 3 0 0 0, .int .i64 r_5.2]) (bxs := [.live (.var 33 (v_T_api_Packed p_1)), .live (.row 24 3 (List.map e_T_api_Value row_2)), .live (.row 24 3 (List.map e_T_api_Value q_1.2)), .live (.var 24 (v_T_api_Value r_5.1))]) (by kernel_rfl) hmix (ac (rfl : ([.sl false 1 (List.map (AV.int .u8) (sub b_2 r_4.2.1 (((b_2).length : Nat) : Int)))] : List AV) = [.sl false 1 (List.map (AV.int .u8) (sub b_2 r_4.2.1 (((b_2).length : Nat) : Int)))]) (ac (rfl : ([] : List BoxSt) = []) (ac (R33_value_ok F (sub b_2 r_4.2.1 (((b_2).length : Nat) : Int)) r_5 h_24 : TripleG prog 44 [] [] [.sl false 1 (List.map (AV.int .u8) (sub b_2 r_4.2.1 (((b_2).length : Nat) : Int)))] [] (.tuple [e_T_api_Value r_5.1, .int .i64 r_5.2])) an))) ?_
    refine aw_seq (by kernel_rfl) ?_
    refine aw_seq (by kernel_rfl) ?_
    refine aw_region [] [1, 3, 4, 5, 14, 18, 19, 160] [0, 1, 2, 3] 4 (vals := [.ptr 0 0 0 0, .own 1 ((row_2).length), .own 2 ((q_1.2).length), .sl false 1 (List.map (AV.int .u8) (sub b_2 r_4.2.1 (((b_2).length : Nat) : Int))), .int .i64 r_4.1, .ptr 3 0 0 0, .int .i64 r_5.2, .bool (r_5.2 == (0 : Int))]) (bxs := [.live (.var 33 (v_T_api_Packed p_1)), .live (.row 24 3 (List.map e_T_api_Value row_2)), .live (.row 24 3 (List.map e_T_api_Value q_1.2)), .live (.var 24 (v_T_api_Value r_5.1))]) (by kernel_rfl) hmix an ?_
    refine aw_cond (t := 160) (b := (r_5.2 == (0 : Int))) (by kernel_rfl) (by kernel_rfl) ?_ ?_
    · intro g_13; replace h := cond_t g_13 h
      refine aw_seq (by kernel_rfl) ?_
      refine aw_region [(0, { id := 4, m := 1 })] [2] [4] 5 (vals := [.own 4 0]) (bxs := [.live (.row 24 3 [])]) (by kernel_rfl) hmix an ?_
      refine aw_sub (sub_wkm [4] [] [.a 2 (.own 0 ((([] : List T_api_Value)).length))] [.s 0] (sl2 := [(2, .own 0 ((([] : List T_api_Value)).length))]) (bx2 := [(0, .live (.row 24 3 []))]) (by kernel_rfl) (ac (congrArg (AV.own _) (by first | (simp; done) | (simp; omega)) : (.own 4 0 : AV) = .own 4 ((([] : List T_api_Value)).length)) an)) ?_
      refine aw_ret (by kernel_rfl) ?_
      replace h := Option.some.inj h; subst h
      exact ⟨rfl, Nat.le_of_ble_eq_true rfl, by kernel_rfl⟩
    intro g_13; replace h := cond_f g_13 h
    refine aw_skip (by kernel_rfl) ?_
    refine aw_seq (by kernel_rfl) ?_
    refine aw_seq (by kernel_rfl) ?_
    refine aw_region [] [1, 3, 4, 5, 14, 18, 19, 20] [0, 1, 2, 3] 4 (vals := [.ptr 0 0 0 0, .own 1 ((row_2).length), .own 2 ((q_1.2).length), .sl false 1 (List.map (AV.int .u8) (sub b_2 r_4.2.1 (((b_2).length : Nat) : Int))), .int .i64 r_4.1, .ptr 3 0 0 0, .int .i64 r_5.2, .int .i64 (0 : Int)]) (bxs := [.live (.var 33 (v_T_api_Packed p_1)), .live (.row 24 3 (List.map e_T_api_Value row_2)), .live (.row 24 3 (List.map e_T_api_Value q_1.2)), .live (.var 24 (v_T_api_Value r_5.1))]) (by kernel_rfl) hmix an ?_
    obtain ⟨o_5, h_25, h⟩ := bind_some h
    refine aw_mid (mk [(1, .ptr 0 0 0 0), (3, .own 1 ((o_5).length)), (4, .own 2 ((q_1.2).length)), (5, .sl false 1 (List.map (AV.int .u8) (sub b_2 r_4.2.1 (((b_2).length : Nat) : Int)))), (19, .int .i64 r_5.2)] [(0, .live (.var 33 (v_T_api_Packed p_1))), (1, .live (.row 24 3 (List.map e_T_api_Value o_5))), (2, .live (.row 24 3 (List.map e_T_api_Value q_1.2)))] 3) ?_ ?_
    · replace h := h_25
      refine aw_block (id := 4) (by kernel_rfl) ?_
      refine aw_sub (sub_wkm [0, 1, 2, 3] [] [.s 1, .s 3, .s 4, .s 5, .s 14, .s 18, .s 19, .s 20] [.s 0, .s 1, .s 2, .s 3] (sl2 := [(1, .ptr 0 0 0 0), (3, .own 1 ((row_2).length)), (4, .own 2 ((q_1.2).length)), (5, .sl false 1 (List.map (AV.int .u8) (sub b_2 r_4.2.1 (((b_2).length : Nat) : Int)))), (14, .int .i64 r_4.1), (18, .ptr 3 0 0 0), (19, .int .i64 r_5.2), (20, .int .i64 (0 : Int))]) (bx2 := [(0, .live (.var 33 (v_T_api_Packed p_1))), (1, .live (.row 24 3 (List.map e_T_api_Value row_2))), (2, .live (.row 24 3 (List.map e_T_api_Value q_1.2))), (3, .live (.var 24 (v_T_api_Value r_5.1)))]) (by kernel_rfl) an) ?_
      refine aw_loopF (fun n st => ∃ (j_1 : Int), ∃ (row_3 : List T_api_Value), st = mk [(1, .ptr 0 0 0 0), (3, .own 1 ((row_3).length)), (4, .own 2 ((q_1.2).length)), (5, .sl false 1 (List.map (AV.int .u8) (sub b_2 r_4.2.1 (((b_2).length : Nat) : Int)))), (14, .int .i64 r_4.1), (18, .ptr 3 0 0 0), (19, .int .i64 r_5.2), (20, .int .i64 j_1)] [(0, .live (.var 33 (v_T_api_Packed p_1))), (1, .live (.row 24 3 (List.map e_T_api_Value row_3))), (2, .live (.row 24 3 (List.map e_T_api_Value q_1.2))), (3, .live (.var 24 (v_T_api_Value r_5.1)))] 4 ∧ R33_unpack_L3 F p_1 r_4 r_5 n j_1 row_3 = some o_5) F (by kernel_rfl) ⟨_, _, rfl, h⟩ ?_ ?_
      · rintro _ ⟨_, _, _, h⟩; exact none_ne (h : (none : Option (List T_api_Value)) = some o_5)
      rintro n_3 _ ⟨j_1, row_3, rfl, h⟩
      replace h : R33_unpack_L3_body F p_1 r_4 r_5 (R33_unpack_L3 F p_1 r_4 r_5 n_3) j_1 row_3 = some o_5 := h
      unfold R33_unpack_L3_body at h
      refine aw_seq (by kernel_rfl) ?_
      refine aw_seq (by kernel_rfl) ?_
      refine aw_mid (mk [(1, .ptr 0 0 0 0), (3, .own 1 ((row_3).length)), (4, .own 2 ((q_1.2).length)), (5, .sl false 1 (List.map (AV.int .u8) (sub b_2 r_4.2.1 (((b_2).length : Nat) : Int)))), (14, .int .i64 r_4.1), (18, .ptr 3 0 0 0), (19, .int .i64 r_5.2), (20, .int .i64 j_1), (170, .bool (decide (j_1 < r_4.1) && decide ((((row_3).length : Nat) : Int) < p_1.N)))] [(0, .live (.var 33 (v_T_api_Packed p_1))), (1, .live (.row 24 3 (List.map e_T_api_Value row_3))), (2, .live (.row 24 3 (List.map e_T_api_Value q_1.2))), (3, .live (.var 24 (v_T_api_Value r_5.1)))] 4) ?_ ?_
      · rcases Bool.eq_false_or_eq_true (decide (j_1 < r_4.1)) with gg_64 | gg_64
        · refine aw_region [(9, { b := true })] [1, 3, 4, 5, 14, 18, 19, 20, 165, 166, 167, 168, 169, 170] [0, 1, 2, 3] 4 (vals := [.ptr 0 0 0 0, .own 1 ((row_3).length), .own 2 ((q_1.2).length), .sl false 1 (List.map (AV.int .u8) (sub b_2 r_4.2.1 (((b_2).length : Nat) : Int))), .int .i64 r_4.1, .ptr 3 0 0 0, .int .i64 r_5.2, .int .i64 j_1, .own 1 ((row_3).length), .int .i64 (((row_3).length : Nat) : Int), .ptr 0 0 0 1, .int .i64 p_1.N, .bool (decide ((((row_3).length : Nat) : Int) < p_1.N)), .bool (decide ((((row_3).length : Nat) : Int) < p_1.N))]) (bxs := [.live (.var 33 (v_T_api_Packed p_1)), .live (.row 24 3 (List.map e_T_api_Value row_3)), .live (.row 24 3 (List.map e_T_api_Value q_1.2)), .live (.var 24 (v_T_api_Value r_5.1))]) (by kernel_rfl) hmix (ac gg_64 (ac gg_64 (ac gg_64 (ac gg_64 (ac gg_64 (ac gg_64 an)))))) ?_
          exact ⟨rfl, (sub_wkm [0, 1, 2, 3] [] [.s 1, .s 3, .s 4, .s 5, .s 14, .s 18, .s 19, .s 20, .a 170 (.bool (decide (j_1 < r_4.1) && decide ((((row_3).length : Nat) : Int) < p_1.N)))] [.s 0, .s 1, .s 2, .s 3] (by kernel_rfl) (ac (congrArg AV.bool (andt gg_64 rfl) : (.bool (decide ((((row_3).length : Nat) : Int) < p_1.N)) : AV) = .bool (decide (j_1 < r_4.1) && decide ((((row_3).length : Nat) : Int) < p_1.N))) an))⟩
        · refine aw_region [(4, { g := false }), (5, { g := false }), (6, { g := false }), (7, { g := false }), (8, { g := false }), (9, { b := false })] [1, 3, 4, 5, 14, 18, 19, 20, 165, 166, 167, 168, 169, 170] [0, 1, 2, 3] 4 (vals := [.ptr 0 0 0 0, .own 1 ((row_3).length), .own 2 ((q_1.2).length), .sl false 1 (List.map (AV.int .u8) (sub b_2 r_4.2.1 (((b_2).length : Nat) : Int))), .int .i64 r_4.1, .ptr 3 0 0 0, .int .i64 r_5.2, .int .i64 j_1, .tuple [], .tuple [], .tuple [], .tuple [], .tuple [], .bool false]) (bxs := [.live (.var 33 (v_T_api_Packed p_1)), .live (.row 24 3 (List.map e_T_api_Value row_3)), .live (.row 24 3 (List.map e_T_api_Value q_1.2)), .live (.var 24 (v_T_api_Value r_5.1))]) (by kernel_rfl) hmix (ac gg_64 (ac gg_64 (ac gg_64 (ac gg_64 (ac gg_64 (ac gg_64 an)))))) ?_
          exact ⟨rfl, (sub_wkm [0, 1, 2, 3] [] [.s 1, .s 3, .s 4, .s 5, .s 14, .s 18, .s 19, .s 20, .a 170 (.bool (decide (j_1 < r_4.1) && decide ((((row_3).length : Nat) : Int) < p_1.N)))] [.s 0, .s 1, .s 2, .s 3] (by kernel_rfl) (ac (congrArg AV.bool (andf gg_64) : (.bool false : AV) = .bool (decide (j_1 < r_4.1) && decide ((((row_3).length : Nat) : Int) < p_1.N))) an))⟩
      refine aw_cond (t := 170) (b := (decide (j_1 < r_4.1) && decide ((((row_3).length : Nat) : Int) < p_1.N))) (by kernel_rfl) (by kernel_rfl) ?_ ?_
      rotate_left
      · intro g_14; replace h := cond_f g_14 h
        refine aw_exit (id := 4) (by kernel_rfl) ?_
        replace h := Option.some.inj h; subst h
        exact ⟨rfl, (sub_wkm [0, 1, 2] [] [.s 1, .s 3, .s 4, .s 5, .s 19] [.s 0, .s 1, .s 2] (by kernel_rfl) an)⟩
      intro g_14; replace h := cond_t g_14 h
      refine aw_skip (by kernel_rfl) ?_
      refine aw_seq (by kernel_rfl) ?_
      refine aw_block (id := 5) (by kernel_rfl) ?_
      obtain ⟨_, h_26, h⟩ := bind_some h; replace h_26 := need_some h_26
      refine aw_region [(2, { id := 4 }), (3, { id := 5, l := (List.map e_T_api_Value (row_3 ++ ([r_5.1] : List T_api_Value))), n := ((row_3 ++ ([r_5.1] : List T_api_Value))).length })] [1, 3, 4, 5, 14, 18, 19, 20] [0, 2, 3, 5] 6 (vals := [.ptr 0 0 0 0, .own 5 (((row_3 ++ ([r_5.1] : List T_api_Value))).length), .own 2 ((q_1.2).length), .sl false 1 (List.map (AV.int .u8) (sub b_2 r_4.2.1 (((b_2).length : Nat) : Int))), .int .i64 r_4.1, .ptr 3 0 0 0, .int .i64 r_5.2, .int .i64 j_1]) (bxs := [.live (.var 33 (v_T_api_Packed p_1)), .live (.row 24 3 (List.map e_T_api_Value q_1.2)), .live (.var 24 (v_T_api_Value r_5.1)), .live (.row 24 3 (List.map e_T_api_Value (row_3 ++ ([r_5.1] : List T_api_Value))))]) (by kernel_rfl) hmix (ac (by first | (simp; done) | (simp; omega) : (row_3).length = ((List.map e_T_api_Value row_3)).length) (ac (by first | (simp; done) | (simp; omega) : 1 = ((List.map e_T_api_Value ([r_5.1] : List T_api_Value))).length) (ac (vc_app _ _ : (List.map e_T_api_Value (row_3 ++ ([r_5.1] : List T_api_Value))) = (List.map e_T_api_Value row_3) ++ (List.map e_T_api_Value ([r_5.1] : List T_api_Value))) (ac (by simp : ((row_3 ++ ([r_5.1] : List T_api_Value))).length = ((List.map e_T_api_Value (row_3 ++ ([r_5.1] : List T_api_Value)))).length) (ac (by first | (simp; done) | simpa using h_26 : (((List.map e_T_api_Value row_3) : List AV).length + ((List.map e_T_api_Value ([r_5.1] : List T_api_Value)) : List AV).length) * 32 ≤ 140737488355328) an))))) ?_
      refine aw_region [] [1, 3, 4, 5, 14, 18, 19, 20] [0, 2, 3, 5] 6 (vals := [.ptr 0 0 0 0, .own 5 (((row_3 ++ ([r_5.1] : List T_api_Value))).length), .own 2 ((q_1.2).length), .sl false 1 (List.map (AV.int .u8) (sub b_2 r_4.2.1 (((b_2).length : Nat) : Int))), .int .i64 r_4.1, .ptr 3 0 0 0, .int .i64 r_5.2, .int .i64 (w_i64 (j_1 + (1 : Int)))]) (bxs := [.live (.var 33 (v_T_api_Packed p_1)), .live (.row 24 3 (List.map e_T_api_Value q_1.2)), .live (.var 24 (v_T_api_Value r_5.1)), .live (.row 24 3 (List.map e_T_api_Value (row_3 ++ ([r_5.1] : List T_api_Value))))]) (by kernel_rfl) hmix an ?_
      exact ⟨_, (sub_wkm [0, 5, 2, 3] [] [.s 1, .s 3, .s 4, .s 5, .s 14, .s 18, .s 19, .s 20] [.s 0, .s 1, .s 2, .s 3] (by kernel_rfl) an), _, _, rfl, h⟩
    obtain ⟨_, h_27, h⟩ := bind_some h; replace h_27 := need_some h_27
    refine aw_region [(2, { l := (List.map (AV.int .u8) (sub (sub b_2 r_4.2.1 (((b_2).length : Nat) : Int)) r_5.2 (((sub b_2 r_4.2.1 (((b_2).length : Nat) : Int)).length : Nat) : Int))) })] [1, 3, 4, 5] [0, 1, 2] 3 (vals := [.ptr 0 0 0 0, .own 1 ((o_5).length), .own 2 ((q_1.2).length), .sl false 1 (List.map (AV.int .u8) (sub (sub b_2 r_4.2.1 (((b_2).length : Nat) : Int)) r_5.2 (((sub b_2 r_4.2.1 (((b_2).length : Nat) : Int)).length : Nat) : Int)))]) (bxs := [.live (.var 33 (v_T_api_Packed p_1)), .live (.row 24 3 (List.map e_T_api_Value o_5)), .live (.row 24 3 (List.map e_T_api_Value q_1.2))]) (by kernel_rfl) hmix (ac h_27.1 (ac (vc_lenle h_27.2 : r_5.2 ≤ ((((List.map (AV.int .u8) (sub b_2 r_4.2.1 (((b_2).length : Nat) : Int)))).length : Nat) : Int)) (ac (Int.le_refl _ : ((((List.map (AV.int .u8) (sub b_2 r_4.2.1 (((b_2).length : Nat) : Int)))).length : Nat) : Int) ≤ ((((List.map (AV.int .u8) (sub b_2 r_4.2.1 (((b_2).length : Nat) : Int)))).length : Nat) : Int)) (ac (vc_subn _ _ : (List.map (AV.int .u8) (sub (sub b_2 r_4.2.1 (((b_2).length : Nat) : Int)) r_5.2 (((sub b_2 r_4.2.1 (((b_2).length : Nat) : Int)).length : Nat) : Int))) = (((List.map (AV.int .u8) (sub b_2 r_4.2.1 (((b_2).length : Nat) : Int)))).take (((((List.map (AV.int .u8) (sub b_2 r_4.2.1 (((b_2).length : Nat) : Int)))).length : Nat) : Int)).toNat).drop (r_5.2).toNat) an)))) ?_
    exact ⟨_, (sub_wkm [0, 1, 2] [] [.s 1, .s 3, .s 4, .s 5] [.s 0, .s 1, .s 2] (by kernel_rfl) an), _, _, rfl, h⟩
  intro e st1 hk
  rcases o_3 with q_3 | q_4
  rotate_left
  · obtain ⟨rfl, hf⟩ := hk
    replace h := Option.some.inj h; subst h
    exact ⟨st1, Sub.refl _ _, .inr rfl, hf⟩
  obtain ⟨rfl, hs⟩ := hk
  refine ⟨_, hs, ?_⟩
  refine aw_seq (by kernel_rfl) ?_
  refine aw_region [] [2] [0] 1 (vals := [.own 0 ((q_3).length)]) (bxs := [.live (.row 24 3 (List.map e_T_api_Value q_3))]) (by kernel_rfl) hmix an ?_
  refine aw_sub (sub_wkm [0] [] [.s 2] [.s 0] (sl2 := [(2, .own 0 ((q_3).length))]) (bx2 := [(0, .live (.row 24 3 (List.map e_T_api_Value q_3)))]) (by kernel_rfl) an) ?_
  refine aw_ret (by kernel_rfl) ?_
  replace h := Option.some.inj h; subst h
  exact ⟨.inr rfl, Nat.le_of_ble_eq_true rfl, by kernel_rfl⟩

theorem R33_Decode_ok (F : Nat) (p_1 : T_api_Packed) (r : (List (T_api_Value)) × Int) (h : R33_Decode F p_1 = some r) : TripleG prog 17 [] [] [e_T_api_Packed p_1] [] (.tuple [.sl false 3 (List.map e_T_api_Value r.1), .int .i64 r.2]) := by
  refine triple_intro (fn := Go.Proofs.Try.f17) (code := codeOf Go.Proofs.Try.f17) (by kernel_rfl) (by kernel_rfl) (Nat.le_of_ble_eq_true (by kernel_rfl)) ?_
  unfold R33_Decode at h
  refine aw_seq (by kernel_rfl) ?_
  refine aw_region [(0, { id := 0 })] [1] [0] 1 (vals := [.ptr 0 0 0 0]) (bxs := [.live (.var 33 (v_T_api_Packed p_1))]) (by kernel_rfl) hmix an ?_
  refine aw_seq (by kernel_rfl) ?_
  refine aw_seq (by kernel_rfl) ?_
  refine aw_mid (mk [(1, .ptr 0 0 0 0), (14, .bool (decide (p_1.Type_ < (1 : Int)) || decide (p_1.Type_ > (3 : Int))))] [(0, .live (.var 33 (v_T_api_Packed p_1)))] 1) ?_ ?_
  · rcases Bool.eq_false_or_eq_true (decide (p_1.Type_ < (1 : Int))) with gg_4 | gg_4
    · refine aw_region [(4, { g := false }), (5, { g := false }), (6, { g := false }), (7, { b := true })] [1, 14] [0] 1 (vals := [.ptr 0 0 0 0, .bool true]) (bxs := [.live (.var 33 (v_T_api_Packed p_1))]) (by kernel_rfl) hmix (ac gg_4 (ac gg_4 (ac gg_4 (ac gg_4 an)))) ?_
      exact ⟨rfl, (sub_wkm [0] [] [.s 1, .a 14 (.bool (decide (p_1.Type_ < (1 : Int)) || decide (p_1.Type_ > (3 : Int))))] [.s 0] (by kernel_rfl) (ac (congrArg AV.bool (ort gg_4) : (.bool true : AV) = .bool (decide (p_1.Type_ < (1 : Int)) || decide (p_1.Type_ > (3 : Int)))) an))⟩
    · refine aw_region [(7, { b := false })] [1, 14] [0] 1 (vals := [.ptr 0 0 0 0, .bool (decide (p_1.Type_ > (3 : Int)))]) (bxs := [.live (.var 33 (v_T_api_Packed p_1))]) (by kernel_rfl) hmix (ac gg_4 (ac gg_4 (ac gg_4 (ac gg_4 an)))) ?_
      exact ⟨rfl, (sub_wkm [0] [] [.s 1, .a 14 (.bool (decide (p_1.Type_ < (1 : Int)) || decide (p_1.Type_ > (3 : Int))))] [.s 0] (by kernel_rfl) (ac (congrArg AV.bool (orf gg_4 rfl) : (.bool (decide (p_1.Type_ > (3 : Int))) : AV) = .bool (decide (p_1.Type_ < (1 : Int)) || decide (p_1.Type_ > (3 : Int)))) an))⟩
  refine aw_cond (t := 14) (b := (decide (p_1.Type_ < (1 : Int)) || decide (p_1.Type_ > (3 : Int)))) (by kernel_rfl) (by kernel_rfl) ?_ ?_
  · intro g_1; replace h := cond_t g_1 h
    refine aw_seq (by kernel_rfl) ?_
    refine aw_region [] [2, 3] [] 1 (vals := [.nilsl, .int .i64 (1 : Int)]) (bxs := []) (by kernel_rfl) hmix an ?_
    refine aw_sub (sub_wkm [] [] [.a 2 (.sl false 3 []), .s 3] [] (sl2 := [(2, .sl false 3 []), (3, .int .i64 (1 : Int))]) (bx2 := []) (by kernel_rfl) (ac (rfl : ([] : List AV) = []) an)) ?_
    refine aw_ret (by kernel_rfl) ?_
    replace h := Option.some.inj h; subst h
    exact ⟨.inr rfl, Nat.le_of_ble_eq_true rfl, by kernel_rfl⟩
  intro g_1; replace h := cond_f g_1 h
  refine aw_skip (by kernel_rfl) ?_
  refine aw_seq (by kernel_rfl) ?_
  refine aw_seq (by kernel_rfl) ?_
  refine aw_region [] [1, 17] [0] 1 (vals := [.ptr 0 0 0 0, .bool (decide (p_1.N > (20000 : Int)))]) (bxs := [.live (.var 33 (v_T_api_Packed p_1))]) (by kernel_rfl) hmix an ?_
  refine aw_cond (t := 17) (b := (decide (p_1.N > (20000 : Int)))) (by kernel_rfl) (by kernel_rfl) ?_ ?_
  · intro g_2; replace h := cond_t g_2 h
    refine aw_seq (by kernel_rfl) ?_
    refine aw_region [] [2, 3] [] 1 (vals := [.nilsl, .int .i64 (7 : Int)]) (bxs := []) (by kernel_rfl) hmix an ?_
    refine aw_sub (sub_wkm [] [] [.a 2 (.sl false 3 []), .s 3] [] (sl2 := [(2, .sl false 3 []), (3, .int .i64 (7 : Int))]) (bx2 := []) (by kernel_rfl) (ac (rfl : ([] : List AV) = []) an)) ?_
    refine aw_ret (by kernel_rfl) ?_
    replace h := Option.some.inj h; subst h
    exact ⟨.inr rfl, Nat.le_of_ble_eq_true rfl, by kernel_rfl⟩
  intro g_2; replace h := cond_f g_2 h
  refine aw_skip (by kernel_rfl) ?_
  refine aw_seq (by kernel_rfl) ?_
  obtain ⟨r_1, h_1, h⟩ := bind_some h
  refine aw_region [(1, { av := .own 0 ((r_1).length), ids := [1], l := [e_T_api_Packed p_1], post := [(.row 24 3 (List.map e_T_api_Value r_1))] })] [1, 4] [0, 1] 2 (vals := [.ptr 0 0 0 0, .own 1 ((r_1).length)]) (bxs := [.live (.var 33 (v_T_api_Packed p_1)), .live (.row 24 3 (List.map e_T_api_Value r_1))]) (by kernel_rfl) hmix (ac (rfl : ([e_T_api_Packed p_1] : List AV) = [e_T_api_Packed p_1]) (ac (rfl : ([] : List BoxSt) = []) (ac (R33_unpack_ok F p_1 r_1 h_1 : TripleG prog 33 [] [] [e_T_api_Packed p_1] [(.row 24 3 (List.map e_T_api_Value r_1))] (.own 0 ((r_1).length))) an))) ?_
  refine aw_seq (by kernel_rfl) ?_
  refine aw_sub (sub_wkm [0] [1] [.s 1, .a 4 (.sl false 3 (List.map e_T_api_Value r_1))] [.s 0] (sl2 := [(1, .ptr 0 0 0 0), (4, .sl false 3 (List.map e_T_api_Value r_1))]) (bx2 := [(0, .live (.var 33 (v_T_api_Packed p_1)))]) (by kernel_rfl) (ac (by first | (simp; done) | (simp; omega) : (r_1).length = ((List.map e_T_api_Value r_1)).length) (ac (rfl : 3 = 3) (ac (rfl : ((List.map e_T_api_Value r_1) : List AV) = (List.map e_T_api_Value r_1)) (ac (rfl : (!false || false) = true) an))))) ?_
  obtain ⟨r_2, h_2, h⟩ := bind_some h
  refine aw_region [(3, { av := .tuple [e_T_api_Packed r_2.1, .int .i64 r_2.2], l := [.int .i64 p_1.Type_, .sl false 3 (List.map e_T_api_Value r_1)] }), (7, { id := 1 })] [1, 4, 5, 6] [0, 1] 2 (vals := [.ptr 0 0 0 0, .sl false 3 (List.map e_T_api_Value r_1), .ptr 1 0 0 0, .int .i64 r_2.2]) (bxs := [.live (.var 33 (v_T_api_Packed p_1)), .live (.var 33 (v_T_api_Packed r_2.1))]) (by kernel_rfl) hmix (ac (rfl : ([.int .i64 p_1.Type_, .sl false 3 (List.map e_T_api_Value r_1)] : List AV) = [.int .i64 p_1.Type_, .sl false 3 (List.map e_T_api_Value r_1)]) (ac (rfl : ([] : List BoxSt) = []) (ac (R33_Encode_ok F p_1.Type_ r_1 r_2 h_2 : TripleG prog 13 [] [] [.int .i64 p_1.Type_, .sl false 3 (List.map e_T_api_Value r_1)] [] (.tuple [e_T_api_Packed r_2.1, .int .i64 r_2.2])) an))) ?_
  refine aw_seq (by kernel_rfl) ?_
  refine aw_seq (by kernel_rfl) ?_
  refine aw_mid (mk [(4, .sl false 3 (List.map e_T_api_Value r_1)), (44, .bool ((r_2.2 != (0 : Int)) || ((r_2.1.N != p_1.N) || !(r_2.1.Bytes == p_1.Bytes))))] [] 0) ?_ ?_
  · rcases Bool.eq_false_or_eq_true (r_2.2 != (0 : Int)) with gg_5 | gg_5
    · refine aw_region [(3, { g := false }), (4, { g := false }), (5, { g := false }), (6, { g := false }), (7, { g := false }), (8, { b := true }), (10, { g := false }), (11, { g := false }), (12, { g := false }), (13, { g := false }), (14, { g := false }), (15, { g := false }), (16, { g := false }), (17, { b := true })] [4, 44] [] 2 (vals := [.sl false 3 (List.map e_T_api_Value r_1), .bool true]) (bxs := []) (by kernel_rfl) hmix (ac gg_5 (ac gg_5 (ac gg_5 (ac gg_5 (ac gg_5 (ac gg_5 (ac (rfl : true = !false) (ac (rfl : true = !false) (ac (rfl : true = !false) (ac (rfl : true = !false) (ac (rfl : true = !false) (ac (rfl : true = !false) (ac (rfl : true = !false) (ac (rfl : true = true) an)))))))))))))) ?_
      exact ⟨rfl, (sub_wkm [] [] [.s 4, .a 44 (.bool ((r_2.2 != (0 : Int)) || ((r_2.1.N != p_1.N) || !(r_2.1.Bytes == p_1.Bytes))))] [] (by kernel_rfl) (ac (congrArg AV.bool (ort gg_5) : (.bool true : AV) = .bool ((r_2.2 != (0 : Int)) || ((r_2.1.N != p_1.N) || !(r_2.1.Bytes == p_1.Bytes)))) an))⟩
    · rcases Bool.eq_false_or_eq_true (r_2.1.N != p_1.N) with gg_6 | gg_6
      · refine aw_region [(8, { b := false }), (10, { g := false }), (11, { g := false }), (12, { g := false }), (13, { g := false }), (14, { g := false }), (15, { g := false }), (16, { g := false }), (17, { b := true })] [4, 44] [] 2 (vals := [.sl false 3 (List.map e_T_api_Value r_1), .bool true]) (bxs := []) (by kernel_rfl) hmix (ac gg_5 (ac gg_5 (ac gg_5 (ac gg_5 (ac gg_5 (ac gg_5 (ac gg_6 (ac gg_6 (ac gg_6 (ac gg_6 (ac gg_6 (ac gg_6 (ac gg_6 (ac gg_6 an)))))))))))))) ?_
        exact ⟨rfl, (sub_wkm [] [] [.s 4, .a 44 (.bool ((r_2.2 != (0 : Int)) || ((r_2.1.N != p_1.N) || !(r_2.1.Bytes == p_1.Bytes))))] [] (by kernel_rfl) (ac (congrArg AV.bool (orf gg_5 (ort gg_6)) : (.bool true : AV) = .bool ((r_2.2 != (0 : Int)) || ((r_2.1.N != p_1.N) || !(r_2.1.Bytes == p_1.Bytes)))) an))⟩
      · refine aw_region [(8, { b := false }), (12, { s := r_2.1.Bytes }), (15, { s := p_1.Bytes }), (17, { b := false })] [4, 44] [] 2 (vals := [.sl false 3 (List.map e_T_api_Value r_1), .bool (!(r_2.1.Bytes == p_1.Bytes))]) (bxs := []) (by kernel_rfl) hmix (ac gg_5 (ac gg_5 (ac gg_5 (ac gg_5 (ac gg_5 (ac gg_5 (ac gg_6 (ac gg_6 (ac gg_6 (ac (rfl : (List.map (AV.int .u8) r_2.1.Bytes) = List.map (AV.int .u8) r_2.1.Bytes) (ac gg_6 (ac gg_6 (ac gg_6 (ac (rfl : (List.map (AV.int .u8) p_1.Bytes) = List.map (AV.int .u8) p_1.Bytes) (ac gg_6 (ac gg_6 an)))))))))))))))) ?_
        exact ⟨rfl, (sub_wkm [] [] [.s 4, .a 44 (.bool ((r_2.2 != (0 : Int)) || ((r_2.1.N != p_1.N) || !(r_2.1.Bytes == p_1.Bytes))))] [] (by kernel_rfl) (ac (congrArg AV.bool (orf gg_5 (orf gg_6 rfl)) : (.bool (!(r_2.1.Bytes == p_1.Bytes)) : AV) = .bool ((r_2.2 != (0 : Int)) || ((r_2.1.N != p_1.N) || !(r_2.1.Bytes == p_1.Bytes)))) an))⟩
  refine aw_cond (t := 44) (b := ((r_2.2 != (0 : Int)) || ((r_2.1.N != p_1.N) || !(r_2.1.Bytes == p_1.Bytes)))) (by kernel_rfl) (by kernel_rfl) ?_ ?_
  · intro g_3; replace h := cond_t g_3 h
    refine aw_seq (by kernel_rfl) ?_
    refine aw_region [] [2, 3] [] 0 (vals := [.nilsl, .int .i64 (10 : Int)]) (bxs := []) (by kernel_rfl) hmix an ?_
    refine aw_sub (sub_wkm [] [] [.a 2 (.sl false 3 []), .s 3] [] (sl2 := [(2, .sl false 3 []), (3, .int .i64 (10 : Int))]) (bx2 := []) (by kernel_rfl) (ac (rfl : ([] : List AV) = []) an)) ?_
    refine aw_ret (by kernel_rfl) ?_
    replace h := Option.some.inj h; subst h
    exact ⟨.inr rfl, Nat.le_of_ble_eq_true rfl, by kernel_rfl⟩
  intro g_3; replace h := cond_f g_3 h
  refine aw_skip (by kernel_rfl) ?_
  refine aw_seq (by kernel_rfl) ?_
  refine aw_region [] [2, 3] [] 0 (vals := [.sl false 3 (List.map e_T_api_Value r_1), .int .i64 (0 : Int)]) (bxs := []) (by kernel_rfl) hmix an ?_
  refine aw_ret (by kernel_rfl) ?_
  replace h := Option.some.inj h; subst h
  exact ⟨.inr rfl, Nat.le_of_ble_eq_true rfl, by kernel_rfl⟩

theorem R33_Coding_ok (F : Nat) (p_1 : T_api_Packed) (r : Int × Int) (h : R33_Coding F p_1 = some r) : TripleG prog 18 [] [] [e_T_api_Packed p_1] [] (.tuple [.int .i64 r.1, .int .i64 r.2]) := by
  refine triple_intro (fn := Go.Proofs.Try.f18) (code := codeOf Go.Proofs.Try.f18) (by kernel_rfl) (by kernel_rfl) (Nat.le_of_ble_eq_true (by kernel_rfl)) ?_
  unfold R33_Coding at h
  refine aw_seq (by kernel_rfl) ?_
  refine aw_region [(0, { id := 0 })] [1] [0] 1 (vals := [.ptr 0 0 0 0]) (bxs := [.live (.var 33 (v_T_api_Packed p_1))]) (by kernel_rfl) hmix an ?_
  refine aw_seq (by kernel_rfl) ?_
  obtain ⟨r_1, h_1, h⟩ := bind_some h
  refine aw_region [(1, { av := .tuple [.sl false 3 (List.map e_T_api_Value r_1.1), .int .i64 r_1.2], l := [e_T_api_Packed p_1] })] [1, 5] [0] 1 (vals := [.ptr 0 0 0 0, .int .i64 r_1.2]) (bxs := [.live (.var 33 (v_T_api_Packed p_1))]) (by kernel_rfl) hmix (ac (rfl : ([e_T_api_Packed p_1] : List AV) = [e_T_api_Packed p_1]) (ac (rfl : ([] : List BoxSt) = []) (ac (R33_Decode_ok F p_1 r_1 h_1 : TripleG prog 17 [] [] [e_T_api_Packed p_1] [] (.tuple [.sl false 3 (List.map e_T_api_Value r_1.1), .int .i64 r_1.2])) an))) ?_
  refine aw_seq (by kernel_rfl) ?_
  refine aw_seq (by kernel_rfl) ?_
  refine aw_region [] [1, 5, 12] [0] 1 (vals := [.ptr 0 0 0 0, .int .i64 r_1.2, .bool (r_1.2 != (0 : Int))]) (bxs := [.live (.var 33 (v_T_api_Packed p_1))]) (by kernel_rfl) hmix an ?_
  refine aw_cond (t := 12) (b := (r_1.2 != (0 : Int))) (by kernel_rfl) (by kernel_rfl) ?_ ?_
  · intro g_1; replace h := cond_t g_1 h
    refine aw_seq (by kernel_rfl) ?_
    refine aw_region [] [2, 3] [] 1 (vals := [.int .i64 (0 : Int), .int .i64 r_1.2]) (bxs := []) (by kernel_rfl) hmix an ?_
    refine aw_ret (by kernel_rfl) ?_
    replace h := Option.some.inj h; subst h
    exact ⟨.inr rfl, Nat.le_of_ble_eq_true rfl, by kernel_rfl⟩
  intro g_1; replace h := cond_f g_1 h
  refine aw_skip (by kernel_rfl) ?_
  refine aw_seq (by kernel_rfl) ?_
  obtain ⟨x_1, h_2, h⟩ := bind_some h
  refine aw_region [(2, { av := .int .u8 x_1 })] [2, 3] [] 1 (vals := [.int .i64 (w_i64 x_1), .int .i64 (0 : Int)]) (bxs := []) (by kernel_rfl) hmix (ac (vc_idx h_2 : idxA (List.map (AV.int .u8) p_1.Bytes) (0 : Int) = some (.int .u8 x_1)) an) ?_
  refine aw_ret (by kernel_rfl) ?_
  replace h := Option.some.inj h; subst h
  exact ⟨.inr rfl, Nat.le_of_ble_eq_true rfl, by kernel_rfl⟩

end Go.Ab
