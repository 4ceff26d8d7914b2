/- Printed: the typed Lean functions of the Go functions, or the proofs that the Go functions meet them. No conditions but those that the theorems name. -/
import Derived.Test.YtngjbadoekamcaaP06xD
import Derived.Test.YtngjbadoekamcaaProg
namespace Go.Ab
open Go
set_option linter.unusedVariables false
noncomputable abbrev prog := Go.Proofs.Try.prog
theorem hmix : prog.follows .mixedOrders = true := by kernel_rfl
theorem ext_38 : ExtIdx prog 38 := ⟨_, Go.Proofs.Try.func38, by kernel_rfl, by kernel_rfl, by kernel_rfl, by kernel_rfl⟩
theorem keyOk_46 : KeyOk prog 46 true [.int .i64, .int .i64] := keyOk_agg (by kernel_rfl) (by kernel_rfl) (by kernel_rfl) (by kernel_rfl)
theorem inj_Arr2_Int : ∀ a b : Arr2_Int, e_Arr2_Int a = e_Arr2_Int b → a = b := by
  intro a b h
  cases a; cases b; simpa [e_Arr2_Int] using h
theorem eqOk_46 : EqOk prog 46 [.int .i64, .int .i64] := eqOk_agg keyOk_46 (by kernel_rfl) (by kernel_rfl)
theorem keyOk_9 : KeyOk prog 9 false [.str] := keyOk_str (by kernel_rfl)

theorem L06_small_ok (t_1 : T_tracebooklaw06_Tables) (r : Bool) (h : L06_small t_1 = some r) : Triple prog 8 [] [.agg [.sl false 1 (List.map AV.str t_1.Names), .sl false 2 (List.map e_Arr2_Int t_1.Stacks)]] [] (.bool r) := by
  refine triple_intro (fn := Go.Proofs.Try.f8) (code := codeOf Go.Proofs.Try.f8) (by kernel_rfl) (by kernel_rfl) (Nat.le_of_ble_eq_true (by kernel_rfl)) ?_
  unfold L06_small at h
  refine aw_seq (by kernel_rfl) ?_
  refine aw_region [(0, { id := 0 })] [1] [0] 1 (vcs := []) (vals := [.ptr 0 0 0 0]) (bxs := [.live (.var 25 [.sl false 1 (List.map AV.str t_1.Names), .sl false 2 (List.map e_Arr2_Int t_1.Stacks)])]) (by kernel_rfl) hmix trivial ?_
  refine aw_seq (by kernel_rfl) ?_
  refine aw_mid (mk [(2, .bool (decide ((((t_1.Names).length : Nat) : Int) ≤ (1100 : Int)) && decide ((((t_1.Stacks).length : Nat) : Int) ≤ (1100 : Int))))] [] 0) ?_ ?_
  · rcases Bool.eq_false_or_eq_true (decide ((((t_1.Names).length : Nat) : Int) ≤ (1100 : Int))) with gg_1 | gg_1
    · refine aw_region [(2, { n := (t_1.Names).length }), (7, { n := (t_1.Stacks).length }), (9, { b := true })] [2] [] 1 (vcs := [((List.map AV.str t_1.Names)).length = (t_1.Names).length, (decide ((((t_1.Names).length : Nat) : Int) ≤ (1100 : Int))) = true, (decide ((((t_1.Names).length : Nat) : Int) ≤ (1100 : Int))) = true, (decide ((((t_1.Names).length : Nat) : Int) ≤ (1100 : Int))) = true, ((List.map e_Arr2_Int t_1.Stacks)).length = (t_1.Stacks).length, (decide ((((t_1.Names).length : Nat) : Int) ≤ (1100 : Int))) = true, (decide ((((t_1.Names).length : Nat) : Int) ≤ (1100 : Int))) = true]) (vals := [.bool (decide ((((t_1.Stacks).length : Nat) : Int) ≤ (1100 : Int)))]) (bxs := []) (by kernel_rfl) hmix ⟨(vc_len _), gg_1, gg_1, gg_1, (vc_len _), gg_1, gg_1, trivial⟩ ?_
      exact ⟨rfl, (sub_wk [] [] [(2, .bool (decide ((((t_1.Names).length : Nat) : Int) ≤ (1100 : Int)) && decide ((((t_1.Stacks).length : Nat) : Int) ≤ (1100 : Int))))] [] (vcs := [((.bool (decide ((((t_1.Stacks).length : Nat) : Int) ≤ (1100 : Int))) : AV) = .bool (decide ((((t_1.Names).length : Nat) : Int) ≤ (1100 : Int)) && decide ((((t_1.Stacks).length : Nat) : Int) ≤ (1100 : Int))) : Prop)]) (by kernel_rfl) ⟨(congrArg AV.bool (andt gg_1 rfl)), trivial⟩)⟩
    · refine aw_region [(2, { n := (t_1.Names).length }), (5, { g := false }), (6, { g := false }), (7, { g := false }), (8, { g := false }), (9, { b := false })] [2] [] 1 (vcs := [((List.map AV.str t_1.Names)).length = (t_1.Names).length, (decide ((((t_1.Names).length : Nat) : Int) ≤ (1100 : Int))) = !true, (decide ((((t_1.Names).length : Nat) : Int) ≤ (1100 : Int))) = !true, (decide ((((t_1.Names).length : Nat) : Int) ≤ (1100 : Int))) = !true, (decide ((((t_1.Names).length : Nat) : Int) ≤ (1100 : Int))) = !true, (decide ((((t_1.Names).length : Nat) : Int) ≤ (1100 : Int))) = false]) (vals := [.bool false]) (bxs := []) (by kernel_rfl) hmix ⟨(vc_len _), gg_1, gg_1, gg_1, gg_1, gg_1, trivial⟩ ?_
      exact ⟨rfl, (sub_wk [] [] [(2, .bool (decide ((((t_1.Names).length : Nat) : Int) ≤ (1100 : Int)) && decide ((((t_1.Stacks).length : Nat) : Int) ≤ (1100 : Int))))] [] (vcs := [((.bool false : AV) = .bool (decide ((((t_1.Names).length : Nat) : Int) ≤ (1100 : Int)) && decide ((((t_1.Stacks).length : Nat) : Int) ≤ (1100 : Int))) : Prop)]) (by kernel_rfl) ⟨(congrArg AV.bool (andf gg_1)), trivial⟩)⟩
  refine aw_ret (by kernel_rfl) ?_
  replace h := Option.some.inj h; subst h
  exact ⟨.inr rfl, Nat.le_of_ble_eq_true rfl, by kernel_rfl⟩

theorem stringslite_IndexByte_ok (s_1 : List Int) (c_1 : Int) (r : Int) (h : stringslite_IndexByte s_1 c_1 = some r) : Triple prog 37 [] [.str s_1, .int .u8 c_1] [] (.int .i64 r) := by
  refine triple_intro (fn := Go.Proofs.Try.f37) (code := codeOf Go.Proofs.Try.f37) (by kernel_rfl) (by kernel_rfl) (Nat.le_of_ble_eq_true (by kernel_rfl)) ?_
  unfold stringslite_IndexByte at h
  refine aw_seq (by kernel_rfl) ?_
  refine aw_region [] [0, 1] [] 0 (vcs := []) (vals := [.str s_1, .int .u8 c_1]) (bxs := []) (by kernel_rfl) hmix trivial ?_
  refine aw_seq (by kernel_rfl) ?_
  refine aw_region [] [4] [] 0 (vcs := [ExtIdx prog 38]) (vals := [.int .i64 (idxByte s_1 c_1)]) (bxs := []) (by kernel_rfl) hmix ⟨ext_38, trivial⟩ ?_
  refine aw_ret (by kernel_rfl) ?_
  replace h := Option.some.inj h; subst h
  exact ⟨.inr rfl, Nat.le_of_ble_eq_true rfl, by kernel_rfl⟩

theorem strings_IndexByte_ok (s_1 : List Int) (c_1 : Int) (r : Int) (h : strings_IndexByte s_1 c_1 = some r) : Triple prog 36 [] [.str s_1, .int .u8 c_1] [] (.int .i64 r) := by
  refine triple_intro (fn := Go.Proofs.Try.f36) (code := codeOf Go.Proofs.Try.f36) (by kernel_rfl) (by kernel_rfl) (Nat.le_of_ble_eq_true (by kernel_rfl)) ?_
  unfold strings_IndexByte at h
  refine aw_seq (by kernel_rfl) ?_
  refine aw_region [] [0, 1] [] 0 (vcs := []) (vals := [.str s_1, .int .u8 c_1]) (bxs := []) (by kernel_rfl) hmix trivial ?_
  refine aw_seq (by kernel_rfl) ?_
  obtain ⟨r_1, h_1, h⟩ := bind_some h
  refine aw_region [(2, { av := .int .i64 r_1, l := [.str s_1, .int .u8 c_1] })] [4] [] 0 (vcs := [([.str s_1, .int .u8 c_1] : List AV) = [.str s_1, .int .u8 c_1], ([] : List BoxSt) = [], Triple prog 37 [] [.str s_1, .int .u8 c_1] [] (.int .i64 r_1)]) (vals := [.int .i64 r_1]) (bxs := []) (by kernel_rfl) hmix ⟨rfl, rfl, (stringslite_IndexByte_ok s_1 c_1 r_1 h_1), trivial⟩ ?_
  refine aw_ret (by kernel_rfl) ?_
  replace h := Option.some.inj h; subst h
  exact ⟨.inr rfl, Nat.le_of_ble_eq_true rfl, by kernel_rfl⟩

theorem intern_letter_ok (c_1 : Int) (r : Bool) (h : intern_letter c_1 = some r) : Triple prog 25 [] [.int .u8 c_1] [] (.bool r) := by
  refine triple_intro (fn := Go.Proofs.Try.f25) (code := codeOf Go.Proofs.Try.f25) (by kernel_rfl) (by kernel_rfl) (Nat.le_of_ble_eq_true (by kernel_rfl)) ?_
  unfold intern_letter at h
  refine aw_seq (by kernel_rfl) ?_
  refine aw_region [] [0] [] 0 (vcs := []) (vals := [.int .u8 c_1]) (bxs := []) (by kernel_rfl) hmix trivial ?_
  refine aw_seq (by kernel_rfl) ?_
  obtain ⟨p_1, h_2, h⟩ := bind_some h
  refine aw_mid (mk [(2, .bool p_1)] [] 0) ?_ ?_
  · replace h := h_2
    rcases Bool.eq_false_or_eq_true (decide (c_1 ≥ (97 : Int))) with gg_1 | gg_1
    · replace h := cond_t gg_1 h
      rcases Bool.eq_false_or_eq_true (decide (c_1 ≤ (122 : Int))) with gg_2 | gg_2
      · replace h := cond_t gg_2 h
        refine aw_region [(5, { b := true }), (7, { g := false }), (8, { g := false }), (9, { g := false }), (12, { g := false }), (13, { b := true }), (15, { g := false }), (16, { g := false }), (17, { g := false }), (20, { g := false }), (21, { b := true }), (23, { g := false }), (24, { g := false }), (25, { g := false }), (26, { b := true })] [2] [] 0 (vcs := [(decide (c_1 ≥ (97 : Int))) = true, (decide (c_1 ≥ (97 : Int))) = true, (decide (c_1 ≥ (97 : Int))) = true, (decide (c_1 ≤ (122 : Int))) = !false, (decide (c_1 ≤ (122 : Int))) = !false, (decide (c_1 ≤ (122 : Int))) = !false, (decide (c_1 ≤ (122 : Int))) = !false, (decide (c_1 ≤ (122 : Int))) = true, true = !false, true = !false, true = !false, true = !false, true = true, true = !false, true = !false, true = !false, true = true]) (vals := [.bool true]) (bxs := []) (by kernel_rfl) hmix ⟨gg_1, gg_1, gg_1, gg_2, gg_2, gg_2, gg_2, gg_2, rfl, rfl, rfl, rfl, rfl, rfl, rfl, rfl, rfl, trivial⟩ ?_
        replace h := Option.some.inj h; subst h
        exact ⟨rfl, (sub_wk [] [] [(2, .bool true)] [] (vcs := [((.bool true : AV) = .bool true : Prop)]) (by kernel_rfl) ⟨rfl, trivial⟩)⟩
      · replace h := cond_f gg_2 h
        rcases Bool.eq_false_or_eq_true (decide (c_1 ≥ (65 : Int))) with gg_3 | gg_3
        · replace h := cond_t gg_3 h
          rcases Bool.eq_false_or_eq_true (decide (c_1 ≤ (90 : Int))) with gg_4 | gg_4
          · replace h := cond_t gg_4 h
            refine aw_region [(5, { b := true }), (12, { b := true }), (13, { b := false }), (15, { g := false }), (16, { g := false }), (17, { g := false }), (20, { g := false }), (21, { b := true }), (23, { g := false }), (24, { g := false }), (25, { g := false }), (26, { b := true })] [2] [] 0 (vcs := [(decide (c_1 ≥ (97 : Int))) = true, (decide (c_1 ≥ (97 : Int))) = true, (decide (c_1 ≥ (97 : Int))) = true, (decide (c_1 ≤ (122 : Int))) = false, (decide (c_1 ≤ (122 : Int))) = false, (decide (c_1 ≤ (122 : Int))) = false, (decide (c_1 ≥ (65 : Int))) = true, (decide (c_1 ≥ (65 : Int))) = true, (decide (c_1 ≤ (122 : Int))) = false, (decide (c_1 ≥ (65 : Int))) = true, (decide (c_1 ≤ (122 : Int))) = false, (decide (c_1 ≤ (90 : Int))) = !false, (decide (c_1 ≤ (90 : Int))) = !false, (decide (c_1 ≤ (90 : Int))) = !false, (decide (c_1 ≤ (90 : Int))) = !false, (decide (c_1 ≤ (90 : Int))) = true, true = !false, true = !false, true = !false, true = true]) (vals := [.bool true]) (bxs := []) (by kernel_rfl) hmix ⟨gg_1, gg_1, gg_1, gg_2, gg_2, gg_2, gg_3, gg_3, gg_2, gg_3, gg_2, gg_4, gg_4, gg_4, gg_4, gg_4, rfl, rfl, rfl, rfl, trivial⟩ ?_
            replace h := Option.some.inj h; subst h
            exact ⟨rfl, (sub_wk [] [] [(2, .bool true)] [] (vcs := [((.bool true : AV) = .bool true : Prop)]) (by kernel_rfl) ⟨rfl, trivial⟩)⟩
          · replace h := cond_f gg_4 h
            rcases Bool.eq_false_or_eq_true (decide (c_1 ≥ (48 : Int))) with gg_5 | gg_5
            · replace h := cond_t gg_5 h
              rcases Bool.eq_false_or_eq_true (decide (c_1 ≤ (57 : Int))) with gg_6 | gg_6
              · replace h := cond_t gg_6 h
                refine aw_region [(5, { b := true }), (12, { b := true }), (13, { b := false }), (20, { b := true }), (21, { b := false }), (23, { g := false }), (24, { g := false }), (25, { g := false }), (26, { b := true })] [2] [] 0 (vcs := [(decide (c_1 ≥ (97 : Int))) = true, (decide (c_1 ≥ (97 : Int))) = true, (decide (c_1 ≥ (97 : Int))) = true, (decide (c_1 ≤ (122 : Int))) = false, (decide (c_1 ≤ (122 : Int))) = false, (decide (c_1 ≤ (122 : Int))) = false, (decide (c_1 ≥ (65 : Int))) = true, (decide (c_1 ≥ (65 : Int))) = true, (decide (c_1 ≤ (122 : Int))) = false, (decide (c_1 ≥ (65 : Int))) = true, (decide (c_1 ≤ (122 : Int))) = false, (decide (c_1 ≤ (90 : Int))) = false, (decide (c_1 ≤ (90 : Int))) = false, (decide (c_1 ≤ (90 : Int))) = false, (decide (c_1 ≥ (48 : Int))) = true, (decide (c_1 ≥ (48 : Int))) = true, (decide (c_1 ≤ (90 : Int))) = false, (decide (c_1 ≥ (48 : Int))) = true, (decide (c_1 ≤ (90 : Int))) = false, (decide (c_1 ≤ (57 : Int))) = !false, (decide (c_1 ≤ (57 : Int))) = !false, (decide (c_1 ≤ (57 : Int))) = !false, (decide (c_1 ≤ (57 : Int))) = true]) (vals := [.bool true]) (bxs := []) (by kernel_rfl) hmix ⟨gg_1, gg_1, gg_1, gg_2, gg_2, gg_2, gg_3, gg_3, gg_2, gg_3, gg_2, gg_4, gg_4, gg_4, gg_5, gg_5, gg_4, gg_5, gg_4, gg_6, gg_6, gg_6, gg_6, trivial⟩ ?_
                replace h := Option.some.inj h; subst h
                exact ⟨rfl, (sub_wk [] [] [(2, .bool true)] [] (vcs := [((.bool true : AV) = .bool true : Prop)]) (by kernel_rfl) ⟨rfl, trivial⟩)⟩
              · replace h := cond_f gg_6 h
                obtain ⟨r_1, h_1, h⟩ := bind_some h
                refine aw_region [(5, { b := true }), (12, { b := true }), (13, { b := false }), (20, { b := true }), (21, { b := false }), (24, { av := .int .i64 r_1, l := [.str ([95, 46, 58, 47, 60, 62, 36, 42, 126, 45] : List Int), .int .u8 c_1] }), (26, { b := false })] [2] [] 0 (vcs := [(decide (c_1 ≥ (97 : Int))) = true, (decide (c_1 ≥ (97 : Int))) = true, (decide (c_1 ≥ (97 : Int))) = true, (decide (c_1 ≤ (122 : Int))) = false, (decide (c_1 ≤ (122 : Int))) = false, (decide (c_1 ≤ (122 : Int))) = false, (decide (c_1 ≥ (65 : Int))) = true, (decide (c_1 ≥ (65 : Int))) = true, (decide (c_1 ≤ (122 : Int))) = false, (decide (c_1 ≥ (65 : Int))) = true, (decide (c_1 ≤ (122 : Int))) = false, (decide (c_1 ≤ (90 : Int))) = false, (decide (c_1 ≤ (90 : Int))) = false, (decide (c_1 ≤ (90 : Int))) = false, (decide (c_1 ≥ (48 : Int))) = true, (decide (c_1 ≥ (48 : Int))) = true, (decide (c_1 ≤ (90 : Int))) = false, (decide (c_1 ≥ (48 : Int))) = true, (decide (c_1 ≤ (90 : Int))) = false, (decide (c_1 ≤ (57 : Int))) = false, (decide (c_1 ≤ (57 : Int))) = false, ([.str ([95, 46, 58, 47, 60, 62, 36, 42, 126, 45] : List Int), .int .u8 c_1] : List AV) = [.str ([95, 46, 58, 47, 60, 62, 36, 42, 126, 45] : List Int), .int .u8 c_1], ([] : List BoxSt) = [], Triple prog 36 [] [.str ([95, 46, 58, 47, 60, 62, 36, 42, 126, 45] : List Int), .int .u8 c_1] [] (.int .i64 r_1), (decide (c_1 ≤ (57 : Int))) = false, (decide (c_1 ≤ (57 : Int))) = false]) (vals := [.bool (decide (r_1 ≥ (0 : Int)))]) (bxs := []) (by kernel_rfl) hmix ⟨gg_1, gg_1, gg_1, gg_2, gg_2, gg_2, gg_3, gg_3, gg_2, gg_3, gg_2, gg_4, gg_4, gg_4, gg_5, gg_5, gg_4, gg_5, gg_4, gg_6, gg_6, rfl, rfl, (strings_IndexByte_ok ([95, 46, 58, 47, 60, 62, 36, 42, 126, 45] : List Int) c_1 r_1 h_1), gg_6, gg_6, trivial⟩ ?_
                replace h := Option.some.inj h; subst h
                exact ⟨rfl, (sub_wk [] [] [(2, .bool (decide (r_1 ≥ (0 : Int))))] [] (vcs := [((.bool (decide (r_1 ≥ (0 : Int))) : AV) = .bool (decide (r_1 ≥ (0 : Int))) : Prop)]) (by kernel_rfl) ⟨rfl, trivial⟩)⟩
            · replace h := cond_f gg_5 h
              obtain ⟨r_1, h_1, h⟩ := bind_some h
              refine aw_region [(5, { b := true }), (12, { b := true }), (13, { b := false }), (18, { g := false }), (19, { g := false }), (20, { b := false }), (21, { b := false }), (24, { av := .int .i64 r_1, l := [.str ([95, 46, 58, 47, 60, 62, 36, 42, 126, 45] : List Int), .int .u8 c_1] }), (26, { b := false })] [2] [] 0 (vcs := [(decide (c_1 ≥ (97 : Int))) = true, (decide (c_1 ≥ (97 : Int))) = true, (decide (c_1 ≥ (97 : Int))) = true, (decide (c_1 ≤ (122 : Int))) = false, (decide (c_1 ≤ (122 : Int))) = false, (decide (c_1 ≤ (122 : Int))) = false, (decide (c_1 ≥ (65 : Int))) = true, (decide (c_1 ≥ (65 : Int))) = true, (decide (c_1 ≤ (122 : Int))) = false, (decide (c_1 ≥ (65 : Int))) = true, (decide (c_1 ≤ (122 : Int))) = false, (decide (c_1 ≤ (90 : Int))) = false, (decide (c_1 ≤ (90 : Int))) = false, (decide (c_1 ≤ (90 : Int))) = false, (decide (c_1 ≥ (48 : Int))) = !true, (decide (c_1 ≥ (48 : Int))) = !true, (decide (c_1 ≤ (90 : Int))) = false, (decide (c_1 ≥ (48 : Int))) = false, (decide (c_1 ≤ (90 : Int))) = false, false = false, false = false, ([.str ([95, 46, 58, 47, 60, 62, 36, 42, 126, 45] : List Int), .int .u8 c_1] : List AV) = [.str ([95, 46, 58, 47, 60, 62, 36, 42, 126, 45] : List Int), .int .u8 c_1], ([] : List BoxSt) = [], Triple prog 36 [] [.str ([95, 46, 58, 47, 60, 62, 36, 42, 126, 45] : List Int), .int .u8 c_1] [] (.int .i64 r_1), false = false, false = false]) (vals := [.bool (decide (r_1 ≥ (0 : Int)))]) (bxs := []) (by kernel_rfl) hmix ⟨gg_1, gg_1, gg_1, gg_2, gg_2, gg_2, gg_3, gg_3, gg_2, gg_3, gg_2, gg_4, gg_4, gg_4, gg_5, gg_5, gg_4, gg_5, gg_4, rfl, rfl, rfl, rfl, (strings_IndexByte_ok ([95, 46, 58, 47, 60, 62, 36, 42, 126, 45] : List Int) c_1 r_1 h_1), rfl, rfl, trivial⟩ ?_
              replace h := Option.some.inj h; subst h
              exact ⟨rfl, (sub_wk [] [] [(2, .bool (decide (r_1 ≥ (0 : Int))))] [] (vcs := [((.bool (decide (r_1 ≥ (0 : Int))) : AV) = .bool (decide (r_1 ≥ (0 : Int))) : Prop)]) (by kernel_rfl) ⟨rfl, trivial⟩)⟩
        · replace h := cond_f gg_3 h
          rcases Bool.eq_false_or_eq_true (decide (c_1 ≥ (48 : Int))) with gg_7 | gg_7
          · replace h := cond_t gg_7 h
            rcases Bool.eq_false_or_eq_true (decide (c_1 ≤ (57 : Int))) with gg_8 | gg_8
            · replace h := cond_t gg_8 h
              refine aw_region [(5, { b := true }), (10, { g := false }), (11, { g := false }), (12, { b := false }), (13, { b := false }), (20, { b := true }), (21, { b := false }), (23, { g := false }), (24, { g := false }), (25, { g := false }), (26, { b := true })] [2] [] 0 (vcs := [(decide (c_1 ≥ (97 : Int))) = true, (decide (c_1 ≥ (97 : Int))) = true, (decide (c_1 ≥ (97 : Int))) = true, (decide (c_1 ≤ (122 : Int))) = false, (decide (c_1 ≤ (122 : Int))) = false, (decide (c_1 ≤ (122 : Int))) = false, (decide (c_1 ≥ (65 : Int))) = !true, (decide (c_1 ≥ (65 : Int))) = !true, (decide (c_1 ≤ (122 : Int))) = false, (decide (c_1 ≥ (65 : Int))) = false, (decide (c_1 ≤ (122 : Int))) = false, false = false, false = false, false = false, (decide (c_1 ≥ (48 : Int))) = true, (decide (c_1 ≥ (48 : Int))) = true, false = false, (decide (c_1 ≥ (48 : Int))) = true, false = false, (decide (c_1 ≤ (57 : Int))) = !false, (decide (c_1 ≤ (57 : Int))) = !false, (decide (c_1 ≤ (57 : Int))) = !false, (decide (c_1 ≤ (57 : Int))) = true]) (vals := [.bool true]) (bxs := []) (by kernel_rfl) hmix ⟨gg_1, gg_1, gg_1, gg_2, gg_2, gg_2, gg_3, gg_3, gg_2, gg_3, gg_2, rfl, rfl, rfl, gg_7, gg_7, rfl, gg_7, rfl, gg_8, gg_8, gg_8, gg_8, trivial⟩ ?_
              replace h := Option.some.inj h; subst h
              exact ⟨rfl, (sub_wk [] [] [(2, .bool true)] [] (vcs := [((.bool true : AV) = .bool true : Prop)]) (by kernel_rfl) ⟨rfl, trivial⟩)⟩
            · replace h := cond_f gg_8 h
              obtain ⟨r_1, h_1, h⟩ := bind_some h
              refine aw_region [(5, { b := true }), (10, { g := false }), (11, { g := false }), (12, { b := false }), (13, { b := false }), (20, { b := true }), (21, { b := false }), (24, { av := .int .i64 r_1, l := [.str ([95, 46, 58, 47, 60, 62, 36, 42, 126, 45] : List Int), .int .u8 c_1] }), (26, { b := false })] [2] [] 0 (vcs := [(decide (c_1 ≥ (97 : Int))) = true, (decide (c_1 ≥ (97 : Int))) = true, (decide (c_1 ≥ (97 : Int))) = true, (decide (c_1 ≤ (122 : Int))) = false, (decide (c_1 ≤ (122 : Int))) = false, (decide (c_1 ≤ (122 : Int))) = false, (decide (c_1 ≥ (65 : Int))) = !true, (decide (c_1 ≥ (65 : Int))) = !true, (decide (c_1 ≤ (122 : Int))) = false, (decide (c_1 ≥ (65 : Int))) = false, (decide (c_1 ≤ (122 : Int))) = false, false = false, false = false, false = false, (decide (c_1 ≥ (48 : Int))) = true, (decide (c_1 ≥ (48 : Int))) = true, false = false, (decide (c_1 ≥ (48 : Int))) = true, false = false, (decide (c_1 ≤ (57 : Int))) = false, (decide (c_1 ≤ (57 : Int))) = false, ([.str ([95, 46, 58, 47, 60, 62, 36, 42, 126, 45] : List Int), .int .u8 c_1] : List AV) = [.str ([95, 46, 58, 47, 60, 62, 36, 42, 126, 45] : List Int), .int .u8 c_1], ([] : List BoxSt) = [], Triple prog 36 [] [.str ([95, 46, 58, 47, 60, 62, 36, 42, 126, 45] : List Int), .int .u8 c_1] [] (.int .i64 r_1), (decide (c_1 ≤ (57 : Int))) = false, (decide (c_1 ≤ (57 : Int))) = false]) (vals := [.bool (decide (r_1 ≥ (0 : Int)))]) (bxs := []) (by kernel_rfl) hmix ⟨gg_1, gg_1, gg_1, gg_2, gg_2, gg_2, gg_3, gg_3, gg_2, gg_3, gg_2, rfl, rfl, rfl, gg_7, gg_7, rfl, gg_7, rfl, gg_8, gg_8, rfl, rfl, (strings_IndexByte_ok ([95, 46, 58, 47, 60, 62, 36, 42, 126, 45] : List Int) c_1 r_1 h_1), gg_8, gg_8, trivial⟩ ?_
              replace h := Option.some.inj h; subst h
              exact ⟨rfl, (sub_wk [] [] [(2, .bool (decide (r_1 ≥ (0 : Int))))] [] (vcs := [((.bool (decide (r_1 ≥ (0 : Int))) : AV) = .bool (decide (r_1 ≥ (0 : Int))) : Prop)]) (by kernel_rfl) ⟨rfl, trivial⟩)⟩
          · replace h := cond_f gg_7 h
            obtain ⟨r_1, h_1, h⟩ := bind_some h
            refine aw_region [(5, { b := true }), (10, { g := false }), (11, { g := false }), (12, { b := false }), (13, { b := false }), (18, { g := false }), (19, { g := false }), (20, { b := false }), (21, { b := false }), (24, { av := .int .i64 r_1, l := [.str ([95, 46, 58, 47, 60, 62, 36, 42, 126, 45] : List Int), .int .u8 c_1] }), (26, { b := false })] [2] [] 0 (vcs := [(decide (c_1 ≥ (97 : Int))) = true, (decide (c_1 ≥ (97 : Int))) = true, (decide (c_1 ≥ (97 : Int))) = true, (decide (c_1 ≤ (122 : Int))) = false, (decide (c_1 ≤ (122 : Int))) = false, (decide (c_1 ≤ (122 : Int))) = false, (decide (c_1 ≥ (65 : Int))) = !true, (decide (c_1 ≥ (65 : Int))) = !true, (decide (c_1 ≤ (122 : Int))) = false, (decide (c_1 ≥ (65 : Int))) = false, (decide (c_1 ≤ (122 : Int))) = false, false = false, false = false, false = false, (decide (c_1 ≥ (48 : Int))) = !true, (decide (c_1 ≥ (48 : Int))) = !true, false = false, (decide (c_1 ≥ (48 : Int))) = false, false = false, false = false, false = false, ([.str ([95, 46, 58, 47, 60, 62, 36, 42, 126, 45] : List Int), .int .u8 c_1] : List AV) = [.str ([95, 46, 58, 47, 60, 62, 36, 42, 126, 45] : List Int), .int .u8 c_1], ([] : List BoxSt) = [], Triple prog 36 [] [.str ([95, 46, 58, 47, 60, 62, 36, 42, 126, 45] : List Int), .int .u8 c_1] [] (.int .i64 r_1), false = false, false = false]) (vals := [.bool (decide (r_1 ≥ (0 : Int)))]) (bxs := []) (by kernel_rfl) hmix ⟨gg_1, gg_1, gg_1, gg_2, gg_2, gg_2, gg_3, gg_3, gg_2, gg_3, gg_2, rfl, rfl, rfl, gg_7, gg_7, rfl, gg_7, rfl, rfl, rfl, rfl, rfl, (strings_IndexByte_ok ([95, 46, 58, 47, 60, 62, 36, 42, 126, 45] : List Int) c_1 r_1 h_1), rfl, rfl, trivial⟩ ?_
            replace h := Option.some.inj h; subst h
            exact ⟨rfl, (sub_wk [] [] [(2, .bool (decide (r_1 ≥ (0 : Int))))] [] (vcs := [((.bool (decide (r_1 ≥ (0 : Int))) : AV) = .bool (decide (r_1 ≥ (0 : Int))) : Prop)]) (by kernel_rfl) ⟨rfl, trivial⟩)⟩
    · replace h := cond_f gg_1 h
      rcases Bool.eq_false_or_eq_true (decide (c_1 ≥ (65 : Int))) with gg_9 | gg_9
      · replace h := cond_t gg_9 h
        rcases Bool.eq_false_or_eq_true (decide (c_1 ≤ (90 : Int))) with gg_10 | gg_10
        · replace h := cond_t gg_10 h
          refine aw_region [(3, { g := false }), (4, { g := false }), (5, { b := false }), (12, { b := true }), (13, { b := false }), (15, { g := false }), (16, { g := false }), (17, { g := false }), (20, { g := false }), (21, { b := true }), (23, { g := false }), (24, { g := false }), (25, { g := false }), (26, { b := true })] [2] [] 0 (vcs := [(decide (c_1 ≥ (97 : Int))) = !true, (decide (c_1 ≥ (97 : Int))) = !true, (decide (c_1 ≥ (97 : Int))) = false, false = false, false = false, false = false, (decide (c_1 ≥ (65 : Int))) = true, (decide (c_1 ≥ (65 : Int))) = true, false = false, (decide (c_1 ≥ (65 : Int))) = true, false = false, (decide (c_1 ≤ (90 : Int))) = !false, (decide (c_1 ≤ (90 : Int))) = !false, (decide (c_1 ≤ (90 : Int))) = !false, (decide (c_1 ≤ (90 : Int))) = !false, (decide (c_1 ≤ (90 : Int))) = true, true = !false, true = !false, true = !false, true = true]) (vals := [.bool true]) (bxs := []) (by kernel_rfl) hmix ⟨gg_1, gg_1, gg_1, rfl, rfl, rfl, gg_9, gg_9, rfl, gg_9, rfl, gg_10, gg_10, gg_10, gg_10, gg_10, rfl, rfl, rfl, rfl, trivial⟩ ?_
          replace h := Option.some.inj h; subst h
          exact ⟨rfl, (sub_wk [] [] [(2, .bool true)] [] (vcs := [((.bool true : AV) = .bool true : Prop)]) (by kernel_rfl) ⟨rfl, trivial⟩)⟩
        · replace h := cond_f gg_10 h
          rcases Bool.eq_false_or_eq_true (decide (c_1 ≥ (48 : Int))) with gg_11 | gg_11
          · replace h := cond_t gg_11 h
            rcases Bool.eq_false_or_eq_true (decide (c_1 ≤ (57 : Int))) with gg_12 | gg_12
            · replace h := cond_t gg_12 h
              refine aw_region [(3, { g := false }), (4, { g := false }), (5, { b := false }), (12, { b := true }), (13, { b := false }), (20, { b := true }), (21, { b := false }), (23, { g := false }), (24, { g := false }), (25, { g := false }), (26, { b := true })] [2] [] 0 (vcs := [(decide (c_1 ≥ (97 : Int))) = !true, (decide (c_1 ≥ (97 : Int))) = !true, (decide (c_1 ≥ (97 : Int))) = false, false = false, false = false, false = false, (decide (c_1 ≥ (65 : Int))) = true, (decide (c_1 ≥ (65 : Int))) = true, false = false, (decide (c_1 ≥ (65 : Int))) = true, false = false, (decide (c_1 ≤ (90 : Int))) = false, (decide (c_1 ≤ (90 : Int))) = false, (decide (c_1 ≤ (90 : Int))) = false, (decide (c_1 ≥ (48 : Int))) = true, (decide (c_1 ≥ (48 : Int))) = true, (decide (c_1 ≤ (90 : Int))) = false, (decide (c_1 ≥ (48 : Int))) = true, (decide (c_1 ≤ (90 : Int))) = false, (decide (c_1 ≤ (57 : Int))) = !false, (decide (c_1 ≤ (57 : Int))) = !false, (decide (c_1 ≤ (57 : Int))) = !false, (decide (c_1 ≤ (57 : Int))) = true]) (vals := [.bool true]) (bxs := []) (by kernel_rfl) hmix ⟨gg_1, gg_1, gg_1, rfl, rfl, rfl, gg_9, gg_9, rfl, gg_9, rfl, gg_10, gg_10, gg_10, gg_11, gg_11, gg_10, gg_11, gg_10, gg_12, gg_12, gg_12, gg_12, trivial⟩ ?_
              replace h := Option.some.inj h; subst h
              exact ⟨rfl, (sub_wk [] [] [(2, .bool true)] [] (vcs := [((.bool true : AV) = .bool true : Prop)]) (by kernel_rfl) ⟨rfl, trivial⟩)⟩
            · replace h := cond_f gg_12 h
              obtain ⟨r_1, h_1, h⟩ := bind_some h
              refine aw_region [(3, { g := false }), (4, { g := false }), (5, { b := false }), (12, { b := true }), (13, { b := false }), (20, { b := true }), (21, { b := false }), (24, { av := .int .i64 r_1, l := [.str ([95, 46, 58, 47, 60, 62, 36, 42, 126, 45] : List Int), .int .u8 c_1] }), (26, { b := false })] [2] [] 0 (vcs := [(decide (c_1 ≥ (97 : Int))) = !true, (decide (c_1 ≥ (97 : Int))) = !true, (decide (c_1 ≥ (97 : Int))) = false, false = false, false = false, false = false, (decide (c_1 ≥ (65 : Int))) = true, (decide (c_1 ≥ (65 : Int))) = true, false = false, (decide (c_1 ≥ (65 : Int))) = true, false = false, (decide (c_1 ≤ (90 : Int))) = false, (decide (c_1 ≤ (90 : Int))) = false, (decide (c_1 ≤ (90 : Int))) = false, (decide (c_1 ≥ (48 : Int))) = true, (decide (c_1 ≥ (48 : Int))) = true, (decide (c_1 ≤ (90 : Int))) = false, (decide (c_1 ≥ (48 : Int))) = true, (decide (c_1 ≤ (90 : Int))) = false, (decide (c_1 ≤ (57 : Int))) = false, (decide (c_1 ≤ (57 : Int))) = false, ([.str ([95, 46, 58, 47, 60, 62, 36, 42, 126, 45] : List Int), .int .u8 c_1] : List AV) = [.str ([95, 46, 58, 47, 60, 62, 36, 42, 126, 45] : List Int), .int .u8 c_1], ([] : List BoxSt) = [], Triple prog 36 [] [.str ([95, 46, 58, 47, 60, 62, 36, 42, 126, 45] : List Int), .int .u8 c_1] [] (.int .i64 r_1), (decide (c_1 ≤ (57 : Int))) = false, (decide (c_1 ≤ (57 : Int))) = false]) (vals := [.bool (decide (r_1 ≥ (0 : Int)))]) (bxs := []) (by kernel_rfl) hmix ⟨gg_1, gg_1, gg_1, rfl, rfl, rfl, gg_9, gg_9, rfl, gg_9, rfl, gg_10, gg_10, gg_10, gg_11, gg_11, gg_10, gg_11, gg_10, gg_12, gg_12, rfl, rfl, (strings_IndexByte_ok ([95, 46, 58, 47, 60, 62, 36, 42, 126, 45] : List Int) c_1 r_1 h_1), gg_12, gg_12, trivial⟩ ?_
              replace h := Option.some.inj h; subst h
              exact ⟨rfl, (sub_wk [] [] [(2, .bool (decide (r_1 ≥ (0 : Int))))] [] (vcs := [((.bool (decide (r_1 ≥ (0 : Int))) : AV) = .bool (decide (r_1 ≥ (0 : Int))) : Prop)]) (by kernel_rfl) ⟨rfl, trivial⟩)⟩
          · replace h := cond_f gg_11 h
            obtain ⟨r_1, h_1, h⟩ := bind_some h
            refine aw_region [(3, { g := false }), (4, { g := false }), (5, { b := false }), (12, { b := true }), (13, { b := false }), (18, { g := false }), (19, { g := false }), (20, { b := false }), (21, { b := false }), (24, { av := .int .i64 r_1, l := [.str ([95, 46, 58, 47, 60, 62, 36, 42, 126, 45] : List Int), .int .u8 c_1] }), (26, { b := false })] [2] [] 0 (vcs := [(decide (c_1 ≥ (97 : Int))) = !true, (decide (c_1 ≥ (97 : Int))) = !true, (decide (c_1 ≥ (97 : Int))) = false, false = false, false = false, false = false, (decide (c_1 ≥ (65 : Int))) = true, (decide (c_1 ≥ (65 : Int))) = true, false = false, (decide (c_1 ≥ (65 : Int))) = true, false = false, (decide (c_1 ≤ (90 : Int))) = false, (decide (c_1 ≤ (90 : Int))) = false, (decide (c_1 ≤ (90 : Int))) = false, (decide (c_1 ≥ (48 : Int))) = !true, (decide (c_1 ≥ (48 : Int))) = !true, (decide (c_1 ≤ (90 : Int))) = false, (decide (c_1 ≥ (48 : Int))) = false, (decide (c_1 ≤ (90 : Int))) = false, false = false, false = false, ([.str ([95, 46, 58, 47, 60, 62, 36, 42, 126, 45] : List Int), .int .u8 c_1] : List AV) = [.str ([95, 46, 58, 47, 60, 62, 36, 42, 126, 45] : List Int), .int .u8 c_1], ([] : List BoxSt) = [], Triple prog 36 [] [.str ([95, 46, 58, 47, 60, 62, 36, 42, 126, 45] : List Int), .int .u8 c_1] [] (.int .i64 r_1), false = false, false = false]) (vals := [.bool (decide (r_1 ≥ (0 : Int)))]) (bxs := []) (by kernel_rfl) hmix ⟨gg_1, gg_1, gg_1, rfl, rfl, rfl, gg_9, gg_9, rfl, gg_9, rfl, gg_10, gg_10, gg_10, gg_11, gg_11, gg_10, gg_11, gg_10, rfl, rfl, rfl, rfl, (strings_IndexByte_ok ([95, 46, 58, 47, 60, 62, 36, 42, 126, 45] : List Int) c_1 r_1 h_1), rfl, rfl, trivial⟩ ?_
            replace h := Option.some.inj h; subst h
            exact ⟨rfl, (sub_wk [] [] [(2, .bool (decide (r_1 ≥ (0 : Int))))] [] (vcs := [((.bool (decide (r_1 ≥ (0 : Int))) : AV) = .bool (decide (r_1 ≥ (0 : Int))) : Prop)]) (by kernel_rfl) ⟨rfl, trivial⟩)⟩
      · replace h := cond_f gg_9 h
        rcases Bool.eq_false_or_eq_true (decide (c_1 ≥ (48 : Int))) with gg_13 | gg_13
        · replace h := cond_t gg_13 h
          rcases Bool.eq_false_or_eq_true (decide (c_1 ≤ (57 : Int))) with gg_14 | gg_14
          · replace h := cond_t gg_14 h
            refine aw_region [(3, { g := false }), (4, { g := false }), (5, { b := false }), (10, { g := false }), (11, { g := false }), (12, { b := false }), (13, { b := false }), (20, { b := true }), (21, { b := false }), (23, { g := false }), (24, { g := false }), (25, { g := false }), (26, { b := true })] [2] [] 0 (vcs := [(decide (c_1 ≥ (97 : Int))) = !true, (decide (c_1 ≥ (97 : Int))) = !true, (decide (c_1 ≥ (97 : Int))) = false, false = false, false = false, false = false, (decide (c_1 ≥ (65 : Int))) = !true, (decide (c_1 ≥ (65 : Int))) = !true, false = false, (decide (c_1 ≥ (65 : Int))) = false, false = false, false = false, false = false, false = false, (decide (c_1 ≥ (48 : Int))) = true, (decide (c_1 ≥ (48 : Int))) = true, false = false, (decide (c_1 ≥ (48 : Int))) = true, false = false, (decide (c_1 ≤ (57 : Int))) = !false, (decide (c_1 ≤ (57 : Int))) = !false, (decide (c_1 ≤ (57 : Int))) = !false, (decide (c_1 ≤ (57 : Int))) = true]) (vals := [.bool true]) (bxs := []) (by kernel_rfl) hmix ⟨gg_1, gg_1, gg_1, rfl, rfl, rfl, gg_9, gg_9, rfl, gg_9, rfl, rfl, rfl, rfl, gg_13, gg_13, rfl, gg_13, rfl, gg_14, gg_14, gg_14, gg_14, trivial⟩ ?_
            replace h := Option.some.inj h; subst h
            exact ⟨rfl, (sub_wk [] [] [(2, .bool true)] [] (vcs := [((.bool true : AV) = .bool true : Prop)]) (by kernel_rfl) ⟨rfl, trivial⟩)⟩
          · replace h := cond_f gg_14 h
            obtain ⟨r_1, h_1, h⟩ := bind_some h
            refine aw_region [(3, { g := false }), (4, { g := false }), (5, { b := false }), (10, { g := false }), (11, { g := false }), (12, { b := false }), (13, { b := false }), (20, { b := true }), (21, { b := false }), (24, { av := .int .i64 r_1, l := [.str ([95, 46, 58, 47, 60, 62, 36, 42, 126, 45] : List Int), .int .u8 c_1] }), (26, { b := false })] [2] [] 0 (vcs := [(decide (c_1 ≥ (97 : Int))) = !true, (decide (c_1 ≥ (97 : Int))) = !true, (decide (c_1 ≥ (97 : Int))) = false, false = false, false = false, false = false, (decide (c_1 ≥ (65 : Int))) = !true, (decide (c_1 ≥ (65 : Int))) = !true, false = false, (decide (c_1 ≥ (65 : Int))) = false, false = false, false = false, false = false, false = false, (decide (c_1 ≥ (48 : Int))) = true, (decide (c_1 ≥ (48 : Int))) = true, false = false, (decide (c_1 ≥ (48 : Int))) = true, false = false, (decide (c_1 ≤ (57 : Int))) = false, (decide (c_1 ≤ (57 : Int))) = false, ([.str ([95, 46, 58, 47, 60, 62, 36, 42, 126, 45] : List Int), .int .u8 c_1] : List AV) = [.str ([95, 46, 58, 47, 60, 62, 36, 42, 126, 45] : List Int), .int .u8 c_1], ([] : List BoxSt) = [], Triple prog 36 [] [.str ([95, 46, 58, 47, 60, 62, 36, 42, 126, 45] : List Int), .int .u8 c_1] [] (.int .i64 r_1), (decide (c_1 ≤ (57 : Int))) = false, (decide (c_1 ≤ (57 : Int))) = false]) (vals := [.bool (decide (r_1 ≥ (0 : Int)))]) (bxs := []) (by kernel_rfl) hmix ⟨gg_1, gg_1, gg_1, rfl, rfl, rfl, gg_9, gg_9, rfl, gg_9, rfl, rfl, rfl, rfl, gg_13, gg_13, rfl, gg_13, rfl, gg_14, gg_14, rfl, rfl, (strings_IndexByte_ok ([95, 46, 58, 47, 60, 62, 36, 42, 126, 45] : List Int) c_1 r_1 h_1), gg_14, gg_14, trivial⟩ ?_
            replace h := Option.some.inj h; subst h
            exact ⟨rfl, (sub_wk [] [] [(2, .bool (decide (r_1 ≥ (0 : Int))))] [] (vcs := [((.bool (decide (r_1 ≥ (0 : Int))) : AV) = .bool (decide (r_1 ≥ (0 : Int))) : Prop)]) (by kernel_rfl) ⟨rfl, trivial⟩)⟩
        · replace h := cond_f gg_13 h
          obtain ⟨r_1, h_1, h⟩ := bind_some h
          refine aw_region [(3, { g := false }), (4, { g := false }), (5, { b := false }), (10, { g := false }), (11, { g := false }), (12, { b := false }), (13, { b := false }), (18, { g := false }), (19, { g := false }), (20, { b := false }), (21, { b := false }), (24, { av := .int .i64 r_1, l := [.str ([95, 46, 58, 47, 60, 62, 36, 42, 126, 45] : List Int), .int .u8 c_1] }), (26, { b := false })] [2] [] 0 (vcs := [(decide (c_1 ≥ (97 : Int))) = !true, (decide (c_1 ≥ (97 : Int))) = !true, (decide (c_1 ≥ (97 : Int))) = false, false = false, false = false, false = false, (decide (c_1 ≥ (65 : Int))) = !true, (decide (c_1 ≥ (65 : Int))) = !true, false = false, (decide (c_1 ≥ (65 : Int))) = false, false = false, false = false, false = false, false = false, (decide (c_1 ≥ (48 : Int))) = !true, (decide (c_1 ≥ (48 : Int))) = !true, false = false, (decide (c_1 ≥ (48 : Int))) = false, false = false, false = false, false = false, ([.str ([95, 46, 58, 47, 60, 62, 36, 42, 126, 45] : List Int), .int .u8 c_1] : List AV) = [.str ([95, 46, 58, 47, 60, 62, 36, 42, 126, 45] : List Int), .int .u8 c_1], ([] : List BoxSt) = [], Triple prog 36 [] [.str ([95, 46, 58, 47, 60, 62, 36, 42, 126, 45] : List Int), .int .u8 c_1] [] (.int .i64 r_1), false = false, false = false]) (vals := [.bool (decide (r_1 ≥ (0 : Int)))]) (bxs := []) (by kernel_rfl) hmix ⟨gg_1, gg_1, gg_1, rfl, rfl, rfl, gg_9, gg_9, rfl, gg_9, rfl, rfl, rfl, rfl, gg_13, gg_13, rfl, gg_13, rfl, rfl, rfl, rfl, rfl, (strings_IndexByte_ok ([95, 46, 58, 47, 60, 62, 36, 42, 126, 45] : List Int) c_1 r_1 h_1), rfl, rfl, trivial⟩ ?_
          replace h := Option.some.inj h; subst h
          exact ⟨rfl, (sub_wk [] [] [(2, .bool (decide (r_1 ≥ (0 : Int))))] [] (vcs := [((.bool (decide (r_1 ≥ (0 : Int))) : AV) = .bool (decide (r_1 ≥ (0 : Int))) : Prop)]) (by kernel_rfl) ⟨rfl, trivial⟩)⟩
  refine aw_ret (by kernel_rfl) ?_
  replace h := Option.some.inj h; subst h
  exact ⟨.inr rfl, Nat.le_of_ble_eq_true rfl, by kernel_rfl⟩

theorem intern_Name_ok (F : Nat) (s_1 : List Int) (r : Int) (h : intern_Name F s_1 = some r) : Triple prog 10 [] [.str s_1] [] (.int .i64 r) := by
  refine triple_intro (fn := Go.Proofs.Try.f10) (code := codeOf Go.Proofs.Try.f10) (by kernel_rfl) (by kernel_rfl) (Nat.le_of_ble_eq_true (by kernel_rfl)) ?_
  unfold intern_Name at h
  refine aw_seq (by kernel_rfl) ?_
  refine aw_region [] [0] [] 0 (vcs := []) (vals := [.str s_1]) (bxs := []) (by kernel_rfl) hmix trivial ?_
  refine aw_seq (by kernel_rfl) ?_
  refine aw_seq (by kernel_rfl) ?_
  refine aw_mid (mk [(0, .str s_1), (10, .bool ((s_1 == ([] : List Int)) || decide ((((s_1).length : Nat) : Int) > (40 : Int))))] [] 0) ?_ ?_
  · rcases Bool.eq_false_or_eq_true (s_1 == ([] : List Int)) with gg_1 | gg_1
    · refine aw_region [(3, { g := false }), (4, { g := false }), (5, { g := false }), (6, { b := true })] [0, 10] [] 0 (vcs := [(s_1 == ([] : List Int)) = !false, (s_1 == ([] : List Int)) = !false, (s_1 == ([] : List Int)) = !false, (s_1 == ([] : List Int)) = true]) (vals := [.str s_1, .bool true]) (bxs := []) (by kernel_rfl) hmix ⟨gg_1, gg_1, gg_1, gg_1, trivial⟩ ?_
      exact ⟨rfl, (sub_wk [] [] [(0, .str s_1), (10, .bool ((s_1 == ([] : List Int)) || decide ((((s_1).length : Nat) : Int) > (40 : Int))))] [] (vcs := [((.str s_1 : AV) = .str s_1 : Prop), ((.bool true : AV) = .bool ((s_1 == ([] : List Int)) || decide ((((s_1).length : Nat) : Int) > (40 : Int))) : Prop)]) (by kernel_rfl) ⟨rfl, (congrArg AV.bool (ort gg_1)), trivial⟩)⟩
    · refine aw_region [(6, { b := false })] [0, 10] [] 0 (vcs := [(s_1 == ([] : List Int)) = false, (s_1 == ([] : List Int)) = false, (s_1 == ([] : List Int)) = false, (s_1 == ([] : List Int)) = false]) (vals := [.str s_1, .bool (decide ((((s_1).length : Nat) : Int) > (40 : Int)))]) (bxs := []) (by kernel_rfl) hmix ⟨gg_1, gg_1, gg_1, gg_1, trivial⟩ ?_
      exact ⟨rfl, (sub_wk [] [] [(0, .str s_1), (10, .bool ((s_1 == ([] : List Int)) || decide ((((s_1).length : Nat) : Int) > (40 : Int))))] [] (vcs := [((.str s_1 : AV) = .str s_1 : Prop), ((.bool (decide ((((s_1).length : Nat) : Int) > (40 : Int))) : AV) = .bool ((s_1 == ([] : List Int)) || decide ((((s_1).length : Nat) : Int) > (40 : Int))) : Prop)]) (by kernel_rfl) ⟨rfl, (congrArg AV.bool (orf gg_1 rfl)), trivial⟩)⟩
  refine aw_cond (t := 10) (b := ((s_1 == ([] : List Int)) || decide ((((s_1).length : Nat) : Int) > (40 : Int)))) (by kernel_rfl) (by kernel_rfl) ?_ ?_
  · intro g_1; replace h := cond_t g_1 h
    refine aw_seq (by kernel_rfl) ?_
    refine aw_region [] [2] [] 0 (vcs := []) (vals := [.int .i64 (3 : Int)]) (bxs := []) (by kernel_rfl) hmix trivial ?_
    refine aw_ret (by kernel_rfl) ?_
    replace h := Option.some.inj h; subst h
    exact ⟨.inr rfl, Nat.le_of_ble_eq_true rfl, by kernel_rfl⟩
  intro g_1; replace h := cond_f g_1 h
  refine aw_skip (by kernel_rfl) ?_
  refine aw_seq (by kernel_rfl) ?_
  refine aw_seq (by kernel_rfl) ?_
  refine aw_region [] [0, 12, 13] [] 0 (vcs := []) (vals := [.str s_1, .int .i64 (((s_1).length : Nat) : Int), .int .i64 (0 : Int)]) (bxs := []) (by kernel_rfl) hmix trivial ?_
  obtain ⟨o_1, h_1, h⟩ := bind_some h
  refine aw_conv (K1 := (fun e st' => match o_1 with | (.inl q0) => e = .normal ∧ Sub 0 st' (mk [] [] 0) | (.inr q1) => e = .ret ∧ FinR prog Go.Proofs.Try.f10 0 [] (.int .i64 q1) st')) ?_ ?_
  · replace h := h_1
    refine aw_block (id := 0) (by kernel_rfl) ?_
    refine aw_sub (sub_wk [] [] [(0, .str s_1), (12, .int .i64 (((s_1).length : Nat) : Int)), (13, .int .i64 (0 : Int))] [] (vcs := [((.str s_1 : AV) = .str s_1 : Prop), ((.int .i64 (((s_1).length : Nat) : Int) : AV) = .int .i64 (((s_1).length : Nat) : Int) : Prop), ((.int .i64 (0 : Int) : AV) = .int .i64 (0 : Int) : Prop)]) (by kernel_rfl) ⟨rfl, rfl, rfl, trivial⟩) ?_
    refine aw_loopF (fun n st => ∃ (v_1 : Int), st = mk [(0, .str s_1), (12, .int .i64 (((s_1).length : Nat) : Int)), (13, .int .i64 v_1)] [] 0 ∧ intern_Name_L1 F s_1 n v_1 = some o_1) F (by kernel_rfl) ⟨_, rfl, h⟩ ?_ ?_
    · rintro _ ⟨_, _, h⟩; exact none_ne (h : (none : Option (Unit ⊕ Int)) = some o_1)
    rintro n_1 _ ⟨v_1, rfl, h⟩
    replace h : intern_Name_L1_body F s_1 (intern_Name_L1 F s_1 n_1) v_1 = some o_1 := h
    unfold intern_Name_L1_body at h
    refine aw_seq (by kernel_rfl) ?_
    refine aw_region [] [0, 12, 13, 14] [] 0 (vcs := []) (vals := [.str s_1, .int .i64 (((s_1).length : Nat) : Int), .int .i64 v_1, .bool (decide (v_1 < (((s_1).length : Nat) : Int)))]) (bxs := []) (by kernel_rfl) hmix trivial ?_
    refine aw_seq (by kernel_rfl) ?_
    refine aw_cond (t := 14) (b := (decide (v_1 < (((s_1).length : Nat) : Int)))) (by kernel_rfl) (by kernel_rfl) ?_ ?_
    rotate_left
    · intro g_2; replace h := cond_f g_2 h
      refine aw_exit (id := 0) (by kernel_rfl) ?_
      replace h := Option.some.inj h; subst h
      exact ⟨rfl, (sub_wk [] [] [] [] (vcs := []) (by kernel_rfl) trivial)⟩
    intro g_2; replace h := cond_t g_2 h
    refine aw_skip (by kernel_rfl) ?_
    refine aw_seq (by kernel_rfl) ?_
    refine aw_block (id := 1) (by kernel_rfl) ?_
    refine aw_seq (by kernel_rfl) ?_
    refine aw_region [] [0, 3, 12, 13] [] 0 (vcs := []) (vals := [.str s_1, .int .i64 v_1, .int .i64 (((s_1).length : Nat) : Int), .int .i64 v_1]) (bxs := []) (by kernel_rfl) hmix trivial ?_
    refine aw_seq (by kernel_rfl) ?_
    obtain ⟨c_1, h_2, h⟩ := bind_some h
    obtain ⟨r_1, h_3, h⟩ := bind_some h
    refine aw_region [(2, { z := c_1 }), (3, { av := .bool r_1, l := [.int .u8 c_1] })] [0, 12, 13, 20] [] 0 (vcs := [idxI s_1 v_1 = some c_1, ([.int .u8 c_1] : List AV) = [.int .u8 c_1], ([] : List BoxSt) = [], Triple prog 25 [] [.int .u8 c_1] [] (.bool r_1)]) (vals := [.str s_1, .int .i64 (((s_1).length : Nat) : Int), .int .i64 v_1, .bool (!r_1)]) (bxs := []) (by kernel_rfl) hmix ⟨h_2, rfl, rfl, (intern_letter_ok c_1 r_1 h_3), trivial⟩ ?_
    refine aw_cond (t := 20) (b := (!r_1)) (by kernel_rfl) (by kernel_rfl) ?_ ?_
    rotate_left
    · intro g_3; replace h := cond_f g_3 h
      refine aw_skip (by kernel_rfl) ?_
      refine aw_region [] [0, 12, 13] [] 0 (vcs := []) (vals := [.str s_1, .int .i64 (((s_1).length : Nat) : Int), .int .i64 (w_i64 (v_1 + (1 : Int)))]) (bxs := []) (by kernel_rfl) hmix trivial ?_
      exact ⟨_, (sub_wk [] [] [(0, .str s_1), (12, .int .i64 (((s_1).length : Nat) : Int)), (13, .int .i64 (w_i64 (v_1 + (1 : Int))))] [] (vcs := [((.str s_1 : AV) = .str s_1 : Prop), ((.int .i64 (((s_1).length : Nat) : Int) : AV) = .int .i64 (((s_1).length : Nat) : Int) : Prop), ((.int .i64 (w_i64 (v_1 + (1 : Int))) : AV) = .int .i64 (w_i64 (v_1 + (1 : Int))) : Prop)]) (by kernel_rfl) ⟨rfl, rfl, rfl, trivial⟩), _, rfl, h⟩
    intro g_3; replace h := cond_t g_3 h
    refine aw_seq (by kernel_rfl) ?_
    refine aw_region [] [2] [] 0 (vcs := []) (vals := [.int .i64 (3 : Int)]) (bxs := []) (by kernel_rfl) hmix trivial ?_
    refine aw_ret (by kernel_rfl) ?_
    replace h := Option.some.inj h; subst h
    exact ⟨rfl, Nat.le_of_ble_eq_true rfl, by kernel_rfl⟩
  intro e st1 hk
  rcases o_1 with q_1 | q_2
  rotate_left
  · obtain ⟨rfl, hf⟩ := hk
    replace h := Option.some.inj h; subst h
    exact ⟨st1, Sub.refl _ _, .inr rfl, hf⟩
  obtain ⟨rfl, hs⟩ := hk
  refine ⟨_, hs, ?_⟩
  refine aw_seq (by kernel_rfl) ?_
  refine aw_region [] [2] [] 0 (vcs := []) (vals := [.int .i64 (0 : Int)]) (bxs := []) (by kernel_rfl) hmix trivial ?_
  refine aw_ret (by kernel_rfl) ?_
  replace h := Option.some.inj h; subst h
  exact ⟨.inr rfl, Nat.le_of_ble_eq_true rfl, by kernel_rfl⟩

theorem intern_Frames_ok (F : Nat) (l_1 : List (List Int)) (r : Int) (h : intern_Frames F l_1 = some r) : Triple prog 14 [] [.sl false 1 (List.map AV.str l_1)] [] (.int .i64 r) := by
  refine triple_intro (fn := Go.Proofs.Try.f14) (code := codeOf Go.Proofs.Try.f14) (by kernel_rfl) (by kernel_rfl) (Nat.le_of_ble_eq_true (by kernel_rfl)) ?_
  unfold intern_Frames at h
  refine aw_seq (by kernel_rfl) ?_
  refine aw_region [] [0] [] 0 (vcs := []) (vals := [.sl false 1 (List.map AV.str l_1)]) (bxs := []) (by kernel_rfl) hmix trivial ?_
  refine aw_seq (by kernel_rfl) ?_
  refine aw_seq (by kernel_rfl) ?_
  refine aw_region [(1, { n := (l_1).length })] [0, 8] [] 0 (vcs := [((List.map AV.str l_1)).length = (l_1).length]) (vals := [.sl false 1 (List.map AV.str l_1), .bool (decide ((((l_1).length : Nat) : Int) > (32 : Int)))]) (bxs := []) (by kernel_rfl) hmix ⟨(vc_len _), trivial⟩ ?_
  refine aw_cond (t := 8) (b := (decide ((((l_1).length : Nat) : Int) > (32 : Int)))) (by kernel_rfl) (by kernel_rfl) ?_ ?_
  · intro g_1; replace h := cond_t g_1 h
    refine aw_seq (by kernel_rfl) ?_
    refine aw_region [] [2] [] 0 (vcs := []) (vals := [.int .i64 (7 : Int)]) (bxs := []) (by kernel_rfl) hmix trivial ?_
    refine aw_ret (by kernel_rfl) ?_
    replace h := Option.some.inj h; subst h
    exact ⟨.inr rfl, Nat.le_of_ble_eq_true rfl, by kernel_rfl⟩
  intro g_1; replace h := cond_f g_1 h
  refine aw_skip (by kernel_rfl) ?_
  refine aw_seq (by kernel_rfl) ?_
  refine aw_seq (by kernel_rfl) ?_
  refine aw_region [(1, { n := (l_1).length })] [9, 10, 11] [] 0 (vcs := [((List.map AV.str l_1)).length = (l_1).length]) (vals := [.sl false 1 (List.map AV.str l_1), .int .i64 (((l_1).length : Nat) : Int), .int .i64 (0 : Int)]) (bxs := []) (by kernel_rfl) hmix ⟨(vc_len _), trivial⟩ ?_
  obtain ⟨o_1, h_1, h⟩ := bind_some h
  refine aw_conv (K1 := (fun e st' => match o_1 with | (.inl q0) => e = .normal ∧ Sub 0 st' (mk [] [] 0) | (.inr q1) => e = .ret ∧ FinR prog Go.Proofs.Try.f14 0 [] (.int .i64 q1) st')) ?_ ?_
  · replace h := h_1
    refine aw_block (id := 0) (by kernel_rfl) ?_
    refine aw_sub (sub_wk [] [] [(9, .sl false 1 (List.map AV.str l_1)), (10, .int .i64 (((l_1).length : Nat) : Int)), (11, .int .i64 (0 : Int))] [] (vcs := [(1 = 1 : Prop), (((List.map AV.str l_1) : List AV) = (List.map AV.str l_1) : Prop), ((!false || false) = true : Prop), ((.int .i64 (((l_1).length : Nat) : Int) : AV) = .int .i64 (((l_1).length : Nat) : Int) : Prop), ((.int .i64 (0 : Int) : AV) = .int .i64 (0 : Int) : Prop)]) (by kernel_rfl) ⟨rfl, rfl, rfl, rfl, rfl, trivial⟩) ?_
    refine aw_loopF (fun n st => ∃ (v_1 : Int), st = mk [(9, .sl false 1 (List.map AV.str l_1)), (10, .int .i64 (((l_1).length : Nat) : Int)), (11, .int .i64 v_1)] [] 0 ∧ intern_Frames_L1 F l_1 n v_1 = some o_1) F (by kernel_rfl) ⟨_, rfl, h⟩ ?_ ?_
    · rintro _ ⟨_, _, h⟩; exact none_ne (h : (none : Option (Unit ⊕ Int)) = some o_1)
    rintro n_1 _ ⟨v_1, rfl, h⟩
    replace h : intern_Frames_L1_body F l_1 (intern_Frames_L1 F l_1 n_1) v_1 = some o_1 := h
    unfold intern_Frames_L1_body at h
    refine aw_seq (by kernel_rfl) ?_
    refine aw_region [] [9, 10, 11, 12] [] 0 (vcs := []) (vals := [.sl false 1 (List.map AV.str l_1), .int .i64 (((l_1).length : Nat) : Int), .int .i64 v_1, .bool (decide (v_1 < (((l_1).length : Nat) : Int)))]) (bxs := []) (by kernel_rfl) hmix trivial ?_
    refine aw_seq (by kernel_rfl) ?_
    refine aw_cond (t := 12) (b := (decide (v_1 < (((l_1).length : Nat) : Int)))) (by kernel_rfl) (by kernel_rfl) ?_ ?_
    rotate_left
    · intro g_2; replace h := cond_f g_2 h
      refine aw_exit (id := 0) (by kernel_rfl) ?_
      replace h := Option.some.inj h; subst h
      exact ⟨rfl, (sub_wk [] [] [] [] (vcs := []) (by kernel_rfl) trivial)⟩
    intro g_2; replace h := cond_t g_2 h
    refine aw_skip (by kernel_rfl) ?_
    refine aw_seq (by kernel_rfl) ?_
    refine aw_block (id := 1) (by kernel_rfl) ?_
    refine aw_seq (by kernel_rfl) ?_
    obtain ⟨x_1, h_2, h⟩ := bind_some h
    refine aw_region [(0, { av := .str x_1 })] [4, 9, 10, 11] [] 0 (vcs := [idxA (List.map AV.str l_1) v_1 = some (.str x_1)]) (vals := [.str x_1, .sl false 1 (List.map AV.str l_1), .int .i64 (((l_1).length : Nat) : Int), .int .i64 v_1]) (bxs := []) (by kernel_rfl) hmix ⟨(vc_idx h_2), trivial⟩ ?_
    refine aw_seq (by kernel_rfl) ?_
    obtain ⟨r_1, h_3, h⟩ := bind_some h
    refine aw_region [(1, { av := .int .i64 r_1, l := [.str x_1] })] [5, 9, 10, 11] [] 0 (vcs := [([.str x_1] : List AV) = [.str x_1], ([] : List BoxSt) = [], Triple prog 10 [] [.str x_1] [] (.int .i64 r_1)]) (vals := [.int .i64 r_1, .sl false 1 (List.map AV.str l_1), .int .i64 (((l_1).length : Nat) : Int), .int .i64 v_1]) (bxs := []) (by kernel_rfl) hmix ⟨rfl, rfl, (intern_Name_ok F x_1 r_1 h_3), trivial⟩ ?_
    refine aw_seq (by kernel_rfl) ?_
    refine aw_region [] [5, 9, 10, 11, 18] [] 0 (vcs := []) (vals := [.int .i64 r_1, .sl false 1 (List.map AV.str l_1), .int .i64 (((l_1).length : Nat) : Int), .int .i64 v_1, .bool (r_1 != (0 : Int))]) (bxs := []) (by kernel_rfl) hmix trivial ?_
    refine aw_cond (t := 18) (b := (r_1 != (0 : Int))) (by kernel_rfl) (by kernel_rfl) ?_ ?_
    rotate_left
    · intro g_3; replace h := cond_f g_3 h
      refine aw_skip (by kernel_rfl) ?_
      refine aw_region [] [9, 10, 11] [] 0 (vcs := []) (vals := [.sl false 1 (List.map AV.str l_1), .int .i64 (((l_1).length : Nat) : Int), .int .i64 (w_i64 (v_1 + (1 : Int)))]) (bxs := []) (by kernel_rfl) hmix trivial ?_
      exact ⟨_, (sub_wk [] [] [(9, .sl false 1 (List.map AV.str l_1)), (10, .int .i64 (((l_1).length : Nat) : Int)), (11, .int .i64 (w_i64 (v_1 + (1 : Int))))] [] (vcs := [(1 = 1 : Prop), (((List.map AV.str l_1) : List AV) = (List.map AV.str l_1) : Prop), ((!false || false) = true : Prop), ((.int .i64 (((l_1).length : Nat) : Int) : AV) = .int .i64 (((l_1).length : Nat) : Int) : Prop), ((.int .i64 (w_i64 (v_1 + (1 : Int))) : AV) = .int .i64 (w_i64 (v_1 + (1 : Int))) : Prop)]) (by kernel_rfl) ⟨rfl, rfl, rfl, rfl, rfl, trivial⟩), _, rfl, h⟩
    intro g_3; replace h := cond_t g_3 h
    refine aw_seq (by kernel_rfl) ?_
    refine aw_region [] [2] [] 0 (vcs := []) (vals := [.int .i64 r_1]) (bxs := []) (by kernel_rfl) hmix trivial ?_
    refine aw_ret (by kernel_rfl) ?_
    replace h := Option.some.inj h; subst h
    exact ⟨rfl, Nat.le_of_ble_eq_true rfl, by kernel_rfl⟩
  intro e st1 hk
  rcases o_1 with q_1 | q_2
  rotate_left
  · obtain ⟨rfl, hf⟩ := hk
    replace h := Option.some.inj h; subst h
    exact ⟨st1, Sub.refl _ _, .inr rfl, hf⟩
  obtain ⟨rfl, hs⟩ := hk
  refine ⟨_, hs, ?_⟩
  refine aw_seq (by kernel_rfl) ?_
  refine aw_region [] [2] [] 0 (vcs := []) (vals := [.int .i64 (0 : Int)]) (bxs := []) (by kernel_rfl) hmix trivial ?_
  refine aw_ret (by kernel_rfl) ?_
  replace h := Option.some.inj h; subst h
  exact ⟨.inr rfl, Nat.le_of_ble_eq_true rfl, by kernel_rfl⟩

theorem slices_Clone_2_int_2_int_ok (s_1 : List (Arr2_Int)) (r : (List (Arr2_Int))) (h : slices_Clone_2_int_2_int s_1 = some r) : Triple prog 34 [] [.sl false 2 (List.map e_Arr2_Int s_1)] [.row 46 2 (List.map e_Arr2_Int r)] (.own 0 ((r).length)) := by
  refine triple_intro (fn := Go.Proofs.Try.f34) (code := codeOf Go.Proofs.Try.f34) (by kernel_rfl) (by kernel_rfl) (Nat.le_of_ble_eq_true (by kernel_rfl)) ?_
  unfold slices_Clone_2_int_2_int at h
  refine aw_seq (by kernel_rfl) ?_
  refine aw_region [(0, { id := 0, m := 1 })] [0] [] 1 (vcs := []) (vals := [.sl false 2 (List.map e_Arr2_Int s_1)]) (bxs := []) (by kernel_rfl) hmix trivial ?_
  refine aw_seq (by kernel_rfl) ?_
  refine aw_seq (by kernel_rfl) ?_
  refine aw_region [] [0, 4] [] 1 (vcs := []) (vals := [.sl false 2 (List.map e_Arr2_Int s_1), .nb (List.map e_Arr2_Int s_1)]) (bxs := []) (by kernel_rfl) hmix trivial ?_
  refine aw_condN (t := 4) (l := (List.map e_Arr2_Int s_1)) (by kernel_rfl) (by kernel_rfl) ?_ ?_
  · intro h_2; replace h_2 := List.map_eq_nil_iff.1 h_2
    replace h := Eq.trans (show (some []) = ((need (((([] : List Arr2_Int)).length + (s_1).length) * 16 ≤ 140737488355328)).bind fun _ =>
 some ([] ++ s_1)) from by simp [h_2, need]) h
    refine aw_seq (by kernel_rfl) ?_
    refine aw_region [(0, { id := 1, m := 1 })] [2] [1] 2 (vcs := []) (vals := [.own 1 0]) (bxs := [.live (.row 46 2 [])]) (by kernel_rfl) hmix trivial ?_
    refine aw_sub (sub_wk [1] [] [(2, .own 0 ((([] : List Arr2_Int)).length))] [(0, .live (.row 46 2 []))] (vcs := [((.own 1 0 : AV) = .own 1 ((([] : List Arr2_Int)).length) : Prop), (46 = 46 : Prop), (2 = 2 : Prop), (([] : List AV) = [] : Prop)]) (by kernel_rfl) ⟨(congrArg (AV.own _) (by first | (simp; done) | (simp; omega))), rfl, rfl, rfl, trivial⟩) ?_
    refine aw_ret (by kernel_rfl) ?_
    replace h := Option.some.inj h; subst h
    exact ⟨.inr rfl, Nat.le_of_ble_eq_true rfl, by kernel_rfl⟩
  refine aw_skip (by kernel_rfl) ?_
  refine aw_seq (by kernel_rfl) ?_
  obtain ⟨_, h_1, h⟩ := bind_some h; replace h_1 := need_some h_1
  refine aw_region [(0, { id := 1 }), (2, { id := 2, l := (List.map e_Arr2_Int ([] ++ s_1)), n := (([] ++ s_1)).length })] [2] [2] 3 (vcs := [0 = (([] : List AV)).length, True, (List.map e_Arr2_Int ([] ++ s_1)) = [] ++ (List.map e_Arr2_Int s_1), (([] ++ s_1)).length = ((List.map e_Arr2_Int ([] ++ s_1))).length, (([] : List AV).length + ((List.map e_Arr2_Int s_1) : List AV).length) * 16 ≤ 140737488355328]) (vals := [.own 2 ((([] ++ s_1)).length)]) (bxs := [.live (.row 46 2 (List.map e_Arr2_Int ([] ++ s_1)))]) (by kernel_rfl) hmix ⟨(by first | (simp; done) | (simp; omega)), trivial, (by simp), (by simp), (by simpa using h_1), trivial⟩ ?_
  refine aw_sub (sub_wk [2] [] [(2, .own 0 ((([] ++ s_1)).length))] [(0, .live (.row 46 2 (List.map e_Arr2_Int ([] ++ s_1))))] (vcs := [((.own 2 ((([] ++ s_1)).length) : AV) = .own 2 ((([] ++ s_1)).length) : Prop), (46 = 46 : Prop), (2 = 2 : Prop), (((List.map e_Arr2_Int ([] ++ s_1)) : List AV) = (List.map e_Arr2_Int ([] ++ s_1)) : Prop)]) (by kernel_rfl) ⟨rfl, rfl, rfl, rfl, trivial⟩) ?_
  refine aw_ret (by kernel_rfl) ?_
  replace h := Option.some.inj h; subst h
  exact ⟨.inr rfl, Nat.le_of_ble_eq_true rfl, by kernel_rfl⟩

theorem slices_Index_string_string_ok (F : Nat) (s_1 : List (List Int)) (a_1 : List Int) (r : Int) (h : slices_Index_string_string F s_1 a_1 = some r) : Triple prog 32 [] [.sl false 1 (List.map AV.str s_1), .str a_1] [] (.int .i64 r) := by
  refine triple_intro (fn := Go.Proofs.Try.f32) (code := codeOf Go.Proofs.Try.f32) (by kernel_rfl) (by kernel_rfl) (Nat.le_of_ble_eq_true (by kernel_rfl)) ?_
  unfold slices_Index_string_string at h
  refine aw_seq (by kernel_rfl) ?_
  refine aw_region [] [0, 1] [] 0 (vcs := []) (vals := [.sl false 1 (List.map AV.str s_1), .str a_1]) (bxs := []) (by kernel_rfl) hmix trivial ?_
  refine aw_seq (by kernel_rfl) ?_
  refine aw_seq (by kernel_rfl) ?_
  refine aw_region [(1, { n := (s_1).length })] [0, 1, 7, 8] [] 0 (vcs := [((List.map AV.str s_1)).length = (s_1).length]) (vals := [.sl false 1 (List.map AV.str s_1), .str a_1, .int .i64 (((s_1).length : Nat) : Int), .int .i64 (0 : Int)]) (bxs := []) (by kernel_rfl) hmix ⟨(vc_len _), trivial⟩ ?_
  obtain ⟨o_1, h_1, h⟩ := bind_some h
  refine aw_conv (K1 := (fun e st' => match o_1 with | (.inl q0) => e = .normal ∧ Sub 0 st' (mk [] [] 0) | (.inr q1) => e = .ret ∧ FinR prog Go.Proofs.Try.f32 0 [] (.int .i64 q1) st')) ?_ ?_
  · replace h := h_1
    refine aw_block (id := 0) (by kernel_rfl) ?_
    refine aw_sub (sub_wk [] [] [(0, .sl false 1 (List.map AV.str s_1)), (1, .str a_1), (7, .int .i64 (((s_1).length : Nat) : Int)), (8, .int .i64 (0 : Int))] [] (vcs := [(1 = 1 : Prop), (((List.map AV.str s_1) : List AV) = (List.map AV.str s_1) : Prop), ((!false || false) = true : Prop), ((.str a_1 : AV) = .str a_1 : Prop), ((.int .i64 (((s_1).length : Nat) : Int) : AV) = .int .i64 (((s_1).length : Nat) : Int) : Prop), ((.int .i64 (0 : Int) : AV) = .int .i64 (0 : Int) : Prop)]) (by kernel_rfl) ⟨rfl, rfl, rfl, rfl, rfl, rfl, trivial⟩) ?_
    refine aw_loopF (fun n st => ∃ (v_1 : Int), st = mk [(0, .sl false 1 (List.map AV.str s_1)), (1, .str a_1), (7, .int .i64 (((s_1).length : Nat) : Int)), (8, .int .i64 v_1)] [] 0 ∧ slices_Index_string_string_L1 F s_1 a_1 n v_1 = some o_1) F (by kernel_rfl) ⟨_, rfl, h⟩ ?_ ?_
    · rintro _ ⟨_, _, h⟩; exact none_ne (h : (none : Option (Unit ⊕ Int)) = some o_1)
    rintro n_1 _ ⟨v_1, rfl, h⟩
    replace h : slices_Index_string_string_L1_body F s_1 a_1 (slices_Index_string_string_L1 F s_1 a_1 n_1) v_1 = some o_1 := h
    unfold slices_Index_string_string_L1_body at h
    refine aw_seq (by kernel_rfl) ?_
    refine aw_region [] [0, 1, 7, 8, 9] [] 0 (vcs := []) (vals := [.sl false 1 (List.map AV.str s_1), .str a_1, .int .i64 (((s_1).length : Nat) : Int), .int .i64 v_1, .bool (decide (v_1 < (((s_1).length : Nat) : Int)))]) (bxs := []) (by kernel_rfl) hmix trivial ?_
    refine aw_seq (by kernel_rfl) ?_
    refine aw_cond (t := 9) (b := (decide (v_1 < (((s_1).length : Nat) : Int)))) (by kernel_rfl) (by kernel_rfl) ?_ ?_
    rotate_left
    · intro g_1; replace h := cond_f g_1 h
      refine aw_exit (id := 0) (by kernel_rfl) ?_
      replace h := Option.some.inj h; subst h
      exact ⟨rfl, (sub_wk [] [] [] [] (vcs := []) (by kernel_rfl) trivial)⟩
    intro g_1; replace h := cond_t g_1 h
    refine aw_skip (by kernel_rfl) ?_
    refine aw_seq (by kernel_rfl) ?_
    refine aw_block (id := 1) (by kernel_rfl) ?_
    refine aw_seq (by kernel_rfl) ?_
    refine aw_region [] [0, 1, 5, 7, 8] [] 0 (vcs := []) (vals := [.sl false 1 (List.map AV.str s_1), .str a_1, .int .i64 v_1, .int .i64 (((s_1).length : Nat) : Int), .int .i64 v_1]) (bxs := []) (by kernel_rfl) hmix trivial ?_
    refine aw_seq (by kernel_rfl) ?_
    obtain ⟨x_1, h_2, h⟩ := bind_some h
    refine aw_region [(3, { av := .str x_1 })] [0, 1, 5, 7, 8, 16] [] 0 (vcs := [idxA (List.map AV.str s_1) v_1 = some (.str x_1)]) (vals := [.sl false 1 (List.map AV.str s_1), .str a_1, .int .i64 v_1, .int .i64 (((s_1).length : Nat) : Int), .int .i64 v_1, .bool (a_1 == x_1)]) (bxs := []) (by kernel_rfl) hmix ⟨(vc_idx h_2), trivial⟩ ?_
    refine aw_cond (t := 16) (b := (a_1 == x_1)) (by kernel_rfl) (by kernel_rfl) ?_ ?_
    rotate_left
    · intro g_2; replace h := cond_f g_2 h
      refine aw_skip (by kernel_rfl) ?_
      refine aw_region [] [0, 1, 7, 8] [] 0 (vcs := []) (vals := [.sl false 1 (List.map AV.str s_1), .str a_1, .int .i64 (((s_1).length : Nat) : Int), .int .i64 (w_i64 (v_1 + (1 : Int)))]) (bxs := []) (by kernel_rfl) hmix trivial ?_
      exact ⟨_, (sub_wk [] [] [(0, .sl false 1 (List.map AV.str s_1)), (1, .str a_1), (7, .int .i64 (((s_1).length : Nat) : Int)), (8, .int .i64 (w_i64 (v_1 + (1 : Int))))] [] (vcs := [(1 = 1 : Prop), (((List.map AV.str s_1) : List AV) = (List.map AV.str s_1) : Prop), ((!false || false) = true : Prop), ((.str a_1 : AV) = .str a_1 : Prop), ((.int .i64 (((s_1).length : Nat) : Int) : AV) = .int .i64 (((s_1).length : Nat) : Int) : Prop), ((.int .i64 (w_i64 (v_1 + (1 : Int))) : AV) = .int .i64 (w_i64 (v_1 + (1 : Int))) : Prop)]) (by kernel_rfl) ⟨rfl, rfl, rfl, rfl, rfl, rfl, trivial⟩), _, rfl, h⟩
    intro g_2; replace h := cond_t g_2 h
    refine aw_seq (by kernel_rfl) ?_
    refine aw_region [] [4] [] 0 (vcs := []) (vals := [.int .i64 v_1]) (bxs := []) (by kernel_rfl) hmix trivial ?_
    refine aw_ret (by kernel_rfl) ?_
    replace h := Option.some.inj h; subst h
    exact ⟨rfl, Nat.le_of_ble_eq_true rfl, by kernel_rfl⟩
  intro e st1 hk
  rcases o_1 with q_1 | q_2
  rotate_left
  · obtain ⟨rfl, hf⟩ := hk
    replace h := Option.some.inj h; subst h
    exact ⟨st1, Sub.refl _ _, .inr rfl, hf⟩
  obtain ⟨rfl, hs⟩ := hk
  refine ⟨_, hs, ?_⟩
  refine aw_seq (by kernel_rfl) ?_
  refine aw_region [] [4] [] 0 (vcs := []) (vals := [.int .i64 (-1 : Int)]) (bxs := []) (by kernel_rfl) hmix trivial ?_
  refine aw_ret (by kernel_rfl) ?_
  replace h := Option.some.inj h; subst h
  exact ⟨.inr rfl, Nat.le_of_ble_eq_true rfl, by kernel_rfl⟩

theorem slices_Clone_string_string_ok (s_1 : List (List Int)) (r : (List (List Int))) (h : slices_Clone_string_string s_1 = some r) : Triple prog 33 [] [.sl false 1 (List.map AV.str s_1)] [.row 9 1 (List.map AV.str r)] (.own 0 ((r).length)) := by
  refine triple_intro (fn := Go.Proofs.Try.f33) (code := codeOf Go.Proofs.Try.f33) (by kernel_rfl) (by kernel_rfl) (Nat.le_of_ble_eq_true (by kernel_rfl)) ?_
  unfold slices_Clone_string_string at h
  refine aw_seq (by kernel_rfl) ?_
  refine aw_region [(0, { id := 0, m := 1 })] [0] [] 1 (vcs := []) (vals := [.sl false 1 (List.map AV.str s_1)]) (bxs := []) (by kernel_rfl) hmix trivial ?_
  refine aw_seq (by kernel_rfl) ?_
  refine aw_seq (by kernel_rfl) ?_
  refine aw_region [] [0, 4] [] 1 (vcs := []) (vals := [.sl false 1 (List.map AV.str s_1), .nb (List.map AV.str s_1)]) (bxs := []) (by kernel_rfl) hmix trivial ?_
  refine aw_condN (t := 4) (l := (List.map AV.str s_1)) (by kernel_rfl) (by kernel_rfl) ?_ ?_
  · intro h_2; replace h_2 := List.map_eq_nil_iff.1 h_2
    replace h := Eq.trans (show (some []) = ((need (((([] : List (List Int))).length + (s_1).length) * 16 ≤ 140737488355328)).bind fun _ =>
 some ([] ++ s_1)) from by simp [h_2, need]) h
    refine aw_seq (by kernel_rfl) ?_
    refine aw_region [(0, { id := 1, m := 1 })] [2] [1] 2 (vcs := []) (vals := [.own 1 0]) (bxs := [.live (.row 9 1 [])]) (by kernel_rfl) hmix trivial ?_
    refine aw_sub (sub_wk [1] [] [(2, .own 0 ((([] : List (List Int))).length))] [(0, .live (.row 9 1 []))] (vcs := [((.own 1 0 : AV) = .own 1 ((([] : List (List Int))).length) : Prop), (9 = 9 : Prop), (1 = 1 : Prop), (([] : List AV) = [] : Prop)]) (by kernel_rfl) ⟨(congrArg (AV.own _) (by first | (simp; done) | (simp; omega))), rfl, rfl, rfl, trivial⟩) ?_
    refine aw_ret (by kernel_rfl) ?_
    replace h := Option.some.inj h; subst h
    exact ⟨.inr rfl, Nat.le_of_ble_eq_true rfl, by kernel_rfl⟩
  refine aw_skip (by kernel_rfl) ?_
  refine aw_seq (by kernel_rfl) ?_
  obtain ⟨_, h_1, h⟩ := bind_some h; replace h_1 := need_some h_1
  refine aw_region [(0, { id := 1 }), (2, { id := 2, l := (List.map AV.str ([] ++ s_1)), n := (([] ++ s_1)).length })] [2] [2] 3 (vcs := [0 = (([] : List AV)).length, True, (List.map AV.str ([] ++ s_1)) = [] ++ (List.map AV.str s_1), (([] ++ s_1)).length = ((List.map AV.str ([] ++ s_1))).length, (([] : List AV).length + ((List.map AV.str s_1) : List AV).length) * 16 ≤ 140737488355328]) (vals := [.own 2 ((([] ++ s_1)).length)]) (bxs := [.live (.row 9 1 (List.map AV.str ([] ++ s_1)))]) (by kernel_rfl) hmix ⟨(by first | (simp; done) | (simp; omega)), trivial, (by simp), (by simp), (by simpa using h_1), trivial⟩ ?_
  refine aw_sub (sub_wk [2] [] [(2, .own 0 ((([] ++ s_1)).length))] [(0, .live (.row 9 1 (List.map AV.str ([] ++ s_1))))] (vcs := [((.own 2 ((([] ++ s_1)).length) : AV) = .own 2 ((([] ++ s_1)).length) : Prop), (9 = 9 : Prop), (1 = 1 : Prop), (((List.map AV.str ([] ++ s_1)) : List AV) = (List.map AV.str ([] ++ s_1)) : Prop)]) (by kernel_rfl) ⟨rfl, rfl, rfl, rfl, trivial⟩) ?_
  refine aw_ret (by kernel_rfl) ?_
  replace h := Option.some.inj h; subst h
  exact ⟨.inr rfl, Nat.le_of_ble_eq_true rfl, by kernel_rfl⟩

theorem intern_Put_ok (F : Nat) (names_1 : List (List Int)) (s_1 : List Int) (r : Int × (List (List Int)) × Int) (h : intern_Put F names_1 s_1 = some r) : Triple prog 19 [] [.sl false 1 (List.map AV.str names_1), .str s_1] [] (.tuple [.int .i64 r.1, .sl false 1 (List.map AV.str r.2.1), .int .i64 r.2.2]) := by
  refine triple_intro (fn := Go.Proofs.Try.f19) (code := codeOf Go.Proofs.Try.f19) (by kernel_rfl) (by kernel_rfl) (Nat.le_of_ble_eq_true (by kernel_rfl)) ?_
  unfold intern_Put at h
  refine aw_seq (by kernel_rfl) ?_
  refine aw_region [] [0, 1] [] 0 (vcs := []) (vals := [.sl false 1 (List.map AV.str names_1), .str s_1]) (bxs := []) (by kernel_rfl) hmix trivial ?_
  refine aw_seq (by kernel_rfl) ?_
  refine aw_seq (by kernel_rfl) ?_
  obtain ⟨r_1, h_1, h⟩ := bind_some h
  refine aw_region [(1, { av := .int .i64 r_1, l := [.str s_1] })] [0, 1, 7] [] 0 (vcs := [([.str s_1] : List AV) = [.str s_1], ([] : List BoxSt) = [], Triple prog 10 [] [.str s_1] [] (.int .i64 r_1)]) (vals := [.sl false 1 (List.map AV.str names_1), .str s_1, .int .i64 r_1]) (bxs := []) (by kernel_rfl) hmix ⟨rfl, rfl, (intern_Name_ok F s_1 r_1 h_1), trivial⟩ ?_
  refine aw_seq (by kernel_rfl) ?_
  refine aw_region [] [0, 1, 7, 12] [] 0 (vcs := []) (vals := [.sl false 1 (List.map AV.str names_1), .str s_1, .int .i64 r_1, .bool (r_1 != (0 : Int))]) (bxs := []) (by kernel_rfl) hmix trivial ?_
  refine aw_cond (t := 12) (b := (r_1 != (0 : Int))) (by kernel_rfl) (by kernel_rfl) ?_ ?_
  · intro g_1; replace h := cond_t g_1 h
    refine aw_seq (by kernel_rfl) ?_
    refine aw_region [] [4, 5, 6] [] 0 (vcs := []) (vals := [.int .i64 (0 : Int), .sl false 1 (List.map AV.str names_1), .int .i64 r_1]) (bxs := []) (by kernel_rfl) hmix trivial ?_
    refine aw_ret (by kernel_rfl) ?_
    replace h := Option.some.inj h; subst h
    exact ⟨.inr rfl, Nat.le_of_ble_eq_true rfl, by kernel_rfl⟩
  intro g_1; replace h := cond_f g_1 h
  refine aw_skip (by kernel_rfl) ?_
  refine aw_seq (by kernel_rfl) ?_
  refine aw_seq (by kernel_rfl) ?_
  obtain ⟨r_2, h_2, h⟩ := bind_some h
  refine aw_region [(2, { av := .int .i64 r_2, l := [.sl false 1 (List.map AV.str names_1), .str s_1] })] [0, 1, 8] [] 0 (vcs := [([.sl false 1 (List.map AV.str names_1), .str s_1] : List AV) = [.sl false 1 (List.map AV.str names_1), .str s_1], ([] : List BoxSt) = [], Triple prog 32 [] [.sl false 1 (List.map AV.str names_1), .str s_1] [] (.int .i64 r_2)]) (vals := [.sl false 1 (List.map AV.str names_1), .str s_1, .int .i64 r_2]) (bxs := []) (by kernel_rfl) hmix ⟨rfl, rfl, (slices_Index_string_string_ok F names_1 s_1 r_2 h_2), trivial⟩ ?_
  refine aw_seq (by kernel_rfl) ?_
  refine aw_region [] [0, 1, 8, 19] [] 0 (vcs := []) (vals := [.sl false 1 (List.map AV.str names_1), .str s_1, .int .i64 r_2, .bool (decide (r_2 ≥ (0 : Int)))]) (bxs := []) (by kernel_rfl) hmix trivial ?_
  refine aw_cond (t := 19) (b := (decide (r_2 ≥ (0 : Int)))) (by kernel_rfl) (by kernel_rfl) ?_ ?_
  · intro g_2; replace h := cond_t g_2 h
    refine aw_seq (by kernel_rfl) ?_
    refine aw_region [] [4, 5, 6] [] 0 (vcs := []) (vals := [.int .i64 r_2, .sl false 1 (List.map AV.str names_1), .int .i64 (0 : Int)]) (bxs := []) (by kernel_rfl) hmix trivial ?_
    refine aw_ret (by kernel_rfl) ?_
    replace h := Option.some.inj h; subst h
    exact ⟨.inr rfl, Nat.le_of_ble_eq_true rfl, by kernel_rfl⟩
  intro g_2; replace h := cond_f g_2 h
  refine aw_skip (by kernel_rfl) ?_
  refine aw_seq (by kernel_rfl) ?_
  refine aw_seq (by kernel_rfl) ?_
  refine aw_region [(1, { n := (names_1).length })] [0, 1, 24] [] 0 (vcs := [((List.map AV.str names_1)).length = (names_1).length]) (vals := [.sl false 1 (List.map AV.str names_1), .str s_1, .bool (decide ((((names_1).length : Nat) : Int) ≥ (1000 : Int)))]) (bxs := []) (by kernel_rfl) hmix ⟨(vc_len _), trivial⟩ ?_
  refine aw_cond (t := 24) (b := (decide ((((names_1).length : Nat) : Int) ≥ (1000 : Int)))) (by kernel_rfl) (by kernel_rfl) ?_ ?_
  · intro g_3; replace h := cond_t g_3 h
    refine aw_seq (by kernel_rfl) ?_
    refine aw_region [] [4, 5, 6] [] 0 (vcs := []) (vals := [.int .i64 (0 : Int), .sl false 1 (List.map AV.str names_1), .int .i64 (6 : Int)]) (bxs := []) (by kernel_rfl) hmix trivial ?_
    refine aw_ret (by kernel_rfl) ?_
    replace h := Option.some.inj h; subst h
    exact ⟨.inr rfl, Nat.le_of_ble_eq_true rfl, by kernel_rfl⟩
  intro g_3; replace h := cond_f g_3 h
  refine aw_skip (by kernel_rfl) ?_
  refine aw_seq (by kernel_rfl) ?_
  obtain ⟨r_3, h_3, h⟩ := bind_some h
  obtain ⟨_, h_4, h⟩ := bind_some h; replace h_4 := need_some h_4
  refine aw_region [(1, { n := (names_1).length }), (3, { av := .own 0 ((r_3).length), ids := [0], l := [.sl false 1 (List.map AV.str names_1)], post := [(.row 9 1 (List.map AV.str r_3))] }), (5, { id := 1 }), (6, { id := 2, l := (List.map AV.str (r_3 ++ ([s_1] : List (List Int)))), n := ((r_3 ++ ([s_1] : List (List Int)))).length })] [4, 5, 6] [2] 3 (vcs := [((List.map AV.str names_1)).length = (names_1).length, ([.sl false 1 (List.map AV.str names_1)] : List AV) = [.sl false 1 (List.map AV.str names_1)], ([] : List BoxSt) = [], Triple prog 33 [] [.sl false 1 (List.map AV.str names_1)] [(.row 9 1 (List.map AV.str r_3))] (.own 0 ((r_3).length)), (r_3).length = ((List.map AV.str r_3)).length, 1 = ((List.map AV.str ([s_1] : List (List Int)))).length, (List.map AV.str (r_3 ++ ([s_1] : List (List Int)))) = (List.map AV.str r_3) ++ (List.map AV.str ([s_1] : List (List Int))), ((r_3 ++ ([s_1] : List (List Int)))).length = ((List.map AV.str (r_3 ++ ([s_1] : List (List Int))))).length, (((List.map AV.str r_3) : List AV).length + ((List.map AV.str ([s_1] : List (List Int))) : List AV).length) * 16 ≤ 140737488355328]) (vals := [.int .i64 (((names_1).length : Nat) : Int), .own 2 (((r_3 ++ ([s_1] : List (List Int)))).length), .int .i64 (0 : Int)]) (bxs := [.live (.row 9 1 (List.map AV.str (r_3 ++ ([s_1] : List (List Int)))))]) (by kernel_rfl) hmix ⟨(vc_len _), rfl, rfl, (slices_Clone_string_string_ok names_1 r_3 h_3), (by first | (simp; done) | (simp; omega)), (by first | (simp; done) | (simp; omega)), (vc_app _ _), (by simp), (by simpa using h_4), trivial⟩ ?_
  refine aw_sub (sub_wk [] [2] [(4, .int .i64 (((names_1).length : Nat) : Int)), (5, .sl false 1 (List.map AV.str (r_3 ++ ([s_1] : List (List Int))))), (6, .int .i64 (0 : Int))] [] (vcs := [((.int .i64 (((names_1).length : Nat) : Int) : AV) = .int .i64 (((names_1).length : Nat) : Int) : Prop), (((r_3 ++ ([s_1] : List (List Int)))).length = ((List.map AV.str (r_3 ++ ([s_1] : List (List Int))))).length : Prop), (1 = 1 : Prop), (((List.map AV.str (r_3 ++ ([s_1] : List (List Int)))) : List AV) = (List.map AV.str (r_3 ++ ([s_1] : List (List Int)))) : Prop), ((!false || false) = true : Prop), ((.int .i64 (0 : Int) : AV) = .int .i64 (0 : Int) : Prop)]) (by kernel_rfl) ⟨rfl, (by first | (simp; done) | (simp; omega)), rfl, rfl, rfl, rfl, trivial⟩) ?_
  refine aw_ret (by kernel_rfl) ?_
  replace h := Option.some.inj h; subst h
  exact ⟨.inr rfl, Nat.le_of_ble_eq_true rfl, by kernel_rfl⟩

theorem slices_Index_2_int_2_int_ok (F : Nat) (s_1 : List (Arr2_Int)) (a_1 : Arr2_Int) (r : Int) (h : slices_Index_2_int_2_int F s_1 a_1 = some r) : Triple prog 35 [] [.sl false 2 (List.map e_Arr2_Int s_1), .agg [.int .i64 a_1.c0, .int .i64 a_1.c1]] [] (.int .i64 r) := by
  refine triple_intro (fn := Go.Proofs.Try.f35) (code := codeOf Go.Proofs.Try.f35) (by kernel_rfl) (by kernel_rfl) (Nat.le_of_ble_eq_true (by kernel_rfl)) ?_
  unfold slices_Index_2_int_2_int at h
  refine aw_seq (by kernel_rfl) ?_
  refine aw_region [(0, { id := 0 })] [0, 3] [0] 1 (vcs := []) (vals := [.sl false 2 (List.map e_Arr2_Int s_1), .ptr 0 0 0 0]) (bxs := [.live (.var 46 [.int .i64 a_1.c0, .int .i64 a_1.c1])]) (by kernel_rfl) hmix trivial ?_
  refine aw_seq (by kernel_rfl) ?_
  refine aw_seq (by kernel_rfl) ?_
  refine aw_region [(1, { n := (s_1).length })] [0, 3, 7, 8] [0] 1 (vcs := [((List.map e_Arr2_Int s_1)).length = (s_1).length]) (vals := [.sl false 2 (List.map e_Arr2_Int s_1), .ptr 0 0 0 0, .int .i64 (((s_1).length : Nat) : Int), .int .i64 (0 : Int)]) (bxs := [.live (.var 46 [.int .i64 a_1.c0, .int .i64 a_1.c1])]) (by kernel_rfl) hmix ⟨(vc_len _), trivial⟩ ?_
  obtain ⟨o_1, h_1, h⟩ := bind_some h
  refine aw_conv (K1 := (fun e st' => match o_1 with | (.inl q0) => e = .normal ∧ Sub 0 st' (mk [] [] 0) | (.inr q1) => e = .ret ∧ FinR prog Go.Proofs.Try.f35 0 [] (.int .i64 q1) st')) ?_ ?_
  · replace h := h_1
    refine aw_block (id := 0) (by kernel_rfl) ?_
    refine aw_sub (sub_wk [0] [] [(0, .sl false 2 (List.map e_Arr2_Int s_1)), (3, .ptr 0 0 0 0), (7, .int .i64 (((s_1).length : Nat) : Int)), (8, .int .i64 (0 : Int))] [(0, .live (.var 46 [.int .i64 a_1.c0, .int .i64 a_1.c1]))] (vcs := [(2 = 2 : Prop), (((List.map e_Arr2_Int s_1) : List AV) = (List.map e_Arr2_Int s_1) : Prop), ((!false || false) = true : Prop), ((.ptr 0 0 0 0 : AV) = .ptr 0 0 0 0 : Prop), ((.int .i64 (((s_1).length : Nat) : Int) : AV) = .int .i64 (((s_1).length : Nat) : Int) : Prop), ((.int .i64 (0 : Int) : AV) = .int .i64 (0 : Int) : Prop), (46 = 46 : Prop), (ones [.int .i64 a_1.c0, .int .i64 a_1.c1] = true : Prop), ((.int .i64 a_1.c0 : AV) = .int .i64 a_1.c0 : Prop), ((.int .i64 a_1.c1 : AV) = .int .i64 a_1.c1 : Prop)]) (by kernel_rfl) ⟨rfl, rfl, rfl, rfl, rfl, rfl, rfl, rfl, rfl, rfl, trivial⟩) ?_
    refine aw_loopF (fun n st => ∃ (v_1 : Int), st = mk [(0, .sl false 2 (List.map e_Arr2_Int s_1)), (3, .ptr 0 0 0 0), (7, .int .i64 (((s_1).length : Nat) : Int)), (8, .int .i64 v_1)] [(0, .live (.var 46 [.int .i64 a_1.c0, .int .i64 a_1.c1]))] 1 ∧ slices_Index_2_int_2_int_L1 F s_1 a_1 n v_1 = some o_1) F (by kernel_rfl) ⟨_, rfl, h⟩ ?_ ?_
    · rintro _ ⟨_, _, h⟩; exact none_ne (h : (none : Option (Unit ⊕ Int)) = some o_1)
    rintro n_1 _ ⟨v_1, rfl, h⟩
    replace h : slices_Index_2_int_2_int_L1_body F s_1 a_1 (slices_Index_2_int_2_int_L1 F s_1 a_1 n_1) v_1 = some o_1 := h
    unfold slices_Index_2_int_2_int_L1_body at h
    refine aw_seq (by kernel_rfl) ?_
    refine aw_region [] [0, 3, 7, 8, 9] [0] 1 (vcs := []) (vals := [.sl false 2 (List.map e_Arr2_Int s_1), .ptr 0 0 0 0, .int .i64 (((s_1).length : Nat) : Int), .int .i64 v_1, .bool (decide (v_1 < (((s_1).length : Nat) : Int)))]) (bxs := [.live (.var 46 [.int .i64 a_1.c0, .int .i64 a_1.c1])]) (by kernel_rfl) hmix trivial ?_
    refine aw_seq (by kernel_rfl) ?_
    refine aw_cond (t := 9) (b := (decide (v_1 < (((s_1).length : Nat) : Int)))) (by kernel_rfl) (by kernel_rfl) ?_ ?_
    rotate_left
    · intro g_1; replace h := cond_f g_1 h
      refine aw_exit (id := 0) (by kernel_rfl) ?_
      replace h := Option.some.inj h; subst h
      exact ⟨rfl, (sub_wk [] [] [] [] (vcs := []) (by kernel_rfl) trivial)⟩
    intro g_1; replace h := cond_t g_1 h
    refine aw_skip (by kernel_rfl) ?_
    refine aw_seq (by kernel_rfl) ?_
    refine aw_block (id := 1) (by kernel_rfl) ?_
    refine aw_seq (by kernel_rfl) ?_
    refine aw_region [] [0, 3, 5, 7, 8] [0] 1 (vcs := []) (vals := [.sl false 2 (List.map e_Arr2_Int s_1), .ptr 0 0 0 0, .int .i64 v_1, .int .i64 (((s_1).length : Nat) : Int), .int .i64 v_1]) (bxs := [.live (.var 46 [.int .i64 a_1.c0, .int .i64 a_1.c1])]) (by kernel_rfl) hmix trivial ?_
    refine aw_seq (by kernel_rfl) ?_
    obtain ⟨x_1, h_2, h⟩ := bind_some h
    refine aw_region [(3, { av := .agg [.int .i64 x_1.c0, .int .i64 x_1.c1] }), (5, { b := (decide (a_1 = x_1)), mks := [.int .i64, .int .i64] })] [0, 3, 5, 7, 8, 16] [0] 1 (vcs := [idxA (List.map e_Arr2_Int s_1) v_1 = some (.agg [.int .i64 x_1.c0, .int .i64 x_1.c1]), EqOk prog 46 [.int .i64, .int .i64], ((decide (a_1 = x_1)) = true ↔ AV.agg [.int .i64 a_1.c0, .int .i64 a_1.c1] = AV.agg [.int .i64 x_1.c0, .int .i64 x_1.c1])]) (vals := [.sl false 2 (List.map e_Arr2_Int s_1), .ptr 0 0 0 0, .int .i64 v_1, .int .i64 (((s_1).length : Nat) : Int), .int .i64 v_1, .bool (decide (a_1 = x_1))]) (bxs := [.live (.var 46 [.int .i64 a_1.c0, .int .i64 a_1.c1])]) (by kernel_rfl) hmix ⟨(vc_idx h_2), eqOk_46, (vc_eqA (f := e_Arr2_Int) inj_Arr2_Int a_1 x_1), trivial⟩ ?_
    refine aw_cond (t := 16) (b := (decide (a_1 = x_1))) (by kernel_rfl) (by kernel_rfl) ?_ ?_
    rotate_left
    · intro g_2; replace h := cond_f g_2 h
      refine aw_skip (by kernel_rfl) ?_
      refine aw_region [] [0, 3, 7, 8] [0] 1 (vcs := []) (vals := [.sl false 2 (List.map e_Arr2_Int s_1), .ptr 0 0 0 0, .int .i64 (((s_1).length : Nat) : Int), .int .i64 (w_i64 (v_1 + (1 : Int)))]) (bxs := [.live (.var 46 [.int .i64 a_1.c0, .int .i64 a_1.c1])]) (by kernel_rfl) hmix trivial ?_
      exact ⟨_, (sub_wk [0] [] [(0, .sl false 2 (List.map e_Arr2_Int s_1)), (3, .ptr 0 0 0 0), (7, .int .i64 (((s_1).length : Nat) : Int)), (8, .int .i64 (w_i64 (v_1 + (1 : Int))))] [(0, .live (.var 46 [.int .i64 a_1.c0, .int .i64 a_1.c1]))] (vcs := [(2 = 2 : Prop), (((List.map e_Arr2_Int s_1) : List AV) = (List.map e_Arr2_Int s_1) : Prop), ((!false || false) = true : Prop), ((.ptr 0 0 0 0 : AV) = .ptr 0 0 0 0 : Prop), ((.int .i64 (((s_1).length : Nat) : Int) : AV) = .int .i64 (((s_1).length : Nat) : Int) : Prop), ((.int .i64 (w_i64 (v_1 + (1 : Int))) : AV) = .int .i64 (w_i64 (v_1 + (1 : Int))) : Prop), (46 = 46 : Prop), (ones [.int .i64 a_1.c0, .int .i64 a_1.c1] = true : Prop), ((.int .i64 a_1.c0 : AV) = .int .i64 a_1.c0 : Prop), ((.int .i64 a_1.c1 : AV) = .int .i64 a_1.c1 : Prop)]) (by kernel_rfl) ⟨rfl, rfl, rfl, rfl, rfl, rfl, rfl, rfl, rfl, rfl, trivial⟩), _, rfl, h⟩
    intro g_2; replace h := cond_t g_2 h
    refine aw_seq (by kernel_rfl) ?_
    refine aw_region [] [4] [] 1 (vcs := []) (vals := [.int .i64 v_1]) (bxs := []) (by kernel_rfl) hmix trivial ?_
    refine aw_ret (by kernel_rfl) ?_
    replace h := Option.some.inj h; subst h
    exact ⟨rfl, Nat.le_of_ble_eq_true rfl, by kernel_rfl⟩
  intro e st1 hk
  rcases o_1 with q_1 | q_2
  rotate_left
  · obtain ⟨rfl, hf⟩ := hk
    replace h := Option.some.inj h; subst h
    exact ⟨st1, Sub.refl _ _, .inr rfl, hf⟩
  obtain ⟨rfl, hs⟩ := hk
  refine ⟨_, hs, ?_⟩
  refine aw_seq (by kernel_rfl) ?_
  refine aw_region [] [4] [] 0 (vcs := []) (vals := [.int .i64 (-1 : Int)]) (bxs := []) (by kernel_rfl) hmix trivial ?_
  refine aw_ret (by kernel_rfl) ?_
  replace h := Option.some.inj h; subst h
  exact ⟨.inr rfl, Nat.le_of_ble_eq_true rfl, by kernel_rfl⟩

theorem intern_PutStack_ok (F : Nat) (names_1 : List (List Int)) (stacks_1 : List (Arr2_Int)) (l_1 : List (List Int)) (r : Int × (List (List Int)) × (List (Arr2_Int)) × Int) (h : intern_PutStack F names_1 stacks_1 l_1 = some r) : Triple prog 21 [] [.sl false 1 (List.map AV.str names_1), .sl false 2 (List.map e_Arr2_Int stacks_1), .sl false 1 (List.map AV.str l_1)] [] (.tuple [.int .i64 r.1, .sl false 1 (List.map AV.str r.2.1), .sl false 2 (List.map e_Arr2_Int r.2.2.1), .int .i64 r.2.2.2]) := by
  refine triple_intro (fn := Go.Proofs.Try.f21) (code := codeOf Go.Proofs.Try.f21) (by kernel_rfl) (by kernel_rfl) (Nat.le_of_ble_eq_true (by kernel_rfl)) ?_
  unfold intern_PutStack at h
  refine aw_seq (by kernel_rfl) ?_
  refine aw_region [] [0, 1, 2] [] 0 (vcs := []) (vals := [.sl false 1 (List.map AV.str names_1), .sl false 2 (List.map e_Arr2_Int stacks_1), .sl false 1 (List.map AV.str l_1)]) (bxs := []) (by kernel_rfl) hmix trivial ?_
  refine aw_seq (by kernel_rfl) ?_
  refine aw_seq (by kernel_rfl) ?_
  obtain ⟨r_1, h_1, h⟩ := bind_some h
  refine aw_region [(1, { av := .int .i64 r_1, l := [.sl false 1 (List.map AV.str l_1)] })] [0, 1, 2, 10] [] 0 (vcs := [([.sl false 1 (List.map AV.str l_1)] : List AV) = [.sl false 1 (List.map AV.str l_1)], ([] : List BoxSt) = [], Triple prog 14 [] [.sl false 1 (List.map AV.str l_1)] [] (.int .i64 r_1)]) (vals := [.sl false 1 (List.map AV.str names_1), .sl false 2 (List.map e_Arr2_Int stacks_1), .sl false 1 (List.map AV.str l_1), .int .i64 r_1]) (bxs := []) (by kernel_rfl) hmix ⟨rfl, rfl, (intern_Frames_ok F l_1 r_1 h_1), trivial⟩ ?_
  refine aw_seq (by kernel_rfl) ?_
  refine aw_region [] [0, 1, 2, 10, 23] [] 0 (vcs := []) (vals := [.sl false 1 (List.map AV.str names_1), .sl false 2 (List.map e_Arr2_Int stacks_1), .sl false 1 (List.map AV.str l_1), .int .i64 r_1, .bool (r_1 != (0 : Int))]) (bxs := []) (by kernel_rfl) hmix trivial ?_
  refine aw_cond (t := 23) (b := (r_1 != (0 : Int))) (by kernel_rfl) (by kernel_rfl) ?_ ?_
  · intro g_1; replace h := cond_t g_1 h
    refine aw_seq (by kernel_rfl) ?_
    refine aw_region [] [6, 7, 8, 9] [] 0 (vcs := []) (vals := [.int .i64 (0 : Int), .sl false 1 (List.map AV.str names_1), .sl false 2 (List.map e_Arr2_Int stacks_1), .int .i64 r_1]) (bxs := []) (by kernel_rfl) hmix trivial ?_
    refine aw_ret (by kernel_rfl) ?_
    replace h := Option.some.inj h; subst h
    exact ⟨.inr rfl, Nat.le_of_ble_eq_true rfl, by kernel_rfl⟩
  intro g_1; replace h := cond_f g_1 h
  refine aw_skip (by kernel_rfl) ?_
  refine aw_seq (by kernel_rfl) ?_
  obtain ⟨r_2, h_2, h⟩ := bind_some h
  refine aw_region [(2, { av := .own 0 ((r_2).length), ids := [0], l := [.sl false 2 (List.map e_Arr2_Int stacks_1)], post := [(.row 46 2 (List.map e_Arr2_Int r_2))] })] [0, 1, 2, 11, 12, 13] [0] 1 (vcs := [([.sl false 2 (List.map e_Arr2_Int stacks_1)] : List AV) = [.sl false 2 (List.map e_Arr2_Int stacks_1)], ([] : List BoxSt) = [], Triple prog 34 [] [.sl false 2 (List.map e_Arr2_Int stacks_1)] [(.row 46 2 (List.map e_Arr2_Int r_2))] (.own 0 ((r_2).length))]) (vals := [.sl false 1 (List.map AV.str names_1), .sl false 2 (List.map e_Arr2_Int stacks_1), .sl false 1 (List.map AV.str l_1), .int .i64 (-1 : Int), .sl false 1 (List.map AV.str names_1), .own 0 ((r_2).length)]) (bxs := [.live (.row 46 2 (List.map e_Arr2_Int r_2))]) (by kernel_rfl) hmix ⟨rfl, rfl, (slices_Clone_2_int_2_int_ok stacks_1 r_2 h_2), trivial⟩ ?_
  refine aw_seq (by kernel_rfl) ?_
  refine aw_seq (by kernel_rfl) ?_
  refine aw_region [(1, { n := (l_1).length })] [0, 1, 11, 12, 13, 30, 31, 32] [0] 1 (vcs := [((List.map AV.str l_1)).length = (l_1).length]) (vals := [.sl false 1 (List.map AV.str names_1), .sl false 2 (List.map e_Arr2_Int stacks_1), .int .i64 (-1 : Int), .sl false 1 (List.map AV.str names_1), .own 0 ((r_2).length), .sl false 1 (List.map AV.str l_1), .int .i64 (((l_1).length : Nat) : Int), .int .i64 (0 : Int)]) (bxs := [.live (.row 46 2 (List.map e_Arr2_Int r_2))]) (by kernel_rfl) hmix ⟨(vc_len _), trivial⟩ ?_
  obtain ⟨o_1, h_3, h⟩ := bind_some h
  refine aw_conv (K1 := (fun e st' => match o_1 with | (.inl q0) => e = .normal ∧ Sub 0 st' (mk [(11, .int .i64 q0.1), (12, .sl false 1 (List.map AV.str q0.2.1)), (13, .own 0 ((q0.2.2).length))] [(0, .live (.row 46 2 (List.map e_Arr2_Int q0.2.2)))] 1) | (.inr q1) => e = .ret ∧ FinR prog Go.Proofs.Try.f21 0 [] (.tuple [.int .i64 q1.1, .sl false 1 (List.map AV.str q1.2.1), .sl false 2 (List.map e_Arr2_Int q1.2.2.1), .int .i64 q1.2.2.2]) st')) ?_ ?_
  · replace h := h_3
    refine aw_block (id := 0) (by kernel_rfl) ?_
    refine aw_sub (sub_wk [0] [] [(0, .sl false 1 (List.map AV.str names_1)), (1, .sl false 2 (List.map e_Arr2_Int stacks_1)), (11, .int .i64 (-1 : Int)), (12, .sl false 1 (List.map AV.str names_1)), (13, .own 0 ((r_2).length)), (30, .sl false 1 (List.map AV.str l_1)), (31, .int .i64 (((l_1).length : Nat) : Int)), (32, .int .i64 (0 : Int))] [(0, .live (.row 46 2 (List.map e_Arr2_Int r_2)))] (vcs := [(1 = 1 : Prop), (((List.map AV.str names_1) : List AV) = (List.map AV.str names_1) : Prop), ((!false || false) = true : Prop), (2 = 2 : Prop), (((List.map e_Arr2_Int stacks_1) : List AV) = (List.map e_Arr2_Int stacks_1) : Prop), ((!false || false) = true : Prop), ((.int .i64 (-1 : Int) : AV) = .int .i64 (-1 : Int) : Prop), (1 = 1 : Prop), (((List.map AV.str names_1) : List AV) = (List.map AV.str names_1) : Prop), ((!false || false) = true : Prop), ((.own 0 ((r_2).length) : AV) = .own 0 ((r_2).length) : Prop), (1 = 1 : Prop), (((List.map AV.str l_1) : List AV) = (List.map AV.str l_1) : Prop), ((!false || false) = true : Prop), ((.int .i64 (((l_1).length : Nat) : Int) : AV) = .int .i64 (((l_1).length : Nat) : Int) : Prop), ((.int .i64 (0 : Int) : AV) = .int .i64 (0 : Int) : Prop), (46 = 46 : Prop), (2 = 2 : Prop), (((List.map e_Arr2_Int r_2) : List AV) = (List.map e_Arr2_Int r_2) : Prop)]) (by kernel_rfl) ⟨rfl, rfl, rfl, rfl, rfl, rfl, rfl, rfl, rfl, rfl, rfl, rfl, rfl, rfl, rfl, rfl, rfl, rfl, rfl, trivial⟩) ?_
    refine aw_loopF (fun n st => ∃ (at__1 : Int), ∃ (n_1 : List (List Int)), ∃ (v_1 : Int), ∃ (row_1 : List Arr2_Int), st = mk [(0, .sl false 1 (List.map AV.str names_1)), (1, .sl false 2 (List.map e_Arr2_Int stacks_1)), (11, .int .i64 at__1), (12, .sl false 1 (List.map AV.str n_1)), (13, .own 0 ((row_1).length)), (30, .sl false 1 (List.map AV.str l_1)), (31, .int .i64 (((l_1).length : Nat) : Int)), (32, .int .i64 v_1)] [(0, .live (.row 46 2 (List.map e_Arr2_Int row_1)))] 1 ∧ intern_PutStack_L1 F names_1 stacks_1 l_1 n at__1 n_1 v_1 row_1 = some o_1) F (by kernel_rfl) ⟨_, _, _, _, rfl, h⟩ ?_ ?_
    · rintro _ ⟨_, _, _, _, _, h⟩; exact none_ne (h : (none : Option ((Int × (List (List Int)) × (List Arr2_Int)) ⊕ (Int × (List (List Int)) × (List (Arr2_Int)) × Int))) = some o_1)
    rintro n_2 _ ⟨at__1, n_1, v_1, row_1, rfl, h⟩
    replace h : intern_PutStack_L1_body F names_1 stacks_1 l_1 (intern_PutStack_L1 F names_1 stacks_1 l_1 n_2) at__1 n_1 v_1 row_1 = some o_1 := h
    unfold intern_PutStack_L1_body at h
    refine aw_seq (by kernel_rfl) ?_
    refine aw_region [] [0, 1, 11, 12, 13, 30, 31, 32, 33] [0] 1 (vcs := []) (vals := [.sl false 1 (List.map AV.str names_1), .sl false 2 (List.map e_Arr2_Int stacks_1), .int .i64 at__1, .sl false 1 (List.map AV.str n_1), .own 0 ((row_1).length), .sl false 1 (List.map AV.str l_1), .int .i64 (((l_1).length : Nat) : Int), .int .i64 v_1, .bool (decide (v_1 < (((l_1).length : Nat) : Int)))]) (bxs := [.live (.row 46 2 (List.map e_Arr2_Int row_1))]) (by kernel_rfl) hmix trivial ?_
    refine aw_seq (by kernel_rfl) ?_
    refine aw_cond (t := 33) (b := (decide (v_1 < (((l_1).length : Nat) : Int)))) (by kernel_rfl) (by kernel_rfl) ?_ ?_
    rotate_left
    · intro g_2; replace h := cond_f g_2 h
      refine aw_exit (id := 0) (by kernel_rfl) ?_
      replace h := Option.some.inj h; subst h
      exact ⟨rfl, (sub_wk [0] [] [(11, .int .i64 at__1), (12, .sl false 1 (List.map AV.str n_1)), (13, .own 0 ((row_1).length))] [(0, .live (.row 46 2 (List.map e_Arr2_Int row_1)))] (vcs := [((.int .i64 at__1 : AV) = .int .i64 at__1 : Prop), (1 = 1 : Prop), (((List.map AV.str n_1) : List AV) = (List.map AV.str n_1) : Prop), ((!false || false) = true : Prop), ((.own 0 ((row_1).length) : AV) = .own 0 ((row_1).length) : Prop), (46 = 46 : Prop), (2 = 2 : Prop), (((List.map e_Arr2_Int row_1) : List AV) = (List.map e_Arr2_Int row_1) : Prop)]) (by kernel_rfl) ⟨rfl, rfl, rfl, rfl, rfl, rfl, rfl, rfl, trivial⟩)⟩
    intro g_2; replace h := cond_t g_2 h
    refine aw_skip (by kernel_rfl) ?_
    refine aw_seq (by kernel_rfl) ?_
    refine aw_block (id := 1) (by kernel_rfl) ?_
    refine aw_seq (by kernel_rfl) ?_
    obtain ⟨x_1, h_4, h⟩ := bind_some h
    refine aw_region [(0, { av := .str x_1 })] [0, 1, 11, 12, 13, 15, 30, 31, 32] [0] 1 (vcs := [idxA (List.map AV.str l_1) v_1 = some (.str x_1)]) (vals := [.sl false 1 (List.map AV.str names_1), .sl false 2 (List.map e_Arr2_Int stacks_1), .int .i64 at__1, .sl false 1 (List.map AV.str n_1), .own 0 ((row_1).length), .str x_1, .sl false 1 (List.map AV.str l_1), .int .i64 (((l_1).length : Nat) : Int), .int .i64 v_1]) (bxs := [.live (.row 46 2 (List.map e_Arr2_Int row_1))]) (by kernel_rfl) hmix ⟨(vc_idx h_4), trivial⟩ ?_
    refine aw_seq (by kernel_rfl) ?_
    obtain ⟨r_3, h_5, h⟩ := bind_some h
    refine aw_region [(2, { av := .tuple [.int .i64 r_3.1, .sl false 1 (List.map AV.str r_3.2.1), .int .i64 r_3.2.2], l := [.sl false 1 (List.map AV.str n_1), .str x_1] })] [0, 1, 11, 13, 16, 17, 18, 30, 31, 32] [0] 1 (vcs := [([.sl false 1 (List.map AV.str n_1), .str x_1] : List AV) = [.sl false 1 (List.map AV.str n_1), .str x_1], ([] : List BoxSt) = [], Triple prog 19 [] [.sl false 1 (List.map AV.str n_1), .str x_1] [] (.tuple [.int .i64 r_3.1, .sl false 1 (List.map AV.str r_3.2.1), .int .i64 r_3.2.2])]) (vals := [.sl false 1 (List.map AV.str names_1), .sl false 2 (List.map e_Arr2_Int stacks_1), .int .i64 at__1, .own 0 ((row_1).length), .int .i64 r_3.1, .sl false 1 (List.map AV.str r_3.2.1), .int .i64 r_3.2.2, .sl false 1 (List.map AV.str l_1), .int .i64 (((l_1).length : Nat) : Int), .int .i64 v_1]) (bxs := [.live (.row 46 2 (List.map e_Arr2_Int row_1))]) (by kernel_rfl) hmix ⟨rfl, rfl, (intern_Put_ok F n_1 x_1 r_3 h_5), trivial⟩ ?_
    refine aw_seq (by kernel_rfl) ?_
    refine aw_seq (by kernel_rfl) ?_
    refine aw_region [] [0, 1, 11, 13, 16, 17, 18, 30, 31, 32, 44] [0] 1 (vcs := []) (vals := [.sl false 1 (List.map AV.str names_1), .sl false 2 (List.map e_Arr2_Int stacks_1), .int .i64 at__1, .own 0 ((row_1).length), .int .i64 r_3.1, .sl false 1 (List.map AV.str r_3.2.1), .int .i64 r_3.2.2, .sl false 1 (List.map AV.str l_1), .int .i64 (((l_1).length : Nat) : Int), .int .i64 v_1, .bool (r_3.2.2 != (0 : Int))]) (bxs := [.live (.row 46 2 (List.map e_Arr2_Int row_1))]) (by kernel_rfl) hmix trivial ?_
    refine aw_cond (t := 44) (b := (r_3.2.2 != (0 : Int))) (by kernel_rfl) (by kernel_rfl) ?_ ?_
    · intro g_3; replace h := cond_t g_3 h
      refine aw_seq (by kernel_rfl) ?_
      refine aw_region [] [6, 7, 8, 9] [] 1 (vcs := []) (vals := [.int .i64 (0 : Int), .sl false 1 (List.map AV.str names_1), .sl false 2 (List.map e_Arr2_Int stacks_1), .int .i64 r_3.2.2]) (bxs := []) (by kernel_rfl) hmix trivial ?_
      refine aw_ret (by kernel_rfl) ?_
      replace h := Option.some.inj h; subst h
      exact ⟨rfl, Nat.le_of_ble_eq_true rfl, by kernel_rfl⟩
    intro g_3; replace h := cond_f g_3 h
    refine aw_skip (by kernel_rfl) ?_
    refine aw_seq (by kernel_rfl) ?_
    refine aw_region [] [0, 1, 11, 12, 13, 16, 30, 31, 32] [0] 1 (vcs := []) (vals := [.sl false 1 (List.map AV.str names_1), .sl false 2 (List.map e_Arr2_Int stacks_1), .int .i64 at__1, .sl false 1 (List.map AV.str r_3.2.1), .own 0 ((row_1).length), .int .i64 r_3.1, .sl false 1 (List.map AV.str l_1), .int .i64 (((l_1).length : Nat) : Int), .int .i64 v_1]) (bxs := [.live (.row 46 2 (List.map e_Arr2_Int row_1))]) (by kernel_rfl) hmix trivial ?_
    refine aw_seq (by kernel_rfl) ?_
    refine aw_region [(3, { id := 1 })] [0, 1, 12, 13, 19, 30, 31, 32] [0, 1] 2 (vcs := []) (vals := [.sl false 1 (List.map AV.str names_1), .sl false 2 (List.map e_Arr2_Int stacks_1), .sl false 1 (List.map AV.str r_3.2.1), .own 0 ((row_1).length), .ptr 1 0 0 0, .sl false 1 (List.map AV.str l_1), .int .i64 (((l_1).length : Nat) : Int), .int .i64 v_1]) (bxs := [.live (.row 46 2 (List.map e_Arr2_Int row_1)), .live (.var 46 [.int .i64 at__1, .int .i64 r_3.1])]) (by kernel_rfl) hmix trivial ?_
    refine aw_seq (by kernel_rfl) ?_
    refine aw_seq (by kernel_rfl) ?_
    obtain ⟨r_4, h_6, h⟩ := bind_some h
    refine aw_region [(2, { av := .int .i64 r_4, l := [.sl false 2 (List.map e_Arr2_Int row_1), .agg [.int .i64 at__1, .int .i64 r_3.1]], lend := [0] })] [0, 1, 11, 12, 13, 19, 30, 31, 32] [0, 1] 2 (vcs := [(row_1).length = ((List.map e_Arr2_Int row_1)).length, ([.sl false 2 (List.map e_Arr2_Int row_1), .agg [.int .i64 at__1, .int .i64 r_3.1]] : List AV) = [.sl false 2 (List.map e_Arr2_Int row_1), .agg [.int .i64 at__1, .int .i64 r_3.1]], ([] : List BoxSt) = [], Triple prog 35 [] [.sl false 2 (List.map e_Arr2_Int row_1), .agg [.int .i64 at__1, .int .i64 r_3.1]] [] (.int .i64 r_4)]) (vals := [.sl false 1 (List.map AV.str names_1), .sl false 2 (List.map e_Arr2_Int stacks_1), .int .i64 r_4, .sl false 1 (List.map AV.str r_3.2.1), .own 0 ((row_1).length), .ptr 1 0 0 0, .sl false 1 (List.map AV.str l_1), .int .i64 (((l_1).length : Nat) : Int), .int .i64 v_1]) (bxs := [.live (.row 46 2 (List.map e_Arr2_Int row_1)), .live (.var 46 [.int .i64 at__1, .int .i64 r_3.1])]) (by kernel_rfl) hmix ⟨(by first | (simp; done) | (simp; omega)), rfl, rfl, (triple_lo (args' := [.sl false 2 (List.map e_Arr2_Int row_1), .agg [.int .i64 ((⟨at__1, r_3.1⟩ : Arr2_Int).c0), .int .i64 ((⟨at__1, r_3.1⟩ : Arr2_Int).c1)]]) (slices_Index_2_int_2_int_ok F row_1 (⟨at__1, r_3.1⟩ : Arr2_Int) r_4 h_6) rfl ⟨rfl, rfl, rfl, rfl, rfl, trivial⟩), trivial⟩ ?_
    refine aw_seq (by kernel_rfl) ?_
    refine aw_region [] [0, 1, 11, 12, 13, 19, 30, 31, 32, 56] [0, 1] 2 (vcs := []) (vals := [.sl false 1 (List.map AV.str names_1), .sl false 2 (List.map e_Arr2_Int stacks_1), .int .i64 r_4, .sl false 1 (List.map AV.str r_3.2.1), .own 0 ((row_1).length), .ptr 1 0 0 0, .sl false 1 (List.map AV.str l_1), .int .i64 (((l_1).length : Nat) : Int), .int .i64 v_1, .bool (decide (r_4 ≥ (0 : Int)))]) (bxs := [.live (.row 46 2 (List.map e_Arr2_Int row_1)), .live (.var 46 [.int .i64 at__1, .int .i64 r_3.1])]) (by kernel_rfl) hmix trivial ?_
    refine aw_cond (t := 56) (b := (decide (r_4 ≥ (0 : Int)))) (by kernel_rfl) (by kernel_rfl) ?_ ?_
    · intro g_4; replace h := cond_t g_4 h
      refine aw_exit (id := 1) (by kernel_rfl) ?_
      refine aw_region [] [0, 1, 11, 12, 13, 30, 31, 32] [0] 2 (vcs := []) (vals := [.sl false 1 (List.map AV.str names_1), .sl false 2 (List.map e_Arr2_Int stacks_1), .int .i64 r_4, .sl false 1 (List.map AV.str r_3.2.1), .own 0 ((row_1).length), .sl false 1 (List.map AV.str l_1), .int .i64 (((l_1).length : Nat) : Int), .int .i64 (w_i64 (v_1 + (1 : Int)))]) (bxs := [.live (.row 46 2 (List.map e_Arr2_Int row_1))]) (by kernel_rfl) hmix trivial ?_
      exact ⟨_, (sub_wk [0] [] [(0, .sl false 1 (List.map AV.str names_1)), (1, .sl false 2 (List.map e_Arr2_Int stacks_1)), (11, .int .i64 r_4), (12, .sl false 1 (List.map AV.str r_3.2.1)), (13, .own 0 ((row_1).length)), (30, .sl false 1 (List.map AV.str l_1)), (31, .int .i64 (((l_1).length : Nat) : Int)), (32, .int .i64 (w_i64 (v_1 + (1 : Int))))] [(0, .live (.row 46 2 (List.map e_Arr2_Int row_1)))] (vcs := [(1 = 1 : Prop), (((List.map AV.str names_1) : List AV) = (List.map AV.str names_1) : Prop), ((!false || false) = true : Prop), (2 = 2 : Prop), (((List.map e_Arr2_Int stacks_1) : List AV) = (List.map e_Arr2_Int stacks_1) : Prop), ((!false || false) = true : Prop), ((.int .i64 r_4 : AV) = .int .i64 r_4 : Prop), (1 = 1 : Prop), (((List.map AV.str r_3.2.1) : List AV) = (List.map AV.str r_3.2.1) : Prop), ((!false || false) = true : Prop), ((.own 0 ((row_1).length) : AV) = .own 0 ((row_1).length) : Prop), (1 = 1 : Prop), (((List.map AV.str l_1) : List AV) = (List.map AV.str l_1) : Prop), ((!false || false) = true : Prop), ((.int .i64 (((l_1).length : Nat) : Int) : AV) = .int .i64 (((l_1).length : Nat) : Int) : Prop), ((.int .i64 (w_i64 (v_1 + (1 : Int))) : AV) = .int .i64 (w_i64 (v_1 + (1 : Int))) : Prop), (46 = 46 : Prop), (2 = 2 : Prop), (((List.map e_Arr2_Int row_1) : List AV) = (List.map e_Arr2_Int row_1) : Prop)]) (by kernel_rfl) ⟨rfl, rfl, rfl, rfl, rfl, rfl, rfl, rfl, rfl, rfl, rfl, rfl, rfl, rfl, rfl, rfl, rfl, rfl, rfl, trivial⟩), _, _, _, _, rfl, h⟩
    intro g_4; replace h := cond_f g_4 h
    refine aw_skip (by kernel_rfl) ?_
    refine aw_seq (by kernel_rfl) ?_
    refine aw_seq (by kernel_rfl) ?_
    refine aw_region [] [0, 1, 12, 13, 19, 30, 31, 32, 59] [0, 1] 2 (vcs := []) (vals := [.sl false 1 (List.map AV.str names_1), .sl false 2 (List.map e_Arr2_Int stacks_1), .sl false 1 (List.map AV.str r_3.2.1), .own 0 ((row_1).length), .ptr 1 0 0 0, .sl false 1 (List.map AV.str l_1), .int .i64 (((l_1).length : Nat) : Int), .int .i64 v_1, .bool (decide ((((row_1).length : Nat) : Int) ≥ (1000 : Int)))]) (bxs := [.live (.row 46 2 (List.map e_Arr2_Int row_1)), .live (.var 46 [.int .i64 at__1, .int .i64 r_3.1])]) (by kernel_rfl) hmix trivial ?_
    refine aw_cond (t := 59) (b := (decide ((((row_1).length : Nat) : Int) ≥ (1000 : Int)))) (by kernel_rfl) (by kernel_rfl) ?_ ?_
    · intro g_5; replace h := cond_t g_5 h
      refine aw_seq (by kernel_rfl) ?_
      refine aw_region [] [6, 7, 8, 9] [] 2 (vcs := []) (vals := [.int .i64 (0 : Int), .sl false 1 (List.map AV.str names_1), .sl false 2 (List.map e_Arr2_Int stacks_1), .int .i64 (6 : Int)]) (bxs := []) (by kernel_rfl) hmix trivial ?_
      refine aw_ret (by kernel_rfl) ?_
      replace h := Option.some.inj h; subst h
      exact ⟨rfl, Nat.le_of_ble_eq_true rfl, by kernel_rfl⟩
    intro g_5; replace h := cond_f g_5 h
    refine aw_skip (by kernel_rfl) ?_
    refine aw_seq (by kernel_rfl) ?_
    refine aw_region [] [0, 1, 11, 12, 13, 19, 30, 31, 32] [0, 1] 2 (vcs := []) (vals := [.sl false 1 (List.map AV.str names_1), .sl false 2 (List.map e_Arr2_Int stacks_1), .int .i64 (((row_1).length : Nat) : Int), .sl false 1 (List.map AV.str r_3.2.1), .own 0 ((row_1).length), .ptr 1 0 0 0, .sl false 1 (List.map AV.str l_1), .int .i64 (((l_1).length : Nat) : Int), .int .i64 v_1]) (bxs := [.live (.row 46 2 (List.map e_Arr2_Int row_1)), .live (.var 46 [.int .i64 at__1, .int .i64 r_3.1])]) (by kernel_rfl) hmix trivial ?_
    obtain ⟨_, h_7, h⟩ := bind_some h; replace h_7 := need_some h_7
    refine aw_region [(2, { id := 2 }), (3, { id := 3, l := (List.map e_Arr2_Int (row_1 ++ ([(⟨at__1, r_3.1⟩ : Arr2_Int)] : List Arr2_Int))), n := ((row_1 ++ ([(⟨at__1, r_3.1⟩ : Arr2_Int)] : List Arr2_Int))).length })] [0, 1, 11, 12, 13, 30, 31, 32] [3] 4 (vcs := [(row_1).length = ((List.map e_Arr2_Int row_1)).length, 1 = ((List.map e_Arr2_Int ([(⟨at__1, r_3.1⟩ : Arr2_Int)] : List Arr2_Int))).length, (List.map e_Arr2_Int (row_1 ++ ([(⟨at__1, r_3.1⟩ : Arr2_Int)] : List Arr2_Int))) = (List.map e_Arr2_Int row_1) ++ (List.map e_Arr2_Int ([(⟨at__1, r_3.1⟩ : Arr2_Int)] : List Arr2_Int)), ((row_1 ++ ([(⟨at__1, r_3.1⟩ : Arr2_Int)] : List Arr2_Int))).length = ((List.map e_Arr2_Int (row_1 ++ ([(⟨at__1, r_3.1⟩ : Arr2_Int)] : List Arr2_Int)))).length, (((List.map e_Arr2_Int row_1) : List AV).length + ((List.map e_Arr2_Int ([(⟨at__1, r_3.1⟩ : Arr2_Int)] : List Arr2_Int)) : List AV).length) * 16 ≤ 140737488355328]) (vals := [.sl false 1 (List.map AV.str names_1), .sl false 2 (List.map e_Arr2_Int stacks_1), .int .i64 (((row_1).length : Nat) : Int), .sl false 1 (List.map AV.str r_3.2.1), .own 3 (((row_1 ++ ([(⟨at__1, r_3.1⟩ : Arr2_Int)] : List Arr2_Int))).length), .sl false 1 (List.map AV.str l_1), .int .i64 (((l_1).length : Nat) : Int), .int .i64 v_1]) (bxs := [.live (.row 46 2 (List.map e_Arr2_Int (row_1 ++ ([(⟨at__1, r_3.1⟩ : Arr2_Int)] : List Arr2_Int))))]) (by kernel_rfl) hmix ⟨(by first | (simp; done) | (simp; omega)), (by first | (simp; done) | (simp; omega)), (vc_app _ _), (by simp), (by simpa using h_7), trivial⟩ ?_
    refine aw_region [] [0, 1, 11, 12, 13, 30, 31, 32] [3] 4 (vcs := []) (vals := [.sl false 1 (List.map AV.str names_1), .sl false 2 (List.map e_Arr2_Int stacks_1), .int .i64 (((row_1).length : Nat) : Int), .sl false 1 (List.map AV.str r_3.2.1), .own 3 (((row_1 ++ ([(⟨at__1, r_3.1⟩ : Arr2_Int)] : List Arr2_Int))).length), .sl false 1 (List.map AV.str l_1), .int .i64 (((l_1).length : Nat) : Int), .int .i64 (w_i64 (v_1 + (1 : Int)))]) (bxs := [.live (.row 46 2 (List.map e_Arr2_Int (row_1 ++ ([(⟨at__1, r_3.1⟩ : Arr2_Int)] : List Arr2_Int))))]) (by kernel_rfl) hmix trivial ?_
    exact ⟨_, (sub_wk [3] [] [(0, .sl false 1 (List.map AV.str names_1)), (1, .sl false 2 (List.map e_Arr2_Int stacks_1)), (11, .int .i64 (((row_1).length : Nat) : Int)), (12, .sl false 1 (List.map AV.str r_3.2.1)), (13, .own 0 (((row_1 ++ ([(⟨at__1, r_3.1⟩ : Arr2_Int)] : List Arr2_Int))).length)), (30, .sl false 1 (List.map AV.str l_1)), (31, .int .i64 (((l_1).length : Nat) : Int)), (32, .int .i64 (w_i64 (v_1 + (1 : Int))))] [(0, .live (.row 46 2 (List.map e_Arr2_Int (row_1 ++ ([(⟨at__1, r_3.1⟩ : Arr2_Int)] : List Arr2_Int)))))] (vcs := [(1 = 1 : Prop), (((List.map AV.str names_1) : List AV) = (List.map AV.str names_1) : Prop), ((!false || false) = true : Prop), (2 = 2 : Prop), (((List.map e_Arr2_Int stacks_1) : List AV) = (List.map e_Arr2_Int stacks_1) : Prop), ((!false || false) = true : Prop), ((.int .i64 (((row_1).length : Nat) : Int) : AV) = .int .i64 (((row_1).length : Nat) : Int) : Prop), (1 = 1 : Prop), (((List.map AV.str r_3.2.1) : List AV) = (List.map AV.str r_3.2.1) : Prop), ((!false || false) = true : Prop), ((.own 3 (((row_1 ++ ([(⟨at__1, r_3.1⟩ : Arr2_Int)] : List Arr2_Int))).length) : AV) = .own 3 (((row_1 ++ ([(⟨at__1, r_3.1⟩ : Arr2_Int)] : List Arr2_Int))).length) : Prop), (1 = 1 : Prop), (((List.map AV.str l_1) : List AV) = (List.map AV.str l_1) : Prop), ((!false || false) = true : Prop), ((.int .i64 (((l_1).length : Nat) : Int) : AV) = .int .i64 (((l_1).length : Nat) : Int) : Prop), ((.int .i64 (w_i64 (v_1 + (1 : Int))) : AV) = .int .i64 (w_i64 (v_1 + (1 : Int))) : Prop), (46 = 46 : Prop), (2 = 2 : Prop), (((List.map e_Arr2_Int (row_1 ++ ([(⟨at__1, r_3.1⟩ : Arr2_Int)] : List Arr2_Int))) : List AV) = (List.map e_Arr2_Int (row_1 ++ ([(⟨at__1, r_3.1⟩ : Arr2_Int)] : List Arr2_Int))) : Prop)]) (by kernel_rfl) ⟨rfl, rfl, rfl, rfl, rfl, rfl, rfl, rfl, rfl, rfl, rfl, rfl, rfl, rfl, rfl, rfl, rfl, rfl, rfl, trivial⟩), _, _, _, _, rfl, h⟩
  intro e st1 hk
  rcases o_1 with q_1 | q_2
  rotate_left
  · obtain ⟨rfl, hf⟩ := hk
    replace h := Option.some.inj h; subst h
    exact ⟨st1, Sub.refl _ _, .inr rfl, hf⟩
  obtain ⟨rfl, hs⟩ := hk
  refine ⟨_, hs, ?_⟩
  refine aw_seq (by kernel_rfl) ?_
  refine aw_region [] [6, 7, 8, 9] [0] 1 (vcs := []) (vals := [.int .i64 q_1.1, .sl false 1 (List.map AV.str q_1.2.1), .own 0 ((q_1.2.2).length), .int .i64 (0 : Int)]) (bxs := [.live (.row 46 2 (List.map e_Arr2_Int q_1.2.2))]) (by kernel_rfl) hmix trivial ?_
  refine aw_sub (sub_wk [] [0] [(6, .int .i64 q_1.1), (7, .sl false 1 (List.map AV.str q_1.2.1)), (8, .sl false 2 (List.map e_Arr2_Int q_1.2.2)), (9, .int .i64 (0 : Int))] [] (vcs := [((.int .i64 q_1.1 : AV) = .int .i64 q_1.1 : Prop), (1 = 1 : Prop), (((List.map AV.str q_1.2.1) : List AV) = (List.map AV.str q_1.2.1) : Prop), ((!false || false) = true : Prop), ((q_1.2.2).length = ((List.map e_Arr2_Int q_1.2.2)).length : Prop), (2 = 2 : Prop), (((List.map e_Arr2_Int q_1.2.2) : List AV) = (List.map e_Arr2_Int q_1.2.2) : Prop), ((!false || false) = true : Prop), ((.int .i64 (0 : Int) : AV) = .int .i64 (0 : Int) : Prop)]) (by kernel_rfl) ⟨rfl, rfl, rfl, rfl, (by first | (simp; done) | (simp; omega)), rfl, rfl, rfl, rfl, trivial⟩) ?_
  refine aw_ret (by kernel_rfl) ?_
  replace h := Option.some.inj h; subst h
  exact ⟨.inr rfl, Nat.le_of_ble_eq_true rfl, by kernel_rfl⟩

theorem intern_checkNames_ok (F : Nat) (names_1 : List (List Int)) (r : Int) (h : intern_checkNames F names_1 = some r) : Triple prog 28 [] [.sl false 1 (List.map AV.str names_1)] [] (.int .i64 r) := by
  refine triple_intro (fn := Go.Proofs.Try.f28) (code := codeOf Go.Proofs.Try.f28) (by kernel_rfl) (by kernel_rfl) (Nat.le_of_ble_eq_true (by kernel_rfl)) ?_
  unfold intern_checkNames at h
  refine aw_seq (by kernel_rfl) ?_
  refine aw_region [] [0] [] 0 (vcs := []) (vals := [.sl false 1 (List.map AV.str names_1)]) (bxs := []) (by kernel_rfl) hmix trivial ?_
  refine aw_seq (by kernel_rfl) ?_
  refine aw_region [(0, { id := 0, mag := false, mks := [.str] })] [0, 3] [0] 1 (vcs := []) (vals := [.sl false 1 (List.map AV.str names_1), .mp 0]) (bxs := [.live (.map false [.str] [])]) (by kernel_rfl) hmix trivial ?_
  refine aw_seq (by kernel_rfl) ?_
  refine aw_seq (by kernel_rfl) ?_
  refine aw_region [(1, { n := (names_1).length })] [3, 8, 9, 10] [0] 1 (vcs := [((List.map AV.str names_1)).length = (names_1).length]) (vals := [.mp 0, .sl false 1 (List.map AV.str names_1), .int .i64 (((names_1).length : Nat) : Int), .int .i64 (0 : Int)]) (bxs := [.live (.map false [.str] [])]) (by kernel_rfl) hmix ⟨(vc_len _), trivial⟩ ?_
  obtain ⟨o_1, h_1, h⟩ := bind_some h
  refine aw_conv (K1 := (fun e st' => match o_1 with | (.inl q0) => e = .normal ∧ Sub 0 st' (mk [] [] 0) | (.inr q1) => e = .ret ∧ FinR prog Go.Proofs.Try.f28 0 [] (.int .i64 q1) st')) ?_ ?_
  · replace h := h_1
    refine aw_block (id := 0) (by kernel_rfl) ?_
    refine aw_sub (sub_wk [0] [] [(3, .mp 0), (8, .sl false 1 (List.map AV.str names_1)), (9, .int .i64 (((names_1).length : Nat) : Int)), (10, .int .i64 (0 : Int))] [(0, .live (.map false [.str] []))] (vcs := [((.mp 0 : AV) = .mp 0 : Prop), (1 = 1 : Prop), (((List.map AV.str names_1) : List AV) = (List.map AV.str names_1) : Prop), ((!false || false) = true : Prop), ((.int .i64 (((names_1).length : Nat) : Int) : AV) = .int .i64 (((names_1).length : Nat) : Int) : Prop), ((.int .i64 (0 : Int) : AV) = .int .i64 (0 : Int) : Prop), (false = false : Prop), (([.str] : List KSh) = [.str] : Prop), (([] : List (AV × AV)) = [] : Prop)]) (by kernel_rfl) ⟨rfl, rfl, rfl, rfl, rfl, rfl, rfl, rfl, rfl, trivial⟩) ?_
    refine aw_loopF (fun n st => ∃ (v_1 : Int), ∃ (row_1 : List ((List Int) × Bool)), st = mk [(3, .mp 0), (8, .sl false 1 (List.map AV.str names_1)), (9, .int .i64 (((names_1).length : Nat) : Int)), (10, .int .i64 v_1)] [(0, .live (.map false [.str] (List.map (mpE AV.str AV.bool) row_1)))] 1 ∧ intern_checkNames_L1 F names_1 n v_1 row_1 = some o_1) F (by kernel_rfl) ⟨_, _, rfl, h⟩ ?_ ?_
    · rintro _ ⟨_, _, _, h⟩; exact none_ne (h : (none : Option (Unit ⊕ Int)) = some o_1)
    rintro n_1 _ ⟨v_1, row_1, rfl, h⟩
    replace h : intern_checkNames_L1_body F names_1 (intern_checkNames_L1 F names_1 n_1) v_1 row_1 = some o_1 := h
    unfold intern_checkNames_L1_body at h
    refine aw_seq (by kernel_rfl) ?_
    refine aw_region [] [3, 8, 9, 10, 11] [0] 1 (vcs := []) (vals := [.mp 0, .sl false 1 (List.map AV.str names_1), .int .i64 (((names_1).length : Nat) : Int), .int .i64 v_1, .bool (decide (v_1 < (((names_1).length : Nat) : Int)))]) (bxs := [.live (.map false [.str] (List.map (mpE AV.str AV.bool) row_1))]) (by kernel_rfl) hmix trivial ?_
    refine aw_seq (by kernel_rfl) ?_
    refine aw_cond (t := 11) (b := (decide (v_1 < (((names_1).length : Nat) : Int)))) (by kernel_rfl) (by kernel_rfl) ?_ ?_
    rotate_left
    · intro g_1; replace h := cond_f g_1 h
      refine aw_exit (id := 0) (by kernel_rfl) ?_
      replace h := Option.some.inj h; subst h
      exact ⟨rfl, (sub_wk [] [] [] [] (vcs := []) (by kernel_rfl) trivial)⟩
    intro g_1; replace h := cond_t g_1 h
    refine aw_skip (by kernel_rfl) ?_
    refine aw_seq (by kernel_rfl) ?_
    refine aw_block (id := 1) (by kernel_rfl) ?_
    refine aw_seq (by kernel_rfl) ?_
    obtain ⟨x_1, h_2, h⟩ := bind_some h
    refine aw_region [(0, { av := .str x_1 })] [3, 5, 8, 9, 10] [0] 1 (vcs := [idxA (List.map AV.str names_1) v_1 = some (.str x_1)]) (vals := [.mp 0, .str x_1, .sl false 1 (List.map AV.str names_1), .int .i64 (((names_1).length : Nat) : Int), .int .i64 v_1]) (bxs := [.live (.map false [.str] (List.map (mpE AV.str AV.bool) row_1))]) (by kernel_rfl) hmix ⟨(vc_idx h_2), trivial⟩ ?_
    refine aw_seq (by kernel_rfl) ?_
    refine aw_seq (by kernel_rfl) ?_
    obtain ⟨r_1, h_3, h⟩ := bind_some h
    refine aw_region [(1, { av := .int .i64 r_1, l := [.str x_1] })] [3, 5, 6, 8, 9, 10] [0] 1 (vcs := [([.str x_1] : List AV) = [.str x_1], ([] : List BoxSt) = [], Triple prog 10 [] [.str x_1] [] (.int .i64 r_1)]) (vals := [.mp 0, .str x_1, .int .i64 r_1, .sl false 1 (List.map AV.str names_1), .int .i64 (((names_1).length : Nat) : Int), .int .i64 v_1]) (bxs := [.live (.map false [.str] (List.map (mpE AV.str AV.bool) row_1))]) (by kernel_rfl) hmix ⟨rfl, rfl, (intern_Name_ok F x_1 r_1 h_3), trivial⟩ ?_
    refine aw_seq (by kernel_rfl) ?_
    refine aw_region [] [3, 5, 6, 8, 9, 10, 17] [0] 1 (vcs := []) (vals := [.mp 0, .str x_1, .int .i64 r_1, .sl false 1 (List.map AV.str names_1), .int .i64 (((names_1).length : Nat) : Int), .int .i64 v_1, .bool (r_1 != (0 : Int))]) (bxs := [.live (.map false [.str] (List.map (mpE AV.str AV.bool) row_1))]) (by kernel_rfl) hmix trivial ?_
    refine aw_cond (t := 17) (b := (r_1 != (0 : Int))) (by kernel_rfl) (by kernel_rfl) ?_ ?_
    · intro g_2; replace h := cond_t g_2 h
      refine aw_seq (by kernel_rfl) ?_
      refine aw_region [] [2] [] 1 (vcs := []) (vals := [.int .i64 r_1]) (bxs := []) (by kernel_rfl) hmix trivial ?_
      refine aw_ret (by kernel_rfl) ?_
      replace h := Option.some.inj h; subst h
      exact ⟨rfl, Nat.le_of_ble_eq_true rfl, by kernel_rfl⟩
    intro g_2; replace h := cond_f g_2 h
    refine aw_skip (by kernel_rfl) ?_
    refine aw_seq (by kernel_rfl) ?_
    refine aw_seq (by kernel_rfl) ?_
    refine aw_region [(2, { av := (.bool ((mget row_1 x_1).getD false)), g := (mget row_1 x_1).isSome })] [3, 5, 8, 9, 10, 21] [0] 1 (vcs := [KeyOk prog 9 false [.str], MLook (List.map (mpE AV.str AV.bool) row_1) (.str x_1) (.bool false) (.bool ((mget row_1 x_1).getD false)) (mget row_1 x_1).isSome]) (vals := [.mp 0, .str x_1, .sl false 1 (List.map AV.str names_1), .int .i64 (((names_1).length : Nat) : Int), .int .i64 v_1, .bool ((mget row_1 x_1).getD false)]) (bxs := [.live (.map false [.str] (List.map (mpE AV.str AV.bool) row_1))]) (by kernel_rfl) hmix ⟨keyOk_9, (mlook_map (f := AV.str) (g := AV.bool) inj_str row_1 x_1 false), trivial⟩ ?_
    refine aw_cond (t := 21) (b := ((mget row_1 x_1).getD false)) (by kernel_rfl) (by kernel_rfl) ?_ ?_
    · intro g_3; replace h := cond_t g_3 h
      refine aw_seq (by kernel_rfl) ?_
      refine aw_region [] [2] [] 1 (vcs := []) (vals := [.int .i64 (4 : Int)]) (bxs := []) (by kernel_rfl) hmix trivial ?_
      refine aw_ret (by kernel_rfl) ?_
      replace h := Option.some.inj h; subst h
      exact ⟨rfl, Nat.le_of_ble_eq_true rfl, by kernel_rfl⟩
    intro g_3; replace h := cond_f g_3 h
    refine aw_skip (by kernel_rfl) ?_
    obtain ⟨_, h_4, h⟩ := bind_some h; replace h_4 := need_some h_4
    refine aw_region [(2, { es := (List.map (mpE AV.str AV.bool) (mput row_1 x_1 true)) })] [3, 8, 9, 10] [0] 1 (vcs := [KeyOk prog 9 false [.str], MPut (List.map (mpE AV.str AV.bool) row_1) (.str x_1) (.bool true) (List.map (mpE AV.str AV.bool) (mput row_1 x_1 true)), ((List.map (mpE AV.str AV.bool) row_1) : List (AV × AV)).length < maxLen]) (vals := [.mp 0, .sl false 1 (List.map AV.str names_1), .int .i64 (((names_1).length : Nat) : Int), .int .i64 v_1]) (bxs := [.live (.map false [.str] (List.map (mpE AV.str AV.bool) (mput row_1 x_1 true)))]) (by kernel_rfl) hmix ⟨keyOk_9, (mput_map (f := AV.str) (g := AV.bool) inj_str row_1 x_1 true), (mlen_lt (l := row_1) h_4), trivial⟩ ?_
    refine aw_region [] [3, 8, 9, 10] [0] 1 (vcs := []) (vals := [.mp 0, .sl false 1 (List.map AV.str names_1), .int .i64 (((names_1).length : Nat) : Int), .int .i64 (w_i64 (v_1 + (1 : Int)))]) (bxs := [.live (.map false [.str] (List.map (mpE AV.str AV.bool) (mput row_1 x_1 true)))]) (by kernel_rfl) hmix trivial ?_
    exact ⟨_, (sub_wk [0] [] [(3, .mp 0), (8, .sl false 1 (List.map AV.str names_1)), (9, .int .i64 (((names_1).length : Nat) : Int)), (10, .int .i64 (w_i64 (v_1 + (1 : Int))))] [(0, .live (.map false [.str] (List.map (mpE AV.str AV.bool) (mput row_1 x_1 true))))] (vcs := [((.mp 0 : AV) = .mp 0 : Prop), (1 = 1 : Prop), (((List.map AV.str names_1) : List AV) = (List.map AV.str names_1) : Prop), ((!false || false) = true : Prop), ((.int .i64 (((names_1).length : Nat) : Int) : AV) = .int .i64 (((names_1).length : Nat) : Int) : Prop), ((.int .i64 (w_i64 (v_1 + (1 : Int))) : AV) = .int .i64 (w_i64 (v_1 + (1 : Int))) : Prop), (false = false : Prop), (([.str] : List KSh) = [.str] : Prop), (((List.map (mpE AV.str AV.bool) (mput row_1 x_1 true)) : List (AV × AV)) = (List.map (mpE AV.str AV.bool) (mput row_1 x_1 true)) : Prop)]) (by kernel_rfl) ⟨rfl, rfl, rfl, rfl, rfl, rfl, rfl, rfl, rfl, trivial⟩), _, _, rfl, h⟩
  intro e st1 hk
  rcases o_1 with q_1 | q_2
  rotate_left
  · obtain ⟨rfl, hf⟩ := hk
    replace h := Option.some.inj h; subst h
    exact ⟨st1, Sub.refl _ _, .inr rfl, hf⟩
  obtain ⟨rfl, hs⟩ := hk
  refine ⟨_, hs, ?_⟩
  refine aw_seq (by kernel_rfl) ?_
  refine aw_region [] [2] [] 0 (vcs := []) (vals := [.int .i64 (0 : Int)]) (bxs := []) (by kernel_rfl) hmix trivial ?_
  refine aw_ret (by kernel_rfl) ?_
  replace h := Option.some.inj h; subst h
  exact ⟨.inr rfl, Nat.le_of_ble_eq_true rfl, by kernel_rfl⟩

theorem intern_Check_ok (F : Nat) (names_1 : List (List Int)) (stacks_1 : List (Arr2_Int)) (r : Int) (h : intern_Check F names_1 stacks_1 = some r) : Triple prog 16 [] [.sl false 1 (List.map AV.str names_1), .sl false 2 (List.map e_Arr2_Int stacks_1)] [] (.int .i64 r) := by
  refine triple_intro (fn := Go.Proofs.Try.f16) (code := codeOf Go.Proofs.Try.f16) (by kernel_rfl) (by kernel_rfl) (Nat.le_of_ble_eq_true (by kernel_rfl)) ?_
  unfold intern_Check at h
  refine aw_seq (by kernel_rfl) ?_
  refine aw_region [] [0, 1] [] 0 (vcs := []) (vals := [.sl false 1 (List.map AV.str names_1), .sl false 2 (List.map e_Arr2_Int stacks_1)]) (bxs := []) (by kernel_rfl) hmix trivial ?_
  refine aw_seq (by kernel_rfl) ?_
  refine aw_seq (by kernel_rfl) ?_
  refine aw_mid (mk [(0, .sl false 1 (List.map AV.str names_1)), (1, .sl false 2 (List.map e_Arr2_Int stacks_1)), (17, .bool (decide ((((names_1).length : Nat) : Int) > (1000 : Int)) || decide ((((stacks_1).length : Nat) : Int) > (1000 : Int))))] [] 0) ?_ ?_
  · rcases Bool.eq_false_or_eq_true (decide ((((names_1).length : Nat) : Int) > (1000 : Int))) with gg_1 | gg_1
    · refine aw_region [(1, { n := (names_1).length }), (4, { g := false }), (5, { g := false }), (6, { g := false }), (7, { b := true })] [0, 1, 17] [] 0 (vcs := [((List.map AV.str names_1)).length = (names_1).length, (decide ((((names_1).length : Nat) : Int) > (1000 : Int))) = !false, (decide ((((names_1).length : Nat) : Int) > (1000 : Int))) = !false, (decide ((((names_1).length : Nat) : Int) > (1000 : Int))) = !false, (decide ((((names_1).length : Nat) : Int) > (1000 : Int))) = true]) (vals := [.sl false 1 (List.map AV.str names_1), .sl false 2 (List.map e_Arr2_Int stacks_1), .bool true]) (bxs := []) (by kernel_rfl) hmix ⟨(vc_len _), gg_1, gg_1, gg_1, gg_1, trivial⟩ ?_
      exact ⟨rfl, (sub_wk [] [] [(0, .sl false 1 (List.map AV.str names_1)), (1, .sl false 2 (List.map e_Arr2_Int stacks_1)), (17, .bool (decide ((((names_1).length : Nat) : Int) > (1000 : Int)) || decide ((((stacks_1).length : Nat) : Int) > (1000 : Int))))] [] (vcs := [(1 = 1 : Prop), (((List.map AV.str names_1) : List AV) = (List.map AV.str names_1) : Prop), ((!false || false) = true : Prop), (2 = 2 : Prop), (((List.map e_Arr2_Int stacks_1) : List AV) = (List.map e_Arr2_Int stacks_1) : Prop), ((!false || false) = true : Prop), ((.bool true : AV) = .bool (decide ((((names_1).length : Nat) : Int) > (1000 : Int)) || decide ((((stacks_1).length : Nat) : Int) > (1000 : Int))) : Prop)]) (by kernel_rfl) ⟨rfl, rfl, rfl, rfl, rfl, rfl, (congrArg AV.bool (ort gg_1)), trivial⟩)⟩
    · refine aw_region [(1, { n := (names_1).length }), (5, { n := (stacks_1).length }), (7, { b := false })] [0, 1, 17] [] 0 (vcs := [((List.map AV.str names_1)).length = (names_1).length, (decide ((((names_1).length : Nat) : Int) > (1000 : Int))) = false, (decide ((((names_1).length : Nat) : Int) > (1000 : Int))) = false, ((List.map e_Arr2_Int stacks_1)).length = (stacks_1).length, (decide ((((names_1).length : Nat) : Int) > (1000 : Int))) = false, (decide ((((names_1).length : Nat) : Int) > (1000 : Int))) = false]) (vals := [.sl false 1 (List.map AV.str names_1), .sl false 2 (List.map e_Arr2_Int stacks_1), .bool (decide ((((stacks_1).length : Nat) : Int) > (1000 : Int)))]) (bxs := []) (by kernel_rfl) hmix ⟨(vc_len _), gg_1, gg_1, (vc_len _), gg_1, gg_1, trivial⟩ ?_
      exact ⟨rfl, (sub_wk [] [] [(0, .sl false 1 (List.map AV.str names_1)), (1, .sl false 2 (List.map e_Arr2_Int stacks_1)), (17, .bool (decide ((((names_1).length : Nat) : Int) > (1000 : Int)) || decide ((((stacks_1).length : Nat) : Int) > (1000 : Int))))] [] (vcs := [(1 = 1 : Prop), (((List.map AV.str names_1) : List AV) = (List.map AV.str names_1) : Prop), ((!false || false) = true : Prop), (2 = 2 : Prop), (((List.map e_Arr2_Int stacks_1) : List AV) = (List.map e_Arr2_Int stacks_1) : Prop), ((!false || false) = true : Prop), ((.bool (decide ((((stacks_1).length : Nat) : Int) > (1000 : Int))) : AV) = .bool (decide ((((names_1).length : Nat) : Int) > (1000 : Int)) || decide ((((stacks_1).length : Nat) : Int) > (1000 : Int))) : Prop)]) (by kernel_rfl) ⟨rfl, rfl, rfl, rfl, rfl, rfl, (congrArg AV.bool (orf gg_1 rfl)), trivial⟩)⟩
  refine aw_cond (t := 17) (b := (decide ((((names_1).length : Nat) : Int) > (1000 : Int)) || decide ((((stacks_1).length : Nat) : Int) > (1000 : Int)))) (by kernel_rfl) (by kernel_rfl) ?_ ?_
  · intro g_1; replace h := cond_t g_1 h
    refine aw_seq (by kernel_rfl) ?_
    refine aw_region [] [4] [] 0 (vcs := []) (vals := [.int .i64 (7 : Int)]) (bxs := []) (by kernel_rfl) hmix trivial ?_
    refine aw_ret (by kernel_rfl) ?_
    replace h := Option.some.inj h; subst h
    exact ⟨.inr rfl, Nat.le_of_ble_eq_true rfl, by kernel_rfl⟩
  intro g_1; replace h := cond_f g_1 h
  refine aw_skip (by kernel_rfl) ?_
  refine aw_seq (by kernel_rfl) ?_
  refine aw_seq (by kernel_rfl) ?_
  obtain ⟨r_1, h_1, h⟩ := bind_some h
  refine aw_region [(1, { av := .int .i64 r_1, l := [.sl false 1 (List.map AV.str names_1)] })] [0, 1, 5] [] 0 (vcs := [([.sl false 1 (List.map AV.str names_1)] : List AV) = [.sl false 1 (List.map AV.str names_1)], ([] : List BoxSt) = [], Triple prog 28 [] [.sl false 1 (List.map AV.str names_1)] [] (.int .i64 r_1)]) (vals := [.sl false 1 (List.map AV.str names_1), .sl false 2 (List.map e_Arr2_Int stacks_1), .int .i64 r_1]) (bxs := []) (by kernel_rfl) hmix ⟨rfl, rfl, (intern_checkNames_ok F names_1 r_1 h_1), trivial⟩ ?_
  refine aw_seq (by kernel_rfl) ?_
  refine aw_region [] [0, 1, 5, 21] [] 0 (vcs := []) (vals := [.sl false 1 (List.map AV.str names_1), .sl false 2 (List.map e_Arr2_Int stacks_1), .int .i64 r_1, .bool (r_1 != (0 : Int))]) (bxs := []) (by kernel_rfl) hmix trivial ?_
  refine aw_cond (t := 21) (b := (r_1 != (0 : Int))) (by kernel_rfl) (by kernel_rfl) ?_ ?_
  · intro g_2; replace h := cond_t g_2 h
    refine aw_seq (by kernel_rfl) ?_
    refine aw_region [] [4] [] 0 (vcs := []) (vals := [.int .i64 r_1]) (bxs := []) (by kernel_rfl) hmix trivial ?_
    refine aw_ret (by kernel_rfl) ?_
    replace h := Option.some.inj h; subst h
    exact ⟨.inr rfl, Nat.le_of_ble_eq_true rfl, by kernel_rfl⟩
  intro g_2; replace h := cond_f g_2 h
  refine aw_skip (by kernel_rfl) ?_
  refine aw_seq (by kernel_rfl) ?_
  refine aw_region [(0, { id := 0, mag := true, mks := [.int .i64, .int .i64] })] [0, 1, 6] [0] 1 (vcs := []) (vals := [.sl false 1 (List.map AV.str names_1), .sl false 2 (List.map e_Arr2_Int stacks_1), .mp 0]) (bxs := [.live (.map true [.int .i64, .int .i64] [])]) (by kernel_rfl) hmix trivial ?_
  refine aw_seq (by kernel_rfl) ?_
  obtain ⟨_, h_2, h⟩ := bind_some h; replace h_2 := need_some h_2
  refine aw_region [(1, { n := (stacks_1).length }), (2, { id := 1, l := (List.map (AV.int .i64) (List.replicate ((stacks_1).length) (0 : Int))), m := (stacks_1).length, n := (stacks_1).length })] [0, 1, 6, 7] [0, 1] 2 (vcs := [((List.map e_Arr2_Int stacks_1)).length = (stacks_1).length, (((stacks_1).length : Nat) : Int) = (((stacks_1).length : Nat) : Int), (((stacks_1).length : Nat) : Int) = (((stacks_1).length : Nat) : Int), ((stacks_1).length) ≤ ((stacks_1).length), ((stacks_1).length) * 8 ≤ 281474976710656, (List.map (AV.int .i64) (List.replicate ((stacks_1).length) (0 : Int))) = List.replicate ((stacks_1).length) (.int .i64 (0 : Int))]) (vals := [.sl false 1 (List.map AV.str names_1), .sl false 2 (List.map e_Arr2_Int stacks_1), .mp 0, .own 1 ((stacks_1).length)]) (bxs := [.live (.map true [.int .i64, .int .i64] []), .live (.row 3 1 (List.map (AV.int .i64) (List.replicate ((stacks_1).length) (0 : Int))))]) (by kernel_rfl) hmix ⟨(vc_len _), rfl, rfl, (Nat.le_refl _), h_2, vc_rep, trivial⟩ ?_
  refine aw_seq (by kernel_rfl) ?_
  refine aw_seq (by kernel_rfl) ?_
  refine aw_region [(1, { n := (stacks_1).length })] [0, 6, 7, 27, 28, 29] [0, 1] 2 (vcs := [((List.map e_Arr2_Int stacks_1)).length = (stacks_1).length]) (vals := [.sl false 1 (List.map AV.str names_1), .mp 0, .own 1 ((stacks_1).length), .sl false 2 (List.map e_Arr2_Int stacks_1), .int .i64 (((stacks_1).length : Nat) : Int), .int .i64 (0 : Int)]) (bxs := [.live (.map true [.int .i64, .int .i64] []), .live (.row 3 1 (List.map (AV.int .i64) (List.replicate ((stacks_1).length) (0 : Int))))]) (by kernel_rfl) hmix ⟨(vc_len _), trivial⟩ ?_
  obtain ⟨o_1, h_3, h⟩ := bind_some h
  refine aw_conv (K1 := (fun e st' => match o_1 with | (.inl q0) => e = .normal ∧ Sub 0 st' (mk [] [] 0) | (.inr q1) => e = .ret ∧ FinR prog Go.Proofs.Try.f16 0 [] (.int .i64 q1) st')) ?_ ?_
  · replace h := h_3
    refine aw_block (id := 0) (by kernel_rfl) ?_
    refine aw_sub (sub_wk [0, 1] [] [(0, .sl false 1 (List.map AV.str names_1)), (6, .mp 0), (7, .own 1 (((List.replicate ((stacks_1).length) (0 : Int))).length)), (27, .sl false 2 (List.map e_Arr2_Int stacks_1)), (28, .int .i64 (((stacks_1).length : Nat) : Int)), (29, .int .i64 (0 : Int))] [(0, .live (.map true [.int .i64, .int .i64] [])), (1, .live (.row 3 1 (List.map (AV.int .i64) (List.replicate ((stacks_1).length) (0 : Int)))))] (vcs := [(1 = 1 : Prop), (((List.map AV.str names_1) : List AV) = (List.map AV.str names_1) : Prop), ((!false || false) = true : Prop), ((.mp 0 : AV) = .mp 0 : Prop), ((.own 1 ((stacks_1).length) : AV) = .own 1 (((List.replicate ((stacks_1).length) (0 : Int))).length) : Prop), (2 = 2 : Prop), (((List.map e_Arr2_Int stacks_1) : List AV) = (List.map e_Arr2_Int stacks_1) : Prop), ((!false || false) = true : Prop), ((.int .i64 (((stacks_1).length : Nat) : Int) : AV) = .int .i64 (((stacks_1).length : Nat) : Int) : Prop), ((.int .i64 (0 : Int) : AV) = .int .i64 (0 : Int) : Prop), (true = true : Prop), (([.int .i64, .int .i64] : List KSh) = [.int .i64, .int .i64] : Prop), (([] : List (AV × AV)) = [] : Prop), (3 = 3 : Prop), (1 = 1 : Prop), (((List.map (AV.int .i64) (List.replicate ((stacks_1).length) (0 : Int))) : List AV) = (List.map (AV.int .i64) (List.replicate ((stacks_1).length) (0 : Int))) : Prop)]) (by kernel_rfl) ⟨rfl, rfl, rfl, rfl, (congrArg (AV.own _) List.length_replicate.symm), rfl, rfl, rfl, rfl, rfl, rfl, rfl, rfl, rfl, rfl, rfl, trivial⟩) ?_
    refine aw_loopF (fun n st => ∃ (v_1 : Int), ∃ (row_1 : List (Arr2_Int × Bool)), ∃ (row_2 : List Int), st = mk [(0, .sl false 1 (List.map AV.str names_1)), (6, .mp 0), (7, .own 1 ((row_2).length)), (27, .sl false 2 (List.map e_Arr2_Int stacks_1)), (28, .int .i64 (((stacks_1).length : Nat) : Int)), (29, .int .i64 v_1)] [(0, .live (.map true [.int .i64, .int .i64] (List.map (mpE e_Arr2_Int AV.bool) row_1))), (1, .live (.row 3 1 (List.map (AV.int .i64) row_2)))] 2 ∧ intern_Check_L1 F names_1 stacks_1 n v_1 row_1 row_2 = some o_1) F (by kernel_rfl) ⟨_, _, _, rfl, h⟩ ?_ ?_
    · rintro _ ⟨_, _, _, _, h⟩; exact none_ne (h : (none : Option (Unit ⊕ Int)) = some o_1)
    rintro n_1 _ ⟨v_1, row_1, row_2, rfl, h⟩
    replace h : intern_Check_L1_body F names_1 stacks_1 (intern_Check_L1 F names_1 stacks_1 n_1) v_1 row_1 row_2 = some o_1 := h
    unfold intern_Check_L1_body at h
    refine aw_seq (by kernel_rfl) ?_
    refine aw_region [] [0, 6, 7, 27, 28, 29, 30] [0, 1] 2 (vcs := []) (vals := [.sl false 1 (List.map AV.str names_1), .mp 0, .own 1 ((row_2).length), .sl false 2 (List.map e_Arr2_Int stacks_1), .int .i64 (((stacks_1).length : Nat) : Int), .int .i64 v_1, .bool (decide (v_1 < (((stacks_1).length : Nat) : Int)))]) (bxs := [.live (.map true [.int .i64, .int .i64] (List.map (mpE e_Arr2_Int AV.bool) row_1)), .live (.row 3 1 (List.map (AV.int .i64) row_2))]) (by kernel_rfl) hmix trivial ?_
    refine aw_seq (by kernel_rfl) ?_
    refine aw_cond (t := 30) (b := (decide (v_1 < (((stacks_1).length : Nat) : Int)))) (by kernel_rfl) (by kernel_rfl) ?_ ?_
    rotate_left
    · intro g_3; replace h := cond_f g_3 h
      refine aw_exit (id := 0) (by kernel_rfl) ?_
      replace h := Option.some.inj h; subst h
      exact ⟨rfl, (sub_wk [] [] [] [] (vcs := []) (by kernel_rfl) trivial)⟩
    intro g_3; replace h := cond_t g_3 h
    refine aw_skip (by kernel_rfl) ?_
    refine aw_seq (by kernel_rfl) ?_
    refine aw_block (id := 1) (by kernel_rfl) ?_
    refine aw_seq (by kernel_rfl) ?_
    obtain ⟨x_1, h_4, h⟩ := bind_some h
    refine aw_region [(1, { av := .agg [.int .i64 x_1.c0, .int .i64 x_1.c1] }), (3, { id := 2 })] [0, 6, 7, 8, 9, 27, 28, 29] [0, 1, 2] 3 (vcs := [idxA (List.map e_Arr2_Int stacks_1) v_1 = some (.agg [.int .i64 x_1.c0, .int .i64 x_1.c1])]) (vals := [.sl false 1 (List.map AV.str names_1), .mp 0, .own 1 ((row_2).length), .int .i64 v_1, .ptr 2 0 0 0, .sl false 2 (List.map e_Arr2_Int stacks_1), .int .i64 (((stacks_1).length : Nat) : Int), .int .i64 v_1]) (bxs := [.live (.map true [.int .i64, .int .i64] (List.map (mpE e_Arr2_Int AV.bool) row_1)), .live (.row 3 1 (List.map (AV.int .i64) row_2)), .live (.var 46 [.int .i64 x_1.c0, .int .i64 x_1.c1])]) (by kernel_rfl) hmix ⟨(vc_idx h_4), trivial⟩ ?_
    refine aw_seq (by kernel_rfl) ?_
    refine aw_block (id := 2) (by kernel_rfl) ?_
    refine aw_seq (by kernel_rfl) ?_
    refine aw_mid (mk [(0, .sl false 1 (List.map AV.str names_1)), (6, .mp 0), (7, .own 1 ((row_2).length)), (8, .int .i64 v_1), (9, .ptr 2 0 0 0), (27, .sl false 2 (List.map e_Arr2_Int stacks_1)), (28, .int .i64 (((stacks_1).length : Nat) : Int)), (29, .int .i64 v_1), (34, .bool (decide (x_1.c0 < (-1 : Int)) || (decide (x_1.c0 ≥ v_1) || (decide (x_1.c1 < (0 : Int)) || decide (x_1.c1 ≥ (((names_1).length : Nat) : Int))))))] [(0, .live (.map true [.int .i64, .int .i64] (List.map (mpE e_Arr2_Int AV.bool) row_1))), (1, .live (.row 3 1 (List.map (AV.int .i64) row_2))), (2, .live (.var 46 [.int .i64 x_1.c0, .int .i64 x_1.c1]))] 3) ?_ ?_
    · rcases Bool.eq_false_or_eq_true (decide (x_1.c0 < (-1 : Int))) with gg_11 | gg_11
      · refine aw_region [(4, { g := false }), (5, { g := false }), (6, { g := false }), (7, { g := false }), (8, { b := true }), (10, { g := false }), (11, { g := false }), (12, { g := false }), (13, { b := true }), (15, { g := false }), (16, { g := false }), (17, { g := false }), (18, { g := false }), (19, { g := false }), (20, { b := true })] [0, 6, 7, 8, 9, 27, 28, 29, 34, 39, 40, 41, 42, 45, 46, 47, 50, 51, 52, 53, 54] [0, 1, 2] 3 (vcs := [(0 : Int) ≤ (0 : Int), (0 : Int) < ((2 : Nat) : Int), (decide (x_1.c0 < (-1 : Int))) = !false, (decide (x_1.c0 < (-1 : Int))) = !false, (decide (x_1.c0 < (-1 : Int))) = !false, (decide (x_1.c0 < (-1 : Int))) = !false, (decide (x_1.c0 < (-1 : Int))) = true, true = !false, true = !false, true = !false, true = true, true = !false, true = !false, true = !false, true = !false, true = !false, true = true]) (vals := [.sl false 1 (List.map AV.str names_1), .mp 0, .own 1 ((row_2).length), .int .i64 v_1, .ptr 2 0 0 0, .sl false 2 (List.map e_Arr2_Int stacks_1), .int .i64 (((stacks_1).length : Nat) : Int), .int .i64 v_1, .bool true, .tuple [], .tuple [], .tuple [], .tuple [], .tuple [], .tuple [], .tuple [], .tuple [], .tuple [], .tuple [], .tuple [], .tuple []]) (bxs := [.live (.map true [.int .i64, .int .i64] (List.map (mpE e_Arr2_Int AV.bool) row_1)), .live (.row 3 1 (List.map (AV.int .i64) row_2)), .live (.var 46 [.int .i64 x_1.c0, .int .i64 x_1.c1])]) (by kernel_rfl) hmix ⟨(by decide), (by decide), gg_11, gg_11, gg_11, gg_11, gg_11, rfl, rfl, rfl, rfl, rfl, rfl, rfl, rfl, rfl, rfl, trivial⟩ ?_
        exact ⟨rfl, (sub_wk [0, 1, 2] [] [(0, .sl false 1 (List.map AV.str names_1)), (6, .mp 0), (7, .own 1 ((row_2).length)), (8, .int .i64 v_1), (9, .ptr 2 0 0 0), (27, .sl false 2 (List.map e_Arr2_Int stacks_1)), (28, .int .i64 (((stacks_1).length : Nat) : Int)), (29, .int .i64 v_1), (34, .bool (decide (x_1.c0 < (-1 : Int)) || (decide (x_1.c0 ≥ v_1) || (decide (x_1.c1 < (0 : Int)) || decide (x_1.c1 ≥ (((names_1).length : Nat) : Int))))))] [(0, .live (.map true [.int .i64, .int .i64] (List.map (mpE e_Arr2_Int AV.bool) row_1))), (1, .live (.row 3 1 (List.map (AV.int .i64) row_2))), (2, .live (.var 46 [.int .i64 x_1.c0, .int .i64 x_1.c1]))] (vcs := [(1 = 1 : Prop), (((List.map AV.str names_1) : List AV) = (List.map AV.str names_1) : Prop), ((!false || false) = true : Prop), ((.mp 0 : AV) = .mp 0 : Prop), ((.own 1 ((row_2).length) : AV) = .own 1 ((row_2).length) : Prop), ((.int .i64 v_1 : AV) = .int .i64 v_1 : Prop), ((.ptr 2 0 0 0 : AV) = .ptr 2 0 0 0 : Prop), (2 = 2 : Prop), (((List.map e_Arr2_Int stacks_1) : List AV) = (List.map e_Arr2_Int stacks_1) : Prop), ((!false || false) = true : Prop), ((.int .i64 (((stacks_1).length : Nat) : Int) : AV) = .int .i64 (((stacks_1).length : Nat) : Int) : Prop), ((.int .i64 v_1 : AV) = .int .i64 v_1 : Prop), ((.bool true : AV) = .bool (decide (x_1.c0 < (-1 : Int)) || (decide (x_1.c0 ≥ v_1) || (decide (x_1.c1 < (0 : Int)) || decide (x_1.c1 ≥ (((names_1).length : Nat) : Int))))) : Prop), (true = true : Prop), (([.int .i64, .int .i64] : List KSh) = [.int .i64, .int .i64] : Prop), (((List.map (mpE e_Arr2_Int AV.bool) row_1) : List (AV × AV)) = (List.map (mpE e_Arr2_Int AV.bool) row_1) : Prop), (3 = 3 : Prop), (1 = 1 : Prop), (((List.map (AV.int .i64) row_2) : List AV) = (List.map (AV.int .i64) row_2) : Prop), (46 = 46 : Prop), (ones [.int .i64 x_1.c0, .int .i64 x_1.c1] = true : Prop), ((.int .i64 x_1.c0 : AV) = .int .i64 x_1.c0 : Prop), ((.int .i64 x_1.c1 : AV) = .int .i64 x_1.c1 : Prop)]) (by kernel_rfl) ⟨rfl, rfl, rfl, rfl, rfl, rfl, rfl, rfl, rfl, rfl, rfl, rfl, (congrArg AV.bool (ort gg_11)), rfl, rfl, rfl, rfl, rfl, rfl, rfl, rfl, rfl, rfl, trivial⟩)⟩
      · rcases Bool.eq_false_or_eq_true (decide (x_1.c0 ≥ v_1)) with gg_12 | gg_12
        · refine aw_region [(8, { b := false }), (10, { g := false }), (11, { g := false }), (12, { g := false }), (13, { b := true }), (15, { g := false }), (16, { g := false }), (17, { g := false }), (18, { g := false }), (19, { g := false }), (20, { b := true })] [0, 6, 7, 8, 9, 27, 28, 29, 34, 39, 40, 41, 42, 45, 46, 47, 50, 51, 52, 53, 54] [0, 1, 2] 3 (vcs := [(0 : Int) ≤ (0 : Int), (0 : Int) < ((2 : Nat) : Int), (decide (x_1.c0 < (-1 : Int))) = false, (0 : Int) ≤ (0 : Int), (0 : Int) < ((2 : Nat) : Int), (decide (x_1.c0 < (-1 : Int))) = false, (decide (x_1.c0 < (-1 : Int))) = false, (decide (x_1.c0 < (-1 : Int))) = false, (decide (x_1.c0 < (-1 : Int))) = false, (decide (x_1.c0 ≥ v_1)) = !false, (decide (x_1.c0 ≥ v_1)) = !false, (decide (x_1.c0 ≥ v_1)) = !false, (decide (x_1.c0 ≥ v_1)) = true, true = !false, true = !false, true = !false, true = !false, true = !false, true = true]) (vals := [.sl false 1 (List.map AV.str names_1), .mp 0, .own 1 ((row_2).length), .int .i64 v_1, .ptr 2 0 0 0, .sl false 2 (List.map e_Arr2_Int stacks_1), .int .i64 (((stacks_1).length : Nat) : Int), .int .i64 v_1, .bool true, .ptr 2 0 0 0, .int .i64 x_1.c0, .int .i64 v_1, .bool (decide (x_1.c0 ≥ v_1)), .tuple [], .tuple [], .tuple [], .tuple [], .tuple [], .tuple [], .tuple [], .tuple []]) (bxs := [.live (.map true [.int .i64, .int .i64] (List.map (mpE e_Arr2_Int AV.bool) row_1)), .live (.row 3 1 (List.map (AV.int .i64) row_2)), .live (.var 46 [.int .i64 x_1.c0, .int .i64 x_1.c1])]) (by kernel_rfl) hmix ⟨(by decide), (by decide), gg_11, (by decide), (by decide), gg_11, gg_11, gg_11, gg_11, gg_12, gg_12, gg_12, gg_12, rfl, rfl, rfl, rfl, rfl, rfl, trivial⟩ ?_
          exact ⟨rfl, (sub_wk [0, 1, 2] [] [(0, .sl false 1 (List.map AV.str names_1)), (6, .mp 0), (7, .own 1 ((row_2).length)), (8, .int .i64 v_1), (9, .ptr 2 0 0 0), (27, .sl false 2 (List.map e_Arr2_Int stacks_1)), (28, .int .i64 (((stacks_1).length : Nat) : Int)), (29, .int .i64 v_1), (34, .bool (decide (x_1.c0 < (-1 : Int)) || (decide (x_1.c0 ≥ v_1) || (decide (x_1.c1 < (0 : Int)) || decide (x_1.c1 ≥ (((names_1).length : Nat) : Int))))))] [(0, .live (.map true [.int .i64, .int .i64] (List.map (mpE e_Arr2_Int AV.bool) row_1))), (1, .live (.row 3 1 (List.map (AV.int .i64) row_2))), (2, .live (.var 46 [.int .i64 x_1.c0, .int .i64 x_1.c1]))] (vcs := [(1 = 1 : Prop), (((List.map AV.str names_1) : List AV) = (List.map AV.str names_1) : Prop), ((!false || false) = true : Prop), ((.mp 0 : AV) = .mp 0 : Prop), ((.own 1 ((row_2).length) : AV) = .own 1 ((row_2).length) : Prop), ((.int .i64 v_1 : AV) = .int .i64 v_1 : Prop), ((.ptr 2 0 0 0 : AV) = .ptr 2 0 0 0 : Prop), (2 = 2 : Prop), (((List.map e_Arr2_Int stacks_1) : List AV) = (List.map e_Arr2_Int stacks_1) : Prop), ((!false || false) = true : Prop), ((.int .i64 (((stacks_1).length : Nat) : Int) : AV) = .int .i64 (((stacks_1).length : Nat) : Int) : Prop), ((.int .i64 v_1 : AV) = .int .i64 v_1 : Prop), ((.bool true : AV) = .bool (decide (x_1.c0 < (-1 : Int)) || (decide (x_1.c0 ≥ v_1) || (decide (x_1.c1 < (0 : Int)) || decide (x_1.c1 ≥ (((names_1).length : Nat) : Int))))) : Prop), (true = true : Prop), (([.int .i64, .int .i64] : List KSh) = [.int .i64, .int .i64] : Prop), (((List.map (mpE e_Arr2_Int AV.bool) row_1) : List (AV × AV)) = (List.map (mpE e_Arr2_Int AV.bool) row_1) : Prop), (3 = 3 : Prop), (1 = 1 : Prop), (((List.map (AV.int .i64) row_2) : List AV) = (List.map (AV.int .i64) row_2) : Prop), (46 = 46 : Prop), (ones [.int .i64 x_1.c0, .int .i64 x_1.c1] = true : Prop), ((.int .i64 x_1.c0 : AV) = .int .i64 x_1.c0 : Prop), ((.int .i64 x_1.c1 : AV) = .int .i64 x_1.c1 : Prop)]) (by kernel_rfl) ⟨rfl, rfl, rfl, rfl, rfl, rfl, rfl, rfl, rfl, rfl, rfl, rfl, (congrArg AV.bool (orf gg_11 (ort gg_12))), rfl, rfl, rfl, rfl, rfl, rfl, rfl, rfl, rfl, rfl, trivial⟩)⟩
        · rcases Bool.eq_false_or_eq_true (decide (x_1.c1 < (0 : Int))) with gg_13 | gg_13
          · refine aw_region [(8, { b := false }), (13, { b := false }), (15, { g := false }), (16, { g := false }), (17, { g := false }), (18, { g := false }), (19, { g := false }), (20, { b := true })] [0, 6, 7, 8, 9, 27, 28, 29, 34, 39, 40, 41, 42, 45, 46, 47, 50, 51, 52, 53, 54] [0, 1, 2] 3 (vcs := [(0 : Int) ≤ (0 : Int), (0 : Int) < ((2 : Nat) : Int), (decide (x_1.c0 < (-1 : Int))) = false, (0 : Int) ≤ (0 : Int), (0 : Int) < ((2 : Nat) : Int), (decide (x_1.c0 < (-1 : Int))) = false, (decide (x_1.c0 < (-1 : Int))) = false, (decide (x_1.c0 < (-1 : Int))) = false, (decide (x_1.c0 < (-1 : Int))) = false, (decide (x_1.c0 ≥ v_1)) = false, (0 : Int) ≤ (1 : Int), (1 : Int) < ((2 : Nat) : Int), (decide (x_1.c0 ≥ v_1)) = false, (decide (x_1.c0 ≥ v_1)) = false, (decide (x_1.c0 ≥ v_1)) = false, (decide (x_1.c1 < (0 : Int))) = !false, (decide (x_1.c1 < (0 : Int))) = !false, (decide (x_1.c1 < (0 : Int))) = !false, (decide (x_1.c1 < (0 : Int))) = !false, (decide (x_1.c1 < (0 : Int))) = !false, (decide (x_1.c1 < (0 : Int))) = true]) (vals := [.sl false 1 (List.map AV.str names_1), .mp 0, .own 1 ((row_2).length), .int .i64 v_1, .ptr 2 0 0 0, .sl false 2 (List.map e_Arr2_Int stacks_1), .int .i64 (((stacks_1).length : Nat) : Int), .int .i64 v_1, .bool true, .ptr 2 0 0 0, .int .i64 x_1.c0, .int .i64 v_1, .bool (decide (x_1.c0 ≥ v_1)), .ptr 2 0 0 1, .int .i64 x_1.c1, .bool (decide (x_1.c1 < (0 : Int))), .tuple [], .tuple [], .tuple [], .tuple [], .tuple []]) (bxs := [.live (.map true [.int .i64, .int .i64] (List.map (mpE e_Arr2_Int AV.bool) row_1)), .live (.row 3 1 (List.map (AV.int .i64) row_2)), .live (.var 46 [.int .i64 x_1.c0, .int .i64 x_1.c1])]) (by kernel_rfl) hmix ⟨(by decide), (by decide), gg_11, (by decide), (by decide), gg_11, gg_11, gg_11, gg_11, gg_12, (by decide), (by decide), gg_12, gg_12, gg_12, gg_13, gg_13, gg_13, gg_13, gg_13, gg_13, trivial⟩ ?_
            exact ⟨rfl, (sub_wk [0, 1, 2] [] [(0, .sl false 1 (List.map AV.str names_1)), (6, .mp 0), (7, .own 1 ((row_2).length)), (8, .int .i64 v_1), (9, .ptr 2 0 0 0), (27, .sl false 2 (List.map e_Arr2_Int stacks_1)), (28, .int .i64 (((stacks_1).length : Nat) : Int)), (29, .int .i64 v_1), (34, .bool (decide (x_1.c0 < (-1 : Int)) || (decide (x_1.c0 ≥ v_1) || (decide (x_1.c1 < (0 : Int)) || decide (x_1.c1 ≥ (((names_1).length : Nat) : Int))))))] [(0, .live (.map true [.int .i64, .int .i64] (List.map (mpE e_Arr2_Int AV.bool) row_1))), (1, .live (.row 3 1 (List.map (AV.int .i64) row_2))), (2, .live (.var 46 [.int .i64 x_1.c0, .int .i64 x_1.c1]))] (vcs := [(1 = 1 : Prop), (((List.map AV.str names_1) : List AV) = (List.map AV.str names_1) : Prop), ((!false || false) = true : Prop), ((.mp 0 : AV) = .mp 0 : Prop), ((.own 1 ((row_2).length) : AV) = .own 1 ((row_2).length) : Prop), ((.int .i64 v_1 : AV) = .int .i64 v_1 : Prop), ((.ptr 2 0 0 0 : AV) = .ptr 2 0 0 0 : Prop), (2 = 2 : Prop), (((List.map e_Arr2_Int stacks_1) : List AV) = (List.map e_Arr2_Int stacks_1) : Prop), ((!false || false) = true : Prop), ((.int .i64 (((stacks_1).length : Nat) : Int) : AV) = .int .i64 (((stacks_1).length : Nat) : Int) : Prop), ((.int .i64 v_1 : AV) = .int .i64 v_1 : Prop), ((.bool true : AV) = .bool (decide (x_1.c0 < (-1 : Int)) || (decide (x_1.c0 ≥ v_1) || (decide (x_1.c1 < (0 : Int)) || decide (x_1.c1 ≥ (((names_1).length : Nat) : Int))))) : Prop), (true = true : Prop), (([.int .i64, .int .i64] : List KSh) = [.int .i64, .int .i64] : Prop), (((List.map (mpE e_Arr2_Int AV.bool) row_1) : List (AV × AV)) = (List.map (mpE e_Arr2_Int AV.bool) row_1) : Prop), (3 = 3 : Prop), (1 = 1 : Prop), (((List.map (AV.int .i64) row_2) : List AV) = (List.map (AV.int .i64) row_2) : Prop), (46 = 46 : Prop), (ones [.int .i64 x_1.c0, .int .i64 x_1.c1] = true : Prop), ((.int .i64 x_1.c0 : AV) = .int .i64 x_1.c0 : Prop), ((.int .i64 x_1.c1 : AV) = .int .i64 x_1.c1 : Prop)]) (by kernel_rfl) ⟨rfl, rfl, rfl, rfl, rfl, rfl, rfl, rfl, rfl, rfl, rfl, rfl, (congrArg AV.bool (orf gg_11 (orf gg_12 (ort gg_13)))), rfl, rfl, rfl, rfl, rfl, rfl, rfl, rfl, rfl, rfl, trivial⟩)⟩
          · refine aw_region [(8, { b := false }), (13, { b := false }), (18, { n := (names_1).length }), (20, { b := false })] [0, 6, 7, 8, 9, 27, 28, 29, 34, 39, 40, 41, 42, 45, 46, 47, 50, 51, 52, 53, 54] [0, 1, 2] 3 (vcs := [(0 : Int) ≤ (0 : Int), (0 : Int) < ((2 : Nat) : Int), (decide (x_1.c0 < (-1 : Int))) = false, (0 : Int) ≤ (0 : Int), (0 : Int) < ((2 : Nat) : Int), (decide (x_1.c0 < (-1 : Int))) = false, (decide (x_1.c0 < (-1 : Int))) = false, (decide (x_1.c0 < (-1 : Int))) = false, (decide (x_1.c0 < (-1 : Int))) = false, (decide (x_1.c0 ≥ v_1)) = false, (0 : Int) ≤ (1 : Int), (1 : Int) < ((2 : Nat) : Int), (decide (x_1.c0 ≥ v_1)) = false, (decide (x_1.c0 ≥ v_1)) = false, (decide (x_1.c0 ≥ v_1)) = false, (decide (x_1.c1 < (0 : Int))) = false, (0 : Int) ≤ (1 : Int), (1 : Int) < ((2 : Nat) : Int), (decide (x_1.c1 < (0 : Int))) = false, (decide (x_1.c1 < (0 : Int))) = false, (decide (x_1.c1 < (0 : Int))) = false, ((List.map AV.str names_1)).length = (names_1).length, (decide (x_1.c1 < (0 : Int))) = false, (decide (x_1.c1 < (0 : Int))) = false]) (vals := [.sl false 1 (List.map AV.str names_1), .mp 0, .own 1 ((row_2).length), .int .i64 v_1, .ptr 2 0 0 0, .sl false 2 (List.map e_Arr2_Int stacks_1), .int .i64 (((stacks_1).length : Nat) : Int), .int .i64 v_1, .bool (decide (x_1.c1 ≥ (((names_1).length : Nat) : Int))), .ptr 2 0 0 0, .int .i64 x_1.c0, .int .i64 v_1, .bool (decide (x_1.c0 ≥ v_1)), .ptr 2 0 0 1, .int .i64 x_1.c1, .bool (decide (x_1.c1 < (0 : Int))), .ptr 2 0 0 1, .int .i64 x_1.c1, .sl false 1 (List.map AV.str names_1), .int .i64 (((names_1).length : Nat) : Int), .bool (decide (x_1.c1 ≥ (((names_1).length : Nat) : Int)))]) (bxs := [.live (.map true [.int .i64, .int .i64] (List.map (mpE e_Arr2_Int AV.bool) row_1)), .live (.row 3 1 (List.map (AV.int .i64) row_2)), .live (.var 46 [.int .i64 x_1.c0, .int .i64 x_1.c1])]) (by kernel_rfl) hmix ⟨(by decide), (by decide), gg_11, (by decide), (by decide), gg_11, gg_11, gg_11, gg_11, gg_12, (by decide), (by decide), gg_12, gg_12, gg_12, gg_13, (by decide), (by decide), gg_13, gg_13, gg_13, (vc_len _), gg_13, gg_13, trivial⟩ ?_
            exact ⟨rfl, (sub_wk [0, 1, 2] [] [(0, .sl false 1 (List.map AV.str names_1)), (6, .mp 0), (7, .own 1 ((row_2).length)), (8, .int .i64 v_1), (9, .ptr 2 0 0 0), (27, .sl false 2 (List.map e_Arr2_Int stacks_1)), (28, .int .i64 (((stacks_1).length : Nat) : Int)), (29, .int .i64 v_1), (34, .bool (decide (x_1.c0 < (-1 : Int)) || (decide (x_1.c0 ≥ v_1) || (decide (x_1.c1 < (0 : Int)) || decide (x_1.c1 ≥ (((names_1).length : Nat) : Int))))))] [(0, .live (.map true [.int .i64, .int .i64] (List.map (mpE e_Arr2_Int AV.bool) row_1))), (1, .live (.row 3 1 (List.map (AV.int .i64) row_2))), (2, .live (.var 46 [.int .i64 x_1.c0, .int .i64 x_1.c1]))] (vcs := [(1 = 1 : Prop), (((List.map AV.str names_1) : List AV) = (List.map AV.str names_1) : Prop), ((!false || false) = true : Prop), ((.mp 0 : AV) = .mp 0 : Prop), ((.own 1 ((row_2).length) : AV) = .own 1 ((row_2).length) : Prop), ((.int .i64 v_1 : AV) = .int .i64 v_1 : Prop), ((.ptr 2 0 0 0 : AV) = .ptr 2 0 0 0 : Prop), (2 = 2 : Prop), (((List.map e_Arr2_Int stacks_1) : List AV) = (List.map e_Arr2_Int stacks_1) : Prop), ((!false || false) = true : Prop), ((.int .i64 (((stacks_1).length : Nat) : Int) : AV) = .int .i64 (((stacks_1).length : Nat) : Int) : Prop), ((.int .i64 v_1 : AV) = .int .i64 v_1 : Prop), ((.bool (decide (x_1.c1 ≥ (((names_1).length : Nat) : Int))) : AV) = .bool (decide (x_1.c0 < (-1 : Int)) || (decide (x_1.c0 ≥ v_1) || (decide (x_1.c1 < (0 : Int)) || decide (x_1.c1 ≥ (((names_1).length : Nat) : Int))))) : Prop), (true = true : Prop), (([.int .i64, .int .i64] : List KSh) = [.int .i64, .int .i64] : Prop), (((List.map (mpE e_Arr2_Int AV.bool) row_1) : List (AV × AV)) = (List.map (mpE e_Arr2_Int AV.bool) row_1) : Prop), (3 = 3 : Prop), (1 = 1 : Prop), (((List.map (AV.int .i64) row_2) : List AV) = (List.map (AV.int .i64) row_2) : Prop), (46 = 46 : Prop), (ones [.int .i64 x_1.c0, .int .i64 x_1.c1] = true : Prop), ((.int .i64 x_1.c0 : AV) = .int .i64 x_1.c0 : Prop), ((.int .i64 x_1.c1 : AV) = .int .i64 x_1.c1 : Prop)]) (by kernel_rfl) ⟨rfl, rfl, rfl, rfl, rfl, rfl, rfl, rfl, rfl, rfl, rfl, rfl, (congrArg AV.bool (orf gg_11 (orf gg_12 (orf gg_13 rfl)))), rfl, rfl, rfl, rfl, rfl, rfl, rfl, rfl, rfl, rfl, trivial⟩)⟩
    refine aw_cond (t := 34) (b := (decide (x_1.c0 < (-1 : Int)) || (decide (x_1.c0 ≥ v_1) || (decide (x_1.c1 < (0 : Int)) || decide (x_1.c1 ≥ (((names_1).length : Nat) : Int)))))) (by kernel_rfl) (by kernel_rfl) ?_ ?_
    · intro g_4; replace h := cond_t g_4 h
      refine aw_seq (by kernel_rfl) ?_
      refine aw_region [] [4] [] 3 (vcs := []) (vals := [.int .i64 (2 : Int)]) (bxs := []) (by kernel_rfl) hmix trivial ?_
      refine aw_ret (by kernel_rfl) ?_
      replace h := Option.some.inj h; subst h
      exact ⟨rfl, Nat.le_of_ble_eq_true rfl, by kernel_rfl⟩
    intro g_4; replace h := cond_f g_4 h
    refine aw_seq (by kernel_rfl) ?_
    refine aw_region [(2, { av := (.bool ((mget row_1 x_1).getD false)), g := (mget row_1 x_1).isSome })] [0, 6, 7, 8, 9, 27, 28, 29, 56] [0, 1, 2] 3 (vcs := [KeyOk prog 46 true [.int .i64, .int .i64], MLook (List.map (mpE e_Arr2_Int AV.bool) row_1) (.agg [.int .i64 x_1.c0, .int .i64 x_1.c1]) (.bool false) (.bool ((mget row_1 x_1).getD false)) (mget row_1 x_1).isSome]) (vals := [.sl false 1 (List.map AV.str names_1), .mp 0, .own 1 ((row_2).length), .int .i64 v_1, .ptr 2 0 0 0, .sl false 2 (List.map e_Arr2_Int stacks_1), .int .i64 (((stacks_1).length : Nat) : Int), .int .i64 v_1, .bool ((mget row_1 x_1).getD false)]) (bxs := [.live (.map true [.int .i64, .int .i64] (List.map (mpE e_Arr2_Int AV.bool) row_1)), .live (.row 3 1 (List.map (AV.int .i64) row_2)), .live (.var 46 [.int .i64 x_1.c0, .int .i64 x_1.c1])]) (by kernel_rfl) hmix ⟨keyOk_46, (mlook_map (f := e_Arr2_Int) (g := AV.bool) inj_Arr2_Int row_1 x_1 false), trivial⟩ ?_
    refine aw_cond (t := 56) (b := ((mget row_1 x_1).getD false)) (by kernel_rfl) (by kernel_rfl) ?_ ?_
    · intro g_5; replace h := cond_t g_5 h
      refine aw_seq (by kernel_rfl) ?_
      refine aw_region [] [4] [] 3 (vcs := []) (vals := [.int .i64 (4 : Int)]) (bxs := []) (by kernel_rfl) hmix trivial ?_
      refine aw_ret (by kernel_rfl) ?_
      replace h := Option.some.inj h; subst h
      exact ⟨rfl, Nat.le_of_ble_eq_true rfl, by kernel_rfl⟩
    intro g_5; replace h := cond_f g_5 h
    refine aw_skip (by kernel_rfl) ?_
    refine aw_seq (by kernel_rfl) ?_
    obtain ⟨_, h_5, h⟩ := bind_some h; replace h_5 := need_some h_5
    refine aw_region [(2, { es := (List.map (mpE e_Arr2_Int AV.bool) (mput row_1 x_1 true)) })] [0, 6, 7, 8, 9, 27, 28, 29] [0, 1, 2] 3 (vcs := [KeyOk prog 46 true [.int .i64, .int .i64], MPut (List.map (mpE e_Arr2_Int AV.bool) row_1) (.agg [.int .i64 x_1.c0, .int .i64 x_1.c1]) (.bool true) (List.map (mpE e_Arr2_Int AV.bool) (mput row_1 x_1 true)), ((List.map (mpE e_Arr2_Int AV.bool) row_1) : List (AV × AV)).length < maxLen]) (vals := [.sl false 1 (List.map AV.str names_1), .mp 0, .own 1 ((row_2).length), .int .i64 v_1, .ptr 2 0 0 0, .sl false 2 (List.map e_Arr2_Int stacks_1), .int .i64 (((stacks_1).length : Nat) : Int), .int .i64 v_1]) (bxs := [.live (.map true [.int .i64, .int .i64] (List.map (mpE e_Arr2_Int AV.bool) (mput row_1 x_1 true))), .live (.row 3 1 (List.map (AV.int .i64) row_2)), .live (.var 46 [.int .i64 x_1.c0, .int .i64 x_1.c1])]) (by kernel_rfl) hmix ⟨keyOk_46, (mput_map (f := e_Arr2_Int) (g := AV.bool) inj_Arr2_Int row_1 x_1 true), (mlen_lt (l := row_1) h_5), trivial⟩ ?_
    refine aw_seq (by kernel_rfl) ?_
    obtain ⟨x_2, h_6, h⟩ := bind_some h
    refine aw_region [(3, { av := .int .i64 x_2, l := (List.map (AV.int .i64) ((row_2).set ((v_1).toNat) (1 : Int))) })] [0, 6, 7, 8, 9, 27, 28, 29] [0, 1, 2] 3 (vcs := [(0 : Int) ≤ v_1, v_1 < (((row_2).length : Nat) : Int), (List.map (AV.int .i64) row_2)[(v_1).toNat]? = some (.int .i64 x_2), (List.map (AV.int .i64) ((row_2).set ((v_1).toNat) (1 : Int))) = List.set (List.map (AV.int .i64) row_2) ((v_1).toNat) (setElem (.int .i64 x_2) 0 [.int .i64 (1 : Int)])]) (vals := [.sl false 1 (List.map AV.str names_1), .mp 0, .own 1 ((row_2).length), .int .i64 v_1, .ptr 2 0 0 0, .sl false 2 (List.map e_Arr2_Int stacks_1), .int .i64 (((stacks_1).length : Nat) : Int), .int .i64 v_1]) (bxs := [.live (.map true [.int .i64, .int .i64] (List.map (mpE e_Arr2_Int AV.bool) (mput row_1 x_1 true))), .live (.row 3 1 (List.map (AV.int .i64) ((row_2).set ((v_1).toNat) (1 : Int)))), .live (.var 46 [.int .i64 x_1.c0, .int .i64 x_1.c1])]) (by kernel_rfl) hmix ⟨(idxL_lo h_6), (by simpa using idxL_hi h_6), (vc_get h_6), (vc_set _ _ _), trivial⟩ ?_
    refine aw_seq (by kernel_rfl) ?_
    refine aw_seq (by kernel_rfl) ?_
    refine aw_region [] [0, 6, 7, 8, 9, 27, 28, 29, 67] [0, 1, 2] 3 (vcs := [(0 : Int) ≤ (0 : Int), (0 : Int) < ((2 : Nat) : Int)]) (vals := [.sl false 1 (List.map AV.str names_1), .mp 0, .own 1 ((row_2).length), .int .i64 v_1, .ptr 2 0 0 0, .sl false 2 (List.map e_Arr2_Int stacks_1), .int .i64 (((stacks_1).length : Nat) : Int), .int .i64 v_1, .bool (x_1.c0 != (-1 : Int))]) (bxs := [.live (.map true [.int .i64, .int .i64] (List.map (mpE e_Arr2_Int AV.bool) (mput row_1 x_1 true))), .live (.row 3 1 (List.map (AV.int .i64) ((row_2).set ((v_1).toNat) (1 : Int)))), .live (.var 46 [.int .i64 x_1.c0, .int .i64 x_1.c1])]) (by kernel_rfl) hmix ⟨(by decide), (by decide), trivial⟩ ?_
    obtain ⟨o_2, h_7, h⟩ := bind_some h
    refine aw_mid (mk [(0, .sl false 1 (List.map AV.str names_1)), (6, .mp 0), (7, .own 1 ((o_2).length)), (8, .int .i64 v_1), (27, .sl false 2 (List.map e_Arr2_Int stacks_1)), (28, .int .i64 (((stacks_1).length : Nat) : Int)), (29, .int .i64 v_1)] [(0, .live (.map true [.int .i64, .int .i64] (List.map (mpE e_Arr2_Int AV.bool) (mput row_1 x_1 true)))), (1, .live (.row 3 1 (List.map (AV.int .i64) o_2)))] 2) ?_ ?_
    · replace h := h_7
      refine aw_cond (t := 67) (b := (x_1.c0 != (-1 : Int))) (by kernel_rfl) (by kernel_rfl) ?_ ?_
      rotate_left
      · intro g_6; replace h := cond_f g_6 h
        refine aw_skip (by kernel_rfl) ?_
        replace h := Option.some.inj h; subst h
        exact ⟨rfl, (sub_wk [0, 1] [] [(0, .sl false 1 (List.map AV.str names_1)), (6, .mp 0), (7, .own 1 (((row_2).set ((v_1).toNat) (1 : Int)).length)), (8, .int .i64 v_1), (27, .sl false 2 (List.map e_Arr2_Int stacks_1)), (28, .int .i64 (((stacks_1).length : Nat) : Int)), (29, .int .i64 v_1)] [(0, .live (.map true [.int .i64, .int .i64] (List.map (mpE e_Arr2_Int AV.bool) (mput row_1 x_1 true)))), (1, .live (.row 3 1 (List.map (AV.int .i64) ((row_2).set ((v_1).toNat) (1 : Int)))))] (vcs := [(1 = 1 : Prop), (((List.map AV.str names_1) : List AV) = (List.map AV.str names_1) : Prop), ((!false || false) = true : Prop), ((.mp 0 : AV) = .mp 0 : Prop), ((.own 1 ((row_2).length) : AV) = .own 1 (((row_2).set ((v_1).toNat) (1 : Int)).length) : Prop), ((.int .i64 v_1 : AV) = .int .i64 v_1 : Prop), (2 = 2 : Prop), (((List.map e_Arr2_Int stacks_1) : List AV) = (List.map e_Arr2_Int stacks_1) : Prop), ((!false || false) = true : Prop), ((.int .i64 (((stacks_1).length : Nat) : Int) : AV) = .int .i64 (((stacks_1).length : Nat) : Int) : Prop), ((.int .i64 v_1 : AV) = .int .i64 v_1 : Prop), (true = true : Prop), (([.int .i64, .int .i64] : List KSh) = [.int .i64, .int .i64] : Prop), (((List.map (mpE e_Arr2_Int AV.bool) (mput row_1 x_1 true)) : List (AV × AV)) = (List.map (mpE e_Arr2_Int AV.bool) (mput row_1 x_1 true)) : Prop), (3 = 3 : Prop), (1 = 1 : Prop), (((List.map (AV.int .i64) ((row_2).set ((v_1).toNat) (1 : Int))) : List AV) = (List.map (AV.int .i64) ((row_2).set ((v_1).toNat) (1 : Int))) : Prop)]) (by kernel_rfl) ⟨rfl, rfl, rfl, rfl, (congrArg (AV.own _) (by first | (simp; done) | (simp; omega))), rfl, rfl, rfl, rfl, rfl, rfl, rfl, rfl, rfl, rfl, rfl, rfl, trivial⟩)⟩
      intro g_6; replace h := cond_t g_6 h
      obtain ⟨x_3, h_8, h⟩ := bind_some h
      obtain ⟨x_4, h_9, h⟩ := bind_some h
      obtain ⟨x_5, h_10, h⟩ := bind_some h
      refine aw_region [(3, { av := .int .i64 x_3 }), (8, { av := .int .i64 x_4 }), (11, { av := .int .i64 x_5, l := (List.map (AV.int .i64) (((row_2).set ((v_1).toNat) (1 : Int)).set ((v_1).toNat) (w_i64 (x_3 + x_4)))) })] [0, 6, 7, 8, 27, 28, 29] [0, 1] 3 (vcs := [(0 : Int) ≤ v_1, v_1 < (((row_2).length : Nat) : Int), (List.map (AV.int .i64) ((row_2).set ((v_1).toNat) (1 : Int)))[(v_1).toNat]? = some (.int .i64 x_3), (0 : Int) ≤ (0 : Int), (0 : Int) < ((2 : Nat) : Int), (0 : Int) ≤ x_1.c0, x_1.c0 < (((row_2).length : Nat) : Int), (List.map (AV.int .i64) ((row_2).set ((v_1).toNat) (1 : Int)))[(x_1.c0).toNat]? = some (.int .i64 x_4), (0 : Int) ≤ v_1, v_1 < (((row_2).length : Nat) : Int), (List.map (AV.int .i64) ((row_2).set ((v_1).toNat) (1 : Int)))[(v_1).toNat]? = some (.int .i64 x_5), (List.map (AV.int .i64) (((row_2).set ((v_1).toNat) (1 : Int)).set ((v_1).toNat) (w_i64 (x_3 + x_4)))) = List.set (List.map (AV.int .i64) ((row_2).set ((v_1).toNat) (1 : Int))) ((v_1).toNat) (setElem (.int .i64 x_5) 0 [.int .i64 (w_i64 (x_3 + x_4))])]) (vals := [.sl false 1 (List.map AV.str names_1), .mp 0, .own 1 ((row_2).length), .int .i64 v_1, .sl false 2 (List.map e_Arr2_Int stacks_1), .int .i64 (((stacks_1).length : Nat) : Int), .int .i64 v_1]) (bxs := [.live (.map true [.int .i64, .int .i64] (List.map (mpE e_Arr2_Int AV.bool) (mput row_1 x_1 true))), .live (.row 3 1 (List.map (AV.int .i64) (((row_2).set ((v_1).toNat) (1 : Int)).set ((v_1).toNat) (w_i64 (x_3 + x_4)))))]) (by kernel_rfl) hmix ⟨(idxL_lo h_8), (by simpa using idxL_hi h_8), (vc_get h_8), (by decide), (by decide), (idxL_lo h_9), (by simpa using idxL_hi h_9), (vc_get h_9), (idxL_lo h_10), (by simpa using idxL_hi h_10), (vc_get h_10), (vc_set _ _ _), trivial⟩ ?_
      replace h := Option.some.inj h; subst h
      exact ⟨rfl, (sub_wk [0, 1] [] [(0, .sl false 1 (List.map AV.str names_1)), (6, .mp 0), (7, .own 1 ((((row_2).set ((v_1).toNat) (1 : Int)).set ((v_1).toNat) (w_i64 (x_3 + x_4))).length)), (8, .int .i64 v_1), (27, .sl false 2 (List.map e_Arr2_Int stacks_1)), (28, .int .i64 (((stacks_1).length : Nat) : Int)), (29, .int .i64 v_1)] [(0, .live (.map true [.int .i64, .int .i64] (List.map (mpE e_Arr2_Int AV.bool) (mput row_1 x_1 true)))), (1, .live (.row 3 1 (List.map (AV.int .i64) (((row_2).set ((v_1).toNat) (1 : Int)).set ((v_1).toNat) (w_i64 (x_3 + x_4))))))] (vcs := [(1 = 1 : Prop), (((List.map AV.str names_1) : List AV) = (List.map AV.str names_1) : Prop), ((!false || false) = true : Prop), ((.mp 0 : AV) = .mp 0 : Prop), ((.own 1 ((row_2).length) : AV) = .own 1 ((((row_2).set ((v_1).toNat) (1 : Int)).set ((v_1).toNat) (w_i64 (x_3 + x_4))).length) : Prop), ((.int .i64 v_1 : AV) = .int .i64 v_1 : Prop), (2 = 2 : Prop), (((List.map e_Arr2_Int stacks_1) : List AV) = (List.map e_Arr2_Int stacks_1) : Prop), ((!false || false) = true : Prop), ((.int .i64 (((stacks_1).length : Nat) : Int) : AV) = .int .i64 (((stacks_1).length : Nat) : Int) : Prop), ((.int .i64 v_1 : AV) = .int .i64 v_1 : Prop), (true = true : Prop), (([.int .i64, .int .i64] : List KSh) = [.int .i64, .int .i64] : Prop), (((List.map (mpE e_Arr2_Int AV.bool) (mput row_1 x_1 true)) : List (AV × AV)) = (List.map (mpE e_Arr2_Int AV.bool) (mput row_1 x_1 true)) : Prop), (3 = 3 : Prop), (1 = 1 : Prop), (((List.map (AV.int .i64) (((row_2).set ((v_1).toNat) (1 : Int)).set ((v_1).toNat) (w_i64 (x_3 + x_4)))) : List AV) = (List.map (AV.int .i64) (((row_2).set ((v_1).toNat) (1 : Int)).set ((v_1).toNat) (w_i64 (x_3 + x_4)))) : Prop)]) (by kernel_rfl) ⟨rfl, rfl, rfl, rfl, (congrArg (AV.own _) (by first | (simp; done) | (simp; omega))), rfl, rfl, rfl, rfl, rfl, rfl, rfl, rfl, rfl, rfl, rfl, rfl, trivial⟩)⟩
    refine aw_seq (by kernel_rfl) ?_
    obtain ⟨x_6, h_11, h⟩ := bind_some h
    refine aw_region [(3, { av := .int .i64 x_6 })] [0, 6, 7, 27, 28, 29, 83] [0, 1] 2 (vcs := [(0 : Int) ≤ v_1, v_1 < (((o_2).length : Nat) : Int), (List.map (AV.int .i64) o_2)[(v_1).toNat]? = some (.int .i64 x_6)]) (vals := [.sl false 1 (List.map AV.str names_1), .mp 0, .own 1 ((o_2).length), .sl false 2 (List.map e_Arr2_Int stacks_1), .int .i64 (((stacks_1).length : Nat) : Int), .int .i64 v_1, .bool (decide (x_6 > (32 : Int)))]) (bxs := [.live (.map true [.int .i64, .int .i64] (List.map (mpE e_Arr2_Int AV.bool) (mput row_1 x_1 true))), .live (.row 3 1 (List.map (AV.int .i64) o_2))]) (by kernel_rfl) hmix ⟨(idxL_lo h_11), (by simpa using idxL_hi h_11), (vc_get h_11), trivial⟩ ?_
    refine aw_cond (t := 83) (b := (decide (x_6 > (32 : Int)))) (by kernel_rfl) (by kernel_rfl) ?_ ?_
    rotate_left
    · intro g_7; replace h := cond_f g_7 h
      refine aw_skip (by kernel_rfl) ?_
      refine aw_region [] [0, 6, 7, 27, 28, 29] [0, 1] 2 (vcs := []) (vals := [.sl false 1 (List.map AV.str names_1), .mp 0, .own 1 ((o_2).length), .sl false 2 (List.map e_Arr2_Int stacks_1), .int .i64 (((stacks_1).length : Nat) : Int), .int .i64 (w_i64 (v_1 + (1 : Int)))]) (bxs := [.live (.map true [.int .i64, .int .i64] (List.map (mpE e_Arr2_Int AV.bool) (mput row_1 x_1 true))), .live (.row 3 1 (List.map (AV.int .i64) o_2))]) (by kernel_rfl) hmix trivial ?_
      exact ⟨_, (sub_wk [0, 1] [] [(0, .sl false 1 (List.map AV.str names_1)), (6, .mp 0), (7, .own 1 ((o_2).length)), (27, .sl false 2 (List.map e_Arr2_Int stacks_1)), (28, .int .i64 (((stacks_1).length : Nat) : Int)), (29, .int .i64 (w_i64 (v_1 + (1 : Int))))] [(0, .live (.map true [.int .i64, .int .i64] (List.map (mpE e_Arr2_Int AV.bool) (mput row_1 x_1 true)))), (1, .live (.row 3 1 (List.map (AV.int .i64) o_2)))] (vcs := [(1 = 1 : Prop), (((List.map AV.str names_1) : List AV) = (List.map AV.str names_1) : Prop), ((!false || false) = true : Prop), ((.mp 0 : AV) = .mp 0 : Prop), ((.own 1 ((o_2).length) : AV) = .own 1 ((o_2).length) : Prop), (2 = 2 : Prop), (((List.map e_Arr2_Int stacks_1) : List AV) = (List.map e_Arr2_Int stacks_1) : Prop), ((!false || false) = true : Prop), ((.int .i64 (((stacks_1).length : Nat) : Int) : AV) = .int .i64 (((stacks_1).length : Nat) : Int) : Prop), ((.int .i64 (w_i64 (v_1 + (1 : Int))) : AV) = .int .i64 (w_i64 (v_1 + (1 : Int))) : Prop), (true = true : Prop), (([.int .i64, .int .i64] : List KSh) = [.int .i64, .int .i64] : Prop), (((List.map (mpE e_Arr2_Int AV.bool) (mput row_1 x_1 true)) : List (AV × AV)) = (List.map (mpE e_Arr2_Int AV.bool) (mput row_1 x_1 true)) : Prop), (3 = 3 : Prop), (1 = 1 : Prop), (((List.map (AV.int .i64) o_2) : List AV) = (List.map (AV.int .i64) o_2) : Prop)]) (by kernel_rfl) ⟨rfl, rfl, rfl, rfl, rfl, rfl, rfl, rfl, rfl, rfl, rfl, rfl, rfl, rfl, rfl, rfl, trivial⟩), _, _, _, rfl, h⟩
    intro g_7; replace h := cond_t g_7 h
    refine aw_seq (by kernel_rfl) ?_
    refine aw_region [] [4] [] 2 (vcs := []) (vals := [.int .i64 (7 : Int)]) (bxs := []) (by kernel_rfl) hmix trivial ?_
    refine aw_ret (by kernel_rfl) ?_
    replace h := Option.some.inj h; subst h
    exact ⟨rfl, Nat.le_of_ble_eq_true rfl, by kernel_rfl⟩
  intro e st1 hk
  rcases o_1 with q_1 | q_2
  rotate_left
  · obtain ⟨rfl, hf⟩ := hk
    replace h := Option.some.inj h; subst h
    exact ⟨st1, Sub.refl _ _, .inr rfl, hf⟩
  obtain ⟨rfl, hs⟩ := hk
  refine ⟨_, hs, ?_⟩
  refine aw_seq (by kernel_rfl) ?_
  refine aw_region [] [4] [] 0 (vcs := []) (vals := [.int .i64 (0 : Int)]) (bxs := []) (by kernel_rfl) hmix trivial ?_
  refine aw_ret (by kernel_rfl) ?_
  replace h := Option.some.inj h; subst h
  exact ⟨.inr rfl, Nat.le_of_ble_eq_true rfl, by kernel_rfl⟩

theorem slices_Reverse_string_string_ok (F : Nat) (s_1 : List (List Int)) (r : (List (List Int))) (h : slices_Reverse_string_string F s_1 = some r) : Triple prog 27 [(.row 9 1 (List.map AV.str s_1))] [.own 0 ((s_1).length)] [(.row 9 1 (List.map AV.str r))] (.tuple []) := by
  refine triple_intro (fn := Go.Proofs.Try.f27) (code := codeOf Go.Proofs.Try.f27) (by kernel_rfl) (by kernel_rfl) (Nat.le_of_ble_eq_true (by kernel_rfl)) ?_
  unfold slices_Reverse_string_string at h
  refine aw_seq (by kernel_rfl) ?_
  refine aw_region [] [0, 2, 3] [0] 1 (vcs := []) (vals := [.own 0 ((s_1).length), .int .i64 (0 : Int), .int .i64 (w_i64 ((((s_1).length : Nat) : Int) - (1 : Int)))]) (bxs := [.live (.row 9 1 (List.map AV.str s_1))]) (by kernel_rfl) hmix trivial ?_
  obtain ⟨o_1, h_1, h⟩ := bind_some h
  refine aw_mid (mk [] [(0, .live (.row 9 1 (List.map AV.str o_1)))] 1) ?_ ?_
  · replace h := h_1
    refine aw_block (id := 0) (by kernel_rfl) ?_
    refine aw_sub (sub_wk [0] [] [(0, .own 0 ((s_1).length)), (2, .int .i64 (0 : Int)), (3, .int .i64 (w_i64 ((((s_1).length : Nat) : Int) - (1 : Int))))] [(0, .live (.row 9 1 (List.map AV.str s_1)))] (vcs := [((.own 0 ((s_1).length) : AV) = .own 0 ((s_1).length) : Prop), ((.int .i64 (0 : Int) : AV) = .int .i64 (0 : Int) : Prop), ((.int .i64 (w_i64 ((((s_1).length : Nat) : Int) - (1 : Int))) : AV) = .int .i64 (w_i64 ((((s_1).length : Nat) : Int) - (1 : Int))) : Prop), (9 = 9 : Prop), (1 = 1 : Prop), (((List.map AV.str s_1) : List AV) = (List.map AV.str s_1) : Prop)]) (by kernel_rfl) ⟨rfl, rfl, rfl, rfl, rfl, rfl, trivial⟩) ?_
    refine aw_loopF (fun n st => ∃ (i_1 : Int), ∃ (j_1 : Int), ∃ (row_1 : List (List Int)), st = mk [(0, .own 0 ((row_1).length)), (2, .int .i64 i_1), (3, .int .i64 j_1)] [(0, .live (.row 9 1 (List.map AV.str row_1)))] 1 ∧ slices_Reverse_string_string_L1 F n i_1 j_1 row_1 = some o_1) F (by kernel_rfl) ⟨_, _, _, rfl, h⟩ ?_ ?_
    · rintro _ ⟨_, _, _, _, h⟩; exact none_ne (h : (none : Option (List (List Int))) = some o_1)
    rintro n_1 _ ⟨i_1, j_1, row_1, rfl, h⟩
    replace h : slices_Reverse_string_string_L1_body F (slices_Reverse_string_string_L1 F n_1) i_1 j_1 row_1 = some o_1 := h
    unfold slices_Reverse_string_string_L1_body at h
    refine aw_seq (by kernel_rfl) ?_
    refine aw_seq (by kernel_rfl) ?_
    refine aw_region [] [0, 2, 3, 9] [0] 1 (vcs := []) (vals := [.own 0 ((row_1).length), .int .i64 i_1, .int .i64 j_1, .bool (decide (i_1 < j_1))]) (bxs := [.live (.row 9 1 (List.map AV.str row_1))]) (by kernel_rfl) hmix trivial ?_
    refine aw_cond (t := 9) (b := (decide (i_1 < j_1))) (by kernel_rfl) (by kernel_rfl) ?_ ?_
    rotate_left
    · intro g_1; replace h := cond_f g_1 h
      refine aw_exit (id := 0) (by kernel_rfl) ?_
      replace h := Option.some.inj h; subst h
      exact ⟨rfl, (sub_wk [0] [] [] [(0, .live (.row 9 1 (List.map AV.str row_1)))] (vcs := [(9 = 9 : Prop), (1 = 1 : Prop), (((List.map AV.str row_1) : List AV) = (List.map AV.str row_1) : Prop)]) (by kernel_rfl) ⟨rfl, rfl, rfl, trivial⟩)⟩
    intro g_1; replace h := cond_t g_1 h
    refine aw_skip (by kernel_rfl) ?_
    refine aw_seq (by kernel_rfl) ?_
    refine aw_block (id := 1) (by kernel_rfl) ?_
    obtain ⟨x_1, h_2, h⟩ := bind_some h
    obtain ⟨x_2, h_3, h⟩ := bind_some h
    obtain ⟨x_3, h_4, h⟩ := bind_some h
    obtain ⟨x_4, h_5, h⟩ := bind_some h
    refine aw_region [(7, { av := .str x_1 }), (11, { av := .str x_2 }), (13, { av := .str x_3, l := (List.map AV.str ((row_1).set ((i_1).toNat) x_1)) }), (15, { av := .str x_4, l := (List.map AV.str (((row_1).set ((i_1).toNat) x_1).set ((j_1).toNat) x_2)) })] [0, 2, 3] [0] 1 (vcs := [(0 : Int) ≤ j_1, j_1 < (((row_1).length : Nat) : Int), (List.map AV.str row_1)[(j_1).toNat]? = some (.str x_1), (0 : Int) ≤ i_1, i_1 < (((row_1).length : Nat) : Int), (List.map AV.str row_1)[(i_1).toNat]? = some (.str x_2), (0 : Int) ≤ i_1, i_1 < (((row_1).length : Nat) : Int), (List.map AV.str row_1)[(i_1).toNat]? = some (.str x_3), (List.map AV.str ((row_1).set ((i_1).toNat) x_1)) = List.set (List.map AV.str row_1) ((i_1).toNat) (setElem (.str x_3) 0 [.str x_1]), (0 : Int) ≤ j_1, j_1 < (((row_1).length : Nat) : Int), (List.map AV.str ((row_1).set ((i_1).toNat) x_1))[(j_1).toNat]? = some (.str x_4), (List.map AV.str (((row_1).set ((i_1).toNat) x_1).set ((j_1).toNat) x_2)) = List.set (List.map AV.str ((row_1).set ((i_1).toNat) x_1)) ((j_1).toNat) (setElem (.str x_4) 0 [.str x_2])]) (vals := [.own 0 ((row_1).length), .int .i64 i_1, .int .i64 j_1]) (bxs := [.live (.row 9 1 (List.map AV.str (((row_1).set ((i_1).toNat) x_1).set ((j_1).toNat) x_2)))]) (by kernel_rfl) hmix ⟨(idxL_lo h_2), (by simpa using idxL_hi h_2), (vc_get h_2), (idxL_lo h_3), (by simpa using idxL_hi h_3), (vc_get h_3), (idxL_lo h_4), (by simpa using idxL_hi h_4), (vc_get h_4), (vc_set _ _ _), (idxL_lo h_5), (by simpa using idxL_hi h_5), (vc_get h_5), (vc_set _ _ _), trivial⟩ ?_
    refine aw_region [] [0, 2, 3] [0] 1 (vcs := []) (vals := [.own 0 ((row_1).length), .int .i64 (w_i64 (i_1 + (1 : Int))), .int .i64 (w_i64 (j_1 - (1 : Int)))]) (bxs := [.live (.row 9 1 (List.map AV.str (((row_1).set ((i_1).toNat) x_1).set ((j_1).toNat) x_2)))]) (by kernel_rfl) hmix trivial ?_
    exact ⟨_, (sub_wk [0] [] [(0, .own 0 ((((row_1).set ((i_1).toNat) x_1).set ((j_1).toNat) x_2).length)), (2, .int .i64 (w_i64 (i_1 + (1 : Int)))), (3, .int .i64 (w_i64 (j_1 - (1 : Int))))] [(0, .live (.row 9 1 (List.map AV.str (((row_1).set ((i_1).toNat) x_1).set ((j_1).toNat) x_2))))] (vcs := [((.own 0 ((row_1).length) : AV) = .own 0 ((((row_1).set ((i_1).toNat) x_1).set ((j_1).toNat) x_2).length) : Prop), ((.int .i64 (w_i64 (i_1 + (1 : Int))) : AV) = .int .i64 (w_i64 (i_1 + (1 : Int))) : Prop), ((.int .i64 (w_i64 (j_1 - (1 : Int))) : AV) = .int .i64 (w_i64 (j_1 - (1 : Int))) : Prop), (9 = 9 : Prop), (1 = 1 : Prop), (((List.map AV.str (((row_1).set ((i_1).toNat) x_1).set ((j_1).toNat) x_2)) : List AV) = (List.map AV.str (((row_1).set ((i_1).toNat) x_1).set ((j_1).toNat) x_2)) : Prop)]) (by kernel_rfl) ⟨(congrArg (AV.own _) (by first | (simp; done) | (simp; omega))), rfl, rfl, rfl, rfl, rfl, trivial⟩), _, _, _, rfl, h⟩
  replace h := Option.some.inj h; subst h
  exact ⟨.inl rfl, Nat.le_of_ble_eq_true rfl, by kernel_rfl⟩

theorem intern_Stack_ok (F : Nat) (names_1 : List (List Int)) (stacks_1 : List (Arr2_Int)) (i_1 : Int) (r : (List (List Int)) × Int) (h : intern_Stack F names_1 stacks_1 i_1 = some r) : Triple prog 12 [] [.sl false 1 (List.map AV.str names_1), .sl false 2 (List.map e_Arr2_Int stacks_1), .int .i64 i_1] [.row 9 1 (List.map AV.str r.1)] (.tuple [.own 0 ((r.1).length), .int .i64 r.2]) := by
  refine triple_intro (fn := Go.Proofs.Try.f12) (code := codeOf Go.Proofs.Try.f12) (by kernel_rfl) (by kernel_rfl) (Nat.le_of_ble_eq_true (by kernel_rfl)) ?_
  unfold intern_Stack at h
  refine aw_seq (by kernel_rfl) ?_
  refine aw_region [(0, { id := 0, m := 1 })] [0, 1, 2] [] 1 (vcs := []) (vals := [.sl false 1 (List.map AV.str names_1), .sl false 2 (List.map e_Arr2_Int stacks_1), .int .i64 i_1]) (bxs := []) (by kernel_rfl) hmix trivial ?_
  refine aw_seq (by kernel_rfl) ?_
  refine aw_block (id := 0) (by kernel_rfl) ?_
  refine aw_seq (by kernel_rfl) ?_
  obtain ⟨r_1, h_1, h⟩ := bind_some h
  refine aw_region [(2, { av := .int .i64 r_1, l := [.sl false 1 (List.map AV.str names_1), .sl false 2 (List.map e_Arr2_Int stacks_1)] })] [0, 1, 2, 9] [] 1 (vcs := [([.sl false 1 (List.map AV.str names_1), .sl false 2 (List.map e_Arr2_Int stacks_1)] : List AV) = [.sl false 1 (List.map AV.str names_1), .sl false 2 (List.map e_Arr2_Int stacks_1)], ([] : List BoxSt) = [], Triple prog 16 [] [.sl false 1 (List.map AV.str names_1), .sl false 2 (List.map e_Arr2_Int stacks_1)] [] (.int .i64 r_1)]) (vals := [.sl false 1 (List.map AV.str names_1), .sl false 2 (List.map e_Arr2_Int stacks_1), .int .i64 i_1, .bool (r_1 != (0 : Int))]) (bxs := []) (by kernel_rfl) hmix ⟨rfl, rfl, (intern_Check_ok F names_1 stacks_1 r_1 h_1), trivial⟩ ?_
  refine aw_cond (t := 9) (b := (r_1 != (0 : Int))) (by kernel_rfl) (by kernel_rfl) ?_ ?_
  · intro g_1; replace h := cond_t g_1 h
    refine aw_seq (by kernel_rfl) ?_
    refine aw_region [(0, { id := 1, m := 1 })] [6, 7] [1] 2 (vcs := []) (vals := [.own 1 0, .int .i64 (1 : Int)]) (bxs := [.live (.row 9 1 [])]) (by kernel_rfl) hmix trivial ?_
    refine aw_sub (sub_wk [1] [] [(6, .own 0 ((([] : List (List Int))).length)), (7, .int .i64 (1 : Int))] [(0, .live (.row 9 1 []))] (vcs := [((.own 1 0 : AV) = .own 1 ((([] : List (List Int))).length) : Prop), ((.int .i64 (1 : Int) : AV) = .int .i64 (1 : Int) : Prop), (9 = 9 : Prop), (1 = 1 : Prop), (([] : List AV) = [] : Prop)]) (by kernel_rfl) ⟨(congrArg (AV.own _) (by first | (simp; done) | (simp; omega))), rfl, rfl, rfl, rfl, trivial⟩) ?_
    refine aw_ret (by kernel_rfl) ?_
    replace h := Option.some.inj h; subst h
    exact ⟨.inr rfl, Nat.le_of_ble_eq_true rfl, by kernel_rfl⟩
  intro g_1; replace h := cond_f g_1 h
  refine aw_seq (by kernel_rfl) ?_
  refine aw_mid (mk [(0, .sl false 1 (List.map AV.str names_1)), (1, .sl false 2 (List.map e_Arr2_Int stacks_1)), (2, .int .i64 i_1), (14, .bool (decide (i_1 < (-1 : Int)) || decide (i_1 ≥ (((stacks_1).length : Nat) : Int))))] [] 0) ?_ ?_
  · rcases Bool.eq_false_or_eq_true (decide (i_1 < (-1 : Int))) with gg_2 | gg_2
    · refine aw_region [(3, { g := false }), (4, { g := false }), (5, { g := false }), (6, { g := false }), (7, { b := true })] [0, 1, 2, 14] [] 1 (vcs := [(decide (i_1 < (-1 : Int))) = !false, (decide (i_1 < (-1 : Int))) = !false, (decide (i_1 < (-1 : Int))) = !false, (decide (i_1 < (-1 : Int))) = !false, (decide (i_1 < (-1 : Int))) = true]) (vals := [.sl false 1 (List.map AV.str names_1), .sl false 2 (List.map e_Arr2_Int stacks_1), .int .i64 i_1, .bool true]) (bxs := []) (by kernel_rfl) hmix ⟨gg_2, gg_2, gg_2, gg_2, gg_2, trivial⟩ ?_
      exact ⟨rfl, (sub_wk [] [] [(0, .sl false 1 (List.map AV.str names_1)), (1, .sl false 2 (List.map e_Arr2_Int stacks_1)), (2, .int .i64 i_1), (14, .bool (decide (i_1 < (-1 : Int)) || decide (i_1 ≥ (((stacks_1).length : Nat) : Int))))] [] (vcs := [(1 = 1 : Prop), (((List.map AV.str names_1) : List AV) = (List.map AV.str names_1) : Prop), ((!false || false) = true : Prop), (2 = 2 : Prop), (((List.map e_Arr2_Int stacks_1) : List AV) = (List.map e_Arr2_Int stacks_1) : Prop), ((!false || false) = true : Prop), ((.int .i64 i_1 : AV) = .int .i64 i_1 : Prop), ((.bool true : AV) = .bool (decide (i_1 < (-1 : Int)) || decide (i_1 ≥ (((stacks_1).length : Nat) : Int))) : Prop)]) (by kernel_rfl) ⟨rfl, rfl, rfl, rfl, rfl, rfl, rfl, (congrArg AV.bool (ort gg_2)), trivial⟩)⟩
    · refine aw_region [(5, { n := (stacks_1).length }), (7, { b := false })] [0, 1, 2, 14] [] 1 (vcs := [(decide (i_1 < (-1 : Int))) = false, (decide (i_1 < (-1 : Int))) = false, (decide (i_1 < (-1 : Int))) = false, ((List.map e_Arr2_Int stacks_1)).length = (stacks_1).length, (decide (i_1 < (-1 : Int))) = false, (decide (i_1 < (-1 : Int))) = false]) (vals := [.sl false 1 (List.map AV.str names_1), .sl false 2 (List.map e_Arr2_Int stacks_1), .int .i64 i_1, .bool (decide (i_1 ≥ (((stacks_1).length : Nat) : Int)))]) (bxs := []) (by kernel_rfl) hmix ⟨gg_2, gg_2, gg_2, (vc_len _), gg_2, gg_2, trivial⟩ ?_
      exact ⟨rfl, (sub_wk [] [] [(0, .sl false 1 (List.map AV.str names_1)), (1, .sl false 2 (List.map e_Arr2_Int stacks_1)), (2, .int .i64 i_1), (14, .bool (decide (i_1 < (-1 : Int)) || decide (i_1 ≥ (((stacks_1).length : Nat) : Int))))] [] (vcs := [(1 = 1 : Prop), (((List.map AV.str names_1) : List AV) = (List.map AV.str names_1) : Prop), ((!false || false) = true : Prop), (2 = 2 : Prop), (((List.map e_Arr2_Int stacks_1) : List AV) = (List.map e_Arr2_Int stacks_1) : Prop), ((!false || false) = true : Prop), ((.int .i64 i_1 : AV) = .int .i64 i_1 : Prop), ((.bool (decide (i_1 ≥ (((stacks_1).length : Nat) : Int))) : AV) = .bool (decide (i_1 < (-1 : Int)) || decide (i_1 ≥ (((stacks_1).length : Nat) : Int))) : Prop)]) (by kernel_rfl) ⟨rfl, rfl, rfl, rfl, rfl, rfl, rfl, (congrArg AV.bool (orf gg_2 rfl)), trivial⟩)⟩
  refine aw_cond (t := 14) (b := (decide (i_1 < (-1 : Int)) || decide (i_1 ≥ (((stacks_1).length : Nat) : Int)))) (by kernel_rfl) (by kernel_rfl) ?_ ?_
  · intro g_2; replace h := cond_t g_2 h
    refine aw_seq (by kernel_rfl) ?_
    refine aw_region [(0, { id := 0, m := 1 })] [6, 7] [0] 1 (vcs := []) (vals := [.own 0 0, .int .i64 (2 : Int)]) (bxs := [.live (.row 9 1 [])]) (by kernel_rfl) hmix trivial ?_
    refine aw_sub (sub_wk [0] [] [(6, .own 0 ((([] : List (List Int))).length)), (7, .int .i64 (2 : Int))] [(0, .live (.row 9 1 []))] (vcs := [((.own 0 0 : AV) = .own 0 ((([] : List (List Int))).length) : Prop), ((.int .i64 (2 : Int) : AV) = .int .i64 (2 : Int) : Prop), (9 = 9 : Prop), (1 = 1 : Prop), (([] : List AV) = [] : Prop)]) (by kernel_rfl) ⟨(congrArg (AV.own _) (by first | (simp; done) | (simp; omega))), rfl, rfl, rfl, rfl, trivial⟩) ?_
    refine aw_ret (by kernel_rfl) ?_
    replace h := Option.some.inj h; subst h
    exact ⟨.inr rfl, Nat.le_of_ble_eq_true rfl, by kernel_rfl⟩
  intro g_2; replace h := cond_f g_2 h
  refine aw_skip (by kernel_rfl) ?_
  refine aw_seq (by kernel_rfl) ?_
  refine aw_region [(0, { id := 0, m := 1 })] [0, 1, 2, 8] [0] 1 (vcs := []) (vals := [.sl false 1 (List.map AV.str names_1), .sl false 2 (List.map e_Arr2_Int stacks_1), .int .i64 i_1, .own 0 0]) (bxs := [.live (.row 9 1 [])]) (by kernel_rfl) hmix trivial ?_
  refine aw_seq (by kernel_rfl) ?_
  obtain ⟨o_1, h_2, h⟩ := bind_some h
  refine aw_mid (mk [(8, .own 0 ((o_1).length))] [(0, .live (.row 9 1 (List.map AV.str o_1)))] 1) ?_ ?_
  · replace h := h_2
    refine aw_block (id := 1) (by kernel_rfl) ?_
    refine aw_sub (sub_wk [0] [] [(0, .sl false 1 (List.map AV.str names_1)), (1, .sl false 2 (List.map e_Arr2_Int stacks_1)), (2, .int .i64 i_1), (8, .own 0 0)] [(0, .live (.row 9 1 []))] (vcs := [(1 = 1 : Prop), (((List.map AV.str names_1) : List AV) = (List.map AV.str names_1) : Prop), ((!false || false) = true : Prop), (2 = 2 : Prop), (((List.map e_Arr2_Int stacks_1) : List AV) = (List.map e_Arr2_Int stacks_1) : Prop), ((!false || false) = true : Prop), ((.int .i64 i_1 : AV) = .int .i64 i_1 : Prop), ((.own 0 0 : AV) = .own 0 0 : Prop), (9 = 9 : Prop), (1 = 1 : Prop), (([] : List AV) = [] : Prop)]) (by kernel_rfl) ⟨rfl, rfl, rfl, rfl, rfl, rfl, rfl, rfl, rfl, rfl, rfl, trivial⟩) ?_
    refine aw_loopF (fun n st => ∃ (i_2 : Int), ∃ (row_1 : List (List Int)), st = mk [(0, .sl false 1 (List.map AV.str names_1)), (1, .sl false 2 (List.map e_Arr2_Int stacks_1)), (2, .int .i64 i_2), (8, .own 0 ((row_1).length))] [(0, .live (.row 9 1 (List.map AV.str row_1)))] 1 ∧ intern_Stack_L1 F names_1 stacks_1 n i_2 row_1 = some o_1) F (by kernel_rfl) ⟨_, _, rfl, h⟩ ?_ ?_
    · rintro _ ⟨_, _, _, h⟩; exact none_ne (h : (none : Option (List (List Int))) = some o_1)
    rintro n_1 _ ⟨i_2, row_1, rfl, h⟩
    replace h : intern_Stack_L1_body F names_1 stacks_1 (intern_Stack_L1 F names_1 stacks_1 n_1) i_2 row_1 = some o_1 := h
    unfold intern_Stack_L1_body at h
    refine aw_seq (by kernel_rfl) ?_
    refine aw_seq (by kernel_rfl) ?_
    refine aw_region [] [0, 1, 2, 8, 24] [0] 1 (vcs := []) (vals := [.sl false 1 (List.map AV.str names_1), .sl false 2 (List.map e_Arr2_Int stacks_1), .int .i64 i_2, .own 0 ((row_1).length), .bool (i_2 != (-1 : Int))]) (bxs := [.live (.row 9 1 (List.map AV.str row_1))]) (by kernel_rfl) hmix trivial ?_
    refine aw_cond (t := 24) (b := (i_2 != (-1 : Int))) (by kernel_rfl) (by kernel_rfl) ?_ ?_
    rotate_left
    · intro g_3; replace h := cond_f g_3 h
      refine aw_exit (id := 1) (by kernel_rfl) ?_
      replace h := Option.some.inj h; subst h
      exact ⟨rfl, (sub_wk [0] [] [(8, .own 0 ((row_1).length))] [(0, .live (.row 9 1 (List.map AV.str row_1)))] (vcs := [((.own 0 ((row_1).length) : AV) = .own 0 ((row_1).length) : Prop), (9 = 9 : Prop), (1 = 1 : Prop), (((List.map AV.str row_1) : List AV) = (List.map AV.str row_1) : Prop)]) (by kernel_rfl) ⟨rfl, rfl, rfl, rfl, trivial⟩)⟩
    intro g_3; replace h := cond_t g_3 h
    refine aw_skip (by kernel_rfl) ?_
    refine aw_seq (by kernel_rfl) ?_
    refine aw_block (id := 2) (by kernel_rfl) ?_
    obtain ⟨x_1, h_3, h⟩ := bind_some h
    obtain ⟨x_2, h_4, h⟩ := bind_some h
    obtain ⟨_, h_5, h⟩ := bind_some h; replace h_5 := need_some h_5
    refine aw_region [(4, { av := .agg [.int .i64 x_1.c0, .int .i64 x_1.c1] }), (7, { av := .str x_2 }), (9, { id := 1 }), (10, { id := 2, l := (List.map AV.str (row_1 ++ ([x_2] : List (List Int)))), n := ((row_1 ++ ([x_2] : List (List Int)))).length })] [0, 1, 2, 8] [2] 3 (vcs := [idxA (List.map e_Arr2_Int stacks_1) i_2 = some (.agg [.int .i64 x_1.c0, .int .i64 x_1.c1]), (0 : Int) ≤ (1 : Int), (1 : Int) < ((2 : Nat) : Int), idxA (List.map AV.str names_1) x_1.c1 = some (.str x_2), (row_1).length = ((List.map AV.str row_1)).length, 1 = ((List.map AV.str ([x_2] : List (List Int)))).length, (List.map AV.str (row_1 ++ ([x_2] : List (List Int)))) = (List.map AV.str row_1) ++ (List.map AV.str ([x_2] : List (List Int))), ((row_1 ++ ([x_2] : List (List Int)))).length = ((List.map AV.str (row_1 ++ ([x_2] : List (List Int))))).length, (((List.map AV.str row_1) : List AV).length + ((List.map AV.str ([x_2] : List (List Int))) : List AV).length) * 16 ≤ 140737488355328]) (vals := [.sl false 1 (List.map AV.str names_1), .sl false 2 (List.map e_Arr2_Int stacks_1), .int .i64 i_2, .own 2 (((row_1 ++ ([x_2] : List (List Int)))).length)]) (bxs := [.live (.row 9 1 (List.map AV.str (row_1 ++ ([x_2] : List (List Int)))))]) (by kernel_rfl) hmix ⟨(vc_idx h_3), (by decide), (by decide), (vc_idx h_4), (by first | (simp; done) | (simp; omega)), (by first | (simp; done) | (simp; omega)), (vc_app _ _), (by simp), (by simpa using h_5), trivial⟩ ?_
    obtain ⟨x_3, h_6, h⟩ := bind_some h
    refine aw_region [(2, { av := .agg [.int .i64 x_3.c0, .int .i64 x_3.c1] })] [0, 1, 2, 8] [2] 3 (vcs := [idxA (List.map e_Arr2_Int stacks_1) i_2 = some (.agg [.int .i64 x_3.c0, .int .i64 x_3.c1]), (0 : Int) ≤ (0 : Int), (0 : Int) < ((2 : Nat) : Int)]) (vals := [.sl false 1 (List.map AV.str names_1), .sl false 2 (List.map e_Arr2_Int stacks_1), .int .i64 x_3.c0, .own 2 (((row_1 ++ ([x_2] : List (List Int)))).length)]) (bxs := [.live (.row 9 1 (List.map AV.str (row_1 ++ ([x_2] : List (List Int)))))]) (by kernel_rfl) hmix ⟨(vc_idx h_6), (by decide), (by decide), trivial⟩ ?_
    exact ⟨_, (sub_wk [2] [] [(0, .sl false 1 (List.map AV.str names_1)), (1, .sl false 2 (List.map e_Arr2_Int stacks_1)), (2, .int .i64 x_3.c0), (8, .own 0 (((row_1 ++ ([x_2] : List (List Int)))).length))] [(0, .live (.row 9 1 (List.map AV.str (row_1 ++ ([x_2] : List (List Int))))))] (vcs := [(1 = 1 : Prop), (((List.map AV.str names_1) : List AV) = (List.map AV.str names_1) : Prop), ((!false || false) = true : Prop), (2 = 2 : Prop), (((List.map e_Arr2_Int stacks_1) : List AV) = (List.map e_Arr2_Int stacks_1) : Prop), ((!false || false) = true : Prop), ((.int .i64 x_3.c0 : AV) = .int .i64 x_3.c0 : Prop), ((.own 2 (((row_1 ++ ([x_2] : List (List Int)))).length) : AV) = .own 2 (((row_1 ++ ([x_2] : List (List Int)))).length) : Prop), (9 = 9 : Prop), (1 = 1 : Prop), (((List.map AV.str (row_1 ++ ([x_2] : List (List Int)))) : List AV) = (List.map AV.str (row_1 ++ ([x_2] : List (List Int)))) : Prop)]) (by kernel_rfl) ⟨rfl, rfl, rfl, rfl, rfl, rfl, rfl, rfl, rfl, rfl, rfl, trivial⟩), _, _, rfl, h⟩
  refine aw_seq (by kernel_rfl) ?_
  obtain ⟨r_2, h_7, h⟩ := bind_some h
  obtain ⟨_, h_8, h⟩ := bind_some h; replace h_8 := need_some h_8
  refine aw_region [(1, { av := .tuple [], ids := [0], l := [.own 0 ((o_1).length)], post := [(.row 9 1 (List.map AV.str r_2))], pre := [(.row 9 1 (List.map AV.str o_1))] })] [8] [0] 1 (vcs := [([.own 0 ((o_1).length)] : List AV) = [.own 0 ((o_1).length)], ([.live (.row 9 1 (List.map AV.str o_1))] : List BoxSt) = [.live (.row 9 1 (List.map AV.str o_1))], Triple prog 27 [(.row 9 1 (List.map AV.str o_1))] [.own 0 ((o_1).length)] [(.row 9 1 (List.map AV.str r_2))] (.tuple [])]) (vals := [.own 0 ((o_1).length)]) (bxs := [.live (.row 9 1 (List.map AV.str r_2))]) (by kernel_rfl) hmix ⟨rfl, rfl, (slices_Reverse_string_string_ok F o_1 r_2 h_7), trivial⟩ ?_
  refine aw_seq (by kernel_rfl) ?_
  refine aw_region [] [6, 7] [0] 1 (vcs := []) (vals := [.own 0 ((o_1).length), .int .i64 (0 : Int)]) (bxs := [.live (.row 9 1 (List.map AV.str r_2))]) (by kernel_rfl) hmix trivial ?_
  refine aw_sub (sub_wk [0] [] [(6, .own 0 ((r_2).length)), (7, .int .i64 (0 : Int))] [(0, .live (.row 9 1 (List.map AV.str r_2)))] (vcs := [((.own 0 ((o_1).length) : AV) = .own 0 ((r_2).length) : Prop), ((.int .i64 (0 : Int) : AV) = .int .i64 (0 : Int) : Prop), (9 = 9 : Prop), (1 = 1 : Prop), (((List.map AV.str r_2) : List AV) = (List.map AV.str r_2) : Prop)]) (by kernel_rfl) ⟨(congrArg (AV.own _) h_8.symm), rfl, rfl, rfl, rfl, trivial⟩) ?_
  refine aw_ret (by kernel_rfl) ?_
  replace h := Option.some.inj h; subst h
  exact ⟨.inr rfl, Nat.le_of_ble_eq_true rfl, by kernel_rfl⟩

theorem R06_SameStacks_ok (F : Nat) (a_1 : List (Arr2_Int)) (b_1 : List (Arr2_Int)) (r : Bool) (h : R06_SameStacks F a_1 b_1 = some r) : Triple prog 23 [] [.sl false 2 (List.map e_Arr2_Int a_1), .sl false 2 (List.map e_Arr2_Int b_1)] [] (.bool r) := by
  refine triple_intro (fn := Go.Proofs.Try.f23) (code := codeOf Go.Proofs.Try.f23) (by kernel_rfl) (by kernel_rfl) (Nat.le_of_ble_eq_true (by kernel_rfl)) ?_
  unfold R06_SameStacks at h
  refine aw_seq (by kernel_rfl) ?_
  refine aw_region [] [0, 1] [] 0 (vcs := []) (vals := [.sl false 2 (List.map e_Arr2_Int a_1), .sl false 2 (List.map e_Arr2_Int b_1)]) (bxs := []) (by kernel_rfl) hmix trivial ?_
  refine aw_seq (by kernel_rfl) ?_
  refine aw_seq (by kernel_rfl) ?_
  refine aw_region [(1, { n := (a_1).length }), (3, { n := (b_1).length })] [0, 1, 10] [] 0 (vcs := [((List.map e_Arr2_Int a_1)).length = (a_1).length, ((List.map e_Arr2_Int b_1)).length = (b_1).length]) (vals := [.sl false 2 (List.map e_Arr2_Int a_1), .sl false 2 (List.map e_Arr2_Int b_1), .bool ((((a_1).length : Nat) : Int) != (((b_1).length : Nat) : Int))]) (bxs := []) (by kernel_rfl) hmix ⟨(vc_len _), (vc_len _), trivial⟩ ?_
  refine aw_cond (t := 10) (b := ((((a_1).length : Nat) : Int) != (((b_1).length : Nat) : Int))) (by kernel_rfl) (by kernel_rfl) ?_ ?_
  · intro g_1; replace h := cond_t g_1 h
    refine aw_seq (by kernel_rfl) ?_
    refine aw_region [] [4] [] 0 (vcs := []) (vals := [.bool false]) (bxs := []) (by kernel_rfl) hmix trivial ?_
    refine aw_ret (by kernel_rfl) ?_
    replace h := Option.some.inj h; subst h
    exact ⟨.inr rfl, Nat.le_of_ble_eq_true rfl, by kernel_rfl⟩
  intro g_1; replace h := cond_f g_1 h
  refine aw_skip (by kernel_rfl) ?_
  refine aw_seq (by kernel_rfl) ?_
  refine aw_seq (by kernel_rfl) ?_
  refine aw_region [] [0, 1, 5] [] 0 (vcs := []) (vals := [.sl false 2 (List.map e_Arr2_Int a_1), .sl false 2 (List.map e_Arr2_Int b_1), .int .i64 (0 : Int)]) (bxs := []) (by kernel_rfl) hmix trivial ?_
  obtain ⟨o_1, h_1, h⟩ := bind_some h
  refine aw_conv (K1 := (fun e st' => match o_1 with | (.inl q0) => e = .normal ∧ Sub 0 st' (mk [] [] 0) | (.inr q1) => e = .ret ∧ FinR prog Go.Proofs.Try.f23 0 [] (.bool q1) st')) ?_ ?_
  · replace h := h_1
    refine aw_block (id := 0) (by kernel_rfl) ?_
    refine aw_sub (sub_wk [] [] [(0, .sl false 2 (List.map e_Arr2_Int a_1)), (1, .sl false 2 (List.map e_Arr2_Int b_1)), (5, .int .i64 (0 : Int))] [] (vcs := [(2 = 2 : Prop), (((List.map e_Arr2_Int a_1) : List AV) = (List.map e_Arr2_Int a_1) : Prop), ((!false || false) = true : Prop), (2 = 2 : Prop), (((List.map e_Arr2_Int b_1) : List AV) = (List.map e_Arr2_Int b_1) : Prop), ((!false || false) = true : Prop), ((.int .i64 (0 : Int) : AV) = .int .i64 (0 : Int) : Prop)]) (by kernel_rfl) ⟨rfl, rfl, rfl, rfl, rfl, rfl, rfl, trivial⟩) ?_
    refine aw_loopF (fun n st => ∃ (i_1 : Int), st = mk [(0, .sl false 2 (List.map e_Arr2_Int a_1)), (1, .sl false 2 (List.map e_Arr2_Int b_1)), (5, .int .i64 i_1)] [] 0 ∧ R06_SameStacks_L1 F a_1 b_1 n i_1 = some o_1) F (by kernel_rfl) ⟨_, rfl, h⟩ ?_ ?_
    · rintro _ ⟨_, _, h⟩; exact none_ne (h : (none : Option (Unit ⊕ Bool)) = some o_1)
    rintro n_1 _ ⟨i_1, rfl, h⟩
    replace h : R06_SameStacks_L1_body F a_1 b_1 (R06_SameStacks_L1 F a_1 b_1 n_1) i_1 = some o_1 := h
    unfold R06_SameStacks_L1_body at h
    refine aw_seq (by kernel_rfl) ?_
    refine aw_seq (by kernel_rfl) ?_
    refine aw_region [(2, { n := (a_1).length })] [0, 1, 5, 14] [] 0 (vcs := [((List.map e_Arr2_Int a_1)).length = (a_1).length]) (vals := [.sl false 2 (List.map e_Arr2_Int a_1), .sl false 2 (List.map e_Arr2_Int b_1), .int .i64 i_1, .bool (decide (i_1 < (((a_1).length : Nat) : Int)))]) (bxs := []) (by kernel_rfl) hmix ⟨(vc_len _), trivial⟩ ?_
    refine aw_cond (t := 14) (b := (decide (i_1 < (((a_1).length : Nat) : Int)))) (by kernel_rfl) (by kernel_rfl) ?_ ?_
    rotate_left
    · intro g_2; replace h := cond_f g_2 h
      refine aw_exit (id := 0) (by kernel_rfl) ?_
      replace h := Option.some.inj h; subst h
      exact ⟨rfl, (sub_wk [] [] [] [] (vcs := []) (by kernel_rfl) trivial)⟩
    intro g_2; replace h := cond_t g_2 h
    refine aw_skip (by kernel_rfl) ?_
    refine aw_seq (by kernel_rfl) ?_
    refine aw_block (id := 1) (by kernel_rfl) ?_
    refine aw_seq (by kernel_rfl) ?_
    obtain ⟨x_1, h_2, h⟩ := bind_some h
    obtain ⟨x_2, h_3, h⟩ := bind_some h
    refine aw_region [(2, { av := .agg [.int .i64 x_1.c0, .int .i64 x_1.c1] }), (6, { av := .agg [.int .i64 x_2.c0, .int .i64 x_2.c1] }), (8, { b := (decide (x_1 = x_2)), mks := [.int .i64, .int .i64] })] [0, 1, 5, 25] [] 0 (vcs := [idxA (List.map e_Arr2_Int a_1) i_1 = some (.agg [.int .i64 x_1.c0, .int .i64 x_1.c1]), idxA (List.map e_Arr2_Int b_1) i_1 = some (.agg [.int .i64 x_2.c0, .int .i64 x_2.c1]), EqOk prog 46 [.int .i64, .int .i64], ((decide (x_1 = x_2)) = true ↔ AV.agg [.int .i64 x_1.c0, .int .i64 x_1.c1] = AV.agg [.int .i64 x_2.c0, .int .i64 x_2.c1])]) (vals := [.sl false 2 (List.map e_Arr2_Int a_1), .sl false 2 (List.map e_Arr2_Int b_1), .int .i64 i_1, .bool (!(decide (x_1 = x_2)))]) (bxs := []) (by kernel_rfl) hmix ⟨(vc_idx h_2), (vc_idx h_3), eqOk_46, (vc_eqA (f := e_Arr2_Int) inj_Arr2_Int x_1 x_2), trivial⟩ ?_
    refine aw_cond (t := 25) (b := (!(decide (x_1 = x_2)))) (by kernel_rfl) (by kernel_rfl) ?_ ?_
    rotate_left
    · intro g_3; replace h := cond_f g_3 h
      refine aw_skip (by kernel_rfl) ?_
      refine aw_region [] [0, 1, 5] [] 0 (vcs := []) (vals := [.sl false 2 (List.map e_Arr2_Int a_1), .sl false 2 (List.map e_Arr2_Int b_1), .int .i64 (w_i64 (i_1 + (1 : Int)))]) (bxs := []) (by kernel_rfl) hmix trivial ?_
      exact ⟨_, (sub_wk [] [] [(0, .sl false 2 (List.map e_Arr2_Int a_1)), (1, .sl false 2 (List.map e_Arr2_Int b_1)), (5, .int .i64 (w_i64 (i_1 + (1 : Int))))] [] (vcs := [(2 = 2 : Prop), (((List.map e_Arr2_Int a_1) : List AV) = (List.map e_Arr2_Int a_1) : Prop), ((!false || false) = true : Prop), (2 = 2 : Prop), (((List.map e_Arr2_Int b_1) : List AV) = (List.map e_Arr2_Int b_1) : Prop), ((!false || false) = true : Prop), ((.int .i64 (w_i64 (i_1 + (1 : Int))) : AV) = .int .i64 (w_i64 (i_1 + (1 : Int))) : Prop)]) (by kernel_rfl) ⟨rfl, rfl, rfl, rfl, rfl, rfl, rfl, trivial⟩), _, rfl, h⟩
    intro g_3; replace h := cond_t g_3 h
    refine aw_seq (by kernel_rfl) ?_
    refine aw_region [] [4] [] 0 (vcs := []) (vals := [.bool false]) (bxs := []) (by kernel_rfl) hmix trivial ?_
    refine aw_ret (by kernel_rfl) ?_
    replace h := Option.some.inj h; subst h
    exact ⟨rfl, Nat.le_of_ble_eq_true rfl, by kernel_rfl⟩
  intro e st1 hk
  rcases o_1 with q_1 | q_2
  rotate_left
  · obtain ⟨rfl, hf⟩ := hk
    replace h := Option.some.inj h; subst h
    exact ⟨st1, Sub.refl _ _, .inr rfl, hf⟩
  obtain ⟨rfl, hs⟩ := hk
  refine ⟨_, hs, ?_⟩
  refine aw_seq (by kernel_rfl) ?_
  refine aw_region [] [4] [] 0 (vcs := []) (vals := [.bool true]) (bxs := []) (by kernel_rfl) hmix trivial ?_
  refine aw_ret (by kernel_rfl) ?_
  replace h := Option.some.inj h; subst h
  exact ⟨.inr rfl, Nat.le_of_ble_eq_true rfl, by kernel_rfl⟩

theorem R06_SameNames_ok (F : Nat) (a_1 : List (List Int)) (b_1 : List (List Int)) (r : Bool) (h : R06_SameNames F a_1 b_1 = some r) : Triple prog 18 [] [.sl false 1 (List.map AV.str a_1), .sl false 1 (List.map AV.str b_1)] [] (.bool r) := by
  refine triple_intro (fn := Go.Proofs.Try.f18) (code := codeOf Go.Proofs.Try.f18) (by kernel_rfl) (by kernel_rfl) (Nat.le_of_ble_eq_true (by kernel_rfl)) ?_
  unfold R06_SameNames at h
  refine aw_seq (by kernel_rfl) ?_
  refine aw_region [] [0, 1] [] 0 (vcs := []) (vals := [.sl false 1 (List.map AV.str a_1), .sl false 1 (List.map AV.str b_1)]) (bxs := []) (by kernel_rfl) hmix trivial ?_
  refine aw_seq (by kernel_rfl) ?_
  refine aw_seq (by kernel_rfl) ?_
  refine aw_region [(1, { n := (a_1).length }), (3, { n := (b_1).length })] [0, 1, 10] [] 0 (vcs := [((List.map AV.str a_1)).length = (a_1).length, ((List.map AV.str b_1)).length = (b_1).length]) (vals := [.sl false 1 (List.map AV.str a_1), .sl false 1 (List.map AV.str b_1), .bool ((((a_1).length : Nat) : Int) != (((b_1).length : Nat) : Int))]) (bxs := []) (by kernel_rfl) hmix ⟨(vc_len _), (vc_len _), trivial⟩ ?_
  refine aw_cond (t := 10) (b := ((((a_1).length : Nat) : Int) != (((b_1).length : Nat) : Int))) (by kernel_rfl) (by kernel_rfl) ?_ ?_
  · intro g_1; replace h := cond_t g_1 h
    refine aw_seq (by kernel_rfl) ?_
    refine aw_region [] [4] [] 0 (vcs := []) (vals := [.bool false]) (bxs := []) (by kernel_rfl) hmix trivial ?_
    refine aw_ret (by kernel_rfl) ?_
    replace h := Option.some.inj h; subst h
    exact ⟨.inr rfl, Nat.le_of_ble_eq_true rfl, by kernel_rfl⟩
  intro g_1; replace h := cond_f g_1 h
  refine aw_skip (by kernel_rfl) ?_
  refine aw_seq (by kernel_rfl) ?_
  refine aw_seq (by kernel_rfl) ?_
  refine aw_region [] [0, 1, 5] [] 0 (vcs := []) (vals := [.sl false 1 (List.map AV.str a_1), .sl false 1 (List.map AV.str b_1), .int .i64 (0 : Int)]) (bxs := []) (by kernel_rfl) hmix trivial ?_
  obtain ⟨o_1, h_1, h⟩ := bind_some h
  refine aw_conv (K1 := (fun e st' => match o_1 with | (.inl q0) => e = .normal ∧ Sub 0 st' (mk [] [] 0) | (.inr q1) => e = .ret ∧ FinR prog Go.Proofs.Try.f18 0 [] (.bool q1) st')) ?_ ?_
  · replace h := h_1
    refine aw_block (id := 0) (by kernel_rfl) ?_
    refine aw_sub (sub_wk [] [] [(0, .sl false 1 (List.map AV.str a_1)), (1, .sl false 1 (List.map AV.str b_1)), (5, .int .i64 (0 : Int))] [] (vcs := [(1 = 1 : Prop), (((List.map AV.str a_1) : List AV) = (List.map AV.str a_1) : Prop), ((!false || false) = true : Prop), (1 = 1 : Prop), (((List.map AV.str b_1) : List AV) = (List.map AV.str b_1) : Prop), ((!false || false) = true : Prop), ((.int .i64 (0 : Int) : AV) = .int .i64 (0 : Int) : Prop)]) (by kernel_rfl) ⟨rfl, rfl, rfl, rfl, rfl, rfl, rfl, trivial⟩) ?_
    refine aw_loopF (fun n st => ∃ (i_1 : Int), st = mk [(0, .sl false 1 (List.map AV.str a_1)), (1, .sl false 1 (List.map AV.str b_1)), (5, .int .i64 i_1)] [] 0 ∧ R06_SameNames_L1 F a_1 b_1 n i_1 = some o_1) F (by kernel_rfl) ⟨_, rfl, h⟩ ?_ ?_
    · rintro _ ⟨_, _, h⟩; exact none_ne (h : (none : Option (Unit ⊕ Bool)) = some o_1)
    rintro n_1 _ ⟨i_1, rfl, h⟩
    replace h : R06_SameNames_L1_body F a_1 b_1 (R06_SameNames_L1 F a_1 b_1 n_1) i_1 = some o_1 := h
    unfold R06_SameNames_L1_body at h
    refine aw_seq (by kernel_rfl) ?_
    refine aw_seq (by kernel_rfl) ?_
    refine aw_region [(2, { n := (a_1).length })] [0, 1, 5, 14] [] 0 (vcs := [((List.map AV.str a_1)).length = (a_1).length]) (vals := [.sl false 1 (List.map AV.str a_1), .sl false 1 (List.map AV.str b_1), .int .i64 i_1, .bool (decide (i_1 < (((a_1).length : Nat) : Int)))]) (bxs := []) (by kernel_rfl) hmix ⟨(vc_len _), trivial⟩ ?_
    refine aw_cond (t := 14) (b := (decide (i_1 < (((a_1).length : Nat) : Int)))) (by kernel_rfl) (by kernel_rfl) ?_ ?_
    rotate_left
    · intro g_2; replace h := cond_f g_2 h
      refine aw_exit (id := 0) (by kernel_rfl) ?_
      replace h := Option.some.inj h; subst h
      exact ⟨rfl, (sub_wk [] [] [] [] (vcs := []) (by kernel_rfl) trivial)⟩
    intro g_2; replace h := cond_t g_2 h
    refine aw_skip (by kernel_rfl) ?_
    refine aw_seq (by kernel_rfl) ?_
    refine aw_block (id := 1) (by kernel_rfl) ?_
    refine aw_seq (by kernel_rfl) ?_
    obtain ⟨x_1, h_2, h⟩ := bind_some h
    obtain ⟨x_2, h_3, h⟩ := bind_some h
    refine aw_region [(2, { av := .str x_1 }), (6, { av := .str x_2 })] [0, 1, 5, 25] [] 0 (vcs := [idxA (List.map AV.str a_1) i_1 = some (.str x_1), idxA (List.map AV.str b_1) i_1 = some (.str x_2)]) (vals := [.sl false 1 (List.map AV.str a_1), .sl false 1 (List.map AV.str b_1), .int .i64 i_1, .bool (!(x_1 == x_2))]) (bxs := []) (by kernel_rfl) hmix ⟨(vc_idx h_2), (vc_idx h_3), trivial⟩ ?_
    refine aw_cond (t := 25) (b := (!(x_1 == x_2))) (by kernel_rfl) (by kernel_rfl) ?_ ?_
    rotate_left
    · intro g_3; replace h := cond_f g_3 h
      refine aw_skip (by kernel_rfl) ?_
      refine aw_region [] [0, 1, 5] [] 0 (vcs := []) (vals := [.sl false 1 (List.map AV.str a_1), .sl false 1 (List.map AV.str b_1), .int .i64 (w_i64 (i_1 + (1 : Int)))]) (bxs := []) (by kernel_rfl) hmix trivial ?_
      exact ⟨_, (sub_wk [] [] [(0, .sl false 1 (List.map AV.str a_1)), (1, .sl false 1 (List.map AV.str b_1)), (5, .int .i64 (w_i64 (i_1 + (1 : Int))))] [] (vcs := [(1 = 1 : Prop), (((List.map AV.str a_1) : List AV) = (List.map AV.str a_1) : Prop), ((!false || false) = true : Prop), (1 = 1 : Prop), (((List.map AV.str b_1) : List AV) = (List.map AV.str b_1) : Prop), ((!false || false) = true : Prop), ((.int .i64 (w_i64 (i_1 + (1 : Int))) : AV) = .int .i64 (w_i64 (i_1 + (1 : Int))) : Prop)]) (by kernel_rfl) ⟨rfl, rfl, rfl, rfl, rfl, rfl, rfl, trivial⟩), _, rfl, h⟩
    intro g_3; replace h := cond_t g_3 h
    refine aw_seq (by kernel_rfl) ?_
    refine aw_region [] [4] [] 0 (vcs := []) (vals := [.bool false]) (bxs := []) (by kernel_rfl) hmix trivial ?_
    refine aw_ret (by kernel_rfl) ?_
    replace h := Option.some.inj h; subst h
    exact ⟨rfl, Nat.le_of_ble_eq_true rfl, by kernel_rfl⟩
  intro e st1 hk
  rcases o_1 with q_1 | q_2
  rotate_left
  · obtain ⟨rfl, hf⟩ := hk
    replace h := Option.some.inj h; subst h
    exact ⟨st1, Sub.refl _ _, .inr rfl, hf⟩
  obtain ⟨rfl, hs⟩ := hk
  refine ⟨_, hs, ?_⟩
  refine aw_seq (by kernel_rfl) ?_
  refine aw_region [] [4] [] 0 (vcs := []) (vals := [.bool true]) (bxs := []) (by kernel_rfl) hmix trivial ?_
  refine aw_ret (by kernel_rfl) ?_
  replace h := Option.some.inj h; subst h
  exact ⟨.inr rfl, Nat.le_of_ble_eq_true rfl, by kernel_rfl⟩

end Go.Ab
