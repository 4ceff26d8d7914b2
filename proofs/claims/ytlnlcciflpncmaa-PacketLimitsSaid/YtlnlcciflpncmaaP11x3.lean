/- Printed: the typed Lean functions of the Go functions, or the proofs that the Go functions meet them. No conditions but those that the theorems name. -/
import Derived.Test.YtlnlcciflpncmaaP11x2
namespace Go.Ab
open Go
set_option linter.unusedVariables false
theorem R07_Same_ok (F : Nat) (a_1 : T_api_Event) (b_1 : T_api_Event) (r : Bool) (h : R07_Same F a_1 b_1 = some r) : TripleG prog 30 [] [] [e_T_api_Event a_1, e_T_api_Event b_1] [] (.bool r) := by
  refine triple_intro (fn := Go.Proofs.Try.f30) (code := codeOf Go.Proofs.Try.f30) (by kernel_rfl) (by kernel_rfl) (Nat.le_of_ble_eq_true (by kernel_rfl)) ?_
  unfold R07_Same at h
  refine sr [(0, { id := 0 }), (1, { id := 1 })] [2, 3] [0, 1] 2 [.ptr 0 0 0 0, .ptr 1 0 0 0] [Vb 33 (v_T_api_Event a_1), Vb 33 (v_T_api_Event b_1)] hmix an ?_
  refine sq ?_
  obtain ⟨p_1, h_2, h⟩ := bind_some h
  refine aw_mid (mk [(4, .bool p_1)] [] 0) ?_ ?_
  · replace h := h_2
    rcases Bool.eq_false_or_eq_true (a_1.At == b_1.At) with gg_1 | gg_1
    · replace h := cond_t gg_1 h
      rcases Bool.eq_false_or_eq_true (a_1.Kind == b_1.Kind) with gg_2 | gg_2
      · replace h := cond_t gg_2 h
        rcases Bool.eq_false_or_eq_true (a_1.Name == b_1.Name) with gg_3 | gg_3
        · replace h := cond_t gg_3 h
          rcases Bool.eq_false_or_eq_true (a_1.N == b_1.N) with gg_4 | gg_4
          · replace h := cond_t gg_4 h
            rcases Bool.eq_false_or_eq_true (a_1.M == b_1.M) with gg_5 | gg_5
            · replace h := cond_t gg_5 h
              obtain ⟨r_1, h_1, h⟩ := bind_some h
              refine rg [(11, Ht), (18, Ht), (25, Ht), (32, Ht), (38, { av := .bool r_1, l := [.sl false 1 (List.map AV.str a_1.Stack), .sl false 1 (List.map AV.str b_1.Stack)] }), (39, Ht)] [4] [] 2 [.bool r_1] [] hmix (ac gg_1 (ac gg_1 (ac gg_1 (ac gg_1 (ac gg_1 (ac gg_1 (ac gg_2 (ac gg_2 (ac gg_2 (ac gg_2 (ac gg_2 (ac gg_2 (ac gg_3 (ac gg_3 (ac gg_3 (ac gg_3 (ac gg_3 (ac gg_3 (ac gg_4 (ac gg_4 (ac gg_4 (ac gg_4 (ac gg_4 (ac gg_4 (ac gg_5 (ac gg_5 (ac gg_5 (ac gg_5 (ac gg_5 (ar ([.sl false 1 (List.map AV.str a_1.Stack), .sl false 1 (List.map AV.str b_1.Stack)] : List AV) (ac (rfl : ([] : List BoxSt) = []) (ac (R07_Texts_ok F a_1.Stack b_1.Stack r_1 h_1 : TripleG prog 50 [] [] [.sl false 1 (List.map AV.str a_1.Stack), .sl false 1 (List.map AV.str b_1.Stack)] [] (.bool r_1)) (ac gg_5 an))))))))))))))))))))))))))))))))) ?_
              replace h := Option.some.inj h; subst h
              exact ⟨rfl, (sw [] [] [.s 4] [] an)⟩
            · replace h := cond_f gg_5 h
              refine rg [(11, Ht), (18, Ht), (25, Ht), (32, Ht), (34, Hg), (35, Hg), (36, Hg), (37, Hg), (38, Hg), (39, Hf)] [4] [] 2 [.bool false] [] hmix (ac gg_1 (ac gg_1 (ac gg_1 (ac gg_1 (ac gg_1 (ac gg_1 (ac gg_2 (ac gg_2 (ac gg_2 (ac gg_2 (ac gg_2 (ac gg_2 (ac gg_3 (ac gg_3 (ac gg_3 (ac gg_3 (ac gg_3 (ac gg_3 (ac gg_4 (ac gg_4 (ac gg_4 (ac gg_4 (ac gg_4 (ac gg_4 (ac gg_5 (ac gg_5 (ac gg_5 (ac gg_5 (ac gg_5 (ac gg_5 an)))))))))))))))))))))))))))))) ?_
              replace h := Option.some.inj h; subst h
              exact ⟨rfl, (sw [] [] [.s 4] [] an)⟩
          · replace h := cond_f gg_4 h
            refine rg [(11, Ht), (18, Ht), (25, Ht), (27, Hg), (28, Hg), (29, Hg), (30, Hg), (31, Hg), (32, Hf), (34, Hg), (35, Hg), (36, Hg), (37, Hg), (38, Hg), (39, Hf)] [4] [] 2 [.bool false] [] hmix (ac gg_1 (ac gg_1 (ac gg_1 (ac gg_1 (ac gg_1 (ac gg_1 (ac gg_2 (ac gg_2 (ac gg_2 (ac gg_2 (ac gg_2 (ac gg_2 (ac gg_3 (ac gg_3 (ac gg_3 (ac gg_3 (ac gg_3 (ac gg_3 (ac gg_4 (ac gg_4 (ac gg_4 (ac gg_4 (ac gg_4 (ac gg_4 (ac (rfl : false = !true) (ac (rfl : false = !true) (ac (rfl : false = !true) (ac (rfl : false = !true) (ac (rfl : false = !true) (ar false an)))))))))))))))))))))))))))))) ?_
            replace h := Option.some.inj h; subst h
            exact ⟨rfl, (sw [] [] [.s 4] [] an)⟩
        · replace h := cond_f gg_3 h
          refine rg [(11, Ht), (18, Ht), (20, Hg), (21, Hg), (22, Hg), (23, Hg), (24, Hg), (25, Hf), (27, Hg), (28, Hg), (29, Hg), (30, Hg), (31, Hg), (32, Hf), (34, Hg), (35, Hg), (36, Hg), (37, Hg), (38, Hg), (39, Hf)] [4] [] 2 [.bool false] [] hmix (ac gg_1 (ac gg_1 (ac gg_1 (ac gg_1 (ac gg_1 (ac gg_1 (ac gg_2 (ac gg_2 (ac gg_2 (ac gg_2 (ac gg_2 (ac gg_2 (ac gg_3 (ac gg_3 (ac gg_3 (ac gg_3 (ac gg_3 (ac gg_3 (ac (rfl : false = !true) (ac (rfl : false = !true) (ac (rfl : false = !true) (ac (rfl : false = !true) (ac (rfl : false = !true) (ar false (ac (rfl : false = !true) (ac (rfl : false = !true) (ac (rfl : false = !true) (ac (rfl : false = !true) (ac (rfl : false = !true) (ar false an)))))))))))))))))))))))))))))) ?_
          replace h := Option.some.inj h; subst h
          exact ⟨rfl, (sw [] [] [.s 4] [] an)⟩
      · replace h := cond_f gg_2 h
        refine rg [(11, Ht), (13, Hg), (14, Hg), (15, Hg), (16, Hg), (17, Hg), (18, Hf), (20, Hg), (21, Hg), (22, Hg), (23, Hg), (24, Hg), (25, Hf), (27, Hg), (28, Hg), (29, Hg), (30, Hg), (31, Hg), (32, Hf), (34, Hg), (35, Hg), (36, Hg), (37, Hg), (38, Hg), (39, Hf)] [4] [] 2 [.bool false] [] hmix (ac gg_1 (ac gg_1 (ac gg_1 (ac gg_1 (ac gg_1 (ac gg_1 (ac gg_2 (ac gg_2 (ac gg_2 (ac gg_2 (ac gg_2 (ac gg_2 (ac (rfl : false = !true) (ac (rfl : false = !true) (ac (rfl : false = !true) (ac (rfl : false = !true) (ac (rfl : false = !true) (ar false (ac (rfl : false = !true) (ac (rfl : false = !true) (ac (rfl : false = !true) (ac (rfl : false = !true) (ac (rfl : false = !true) (ar false (ac (rfl : false = !true) (ac (rfl : false = !true) (ac (rfl : false = !true) (ac (rfl : false = !true) (ac (rfl : false = !true) (ar false an)))))))))))))))))))))))))))))) ?_
        replace h := Option.some.inj h; subst h
        exact ⟨rfl, (sw [] [] [.s 4] [] an)⟩
    · replace h := cond_f gg_1 h
      refine rg [(6, Hg), (7, Hg), (8, Hg), (9, Hg), (10, Hg), (11, Hf), (13, Hg), (14, Hg), (15, Hg), (16, Hg), (17, Hg), (18, Hf), (20, Hg), (21, Hg), (22, Hg), (23, Hg), (24, Hg), (25, Hf), (27, Hg), (28, Hg), (29, Hg), (30, Hg), (31, Hg), (32, Hf), (34, Hg), (35, Hg), (36, Hg), (37, Hg), (38, Hg), (39, Hf)] [4] [] 2 [.bool false] [] hmix (ac gg_1 (ac gg_1 (ac gg_1 (ac gg_1 (ac gg_1 (ac gg_1 (ac (rfl : false = !true) (ac (rfl : false = !true) (ac (rfl : false = !true) (ac (rfl : false = !true) (ac (rfl : false = !true) (ar false (ac (rfl : false = !true) (ac (rfl : false = !true) (ac (rfl : false = !true) (ac (rfl : false = !true) (ac (rfl : false = !true) (ar false (ac (rfl : false = !true) (ac (rfl : false = !true) (ac (rfl : false = !true) (ac (rfl : false = !true) (ac (rfl : false = !true) (ar false (ac (rfl : false = !true) (ac (rfl : false = !true) (ac (rfl : false = !true) (ac (rfl : false = !true) (ac (rfl : false = !true) (ar false an)))))))))))))))))))))))))))))) ?_
      replace h := Option.some.inj h; subst h
      exact ⟨rfl, (sw [] [] [.s 4] [] an)⟩
  refine aw_ret (by kernel_rfl) ?_
  replace h := Option.some.inj h; subst h
  exact ⟨.inr rfl, Nat.le_of_ble_eq_true rfl, by kernel_rfl⟩

theorem R11_Same_ok (F : Nat) (a_1 : T_api_Packet) (b_1 : T_api_Packet) (r : Bool) (h : R11_Same F a_1 b_1 = some r) : TripleG prog 16 [] [] [e_T_api_Packet a_1, e_T_api_Packet b_1] [] (.bool r) := by
  refine triple_intro (fn := Go.Proofs.Try.f16) (code := codeOf Go.Proofs.Try.f16) (by kernel_rfl) (by kernel_rfl) (Nat.le_of_ble_eq_true (by kernel_rfl)) ?_
  unfold R11_Same at h
  refine sr [(0, { id := 0 }), (1, { id := 1 })] [2, 3] [0, 1] 2 [.ptr 0 0 0 0, .ptr 1 0 0 0] [Vb 24 (v_T_api_Packet a_1), Vb 24 (v_T_api_Packet b_1)] hmix an ?_
  refine sq ?_
  refine sq ?_
  refine aw_mid (mk [(2, .ptr 0 0 0 0), (3, .ptr 1 0 0 0), (33, .bool ((a_1.Thread != b_1.Thread) || ((a_1.Serial != b_1.Serial) || ((a_1.Lost != b_1.Lost) || ((((a_1.Events).length : Nat) : Int) != (((b_1.Events).length : Nat) : Int))))))] [(0, Vb 24 (v_T_api_Packet a_1)), (1, Vb 24 (v_T_api_Packet b_1))] 2) ?_ ?_
  · rcases Bool.eq_false_or_eq_true (a_1.Thread != b_1.Thread) with gg_1 | gg_1
    · refine rg [(6, Hg), (7, Hg), (8, Hg), (9, Hg), (10, Hg), (11, Ht), (13, Hg), (14, Hg), (15, Hg), (16, Hg), (17, Hg), (18, Ht), (20, Hg), (21, Hg), (22, Hg), (23, Hg), (24, Hg), (25, Hg), (26, Hg), (27, Ht)] [2, 3, 33] [0, 1] 2 [.ptr 0 0 0 0, .ptr 1 0 0 0, .bool true] [Vb 24 (v_T_api_Packet a_1), Vb 24 (v_T_api_Packet b_1)] hmix (ac gg_1 (ac gg_1 (ac gg_1 (ac gg_1 (ac gg_1 (ac gg_1 (ax (ax (ax (ax (ax (ar true (ax (ax (ax (ax (ax (ax (ax (ar true an)))))))))))))))))))) ?_
      exact ⟨rfl, (sw [0, 1] [] [.s 2, .s 3, .a 33 (.bool ((a_1.Thread != b_1.Thread) || ((a_1.Serial != b_1.Serial) || ((a_1.Lost != b_1.Lost) || ((((a_1.Events).length : Nat) : Int) != (((b_1.Events).length : Nat) : Int))))))] [.s 0, .s 1] (ac (congrArg AV.bool (ort gg_1) : (.bool true : AV) = .bool ((a_1.Thread != b_1.Thread) || ((a_1.Serial != b_1.Serial) || ((a_1.Lost != b_1.Lost) || ((((a_1.Events).length : Nat) : Int) != (((b_1.Events).length : Nat) : Int)))))) an))⟩
    · rcases Bool.eq_false_or_eq_true (a_1.Serial != b_1.Serial) with gg_2 | gg_2
      · refine rg [(11, Hf), (13, Hg), (14, Hg), (15, Hg), (16, Hg), (17, Hg), (18, Ht), (20, Hg), (21, Hg), (22, Hg), (23, Hg), (24, Hg), (25, Hg), (26, Hg), (27, Ht)] [2, 3, 33] [0, 1] 2 [.ptr 0 0 0 0, .ptr 1 0 0 0, .bool true] [Vb 24 (v_T_api_Packet a_1), Vb 24 (v_T_api_Packet b_1)] hmix (ac gg_1 (ac gg_1 (ac gg_1 (ac gg_1 (ac gg_1 (ac gg_1 (ac gg_2 (ac gg_2 (ac gg_2 (ac gg_2 (ac gg_2 (ac gg_2 (ax (ax (ax (ax (ax (ax (ax (ar true an)))))))))))))))))))) ?_
        exact ⟨rfl, (sw [0, 1] [] [.s 2, .s 3, .a 33 (.bool ((a_1.Thread != b_1.Thread) || ((a_1.Serial != b_1.Serial) || ((a_1.Lost != b_1.Lost) || ((((a_1.Events).length : Nat) : Int) != (((b_1.Events).length : Nat) : Int))))))] [.s 0, .s 1] (ac (congrArg AV.bool (orf gg_1 (ort gg_2)) : (.bool true : AV) = .bool ((a_1.Thread != b_1.Thread) || ((a_1.Serial != b_1.Serial) || ((a_1.Lost != b_1.Lost) || ((((a_1.Events).length : Nat) : Int) != (((b_1.Events).length : Nat) : Int)))))) an))⟩
      · rcases Bool.eq_false_or_eq_true (a_1.Lost != b_1.Lost) with gg_3 | gg_3
        · refine rg [(11, Hf), (18, Hf), (20, Hg), (21, Hg), (22, Hg), (23, Hg), (24, Hg), (25, Hg), (26, Hg), (27, Ht)] [2, 3, 33] [0, 1] 2 [.ptr 0 0 0 0, .ptr 1 0 0 0, .bool true] [Vb 24 (v_T_api_Packet a_1), Vb 24 (v_T_api_Packet b_1)] hmix (ac gg_1 (ac gg_1 (ac gg_1 (ac gg_1 (ac gg_1 (ac gg_1 (ac gg_2 (ac gg_2 (ac gg_2 (ac gg_2 (ac gg_2 (ac gg_2 (ac gg_3 (ac gg_3 (ac gg_3 (ac gg_3 (ac gg_3 (ac gg_3 (ac gg_3 (ac gg_3 an)))))))))))))))))))) ?_
          exact ⟨rfl, (sw [0, 1] [] [.s 2, .s 3, .a 33 (.bool ((a_1.Thread != b_1.Thread) || ((a_1.Serial != b_1.Serial) || ((a_1.Lost != b_1.Lost) || ((((a_1.Events).length : Nat) : Int) != (((b_1.Events).length : Nat) : Int))))))] [.s 0, .s 1] (ac (congrArg AV.bool (orf gg_1 (orf gg_2 (ort gg_3))) : (.bool true : AV) = .bool ((a_1.Thread != b_1.Thread) || ((a_1.Serial != b_1.Serial) || ((a_1.Lost != b_1.Lost) || ((((a_1.Events).length : Nat) : Int) != (((b_1.Events).length : Nat) : Int)))))) an))⟩
        · refine rg [(11, Hf), (18, Hf), (22, { n := (a_1.Events).length }), (25, { n := (b_1.Events).length }), (27, Hf)] [2, 3, 33] [0, 1] 2 [.ptr 0 0 0 0, .ptr 1 0 0 0, .bool ((((a_1.Events).length : Nat) : Int) != (((b_1.Events).length : Nat) : Int))] [Vb 24 (v_T_api_Packet a_1), Vb 24 (v_T_api_Packet b_1)] hmix (ac gg_1 (ac gg_1 (ac gg_1 (ac gg_1 (ac gg_1 (ac gg_1 (ac gg_2 (ac gg_2 (ac gg_2 (ac gg_2 (ac gg_2 (ac gg_2 (ac gg_3 (ac gg_3 (ac gg_3 (ac (vc_len _ : ((List.map e_T_api_Event a_1.Events)).length = (a_1.Events).length) (ac gg_3 (ac gg_3 (ac gg_3 (ac (vc_len _ : ((List.map e_T_api_Event b_1.Events)).length = (b_1.Events).length) (ac gg_3 (ac gg_3 an)))))))))))))))))))))) ?_
          exact ⟨rfl, (sw [0, 1] [] [.s 2, .s 3, .a 33 (.bool ((a_1.Thread != b_1.Thread) || ((a_1.Serial != b_1.Serial) || ((a_1.Lost != b_1.Lost) || ((((a_1.Events).length : Nat) : Int) != (((b_1.Events).length : Nat) : Int))))))] [.s 0, .s 1] (ac (congrArg AV.bool (orf gg_1 (orf gg_2 (orf gg_3 rfl))) : (.bool ((((a_1.Events).length : Nat) : Int) != (((b_1.Events).length : Nat) : Int)) : AV) = .bool ((a_1.Thread != b_1.Thread) || ((a_1.Serial != b_1.Serial) || ((a_1.Lost != b_1.Lost) || ((((a_1.Events).length : Nat) : Int) != (((b_1.Events).length : Nat) : Int)))))) an))⟩
  refine cd 33 ((a_1.Thread != b_1.Thread) || ((a_1.Serial != b_1.Serial) || ((a_1.Lost != b_1.Lost) || ((((a_1.Events).length : Nat) : Int) != (((b_1.Events).length : Nat) : Int))))) ?_ ?_
  · intro g_1; replace h := cond_t g_1 h
    refine sr [] [4] [] 2 [.bool false] [] hmix an ?_
    refine aw_ret (by kernel_rfl) ?_
    replace h := Option.some.inj h; subst h
    exact ⟨.inr rfl, Nat.le_of_ble_eq_true rfl, by kernel_rfl⟩
  intro g_1; replace h := cond_f g_1 h
  refine sk ?_
  refine sq ?_
  refine sr [] [2, 3, 5] [0, 1] 2 [.ptr 0 0 0 0, .ptr 1 0 0 0, Ii 0] [Vb 24 (v_T_api_Packet a_1), Vb 24 (v_T_api_Packet b_1)] hmix an ?_
  obtain ⟨o_1, h_1, h⟩ := bind_some h
  refine aw_conv (K1 := (fun e st' => match o_1 with | (.inl q0) => e = .normal ∧ Sub 0 st' (mk [] [] 0) | (.inr q1) => e = .ret ∧ FinR prog Go.Proofs.Try.f16 0 [] (.bool q1) st')) ?_ ?_
  · replace h := h_1
    refine aw_block (id := 0) (by kernel_rfl) ?_
    refine wk [0, 1] [] [.s 2, .s 3, .s 5] [.s 0, .s 1] [(2, .ptr 0 0 0 0), (3, .ptr 1 0 0 0), (5, Ii 0)] [(0, Vb 24 (v_T_api_Packet a_1)), (1, Vb 24 (v_T_api_Packet b_1))] an ?_
    refine aw_loopF (fun n st => ∃ (i_1 : Int), st = mk [(2, .ptr 0 0 0 0), (3, .ptr 1 0 0 0), (5, Ii i_1)] [(0, Vb 24 (v_T_api_Packet a_1)), (1, Vb 24 (v_T_api_Packet b_1))] 2 ∧ R11_Same_L1 F a_1 b_1 n i_1 = some o_1) F (by kernel_rfl) ⟨_, rfl, h⟩ ?_ ?_
    · rintro _ ⟨_, _, h⟩; exact none_ne (h : (none : Option (Unit ⊕ Bool)) = some o_1)
    rintro n_1 _ ⟨i_1, rfl, h⟩
    replace h : R11_Same_L1_body F a_1 b_1 (R11_Same_L1 F a_1 b_1 n_1) i_1 = some o_1 := h
    unfold R11_Same_L1_body at h
    refine sq ?_
    refine sr [(3, { n := (a_1.Events).length })] [2, 3, 5, 38] [0, 1] 2 [.ptr 0 0 0 0, .ptr 1 0 0 0, Ii i_1, .bool (decide (i_1 < (((a_1.Events).length : Nat) : Int)))] [Vb 24 (v_T_api_Packet a_1), Vb 24 (v_T_api_Packet b_1)] hmix (ac (vc_len _ : ((List.map e_T_api_Event a_1.Events)).length = (a_1.Events).length) an) ?_
    refine cd 38 (decide (i_1 < (((a_1.Events).length : Nat) : Int))) ?_ ?_
    rotate_left
    · intro g_2; replace h := cond_f g_2 h
      refine aw_exit (id := 0) (by kernel_rfl) ?_
      replace h := Option.some.inj h; subst h
      exact ⟨rfl, (sw [] [] [] [] an)⟩
    intro g_2; replace h := cond_t g_2 h
    refine sk ?_
    refine sq ?_
    refine aw_block (id := 1) (by kernel_rfl) ?_
    refine sq ?_
    obtain ⟨x_1, h_2, h⟩ := bind_some h
    obtain ⟨x_2, h_3, h⟩ := bind_some h
    obtain ⟨r_1, h_4, h⟩ := bind_some h
    refine rg [(3, { av := e_T_api_Event x_1 }), (8, { av := e_T_api_Event x_2 }), (10, { av := .bool r_1, l := [e_T_api_Event x_1, e_T_api_Event x_2] })] [2, 3, 5, 52] [0, 1] 2 [.ptr 0 0 0 0, .ptr 1 0 0 0, Ii i_1, .bool (!r_1)] [Vb 24 (v_T_api_Packet a_1), Vb 24 (v_T_api_Packet b_1)] hmix (ac (vc_idx h_2 : idxA (List.map e_T_api_Event a_1.Events) i_1 = some (e_T_api_Event x_1)) (ac (vc_idx h_3 : idxA (List.map e_T_api_Event b_1.Events) i_1 = some (e_T_api_Event x_2)) (ar ([e_T_api_Event x_1, e_T_api_Event x_2] : List AV) (ac (rfl : ([] : List BoxSt) = []) (ac (R07_Same_ok F x_1 x_2 r_1 h_4 : TripleG prog 30 [] [] [e_T_api_Event x_1, e_T_api_Event x_2] [] (.bool r_1)) an))))) ?_
    refine cd 52 (!r_1) ?_ ?_
    rotate_left
    · intro g_3; replace h := cond_f g_3 h
      refine sk ?_
      refine rg [] [2, 3, 5] [0, 1] 2 [.ptr 0 0 0 0, .ptr 1 0 0 0, Ii (w_i64 (i_1 + (1 : Int)))] [Vb 24 (v_T_api_Packet a_1), Vb 24 (v_T_api_Packet b_1)] hmix an ?_
      exact ⟨_, (sw [0, 1] [] [.s 2, .s 3, .s 5] [.s 0, .s 1] an), _, rfl, h⟩
    intro g_3; replace h := cond_t g_3 h
    refine sr [] [4] [] 2 [.bool false] [] hmix an ?_
    refine aw_ret (by kernel_rfl) ?_
    replace h := Option.some.inj h; subst h
    exact ⟨rfl, Nat.le_of_ble_eq_true rfl, by kernel_rfl⟩
  intro e st1 hk
  rcases o_1 with q_1 | q_2
  rotate_left
  · obtain ⟨rfl, hf⟩ := hk
    replace h := Option.some.inj h; subst h
    exact ⟨st1, Sub.refl _ _, .inr rfl, hf⟩
  obtain ⟨rfl, hs⟩ := hk
  refine ⟨_, hs, ?_⟩
  refine sr [] [4] [] 0 [.bool true] [] hmix an ?_
  refine aw_ret (by kernel_rfl) ?_
  replace h := Option.some.inj h; subst h
  exact ⟨.inr rfl, Nat.le_of_ble_eq_true rfl, by kernel_rfl⟩

theorem slices_Equal_string_string_ok (F : Nat) (s1_1 : List (List Int)) (s2_1 : List (List Int)) (r : Bool) (h : slices_Equal_string_string F s1_1 s2_1 = some r) : TripleG prog 49 [] [] [.sl false 1 (List.map AV.str s1_1), .sl false 1 (List.map AV.str s2_1)] [] (.bool r) := by
  refine triple_intro (fn := Go.Proofs.Try.f49) (code := codeOf Go.Proofs.Try.f49) (by kernel_rfl) (by kernel_rfl) (Nat.le_of_ble_eq_true (by kernel_rfl)) ?_
  unfold slices_Equal_string_string at h
  refine sr [] [0, 1] [] 0 [.sl false 1 (List.map AV.str s1_1), .sl false 1 (List.map AV.str s2_1)] [] hmix an ?_
  refine sq ?_
  refine sr [(1, { n := (s1_1).length }), (3, { n := (s2_1).length })] [0, 1, 10] [] 0 [.sl false 1 (List.map AV.str s1_1), .sl false 1 (List.map AV.str s2_1), .bool ((((s1_1).length : Nat) : Int) != (((s2_1).length : Nat) : Int))] [] hmix (ac (vc_len _ : ((List.map AV.str s1_1)).length = (s1_1).length) (ac (vc_len _ : ((List.map AV.str s2_1)).length = (s2_1).length) an)) ?_
  refine cd 10 ((((s1_1).length : Nat) : Int) != (((s2_1).length : Nat) : Int)) ?_ ?_
  · intro g_1; replace h := cond_t g_1 h
    refine sr [] [4] [] 0 [.bool false] [] hmix an ?_
    refine aw_ret (by kernel_rfl) ?_
    replace h := Option.some.inj h; subst h
    exact ⟨.inr rfl, Nat.le_of_ble_eq_true rfl, by kernel_rfl⟩
  intro g_1; replace h := cond_f g_1 h
  refine sk ?_
  refine sq ?_
  refine sr [(1, { n := (s1_1).length })] [0, 1, 12, 13] [] 0 [.sl false 1 (List.map AV.str s1_1), .sl false 1 (List.map AV.str s2_1), Ii (((s1_1).length : Nat) : Int), Ii 0] [] hmix (ac (vc_len _ : ((List.map AV.str s1_1)).length = (s1_1).length) an) ?_
  obtain ⟨o_1, h_1, h⟩ := bind_some h
  refine aw_conv (K1 := (fun e st' => match o_1 with | (.inl q0) => e = .normal ∧ Sub 0 st' (mk [] [] 0) | (.inr q1) => e = .ret ∧ FinR prog Go.Proofs.Try.f49 0 [] (.bool q1) st')) ?_ ?_
  · replace h := h_1
    refine aw_block (id := 0) (by kernel_rfl) ?_
    refine wk [] [] [.s 0, .s 1, .s 12, .s 13] [] [(0, .sl false 1 (List.map AV.str s1_1)), (1, .sl false 1 (List.map AV.str s2_1)), (12, Ii (((s1_1).length : Nat) : Int)), (13, Ii 0)] [] an ?_
    refine aw_loopF (fun n st => ∃ (v_1 : Int), st = mk [(0, .sl false 1 (List.map AV.str s1_1)), (1, .sl false 1 (List.map AV.str s2_1)), (12, Ii (((s1_1).length : Nat) : Int)), (13, Ii v_1)] [] 0 ∧ slices_Equal_string_string_L1 F s1_1 s2_1 n v_1 = some o_1) F (by kernel_rfl) ⟨_, rfl, h⟩ ?_ ?_
    · rintro _ ⟨_, _, h⟩; exact none_ne (h : (none : Option (Unit ⊕ Bool)) = some o_1)
    rintro n_1 _ ⟨v_1, rfl, h⟩
    replace h : slices_Equal_string_string_L1_body F s1_1 s2_1 (slices_Equal_string_string_L1 F s1_1 s2_1 n_1) v_1 = some o_1 := h
    unfold slices_Equal_string_string_L1_body at h
    refine sr [] [0, 1, 12, 13, 14] [] 0 [.sl false 1 (List.map AV.str s1_1), .sl false 1 (List.map AV.str s2_1), Ii (((s1_1).length : Nat) : Int), Ii v_1, .bool (decide (v_1 < (((s1_1).length : Nat) : Int)))] [] hmix an ?_
    refine sq ?_
    refine cd 14 (decide (v_1 < (((s1_1).length : Nat) : Int))) ?_ ?_
    rotate_left
    · intro g_2; replace h := cond_f g_2 h
      refine aw_exit (id := 0) (by kernel_rfl) ?_
      replace h := Option.some.inj h; subst h
      exact ⟨rfl, (sw [] [] [] [] an)⟩
    intro g_2; replace h := cond_t g_2 h
    refine sk ?_
    refine sq ?_
    refine aw_block (id := 1) (by kernel_rfl) ?_
    refine sr [] [0, 1, 5, 12, 13] [] 0 [.sl false 1 (List.map AV.str s1_1), .sl false 1 (List.map AV.str s2_1), Ii v_1, Ii (((s1_1).length : Nat) : Int), Ii v_1] [] hmix an ?_
    refine sq ?_
    obtain ⟨x_1, h_2, h⟩ := bind_some h
    obtain ⟨x_2, h_3, h⟩ := bind_some h
    refine rg [(2, { av := .str x_1 }), (6, { av := .str x_2 })] [0, 1, 12, 13, 24] [] 0 [.sl false 1 (List.map AV.str s1_1), .sl false 1 (List.map AV.str s2_1), Ii (((s1_1).length : Nat) : Int), Ii v_1, .bool (!(x_1 == x_2))] [] hmix (ac (vc_idx h_2 : idxA (List.map AV.str s1_1) v_1 = some (.str x_1)) (ac (vc_idx h_3 : idxA (List.map AV.str s2_1) v_1 = some (.str x_2)) an)) ?_
    refine cd 24 (!(x_1 == x_2)) ?_ ?_
    rotate_left
    · intro g_3; replace h := cond_f g_3 h
      refine sk ?_
      refine rg [] [0, 1, 12, 13] [] 0 [.sl false 1 (List.map AV.str s1_1), .sl false 1 (List.map AV.str s2_1), Ii (((s1_1).length : Nat) : Int), Ii (w_i64 (v_1 + (1 : Int)))] [] hmix an ?_
      exact ⟨_, (sw [] [] [.s 0, .s 1, .s 12, .s 13] [] an), _, rfl, h⟩
    intro g_3; replace h := cond_t g_3 h
    refine sr [] [4] [] 0 [.bool false] [] hmix an ?_
    refine aw_ret (by kernel_rfl) ?_
    replace h := Option.some.inj h; subst h
    exact ⟨rfl, Nat.le_of_ble_eq_true rfl, by kernel_rfl⟩
  intro e st1 hk
  rcases o_1 with q_1 | q_2
  rotate_left
  · obtain ⟨rfl, hf⟩ := hk
    replace h := Option.some.inj h; subst h
    exact ⟨st1, Sub.refl _ _, .inr rfl, hf⟩
  obtain ⟨rfl, hs⟩ := hk
  refine ⟨_, hs, ?_⟩
  refine sr [] [4] [] 0 [.bool true] [] hmix an ?_
  refine aw_ret (by kernel_rfl) ?_
  replace h := Option.some.inj h; subst h
  exact ⟨.inr rfl, Nat.le_of_ble_eq_true rfl, by kernel_rfl⟩

theorem event_Same_ok (F : Nat) (a_1 : T_api_Event) (b_1 : T_api_Event) (r : Bool) (h : event_Same F a_1 b_1 = some r) : TripleG prog 29 [] [] [e_T_api_Event a_1, e_T_api_Event b_1] [] (.bool r) := by
  refine triple_intro (fn := Go.Proofs.Try.f29) (code := codeOf Go.Proofs.Try.f29) (by kernel_rfl) (by kernel_rfl) (Nat.le_of_ble_eq_true (by kernel_rfl)) ?_
  unfold event_Same at h
  refine sr [(0, { id := 0 }), (1, { id := 1 })] [2, 3] [0, 1] 2 [.ptr 0 0 0 0, .ptr 1 0 0 0] [Vb 33 (v_T_api_Event a_1), Vb 33 (v_T_api_Event b_1)] hmix an ?_
  refine sq ?_
  obtain ⟨p_1, h_2, h⟩ := bind_some h
  refine aw_mid (mk [(4, .bool p_1)] [] 0) ?_ ?_
  · replace h := h_2
    rcases Bool.eq_false_or_eq_true (a_1.At == b_1.At) with gg_1 | gg_1
    · replace h := cond_t gg_1 h
      rcases Bool.eq_false_or_eq_true (a_1.Kind == b_1.Kind) with gg_2 | gg_2
      · replace h := cond_t gg_2 h
        rcases Bool.eq_false_or_eq_true (a_1.Name == b_1.Name) with gg_3 | gg_3
        · replace h := cond_t gg_3 h
          rcases Bool.eq_false_or_eq_true (a_1.N == b_1.N) with gg_4 | gg_4
          · replace h := cond_t gg_4 h
            rcases Bool.eq_false_or_eq_true (a_1.M == b_1.M) with gg_5 | gg_5
            · replace h := cond_t gg_5 h
              obtain ⟨r_1, h_1, h⟩ := bind_some h
              refine rg [(11, Ht), (18, Ht), (25, Ht), (32, Ht), (38, { av := .bool r_1, l := [.sl false 1 (List.map AV.str a_1.Stack), .sl false 1 (List.map AV.str b_1.Stack)] }), (39, Ht)] [4] [] 2 [.bool r_1] [] hmix (ac gg_1 (ac gg_1 (ac gg_1 (ac gg_1 (ac gg_1 (ac gg_1 (ac gg_2 (ac gg_2 (ac gg_2 (ac gg_2 (ac gg_2 (ac gg_2 (ac gg_3 (ac gg_3 (ac gg_3 (ac gg_3 (ac gg_3 (ac gg_3 (ac gg_4 (ac gg_4 (ac gg_4 (ac gg_4 (ac gg_4 (ac gg_4 (ac gg_5 (ac gg_5 (ac gg_5 (ac gg_5 (ac gg_5 (ar ([.sl false 1 (List.map AV.str a_1.Stack), .sl false 1 (List.map AV.str b_1.Stack)] : List AV) (ac (rfl : ([] : List BoxSt) = []) (ac (slices_Equal_string_string_ok F a_1.Stack b_1.Stack r_1 h_1 : TripleG prog 49 [] [] [.sl false 1 (List.map AV.str a_1.Stack), .sl false 1 (List.map AV.str b_1.Stack)] [] (.bool r_1)) (ac gg_5 an))))))))))))))))))))))))))))))))) ?_
              replace h := Option.some.inj h; subst h
              exact ⟨rfl, (sw [] [] [.s 4] [] an)⟩
            · replace h := cond_f gg_5 h
              refine rg [(11, Ht), (18, Ht), (25, Ht), (32, Ht), (34, Hg), (35, Hg), (36, Hg), (37, Hg), (38, Hg), (39, Hf)] [4] [] 2 [.bool false] [] hmix (ac gg_1 (ac gg_1 (ac gg_1 (ac gg_1 (ac gg_1 (ac gg_1 (ac gg_2 (ac gg_2 (ac gg_2 (ac gg_2 (ac gg_2 (ac gg_2 (ac gg_3 (ac gg_3 (ac gg_3 (ac gg_3 (ac gg_3 (ac gg_3 (ac gg_4 (ac gg_4 (ac gg_4 (ac gg_4 (ac gg_4 (ac gg_4 (ac gg_5 (ac gg_5 (ac gg_5 (ac gg_5 (ac gg_5 (ac gg_5 an)))))))))))))))))))))))))))))) ?_
              replace h := Option.some.inj h; subst h
              exact ⟨rfl, (sw [] [] [.s 4] [] an)⟩
          · replace h := cond_f gg_4 h
            refine rg [(11, Ht), (18, Ht), (25, Ht), (27, Hg), (28, Hg), (29, Hg), (30, Hg), (31, Hg), (32, Hf), (34, Hg), (35, Hg), (36, Hg), (37, Hg), (38, Hg), (39, Hf)] [4] [] 2 [.bool false] [] hmix (ac gg_1 (ac gg_1 (ac gg_1 (ac gg_1 (ac gg_1 (ac gg_1 (ac gg_2 (ac gg_2 (ac gg_2 (ac gg_2 (ac gg_2 (ac gg_2 (ac gg_3 (ac gg_3 (ac gg_3 (ac gg_3 (ac gg_3 (ac gg_3 (ac gg_4 (ac gg_4 (ac gg_4 (ac gg_4 (ac gg_4 (ac gg_4 (ac (rfl : false = !true) (ac (rfl : false = !true) (ac (rfl : false = !true) (ac (rfl : false = !true) (ac (rfl : false = !true) (ar false an)))))))))))))))))))))))))))))) ?_
            replace h := Option.some.inj h; subst h
            exact ⟨rfl, (sw [] [] [.s 4] [] an)⟩
        · replace h := cond_f gg_3 h
          refine rg [(11, Ht), (18, Ht), (20, Hg), (21, Hg), (22, Hg), (23, Hg), (24, Hg), (25, Hf), (27, Hg), (28, Hg), (29, Hg), (30, Hg), (31, Hg), (32, Hf), (34, Hg), (35, Hg), (36, Hg), (37, Hg), (38, Hg), (39, Hf)] [4] [] 2 [.bool false] [] hmix (ac gg_1 (ac gg_1 (ac gg_1 (ac gg_1 (ac gg_1 (ac gg_1 (ac gg_2 (ac gg_2 (ac gg_2 (ac gg_2 (ac gg_2 (ac gg_2 (ac gg_3 (ac gg_3 (ac gg_3 (ac gg_3 (ac gg_3 (ac gg_3 (ac (rfl : false = !true) (ac (rfl : false = !true) (ac (rfl : false = !true) (ac (rfl : false = !true) (ac (rfl : false = !true) (ar false (ac (rfl : false = !true) (ac (rfl : false = !true) (ac (rfl : false = !true) (ac (rfl : false = !true) (ac (rfl : false = !true) (ar false an)))))))))))))))))))))))))))))) ?_
          replace h := Option.some.inj h; subst h
          exact ⟨rfl, (sw [] [] [.s 4] [] an)⟩
      · replace h := cond_f gg_2 h
        refine rg [(11, Ht), (13, Hg), (14, Hg), (15, Hg), (16, Hg), (17, Hg), (18, Hf), (20, Hg), (21, Hg), (22, Hg), (23, Hg), (24, Hg), (25, Hf), (27, Hg), (28, Hg), (29, Hg), (30, Hg), (31, Hg), (32, Hf), (34, Hg), (35, Hg), (36, Hg), (37, Hg), (38, Hg), (39, Hf)] [4] [] 2 [.bool false] [] hmix (ac gg_1 (ac gg_1 (ac gg_1 (ac gg_1 (ac gg_1 (ac gg_1 (ac gg_2 (ac gg_2 (ac gg_2 (ac gg_2 (ac gg_2 (ac gg_2 (ac (rfl : false = !true) (ac (rfl : false = !true) (ac (rfl : false = !true) (ac (rfl : false = !true) (ac (rfl : false = !true) (ar false (ac (rfl : false = !true) (ac (rfl : false = !true) (ac (rfl : false = !true) (ac (rfl : false = !true) (ac (rfl : false = !true) (ar false (ac (rfl : false = !true) (ac (rfl : false = !true) (ac (rfl : false = !true) (ac (rfl : false = !true) (ac (rfl : false = !true) (ar false an)))))))))))))))))))))))))))))) ?_
        replace h := Option.some.inj h; subst h
        exact ⟨rfl, (sw [] [] [.s 4] [] an)⟩
    · replace h := cond_f gg_1 h
      refine rg [(6, Hg), (7, Hg), (8, Hg), (9, Hg), (10, Hg), (11, Hf), (13, Hg), (14, Hg), (15, Hg), (16, Hg), (17, Hg), (18, Hf), (20, Hg), (21, Hg), (22, Hg), (23, Hg), (24, Hg), (25, Hf), (27, Hg), (28, Hg), (29, Hg), (30, Hg), (31, Hg), (32, Hf), (34, Hg), (35, Hg), (36, Hg), (37, Hg), (38, Hg), (39, Hf)] [4] [] 2 [.bool false] [] hmix (ac gg_1 (ac gg_1 (ac gg_1 (ac gg_1 (ac gg_1 (ac gg_1 (ac (rfl : false = !true) (ac (rfl : false = !true) (ac (rfl : false = !true) (ac (rfl : false = !true) (ac (rfl : false = !true) (ar false (ac (rfl : false = !true) (ac (rfl : false = !true) (ac (rfl : false = !true) (ac (rfl : false = !true) (ac (rfl : false = !true) (ar false (ac (rfl : false = !true) (ac (rfl : false = !true) (ac (rfl : false = !true) (ac (rfl : false = !true) (ac (rfl : false = !true) (ar false (ac (rfl : false = !true) (ac (rfl : false = !true) (ac (rfl : false = !true) (ac (rfl : false = !true) (ac (rfl : false = !true) (ar false an)))))))))))))))))))))))))))))) ?_
      replace h := Option.some.inj h; subst h
      exact ⟨rfl, (sw [] [] [.s 4] [] an)⟩
  refine aw_ret (by kernel_rfl) ?_
  replace h := Option.some.inj h; subst h
  exact ⟨.inr rfl, Nat.le_of_ble_eq_true rfl, by kernel_rfl⟩

theorem slices_EqualFunc_tracebook_api_Event_tracebook_api_Event_tracebook_api_Event_tracebook_api_Event_ok (F : Nat) (s1_1 : List (T_api_Event)) (s2_1 : List (T_api_Event)) (r : Bool) (h : slices_EqualFunc_tracebook_api_Event_tracebook_api_Event_tracebook_api_Event_tracebook_api_Event F s1_1 s2_1 = some r) : TripleG prog 28 [] [] [.sl false 6 (List.map e_T_api_Event s1_1), .sl false 6 (List.map e_T_api_Event s2_1), .fn 29 []] [] (.bool r) := by
  refine triple_intro (fn := Go.Proofs.Try.f28) (code := codeOf Go.Proofs.Try.f28) (by kernel_rfl) (by kernel_rfl) (Nat.le_of_ble_eq_true (by kernel_rfl)) ?_
  unfold slices_EqualFunc_tracebook_api_Event_tracebook_api_Event_tracebook_api_Event_tracebook_api_Event at h
  refine sr [] [0, 1, 2] [] 0 [.sl false 6 (List.map e_T_api_Event s1_1), .sl false 6 (List.map e_T_api_Event s2_1), .fn 29 []] [] hmix an ?_
  refine sq ?_
  refine sr [(1, { n := (s1_1).length }), (3, { n := (s2_1).length })] [0, 1, 2, 14] [] 0 [.sl false 6 (List.map e_T_api_Event s1_1), .sl false 6 (List.map e_T_api_Event s2_1), .fn 29 [], .bool ((((s1_1).length : Nat) : Int) != (((s2_1).length : Nat) : Int))] [] hmix (ac (vc_len _ : ((List.map e_T_api_Event s1_1)).length = (s1_1).length) (ac (vc_len _ : ((List.map e_T_api_Event s2_1)).length = (s2_1).length) an)) ?_
  refine cd 14 ((((s1_1).length : Nat) : Int) != (((s2_1).length : Nat) : Int)) ?_ ?_
  · intro g_1; replace h := cond_t g_1 h
    refine sr [] [6] [] 0 [.bool false] [] hmix an ?_
    refine aw_ret (by kernel_rfl) ?_
    replace h := Option.some.inj h; subst h
    exact ⟨.inr rfl, Nat.le_of_ble_eq_true rfl, by kernel_rfl⟩
  intro g_1; replace h := cond_f g_1 h
  refine sk ?_
  refine sq ?_
  refine sr [(1, { n := (s1_1).length })] [1, 2, 15, 16, 17] [] 0 [.sl false 6 (List.map e_T_api_Event s2_1), .fn 29 [], .sl false 6 (List.map e_T_api_Event s1_1), Ii (((s1_1).length : Nat) : Int), Ii 0] [] hmix (ac (vc_len _ : ((List.map e_T_api_Event s1_1)).length = (s1_1).length) an) ?_
  obtain ⟨o_1, h_1, h⟩ := bind_some h
  refine aw_conv (K1 := (fun e st' => match o_1 with | (.inl q0) => e = .normal ∧ Sub 0 st' (mk [] [] 0) | (.inr q1) => e = .ret ∧ FinR prog Go.Proofs.Try.f28 0 [] (.bool q1) st')) ?_ ?_
  · replace h := h_1
    refine aw_block (id := 0) (by kernel_rfl) ?_
    refine wk [] [] [.s 1, .s 2, .s 15, .s 16, .s 17] [] [(1, .sl false 6 (List.map e_T_api_Event s2_1)), (2, .fn 29 []), (15, .sl false 6 (List.map e_T_api_Event s1_1)), (16, Ii (((s1_1).length : Nat) : Int)), (17, Ii 0)] [] an ?_
    refine aw_loopF (fun n st => ∃ (v_1 : Int), st = mk [(1, .sl false 6 (List.map e_T_api_Event s2_1)), (2, .fn 29 []), (15, .sl false 6 (List.map e_T_api_Event s1_1)), (16, Ii (((s1_1).length : Nat) : Int)), (17, Ii v_1)] [] 0 ∧ slices_EqualFunc_tracebook_api_Event_tracebook_api_Event_tracebook_api_Event_tracebook_api_Event_L1 F s1_1 s2_1 n v_1 = some o_1) F (by kernel_rfl) ⟨_, rfl, h⟩ ?_ ?_
    · rintro _ ⟨_, _, h⟩; exact none_ne (h : (none : Option (Unit ⊕ Bool)) = some o_1)
    rintro n_1 _ ⟨v_1, rfl, h⟩
    replace h : slices_EqualFunc_tracebook_api_Event_tracebook_api_Event_tracebook_api_Event_tracebook_api_Event_L1_body F s1_1 s2_1 (slices_EqualFunc_tracebook_api_Event_tracebook_api_Event_tracebook_api_Event_tracebook_api_Event_L1 F s1_1 s2_1 n_1) v_1 = some o_1 := h
    unfold slices_EqualFunc_tracebook_api_Event_tracebook_api_Event_tracebook_api_Event_tracebook_api_Event_L1_body at h
    refine sr [] [1, 2, 15, 16, 17, 18] [] 0 [.sl false 6 (List.map e_T_api_Event s2_1), .fn 29 [], .sl false 6 (List.map e_T_api_Event s1_1), Ii (((s1_1).length : Nat) : Int), Ii v_1, .bool (decide (v_1 < (((s1_1).length : Nat) : Int)))] [] hmix an ?_
    refine sq ?_
    refine cd 18 (decide (v_1 < (((s1_1).length : Nat) : Int))) ?_ ?_
    rotate_left
    · intro g_2; replace h := cond_f g_2 h
      refine aw_exit (id := 0) (by kernel_rfl) ?_
      replace h := Option.some.inj h; subst h
      exact ⟨rfl, (sw [] [] [] [] an)⟩
    intro g_2; replace h := cond_t g_2 h
    refine sk ?_
    refine sq ?_
    refine aw_block (id := 1) (by kernel_rfl) ?_
    refine sq ?_
    obtain ⟨x_1, h_2, h⟩ := bind_some h
    refine rg [(1, { av := e_T_api_Event x_1 }), (3, { id := 0 })] [1, 2, 7, 8, 15, 16, 17] [0] 1 [.sl false 6 (List.map e_T_api_Event s2_1), .fn 29 [], Ii v_1, .ptr 0 0 0 0, .sl false 6 (List.map e_T_api_Event s1_1), Ii (((s1_1).length : Nat) : Int), Ii v_1] [Vb 33 (v_T_api_Event x_1)] hmix (ac (vc_idx h_2 : idxA (List.map e_T_api_Event s1_1) v_1 = some (e_T_api_Event x_1)) an) ?_
    refine sq ?_
    obtain ⟨x_2, h_3, h⟩ := bind_some h
    refine rg [(2, { av := e_T_api_Event x_2 }), (4, { id := 1 })] [1, 2, 8, 9, 15, 16, 17] [0, 1] 2 [.sl false 6 (List.map e_T_api_Event s2_1), .fn 29 [], .ptr 0 0 0 0, .ptr 1 0 0 0, .sl false 6 (List.map e_T_api_Event s1_1), Ii (((s1_1).length : Nat) : Int), Ii v_1] [Vb 33 (v_T_api_Event x_1), Vb 33 (v_T_api_Event x_2)] hmix (ac (vc_idx h_3 : idxA (List.map e_T_api_Event s2_1) v_1 = some (e_T_api_Event x_2)) an) ?_
    refine sq ?_
    obtain ⟨r_1, h_4, h⟩ := bind_some h
    refine rg [(3, { av := .bool r_1, l := [e_T_api_Event x_1, e_T_api_Event x_2] })] [1, 2, 15, 16, 17, 30] [] 2 [.sl false 6 (List.map e_T_api_Event s2_1), .fn 29 [], .sl false 6 (List.map e_T_api_Event s1_1), Ii (((s1_1).length : Nat) : Int), Ii v_1, .bool (!r_1)] [] hmix (ar ([e_T_api_Event x_1, e_T_api_Event x_2] : List AV) (ac (rfl : ([] : List BoxSt) = []) (ac (event_Same_ok F x_1 x_2 r_1 h_4 : TripleG prog 29 [] [] [e_T_api_Event x_1, e_T_api_Event x_2] [] (.bool r_1)) an))) ?_
    refine cd 30 (!r_1) ?_ ?_
    rotate_left
    · intro g_3; replace h := cond_f g_3 h
      refine sk ?_
      refine rg [] [1, 2, 15, 16, 17] [] 2 [.sl false 6 (List.map e_T_api_Event s2_1), .fn 29 [], .sl false 6 (List.map e_T_api_Event s1_1), Ii (((s1_1).length : Nat) : Int), Ii (w_i64 (v_1 + (1 : Int)))] [] hmix an ?_
      exact ⟨_, (sw [] [] [.s 1, .s 2, .s 15, .s 16, .s 17] [] an), _, rfl, h⟩
    intro g_3; replace h := cond_t g_3 h
    refine sr [] [6] [] 2 [.bool false] [] hmix an ?_
    refine aw_ret (by kernel_rfl) ?_
    replace h := Option.some.inj h; subst h
    exact ⟨rfl, Nat.le_of_ble_eq_true rfl, by kernel_rfl⟩
  intro e st1 hk
  rcases o_1 with q_1 | q_2
  rotate_left
  · obtain ⟨rfl, hf⟩ := hk
    replace h := Option.some.inj h; subst h
    exact ⟨st1, Sub.refl _ _, .inr rfl, hf⟩
  obtain ⟨rfl, hs⟩ := hk
  refine ⟨_, hs, ?_⟩
  refine sr [] [6] [] 0 [.bool true] [] hmix an ?_
  refine aw_ret (by kernel_rfl) ?_
  replace h := Option.some.inj h; subst h
  exact ⟨.inr rfl, Nat.le_of_ble_eq_true rfl, by kernel_rfl⟩

theorem packet_Same_ok (F : Nat) (a_1 : T_api_Packet) (b_1 : T_api_Packet) (r : Bool) (h : packet_Same F a_1 b_1 = some r) : TripleG prog 15 [] [] [e_T_api_Packet a_1, e_T_api_Packet b_1] [] (.bool r) := by
  refine triple_intro (fn := Go.Proofs.Try.f15) (code := codeOf Go.Proofs.Try.f15) (by kernel_rfl) (by kernel_rfl) (Nat.le_of_ble_eq_true (by kernel_rfl)) ?_
  unfold packet_Same at h
  refine sr [(0, { id := 0 }), (1, { id := 1 })] [2, 3] [0, 1] 2 [.ptr 0 0 0 0, .ptr 1 0 0 0] [Vb 24 (v_T_api_Packet a_1), Vb 24 (v_T_api_Packet b_1)] hmix an ?_
  refine sq ?_
  obtain ⟨p_1, h_2, h⟩ := bind_some h
  refine aw_mid (mk [(4, .bool p_1)] [] 0) ?_ ?_
  · replace h := h_2
    rcases Bool.eq_false_or_eq_true (a_1.Thread == b_1.Thread) with gg_1 | gg_1
    · replace h := cond_t gg_1 h
      rcases Bool.eq_false_or_eq_true (a_1.Serial == b_1.Serial) with gg_2 | gg_2
      · replace h := cond_t gg_2 h
        rcases Bool.eq_false_or_eq_true (a_1.Lost == b_1.Lost) with gg_3 | gg_3
        · replace h := cond_t gg_3 h
          obtain ⟨r_1, h_1, h⟩ := bind_some h
          refine rg [(11, Ht), (18, Ht), (24, { av := .bool r_1, l := [.sl false 6 (List.map e_T_api_Event a_1.Events), .sl false 6 (List.map e_T_api_Event b_1.Events), .fn 29 []] }), (25, Ht)] [4] [] 2 [.bool r_1] [] hmix (ac gg_1 (ac gg_1 (ac gg_1 (ac gg_1 (ac gg_1 (ac gg_1 (ac gg_2 (ac gg_2 (ac gg_2 (ac gg_2 (ac gg_2 (ac gg_2 (ac gg_3 (ac gg_3 (ac gg_3 (ac gg_3 (ac gg_3 (ar ([.sl false 6 (List.map e_T_api_Event a_1.Events), .sl false 6 (List.map e_T_api_Event b_1.Events), .fn 29 []] : List AV) (ac (rfl : ([] : List BoxSt) = []) (ac (slices_EqualFunc_tracebook_api_Event_tracebook_api_Event_tracebook_api_Event_tracebook_api_Event_ok F a_1.Events b_1.Events r_1 h_1 : TripleG prog 28 [] [] [.sl false 6 (List.map e_T_api_Event a_1.Events), .sl false 6 (List.map e_T_api_Event b_1.Events), .fn 29 []] [] (.bool r_1)) (ac gg_3 an))))))))))))))))))))) ?_
          replace h := Option.some.inj h; subst h
          exact ⟨rfl, (sw [] [] [.s 4] [] an)⟩
        · replace h := cond_f gg_3 h
          refine rg [(11, Ht), (18, Ht), (20, Hg), (21, Hg), (22, Hg), (23, Hg), (24, Hg), (25, Hf)] [4] [] 2 [.bool false] [] hmix (ac gg_1 (ac gg_1 (ac gg_1 (ac gg_1 (ac gg_1 (ac gg_1 (ac gg_2 (ac gg_2 (ac gg_2 (ac gg_2 (ac gg_2 (ac gg_2 (ac gg_3 (ac gg_3 (ac gg_3 (ac gg_3 (ac gg_3 (ac gg_3 an)))))))))))))))))) ?_
          replace h := Option.some.inj h; subst h
          exact ⟨rfl, (sw [] [] [.s 4] [] an)⟩
      · replace h := cond_f gg_2 h
        refine rg [(11, Ht), (13, Hg), (14, Hg), (15, Hg), (16, Hg), (17, Hg), (18, Hf), (20, Hg), (21, Hg), (22, Hg), (23, Hg), (24, Hg), (25, Hf)] [4] [] 2 [.bool false] [] hmix (ac gg_1 (ac gg_1 (ac gg_1 (ac gg_1 (ac gg_1 (ac gg_1 (ac gg_2 (ac gg_2 (ac gg_2 (ac gg_2 (ac gg_2 (ac gg_2 (ac (rfl : false = !true) (ac (rfl : false = !true) (ac (rfl : false = !true) (ac (rfl : false = !true) (ac (rfl : false = !true) (ar false an)))))))))))))))))) ?_
        replace h := Option.some.inj h; subst h
        exact ⟨rfl, (sw [] [] [.s 4] [] an)⟩
    · replace h := cond_f gg_1 h
      refine rg [(6, Hg), (7, Hg), (8, Hg), (9, Hg), (10, Hg), (11, Hf), (13, Hg), (14, Hg), (15, Hg), (16, Hg), (17, Hg), (18, Hf), (20, Hg), (21, Hg), (22, Hg), (23, Hg), (24, Hg), (25, Hf)] [4] [] 2 [.bool false] [] hmix (ac gg_1 (ac gg_1 (ac gg_1 (ac gg_1 (ac gg_1 (ac gg_1 (ac (rfl : false = !true) (ac (rfl : false = !true) (ac (rfl : false = !true) (ac (rfl : false = !true) (ac (rfl : false = !true) (ar false (ac (rfl : false = !true) (ac (rfl : false = !true) (ac (rfl : false = !true) (ac (rfl : false = !true) (ac (rfl : false = !true) (ar false an)))))))))))))))))) ?_
      replace h := Option.some.inj h; subst h
      exact ⟨rfl, (sw [] [] [.s 4] [] an)⟩
  refine aw_ret (by kernel_rfl) ?_
  replace h := Option.some.inj h; subst h
  exact ⟨.inr rfl, Nat.le_of_ble_eq_true rfl, by kernel_rfl⟩

theorem L11_lives_ok (F : Nat) (r : Bool) (h : L11_lives F = some r) : TripleG prog 12 [] [] [] [] (.bool r) := by
  refine triple_intro (fn := Go.Proofs.Try.f12) (code := codeOf Go.Proofs.Try.f12) (by kernel_rfl) (by kernel_rfl) (Nat.le_of_ble_eq_true (by kernel_rfl)) ?_
  unfold L11_lives at h
  refine sr [] [] [] 0 [] [] hmix an ?_
  refine sr [(1, { id := 0, lo := [(12, [0, 0, 0, 0, 0, 1])] }), (3, { id := 1 })] [1] [0, 1] 2 [.ptr 1 0 0 0] [Rb 33 6 (List.map e_T_api_Event ([(⟨(5 : Int), (3 : Int), ([97] : List Int), (0 : Int), (0 : Int), []⟩ : T_api_Event)] : List T_api_Event)), Vb 24 [Ii 7, Ii 1, Ii 1, .own 0 1]] hmix an ?_
  refine sq ?_
  refine wk [1] [0] [.s 1] [.a 0 (Vb 24 [Ii 7, Ii 1, Ii 1, .sl false 6 (List.map e_T_api_Event ([(⟨(5 : Int), (3 : Int), ([97] : List Int), (0 : Int), (0 : Int), []⟩ : T_api_Event)] : List T_api_Event))])] [(1, .ptr 0 0 0 0)] [(0, Vb 24 [Ii 7, Ii 1, Ii 1, .sl false 6 (List.map e_T_api_Event ([(⟨(5 : Int), (3 : Int), ([97] : List Int), (0 : Int), (0 : Int), []⟩ : T_api_Event)] : List T_api_Event))])] (ar 24 (ac (rfl : ones [Ii 7, Ii 1, Ii 1, .sl false 6 (List.map e_T_api_Event ([(⟨(5 : Int), (3 : Int), ([97] : List Int), (0 : Int), (0 : Int), []⟩ : T_api_Event)] : List T_api_Event))] = true) (ac (by first | (simp; done) | (simp; omega) : 1 = ((List.map e_T_api_Event ([(⟨(5 : Int), (3 : Int), ([97] : List Int), (0 : Int), (0 : Int), []⟩ : T_api_Event)] : List T_api_Event))).length) (ac (rfl : (Ii 7 : AV) = Ii 7) (ac (rfl : (Ii 1 : AV) = Ii 1) (ac (rfl : (Ii 1 : AV) = Ii 1) (ar 6 (ar ((List.map e_T_api_Event ([(⟨(5 : Int), (3 : Int), ([97] : List Int), (0 : Int), (0 : Int), []⟩ : T_api_Event)] : List T_api_Event)) : List AV) (ac (rfl : (!false || false) = true) an))))))))) ?_
  obtain ⟨r_1, h_1, h⟩ := bind_some h
  refine rg [(1, { av := .tuple [.own 0 ((r_1.1).length), Ii r_1.2], ids := [1], l := [.agg [Ii 7, Ii 1, Ii 1, .sl false 6 (List.map e_T_api_Event ([(⟨(5 : Int), (3 : Int), ([97] : List Int), (0 : Int), (0 : Int), []⟩ : T_api_Event)] : List T_api_Event))]], post := [(.row 5 1 (List.map (AV.int .u8) r_1.1))] })] [1, 2, 3] [0, 1] 2 [.ptr 0 0 0 0, .own 1 ((r_1.1).length), Ii r_1.2] [Vb 24 [Ii 7, Ii 1, Ii 1, .sl false 6 (List.map e_T_api_Event ([(⟨(5 : Int), (3 : Int), ([97] : List Int), (0 : Int), (0 : Int), []⟩ : T_api_Event)] : List T_api_Event))], Rb 5 1 (List.map (AV.int .u8) r_1.1)] hmix (ar ([.agg [Ii 7, Ii 1, Ii 1, .sl false 6 (List.map e_T_api_Event ([(⟨(5 : Int), (3 : Int), ([97] : List Int), (0 : Int), (0 : Int), []⟩ : T_api_Event)] : List T_api_Event))]] : List AV) (ac (rfl : ([] : List BoxSt) = []) (ac (triple_lo (args' := [e_T_api_Packet (⟨(7 : Int), (1 : Int), (1 : Int), ([(⟨(5 : Int), (3 : Int), ([97] : List Int), (0 : Int), (0 : Int), []⟩ : T_api_Event)] : List T_api_Event)⟩ : T_api_Packet)]) (packet_Encode_ok F (⟨(7 : Int), (1 : Int), (1 : Int), ([(⟨(5 : Int), (3 : Int), ([97] : List Int), (0 : Int), (0 : Int), []⟩ : T_api_Event)] : List T_api_Event)⟩ : T_api_Packet) r_1 h_1) rfl ⟨rfl, rfl, rfl, rfl, rfl, rfl, trivial⟩ : TripleG prog 17 [] [] [.agg [Ii 7, Ii 1, Ii 1, .sl false 6 (List.map e_T_api_Event ([(⟨(5 : Int), (3 : Int), ([97] : List Int), (0 : Int), (0 : Int), []⟩ : T_api_Event)] : List T_api_Event))]] [(.row 5 1 (List.map (AV.int .u8) r_1.1))] (.tuple [.own 0 ((r_1.1).length), Ii r_1.2])) an))) ?_
  refine sq ?_
  refine sq ?_
  refine aw_mid (mk [(1, .ptr 0 0 0 0), (2, .own 1 ((r_1.1).length)), (26, .bool (!(r_1.1 == ([14, 2, 2, 2, 2, 97, 0, 2, 6, 10, 0] : List Int)) || (r_1.2 != (0 : Int))))] [(0, Vb 24 [Ii 7, Ii 1, Ii 1, .sl false 6 (List.map e_T_api_Event ([(⟨(5 : Int), (3 : Int), ([97] : List Int), (0 : Int), (0 : Int), []⟩ : T_api_Event)] : List T_api_Event))]), (1, Rb 5 1 (List.map (AV.int .u8) r_1.1))] 2) ?_ ?_
  · rcases Bool.eq_false_or_eq_true (!(r_1.1 == ([14, 2, 2, 2, 2, 97, 0, 2, 6, 10, 0] : List Int))) with gg_1 | gg_1
    · refine rg [(1, { s := r_1.1 }), (4, Hg), (5, Hg), (6, Ht)] [1, 2, 26] [0, 1] 2 [.ptr 0 0 0 0, .own 1 ((r_1.1).length), .bool true] [Vb 24 [Ii 7, Ii 1, Ii 1, .sl false 6 (List.map e_T_api_Event ([(⟨(5 : Int), (3 : Int), ([97] : List Int), (0 : Int), (0 : Int), []⟩ : T_api_Event)] : List T_api_Event))], Rb 5 1 (List.map (AV.int .u8) r_1.1)] hmix (ac (by first | (simp; done) | (simp; omega) : (r_1.1).length = ((List.map (AV.int .u8) r_1.1)).length) (ac (rfl : (List.map (AV.int .u8) r_1.1) = List.map (AV.int .u8) r_1.1) (ac gg_1 (ac gg_1 (ac gg_1 an))))) ?_
      exact ⟨rfl, (sw [0, 1] [] [.s 1, .s 2, .a 26 (.bool (!(r_1.1 == ([14, 2, 2, 2, 2, 97, 0, 2, 6, 10, 0] : List Int)) || (r_1.2 != (0 : Int))))] [.s 0, .s 1] (ac (congrArg AV.bool (ort gg_1) : (.bool true : AV) = .bool (!(r_1.1 == ([14, 2, 2, 2, 2, 97, 0, 2, 6, 10, 0] : List Int)) || (r_1.2 != (0 : Int)))) an))⟩
    · refine rg [(1, { s := r_1.1 }), (6, Hf)] [1, 2, 26] [0, 1] 2 [.ptr 0 0 0 0, .own 1 ((r_1.1).length), .bool (r_1.2 != (0 : Int))] [Vb 24 [Ii 7, Ii 1, Ii 1, .sl false 6 (List.map e_T_api_Event ([(⟨(5 : Int), (3 : Int), ([97] : List Int), (0 : Int), (0 : Int), []⟩ : T_api_Event)] : List T_api_Event))], Rb 5 1 (List.map (AV.int .u8) r_1.1)] hmix (ac (by first | (simp; done) | (simp; omega) : (r_1.1).length = ((List.map (AV.int .u8) r_1.1)).length) (ac (rfl : (List.map (AV.int .u8) r_1.1) = List.map (AV.int .u8) r_1.1) (ac gg_1 (ac gg_1 (ac gg_1 an))))) ?_
      exact ⟨rfl, (sw [0, 1] [] [.s 1, .s 2, .a 26 (.bool (!(r_1.1 == ([14, 2, 2, 2, 2, 97, 0, 2, 6, 10, 0] : List Int)) || (r_1.2 != (0 : Int))))] [.s 0, .s 1] (ac (congrArg AV.bool (orf gg_1 rfl) : (.bool (r_1.2 != (0 : Int)) : AV) = .bool (!(r_1.1 == ([14, 2, 2, 2, 2, 97, 0, 2, 6, 10, 0] : List Int)) || (r_1.2 != (0 : Int)))) an))⟩
  refine cd 26 (!(r_1.1 == ([14, 2, 2, 2, 2, 97, 0, 2, 6, 10, 0] : List Int)) || (r_1.2 != (0 : Int))) ?_ ?_
  · intro g_1; replace h := cond_t g_1 h
    refine sr [] [0] [] 2 [.bool false] [] hmix an ?_
    refine aw_ret (by kernel_rfl) ?_
    replace h := Option.some.inj h; subst h
    exact ⟨.inr rfl, Nat.le_of_ble_eq_true rfl, by kernel_rfl⟩
  intro g_1; replace h := cond_f g_1 h
  refine sk ?_
  refine sq ?_
  obtain ⟨_, h_2, h⟩ := bind_some h; replace h_2 := need_some h_2
  obtain ⟨r_2, h_3, h⟩ := bind_some h
  refine rg [(1, { id := 2 }), (2, { id := 3, l := (List.map (AV.int .u8) (r_1.1 ++ ([(9 : Int)] : List Int))), n := ((r_1.1 ++ ([(9 : Int)] : List Int))).length }), (3, { av := .tuple [e_T_api_Packet r_2.1, Ii r_2.2.1, Ii r_2.2.2], frz := [3], l := [.sl false 1 (List.map (AV.int .u8) (r_1.1 ++ ([(9 : Int)] : List Int)))] }), (8, { id := 4 })] [1, 4, 5, 6] [0, 4] 5 [.ptr 0 0 0 0, .ptr 4 0 0 0, Ii r_2.2.1, Ii r_2.2.2] [Vb 24 [Ii 7, Ii 1, Ii 1, .sl false 6 (List.map e_T_api_Event ([(⟨(5 : Int), (3 : Int), ([97] : List Int), (0 : Int), (0 : Int), []⟩ : T_api_Event)] : List T_api_Event))], Vb 24 (v_T_api_Packet r_2.1)] hmix (ac (by first | (simp; done) | (simp; omega) : (r_1.1).length = ((List.map (AV.int .u8) r_1.1)).length) (ac (by first | (simp; done) | (simp; omega) : 1 = ((List.map (AV.int .u8) ([(9 : Int)] : List Int))).length) (ac (vc_app _ _ : (List.map (AV.int .u8) (r_1.1 ++ ([(9 : Int)] : List Int))) = (List.map (AV.int .u8) r_1.1) ++ (List.map (AV.int .u8) ([(9 : Int)] : List Int))) (ac (by simp : ((r_1.1 ++ ([(9 : Int)] : List Int))).length = ((List.map (AV.int .u8) (r_1.1 ++ ([(9 : Int)] : List Int)))).length) (ac (by first | (simp; done) | simpa using h_2 : (((List.map (AV.int .u8) r_1.1) : List AV).length + ((List.map (AV.int .u8) ([(9 : Int)] : List Int)) : List AV).length) * 1 ≤ 140737488355328) (ac (by first | (simp; done) | (simp; omega) : ((r_1.1 ++ ([(9 : Int)] : List Int))).length = ((List.map (AV.int .u8) (r_1.1 ++ ([(9 : Int)] : List Int)))).length) (ar ([.sl false 1 (List.map (AV.int .u8) (r_1.1 ++ ([(9 : Int)] : List Int)))] : List AV) (ac (rfl : ([] : List BoxSt) = []) (ac (packet_Decode_ok F (r_1.1 ++ ([(9 : Int)] : List Int)) r_2 h_3 : TripleG prog 19 [] [] [.sl false 1 (List.map (AV.int .u8) (r_1.1 ++ ([(9 : Int)] : List Int)))] [] (.tuple [e_T_api_Packet r_2.1, Ii r_2.2.1, Ii r_2.2.2])) an))))))))) ?_
  refine sq ?_
  obtain ⟨r_3, h_4, h⟩ := bind_some h
  refine rg [(4, { av := .tuple [e_T_api_Packet r_3.1, .bool r_3.2], l := [.agg [Ii 7, Ii 1, Ii 1, .sl false 6 (List.map e_T_api_Event ([(⟨(5 : Int), (3 : Int), ([97] : List Int), (0 : Int), (0 : Int), []⟩ : T_api_Event)] : List T_api_Event))], .agg [Ii 7, Ii 2, Ii 0, .sl false 6 (List.map e_T_api_Event ([(⟨(5 : Int), (3 : Int), ([97] : List Int), (0 : Int), (0 : Int), []⟩ : T_api_Event)] : List T_api_Event))]] }), (8, { id := 5 })] [1, 4, 5, 6, 7, 8] [0, 4, 5] 6 [.ptr 0 0 0 0, .ptr 4 0 0 0, Ii r_2.2.1, Ii r_2.2.2, .ptr 5 0 0 0, .bool r_3.2] [Vb 24 [Ii 7, Ii 1, Ii 1, .sl false 6 (List.map e_T_api_Event ([(⟨(5 : Int), (3 : Int), ([97] : List Int), (0 : Int), (0 : Int), []⟩ : T_api_Event)] : List T_api_Event))], Vb 24 (v_T_api_Packet r_2.1), Vb 24 (v_T_api_Packet r_3.1)] hmix (ar ([.agg [Ii 7, Ii 1, Ii 1, .sl false 6 (List.map e_T_api_Event ([(⟨(5 : Int), (3 : Int), ([97] : List Int), (0 : Int), (0 : Int), []⟩ : T_api_Event)] : List T_api_Event))], .agg [Ii 7, Ii 2, Ii 0, .sl false 6 (List.map e_T_api_Event ([(⟨(5 : Int), (3 : Int), ([97] : List Int), (0 : Int), (0 : Int), []⟩ : T_api_Event)] : List T_api_Event))]] : List AV) (ac (rfl : ([] : List BoxSt) = []) (ac (triple_lo (args' := [e_T_api_Packet (⟨(7 : Int), (1 : Int), (1 : Int), ([(⟨(5 : Int), (3 : Int), ([97] : List Int), (0 : Int), (0 : Int), []⟩ : T_api_Event)] : List T_api_Event)⟩ : T_api_Packet), e_T_api_Packet (⟨(7 : Int), (2 : Int), (0 : Int), ([(⟨(5 : Int), (3 : Int), ([97] : List Int), (0 : Int), (0 : Int), []⟩ : T_api_Event)] : List T_api_Event)⟩ : T_api_Packet)]) (packet_Join_ok F (⟨(7 : Int), (1 : Int), (1 : Int), ([(⟨(5 : Int), (3 : Int), ([97] : List Int), (0 : Int), (0 : Int), []⟩ : T_api_Event)] : List T_api_Event)⟩ : T_api_Packet) (⟨(7 : Int), (2 : Int), (0 : Int), ([(⟨(5 : Int), (3 : Int), ([97] : List Int), (0 : Int), (0 : Int), []⟩ : T_api_Event)] : List T_api_Event)⟩ : T_api_Packet) r_3 h_4) rfl ⟨rfl, rfl, rfl, rfl, rfl, rfl, rfl, rfl, rfl, rfl, rfl, rfl, trivial⟩ : TripleG prog 21 [] [] [.agg [Ii 7, Ii 1, Ii 1, .sl false 6 (List.map e_T_api_Event ([(⟨(5 : Int), (3 : Int), ([97] : List Int), (0 : Int), (0 : Int), []⟩ : T_api_Event)] : List T_api_Event))], .agg [Ii 7, Ii 2, Ii 0, .sl false 6 (List.map e_T_api_Event ([(⟨(5 : Int), (3 : Int), ([97] : List Int), (0 : Int), (0 : Int), []⟩ : T_api_Event)] : List T_api_Event))]] [] (.tuple [e_T_api_Packet r_3.1, .bool r_3.2])) an))) ?_
  refine sq ?_
  obtain ⟨r_4, h_5, h⟩ := bind_some h
  refine rg [(1, { av := .tuple [e_T_api_Packet r_4.1, e_T_api_Packet r_4.2.1, .bool r_4.2.2], l := [e_T_api_Packet r_3.1, Ii 1] }), (6, { id := 6 }), (7, { id := 7 })] [1, 4, 5, 6, 7, 8, 9, 10, 11] [0, 4, 5, 6, 7] 8 [.ptr 0 0 0 0, .ptr 4 0 0 0, Ii r_2.2.1, Ii r_2.2.2, .ptr 5 0 0 0, .bool r_3.2, .ptr 6 0 0 0, .ptr 7 0 0 0, .bool r_4.2.2] [Vb 24 [Ii 7, Ii 1, Ii 1, .sl false 6 (List.map e_T_api_Event ([(⟨(5 : Int), (3 : Int), ([97] : List Int), (0 : Int), (0 : Int), []⟩ : T_api_Event)] : List T_api_Event))], Vb 24 (v_T_api_Packet r_2.1), Vb 24 (v_T_api_Packet r_3.1), Vb 24 (v_T_api_Packet r_4.1), Vb 24 (v_T_api_Packet r_4.2.1)] hmix (ar ([e_T_api_Packet r_3.1, Ii 1] : List AV) (ac (rfl : ([] : List BoxSt) = []) (ac (packet_Split_ok F r_3.1 (1 : Int) r_4 h_5 : TripleG prog 23 [] [] [e_T_api_Packet r_3.1, Ii 1] [] (.tuple [e_T_api_Packet r_4.1, e_T_api_Packet r_4.2.1, .bool r_4.2.2])) an))) ?_
  refine sq ?_
  obtain ⟨p_1, h_10, h⟩ := bind_some h
  refine aw_mid (mk [(0, .bool p_1)] [] 0) ?_ ?_
  · replace h := h_10
    obtain ⟨r_5, h_6, h⟩ := bind_some h
    rcases Bool.eq_false_or_eq_true r_5 with gg_2 | gg_2
    · replace h := cond_t gg_2 h
      rcases Bool.eq_false_or_eq_true (r_2.2.1 == (11 : Int)) with gg_3 | gg_3
      · replace h := cond_t gg_3 h
        rcases Bool.eq_false_or_eq_true (r_2.2.2 == (0 : Int)) with gg_4 | gg_4
        · replace h := cond_t gg_4 h
          rcases Bool.eq_false_or_eq_true r_3.2 with gg_5 | gg_5
          · replace h := cond_t gg_5 h
            rcases Bool.eq_false_or_eq_true ((((r_3.1.Events).length : Nat) : Int) == (2 : Int)) with gg_6 | gg_6
            · replace h := cond_t gg_6 h
              rcases Bool.eq_false_or_eq_true r_4.2.2 with gg_7 | gg_7
              · replace h := cond_t gg_7 h
                obtain ⟨r_6, h_7, h⟩ := bind_some h
                rcases Bool.eq_false_or_eq_true r_6 with gg_8 | gg_8
                · replace h := cond_t gg_8 h
                  rcases Bool.eq_false_or_eq_true (r_4.2.1.Serial == (2 : Int)) with gg_9 | gg_9
                  · replace h := cond_t gg_9 h
                    obtain ⟨r_7, h_8, h⟩ := bind_some h
                    rcases Bool.eq_false_or_eq_true r_7 with gg_10 | gg_10
                    · replace h := cond_t gg_10 h
                      obtain ⟨r_8, h_9, h⟩ := bind_some h
                      refine rg [(2, { av := .bool r_5, l := [e_T_api_Packet r_2.1, .agg [Ii 7, Ii 1, Ii 1, .sl false 6 (List.map e_T_api_Event ([(⟨(5 : Int), (3 : Int), ([97] : List Int), (0 : Int), (0 : Int), []⟩ : T_api_Event)] : List T_api_Event))]] }), (6, Ht), (10, Ht), (13, Ht), (17, { n := (r_3.1.Events).length }), (19, Ht), (22, Ht), (26, { av := .bool r_6, l := [e_T_api_Packet r_4.1, .agg [Ii 7, Ii 1, Ii 1, .sl false 6 (List.map e_T_api_Event ([(⟨(5 : Int), (3 : Int), ([97] : List Int), (0 : Int), (0 : Int), []⟩ : T_api_Event)] : List T_api_Event))]] }), (27, Ht), (32, Ht), (36, { av := .bool r_7, l := [.agg [Ii 7, Ii 1, Ii 1, .sl false 6 (List.map e_T_api_Event ([(⟨(5 : Int), (3 : Int), ([97] : List Int), (0 : Int), (0 : Int), []⟩ : T_api_Event)] : List T_api_Event))], e_T_api_Packet r_2.1] }), (37, Ht), (40, { av := Ii r_8, l := [.agg [Ii 7, Ii 1, Ii 1, .sl false 6 (List.map e_T_api_Event ([(⟨(5 : Int), (3 : Int), ([97] : List Int), (0 : Int), (0 : Int), []⟩ : T_api_Event)] : List T_api_Event))]] }), (42, Ht)] [0] [] 8 [.bool (r_8 == (0 : Int))] [] hmix (ar ([e_T_api_Packet r_2.1, .agg [Ii 7, Ii 1, Ii 1, .sl false 6 (List.map e_T_api_Event ([(⟨(5 : Int), (3 : Int), ([97] : List Int), (0 : Int), (0 : Int), []⟩ : T_api_Event)] : List T_api_Event))]] : List AV) (ac (rfl : ([] : List BoxSt) = []) (ac (triple_lo (args' := [e_T_api_Packet r_2.1, e_T_api_Packet (⟨(7 : Int), (1 : Int), (1 : Int), ([(⟨(5 : Int), (3 : Int), ([97] : List Int), (0 : Int), (0 : Int), []⟩ : T_api_Event)] : List T_api_Event)⟩ : T_api_Packet)]) (R11_Same_ok F r_2.1 (⟨(7 : Int), (1 : Int), (1 : Int), ([(⟨(5 : Int), (3 : Int), ([97] : List Int), (0 : Int), (0 : Int), []⟩ : T_api_Event)] : List T_api_Event)⟩ : T_api_Packet) r_5 h_6) rfl ⟨rfl, rfl, rfl, rfl, rfl, rfl, rfl, rfl, rfl, rfl, rfl, rfl, trivial⟩ : TripleG prog 16 [] [] [e_T_api_Packet r_2.1, .agg [Ii 7, Ii 1, Ii 1, .sl false 6 (List.map e_T_api_Event ([(⟨(5 : Int), (3 : Int), ([97] : List Int), (0 : Int), (0 : Int), []⟩ : T_api_Event)] : List T_api_Event))]] [] (.bool r_5)) (ac gg_2 (ac gg_2 (ac gg_2 (ac gg_3 (ac gg_3 (ac gg_3 (ac gg_4 (ac gg_4 (ac gg_5 (ac gg_5 (ac gg_5 (ac (vc_len _ : ((List.map e_T_api_Event r_3.1.Events)).length = (r_3.1.Events).length) (ac gg_5 (ac gg_5 (ac gg_6 (ac gg_6 (ac gg_7 (ac gg_7 (ac gg_7 (ar ([e_T_api_Packet r_4.1, .agg [Ii 7, Ii 1, Ii 1, .sl false 6 (List.map e_T_api_Event ([(⟨(5 : Int), (3 : Int), ([97] : List Int), (0 : Int), (0 : Int), []⟩ : T_api_Event)] : List T_api_Event))]] : List AV) (ac (rfl : ([] : List BoxSt) = []) (ac (triple_lo (args' := [e_T_api_Packet r_4.1, e_T_api_Packet (⟨(7 : Int), (1 : Int), (1 : Int), ([(⟨(5 : Int), (3 : Int), ([97] : List Int), (0 : Int), (0 : Int), []⟩ : T_api_Event)] : List T_api_Event)⟩ : T_api_Packet)]) (R11_Same_ok F r_4.1 (⟨(7 : Int), (1 : Int), (1 : Int), ([(⟨(5 : Int), (3 : Int), ([97] : List Int), (0 : Int), (0 : Int), []⟩ : T_api_Event)] : List T_api_Event)⟩ : T_api_Packet) r_6 h_7) rfl ⟨rfl, rfl, rfl, rfl, rfl, rfl, rfl, rfl, rfl, rfl, rfl, rfl, trivial⟩ : TripleG prog 16 [] [] [e_T_api_Packet r_4.1, .agg [Ii 7, Ii 1, Ii 1, .sl false 6 (List.map e_T_api_Event ([(⟨(5 : Int), (3 : Int), ([97] : List Int), (0 : Int), (0 : Int), []⟩ : T_api_Event)] : List T_api_Event))]] [] (.bool r_6)) (ac gg_7 (ac gg_8 (ac gg_8 (ac gg_8 (ac gg_8 (ac gg_9 (ac gg_9 (ac gg_9 (ar ([.agg [Ii 7, Ii 1, Ii 1, .sl false 6 (List.map e_T_api_Event ([(⟨(5 : Int), (3 : Int), ([97] : List Int), (0 : Int), (0 : Int), []⟩ : T_api_Event)] : List T_api_Event))], e_T_api_Packet r_2.1] : List AV) (ac (rfl : ([] : List BoxSt) = []) (ac (triple_lo (args' := [e_T_api_Packet (⟨(7 : Int), (1 : Int), (1 : Int), ([(⟨(5 : Int), (3 : Int), ([97] : List Int), (0 : Int), (0 : Int), []⟩ : T_api_Event)] : List T_api_Event)⟩ : T_api_Packet), e_T_api_Packet r_2.1]) (packet_Same_ok F (⟨(7 : Int), (1 : Int), (1 : Int), ([(⟨(5 : Int), (3 : Int), ([97] : List Int), (0 : Int), (0 : Int), []⟩ : T_api_Event)] : List T_api_Event)⟩ : T_api_Packet) r_2.1 r_7 h_8) rfl ⟨rfl, rfl, rfl, rfl, rfl, rfl, rfl, rfl, rfl, rfl, rfl, rfl, trivial⟩ : TripleG prog 15 [] [] [.agg [Ii 7, Ii 1, Ii 1, .sl false 6 (List.map e_T_api_Event ([(⟨(5 : Int), (3 : Int), ([97] : List Int), (0 : Int), (0 : Int), []⟩ : T_api_Event)] : List T_api_Event))], e_T_api_Packet r_2.1] [] (.bool r_7)) (ac gg_9 (ac gg_10 (ac gg_10 (ar ([.agg [Ii 7, Ii 1, Ii 1, .sl false 6 (List.map e_T_api_Event ([(⟨(5 : Int), (3 : Int), ([97] : List Int), (0 : Int), (0 : Int), []⟩ : T_api_Event)] : List T_api_Event))]] : List AV) (ac (rfl : ([] : List BoxSt) = []) (ac (triple_lo (args' := [e_T_api_Packet (⟨(7 : Int), (1 : Int), (1 : Int), ([(⟨(5 : Int), (3 : Int), ([97] : List Int), (0 : Int), (0 : Int), []⟩ : T_api_Event)] : List T_api_Event)⟩ : T_api_Packet)]) (packet_Check_ok F (⟨(7 : Int), (1 : Int), (1 : Int), ([(⟨(5 : Int), (3 : Int), ([97] : List Int), (0 : Int), (0 : Int), []⟩ : T_api_Event)] : List T_api_Event)⟩ : T_api_Packet) r_8 h_9) rfl ⟨rfl, rfl, rfl, rfl, rfl, rfl, trivial⟩ : TripleG prog 13 [] [] [.agg [Ii 7, Ii 1, Ii 1, .sl false 6 (List.map e_T_api_Event ([(⟨(5 : Int), (3 : Int), ([97] : List Int), (0 : Int), (0 : Int), []⟩ : T_api_Event)] : List T_api_Event))]] [] (Ii r_8)) (ac gg_10 (ac gg_10 an)))))))))))))))))))))))))))))))))))))))))))) ?_
                      replace h := Option.some.inj h; subst h
                      exact ⟨rfl, (sw [] [] [.s 0] [] an)⟩
                    · replace h := cond_f gg_10 h
                      refine rg [(2, { av := .bool r_5, l := [e_T_api_Packet r_2.1, .agg [Ii 7, Ii 1, Ii 1, .sl false 6 (List.map e_T_api_Event ([(⟨(5 : Int), (3 : Int), ([97] : List Int), (0 : Int), (0 : Int), []⟩ : T_api_Event)] : List T_api_Event))]] }), (6, Ht), (10, Ht), (13, Ht), (17, { n := (r_3.1.Events).length }), (19, Ht), (22, Ht), (26, { av := .bool r_6, l := [e_T_api_Packet r_4.1, .agg [Ii 7, Ii 1, Ii 1, .sl false 6 (List.map e_T_api_Event ([(⟨(5 : Int), (3 : Int), ([97] : List Int), (0 : Int), (0 : Int), []⟩ : T_api_Event)] : List T_api_Event))]] }), (27, Ht), (32, Ht), (36, { av := .bool r_7, l := [.agg [Ii 7, Ii 1, Ii 1, .sl false 6 (List.map e_T_api_Event ([(⟨(5 : Int), (3 : Int), ([97] : List Int), (0 : Int), (0 : Int), []⟩ : T_api_Event)] : List T_api_Event))], e_T_api_Packet r_2.1] }), (37, Ht), (39, Hg), (40, Hg), (41, Hg), (42, Hf)] [0] [] 8 [.bool false] [] hmix (ar ([e_T_api_Packet r_2.1, .agg [Ii 7, Ii 1, Ii 1, .sl false 6 (List.map e_T_api_Event ([(⟨(5 : Int), (3 : Int), ([97] : List Int), (0 : Int), (0 : Int), []⟩ : T_api_Event)] : List T_api_Event))]] : List AV) (ac (rfl : ([] : List BoxSt) = []) (ac (triple_lo (args' := [e_T_api_Packet r_2.1, e_T_api_Packet (⟨(7 : Int), (1 : Int), (1 : Int), ([(⟨(5 : Int), (3 : Int), ([97] : List Int), (0 : Int), (0 : Int), []⟩ : T_api_Event)] : List T_api_Event)⟩ : T_api_Packet)]) (R11_Same_ok F r_2.1 (⟨(7 : Int), (1 : Int), (1 : Int), ([(⟨(5 : Int), (3 : Int), ([97] : List Int), (0 : Int), (0 : Int), []⟩ : T_api_Event)] : List T_api_Event)⟩ : T_api_Packet) r_5 h_6) rfl ⟨rfl, rfl, rfl, rfl, rfl, rfl, rfl, rfl, rfl, rfl, rfl, rfl, trivial⟩ : TripleG prog 16 [] [] [e_T_api_Packet r_2.1, .agg [Ii 7, Ii 1, Ii 1, .sl false 6 (List.map e_T_api_Event ([(⟨(5 : Int), (3 : Int), ([97] : List Int), (0 : Int), (0 : Int), []⟩ : T_api_Event)] : List T_api_Event))]] [] (.bool r_5)) (ac gg_2 (ac gg_2 (ac gg_2 (ac gg_3 (ac gg_3 (ac gg_3 (ac gg_4 (ac gg_4 (ac gg_5 (ac gg_5 (ac gg_5 (ac (vc_len _ : ((List.map e_T_api_Event r_3.1.Events)).length = (r_3.1.Events).length) (ac gg_5 (ac gg_5 (ac gg_6 (ac gg_6 (ac gg_7 (ac gg_7 (ac gg_7 (ar ([e_T_api_Packet r_4.1, .agg [Ii 7, Ii 1, Ii 1, .sl false 6 (List.map e_T_api_Event ([(⟨(5 : Int), (3 : Int), ([97] : List Int), (0 : Int), (0 : Int), []⟩ : T_api_Event)] : List T_api_Event))]] : List AV) (ac (rfl : ([] : List BoxSt) = []) (ac (triple_lo (args' := [e_T_api_Packet r_4.1, e_T_api_Packet (⟨(7 : Int), (1 : Int), (1 : Int), ([(⟨(5 : Int), (3 : Int), ([97] : List Int), (0 : Int), (0 : Int), []⟩ : T_api_Event)] : List T_api_Event)⟩ : T_api_Packet)]) (R11_Same_ok F r_4.1 (⟨(7 : Int), (1 : Int), (1 : Int), ([(⟨(5 : Int), (3 : Int), ([97] : List Int), (0 : Int), (0 : Int), []⟩ : T_api_Event)] : List T_api_Event)⟩ : T_api_Packet) r_6 h_7) rfl ⟨rfl, rfl, rfl, rfl, rfl, rfl, rfl, rfl, rfl, rfl, rfl, rfl, trivial⟩ : TripleG prog 16 [] [] [e_T_api_Packet r_4.1, .agg [Ii 7, Ii 1, Ii 1, .sl false 6 (List.map e_T_api_Event ([(⟨(5 : Int), (3 : Int), ([97] : List Int), (0 : Int), (0 : Int), []⟩ : T_api_Event)] : List T_api_Event))]] [] (.bool r_6)) (ac gg_7 (ac gg_8 (ac gg_8 (ac gg_8 (ac gg_8 (ac gg_9 (ac gg_9 (ac gg_9 (ar ([.agg [Ii 7, Ii 1, Ii 1, .sl false 6 (List.map e_T_api_Event ([(⟨(5 : Int), (3 : Int), ([97] : List Int), (0 : Int), (0 : Int), []⟩ : T_api_Event)] : List T_api_Event))], e_T_api_Packet r_2.1] : List AV) (ac (rfl : ([] : List BoxSt) = []) (ac (triple_lo (args' := [e_T_api_Packet (⟨(7 : Int), (1 : Int), (1 : Int), ([(⟨(5 : Int), (3 : Int), ([97] : List Int), (0 : Int), (0 : Int), []⟩ : T_api_Event)] : List T_api_Event)⟩ : T_api_Packet), e_T_api_Packet r_2.1]) (packet_Same_ok F (⟨(7 : Int), (1 : Int), (1 : Int), ([(⟨(5 : Int), (3 : Int), ([97] : List Int), (0 : Int), (0 : Int), []⟩ : T_api_Event)] : List T_api_Event)⟩ : T_api_Packet) r_2.1 r_7 h_8) rfl ⟨rfl, rfl, rfl, rfl, rfl, rfl, rfl, rfl, rfl, rfl, rfl, rfl, trivial⟩ : TripleG prog 15 [] [] [.agg [Ii 7, Ii 1, Ii 1, .sl false 6 (List.map e_T_api_Event ([(⟨(5 : Int), (3 : Int), ([97] : List Int), (0 : Int), (0 : Int), []⟩ : T_api_Event)] : List T_api_Event))], e_T_api_Packet r_2.1] [] (.bool r_7)) (ac gg_9 (ac gg_10 (ac gg_10 (ac gg_10 (ac gg_10 an))))))))))))))))))))))))))))))))))))))))) ?_
                      replace h := Option.some.inj h; subst h
                      exact ⟨rfl, (sw [] [] [.s 0] [] an)⟩
                  · replace h := cond_f gg_9 h
                    refine rg [(2, { av := .bool r_5, l := [e_T_api_Packet r_2.1, .agg [Ii 7, Ii 1, Ii 1, .sl false 6 (List.map e_T_api_Event ([(⟨(5 : Int), (3 : Int), ([97] : List Int), (0 : Int), (0 : Int), []⟩ : T_api_Event)] : List T_api_Event))]] }), (6, Ht), (10, Ht), (13, Ht), (17, { n := (r_3.1.Events).length }), (19, Ht), (22, Ht), (26, { av := .bool r_6, l := [e_T_api_Packet r_4.1, .agg [Ii 7, Ii 1, Ii 1, .sl false 6 (List.map e_T_api_Event ([(⟨(5 : Int), (3 : Int), ([97] : List Int), (0 : Int), (0 : Int), []⟩ : T_api_Event)] : List T_api_Event))]] }), (27, Ht), (32, Ht), (34, Hg), (35, Hg), (36, Hg), (37, Hf), (39, Hg), (40, Hg), (41, Hg), (42, Hf)] [0] [] 8 [.bool false] [] hmix (ar ([e_T_api_Packet r_2.1, .agg [Ii 7, Ii 1, Ii 1, .sl false 6 (List.map e_T_api_Event ([(⟨(5 : Int), (3 : Int), ([97] : List Int), (0 : Int), (0 : Int), []⟩ : T_api_Event)] : List T_api_Event))]] : List AV) (ac (rfl : ([] : List BoxSt) = []) (ac (triple_lo (args' := [e_T_api_Packet r_2.1, e_T_api_Packet (⟨(7 : Int), (1 : Int), (1 : Int), ([(⟨(5 : Int), (3 : Int), ([97] : List Int), (0 : Int), (0 : Int), []⟩ : T_api_Event)] : List T_api_Event)⟩ : T_api_Packet)]) (R11_Same_ok F r_2.1 (⟨(7 : Int), (1 : Int), (1 : Int), ([(⟨(5 : Int), (3 : Int), ([97] : List Int), (0 : Int), (0 : Int), []⟩ : T_api_Event)] : List T_api_Event)⟩ : T_api_Packet) r_5 h_6) rfl ⟨rfl, rfl, rfl, rfl, rfl, rfl, rfl, rfl, rfl, rfl, rfl, rfl, trivial⟩ : TripleG prog 16 [] [] [e_T_api_Packet r_2.1, .agg [Ii 7, Ii 1, Ii 1, .sl false 6 (List.map e_T_api_Event ([(⟨(5 : Int), (3 : Int), ([97] : List Int), (0 : Int), (0 : Int), []⟩ : T_api_Event)] : List T_api_Event))]] [] (.bool r_5)) (ac gg_2 (ac gg_2 (ac gg_2 (ac gg_3 (ac gg_3 (ac gg_3 (ac gg_4 (ac gg_4 (ac gg_5 (ac gg_5 (ac gg_5 (ac (vc_len _ : ((List.map e_T_api_Event r_3.1.Events)).length = (r_3.1.Events).length) (ac gg_5 (ac gg_5 (ac gg_6 (ac gg_6 (ac gg_7 (ac gg_7 (ac gg_7 (ar ([e_T_api_Packet r_4.1, .agg [Ii 7, Ii 1, Ii 1, .sl false 6 (List.map e_T_api_Event ([(⟨(5 : Int), (3 : Int), ([97] : List Int), (0 : Int), (0 : Int), []⟩ : T_api_Event)] : List T_api_Event))]] : List AV) (ac (rfl : ([] : List BoxSt) = []) (ac (triple_lo (args' := [e_T_api_Packet r_4.1, e_T_api_Packet (⟨(7 : Int), (1 : Int), (1 : Int), ([(⟨(5 : Int), (3 : Int), ([97] : List Int), (0 : Int), (0 : Int), []⟩ : T_api_Event)] : List T_api_Event)⟩ : T_api_Packet)]) (R11_Same_ok F r_4.1 (⟨(7 : Int), (1 : Int), (1 : Int), ([(⟨(5 : Int), (3 : Int), ([97] : List Int), (0 : Int), (0 : Int), []⟩ : T_api_Event)] : List T_api_Event)⟩ : T_api_Packet) r_6 h_7) rfl ⟨rfl, rfl, rfl, rfl, rfl, rfl, rfl, rfl, rfl, rfl, rfl, rfl, trivial⟩ : TripleG prog 16 [] [] [e_T_api_Packet r_4.1, .agg [Ii 7, Ii 1, Ii 1, .sl false 6 (List.map e_T_api_Event ([(⟨(5 : Int), (3 : Int), ([97] : List Int), (0 : Int), (0 : Int), []⟩ : T_api_Event)] : List T_api_Event))]] [] (.bool r_6)) (ac gg_7 (ac gg_8 (ac gg_8 (ac gg_8 (ac gg_8 (ac gg_9 (ac gg_9 (ac gg_9 (ac gg_9 (ac (rfl : false = !true) (ac (rfl : false = !true) (ac (rfl : false = !true) (ar false an)))))))))))))))))))))))))))))))))))))) ?_
                    replace h := Option.some.inj h; subst h
                    exact ⟨rfl, (sw [] [] [.s 0] [] an)⟩
                · replace h := cond_f gg_8 h
                  refine rg [(2, { av := .bool r_5, l := [e_T_api_Packet r_2.1, .agg [Ii 7, Ii 1, Ii 1, .sl false 6 (List.map e_T_api_Event ([(⟨(5 : Int), (3 : Int), ([97] : List Int), (0 : Int), (0 : Int), []⟩ : T_api_Event)] : List T_api_Event))]] }), (6, Ht), (10, Ht), (13, Ht), (17, { n := (r_3.1.Events).length }), (19, Ht), (22, Ht), (26, { av := .bool r_6, l := [e_T_api_Packet r_4.1, .agg [Ii 7, Ii 1, Ii 1, .sl false 6 (List.map e_T_api_Event ([(⟨(5 : Int), (3 : Int), ([97] : List Int), (0 : Int), (0 : Int), []⟩ : T_api_Event)] : List T_api_Event))]] }), (27, Ht), (29, Hg), (30, Hg), (31, Hg), (32, Hf), (34, Hg), (35, Hg), (36, Hg), (37, Hf), (39, Hg), (40, Hg), (41, Hg), (42, Hf)] [0] [] 8 [.bool false] [] hmix (ar ([e_T_api_Packet r_2.1, .agg [Ii 7, Ii 1, Ii 1, .sl false 6 (List.map e_T_api_Event ([(⟨(5 : Int), (3 : Int), ([97] : List Int), (0 : Int), (0 : Int), []⟩ : T_api_Event)] : List T_api_Event))]] : List AV) (ac (rfl : ([] : List BoxSt) = []) (ac (triple_lo (args' := [e_T_api_Packet r_2.1, e_T_api_Packet (⟨(7 : Int), (1 : Int), (1 : Int), ([(⟨(5 : Int), (3 : Int), ([97] : List Int), (0 : Int), (0 : Int), []⟩ : T_api_Event)] : List T_api_Event)⟩ : T_api_Packet)]) (R11_Same_ok F r_2.1 (⟨(7 : Int), (1 : Int), (1 : Int), ([(⟨(5 : Int), (3 : Int), ([97] : List Int), (0 : Int), (0 : Int), []⟩ : T_api_Event)] : List T_api_Event)⟩ : T_api_Packet) r_5 h_6) rfl ⟨rfl, rfl, rfl, rfl, rfl, rfl, rfl, rfl, rfl, rfl, rfl, rfl, trivial⟩ : TripleG prog 16 [] [] [e_T_api_Packet r_2.1, .agg [Ii 7, Ii 1, Ii 1, .sl false 6 (List.map e_T_api_Event ([(⟨(5 : Int), (3 : Int), ([97] : List Int), (0 : Int), (0 : Int), []⟩ : T_api_Event)] : List T_api_Event))]] [] (.bool r_5)) (ac gg_2 (ac gg_2 (ac gg_2 (ac gg_3 (ac gg_3 (ac gg_3 (ac gg_4 (ac gg_4 (ac gg_5 (ac gg_5 (ac gg_5 (ac (vc_len _ : ((List.map e_T_api_Event r_3.1.Events)).length = (r_3.1.Events).length) (ac gg_5 (ac gg_5 (ac gg_6 (ac gg_6 (ac gg_7 (ac gg_7 (ac gg_7 (ar ([e_T_api_Packet r_4.1, .agg [Ii 7, Ii 1, Ii 1, .sl false 6 (List.map e_T_api_Event ([(⟨(5 : Int), (3 : Int), ([97] : List Int), (0 : Int), (0 : Int), []⟩ : T_api_Event)] : List T_api_Event))]] : List AV) (ac (rfl : ([] : List BoxSt) = []) (ac (triple_lo (args' := [e_T_api_Packet r_4.1, e_T_api_Packet (⟨(7 : Int), (1 : Int), (1 : Int), ([(⟨(5 : Int), (3 : Int), ([97] : List Int), (0 : Int), (0 : Int), []⟩ : T_api_Event)] : List T_api_Event)⟩ : T_api_Packet)]) (R11_Same_ok F r_4.1 (⟨(7 : Int), (1 : Int), (1 : Int), ([(⟨(5 : Int), (3 : Int), ([97] : List Int), (0 : Int), (0 : Int), []⟩ : T_api_Event)] : List T_api_Event)⟩ : T_api_Packet) r_6 h_7) rfl ⟨rfl, rfl, rfl, rfl, rfl, rfl, rfl, rfl, rfl, rfl, rfl, rfl, trivial⟩ : TripleG prog 16 [] [] [e_T_api_Packet r_4.1, .agg [Ii 7, Ii 1, Ii 1, .sl false 6 (List.map e_T_api_Event ([(⟨(5 : Int), (3 : Int), ([97] : List Int), (0 : Int), (0 : Int), []⟩ : T_api_Event)] : List T_api_Event))]] [] (.bool r_6)) (ac gg_7 (ac gg_8 (ac gg_8 (ac gg_8 (ac gg_8 (ac (rfl : false = !true) (ac (rfl : false = !true) (ac (rfl : false = !true) (ar false (ac (rfl : false = !true) (ac (rfl : false = !true) (ac (rfl : false = !true) (ar false an)))))))))))))))))))))))))))))))))))))) ?_
                  replace h := Option.some.inj h; subst h
                  exact ⟨rfl, (sw [] [] [.s 0] [] an)⟩
              · replace h := cond_f gg_7 h
                refine rg [(2, { av := .bool r_5, l := [e_T_api_Packet r_2.1, .agg [Ii 7, Ii 1, Ii 1, .sl false 6 (List.map e_T_api_Event ([(⟨(5 : Int), (3 : Int), ([97] : List Int), (0 : Int), (0 : Int), []⟩ : T_api_Event)] : List T_api_Event))]] }), (6, Ht), (10, Ht), (13, Ht), (17, { n := (r_3.1.Events).length }), (19, Ht), (22, Ht), (24, Hg), (25, Hg), (26, Hg), (27, Hf), (29, Hg), (30, Hg), (31, Hg), (32, Hf), (34, Hg), (35, Hg), (36, Hg), (37, Hf), (39, Hg), (40, Hg), (41, Hg), (42, Hf)] [0] [] 8 [.bool false] [] hmix (ar ([e_T_api_Packet r_2.1, .agg [Ii 7, Ii 1, Ii 1, .sl false 6 (List.map e_T_api_Event ([(⟨(5 : Int), (3 : Int), ([97] : List Int), (0 : Int), (0 : Int), []⟩ : T_api_Event)] : List T_api_Event))]] : List AV) (ac (rfl : ([] : List BoxSt) = []) (ac (triple_lo (args' := [e_T_api_Packet r_2.1, e_T_api_Packet (⟨(7 : Int), (1 : Int), (1 : Int), ([(⟨(5 : Int), (3 : Int), ([97] : List Int), (0 : Int), (0 : Int), []⟩ : T_api_Event)] : List T_api_Event)⟩ : T_api_Packet)]) (R11_Same_ok F r_2.1 (⟨(7 : Int), (1 : Int), (1 : Int), ([(⟨(5 : Int), (3 : Int), ([97] : List Int), (0 : Int), (0 : Int), []⟩ : T_api_Event)] : List T_api_Event)⟩ : T_api_Packet) r_5 h_6) rfl ⟨rfl, rfl, rfl, rfl, rfl, rfl, rfl, rfl, rfl, rfl, rfl, rfl, trivial⟩ : TripleG prog 16 [] [] [e_T_api_Packet r_2.1, .agg [Ii 7, Ii 1, Ii 1, .sl false 6 (List.map e_T_api_Event ([(⟨(5 : Int), (3 : Int), ([97] : List Int), (0 : Int), (0 : Int), []⟩ : T_api_Event)] : List T_api_Event))]] [] (.bool r_5)) (ac gg_2 (ac gg_2 (ac gg_2 (ac gg_3 (ac gg_3 (ac gg_3 (ac gg_4 (ac gg_4 (ac gg_5 (ac gg_5 (ac gg_5 (ac (vc_len _ : ((List.map e_T_api_Event r_3.1.Events)).length = (r_3.1.Events).length) (ac gg_5 (ac gg_5 (ac gg_6 (ac gg_6 (ac gg_7 (ac gg_7 (ac gg_7 (ac gg_7 (ac (rfl : false = !true) (ac (rfl : false = !true) (ac (rfl : false = !true) (ar false (ac (rfl : false = !true) (ac (rfl : false = !true) (ac (rfl : false = !true) (ar false (ac (rfl : false = !true) (ac (rfl : false = !true) (ac (rfl : false = !true) (ar false an))))))))))))))))))))))))))))))))))) ?_
                replace h := Option.some.inj h; subst h
                exact ⟨rfl, (sw [] [] [.s 0] [] an)⟩
            · replace h := cond_f gg_6 h
              refine rg [(2, { av := .bool r_5, l := [e_T_api_Packet r_2.1, .agg [Ii 7, Ii 1, Ii 1, .sl false 6 (List.map e_T_api_Event ([(⟨(5 : Int), (3 : Int), ([97] : List Int), (0 : Int), (0 : Int), []⟩ : T_api_Event)] : List T_api_Event))]] }), (6, Ht), (10, Ht), (13, Ht), (17, { n := (r_3.1.Events).length }), (19, Ht), (21, Hg), (22, Hf), (24, Hg), (25, Hg), (26, Hg), (27, Hf), (29, Hg), (30, Hg), (31, Hg), (32, Hf), (34, Hg), (35, Hg), (36, Hg), (37, Hf), (39, Hg), (40, Hg), (41, Hg), (42, Hf)] [0] [] 8 [.bool false] [] hmix (ar ([e_T_api_Packet r_2.1, .agg [Ii 7, Ii 1, Ii 1, .sl false 6 (List.map e_T_api_Event ([(⟨(5 : Int), (3 : Int), ([97] : List Int), (0 : Int), (0 : Int), []⟩ : T_api_Event)] : List T_api_Event))]] : List AV) (ac (rfl : ([] : List BoxSt) = []) (ac (triple_lo (args' := [e_T_api_Packet r_2.1, e_T_api_Packet (⟨(7 : Int), (1 : Int), (1 : Int), ([(⟨(5 : Int), (3 : Int), ([97] : List Int), (0 : Int), (0 : Int), []⟩ : T_api_Event)] : List T_api_Event)⟩ : T_api_Packet)]) (R11_Same_ok F r_2.1 (⟨(7 : Int), (1 : Int), (1 : Int), ([(⟨(5 : Int), (3 : Int), ([97] : List Int), (0 : Int), (0 : Int), []⟩ : T_api_Event)] : List T_api_Event)⟩ : T_api_Packet) r_5 h_6) rfl ⟨rfl, rfl, rfl, rfl, rfl, rfl, rfl, rfl, rfl, rfl, rfl, rfl, trivial⟩ : TripleG prog 16 [] [] [e_T_api_Packet r_2.1, .agg [Ii 7, Ii 1, Ii 1, .sl false 6 (List.map e_T_api_Event ([(⟨(5 : Int), (3 : Int), ([97] : List Int), (0 : Int), (0 : Int), []⟩ : T_api_Event)] : List T_api_Event))]] [] (.bool r_5)) (ac gg_2 (ac gg_2 (ac gg_2 (ac gg_3 (ac gg_3 (ac gg_3 (ac gg_4 (ac gg_4 (ac gg_5 (ac gg_5 (ac gg_5 (ac (vc_len _ : ((List.map e_T_api_Event r_3.1.Events)).length = (r_3.1.Events).length) (ac gg_5 (ac gg_5 (ac gg_6 (ac gg_6 (ac (rfl : false = !true) (ac (rfl : false = !true) (ac (rfl : false = !true) (ar false (ac (rfl : false = !true) (ac (rfl : false = !true) (ac (rfl : false = !true) (ar false (ac (rfl : false = !true) (ac (rfl : false = !true) (ac (rfl : false = !true) (ar false (ac (rfl : false = !true) (ac (rfl : false = !true) (ac (rfl : false = !true) (ar false an))))))))))))))))))))))))))))))))))) ?_
              replace h := Option.some.inj h; subst h
              exact ⟨rfl, (sw [] [] [.s 0] [] an)⟩
          · replace h := cond_f gg_5 h
            refine rg [(2, { av := .bool r_5, l := [e_T_api_Packet r_2.1, .agg [Ii 7, Ii 1, Ii 1, .sl false 6 (List.map e_T_api_Event ([(⟨(5 : Int), (3 : Int), ([97] : List Int), (0 : Int), (0 : Int), []⟩ : T_api_Event)] : List T_api_Event))]] }), (6, Ht), (10, Ht), (13, Ht), (15, Hg), (16, Hg), (17, Hg), (18, Hg), (19, Hf), (21, Hg), (22, Hf), (24, Hg), (25, Hg), (26, Hg), (27, Hf), (29, Hg), (30, Hg), (31, Hg), (32, Hf), (34, Hg), (35, Hg), (36, Hg), (37, Hf), (39, Hg), (40, Hg), (41, Hg), (42, Hf)] [0] [] 8 [.bool false] [] hmix (ar ([e_T_api_Packet r_2.1, .agg [Ii 7, Ii 1, Ii 1, .sl false 6 (List.map e_T_api_Event ([(⟨(5 : Int), (3 : Int), ([97] : List Int), (0 : Int), (0 : Int), []⟩ : T_api_Event)] : List T_api_Event))]] : List AV) (ac (rfl : ([] : List BoxSt) = []) (ac (triple_lo (args' := [e_T_api_Packet r_2.1, e_T_api_Packet (⟨(7 : Int), (1 : Int), (1 : Int), ([(⟨(5 : Int), (3 : Int), ([97] : List Int), (0 : Int), (0 : Int), []⟩ : T_api_Event)] : List T_api_Event)⟩ : T_api_Packet)]) (R11_Same_ok F r_2.1 (⟨(7 : Int), (1 : Int), (1 : Int), ([(⟨(5 : Int), (3 : Int), ([97] : List Int), (0 : Int), (0 : Int), []⟩ : T_api_Event)] : List T_api_Event)⟩ : T_api_Packet) r_5 h_6) rfl ⟨rfl, rfl, rfl, rfl, rfl, rfl, rfl, rfl, rfl, rfl, rfl, rfl, trivial⟩ : TripleG prog 16 [] [] [e_T_api_Packet r_2.1, .agg [Ii 7, Ii 1, Ii 1, .sl false 6 (List.map e_T_api_Event ([(⟨(5 : Int), (3 : Int), ([97] : List Int), (0 : Int), (0 : Int), []⟩ : T_api_Event)] : List T_api_Event))]] [] (.bool r_5)) (ac gg_2 (ac gg_2 (ac gg_2 (ac gg_3 (ac gg_3 (ac gg_3 (ac gg_4 (ac gg_4 (ac gg_5 (ac gg_5 (ac gg_5 (ac gg_5 (ac gg_5 (ac (rfl : false = !true) (ar false (ac (rfl : false = !true) (ac (rfl : false = !true) (ac (rfl : false = !true) (ar false (ac (rfl : false = !true) (ac (rfl : false = !true) (ac (rfl : false = !true) (ar false (ac (rfl : false = !true) (ac (rfl : false = !true) (ac (rfl : false = !true) (ar false (ac (rfl : false = !true) (ac (rfl : false = !true) (ac (rfl : false = !true) (ar false an)))))))))))))))))))))))))))))))))) ?_
            replace h := Option.some.inj h; subst h
            exact ⟨rfl, (sw [] [] [.s 0] [] an)⟩
        · replace h := cond_f gg_4 h
          refine rg [(2, { av := .bool r_5, l := [e_T_api_Packet r_2.1, .agg [Ii 7, Ii 1, Ii 1, .sl false 6 (List.map e_T_api_Event ([(⟨(5 : Int), (3 : Int), ([97] : List Int), (0 : Int), (0 : Int), []⟩ : T_api_Event)] : List T_api_Event))]] }), (6, Ht), (10, Ht), (12, Hg), (13, Hf), (15, Hg), (16, Hg), (17, Hg), (18, Hg), (19, Hf), (21, Hg), (22, Hf), (24, Hg), (25, Hg), (26, Hg), (27, Hf), (29, Hg), (30, Hg), (31, Hg), (32, Hf), (34, Hg), (35, Hg), (36, Hg), (37, Hf), (39, Hg), (40, Hg), (41, Hg), (42, Hf)] [0] [] 8 [.bool false] [] hmix (ar ([e_T_api_Packet r_2.1, .agg [Ii 7, Ii 1, Ii 1, .sl false 6 (List.map e_T_api_Event ([(⟨(5 : Int), (3 : Int), ([97] : List Int), (0 : Int), (0 : Int), []⟩ : T_api_Event)] : List T_api_Event))]] : List AV) (ac (rfl : ([] : List BoxSt) = []) (ac (triple_lo (args' := [e_T_api_Packet r_2.1, e_T_api_Packet (⟨(7 : Int), (1 : Int), (1 : Int), ([(⟨(5 : Int), (3 : Int), ([97] : List Int), (0 : Int), (0 : Int), []⟩ : T_api_Event)] : List T_api_Event)⟩ : T_api_Packet)]) (R11_Same_ok F r_2.1 (⟨(7 : Int), (1 : Int), (1 : Int), ([(⟨(5 : Int), (3 : Int), ([97] : List Int), (0 : Int), (0 : Int), []⟩ : T_api_Event)] : List T_api_Event)⟩ : T_api_Packet) r_5 h_6) rfl ⟨rfl, rfl, rfl, rfl, rfl, rfl, rfl, rfl, rfl, rfl, rfl, rfl, trivial⟩ : TripleG prog 16 [] [] [e_T_api_Packet r_2.1, .agg [Ii 7, Ii 1, Ii 1, .sl false 6 (List.map e_T_api_Event ([(⟨(5 : Int), (3 : Int), ([97] : List Int), (0 : Int), (0 : Int), []⟩ : T_api_Event)] : List T_api_Event))]] [] (.bool r_5)) (ac gg_2 (ac gg_2 (ac gg_2 (ac gg_3 (ac gg_3 (ac gg_3 (ac gg_4 (ac gg_4 (ac (rfl : false = !true) (ac (rfl : false = !true) (ac (rfl : false = !true) (ac (rfl : false = !true) (ar false (ac (rfl : false = !true) (ar false (ac (rfl : false = !true) (ac (rfl : false = !true) (ac (rfl : false = !true) (ar false (ac (rfl : false = !true) (ac (rfl : false = !true) (ac (rfl : false = !true) (ar false (ac (rfl : false = !true) (ac (rfl : false = !true) (ac (rfl : false = !true) (ar false (ac (rfl : false = !true) (ac (rfl : false = !true) (ac (rfl : false = !true) (ar false an)))))))))))))))))))))))))))))))))) ?_
          replace h := Option.some.inj h; subst h
          exact ⟨rfl, (sw [] [] [.s 0] [] an)⟩
      · replace h := cond_f gg_3 h
        refine rg [(2, { av := .bool r_5, l := [e_T_api_Packet r_2.1, .agg [Ii 7, Ii 1, Ii 1, .sl false 6 (List.map e_T_api_Event ([(⟨(5 : Int), (3 : Int), ([97] : List Int), (0 : Int), (0 : Int), []⟩ : T_api_Event)] : List T_api_Event))]] }), (6, Ht), (8, Hg), (9, Hg), (10, Hf), (12, Hg), (13, Hf), (15, Hg), (16, Hg), (17, Hg), (18, Hg), (19, Hf), (21, Hg), (22, Hf), (24, Hg), (25, Hg), (26, Hg), (27, Hf), (29, Hg), (30, Hg), (31, Hg), (32, Hf), (34, Hg), (35, Hg), (36, Hg), (37, Hf), (39, Hg), (40, Hg), (41, Hg), (42, Hf)] [0] [] 8 [.bool false] [] hmix (ar ([e_T_api_Packet r_2.1, .agg [Ii 7, Ii 1, Ii 1, .sl false 6 (List.map e_T_api_Event ([(⟨(5 : Int), (3 : Int), ([97] : List Int), (0 : Int), (0 : Int), []⟩ : T_api_Event)] : List T_api_Event))]] : List AV) (ac (rfl : ([] : List BoxSt) = []) (ac (triple_lo (args' := [e_T_api_Packet r_2.1, e_T_api_Packet (⟨(7 : Int), (1 : Int), (1 : Int), ([(⟨(5 : Int), (3 : Int), ([97] : List Int), (0 : Int), (0 : Int), []⟩ : T_api_Event)] : List T_api_Event)⟩ : T_api_Packet)]) (R11_Same_ok F r_2.1 (⟨(7 : Int), (1 : Int), (1 : Int), ([(⟨(5 : Int), (3 : Int), ([97] : List Int), (0 : Int), (0 : Int), []⟩ : T_api_Event)] : List T_api_Event)⟩ : T_api_Packet) r_5 h_6) rfl ⟨rfl, rfl, rfl, rfl, rfl, rfl, rfl, rfl, rfl, rfl, rfl, rfl, trivial⟩ : TripleG prog 16 [] [] [e_T_api_Packet r_2.1, .agg [Ii 7, Ii 1, Ii 1, .sl false 6 (List.map e_T_api_Event ([(⟨(5 : Int), (3 : Int), ([97] : List Int), (0 : Int), (0 : Int), []⟩ : T_api_Event)] : List T_api_Event))]] [] (.bool r_5)) (ac gg_2 (ac gg_2 (ac gg_2 (ac gg_3 (ac gg_3 (ac gg_3 (ac (rfl : false = !true) (ar false (ac (rfl : false = !true) (ac (rfl : false = !true) (ac (rfl : false = !true) (ac (rfl : false = !true) (ar false (ac (rfl : false = !true) (ar false (ac (rfl : false = !true) (ac (rfl : false = !true) (ac (rfl : false = !true) (ar false (ac (rfl : false = !true) (ac (rfl : false = !true) (ac (rfl : false = !true) (ar false (ac (rfl : false = !true) (ac (rfl : false = !true) (ac (rfl : false = !true) (ar false (ac (rfl : false = !true) (ac (rfl : false = !true) (ac (rfl : false = !true) (ar false an)))))))))))))))))))))))))))))))))) ?_
        replace h := Option.some.inj h; subst h
        exact ⟨rfl, (sw [] [] [.s 0] [] an)⟩
    · replace h := cond_f gg_2 h
      refine rg [(2, { av := .bool r_5, l := [e_T_api_Packet r_2.1, .agg [Ii 7, Ii 1, Ii 1, .sl false 6 (List.map e_T_api_Event ([(⟨(5 : Int), (3 : Int), ([97] : List Int), (0 : Int), (0 : Int), []⟩ : T_api_Event)] : List T_api_Event))]] }), (4, Hg), (5, Hg), (6, Hf), (8, Hg), (9, Hg), (10, Hf), (12, Hg), (13, Hf), (15, Hg), (16, Hg), (17, Hg), (18, Hg), (19, Hf), (21, Hg), (22, Hf), (24, Hg), (25, Hg), (26, Hg), (27, Hf), (29, Hg), (30, Hg), (31, Hg), (32, Hf), (34, Hg), (35, Hg), (36, Hg), (37, Hf), (39, Hg), (40, Hg), (41, Hg), (42, Hf)] [0] [] 8 [.bool false] [] hmix (ar ([e_T_api_Packet r_2.1, .agg [Ii 7, Ii 1, Ii 1, .sl false 6 (List.map e_T_api_Event ([(⟨(5 : Int), (3 : Int), ([97] : List Int), (0 : Int), (0 : Int), []⟩ : T_api_Event)] : List T_api_Event))]] : List AV) (ac (rfl : ([] : List BoxSt) = []) (ac (triple_lo (args' := [e_T_api_Packet r_2.1, e_T_api_Packet (⟨(7 : Int), (1 : Int), (1 : Int), ([(⟨(5 : Int), (3 : Int), ([97] : List Int), (0 : Int), (0 : Int), []⟩ : T_api_Event)] : List T_api_Event)⟩ : T_api_Packet)]) (R11_Same_ok F r_2.1 (⟨(7 : Int), (1 : Int), (1 : Int), ([(⟨(5 : Int), (3 : Int), ([97] : List Int), (0 : Int), (0 : Int), []⟩ : T_api_Event)] : List T_api_Event)⟩ : T_api_Packet) r_5 h_6) rfl ⟨rfl, rfl, rfl, rfl, rfl, rfl, rfl, rfl, rfl, rfl, rfl, rfl, trivial⟩ : TripleG prog 16 [] [] [e_T_api_Packet r_2.1, .agg [Ii 7, Ii 1, Ii 1, .sl false 6 (List.map e_T_api_Event ([(⟨(5 : Int), (3 : Int), ([97] : List Int), (0 : Int), (0 : Int), []⟩ : T_api_Event)] : List T_api_Event))]] [] (.bool r_5)) (ac gg_2 (ac gg_2 (ac gg_2 (ac (rfl : false = !true) (ac (rfl : false = !true) (ar false (ac (rfl : false = !true) (ar false (ac (rfl : false = !true) (ac (rfl : false = !true) (ac (rfl : false = !true) (ac (rfl : false = !true) (ar false (ac (rfl : false = !true) (ar false (ac (rfl : false = !true) (ac (rfl : false = !true) (ac (rfl : false = !true) (ar false (ac (rfl : false = !true) (ac (rfl : false = !true) (ac (rfl : false = !true) (ar false (ac (rfl : false = !true) (ac (rfl : false = !true) (ac (rfl : false = !true) (ar false (ac (rfl : false = !true) (ac (rfl : false = !true) (ac (rfl : false = !true) (ar false an)))))))))))))))))))))))))))))))))) ?_
      replace h := Option.some.inj h; subst h
      exact ⟨rfl, (sw [] [] [.s 0] [] an)⟩
  refine aw_ret (by kernel_rfl) ?_
  replace h := Option.some.inj h; subst h
  exact ⟨.inr rfl, Nat.le_of_ble_eq_true rfl, by kernel_rfl⟩

end Go.Ab
