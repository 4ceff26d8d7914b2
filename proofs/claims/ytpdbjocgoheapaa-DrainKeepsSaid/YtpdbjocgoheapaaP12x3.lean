/- Printed: the typed Lean functions of the Go functions, or the proofs that the Go functions meet them. No conditions but those that the theorems name. -/
import Derived.Test.YtpdbjocgoheapaaP12x2
namespace Go.Ab
open Go
set_option linter.unusedVariables false
theorem L12_lost_ok (F : Nat) (l_1 : List (T_api_Packet)) (r : Int) (h : L12_lost F l_1 = some r) : TripleG prog 26 [] [] [.sl false 4 (Mp e_T_api_Packet l_1)] [] (Ii r) := by
 refine triple_intro (fn := Go.Proofs.Try.f26) (code := codeOf Go.Proofs.Try.f26) (by kernel_rfl) (by kernel_rfl) (Nat.le_of_ble_eq_true (by kernel_rfl)) ?_
 unfold L12_lost at h
 refine sr [] [0] [] 0 [.sl false 4 (Mp e_T_api_Packet l_1)] [] hmix an ?_
 refine sr [] [0, 3] [] 0 [.sl false 4 (Mp e_T_api_Packet l_1), Ii 0] [] hmix an ?_
 refine sq ?_
 refine sr [] [0, 3, 4] [] 0 [.sl false 4 (Mp e_T_api_Packet l_1), Ii 0, Ii 0] [] hmix an ?_
 obtain ⟨o_1, h_1, h⟩ := bind_some h
 refine aw_mid (mk [(3, Ii o_1)] [] 0) ?_ ?_
 ·replace h := h_1
  refine aw_block (id := 0) (by kernel_rfl) ?_
  refine wk [] [] [.s 0, .s 3, .s 4] [] [(0, .sl false 4 (Mp e_T_api_Packet l_1)), (3, Ii 0), (4, Ii 0)] [] an ?_
  refine aw_loopF (fun n st => ∃ (n_1 : Int), ∃ (i_1 : Int), st = mk [(0, .sl false 4 (Mp e_T_api_Packet l_1)), (3, Ii n_1), (4, Ii i_1)] [] 0 ∧ L12_lost_L1 F l_1 n n_1 i_1 = some o_1) F (by kernel_rfl) ⟨_, _, rfl, h⟩ ?_ ?_
  ·rintro _ ⟨_, _, _, h⟩; exact none_ne (h : (none : Option Int) = some o_1)
  rintro n_2 _ ⟨n_1, i_1, rfl, h⟩
  replace h : L12_lost_L1_body F l_1 (L12_lost_L1 F l_1 n_2) n_1 i_1 = some o_1 := h
  unfold L12_lost_L1_body at h
  refine sq ?_
  refine sr [(2, { n := (l_1).length })] [0, 3, 4, 8] [] 0 [.sl false 4 (Mp e_T_api_Packet l_1), Ii n_1, Ii i_1, .bool (decide (i_1 < (lN (l_1))))] [] hmix (ac (vc_len _ : ((Mp e_T_api_Packet l_1)).length = (l_1).length) an) ?_
  refine cd 8 (decide (i_1 < (lN (l_1)))) ?_ ?_
  rotate_left
  ·intro g_1; replace h := cond_f g_1 h
   refine aw_exit (id := 0) (by kernel_rfl) ?_
   cases h
   exact ⟨rfl, (sw [] [] [.s 3] [] an)⟩
  intro g_1; replace h := cond_t g_1 h
  refine sk ?_
  refine sq ?_
  refine aw_block (id := 1) (by kernel_rfl) ?_
  obtain ⟨x_1, h_2, h⟩ := bind_some h
  refine rg [(3, { av := e_T_api_Packet x_1 })] [0, 3, 4] [] 0 [.sl false 4 (Mp e_T_api_Packet l_1), Ii (w_i64 (n_1 + x_1.Lost)), Ii i_1] [] hmix (ac (vc_idx h_2 : idxA (Mp e_T_api_Packet l_1) i_1 = some (e_T_api_Packet x_1)) an) ?_
  refine rg [] [0, 3, 4] [] 0 [.sl false 4 (Mp e_T_api_Packet l_1), Ii (w_i64 (n_1 + x_1.Lost)), Ii (w_i64 (i_1 + (1 : Int)))] [] hmix an ?_
  exact ⟨_, (sw [] [] [.s 0, .s 3, .s 4] [] an), _, _, rfl, h⟩
 refine sr [] [2] [] 0 [Ii o_1] [] hmix an ?_
 refine rt ?_
 cases h
 exact ⟨.inr rfl, Nat.le_of_ble_eq_true rfl, by kernel_rfl⟩

theorem L12_events_ok (F : Nat) (l_1 : List (T_api_Packet)) (r : Int) (h : L12_events F l_1 = some r) : TripleG prog 27 [] [] [.sl false 4 (Mp e_T_api_Packet l_1)] [] (Ii r) := by
 refine triple_intro (fn := Go.Proofs.Try.f27) (code := codeOf Go.Proofs.Try.f27) (by kernel_rfl) (by kernel_rfl) (Nat.le_of_ble_eq_true (by kernel_rfl)) ?_
 unfold L12_events at h
 refine sr [] [0] [] 0 [.sl false 4 (Mp e_T_api_Packet l_1)] [] hmix an ?_
 refine sr [] [0, 3] [] 0 [.sl false 4 (Mp e_T_api_Packet l_1), Ii 0] [] hmix an ?_
 refine sq ?_
 refine sr [] [0, 3, 4] [] 0 [.sl false 4 (Mp e_T_api_Packet l_1), Ii 0, Ii 0] [] hmix an ?_
 obtain ⟨o_1, h_1, h⟩ := bind_some h
 refine aw_mid (mk [(3, Ii o_1)] [] 0) ?_ ?_
 ·replace h := h_1
  refine aw_block (id := 0) (by kernel_rfl) ?_
  refine wk [] [] [.s 0, .s 3, .s 4] [] [(0, .sl false 4 (Mp e_T_api_Packet l_1)), (3, Ii 0), (4, Ii 0)] [] an ?_
  refine aw_loopF (fun n st => ∃ (n_1 : Int), ∃ (i_1 : Int), st = mk [(0, .sl false 4 (Mp e_T_api_Packet l_1)), (3, Ii n_1), (4, Ii i_1)] [] 0 ∧ L12_events_L1 F l_1 n n_1 i_1 = some o_1) F (by kernel_rfl) ⟨_, _, rfl, h⟩ ?_ ?_
  ·rintro _ ⟨_, _, _, h⟩; exact none_ne (h : (none : Option Int) = some o_1)
  rintro n_2 _ ⟨n_1, i_1, rfl, h⟩
  replace h : L12_events_L1_body F l_1 (L12_events_L1 F l_1 n_2) n_1 i_1 = some o_1 := h
  unfold L12_events_L1_body at h
  refine sq ?_
  refine sr [(2, { n := (l_1).length })] [0, 3, 4, 8] [] 0 [.sl false 4 (Mp e_T_api_Packet l_1), Ii n_1, Ii i_1, .bool (decide (i_1 < (lN (l_1))))] [] hmix (ac (vc_len _ : ((Mp e_T_api_Packet l_1)).length = (l_1).length) an) ?_
  refine cd 8 (decide (i_1 < (lN (l_1)))) ?_ ?_
  rotate_left
  ·intro g_1; replace h := cond_f g_1 h
   refine aw_exit (id := 0) (by kernel_rfl) ?_
   cases h
   exact ⟨rfl, (sw [] [] [.s 3] [] an)⟩
  intro g_1; replace h := cond_t g_1 h
  refine sk ?_
  refine sq ?_
  refine aw_block (id := 1) (by kernel_rfl) ?_
  obtain ⟨x_1, h_2, h⟩ := bind_some h
  refine rg [(3, { av := e_T_api_Packet x_1 }), (6, { n := (x_1.Events).length })] [0, 3, 4] [] 0 [.sl false 4 (Mp e_T_api_Packet l_1), Ii (w_i64 (n_1 + (lN (x_1.Events)))), Ii i_1] [] hmix (ac (vc_idx h_2 : idxA (Mp e_T_api_Packet l_1) i_1 = some (e_T_api_Packet x_1)) (ac (vc_len _ : ((Mp e_T_api_Event x_1.Events)).length = (x_1.Events).length) an)) ?_
  refine rg [] [0, 3, 4] [] 0 [.sl false 4 (Mp e_T_api_Packet l_1), Ii (w_i64 (n_1 + (lN (x_1.Events)))), Ii (w_i64 (i_1 + (1 : Int)))] [] hmix an ?_
  exact ⟨_, (sw [] [] [.s 0, .s 3, .s 4] [] an), _, _, rfl, h⟩
 refine sr [] [2] [] 0 [Ii o_1] [] hmix an ?_
 refine rt ?_
 cases h
 exact ⟨.inr rfl, Nat.le_of_ble_eq_true rfl, by kernel_rfl⟩

theorem slices_Equal_string_string_ok (F : Nat) (s1_1 : List (List Int)) (s2_1 : List (List Int)) (r : Bool) (h : slices_Equal_string_string F s1_1 s2_1 = some r) : TripleG prog 63 [] [] [.sl false 1 (Ms s1_1), .sl false 1 (Ms s2_1)] [] (.bool r) := by
 refine triple_intro (fn := Go.Proofs.Try.f63) (code := codeOf Go.Proofs.Try.f63) (by kernel_rfl) (by kernel_rfl) (Nat.le_of_ble_eq_true (by kernel_rfl)) ?_
 unfold slices_Equal_string_string at h
 refine sr [] [0, 1] [] 0 [.sl false 1 (Ms s1_1), .sl false 1 (Ms s2_1)] [] hmix an ?_
 refine sq ?_
 refine sr [(1, { n := (s1_1).length }), (3, { n := (s2_1).length })] [0, 1, 10] [] 0 [.sl false 1 (Ms s1_1), .sl false 1 (Ms s2_1), .bool ((lN (s1_1)) != (lN (s2_1)))] [] hmix (ac (vc_len _ : ((Ms s1_1)).length = (s1_1).length) (ac (vc_len _ : ((Ms s2_1)).length = (s2_1).length) an)) ?_
 refine cd 10 ((lN (s1_1)) != (lN (s2_1))) ?_ ?_
 ·intro g_1; replace h := cond_t g_1 h
  refine sr [] [4] [] 0 [.bool false] [] hmix an ?_
  refine rt ?_
  cases h
  exact ⟨.inr rfl, Nat.le_of_ble_eq_true rfl, by kernel_rfl⟩
 intro g_1; replace h := cond_f g_1 h
 refine sk ?_
 refine sq ?_
 refine sr [(1, { n := (s1_1).length })] [0, 1, 12, 13] [] 0 [.sl false 1 (Ms s1_1), .sl false 1 (Ms s2_1), Ii (lN (s1_1)), Ii 0] [] hmix (ac (vc_len _ : ((Ms s1_1)).length = (s1_1).length) an) ?_
 obtain ⟨o_1, h_1, h⟩ := bind_some h
 refine aw_conv (K1 := (fun e st' => match o_1 with | (.inl q0) => e = .normal ∧ Sub 0 st' (mk [] [] 0) | (.inr q1) => e = .ret ∧ FinR prog Go.Proofs.Try.f63 0 [] (.bool q1) st')) ?_ ?_
 ·replace h := h_1
  refine aw_block (id := 0) (by kernel_rfl) ?_
  refine wk [] [] [.s 0, .s 1, .s 12, .s 13] [] [(0, .sl false 1 (Ms s1_1)), (1, .sl false 1 (Ms s2_1)), (12, Ii (lN (s1_1))), (13, Ii 0)] [] an ?_
  refine aw_loopF (fun n st => ∃ (v_1 : Int), st = mk [(0, .sl false 1 (Ms s1_1)), (1, .sl false 1 (Ms s2_1)), (12, Ii (lN (s1_1))), (13, Ii v_1)] [] 0 ∧ slices_Equal_string_string_L1 F s1_1 s2_1 n v_1 = some o_1) F (by kernel_rfl) ⟨_, rfl, h⟩ ?_ ?_
  ·rintro _ ⟨_, _, h⟩; exact none_ne (h : (none : Option (Unit ⊕ Bool)) = some o_1)
  rintro n_1 _ ⟨v_1, rfl, h⟩
  replace h : slices_Equal_string_string_L1_body F s1_1 s2_1 (slices_Equal_string_string_L1 F s1_1 s2_1 n_1) v_1 = some o_1 := h
  unfold slices_Equal_string_string_L1_body at h
  refine sr [] [0, 1, 12, 13, 14] [] 0 [.sl false 1 (Ms s1_1), .sl false 1 (Ms s2_1), Ii (lN (s1_1)), Ii v_1, .bool (decide (v_1 < (lN (s1_1))))] [] hmix an ?_
  refine sq ?_
  refine cd 14 (decide (v_1 < (lN (s1_1)))) ?_ ?_
  rotate_left
  ·intro g_2; replace h := cond_f g_2 h
   refine aw_exit (id := 0) (by kernel_rfl) ?_
   cases h
   exact ⟨rfl, (sw [] [] [] [] an)⟩
  intro g_2; replace h := cond_t g_2 h
  refine sk ?_
  refine sq ?_
  refine aw_block (id := 1) (by kernel_rfl) ?_
  refine sr [] [0, 1, 5, 12, 13] [] 0 [.sl false 1 (Ms s1_1), .sl false 1 (Ms s2_1), Ii v_1, Ii (lN (s1_1)), Ii v_1] [] hmix an ?_
  refine sq ?_
  obtain ⟨x_1, h_2, h⟩ := bind_some h
  obtain ⟨x_2, h_3, h⟩ := bind_some h
  refine rg [(2, { av := .str x_1 }), (6, { av := .str x_2 })] [0, 1, 12, 13, 24] [] 0 [.sl false 1 (Ms s1_1), .sl false 1 (Ms s2_1), Ii (lN (s1_1)), Ii v_1, .bool (!(x_1 == x_2))] [] hmix (ac (vc_idx h_2 : idxA (Ms s1_1) v_1 = some (.str x_1)) (ac (vc_idx h_3 : idxA (Ms s2_1) v_1 = some (.str x_2)) an)) ?_
  refine cd 24 (!(x_1 == x_2)) ?_ ?_
  rotate_left
  ·intro g_3; replace h := cond_f g_3 h
   refine sk ?_
   refine rg [] [0, 1, 12, 13] [] 0 [.sl false 1 (Ms s1_1), .sl false 1 (Ms s2_1), Ii (lN (s1_1)), Ii (w_i64 (v_1 + (1 : Int)))] [] hmix an ?_
   exact ⟨_, (sw [] [] [.s 0, .s 1, .s 12, .s 13] [] an), _, rfl, h⟩
  intro g_3; replace h := cond_t g_3 h
  refine sr [] [4] [] 0 [.bool false] [] hmix an ?_
  refine rt ?_
  cases h
  exact ⟨rfl, Nat.le_of_ble_eq_true rfl, by kernel_rfl⟩
 intro e st1 hk
 rcases o_1 with q_1 | q_2
 rotate_left
 ·obtain ⟨rfl, hf⟩ := hk
  cases h
  exact ⟨st1, Sub.refl _ _, .inr rfl, hf⟩
 obtain ⟨rfl, hs⟩ := hk
 refine ⟨_, hs, ?_⟩
 refine sr [] [4] [] 0 [.bool true] [] hmix an ?_
 refine rt ?_
 cases h
 exact ⟨.inr rfl, Nat.le_of_ble_eq_true rfl, by kernel_rfl⟩

theorem event_Same_ok (F : Nat) (a_1 : T_api_Event) (b_1 : T_api_Event) (r : Bool) (h : event_Same F a_1 b_1 = some r) : TripleG prog 50 [] [] [e_T_api_Event a_1, e_T_api_Event b_1] [] (.bool r) := by
 refine triple_intro (fn := Go.Proofs.Try.f50) (code := codeOf Go.Proofs.Try.f50) (by kernel_rfl) (by kernel_rfl) (Nat.le_of_ble_eq_true (by kernel_rfl)) ?_
 unfold event_Same at h
 refine sr [(0, { id := 0 }), (1, { id := 1 })] [2, 3] [0, 1] 2 [Pp 0, Pp 1] [Vb 54 (v_T_api_Event a_1), Vb 54 (v_T_api_Event b_1)] hmix an ?_
 refine sq ?_
 obtain ⟨p_1, h_2, h⟩ := bind_some h
 refine aw_mid (mk [(4, .bool p_1)] [] 0) ?_ ?_
 ·replace h := h_2
  rcases bft (a_1.At == b_1.At) with gg_1 | gg_1
  ·replace h := cond_t gg_1 h
   rcases bft (a_1.Kind == b_1.Kind) with gg_2 | gg_2
   ·replace h := cond_t gg_2 h
    rcases bft (a_1.Name == b_1.Name) with gg_3 | gg_3
    ·replace h := cond_t gg_3 h
     rcases bft (a_1.N == b_1.N) with gg_4 | gg_4
     ·replace h := cond_t gg_4 h
      rcases bft (a_1.M == b_1.M) with gg_5 | gg_5
      ·replace h := cond_t gg_5 h
       obtain ⟨r_1, h_1, h⟩ := bind_some h
       refine rg [(11, Ht), (18, Ht), (25, Ht), (32, Ht), (38, { av := .bool r_1, l := [.sl false 1 (Ms a_1.Stack), .sl false 1 (Ms b_1.Stack)] }), (39, Ht)] [4] [] 2 [.bool r_1] [] hmix (ac gg_1 (ac gg_1 (ac gg_1 (ac gg_1 (ac gg_1 (ac gg_1 (ac gg_2 (ac gg_2 (ac gg_2 (ac gg_2 (ac gg_2 (ac gg_2 (ac gg_3 (ac gg_3 (ac gg_3 (ac gg_3 (ac gg_3 (ac gg_3 (ac gg_4 (ac gg_4 (ac gg_4 (ac gg_4 (ac gg_4 (ac gg_4 (ac gg_5 (ac gg_5 (ac gg_5 (ac gg_5 (ac gg_5 (ar ([.sl false 1 (Ms a_1.Stack), .sl false 1 (Ms b_1.Stack)] : List AV) (ac (rfl : ([] : List BoxSt) = []) (ac (slices_Equal_string_string_ok F a_1.Stack b_1.Stack r_1 h_1 : TripleG prog 63 [] [] [.sl false 1 (Ms a_1.Stack), .sl false 1 (Ms b_1.Stack)] [] (.bool r_1)) (ac gg_5 an))))))))))))))))))))))))))))))))) ?_
       cases h
       exact ⟨rfl, (sw [] [] [.s 4] [] an)⟩
      ·replace h := cond_f gg_5 h
       refine rg [(11, Ht), (18, Ht), (25, Ht), (32, Ht), (34, Hg), (35, Hg), (36, Hg), (37, Hg), (38, Hg), (39, Hf)] [4] [] 2 [.bool false] [] hmix (ac gg_1 (ac gg_1 (ac gg_1 (ac gg_1 (ac gg_1 (ac gg_1 (ac gg_2 (ac gg_2 (ac gg_2 (ac gg_2 (ac gg_2 (ac gg_2 (ac gg_3 (ac gg_3 (ac gg_3 (ac gg_3 (ac gg_3 (ac gg_3 (ac gg_4 (ac gg_4 (ac gg_4 (ac gg_4 (ac gg_4 (ac gg_4 (ac gg_5 (ac gg_5 (ac gg_5 (ac gg_5 (ac gg_5 (ac gg_5 an)))))))))))))))))))))))))))))) ?_
       cases h
       exact ⟨rfl, (sw [] [] [.s 4] [] an)⟩
     ·replace h := cond_f gg_4 h
      refine rg [(11, Ht), (18, Ht), (25, Ht), (27, Hg), (28, Hg), (29, Hg), (30, Hg), (31, Hg), (32, Hf), (34, Hg), (35, Hg), (36, Hg), (37, Hg), (38, Hg), (39, Hf)] [4] [] 2 [.bool false] [] hmix (ac gg_1 (ac gg_1 (ac gg_1 (ac gg_1 (ac gg_1 (ac gg_1 (ac gg_2 (ac gg_2 (ac gg_2 (ac gg_2 (ac gg_2 (ac gg_2 (ac gg_3 (ac gg_3 (ac gg_3 (ac gg_3 (ac gg_3 (ac gg_3 (ac gg_4 (ac gg_4 (ac gg_4 (ac gg_4 (ac gg_4 (ac gg_4 (ac (rfl : false = !true) (ac (rfl : false = !true) (ac (rfl : false = !true) (ac (rfl : false = !true) (ac (rfl : false = !true) (ar false an)))))))))))))))))))))))))))))) ?_
      cases h
      exact ⟨rfl, (sw [] [] [.s 4] [] an)⟩
    ·replace h := cond_f gg_3 h
     refine rg [(11, Ht), (18, Ht), (20, Hg), (21, Hg), (22, Hg), (23, Hg), (24, Hg), (25, Hf), (27, Hg), (28, Hg), (29, Hg), (30, Hg), (31, Hg), (32, Hf), (34, Hg), (35, Hg), (36, Hg), (37, Hg), (38, Hg), (39, Hf)] [4] [] 2 [.bool false] [] hmix (ac gg_1 (ac gg_1 (ac gg_1 (ac gg_1 (ac gg_1 (ac gg_1 (ac gg_2 (ac gg_2 (ac gg_2 (ac gg_2 (ac gg_2 (ac gg_2 (ac gg_3 (ac gg_3 (ac gg_3 (ac gg_3 (ac gg_3 (ac gg_3 (ac (rfl : false = !true) (ac (rfl : false = !true) (ac (rfl : false = !true) (ac (rfl : false = !true) (ac (rfl : false = !true) (ar false (ac (rfl : false = !true) (ac (rfl : false = !true) (ac (rfl : false = !true) (ac (rfl : false = !true) (ac (rfl : false = !true) (ar false an)))))))))))))))))))))))))))))) ?_
     cases h
     exact ⟨rfl, (sw [] [] [.s 4] [] an)⟩
   ·replace h := cond_f gg_2 h
    refine rg [(11, Ht), (13, Hg), (14, Hg), (15, Hg), (16, Hg), (17, Hg), (18, Hf), (20, Hg), (21, Hg), (22, Hg), (23, Hg), (24, Hg), (25, Hf), (27, Hg), (28, Hg), (29, Hg), (30, Hg), (31, Hg), (32, Hf), (34, Hg), (35, Hg), (36, Hg), (37, Hg), (38, Hg), (39, Hf)] [4] [] 2 [.bool false] [] hmix (ac gg_1 (ac gg_1 (ac gg_1 (ac gg_1 (ac gg_1 (ac gg_1 (ac gg_2 (ac gg_2 (ac gg_2 (ac gg_2 (ac gg_2 (ac gg_2 (ac (rfl : false = !true) (ac (rfl : false = !true) (ac (rfl : false = !true) (ac (rfl : false = !true) (ac (rfl : false = !true) (ar false (ac (rfl : false = !true) (ac (rfl : false = !true) (ac (rfl : false = !true) (ac (rfl : false = !true) (ac (rfl : false = !true) (ar false (ac (rfl : false = !true) (ac (rfl : false = !true) (ac (rfl : false = !true) (ac (rfl : false = !true) (ac (rfl : false = !true) (ar false an)))))))))))))))))))))))))))))) ?_
    cases h
    exact ⟨rfl, (sw [] [] [.s 4] [] an)⟩
  ·replace h := cond_f gg_1 h
   refine rg [(6, Hg), (7, Hg), (8, Hg), (9, Hg), (10, Hg), (11, Hf), (13, Hg), (14, Hg), (15, Hg), (16, Hg), (17, Hg), (18, Hf), (20, Hg), (21, Hg), (22, Hg), (23, Hg), (24, Hg), (25, Hf), (27, Hg), (28, Hg), (29, Hg), (30, Hg), (31, Hg), (32, Hf), (34, Hg), (35, Hg), (36, Hg), (37, Hg), (38, Hg), (39, Hf)] [4] [] 2 [.bool false] [] hmix (ac gg_1 (ac gg_1 (ac gg_1 (ac gg_1 (ac gg_1 (ac gg_1 (ac (rfl : false = !true) (ac (rfl : false = !true) (ac (rfl : false = !true) (ac (rfl : false = !true) (ac (rfl : false = !true) (ar false (ac (rfl : false = !true) (ac (rfl : false = !true) (ac (rfl : false = !true) (ac (rfl : false = !true) (ac (rfl : false = !true) (ar false (ac (rfl : false = !true) (ac (rfl : false = !true) (ac (rfl : false = !true) (ac (rfl : false = !true) (ac (rfl : false = !true) (ar false (ac (rfl : false = !true) (ac (rfl : false = !true) (ac (rfl : false = !true) (ac (rfl : false = !true) (ac (rfl : false = !true) (ar false an)))))))))))))))))))))))))))))) ?_
   cases h
   exact ⟨rfl, (sw [] [] [.s 4] [] an)⟩
 refine rt ?_
 cases h
 exact ⟨.inr rfl, Nat.le_of_ble_eq_true rfl, by kernel_rfl⟩

theorem L12_holds_ok (F : Nat) (l_1 : List (T_api_Packet)) (thread_1 : Int) (serial_1 : Int) (e_1 : T_api_Event) (r : Bool) (h : L12_holds F l_1 thread_1 serial_1 e_1 = some r) : TripleG prog 28 [] [] [.sl false 4 (Mp e_T_api_Packet l_1), Ii thread_1, Ii serial_1, e_T_api_Event e_1] [] (.bool r) := by
 refine triple_intro (fn := Go.Proofs.Try.f28) (code := codeOf Go.Proofs.Try.f28) (by kernel_rfl) (by kernel_rfl) (Nat.le_of_ble_eq_true (by kernel_rfl)) ?_
 unfold L12_holds at h
 refine sr [(0, { id := 0 })] [0, 1, 2, 7] [0] 1 [.sl false 4 (Mp e_T_api_Packet l_1), Ii thread_1, Ii serial_1, Pp 0] [Vb 54 (v_T_api_Event e_1)] hmix an ?_
 refine sq ?_
 refine sr [] [0, 1, 2, 7, 9] [0] 1 [.sl false 4 (Mp e_T_api_Packet l_1), Ii thread_1, Ii serial_1, Pp 0, Ii 0] [Vb 54 (v_T_api_Event e_1)] hmix an ?_
 obtain ⟨o_1, h_1, h⟩ := bind_some h
 refine aw_conv (K1 := (fun e st' => match o_1 with | (.inl q0) => e = .normal ∧ Sub 0 st' (mk [] [] 0) | (.inr q1) => e = .ret ∧ FinR prog Go.Proofs.Try.f28 0 [] (.bool q1) st')) ?_ ?_
 ·replace h := h_1
  refine aw_block (id := 0) (by kernel_rfl) ?_
  refine wk [0] [] [.s 0, .s 1, .s 2, .s 7, .s 9] [.s 0] [(0, .sl false 4 (Mp e_T_api_Packet l_1)), (1, Ii thread_1), (2, Ii serial_1), (7, Pp 0), (9, Ii 0)] [(0, Vb 54 (v_T_api_Event e_1))] an ?_
  refine aw_loopF (fun n st => ∃ (i_1 : Int), st = mk [(0, .sl false 4 (Mp e_T_api_Packet l_1)), (1, Ii thread_1), (2, Ii serial_1), (7, Pp 0), (9, Ii i_1)] [(0, Vb 54 (v_T_api_Event e_1))] 1 ∧ L12_holds_L1 F l_1 thread_1 serial_1 e_1 n i_1 = some o_1) F (by kernel_rfl) ⟨_, rfl, h⟩ ?_ ?_
  ·rintro _ ⟨_, _, h⟩; exact none_ne (h : (none : Option (Unit ⊕ Bool)) = some o_1)
  rintro n_1 _ ⟨i_1, rfl, h⟩
  replace h : L12_holds_L1_body F l_1 thread_1 serial_1 e_1 (L12_holds_L1 F l_1 thread_1 serial_1 e_1 n_1) i_1 = some o_1 := h
  unfold L12_holds_L1_body at h
  refine sq ?_
  refine sr [(2, { n := (l_1).length })] [0, 1, 2, 7, 9, 14] [0] 1 [.sl false 4 (Mp e_T_api_Packet l_1), Ii thread_1, Ii serial_1, Pp 0, Ii i_1, .bool (decide (i_1 < (lN (l_1))))] [Vb 54 (v_T_api_Event e_1)] hmix (ac (vc_len _ : ((Mp e_T_api_Packet l_1)).length = (l_1).length) an) ?_
  refine cd 14 (decide (i_1 < (lN (l_1)))) ?_ ?_
  rotate_left
  ·intro g_1; replace h := cond_f g_1 h
   refine aw_exit (id := 0) (by kernel_rfl) ?_
   cases h
   exact ⟨rfl, (sw [] [] [] [] an)⟩
  intro g_1; replace h := cond_t g_1 h
  refine sk ?_
  refine sq ?_
  refine aw_block (id := 1) (by kernel_rfl) ?_
  refine sq ?_
  obtain ⟨x_1, h_2, h⟩ := bind_some h
  refine rg [(3, { av := e_T_api_Packet x_1 })] [0, 1, 2, 7, 9, 10] [0] 1 [.sl false 4 (Mp e_T_api_Packet l_1), Ii thread_1, Ii serial_1, Pp 0, Ii i_1, Ii (w_i64 (serial_1 - x_1.Serial))] [Vb 54 (v_T_api_Event e_1)] hmix (ac (vc_idx h_2 : idxA (Mp e_T_api_Packet l_1) i_1 = some (e_T_api_Packet x_1)) an) ?_
  refine sq ?_
  obtain ⟨p_1, h_8, h⟩ := bind_some h
  refine aw_mid (mk [(0, .sl false 4 (Mp e_T_api_Packet l_1)), (1, Ii thread_1), (2, Ii serial_1), (7, Pp 0), (9, Ii i_1), (56, .bool p_1)] [(0, Vb 54 (v_T_api_Event e_1))] 1) ?_ ?_
  ·replace h := h_8
   obtain ⟨x_2, h_3, h⟩ := bind_some h
   rcases bft (x_2.Thread == thread_1) with gg_10 | gg_10
   ·replace h := cond_t gg_10 h
    rcases bft (decide ((w_i64 (serial_1 - x_1.Serial)) ≥ (0 : Int))) with gg_11 | gg_11
    ·replace h := cond_t gg_11 h
     obtain ⟨x_3, h_4, h⟩ := bind_some h
     rcases bft (decide ((w_i64 (serial_1 - x_1.Serial)) < (lN (x_3.Events)))) with gg_12 | gg_12
     ·replace h := cond_t gg_12 h
      obtain ⟨x_4, h_5, h⟩ := bind_some h
      obtain ⟨x_5, h_6, h⟩ := bind_some h
      obtain ⟨r_1, h_7, h⟩ := bind_some h
      refine rg [(2, { av := e_T_api_Packet x_2 }), (10, Ht), (15, { av := e_T_api_Packet x_3 }), (18, { n := (x_3.Events).length }), (20, Ht), (24, { av := e_T_api_Packet x_4 }), (28, { av := e_T_api_Event x_5 }), (31, { av := .bool r_1, l := [e_T_api_Event x_5, e_T_api_Event e_1] }), (32, Ht)] [0, 1, 2, 7, 9, 32, 33, 36, 37, 38, 39, 40, 41, 42, 43, 46, 47, 48, 49, 50, 51, 52, 53, 54, 55, 56] [0] 1 [.sl false 4 (Mp e_T_api_Packet l_1), Ii thread_1, Ii serial_1, Pp 0, Ii i_1, Ii (w_i64 (serial_1 - x_1.Serial)), .bool (decide ((w_i64 (serial_1 - x_1.Serial)) ≥ (0 : Int))), Ii (w_i64 (serial_1 - x_1.Serial)), .sl false 4 (Mp e_T_api_Packet l_1), Ii i_1, .ref (e_T_api_Packet x_3), .ref (.sl false 6 (Mp e_T_api_Event x_3.Events)), .sl false 6 (Mp e_T_api_Event x_3.Events), Ii (lN (x_3.Events)), .bool (decide ((w_i64 (serial_1 - x_1.Serial)) < (lN (x_3.Events)))), .sl false 4 (Mp e_T_api_Packet l_1), Ii i_1, .ref (e_T_api_Packet x_4), .ref (.sl false 6 (Mp e_T_api_Event x_4.Events)), .sl false 6 (Mp e_T_api_Event x_4.Events), Ii (w_i64 (serial_1 - x_1.Serial)), .ref (e_T_api_Event x_5), e_T_api_Event x_5, e_T_api_Event e_1, .bool r_1, .bool r_1] [Vb 54 (v_T_api_Event e_1)] hmix (ac (vc_idx h_3 : idxA (Mp e_T_api_Packet l_1) i_1 = some (e_T_api_Packet x_2)) (ac gg_10 (ac gg_10 (ac gg_10 (ac gg_11 (ac gg_11 (ac gg_11 (ac gg_11 (ac (vc_idx h_4 : idxA (Mp e_T_api_Packet l_1) i_1 = some (e_T_api_Packet x_3)) (ac gg_11 (ac gg_11 (ac gg_11 (ac (vc_len _ : ((Mp e_T_api_Event x_3.Events)).length = (x_3.Events).length) (ac gg_11 (ac gg_11 (ac gg_12 (ac gg_12 (ac gg_12 (ac (vc_idx h_5 : idxA (Mp e_T_api_Packet l_1) i_1 = some (e_T_api_Packet x_4)) (ac gg_12 (ac gg_12 (ac gg_12 (ac gg_12 (ac (vc_idx h_6 : idxA (Mp e_T_api_Event x_4.Events) (w_i64 (serial_1 - x_1.Serial)) = some (e_T_api_Event x_5)) (ac gg_12 (ac gg_12 (ac gg_12 (ar ([e_T_api_Event x_5, e_T_api_Event e_1] : List AV) (ac (rfl : ([] : List BoxSt) = []) (ac (event_Same_ok F x_5 e_1 r_1 h_7 : TripleG prog 50 [] [] [e_T_api_Event x_5, e_T_api_Event e_1] [] (.bool r_1)) (ac gg_12 an))))))))))))))))))))))))))))))) ?_
      cases h
      exact ⟨rfl, (sw [0] [] [.s 0, .s 1, .s 2, .s 7, .s 9, .s 56] [.s 0] an)⟩
     ·replace h := cond_f gg_12 h
      refine rg [(2, { av := e_T_api_Packet x_2 }), (10, Ht), (15, { av := e_T_api_Packet x_3 }), (18, { n := (x_3.Events).length }), (20, Ht), (22, Hg), (23, Hg), (24, Hg), (25, Hg), (26, Hg), (27, Hg), (28, Hg), (29, Hg), (30, Hg), (31, Hg), (32, Hf)] [0, 1, 2, 7, 9, 32, 33, 36, 37, 38, 39, 40, 41, 42, 43, 46, 47, 48, 49, 50, 51, 52, 53, 54, 55, 56] [0] 1 [.sl false 4 (Mp e_T_api_Packet l_1), Ii thread_1, Ii serial_1, Pp 0, Ii i_1, Ii (w_i64 (serial_1 - x_1.Serial)), .bool (decide ((w_i64 (serial_1 - x_1.Serial)) ≥ (0 : Int))), Ii (w_i64 (serial_1 - x_1.Serial)), .sl false 4 (Mp e_T_api_Packet l_1), Ii i_1, .ref (e_T_api_Packet x_3), .ref (.sl false 6 (Mp e_T_api_Event x_3.Events)), .sl false 6 (Mp e_T_api_Event x_3.Events), Ii (lN (x_3.Events)), .bool (decide ((w_i64 (serial_1 - x_1.Serial)) < (lN (x_3.Events)))), .tuple [], .tuple [], .tuple [], .tuple [], .tuple [], .tuple [], .tuple [], .tuple [], .tuple [], .tuple [], .bool false] [Vb 54 (v_T_api_Event e_1)] hmix (ac (vc_idx h_3 : idxA (Mp e_T_api_Packet l_1) i_1 = some (e_T_api_Packet x_2)) (ac gg_10 (ac gg_10 (ac gg_10 (ac gg_11 (ac gg_11 (ac gg_11 (ac gg_11 (ac (vc_idx h_4 : idxA (Mp e_T_api_Packet l_1) i_1 = some (e_T_api_Packet x_3)) (ac gg_11 (ac gg_11 (ac gg_11 (ac (vc_len _ : ((Mp e_T_api_Event x_3.Events)).length = (x_3.Events).length) (ac gg_11 (ac gg_11 (ac gg_12 (ac gg_12 (ac gg_12 (ac gg_12 (ac gg_12 (ac gg_12 (ac gg_12 (ac gg_12 (ac gg_12 (ac gg_12 (ac gg_12 an)))))))))))))))))))))))))) ?_
      cases h
      exact ⟨rfl, (sw [0] [] [.s 0, .s 1, .s 2, .s 7, .s 9, .s 56] [.s 0] an)⟩
    ·replace h := cond_f gg_11 h
     refine rg [(2, { av := e_T_api_Packet x_2 }), (10, Ht), (12, Hg), (13, Hg), (14, Hg), (15, Hg), (16, Hg), (17, Hg), (18, Hg), (19, Hg), (20, Hf), (22, Hg), (23, Hg), (24, Hg), (25, Hg), (26, Hg), (27, Hg), (28, Hg), (29, Hg), (30, Hg), (31, Hg), (32, Hf)] [0, 1, 2, 7, 9, 32, 33, 36, 37, 38, 39, 40, 41, 42, 43, 46, 47, 48, 49, 50, 51, 52, 53, 54, 55, 56] [0] 1 [.sl false 4 (Mp e_T_api_Packet l_1), Ii thread_1, Ii serial_1, Pp 0, Ii i_1, Ii (w_i64 (serial_1 - x_1.Serial)), .bool (decide ((w_i64 (serial_1 - x_1.Serial)) ≥ (0 : Int))), .tuple [], .tuple [], .tuple [], .tuple [], .tuple [], .tuple [], .tuple [], .tuple [], .tuple [], .tuple [], .tuple [], .tuple [], .tuple [], .tuple [], .tuple [], .tuple [], .tuple [], .tuple [], .bool false] [Vb 54 (v_T_api_Event e_1)] hmix (ac (vc_idx h_3 : idxA (Mp e_T_api_Packet l_1) i_1 = some (e_T_api_Packet x_2)) (ac gg_10 (ac gg_10 (ac gg_10 (ac gg_11 (ac gg_11 (ac gg_11 (ac gg_11 (ac gg_11 (ac gg_11 (ac gg_11 (ac gg_11 (ac gg_11 (ac (rfl : false = !true) (ac (rfl : false = !true) (ac (rfl : false = !true) (ac (rfl : false = !true) (ac (rfl : false = !true) (ac (rfl : false = !true) (ac (rfl : false = !true) (ac (rfl : false = !true) (ac (rfl : false = !true) (ac (rfl : false = !true) (ar false an)))))))))))))))))))))))) ?_
     cases h
     exact ⟨rfl, (sw [0] [] [.s 0, .s 1, .s 2, .s 7, .s 9, .s 56] [.s 0] an)⟩
   ·replace h := cond_f gg_10 h
    refine rg [(2, { av := e_T_api_Packet x_2 }), (8, Hg), (9, Hg), (10, Hf), (12, Hg), (13, Hg), (14, Hg), (15, Hg), (16, Hg), (17, Hg), (18, Hg), (19, Hg), (20, Hf), (22, Hg), (23, Hg), (24, Hg), (25, Hg), (26, Hg), (27, Hg), (28, Hg), (29, Hg), (30, Hg), (31, Hg), (32, Hf)] [0, 1, 2, 7, 9, 32, 33, 36, 37, 38, 39, 40, 41, 42, 43, 46, 47, 48, 49, 50, 51, 52, 53, 54, 55, 56] [0] 1 [.sl false 4 (Mp e_T_api_Packet l_1), Ii thread_1, Ii serial_1, Pp 0, Ii i_1, .tuple [], .tuple [], .tuple [], .tuple [], .tuple [], .tuple [], .tuple [], .tuple [], .tuple [], .tuple [], .tuple [], .tuple [], .tuple [], .tuple [], .tuple [], .tuple [], .tuple [], .tuple [], .tuple [], .tuple [], .bool false] [Vb 54 (v_T_api_Event e_1)] hmix (ac (vc_idx h_3 : idxA (Mp e_T_api_Packet l_1) i_1 = some (e_T_api_Packet x_2)) (ac gg_10 (ac gg_10 (ac gg_10 (ac (rfl : false = !true) (ac (rfl : false = !true) (ac (rfl : false = !true) (ac (rfl : false = !true) (ac (rfl : false = !true) (ac (rfl : false = !true) (ac (rfl : false = !true) (ac (rfl : false = !true) (ar false (ac (rfl : false = !true) (ac (rfl : false = !true) (ac (rfl : false = !true) (ac (rfl : false = !true) (ac (rfl : false = !true) (ac (rfl : false = !true) (ac (rfl : false = !true) (ac (rfl : false = !true) (ac (rfl : false = !true) (ac (rfl : false = !true) (ar false an)))))))))))))))))))))))) ?_
    cases h
    exact ⟨rfl, (sw [0] [] [.s 0, .s 1, .s 2, .s 7, .s 9, .s 56] [.s 0] an)⟩
  refine cd 56 p_1 ?_ ?_
  rotate_left
  ·intro g_2; replace h := cond_f g_2 h
   refine sk ?_
   refine rg [] [0, 1, 2, 7, 9] [0] 1 [.sl false 4 (Mp e_T_api_Packet l_1), Ii thread_1, Ii serial_1, Pp 0, Ii (w_i64 (i_1 + (1 : Int)))] [Vb 54 (v_T_api_Event e_1)] hmix an ?_
   exact ⟨_, (sw [0] [] [.s 0, .s 1, .s 2, .s 7, .s 9] [.s 0] an), _, rfl, h⟩
  intro g_2; replace h := cond_t g_2 h
  refine sr [] [8] [] 1 [.bool true] [] hmix an ?_
  refine rt ?_
  cases h
  exact ⟨rfl, Nat.le_of_ble_eq_true rfl, by kernel_rfl⟩
 intro e st1 hk
 rcases o_1 with q_1 | q_2
 rotate_left
 ·obtain ⟨rfl, hf⟩ := hk
  cases h
  exact ⟨st1, Sub.refl _ _, .inr rfl, hf⟩
 obtain ⟨rfl, hs⟩ := hk
 refine ⟨_, hs, ?_⟩
 refine sr [] [8] [] 0 [.bool false] [] hmix an ?_
 refine rt ?_
 cases h
 exact ⟨.inr rfl, Nat.le_of_ble_eq_true rfl, by kernel_rfl⟩

end Go.Ab
