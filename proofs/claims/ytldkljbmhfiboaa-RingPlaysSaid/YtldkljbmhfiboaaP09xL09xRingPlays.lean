/- Printed: the typed Lean functions of the Go functions, or the proofs that the Go functions meet them. No conditions but those that the theorems name. -/
import Derived.Test.YtldkljbmhfiboaaP09x2
namespace Go.Ab
open Go
set_option linter.unusedVariables false
theorem L09_RingPlays_ok (F : Nat) (bytes_1 : Int) (stall_1 : Bool) (l_1 : List (List (Int))) (r : Bool) (h : L09_RingPlays F bytes_1 stall_1 l_1 = some r) : TripleG prog 7 [] [] [Iu bytes_1, .bool stall_1, .sl false 1 (List.map (fun l => AV.sl false 1 (l.map (AV.int .u8))) l_1)] [] (.bool r) := by
 refine triple_intro (fn := Go.Proofs.Try.f7) (code := codeOf Go.Proofs.Try.f7) (by kernel_rfl) (by kernel_rfl) (Nat.le_of_ble_eq_true (by kernel_rfl)) ?_
 unfold L09_RingPlays at h
 refine sr [] [0, 1, 2] [] 0 [Iu bytes_1, .bool stall_1, .sl false 1 (List.map (fun l => AV.sl false 1 (l.map (AV.int .u8))) l_1)] [] hmix an ?_
 refine sq ?_
 refine sr [(1, { n := (l_1).length })] [0, 1, 2, 26] [] 0 [Iu bytes_1, .bool stall_1, .sl false 1 (List.map (fun l => AV.sl false 1 (l.map (AV.int .u8))) l_1), .bool (decide ((lN (l_1)) > (40 : Int)))] [] hmix (ac (vc_len _ : ((List.map (fun l => AV.sl false 1 (l.map (AV.int .u8))) l_1)).length = (l_1).length) an) ?_
 refine cd 26 (decide ((lN (l_1)) > (40 : Int))) ?_ ?_
 ·intro g_1; replace h := cond_t g_1 h
  refine sq ?_
  obtain ⟨r_1, h_1, h⟩ := bind_some h
  refine rg [(0, { av := .bool r_1, l := [] })] [6] [] 0 [.bool r_1] [] hmix (ar ([] : List AV) (ac (rfl : ([] : List BoxSt) = []) (ac (L09_awake_ok F r_1 h_1 : TripleG prog 14 [] [] [] [] (.bool r_1)) an))) ?_
  refine rt ?_
  cases h
  exact ⟨.inr rfl, Nat.le_of_ble_eq_true rfl, by kernel_rfl⟩
 intro g_1; replace h := cond_f g_1 h
 refine sk ?_
 refine sr [] [0, 1, 2, 7] [] 0 [Iu bytes_1, .bool stall_1, .sl false 1 (List.map (fun l => AV.sl false 1 (l.map (AV.int .u8))) l_1), Ii 1] [] hmix an ?_
 refine sq ?_
 refine sr [] [0, 1, 2, 7, 28] [] 0 [Iu bytes_1, .bool stall_1, .sl false 1 (List.map (fun l => AV.sl false 1 (l.map (AV.int .u8))) l_1), Ii 1, .bool stall_1] [] hmix an ?_
 obtain ⟨o_1, h_2, h⟩ := bind_some h
 refine aw_mid (mk [(0, Iu bytes_1), (1, .bool stall_1), (2, .sl false 1 (List.map (fun l => AV.sl false 1 (l.map (AV.int .u8))) l_1)), (7, Ii o_1)] [] 0) ?_ ?_
 ·replace h := h_2
  refine cd 28 stall_1 ?_ ?_
  ·intro g_2; replace h := cond_t g_2 h
   refine rg [] [0, 1, 2, 7] [] 0 [Iu bytes_1, .bool stall_1, .sl false 1 (List.map (fun l => AV.sl false 1 (l.map (AV.int .u8))) l_1), Ii 2] [] hmix an ?_
   cases h
   exact ⟨rfl, (sw [] [] [.s 0, .s 1, .s 2, .s 7] [] an)⟩
  intro g_2; replace h := cond_f g_2 h
  refine sk ?_
  cases h
  exact ⟨rfl, (sw [] [] [.s 0, .s 1, .s 2, .s 7] [] an)⟩
 refine sq ?_
 obtain ⟨r_2, h_3, h⟩ := bind_some h
 refine rg [(4, { av := .tuple [e_T_api_Ring r_2.1, Ii r_2.2], l := [Ii (w_i64 ((16 : Int) + (w_i64 bytes_1))), Ii o_1] }), (8, { id := 0 })] [0, 1, 2, 8, 9] [0] 1 [Iu bytes_1, .bool stall_1, .sl false 1 (List.map (fun l => AV.sl false 1 (l.map (AV.int .u8))) l_1), Pp 0, Ii r_2.2] [Vb 25 (v_T_api_Ring r_2.1)] hmix (ar ([Ii (w_i64 ((16 : Int) + (w_i64 bytes_1))), Ii o_1] : List AV) (ac (rfl : ([] : List BoxSt) = []) (ac (ring_New_ok (w_i64 ((16 : Int) + (w_i64 bytes_1))) o_1 r_2 h_3 : TripleG prog 9 [] [] [Ii (w_i64 ((16 : Int) + (w_i64 bytes_1))), Ii o_1] [] (.tuple [e_T_api_Ring r_2.1, Ii r_2.2])) an))) ?_
 refine sq ?_
 refine sr [] [0, 1, 2, 8, 38] [0] 1 [Iu bytes_1, .bool stall_1, .sl false 1 (List.map (fun l => AV.sl false 1 (l.map (AV.int .u8))) l_1), Pp 0, .bool (r_2.2 != (0 : Int))] [Vb 25 (v_T_api_Ring r_2.1)] hmix an ?_
 refine cd 38 (r_2.2 != (0 : Int)) ?_ ?_
 ·intro g_3; replace h := cond_t g_3 h
  refine sr [] [6] [] 1 [.bool false] [] hmix an ?_
  refine rt ?_
  cases h
  exact ⟨.inr rfl, Nat.le_of_ble_eq_true rfl, by kernel_rfl⟩
 intro g_3; replace h := cond_f g_3 h
 refine sk ?_
 refine sr [(0, { id := 1, m := 1 })] [0, 1, 2, 8, 10] [0, 1] 2 [Iu bytes_1, .bool stall_1, .sl false 1 (List.map (fun l => AV.sl false 1 (l.map (AV.int .u8))) l_1), Pp 0, .own 1 0] [Vb 25 (v_T_api_Ring r_2.1), Rb 23 1 []] hmix an ?_
 refine sr [] [0, 1, 2, 8, 10, 11, 12] [0, 1] 2 [Iu bytes_1, .bool stall_1, .sl false 1 (List.map (fun l => AV.sl false 1 (l.map (AV.int .u8))) l_1), Pp 0, .own 1 0, Ii 0, Ii 0] [Vb 25 (v_T_api_Ring r_2.1), Rb 23 1 []] hmix an ?_
 refine sq ?_
 refine sr [] [0, 1, 2, 8, 10, 11, 12, 13] [0, 1] 2 [Iu bytes_1, .bool stall_1, .sl false 1 (List.map (fun l => AV.sl false 1 (l.map (AV.int .u8))) l_1), Pp 0, .own 1 0, Ii 0, Ii 0, Ii 0] [Vb 25 (v_T_api_Ring r_2.1), Rb 23 1 []] hmix an ?_
 obtain ⟨o_2, h_4, h⟩ := bind_some h
 refine aw_conv (K1 := (fun e st' => match o_2 with | (.inl q0) => e = .normal ∧ Sub 0 st' (mk [(8, Pp 0), (10, .own 1 ((q0.2.2.2.2.2.2).length))] [(0, Vb 25 [Ii q0.1, .sl false 1 (Mb q0.2.1), Ii q0.2.2.1, Ii q0.2.2.2.1, Ii q0.2.2.2.2.1, Ii q0.2.2.2.2.2.1]), (1, Rb 23 1 (List.map (fun l => AV.sl false 1 (l.map (AV.int .u8))) q0.2.2.2.2.2.2))] 2) | (.inr q1) => e = .ret ∧ FinR prog Go.Proofs.Try.f7 0 [] (.bool q1) st')) ?_ ?_
 ·replace h := h_4
  refine aw_block (id := 0) (by kernel_rfl) ?_
  refine wk [0, 1] [] [.s 0, .s 1, .s 2, .s 8, .s 10, .s 11, .s 12, .s 13] [.s 0, .s 1] [(0, Iu bytes_1), (1, .bool stall_1), (2, .sl false 1 (List.map (fun l => AV.sl false 1 (l.map (AV.int .u8))) l_1)), (8, Pp 0), (10, .own 1 0), (11, Ii 0), (12, Ii 0), (13, Ii 0)] [(0, Vb 25 (v_T_api_Ring r_2.1)), (1, Rb 23 1 [])] an ?_
  refine aw_loopF (fun n st => ∃ (used_1 : Int), ∃ (first_1 : Int), ∃ (i_1 : Int), ∃ (c_1 : Int), ∃ (c_2 : List Int), ∃ (c_3 : Int), ∃ (c_4 : Int), ∃ (c_5 : Int), ∃ (c_6 : Int), ∃ (row_1 : List (List (Int))), st = mk [(0, Iu bytes_1), (1, .bool stall_1), (2, .sl false 1 (List.map (fun l => AV.sl false 1 (l.map (AV.int .u8))) l_1)), (8, Pp 0), (10, .own 1 ((row_1).length)), (11, Ii used_1), (12, Ii first_1), (13, Ii i_1)] [(0, Vb 25 [Ii c_1, .sl false 1 (Mb c_2), Ii c_3, Ii c_4, Ii c_5, Ii c_6]), (1, Rb 23 1 (List.map (fun l => AV.sl false 1 (l.map (AV.int .u8))) row_1))] 2 ∧ L09_RingPlays_L1 F bytes_1 stall_1 l_1 n used_1 first_1 i_1 c_1 c_2 c_3 c_4 c_5 c_6 row_1 = some o_2) F (by kernel_rfl) ⟨_, _, _, _, _, _, _, _, _, _, rfl, h⟩ ?_ ?_
  ·rintro _ ⟨_, _, _, _, _, _, _, _, _, _, _, h⟩; exact none_ne (h : (none : Option ((Int × (List Int) × Int × Int × Int × Int × (List (List (Int)))) ⊕ Bool)) = some o_2)
  rintro n_1 _ ⟨used_1, first_1, i_1, c_1, c_2, c_3, c_4, c_5, c_6, row_1, rfl, h⟩
  replace h : L09_RingPlays_L1_body F bytes_1 stall_1 l_1 (L09_RingPlays_L1 F bytes_1 stall_1 l_1 n_1) used_1 first_1 i_1 c_1 c_2 c_3 c_4 c_5 c_6 row_1 = some o_2 := h
  unfold L09_RingPlays_L1_body at h
  refine sq ?_
  refine sr [(2, { n := (l_1).length })] [0, 1, 2, 8, 10, 11, 12, 13, 42] [0, 1] 2 [Iu bytes_1, .bool stall_1, .sl false 1 (List.map (fun l => AV.sl false 1 (l.map (AV.int .u8))) l_1), Pp 0, .own 1 ((row_1).length), Ii used_1, Ii first_1, Ii i_1, .bool (decide (i_1 < (lN (l_1))))] [Vb 25 [Ii c_1, .sl false 1 (Mb c_2), Ii c_3, Ii c_4, Ii c_5, Ii c_6], Rb 23 1 (List.map (fun l => AV.sl false 1 (l.map (AV.int .u8))) row_1)] hmix (ac (vc_len _ : ((List.map (fun l => AV.sl false 1 (l.map (AV.int .u8))) l_1)).length = (l_1).length) an) ?_
  refine cd 42 (decide (i_1 < (lN (l_1)))) ?_ ?_
  rotate_left
  ·intro g_4; replace h := cond_f g_4 h
   refine aw_exit (id := 0) (by kernel_rfl) ?_
   cases h
   exact ⟨rfl, (sw [0, 1] [] [.s 8, .s 10] [.s 0, .s 1] an)⟩
  intro g_4; replace h := cond_t g_4 h
  refine sk ?_
  refine sq ?_
  obtain ⟨o_3, h_5, h⟩ := bind_some h
  refine aw_conv (K1 := (fun e st' => match o_3 with | (.inl q0) => e = .normal ∧ Sub 0 st' (mk [(0, Iu bytes_1), (1, .bool stall_1), (2, .sl false 1 (List.map (fun l => AV.sl false 1 (l.map (AV.int .u8))) l_1)), (8, Pp 0), (10, .own 1 ((q0.2.2.2.2.2.2.2.2).length)), (11, Ii q0.1), (12, Ii q0.2.1), (13, Ii i_1)] [(0, Vb 25 [Ii q0.2.2.1, .sl false 1 (Mb q0.2.2.2.1), Ii q0.2.2.2.2.1, Ii q0.2.2.2.2.2.1, Ii q0.2.2.2.2.2.2.1, Ii q0.2.2.2.2.2.2.2.1]), (1, Rb 23 1 (List.map (fun l => AV.sl false 1 (l.map (AV.int .u8))) q0.2.2.2.2.2.2.2.2))] 2) | (.inr q1) => e = .ret ∧ FinR prog Go.Proofs.Try.f7 0 [] (.bool q1) st')) ?_ ?_
  ·replace h := h_5
   refine aw_block (id := 1) (by kernel_rfl) ?_
   refine sq ?_
   obtain ⟨x_1, h_6, h⟩ := bind_some h
   refine rg [(2, { av := .sl false 1 (Mb x_1) })] [0, 1, 2, 8, 10, 11, 12, 13, 14] [0, 1] 2 [Iu bytes_1, .bool stall_1, .sl false 1 (List.map (fun l => AV.sl false 1 (l.map (AV.int .u8))) l_1), Pp 0, .own 1 ((row_1).length), Ii used_1, Ii first_1, Ii i_1, .sl false 1 (Mb x_1)] [Vb 25 [Ii c_1, .sl false 1 (Mb c_2), Ii c_3, Ii c_4, Ii c_5, Ii c_6], Rb 23 1 (List.map (fun l => AV.sl false 1 (l.map (AV.int .u8))) row_1)] hmix (ac (vc_idx h_6 : idxA (List.map (fun l => AV.sl false 1 (l.map (AV.int .u8))) l_1) i_1 = some (.sl false 1 (Mb x_1))) an) ?_
   refine sq ?_
   refine sr [(1, { n := (x_1).length })] [0, 1, 2, 8, 10, 11, 12, 13, 14, 51] [0, 1] 2 [Iu bytes_1, .bool stall_1, .sl false 1 (List.map (fun l => AV.sl false 1 (l.map (AV.int .u8))) l_1), Pp 0, .own 1 ((row_1).length), Ii used_1, Ii first_1, Ii i_1, .sl false 1 (Mb x_1), .bool (decide ((lN (x_1)) > (100 : Int)))] [Vb 25 [Ii c_1, .sl false 1 (Mb c_2), Ii c_3, Ii c_4, Ii c_5, Ii c_6], Rb 23 1 (List.map (fun l => AV.sl false 1 (l.map (AV.int .u8))) row_1)] hmix (ac (vc_len _ : ((Mb x_1)).length = (x_1).length) an) ?_
   refine cd 51 (decide ((lN (x_1)) > (100 : Int))) ?_ ?_
   ·intro g_5; replace h := cond_t g_5 h
    refine sq ?_
    obtain ⟨r_3, h_7, h⟩ := bind_some h
    refine rg [(0, { av := .bool r_3, l := [] })] [6] [] 2 [.bool r_3] [] hmix (ar ([] : List AV) (ac (rfl : ([] : List BoxSt) = []) (ac (L09_awake_ok F r_3 h_7 : TripleG prog 14 [] [] [] [] (.bool r_3)) an))) ?_
    refine rt ?_
    cases h
    exact ⟨rfl, Nat.le_of_ble_eq_true rfl, by kernel_rfl⟩
   intro g_5; replace h := cond_f g_5 h
   refine sk ?_
   refine sq ?_
   refine sr [(1, { n := (x_1).length })] [0, 1, 2, 8, 10, 11, 12, 13, 14, 55] [0, 1] 2 [Iu bytes_1, .bool stall_1, .sl false 1 (List.map (fun l => AV.sl false 1 (l.map (AV.int .u8))) l_1), Pp 0, .own 1 ((row_1).length), Ii used_1, Ii first_1, Ii i_1, .sl false 1 (Mb x_1), .bool ((lN (x_1)) == (0 : Int))] [Vb 25 [Ii c_1, .sl false 1 (Mb c_2), Ii c_3, Ii c_4, Ii c_5, Ii c_6], Rb 23 1 (List.map (fun l => AV.sl false 1 (l.map (AV.int .u8))) row_1)] hmix (ac (vc_len _ : ((Mb x_1)).length = (x_1).length) an) ?_
   refine cd 55 ((lN (x_1)) == (0 : Int)) ?_ ?_
   ·intro g_6; replace h := cond_t g_6 h
    refine sq ?_
    obtain ⟨r_4, h_8, h⟩ := bind_some h
    refine rg [(1, { av := .tuple [.own 0 ((r_4.1).length), e_T_api_Ring r_4.2], ids := [2], l := [.agg [Ii c_1, .sl false 1 (Mb c_2), Ii c_3, Ii c_4, Ii c_5, Ii c_6]], post := [(.row 23 1 (List.map (fun l => AV.sl false 1 (l.map (AV.int .u8))) r_4.1))] }), (5, { id := 3 })] [0, 1, 2, 8, 10, 12, 13, 15, 16] [0, 1, 2, 3] 4 [Iu bytes_1, .bool stall_1, .sl false 1 (List.map (fun l => AV.sl false 1 (l.map (AV.int .u8))) l_1), Pp 0, .own 1 ((row_1).length), Ii first_1, Ii i_1, .own 2 ((r_4.1).length), Pp 3] [Vb 25 [Ii c_1, .sl false 1 (Mb c_2), Ii c_3, Ii c_4, Ii c_5, Ii c_6], Rb 23 1 (List.map (fun l => AV.sl false 1 (l.map (AV.int .u8))) row_1), Rb 23 1 (List.map (fun l => AV.sl false 1 (l.map (AV.int .u8))) r_4.1), Vb 25 (v_T_api_Ring r_4.2)] hmix (ar ([.agg [Ii c_1, .sl false 1 (Mb c_2), Ii c_3, Ii c_4, Ii c_5, Ii c_6]] : List AV) (ac (rfl : ([] : List BoxSt) = []) (ac (triple_lo (args' := [e_T_api_Ring (⟨c_1, c_2, c_3, c_4, c_5, c_6⟩ : T_api_Ring)]) (ring_Take_ok F (⟨c_1, c_2, c_3, c_4, c_5, c_6⟩ : T_api_Ring) r_4 h_8) rfl ⟨rfl, rfl, rfl, rfl, rfl, rfl, rfl, rfl, trivial⟩ : TripleG prog 16 [] [] [.agg [Ii c_1, .sl false 1 (Mb c_2), Ii c_3, Ii c_4, Ii c_5, Ii c_6]] [(.row 23 1 (List.map (fun l => AV.sl false 1 (l.map (AV.int .u8))) r_4.1))] (.tuple [.own 0 ((r_4.1).length), e_T_api_Ring r_4.2])) an))) ?_
    refine sq ?_
    refine sq ?_
    obtain ⟨r_5, h_9, h⟩ := bind_some h
    refine rg [(2, { av := .bool r_5, frz := [2], l := [.sl false 1 (List.map (fun l => AV.sl false 1 (l.map (AV.int .u8))) r_4.1), .sl false 1 (List.map (fun l => AV.sl false 1 (l.map (AV.int .u8))) row_1)], lend := [1] })] [0, 1, 2, 8, 10, 12, 13, 16, 64] [0, 1, 3] 4 [Iu bytes_1, .bool stall_1, .sl false 1 (List.map (fun l => AV.sl false 1 (l.map (AV.int .u8))) l_1), Pp 0, .own 1 ((row_1).length), Ii first_1, Ii i_1, Pp 3, .bool (!r_5)] [Vb 25 [Ii c_1, .sl false 1 (Mb c_2), Ii c_3, Ii c_4, Ii c_5, Ii c_6], Rb 23 1 (List.map (fun l => AV.sl false 1 (l.map (AV.int .u8))) row_1), Vb 25 (v_T_api_Ring r_4.2)] hmix (ac (by first | (simp; done) | (simp; omega) : (r_4.1).length = ((List.map (fun l => AV.sl false 1 (l.map (AV.int .u8))) r_4.1)).length) (ac (by first | (simp; done) | (simp; omega) : (row_1).length = ((List.map (fun l => AV.sl false 1 (l.map (AV.int .u8))) row_1)).length) (ar ([.sl false 1 (List.map (fun l => AV.sl false 1 (l.map (AV.int .u8))) r_4.1), .sl false 1 (List.map (fun l => AV.sl false 1 (l.map (AV.int .u8))) row_1)] : List AV) (ac (rfl : ([] : List BoxSt) = []) (ac (R09_SameBytes_ok F r_4.1 row_1 r_5 h_9 : TripleG prog 21 [] [] [.sl false 1 (List.map (fun l => AV.sl false 1 (l.map (AV.int .u8))) r_4.1), .sl false 1 (List.map (fun l => AV.sl false 1 (l.map (AV.int .u8))) row_1)] [] (.bool r_5)) an))))) ?_
    refine cd 64 (!r_5) ?_ ?_
    ·intro g_7; replace h := cond_t g_7 h
     refine sr [] [6] [] 4 [.bool false] [] hmix an ?_
     refine rt ?_
     cases h
     exact ⟨rfl, Nat.le_of_ble_eq_true rfl, by kernel_rfl⟩
    intro g_7; replace h := cond_f g_7 h
    refine sk ?_
    refine sr [] [0, 1, 2, 8, 12, 13, 16] [0, 3] 4 [Iu bytes_1, .bool stall_1, .sl false 1 (List.map (fun l => AV.sl false 1 (l.map (AV.int .u8))) l_1), Pp 0, Ii (w_i64 (first_1 + (lN (row_1)))), Ii i_1, Pp 3] [Vb 25 [Ii c_1, .sl false 1 (Mb c_2), Ii c_3, Ii c_4, Ii c_5, Ii c_6], Vb 25 (v_T_api_Ring r_4.2)] hmix an ?_
    refine sr [(1, { id := 4, m := 1 })] [0, 1, 2, 8, 10, 11, 12, 13] [0, 4] 5 [Iu bytes_1, .bool stall_1, .sl false 1 (List.map (fun l => AV.sl false 1 (l.map (AV.int .u8))) l_1), Pp 0, .own 4 0, Ii 0, Ii (w_i64 (first_1 + (lN (row_1)))), Ii i_1] [Vb 25 (v_T_api_Ring r_4.2), Rb 23 1 []] hmix an ?_
    refine aw_exit (id := 1) (by kernel_rfl) ?_
    cases h
    exact ⟨rfl, (sw [0, 4] [] [.s 0, .s 1, .s 2, .s 8, .s 10, .s 11, .s 12, .s 13] [.s 0, .s 1] an)⟩
   intro g_6; replace h := cond_f g_6 h
   refine sk ?_
   refine sq ?_
   obtain ⟨r_6, h_10, h⟩ := bind_some h
   refine rg [(2, { av := .tuple [e_T_api_Ring r_6.1, Ii r_6.2.1, Ii r_6.2.2], l := [.agg [Ii c_1, .sl false 1 (Mb c_2), Ii c_3, Ii c_4, Ii c_5, Ii c_6], .sl false 1 (Mb x_1)] }), (7, { id := 2 })] [0, 1, 2, 8, 10, 11, 12, 13, 14, 17, 18, 19] [0, 1, 2] 3 [Iu bytes_1, .bool stall_1, .sl false 1 (List.map (fun l => AV.sl false 1 (l.map (AV.int .u8))) l_1), Pp 0, .own 1 ((row_1).length), Ii used_1, Ii first_1, Ii i_1, .sl false 1 (Mb x_1), Pp 2, Ii r_6.2.1, Ii r_6.2.2] [Vb 25 [Ii c_1, .sl false 1 (Mb c_2), Ii c_3, Ii c_4, Ii c_5, Ii c_6], Rb 23 1 (List.map (fun l => AV.sl false 1 (l.map (AV.int .u8))) row_1), Vb 25 (v_T_api_Ring r_6.1)] hmix (ar ([.agg [Ii c_1, .sl false 1 (Mb c_2), Ii c_3, Ii c_4, Ii c_5, Ii c_6], .sl false 1 (Mb x_1)] : List AV) (ac (rfl : ([] : List BoxSt) = []) (ac (triple_lo (args' := [e_T_api_Ring (⟨c_1, c_2, c_3, c_4, c_5, c_6⟩ : T_api_Ring), .sl false 1 (Mb x_1)]) (ring_Put_ok F (⟨c_1, c_2, c_3, c_4, c_5, c_6⟩ : T_api_Ring) x_1 r_6 h_10) rfl ⟨rfl, rfl, rfl, rfl, rfl, rfl, rfl, rfl, rfl, rfl, rfl, trivial⟩ : TripleG prog 23 [] [] [.agg [Ii c_1, .sl false 1 (Mb c_2), Ii c_3, Ii c_4, Ii c_5, Ii c_6], .sl false 1 (Mb x_1)] [] (.tuple [e_T_api_Ring r_6.1, Ii r_6.2.1, Ii r_6.2.2])) an))) ?_
   refine sq ?_
   obtain ⟨r_7, h_11, h⟩ := bind_some h
   refine rg [(1, { av := Ii r_7, l := [.sl false 1 (Mb x_1)] })] [0, 1, 2, 8, 10, 11, 12, 13, 14, 17, 18, 19, 20] [0, 1, 2] 3 [Iu bytes_1, .bool stall_1, .sl false 1 (List.map (fun l => AV.sl false 1 (l.map (AV.int .u8))) l_1), Pp 0, .own 1 ((row_1).length), Ii used_1, Ii first_1, Ii i_1, .sl false 1 (Mb x_1), Pp 2, Ii r_6.2.1, Ii r_6.2.2, Ii r_7] [Vb 25 [Ii c_1, .sl false 1 (Mb c_2), Ii c_3, Ii c_4, Ii c_5, Ii c_6], Rb 23 1 (List.map (fun l => AV.sl false 1 (l.map (AV.int .u8))) row_1), Vb 25 (v_T_api_Ring r_6.1)] hmix (ar ([.sl false 1 (Mb x_1)] : List AV) (ac (rfl : ([] : List BoxSt) = []) (ac (L09_size_ok F x_1 r_7 h_11 : TripleG prog 25 [] [] [.sl false 1 (Mb x_1)] [] (Ii r_7)) an))) ?_
   refine sq ?_
   refine aw_mid (mk [(0, Iu bytes_1), (1, .bool stall_1), (2, .sl false 1 (List.map (fun l => AV.sl false 1 (l.map (AV.int .u8))) l_1)), (8, Pp 0), (10, .own 1 ((row_1).length)), (11, Ii used_1), (12, Ii first_1), (13, Ii i_1), (14, .sl false 1 (Mb x_1)), (17, Pp 2), (18, Ii r_6.2.1), (19, Ii r_6.2.2), (20, Ii r_7), (21, .bool (decide (r_7 ≤ (w_i64 ((16 : Int) + (w_i64 bytes_1)))) && (!stall_1 || decide ((w_i64 (used_1 + r_7)) ≤ (w_i64 ((16 : Int) + (w_i64 bytes_1)))))))] [(0, Vb 25 [Ii c_1, .sl false 1 (Mb c_2), Ii c_3, Ii c_4, Ii c_5, Ii c_6]), (1, Rb 23 1 (List.map (fun l => AV.sl false 1 (l.map (AV.int .u8))) row_1)), (2, Vb 25 (v_T_api_Ring r_6.1))] 3) ?_ ?_
   ·rcases bft (decide (r_7 ≤ (w_i64 ((16 : Int) + (w_i64 bytes_1))))) with gg_37 | gg_37
    ·rcases bft (!stall_1) with gg_38 | gg_38
     ·refine rg [(9, Hg), (10, Hg), (11, Hg), (12, Hg), (13, Hg), (14, Hg), (15, Hg), (16, Ht), (17, Ht)] [0, 1, 2, 8, 10, 11, 12, 13, 14, 17, 18, 19, 20, 21, 85, 86, 87, 88, 89, 90, 91, 92, 93, 94, 95] [0, 1, 2] 3 [Iu bytes_1, .bool stall_1, .sl false 1 (List.map (fun l => AV.sl false 1 (l.map (AV.int .u8))) l_1), Pp 0, .own 1 ((row_1).length), Ii used_1, Ii first_1, Ii i_1, .sl false 1 (Mb x_1), Pp 2, Ii r_6.2.1, Ii r_6.2.2, Ii r_7, .bool true, .bool stall_1, .bool (!stall_1), .bool (!stall_1), .tuple [], .tuple [], .tuple [], .tuple [], .tuple [], .tuple [], .tuple [], .bool true] [Vb 25 [Ii c_1, .sl false 1 (Mb c_2), Ii c_3, Ii c_4, Ii c_5, Ii c_6], Rb 23 1 (List.map (fun l => AV.sl false 1 (l.map (AV.int .u8))) row_1), Vb 25 (v_T_api_Ring r_6.1)] hmix (ac gg_37 (ac gg_37 (ac gg_37 (ac gg_38 (ac gg_38 (ac gg_38 (ac gg_38 (ac gg_38 (ac gg_38 (ac gg_38 (ac gg_37 (ac gg_38 (ac gg_37 an))))))))))))) ?_
      exact ⟨rfl, (sw [0, 1, 2] [] [.s 0, .s 1, .s 2, .s 8, .s 10, .s 11, .s 12, .s 13, .s 14, .s 17, .s 18, .s 19, .s 20, .a 21 (.bool (decide (r_7 ≤ (w_i64 ((16 : Int) + (w_i64 bytes_1)))) && (!stall_1 || decide ((w_i64 (used_1 + r_7)) ≤ (w_i64 ((16 : Int) + (w_i64 bytes_1)))))))] [.s 0, .s 1, .s 2] (ac (congrArg AV.bool (andt gg_37 (ort gg_38)) : (.bool true : AV) = .bool (decide (r_7 ≤ (w_i64 ((16 : Int) + (w_i64 bytes_1)))) && (!stall_1 || decide ((w_i64 (used_1 + r_7)) ≤ (w_i64 ((16 : Int) + (w_i64 bytes_1))))))) an))⟩
     ·refine rg [(16, Hf), (17, Ht)] [0, 1, 2, 8, 10, 11, 12, 13, 14, 17, 18, 19, 20, 21, 85, 86, 87, 88, 89, 90, 91, 92, 93, 94, 95] [0, 1, 2] 3 [Iu bytes_1, .bool stall_1, .sl false 1 (List.map (fun l => AV.sl false 1 (l.map (AV.int .u8))) l_1), Pp 0, .own 1 ((row_1).length), Ii used_1, Ii first_1, Ii i_1, .sl false 1 (Mb x_1), Pp 2, Ii r_6.2.1, Ii r_6.2.2, Ii r_7, .bool (decide ((w_i64 (used_1 + r_7)) ≤ (w_i64 ((16 : Int) + (w_i64 bytes_1))))), .bool stall_1, .bool (!stall_1), .bool (!stall_1), Ii used_1, Ii r_7, Ii (w_i64 (used_1 + r_7)), Iu bytes_1, Ii (w_i64 bytes_1), Ii (w_i64 ((16 : Int) + (w_i64 bytes_1))), .bool (decide ((w_i64 (used_1 + r_7)) ≤ (w_i64 ((16 : Int) + (w_i64 bytes_1))))), .bool (decide ((w_i64 (used_1 + r_7)) ≤ (w_i64 ((16 : Int) + (w_i64 bytes_1)))))] [Vb 25 [Ii c_1, .sl false 1 (Mb c_2), Ii c_3, Ii c_4, Ii c_5, Ii c_6], Rb 23 1 (List.map (fun l => AV.sl false 1 (l.map (AV.int .u8))) row_1), Vb 25 (v_T_api_Ring r_6.1)] hmix (ac gg_37 (ac gg_37 (ac gg_37 (ac gg_38 (ac gg_38 (ac gg_38 (ac gg_38 (ac gg_38 (ac gg_38 (ac gg_38 (ac gg_37 (ac gg_38 (ac gg_37 an))))))))))))) ?_
      exact ⟨rfl, (sw [0, 1, 2] [] [.s 0, .s 1, .s 2, .s 8, .s 10, .s 11, .s 12, .s 13, .s 14, .s 17, .s 18, .s 19, .s 20, .a 21 (.bool (decide (r_7 ≤ (w_i64 ((16 : Int) + (w_i64 bytes_1)))) && (!stall_1 || decide ((w_i64 (used_1 + r_7)) ≤ (w_i64 ((16 : Int) + (w_i64 bytes_1)))))))] [.s 0, .s 1, .s 2] (ac (congrArg AV.bool (andt gg_37 (orf gg_38 rfl)) : (.bool (decide ((w_i64 (used_1 + r_7)) ≤ (w_i64 ((16 : Int) + (w_i64 bytes_1))))) : AV) = .bool (decide (r_7 ≤ (w_i64 ((16 : Int) + (w_i64 bytes_1)))) && (!stall_1 || decide ((w_i64 (used_1 + r_7)) ≤ (w_i64 ((16 : Int) + (w_i64 bytes_1))))))) an))⟩
    ·refine rg [(6, Hg), (7, Hg), (8, Hg), (16, Hg), (17, Hf)] [0, 1, 2, 8, 10, 11, 12, 13, 14, 17, 18, 19, 20, 21, 85, 86, 87, 88, 89, 90, 91, 92, 93, 94, 95] [0, 1, 2] 3 [Iu bytes_1, .bool stall_1, .sl false 1 (List.map (fun l => AV.sl false 1 (l.map (AV.int .u8))) l_1), Pp 0, .own 1 ((row_1).length), Ii used_1, Ii first_1, Ii i_1, .sl false 1 (Mb x_1), Pp 2, Ii r_6.2.1, Ii r_6.2.2, Ii r_7, .bool false, .tuple [], .tuple [], .tuple [], .tuple [], .tuple [], .tuple [], .tuple [], .tuple [], .tuple [], .tuple [], .tuple []] [Vb 25 [Ii c_1, .sl false 1 (Mb c_2), Ii c_3, Ii c_4, Ii c_5, Ii c_6], Rb 23 1 (List.map (fun l => AV.sl false 1 (l.map (AV.int .u8))) row_1), Vb 25 (v_T_api_Ring r_6.1)] hmix (ac gg_37 (ac gg_37 (ac gg_37 (ac gg_37 (ac gg_37 an))))) ?_
     exact ⟨rfl, (sw [0, 1, 2] [] [.s 0, .s 1, .s 2, .s 8, .s 10, .s 11, .s 12, .s 13, .s 14, .s 17, .s 18, .s 19, .s 20, .a 21 (.bool (decide (r_7 ≤ (w_i64 ((16 : Int) + (w_i64 bytes_1)))) && (!stall_1 || decide ((w_i64 (used_1 + r_7)) ≤ (w_i64 ((16 : Int) + (w_i64 bytes_1)))))))] [.s 0, .s 1, .s 2] (ac (congrArg AV.bool (andf gg_37) : (.bool false : AV) = .bool (decide (r_7 ≤ (w_i64 ((16 : Int) + (w_i64 bytes_1)))) && (!stall_1 || decide ((w_i64 (used_1 + r_7)) ≤ (w_i64 ((16 : Int) + (w_i64 bytes_1))))))) an))⟩
   refine sq ?_
   refine sr [] [0, 1, 2, 8, 10, 11, 12, 13, 14, 17, 18, 20, 21, 100] [0, 1, 2] 3 [Iu bytes_1, .bool stall_1, .sl false 1 (List.map (fun l => AV.sl false 1 (l.map (AV.int .u8))) l_1), Pp 0, .own 1 ((row_1).length), Ii used_1, Ii first_1, Ii i_1, .sl false 1 (Mb x_1), Pp 2, Ii r_6.2.1, Ii r_7, .bool (decide (r_7 ≤ (w_i64 ((16 : Int) + (w_i64 bytes_1)))) && (!stall_1 || decide ((w_i64 (used_1 + r_7)) ≤ (w_i64 ((16 : Int) + (w_i64 bytes_1)))))), .bool (!((decide (r_7 ≤ (w_i64 ((16 : Int) + (w_i64 bytes_1)))) && (!stall_1 || decide ((w_i64 (used_1 + r_7)) ≤ (w_i64 ((16 : Int) + (w_i64 bytes_1)))))) == (r_6.2.2 == (0 : Int))))] [Vb 25 [Ii c_1, .sl false 1 (Mb c_2), Ii c_3, Ii c_4, Ii c_5, Ii c_6], Rb 23 1 (List.map (fun l => AV.sl false 1 (l.map (AV.int .u8))) row_1), Vb 25 (v_T_api_Ring r_6.1)] hmix an ?_
   refine cd 100 (!((decide (r_7 ≤ (w_i64 ((16 : Int) + (w_i64 bytes_1)))) && (!stall_1 || decide ((w_i64 (used_1 + r_7)) ≤ (w_i64 ((16 : Int) + (w_i64 bytes_1)))))) == (r_6.2.2 == (0 : Int)))) ?_ ?_
   ·intro g_8; replace h := cond_t g_8 h
    refine sr [] [6] [] 3 [.bool false] [] hmix an ?_
    refine rt ?_
    cases h
    exact ⟨rfl, Nat.le_of_ble_eq_true rfl, by kernel_rfl⟩
   intro g_8; replace h := cond_f g_8 h
   refine sk ?_
   refine sr [] [0, 1, 2, 8, 10, 11, 12, 13, 14, 18, 20, 21] [0, 1] 3 [Iu bytes_1, .bool stall_1, .sl false 1 (List.map (fun l => AV.sl false 1 (l.map (AV.int .u8))) l_1), Pp 0, .own 1 ((row_1).length), Ii used_1, Ii first_1, Ii i_1, .sl false 1 (Mb x_1), Ii r_6.2.1, Ii r_7, .bool (decide (r_7 ≤ (w_i64 ((16 : Int) + (w_i64 bytes_1)))) && (!stall_1 || decide ((w_i64 (used_1 + r_7)) ≤ (w_i64 ((16 : Int) + (w_i64 bytes_1))))))] [Vb 25 (v_T_api_Ring r_6.1), Rb 23 1 (List.map (fun l => AV.sl false 1 (l.map (AV.int .u8))) row_1)] hmix an ?_
   refine sq ?_
   refine sr [] [0, 1, 2, 8, 10, 11, 12, 13, 14, 18, 20, 103] [0, 1] 3 [Iu bytes_1, .bool stall_1, .sl false 1 (List.map (fun l => AV.sl false 1 (l.map (AV.int .u8))) l_1), Pp 0, .own 1 ((row_1).length), Ii used_1, Ii first_1, Ii i_1, .sl false 1 (Mb x_1), Ii r_6.2.1, Ii r_7, .bool (!(decide (r_7 ≤ (w_i64 ((16 : Int) + (w_i64 bytes_1)))) && (!stall_1 || decide ((w_i64 (used_1 + r_7)) ≤ (w_i64 ((16 : Int) + (w_i64 bytes_1)))))))] [Vb 25 (v_T_api_Ring r_6.1), Rb 23 1 (List.map (fun l => AV.sl false 1 (l.map (AV.int .u8))) row_1)] hmix an ?_
   refine cd 103 (!(decide (r_7 ≤ (w_i64 ((16 : Int) + (w_i64 bytes_1)))) && (!stall_1 || decide ((w_i64 (used_1 + r_7)) ≤ (w_i64 ((16 : Int) + (w_i64 bytes_1))))))) ?_ ?_
   ·intro g_9; replace h := cond_t g_9 h
    refine aw_exit (id := 1) (by kernel_rfl) ?_
    cases h
    exact ⟨rfl, (sw [0, 1] [] [.s 0, .s 1, .s 2, .s 8, .s 10, .s 11, .s 12, .s 13] [.s 0, .s 1] an)⟩
   intro g_9; replace h := cond_f g_9 h
   refine sk ?_
   refine sq ?_
   obtain ⟨o_4, h_12, h⟩ := bind_some h
   refine aw_mid (mk [(0, Iu bytes_1), (1, .bool stall_1), (2, .sl false 1 (List.map (fun l => AV.sl false 1 (l.map (AV.int .u8))) l_1)), (8, Pp 0), (10, .own 1 ((o_4.2.2.2).length)), (11, Ii o_4.1), (12, Ii o_4.2.1), (13, Ii i_1), (14, .sl false 1 (Mb x_1)), (18, Ii o_4.2.2.1), (20, Ii r_7)] [(0, Vb 25 (v_T_api_Ring r_6.1)), (1, Rb 23 1 (List.map (fun l => AV.sl false 1 (l.map (AV.int .u8))) o_4.2.2.2))] 2) ?_ ?_
   ·replace h := h_12
    refine aw_block (id := 2) (by kernel_rfl) ?_
    refine wk [0, 1] [] [.s 0, .s 1, .s 2, .s 8, .s 10, .s 11, .s 12, .s 13, .s 14, .s 18, .s 20] [.s 0, .s 1] [(0, Iu bytes_1), (1, .bool stall_1), (2, .sl false 1 (List.map (fun l => AV.sl false 1 (l.map (AV.int .u8))) l_1)), (8, Pp 0), (10, .own 1 ((row_1).length)), (11, Ii used_1), (12, Ii first_1), (13, Ii i_1), (14, .sl false 1 (Mb x_1)), (18, Ii r_6.2.1), (20, Ii r_7)] [(0, Vb 25 (v_T_api_Ring r_6.1)), (1, Rb 23 1 (List.map (fun l => AV.sl false 1 (l.map (AV.int .u8))) row_1))] an ?_
    refine aw_loopF (fun n st => ∃ (used_2 : Int), ∃ (first_2 : Int), ∃ (lost_1 : Int), ∃ (row_2 : List (List (Int))), st = mk [(0, Iu bytes_1), (1, .bool stall_1), (2, .sl false 1 (List.map (fun l => AV.sl false 1 (l.map (AV.int .u8))) l_1)), (8, Pp 0), (10, .own 1 ((row_2).length)), (11, Ii used_2), (12, Ii first_2), (13, Ii i_1), (14, .sl false 1 (Mb x_1)), (18, Ii lost_1), (20, Ii r_7)] [(0, Vb 25 (v_T_api_Ring r_6.1)), (1, Rb 23 1 (List.map (fun l => AV.sl false 1 (l.map (AV.int .u8))) row_2))] 2 ∧ L09_RingPlays_L2 F bytes_1 r_7 n used_2 first_2 lost_1 row_2 = some o_4) F (by kernel_rfl) ⟨_, _, _, _, rfl, h⟩ ?_ ?_
    ·rintro _ ⟨_, _, _, _, _, h⟩; exact none_ne (h : (none : Option (Int × Int × Int × (List (List (Int))))) = some o_4)
    rintro n_2 _ ⟨used_2, first_2, lost_1, row_2, rfl, h⟩
    replace h : L09_RingPlays_L2_body F bytes_1 r_7 (L09_RingPlays_L2 F bytes_1 r_7 n_2) used_2 first_2 lost_1 row_2 = some o_4 := h
    unfold L09_RingPlays_L2_body at h
    refine sq ?_
    refine sq ?_
    refine aw_mid (mk [(0, Iu bytes_1), (1, .bool stall_1), (2, .sl false 1 (List.map (fun l => AV.sl false 1 (l.map (AV.int .u8))) l_1)), (8, Pp 0), (10, .own 1 ((row_2).length)), (11, Ii used_2), (12, Ii first_2), (13, Ii i_1), (14, .sl false 1 (Mb x_1)), (18, Ii lost_1), (20, Ii r_7), (115, .bool (decide ((lN (row_2)) > (0 : Int)) && decide ((w_i64 (used_2 + r_7)) > (w_i64 ((16 : Int) + (w_i64 bytes_1))))))] [(0, Vb 25 (v_T_api_Ring r_6.1)), (1, Rb 23 1 (List.map (fun l => AV.sl false 1 (l.map (AV.int .u8))) row_2))] 2) ?_ ?_
    ·rcases bft (decide ((lN (row_2)) > (0 : Int))) with gg_42 | gg_42
     ·refine rg [(11, Ht)] [0, 1, 2, 8, 10, 11, 12, 13, 14, 18, 20, 108, 109, 110, 111, 112, 113, 114, 115] [0, 1] 2 [Iu bytes_1, .bool stall_1, .sl false 1 (List.map (fun l => AV.sl false 1 (l.map (AV.int .u8))) l_1), Pp 0, .own 1 ((row_2).length), Ii used_2, Ii first_2, Ii i_1, .sl false 1 (Mb x_1), Ii lost_1, Ii r_7, Ii used_2, Ii r_7, Ii (w_i64 (used_2 + r_7)), Iu bytes_1, Ii (w_i64 bytes_1), Ii (w_i64 ((16 : Int) + (w_i64 bytes_1))), .bool (decide ((w_i64 (used_2 + r_7)) > (w_i64 ((16 : Int) + (w_i64 bytes_1))))), .bool (decide ((w_i64 (used_2 + r_7)) > (w_i64 ((16 : Int) + (w_i64 bytes_1)))))] [Vb 25 (v_T_api_Ring r_6.1), Rb 23 1 (List.map (fun l => AV.sl false 1 (l.map (AV.int .u8))) row_2)] hmix (ac gg_42 (ac gg_42 (ac gg_42 (ac gg_42 (ac gg_42 (ac gg_42 (ac gg_42 (ac gg_42 an)))))))) ?_
      exact ⟨rfl, (sw [0, 1] [] [.s 0, .s 1, .s 2, .s 8, .s 10, .s 11, .s 12, .s 13, .s 14, .s 18, .s 20, .a 115 (.bool (decide ((lN (row_2)) > (0 : Int)) && decide ((w_i64 (used_2 + r_7)) > (w_i64 ((16 : Int) + (w_i64 bytes_1))))))] [.s 0, .s 1] (ac (congrArg AV.bool (andt gg_42 rfl) : (.bool (decide ((w_i64 (used_2 + r_7)) > (w_i64 ((16 : Int) + (w_i64 bytes_1))))) : AV) = .bool (decide ((lN (row_2)) > (0 : Int)) && decide ((w_i64 (used_2 + r_7)) > (w_i64 ((16 : Int) + (w_i64 bytes_1)))))) an))⟩
     ·refine rg [(4, Hg), (5, Hg), (6, Hg), (7, Hg), (8, Hg), (9, Hg), (10, Hg), (11, Hf)] [0, 1, 2, 8, 10, 11, 12, 13, 14, 18, 20, 108, 109, 110, 111, 112, 113, 114, 115] [0, 1] 2 [Iu bytes_1, .bool stall_1, .sl false 1 (List.map (fun l => AV.sl false 1 (l.map (AV.int .u8))) l_1), Pp 0, .own 1 ((row_2).length), Ii used_2, Ii first_2, Ii i_1, .sl false 1 (Mb x_1), Ii lost_1, Ii r_7, .tuple [], .tuple [], .tuple [], .tuple [], .tuple [], .tuple [], .tuple [], .bool false] [Vb 25 (v_T_api_Ring r_6.1), Rb 23 1 (List.map (fun l => AV.sl false 1 (l.map (AV.int .u8))) row_2)] hmix (ac gg_42 (ac gg_42 (ac gg_42 (ac gg_42 (ac gg_42 (ac gg_42 (ac gg_42 (ac gg_42 an)))))))) ?_
      exact ⟨rfl, (sw [0, 1] [] [.s 0, .s 1, .s 2, .s 8, .s 10, .s 11, .s 12, .s 13, .s 14, .s 18, .s 20, .a 115 (.bool (decide ((lN (row_2)) > (0 : Int)) && decide ((w_i64 (used_2 + r_7)) > (w_i64 ((16 : Int) + (w_i64 bytes_1))))))] [.s 0, .s 1] (ac (congrArg AV.bool (andf gg_42) : (.bool false : AV) = .bool (decide ((lN (row_2)) > (0 : Int)) && decide ((w_i64 (used_2 + r_7)) > (w_i64 ((16 : Int) + (w_i64 bytes_1)))))) an))⟩
    refine cd 115 (decide ((lN (row_2)) > (0 : Int)) && decide ((w_i64 (used_2 + r_7)) > (w_i64 ((16 : Int) + (w_i64 bytes_1))))) ?_ ?_
    rotate_left
    ·intro g_10; replace h := cond_f g_10 h
     refine aw_exit (id := 2) (by kernel_rfl) ?_
     cases h
     exact ⟨rfl, (sw [0, 1] [] [.s 0, .s 1, .s 2, .s 8, .s 10, .s 11, .s 12, .s 13, .s 14, .s 18, .s 20] [.s 0, .s 1] an)⟩
    intro g_10; replace h := cond_t g_10 h
    refine sk ?_
    refine aw_block (id := 3) (by kernel_rfl) ?_
    refine sq ?_
    obtain ⟨x_2, h_13, h⟩ := bind_some h
    obtain ⟨r_8, h_14, h⟩ := bind_some h
    refine rg [(3, { av := .sl false 1 (Mb x_2) }), (4, { av := Ii r_8, l := [.sl false 1 (Mb x_2)] })] [0, 1, 2, 8, 10, 11, 12, 13, 14, 18, 20] [0, 1] 2 [Iu bytes_1, .bool stall_1, .sl false 1 (List.map (fun l => AV.sl false 1 (l.map (AV.int .u8))) l_1), Pp 0, .own 1 ((row_2).length), Ii (w_i64 (used_2 - r_8)), Ii first_2, Ii i_1, .sl false 1 (Mb x_1), Ii lost_1, Ii r_7] [Vb 25 (v_T_api_Ring r_6.1), Rb 23 1 (List.map (fun l => AV.sl false 1 (l.map (AV.int .u8))) row_2)] hmix (ac (idxL_lo h_13 : (0 : Int) ≤ (0 : Int)) (ac (by first | (simp; done) | simpa using idxL_hi h_13 : (0 : Int) < (((row_2).length : Nat) : Int)) (ac (vc_get h_13 : (List.map (fun l => AV.sl false 1 (l.map (AV.int .u8))) row_2)[0]? = some (.sl false 1 (Mb x_2))) (ar ([.sl false 1 (Mb x_2)] : List AV) (ac (rfl : ([] : List BoxSt) = []) (ac (L09_size_ok F x_2 r_8 h_14 : TripleG prog 25 [] [] [.sl false 1 (Mb x_2)] [] (Ii r_8)) an)))))) ?_
    refine sq ?_
    obtain ⟨_, h_15, h⟩ := bind_some h; replace h_15 := need_some h_15
    refine rg [(1, { id := 2, l := (List.map (fun l => AV.sl false 1 (l.map (AV.int .u8))) ((row_2).drop 1)), m := ((row_2).length - 1), n := 1, x := true })] [0, 1, 2, 8, 10, 11, 12, 13, 14, 18, 20] [0, 2] 3 [Iu bytes_1, .bool stall_1, .sl false 1 (List.map (fun l => AV.sl false 1 (l.map (AV.int .u8))) l_1), Pp 0, .own 2 ((row_2).length - 1), Ii (w_i64 (used_2 - r_8)), Ii first_2, Ii i_1, .sl false 1 (Mb x_1), Ii lost_1, Ii r_7] [Vb 25 (v_T_api_Ring r_6.1), Rb 23 1 (List.map (fun l => AV.sl false 1 (l.map (AV.int .u8))) ((row_2).drop 1))] hmix (ac (rfl : (1 : Int) = ((1 : Nat) : Int)) (ac h_15 (ac (by first | (simp; done) | (simp; omega) : (row_2).length = ((List.map (fun l => AV.sl false 1 (l.map (AV.int .u8))) row_2)).length) (ac (by simp [List.map_drop] : (List.map (fun l => AV.sl false 1 (l.map (AV.int .u8))) ((row_2).drop 1)) = ((List.map (fun l => AV.sl false 1 (l.map (AV.int .u8))) row_2) : List AV).drop 1) (ac (rfl : ((row_2).length - 1) = ((row_2).length) - 1) an))))) ?_
    refine sr [] [0, 1, 2, 8, 10, 11, 12, 13, 14, 18, 20] [0, 2] 3 [Iu bytes_1, .bool stall_1, .sl false 1 (List.map (fun l => AV.sl false 1 (l.map (AV.int .u8))) l_1), Pp 0, .own 2 ((row_2).length - 1), Ii (w_i64 (used_2 - r_8)), Ii (w_i64 (first_2 + (1 : Int))), Ii i_1, .sl false 1 (Mb x_1), Ii lost_1, Ii r_7] [Vb 25 (v_T_api_Ring r_6.1), Rb 23 1 (List.map (fun l => AV.sl false 1 (l.map (AV.int .u8))) ((row_2).drop 1))] hmix an ?_
    refine rg [] [0, 1, 2, 8, 10, 11, 12, 13, 14, 18, 20] [0, 2] 3 [Iu bytes_1, .bool stall_1, .sl false 1 (List.map (fun l => AV.sl false 1 (l.map (AV.int .u8))) l_1), Pp 0, .own 2 ((row_2).length - 1), Ii (w_i64 (used_2 - r_8)), Ii (w_i64 (first_2 + (1 : Int))), Ii i_1, .sl false 1 (Mb x_1), Ii (w_i64 (lost_1 - (1 : Int))), Ii r_7] [Vb 25 (v_T_api_Ring r_6.1), Rb 23 1 (List.map (fun l => AV.sl false 1 (l.map (AV.int .u8))) ((row_2).drop 1))] hmix an ?_
    exact ⟨_, (sw [0, 2] [] [.s 0, .s 1, .s 2, .s 8, .a 10 (.own 1 ((((row_2).drop 1)).length)), .s 11, .s 12, .s 13, .s 14, .s 18, .s 20] [.s 0, .s 1] (ac (congrArg (AV.own _) (by first | (simp; done) | (simp; omega)) : (.own 2 ((row_2).length - 1) : AV) = .own 2 ((((row_2).drop 1)).length)) an)), _, _, _, _, rfl, h⟩
   refine sr [] [0, 1, 2, 8, 10, 11, 12, 13, 14, 18] [0, 1] 2 [Iu bytes_1, .bool stall_1, .sl false 1 (List.map (fun l => AV.sl false 1 (l.map (AV.int .u8))) l_1), Pp 0, .own 1 ((o_4.2.2.2).length), Ii (w_i64 (o_4.1 + r_7)), Ii o_4.2.1, Ii i_1, .sl false 1 (Mb x_1), Ii o_4.2.2.1] [Vb 25 (v_T_api_Ring r_6.1), Rb 23 1 (List.map (fun l => AV.sl false 1 (l.map (AV.int .u8))) o_4.2.2.2)] hmix an ?_
   refine sq ?_
   obtain ⟨_, h_16, h⟩ := bind_some h; replace h_16 := need_some h_16
   refine rg [(2, { id := 2 }), (3, { id := 3, l := (List.map (fun l => AV.sl false 1 (l.map (AV.int .u8))) (o_4.2.2.2 ++ ([x_1] : List (List (Int))))), n := ((o_4.2.2.2 ++ ([x_1] : List (List (Int))))).length })] [0, 1, 2, 8, 10, 11, 12, 13, 18] [0, 3] 4 [Iu bytes_1, .bool stall_1, .sl false 1 (List.map (fun l => AV.sl false 1 (l.map (AV.int .u8))) l_1), Pp 0, .own 3 (((o_4.2.2.2 ++ ([x_1] : List (List (Int))))).length), Ii (w_i64 (o_4.1 + r_7)), Ii o_4.2.1, Ii i_1, Ii o_4.2.2.1] [Vb 25 (v_T_api_Ring r_6.1), Rb 23 1 (List.map (fun l => AV.sl false 1 (l.map (AV.int .u8))) (o_4.2.2.2 ++ ([x_1] : List (List (Int)))))] hmix (ac (by first | (simp; done) | (simp; omega) : (o_4.2.2.2).length = ((List.map (fun l => AV.sl false 1 (l.map (AV.int .u8))) o_4.2.2.2)).length) (ac (by first | (simp; done) | (simp; omega) : 1 = ((List.map (fun l => AV.sl false 1 (l.map (AV.int .u8))) ([x_1] : List (List (Int))))).length) (ac (vc_app _ _ : (List.map (fun l => AV.sl false 1 (l.map (AV.int .u8))) (o_4.2.2.2 ++ ([x_1] : List (List (Int))))) = (List.map (fun l => AV.sl false 1 (l.map (AV.int .u8))) o_4.2.2.2) ++ (List.map (fun l => AV.sl false 1 (l.map (AV.int .u8))) ([x_1] : List (List (Int))))) (ac (by simp : ((o_4.2.2.2 ++ ([x_1] : List (List (Int))))).length = ((List.map (fun l => AV.sl false 1 (l.map (AV.int .u8))) (o_4.2.2.2 ++ ([x_1] : List (List (Int)))))).length) (ac (by first | (simp; done) | simpa using h_16 : (((List.map (fun l => AV.sl false 1 (l.map (AV.int .u8))) o_4.2.2.2) : List AV).length + ((List.map (fun l => AV.sl false 1 (l.map (AV.int .u8))) ([x_1] : List (List (Int)))) : List AV).length) * 24 ≤ 140737488355328) an))))) ?_
   refine sq ?_
   obtain ⟨p_1, h_19, h⟩ := bind_some h
   refine aw_mid (mk [(0, Iu bytes_1), (1, .bool stall_1), (2, .sl false 1 (List.map (fun l => AV.sl false 1 (l.map (AV.int .u8))) l_1)), (8, Pp 0), (10, .own 1 (((o_4.2.2.2 ++ ([x_1] : List (List (Int))))).length)), (11, Ii (w_i64 (o_4.1 + r_7))), (12, Ii o_4.2.1), (13, Ii i_1), (159, .bool p_1)] [(0, Vb 25 (v_T_api_Ring r_6.1)), (1, Rb 23 1 (List.map (fun l => AV.sl false 1 (l.map (AV.int .u8))) (o_4.2.2.2 ++ ([x_1] : List (List (Int))))))] 2) ?_ ?_
   ·replace h := h_19
    rcases bft (o_4.2.2.1 != (0 : Int)) with gg_43 | gg_43
    ·replace h := cond_t gg_43 h
     refine rg [(3, Hg), (4, Hg), (5, Hg), (6, Hg), (7, Ht), (9, Hg), (10, Hg), (11, Hg), (12, Hg), (13, Hg), (14, Ht), (16, Hg), (17, Hg), (18, Hg), (19, Hg), (20, Hg), (21, Hg), (22, Hg), (23, Hg), (24, Ht)] [0, 1, 2, 8, 10, 11, 12, 13, 138, 139, 140, 141, 144, 145, 146, 147, 148, 151, 152, 153, 154, 155, 156, 157, 158, 159] [0, 3] 4 [Iu bytes_1, .bool stall_1, .sl false 1 (List.map (fun l => AV.sl false 1 (l.map (AV.int .u8))) l_1), Pp 0, .own 3 (((o_4.2.2.2 ++ ([x_1] : List (List (Int))))).length), Ii (w_i64 (o_4.1 + r_7)), Ii o_4.2.1, Ii i_1, .tuple [], .tuple [], .tuple [], .tuple [], .tuple [], .tuple [], .tuple [], .tuple [], .tuple [], .tuple [], .tuple [], .tuple [], .tuple [], .tuple [], .tuple [], .tuple [], .tuple [], .bool true] [Vb 25 (v_T_api_Ring r_6.1), Rb 23 1 (List.map (fun l => AV.sl false 1 (l.map (AV.int .u8))) (o_4.2.2.2 ++ ([x_1] : List (List (Int)))))] hmix (ac gg_43 (ac gg_43 (ac gg_43 (ac gg_43 (ac gg_43 (ax (ax (ax (ax (ax (ar true (ax (ax (ax (ax (ax (ax (ax (ax (ar true an)))))))))))))))))))) ?_
     cases h
     exact ⟨rfl, (sw [0, 3] [] [.s 0, .s 1, .s 2, .s 8, .s 10, .s 11, .s 12, .s 13, .s 159] [.s 0, .s 1] an)⟩
    ·replace h := cond_f gg_43 h
     rcases bft (r_6.1.First != o_4.2.1) with gg_44 | gg_44
     ·replace h := cond_t gg_44 h
      refine rg [(7, Hf), (9, Hg), (10, Hg), (11, Hg), (12, Hg), (13, Hg), (14, Ht), (16, Hg), (17, Hg), (18, Hg), (19, Hg), (20, Hg), (21, Hg), (22, Hg), (23, Hg), (24, Ht)] [0, 1, 2, 8, 10, 11, 12, 13, 138, 139, 140, 141, 144, 145, 146, 147, 148, 151, 152, 153, 154, 155, 156, 157, 158, 159] [0, 3] 4 [Iu bytes_1, .bool stall_1, .sl false 1 (List.map (fun l => AV.sl false 1 (l.map (AV.int .u8))) l_1), Pp 0, .own 3 (((o_4.2.2.2 ++ ([x_1] : List (List (Int))))).length), Ii (w_i64 (o_4.1 + r_7)), Ii o_4.2.1, Ii i_1, .ptr 0 0 0 4, Ii r_6.1.First, Ii o_4.2.1, .bool (r_6.1.First != o_4.2.1), .tuple [], .tuple [], .tuple [], .tuple [], .tuple [], .tuple [], .tuple [], .tuple [], .tuple [], .tuple [], .tuple [], .tuple [], .tuple [], .bool true] [Vb 25 (v_T_api_Ring r_6.1), Rb 23 1 (List.map (fun l => AV.sl false 1 (l.map (AV.int .u8))) (o_4.2.2.2 ++ ([x_1] : List (List (Int)))))] hmix (ac gg_43 (ac gg_43 (ac gg_43 (ac gg_43 (ac gg_43 (ac gg_44 (ac gg_44 (ac gg_44 (ac gg_44 (ac gg_44 (ac gg_44 (ax (ax (ax (ax (ax (ax (ax (ax (ar true an)))))))))))))))))))) ?_
      cases h
      exact ⟨rfl, (sw [0, 3] [] [.s 0, .s 1, .s 2, .s 8, .s 10, .s 11, .s 12, .s 13, .s 159] [.s 0, .s 1] an)⟩
     ·replace h := cond_f gg_44 h
      obtain ⟨r_9, h_17, h⟩ := bind_some h
      rcases bft (r_9 != (lN ((o_4.2.2.2 ++ ([x_1] : List (List (Int))))))) with gg_45 | gg_45
      ·replace h := cond_t gg_45 h
       refine rg [(7, Hf), (10, { av := Ii r_9, l := [e_T_api_Ring r_6.1] }), (14, Hf), (16, Hg), (17, Hg), (18, Hg), (19, Hg), (20, Hg), (21, Hg), (22, Hg), (23, Hg), (24, Ht)] [0, 1, 2, 8, 10, 11, 12, 13, 138, 139, 140, 141, 144, 145, 146, 147, 148, 151, 152, 153, 154, 155, 156, 157, 158, 159] [0, 3] 4 [Iu bytes_1, .bool stall_1, .sl false 1 (List.map (fun l => AV.sl false 1 (l.map (AV.int .u8))) l_1), Pp 0, .own 3 (((o_4.2.2.2 ++ ([x_1] : List (List (Int))))).length), Ii (w_i64 (o_4.1 + r_7)), Ii o_4.2.1, Ii i_1, .ptr 0 0 0 4, Ii r_6.1.First, Ii o_4.2.1, .bool (r_6.1.First != o_4.2.1), e_T_api_Ring r_6.1, Ii r_9, .own 3 (((o_4.2.2.2 ++ ([x_1] : List (List (Int))))).length), Ii (lN ((o_4.2.2.2 ++ ([x_1] : List (List (Int)))))), .bool (r_9 != (lN ((o_4.2.2.2 ++ ([x_1] : List (List (Int))))))), .tuple [], .tuple [], .tuple [], .tuple [], .tuple [], .tuple [], .tuple [], .tuple [], .bool true] [Vb 25 (v_T_api_Ring r_6.1), Rb 23 1 (List.map (fun l => AV.sl false 1 (l.map (AV.int .u8))) (o_4.2.2.2 ++ ([x_1] : List (List (Int)))))] hmix (ac gg_43 (ac gg_43 (ac gg_43 (ac gg_43 (ac gg_43 (ac gg_44 (ac gg_44 (ar ([e_T_api_Ring r_6.1] : List AV) (ac (rfl : ([] : List BoxSt) = []) (ac (ring_Count_ok F r_6.1 r_9 h_17 : TripleG prog 12 [] [] [e_T_api_Ring r_6.1] [] (Ii r_9)) (ac gg_44 (ac gg_44 (ac gg_44 (ac gg_44 (ac gg_45 (ac gg_45 (ac gg_45 (ac gg_45 (ac gg_45 (ac gg_45 (ac gg_45 (ac gg_45 (ac gg_45 an))))))))))))))))))))))) ?_
       cases h
       exact ⟨rfl, (sw [0, 3] [] [.s 0, .s 1, .s 2, .s 8, .s 10, .s 11, .s 12, .s 13, .s 159] [.s 0, .s 1] an)⟩
      ·replace h := cond_f gg_45 h
       obtain ⟨r_10, h_18, h⟩ := bind_some h
       refine rg [(7, Hf), (10, { av := Ii r_9, l := [e_T_api_Ring r_6.1] }), (14, Hf), (17, { av := Ii r_10, l := [e_T_api_Ring r_6.1] }), (24, Hf)] [0, 1, 2, 8, 10, 11, 12, 13, 138, 139, 140, 141, 144, 145, 146, 147, 148, 151, 152, 153, 154, 155, 156, 157, 158, 159] [0, 3] 4 [Iu bytes_1, .bool stall_1, .sl false 1 (List.map (fun l => AV.sl false 1 (l.map (AV.int .u8))) l_1), Pp 0, .own 3 (((o_4.2.2.2 ++ ([x_1] : List (List (Int))))).length), Ii (w_i64 (o_4.1 + r_7)), Ii o_4.2.1, Ii i_1, .ptr 0 0 0 4, Ii r_6.1.First, Ii o_4.2.1, .bool (r_6.1.First != o_4.2.1), e_T_api_Ring r_6.1, Ii r_9, .own 3 (((o_4.2.2.2 ++ ([x_1] : List (List (Int))))).length), Ii (lN ((o_4.2.2.2 ++ ([x_1] : List (List (Int)))))), .bool (r_9 != (lN ((o_4.2.2.2 ++ ([x_1] : List (List (Int))))))), e_T_api_Ring r_6.1, Ii r_10, Iu bytes_1, Ii (w_i64 bytes_1), Ii (w_i64 ((16 : Int) + (w_i64 bytes_1))), Ii (w_i64 (o_4.1 + r_7)), Ii (w_i64 ((w_i64 ((16 : Int) + (w_i64 bytes_1))) - (w_i64 (o_4.1 + r_7)))), .bool (r_10 != (w_i64 ((w_i64 ((16 : Int) + (w_i64 bytes_1))) - (w_i64 (o_4.1 + r_7))))), .bool (r_10 != (w_i64 ((w_i64 ((16 : Int) + (w_i64 bytes_1))) - (w_i64 (o_4.1 + r_7)))))] [Vb 25 (v_T_api_Ring r_6.1), Rb 23 1 (List.map (fun l => AV.sl false 1 (l.map (AV.int .u8))) (o_4.2.2.2 ++ ([x_1] : List (List (Int)))))] hmix (ac gg_43 (ac gg_43 (ac gg_43 (ac gg_43 (ac gg_43 (ac gg_44 (ac gg_44 (ar ([e_T_api_Ring r_6.1] : List AV) (ac (rfl : ([] : List BoxSt) = []) (ac (ring_Count_ok F r_6.1 r_9 h_17 : TripleG prog 12 [] [] [e_T_api_Ring r_6.1] [] (Ii r_9)) (ac gg_44 (ac gg_44 (ac gg_44 (ac gg_44 (ac gg_45 (ac gg_45 (ar ([e_T_api_Ring r_6.1] : List AV) (ac (rfl : ([] : List BoxSt) = []) (ac (ring_Free_ok F r_6.1 r_10 h_18 : TripleG prog 13 [] [] [e_T_api_Ring r_6.1] [] (Ii r_10)) (ac gg_45 (ac gg_45 (ac gg_45 (ac gg_45 (ac gg_45 (ac gg_45 (ac gg_45 an)))))))))))))))))))))))))) ?_
       cases h
       exact ⟨rfl, (sw [0, 3] [] [.s 0, .s 1, .s 2, .s 8, .s 10, .s 11, .s 12, .s 13, .s 159] [.s 0, .s 1] an)⟩
   refine cd 159 p_1 ?_ ?_
   rotate_left
   ·intro g_11; replace h := cond_f g_11 h
    refine sk ?_
    cases h
    exact ⟨rfl, (sw [0, 1] [] [.s 0, .s 1, .s 2, .s 8, .s 10, .s 11, .s 12, .s 13] [.s 0, .s 1] an)⟩
   intro g_11; replace h := cond_t g_11 h
   refine sr [] [6] [] 2 [.bool false] [] hmix an ?_
   refine rt ?_
   cases h
   exact ⟨rfl, Nat.le_of_ble_eq_true rfl, by kernel_rfl⟩
  intro e st1 hk
  rcases o_3 with q_1 | q_2
  rotate_left
  ·obtain ⟨rfl, hf⟩ := hk
   cases h
   exact ⟨_, Sub.refl _ _, rfl, hf⟩
  obtain ⟨rfl, hs⟩ := hk
  refine ⟨_, hs, ?_⟩
  refine rg [] [0, 1, 2, 8, 10, 11, 12, 13] [0, 1] 2 [Iu bytes_1, .bool stall_1, .sl false 1 (List.map (fun l => AV.sl false 1 (l.map (AV.int .u8))) l_1), Pp 0, .own 1 ((q_1.2.2.2.2.2.2.2.2).length), Ii q_1.1, Ii q_1.2.1, Ii (w_i64 (i_1 + (1 : Int)))] [Vb 25 [Ii q_1.2.2.1, .sl false 1 (Mb q_1.2.2.2.1), Ii q_1.2.2.2.2.1, Ii q_1.2.2.2.2.2.1, Ii q_1.2.2.2.2.2.2.1, Ii q_1.2.2.2.2.2.2.2.1], Rb 23 1 (List.map (fun l => AV.sl false 1 (l.map (AV.int .u8))) q_1.2.2.2.2.2.2.2.2)] hmix an ?_
  exact ⟨_, (sw [0, 1] [] [.s 0, .s 1, .s 2, .s 8, .s 10, .s 11, .s 12, .s 13] [.s 0, .s 1] an), _, _, _, _, _, _, _, _, _, _, rfl, h⟩
 intro e st1 hk
 rcases o_2 with q_3 | q_4
 rotate_left
 ·obtain ⟨rfl, hf⟩ := hk
  cases h
  exact ⟨st1, Sub.refl _ _, .inr rfl, hf⟩
 obtain ⟨rfl, hs⟩ := hk
 refine ⟨_, hs, ?_⟩
 refine sq ?_
 obtain ⟨r_11, h_20, h⟩ := bind_some h
 refine rg [(1, { av := .tuple [.own 0 ((r_11.1).length), e_T_api_Ring r_11.2], ids := [2], l := [.agg [Ii q_3.1, .sl false 1 (Mb q_3.2.1), Ii q_3.2.2.1, Ii q_3.2.2.2.1, Ii q_3.2.2.2.2.1, Ii q_3.2.2.2.2.2.1]], post := [(.row 23 1 (List.map (fun l => AV.sl false 1 (l.map (AV.int .u8))) r_11.1))] }), (5, { id := 3 })] [10, 22] [1, 2] 4 [.own 1 ((q_3.2.2.2.2.2.2).length), .own 2 ((r_11.1).length)] [Rb 23 1 (List.map (fun l => AV.sl false 1 (l.map (AV.int .u8))) q_3.2.2.2.2.2.2), Rb 23 1 (List.map (fun l => AV.sl false 1 (l.map (AV.int .u8))) r_11.1)] hmix (ar ([.agg [Ii q_3.1, .sl false 1 (Mb q_3.2.1), Ii q_3.2.2.1, Ii q_3.2.2.2.1, Ii q_3.2.2.2.2.1, Ii q_3.2.2.2.2.2.1]] : List AV) (ac (rfl : ([] : List BoxSt) = []) (ac (triple_lo (args' := [e_T_api_Ring (⟨q_3.1, q_3.2.1, q_3.2.2.1, q_3.2.2.2.1, q_3.2.2.2.2.1, q_3.2.2.2.2.2.1⟩ : T_api_Ring)]) (ring_Take_ok F (⟨q_3.1, q_3.2.1, q_3.2.2.1, q_3.2.2.2.1, q_3.2.2.2.2.1, q_3.2.2.2.2.2.1⟩ : T_api_Ring) r_11 h_20) rfl ⟨rfl, rfl, rfl, rfl, rfl, rfl, rfl, rfl, trivial⟩ : TripleG prog 16 [] [] [.agg [Ii q_3.1, .sl false 1 (Mb q_3.2.1), Ii q_3.2.2.1, Ii q_3.2.2.2.1, Ii q_3.2.2.2.2.1, Ii q_3.2.2.2.2.2.1]] [(.row 23 1 (List.map (fun l => AV.sl false 1 (l.map (AV.int .u8))) r_11.1))] (.tuple [.own 0 ((r_11.1).length), e_T_api_Ring r_11.2])) an))) ?_
 refine sq ?_
 obtain ⟨p_2, h_23, h⟩ := bind_some h
 refine aw_mid (mk [(6, .bool p_2)] [] 0) ?_ ?_
 ·replace h := h_23
  obtain ⟨r_12, h_21, h⟩ := bind_some h
  rcases Bool.eq_false_or_eq_true r_12 with gg_46 | gg_46
  ·replace h := cond_t gg_46 h
   obtain ⟨r_13, h_22, h⟩ := bind_some h
   refine rg [(2, { av := .bool r_12, frz := [2, 1], l := [.sl false 1 (List.map (fun l => AV.sl false 1 (l.map (AV.int .u8))) r_11.1), .sl false 1 (List.map (fun l => AV.sl false 1 (l.map (AV.int .u8))) q_3.2.2.2.2.2.2)] }), (4, { av := .bool r_13, l := [] }), (5, Ht)] [6] [] 4 [.bool r_13] [] hmix (ac (by first | (simp; done) | (simp; omega) : (r_11.1).length = ((List.map (fun l => AV.sl false 1 (l.map (AV.int .u8))) r_11.1)).length) (ac (by first | (simp; done) | (simp; omega) : (q_3.2.2.2.2.2.2).length = ((List.map (fun l => AV.sl false 1 (l.map (AV.int .u8))) q_3.2.2.2.2.2.2)).length) (ar ([.sl false 1 (List.map (fun l => AV.sl false 1 (l.map (AV.int .u8))) r_11.1), .sl false 1 (List.map (fun l => AV.sl false 1 (l.map (AV.int .u8))) q_3.2.2.2.2.2.2)] : List AV) (ac (rfl : ([] : List BoxSt) = []) (ac (R09_SameBytes_ok F r_11.1 q_3.2.2.2.2.2.2 r_12 h_21 : TripleG prog 21 [] [] [.sl false 1 (List.map (fun l => AV.sl false 1 (l.map (AV.int .u8))) r_11.1), .sl false 1 (List.map (fun l => AV.sl false 1 (l.map (AV.int .u8))) q_3.2.2.2.2.2.2)] [] (.bool r_12)) (ac gg_46 (ar ([] : List AV) (ac (rfl : ([] : List BoxSt) = []) (ac (L09_awake_ok F r_13 h_22 : TripleG prog 14 [] [] [] [] (.bool r_13)) (ac gg_46 an)))))))))) ?_
   cases h
   exact ⟨rfl, (sw [] [] [.s 6] [] an)⟩
  ·replace h := cond_f gg_46 h
   refine rg [(2, { av := .bool r_12, frz := [2, 1], l := [.sl false 1 (List.map (fun l => AV.sl false 1 (l.map (AV.int .u8))) r_11.1), .sl false 1 (List.map (fun l => AV.sl false 1 (l.map (AV.int .u8))) q_3.2.2.2.2.2.2)] }), (4, Hg), (5, Hf)] [6] [] 4 [.bool false] [] hmix (ac (by first | (simp; done) | (simp; omega) : (r_11.1).length = ((List.map (fun l => AV.sl false 1 (l.map (AV.int .u8))) r_11.1)).length) (ac (by first | (simp; done) | (simp; omega) : (q_3.2.2.2.2.2.2).length = ((List.map (fun l => AV.sl false 1 (l.map (AV.int .u8))) q_3.2.2.2.2.2.2)).length) (ar ([.sl false 1 (List.map (fun l => AV.sl false 1 (l.map (AV.int .u8))) r_11.1), .sl false 1 (List.map (fun l => AV.sl false 1 (l.map (AV.int .u8))) q_3.2.2.2.2.2.2)] : List AV) (ac (rfl : ([] : List BoxSt) = []) (ac (R09_SameBytes_ok F r_11.1 q_3.2.2.2.2.2.2 r_12 h_21 : TripleG prog 21 [] [] [.sl false 1 (List.map (fun l => AV.sl false 1 (l.map (AV.int .u8))) r_11.1), .sl false 1 (List.map (fun l => AV.sl false 1 (l.map (AV.int .u8))) q_3.2.2.2.2.2.2)] [] (.bool r_12)) (ac gg_46 (ac gg_46 an))))))) ?_
   cases h
   exact ⟨rfl, (sw [] [] [.s 6] [] an)⟩
 refine rt ?_
 cases h
 exact ⟨.inr rfl, Nat.le_of_ble_eq_true rfl, by kernel_rfl⟩

end Go.Ab
