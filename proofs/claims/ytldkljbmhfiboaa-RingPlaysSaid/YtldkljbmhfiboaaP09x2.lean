/- Printed: the typed Lean functions of the Go functions, or the proofs that the Go functions meet them. No conditions but those that the theorems name. -/
import Derived.Test.YtldkljbmhfiboaaP09x1
namespace Go.Ab
open Go
set_option linter.unusedVariables false
theorem R09_Take_ok (F : Nat) (r_1 : T_api_Ring) (r : (List (List (Int))) × T_api_Ring) (h : R09_Take F r_1 = some r) : TripleG prog 17 [] [] [e_T_api_Ring r_1] [.row 23 1 (List.map (fun l => AV.sl false 1 (l.map (AV.int .u8))) r.1)] (.tuple [.own 0 ((r.1).length), e_T_api_Ring r.2]) := by
 refine triple_intro (fn := Go.Proofs.Try.f17) (code := codeOf Go.Proofs.Try.f17) (by kernel_rfl) (by kernel_rfl) (Nat.le_of_ble_eq_true (by kernel_rfl)) ?_
 unfold R09_Take at h
 refine sr [(0, { id := 0 }), (1, { id := 1, m := 1 }), (2, { id := 2 })] [1, 3] [0, 2] 3 [Pp 0, Pp 2] [Vb 25 (v_T_api_Ring r_1), Vb 25 [Ii 0, .nilsl, Ii 0, Ii 0, Ii 0, Ii 0]] hmix an ?_
 refine sq ?_
 refine sq ?_
 obtain ⟨r_2, h_1, h⟩ := bind_some h
 refine rg [(1, { av := Ii r_2, l := [e_T_api_Ring r_1] })] [1, 3, 8] [0, 2] 3 [Pp 0, Pp 2, .bool (r_2 != (0 : Int))] [Vb 25 (v_T_api_Ring r_1), Vb 25 [Ii 0, .nilsl, Ii 0, Ii 0, Ii 0, Ii 0]] hmix (ar ([e_T_api_Ring r_1] : List AV) (ac (rfl : ([] : List BoxSt) = []) (ac (R09_Check_ok F r_1 r_2 h_1 : TripleG prog 18 [] [] [e_T_api_Ring r_1] [] (Ii r_2)) an))) ?_
 refine cd 8 (r_2 != (0 : Int)) ?_ ?_
 ·intro g_1; replace h := cond_t g_1 h
  refine sr [(1, { id := 3, m := 1 })] [2, 3] [2, 3] 4 [.own 3 0, Pp 2] [Vb 25 (v_T_api_Ring r_1), Rb 23 1 []] hmix an ?_
  refine wk [3, 2] [] [.a 2 (.own 0 ((([] : List (List (Int)))).length)), .s 3] [.s 0, .s 1] [(2, .own 0 ((([] : List (List (Int)))).length)), (3, Pp 1)] [(0, Rb 23 1 []), (1, Vb 25 (v_T_api_Ring r_1))] (ac (congrArg (AV.own _) (by first | (simp; done) | (simp; omega)) : (.own 3 0 : AV) = .own 3 ((([] : List (List (Int)))).length)) an) ?_
  refine rt ?_
  cases h
  exact ⟨.inr rfl, Nat.le_of_ble_eq_true rfl, by kernel_rfl⟩
 intro g_1; replace h := cond_f g_1 h
 refine sk ?_
 refine sq ?_
 obtain ⟨r_3, h_2, h⟩ := bind_some h
 obtain ⟨r_4, h_3, h⟩ := bind_some h
 refine rg [(1, { av := .own 0 ((r_3).length), ids := [3], l := [e_T_api_Ring r_1], post := [(.row 5 1 (Mb r_3))] }), (2, { av := .tuple [.own 0 ((r_4.1).length), .bool r_4.2], frz := [3], ids := [4], l := [.sl false 1 (Mb r_3)], post := [(.row 23 1 (List.map (fun l => AV.sl false 1 (l.map (AV.int .u8))) r_4.1))] })] [1, 3, 4] [0, 2, 4] 5 [Pp 0, Pp 2, .own 4 ((r_4.1).length)] [Vb 25 (v_T_api_Ring r_1), Vb 25 [Ii 0, .nilsl, Ii 0, Ii 0, Ii 0, Ii 0], Rb 23 1 (List.map (fun l => AV.sl false 1 (l.map (AV.int .u8))) r_4.1)] hmix (ar ([e_T_api_Ring r_1] : List AV) (ac (rfl : ([] : List BoxSt) = []) (ac (R09_Contents_ok F r_1 r_3 h_2 : TripleG prog 28 [] [] [e_T_api_Ring r_1] [(.row 5 1 (Mb r_3))] (.own 0 ((r_3).length))) (ac (by first | (simp; done) | (simp; omega) : (r_3).length = ((List.map (AV.int .u8) r_3)).length) (ar ([.sl false 1 (Mb r_3)] : List AV) (ac (rfl : ([] : List BoxSt) = []) (ac (R09_Records_ok F r_3 r_4 h_3 : TripleG prog 27 [] [] [.sl false 1 (Mb r_3)] [(.row 23 1 (List.map (fun l => AV.sl false 1 (l.map (AV.int .u8))) r_4.1))] (.tuple [.own 0 ((r_4.1).length), .bool r_4.2])) an))))))) ?_
 refine sr [] [1, 3, 4] [0, 2, 4] 5 [Pp 0, Pp 2, .own 4 ((r_4.1).length)] [Vb 25 [Ii r_1.Policy, .sl false 1 (Mb r_1.Data), Ii r_1.End, Ii r_1.End, Ii r_1.First, Ii r_1.Next], Vb 25 [Ii 0, .nilsl, Ii 0, Ii 0, Ii 0, Ii 0], Rb 23 1 (List.map (fun l => AV.sl false 1 (l.map (AV.int .u8))) r_4.1)] hmix an ?_
 refine sr [] [1, 3, 4] [0, 2, 4] 5 [Pp 0, Pp 2, .own 4 ((r_4.1).length)] [Vb 25 [Ii r_1.Policy, .sl false 1 (Mb r_1.Data), Ii r_1.End, Ii r_1.End, Ii r_1.Next, Ii r_1.Next], Vb 25 [Ii 0, .nilsl, Ii 0, Ii 0, Ii 0, Ii 0], Rb 23 1 (List.map (fun l => AV.sl false 1 (l.map (AV.int .u8))) r_4.1)] hmix an ?_
 refine sr [] [2, 3] [2, 4] 5 [.own 4 ((r_4.1).length), Pp 2] [Vb 25 [Ii r_1.Policy, .sl false 1 (Mb r_1.Data), Ii r_1.End, Ii r_1.End, Ii r_1.Next, Ii r_1.Next], Rb 23 1 (List.map (fun l => AV.sl false 1 (l.map (AV.int .u8))) r_4.1)] hmix an ?_
 refine wk [4, 2] [] [.s 2, .s 3] [.s 0, .a 1 (Vb 25 (v_T_api_Ring (⟨r_1.Policy, r_1.Data, r_1.End, r_1.End, r_1.Next, r_1.Next⟩ : T_api_Ring)))] [(2, .own 0 ((r_4.1).length)), (3, Pp 1)] [(0, Rb 23 1 (List.map (fun l => AV.sl false 1 (l.map (AV.int .u8))) r_4.1)), (1, Vb 25 (v_T_api_Ring (⟨r_1.Policy, r_1.Data, r_1.End, r_1.End, r_1.Next, r_1.Next⟩ : T_api_Ring)))] (ar 25 (ac (rfl : ones [Ii ((⟨r_1.Policy, r_1.Data, r_1.End, r_1.End, r_1.Next, r_1.Next⟩ : T_api_Ring).Policy), .sl false 1 (Mb ((⟨r_1.Policy, r_1.Data, r_1.End, r_1.End, r_1.Next, r_1.Next⟩ : T_api_Ring).Data)), Ii ((⟨r_1.Policy, r_1.Data, r_1.End, r_1.End, r_1.Next, r_1.Next⟩ : T_api_Ring).Start), Ii ((⟨r_1.Policy, r_1.Data, r_1.End, r_1.End, r_1.Next, r_1.Next⟩ : T_api_Ring).End), Ii ((⟨r_1.Policy, r_1.Data, r_1.End, r_1.End, r_1.Next, r_1.Next⟩ : T_api_Ring).First), Ii ((⟨r_1.Policy, r_1.Data, r_1.End, r_1.End, r_1.Next, r_1.Next⟩ : T_api_Ring).Next)] = true) (ac (rfl : (Ii r_1.Policy : AV) = Ii ((⟨r_1.Policy, r_1.Data, r_1.End, r_1.End, r_1.Next, r_1.Next⟩ : T_api_Ring).Policy)) (ar 1 (ac (rfl : ((Mb r_1.Data) : List AV) = (Mb ((⟨r_1.Policy, r_1.Data, r_1.End, r_1.End, r_1.Next, r_1.Next⟩ : T_api_Ring).Data))) (ac (rfl : (!false || false) = true) (ac (rfl : (Ii r_1.End : AV) = Ii ((⟨r_1.Policy, r_1.Data, r_1.End, r_1.End, r_1.Next, r_1.Next⟩ : T_api_Ring).Start)) (ac (rfl : (Ii r_1.End : AV) = Ii ((⟨r_1.Policy, r_1.Data, r_1.End, r_1.End, r_1.Next, r_1.Next⟩ : T_api_Ring).End)) (ac (rfl : (Ii r_1.Next : AV) = Ii ((⟨r_1.Policy, r_1.Data, r_1.End, r_1.End, r_1.Next, r_1.Next⟩ : T_api_Ring).First)) (ac (rfl : (Ii r_1.Next : AV) = Ii ((⟨r_1.Policy, r_1.Data, r_1.End, r_1.End, r_1.Next, r_1.Next⟩ : T_api_Ring).Next)) an)))))))))) ?_
 refine rt ?_
 cases h
 exact ⟨.inr rfl, Nat.le_of_ble_eq_true rfl, by kernel_rfl⟩

theorem R09_Count_ok (F : Nat) (r_1 : T_api_Ring) (r : Int) (h : R09_Count F r_1 = some r) : TripleG prog 19 [] [] [e_T_api_Ring r_1] [] (Ii r) := by
 refine triple_intro (fn := Go.Proofs.Try.f19) (code := codeOf Go.Proofs.Try.f19) (by kernel_rfl) (by kernel_rfl) (Nat.le_of_ble_eq_true (by kernel_rfl)) ?_
 unfold R09_Count at h
 refine sr [(0, { id := 0 })] [1] [0] 1 [Pp 0] [Vb 25 (v_T_api_Ring r_1)] hmix an ?_
 refine sq ?_
 refine sq ?_
 obtain ⟨r_2, h_1, h⟩ := bind_some h
 refine rg [(1, { av := Ii r_2, l := [e_T_api_Ring r_1] })] [1, 5] [0] 1 [Pp 0, .bool (r_2 != (0 : Int))] [Vb 25 (v_T_api_Ring r_1)] hmix (ar ([e_T_api_Ring r_1] : List AV) (ac (rfl : ([] : List BoxSt) = []) (ac (R09_Check_ok F r_1 r_2 h_1 : TripleG prog 18 [] [] [e_T_api_Ring r_1] [] (Ii r_2)) an))) ?_
 refine cd 5 (r_2 != (0 : Int)) ?_ ?_
 ·intro g_1; replace h := cond_t g_1 h
  refine sr [] [2] [] 1 [Ii 0] [] hmix an ?_
  refine rt ?_
  cases h
  exact ⟨.inr rfl, Nat.le_of_ble_eq_true rfl, by kernel_rfl⟩
 intro g_1; replace h := cond_f g_1 h
 refine sk ?_
 refine sr [] [2] [] 1 [Ii (w_i64 (r_1.Next - r_1.First))] [] hmix an ?_
 refine rt ?_
 cases h
 exact ⟨.inr rfl, Nat.le_of_ble_eq_true rfl, by kernel_rfl⟩

theorem R09_Free_ok (F : Nat) (r_1 : T_api_Ring) (r : Int) (h : R09_Free F r_1 = some r) : TripleG prog 20 [] [] [e_T_api_Ring r_1] [] (Ii r) := by
 refine triple_intro (fn := Go.Proofs.Try.f20) (code := codeOf Go.Proofs.Try.f20) (by kernel_rfl) (by kernel_rfl) (Nat.le_of_ble_eq_true (by kernel_rfl)) ?_
 unfold R09_Free at h
 refine sr [(0, { id := 0 })] [1] [0] 1 [Pp 0] [Vb 25 (v_T_api_Ring r_1)] hmix an ?_
 refine sq ?_
 refine sq ?_
 obtain ⟨r_2, h_1, h⟩ := bind_some h
 refine rg [(1, { av := Ii r_2, l := [e_T_api_Ring r_1] })] [1, 5] [0] 1 [Pp 0, .bool (r_2 != (0 : Int))] [Vb 25 (v_T_api_Ring r_1)] hmix (ar ([e_T_api_Ring r_1] : List AV) (ac (rfl : ([] : List BoxSt) = []) (ac (R09_Check_ok F r_1 r_2 h_1 : TripleG prog 18 [] [] [e_T_api_Ring r_1] [] (Ii r_2)) an))) ?_
 refine cd 5 (r_2 != (0 : Int)) ?_ ?_
 ·intro g_1; replace h := cond_t g_1 h
  refine sr [] [2] [] 1 [Ii 0] [] hmix an ?_
  refine rt ?_
  cases h
  exact ⟨.inr rfl, Nat.le_of_ble_eq_true rfl, by kernel_rfl⟩
 intro g_1; replace h := cond_f g_1 h
 refine sk ?_
 refine sr [(2, { n := (r_1.Data).length })] [2] [] 1 [Ii (w_i64 ((lN (r_1.Data)) - (w_i64 (r_1.End - r_1.Start))))] [] hmix (ac (vc_len _ : ((Mb r_1.Data)).length = (r_1.Data).length) an) ?_
 refine rt ?_
 cases h
 exact ⟨.inr rfl, Nat.le_of_ble_eq_true rfl, by kernel_rfl⟩

theorem R09_SameBytes_ok (F : Nat) (a_1 : List (List (Int))) (b_1 : List (List (Int))) (r : Bool) (h : R09_SameBytes F a_1 b_1 = some r) : TripleG prog 21 [] [] [.sl false 1 (List.map (fun l => AV.sl false 1 (l.map (AV.int .u8))) a_1), .sl false 1 (List.map (fun l => AV.sl false 1 (l.map (AV.int .u8))) b_1)] [] (.bool r) := by
 refine triple_intro (fn := Go.Proofs.Try.f21) (code := codeOf Go.Proofs.Try.f21) (by kernel_rfl) (by kernel_rfl) (Nat.le_of_ble_eq_true (by kernel_rfl)) ?_
 unfold R09_SameBytes at h
 refine sr [] [0, 1] [] 0 [.sl false 1 (List.map (fun l => AV.sl false 1 (l.map (AV.int .u8))) a_1), .sl false 1 (List.map (fun l => AV.sl false 1 (l.map (AV.int .u8))) b_1)] [] hmix an ?_
 refine sq ?_
 refine sr [(1, { n := (a_1).length }), (3, { n := (b_1).length })] [0, 1, 10] [] 0 [.sl false 1 (List.map (fun l => AV.sl false 1 (l.map (AV.int .u8))) a_1), .sl false 1 (List.map (fun l => AV.sl false 1 (l.map (AV.int .u8))) b_1), .bool ((lN (a_1)) != (lN (b_1)))] [] hmix (ac (vc_len _ : ((List.map (fun l => AV.sl false 1 (l.map (AV.int .u8))) a_1)).length = (a_1).length) (ac (vc_len _ : ((List.map (fun l => AV.sl false 1 (l.map (AV.int .u8))) b_1)).length = (b_1).length) an)) ?_
 refine cd 10 ((lN (a_1)) != (lN (b_1))) ?_ ?_
 ·intro g_1; replace h := cond_t g_1 h
  refine sr [] [4] [] 0 [.bool false] [] hmix an ?_
  refine rt ?_
  cases h
  exact ⟨.inr rfl, Nat.le_of_ble_eq_true rfl, by kernel_rfl⟩
 intro g_1; replace h := cond_f g_1 h
 refine sk ?_
 refine sq ?_
 refine sr [] [0, 1, 5] [] 0 [.sl false 1 (List.map (fun l => AV.sl false 1 (l.map (AV.int .u8))) a_1), .sl false 1 (List.map (fun l => AV.sl false 1 (l.map (AV.int .u8))) b_1), Ii 0] [] hmix an ?_
 obtain ⟨o_1, h_1, h⟩ := bind_some h
 refine aw_conv (K1 := (fun e st' => match o_1 with | (.inl q0) => e = .normal ∧ Sub 0 st' (mk [] [] 0) | (.inr q1) => e = .ret ∧ FinR prog Go.Proofs.Try.f21 0 [] (.bool q1) st')) ?_ ?_
 ·replace h := h_1
  refine aw_block (id := 0) (by kernel_rfl) ?_
  refine wk [] [] [.s 0, .s 1, .s 5] [] [(0, .sl false 1 (List.map (fun l => AV.sl false 1 (l.map (AV.int .u8))) a_1)), (1, .sl false 1 (List.map (fun l => AV.sl false 1 (l.map (AV.int .u8))) b_1)), (5, Ii 0)] [] an ?_
  refine aw_loopF (fun n st => ∃ (i_1 : Int), st = mk [(0, .sl false 1 (List.map (fun l => AV.sl false 1 (l.map (AV.int .u8))) a_1)), (1, .sl false 1 (List.map (fun l => AV.sl false 1 (l.map (AV.int .u8))) b_1)), (5, Ii i_1)] [] 0 ∧ R09_SameBytes_L1 F a_1 b_1 n i_1 = some o_1) F (by kernel_rfl) ⟨_, rfl, h⟩ ?_ ?_
  ·rintro _ ⟨_, _, h⟩; exact none_ne (h : (none : Option (Unit ⊕ Bool)) = some o_1)
  rintro n_1 _ ⟨i_1, rfl, h⟩
  replace h : R09_SameBytes_L1_body F a_1 b_1 (R09_SameBytes_L1 F a_1 b_1 n_1) i_1 = some o_1 := h
  unfold R09_SameBytes_L1_body at h
  refine sq ?_
  refine sr [(2, { n := (a_1).length })] [0, 1, 5, 14] [] 0 [.sl false 1 (List.map (fun l => AV.sl false 1 (l.map (AV.int .u8))) a_1), .sl false 1 (List.map (fun l => AV.sl false 1 (l.map (AV.int .u8))) b_1), Ii i_1, .bool (decide (i_1 < (lN (a_1))))] [] hmix (ac (vc_len _ : ((List.map (fun l => AV.sl false 1 (l.map (AV.int .u8))) a_1)).length = (a_1).length) an) ?_
  refine cd 14 (decide (i_1 < (lN (a_1)))) ?_ ?_
  rotate_left
  ·intro g_2; replace h := cond_f g_2 h
   refine aw_exit (id := 0) (by kernel_rfl) ?_
   cases h
   exact ⟨rfl, (sw [] [] [] [] an)⟩
  intro g_2; replace h := cond_t g_2 h
  refine sk ?_
  refine sq ?_
  refine aw_block (id := 1) (by kernel_rfl) ?_
  refine sq ?_
  obtain ⟨x_1, h_2, h⟩ := bind_some h
  obtain ⟨x_2, h_3, h⟩ := bind_some h
  refine rg [(2, { av := .sl false 1 (Mb x_1) }), (4, { s := x_1 }), (7, { av := .sl false 1 (Mb x_2) }), (9, { s := x_2 })] [0, 1, 5, 27] [] 0 [.sl false 1 (List.map (fun l => AV.sl false 1 (l.map (AV.int .u8))) a_1), .sl false 1 (List.map (fun l => AV.sl false 1 (l.map (AV.int .u8))) b_1), Ii i_1, .bool (!(x_1 == x_2))] [] hmix (ac (vc_idx h_2 : idxA (List.map (fun l => AV.sl false 1 (l.map (AV.int .u8))) a_1) i_1 = some (.sl false 1 (Mb x_1))) (ac (rfl : (Mb x_1) = List.map (AV.int .u8) x_1) (ac (vc_idx h_3 : idxA (List.map (fun l => AV.sl false 1 (l.map (AV.int .u8))) b_1) i_1 = some (.sl false 1 (Mb x_2))) (ac (rfl : (Mb x_2) = List.map (AV.int .u8) x_2) an)))) ?_
  refine cd 27 (!(x_1 == x_2)) ?_ ?_
  rotate_left
  ·intro g_3; replace h := cond_f g_3 h
   refine sk ?_
   refine rg [] [0, 1, 5] [] 0 [.sl false 1 (List.map (fun l => AV.sl false 1 (l.map (AV.int .u8))) a_1), .sl false 1 (List.map (fun l => AV.sl false 1 (l.map (AV.int .u8))) b_1), Ii (w_i64 (i_1 + (1 : Int)))] [] hmix an ?_
   exact ⟨_, (sw [] [] [.s 0, .s 1, .s 5] [] an), _, rfl, h⟩
  intro g_3; replace h := cond_t g_3 h
  refine sr [] [4] [] 0 [.bool false] [] hmix an ?_
  refine rt ?_
  cases h
  exact ⟨rfl, Nat.le_of_ble_eq_true rfl, by kernel_rfl⟩
 intro e st1 hk
 rcases o_1 with q_1 | q_2
 rotate_left
 ·obtain ⟨rfl, hf⟩ := hk
  cases h
  exact ⟨st1, Sub.refl _ _, .inr rfl, hf⟩
 obtain ⟨rfl, hs⟩ := hk
 refine ⟨_, hs, ?_⟩
 refine sr [] [4] [] 0 [.bool true] [] hmix an ?_
 refine rt ?_
 cases h
 exact ⟨.inr rfl, Nat.le_of_ble_eq_true rfl, by kernel_rfl⟩

theorem R05_number_ok (n_1 : Int) (r : Int) (h : R05_number n_1 = some r) : TripleG prog 40 [] [] [Ii n_1] [] (.int .u64 r) := by
 refine triple_intro (fn := Go.Proofs.Try.f40) (code := codeOf Go.Proofs.Try.f40) (by kernel_rfl) (by kernel_rfl) (Nat.le_of_ble_eq_true (by kernel_rfl)) ?_
 unfold R05_number at h
 refine sr [] [0] [] 0 [Ii n_1] [] hmix an ?_
 refine sq ?_
 refine sr [] [0, 4] [] 0 [Ii n_1, .bool (decide (n_1 < (0 : Int)))] [] hmix an ?_
 refine cd 4 (decide (n_1 < (0 : Int))) ?_ ?_
 ·intro g_1; replace h := cond_t g_1 h
  refine sr [] [2] [] 0 [.int .u64 (w_u64 ((w_u64 ((2 : Int) * (w_u64 (w_i64 (0 - (w_i64 (n_1 + (1 : Int)))))))) + (1 : Int)))] [] hmix an ?_
  refine rt ?_
  cases h
  exact ⟨.inr rfl, Nat.le_of_ble_eq_true rfl, by kernel_rfl⟩
 intro g_1; replace h := cond_f g_1 h
 refine sk ?_
 refine sr [] [2] [] 0 [.int .u64 (w_u64 ((2 : Int) * (w_u64 n_1)))] [] hmix an ?_
 refine rt ?_
 cases h
 exact ⟨.inr rfl, Nat.le_of_ble_eq_true rfl, by kernel_rfl⟩

theorem R05_PutInt_ok (F : Nat) (b_1 : List (Int)) (n_1 : Int) (r : (List (Int))) (h : R05_PutInt F b_1 n_1 = some r) : TripleG prog 37 [] [] [.sl false 1 (Mb b_1), Ii n_1] [.row 5 1 (Mb r)] (.own 0 ((r).length)) := by
 refine triple_intro (fn := Go.Proofs.Try.f37) (code := codeOf Go.Proofs.Try.f37) (by kernel_rfl) (by kernel_rfl) (Nat.le_of_ble_eq_true (by kernel_rfl)) ?_
 unfold R05_PutInt at h
 refine sr [(0, { id := 0, m := 1 })] [0, 1] [] 1 [.sl false 1 (Mb b_1), Ii n_1] [] hmix an ?_
 refine sq ?_
 obtain ⟨_, h_1, h⟩ := bind_some h; replace h_1 := need_some h_1
 refine rg [(0, { id := 1 }), (2, { id := 2, l := (Mb ([] ++ b_1)), n := (([] ++ b_1)).length })] [1, 5] [2] 3 [Ii n_1, .own 2 ((([] ++ b_1)).length)] [Rb 5 1 (Mb ([] ++ b_1))] hmix (ac (by first | (simp; done) | (simp; omega) : 0 = (([] : List AV)).length) (ac (trivial : True) (ac (by simp : (List.map (AV.int .u8) ([] ++ b_1)) = [] ++ (List.map (AV.int .u8) b_1)) (ac (by simp : (([] ++ b_1)).length = ((List.map (AV.int .u8) ([] ++ b_1))).length) (ac (by first | (simp; done) | simpa using h_1 : (([] : List AV).length + ((List.map (AV.int .u8) b_1) : List AV).length) * 1 ≤ 140737488355328) an))))) ?_
 refine sq ?_
 obtain ⟨r_1, h_2, h⟩ := bind_some h
 refine rg [(1, { av := .int .u64 r_1, l := [Ii n_1] })] [5, 6] [2] 3 [.own 2 ((([] ++ b_1)).length), .int .u64 r_1] [Rb 5 1 (Mb ([] ++ b_1))] hmix (ar ([Ii n_1] : List AV) (ac (rfl : ([] : List BoxSt) = []) (ac (R05_number_ok n_1 r_1 h_2 : TripleG prog 40 [] [] [Ii n_1] [] (.int .u64 r_1)) an))) ?_
 refine sq ?_
 obtain ⟨o_1, h_3, h⟩ := bind_some h
 refine aw_mid (mk [(5, .own 0 ((o_1.2).length)), (6, .int .u64 o_1.1)] [(0, Rb 5 1 (Mb o_1.2))] 1) ?_ ?_
 ·replace h := h_3
  refine aw_block (id := 0) (by kernel_rfl) ?_
  refine wk [2] [] [.s 5, .s 6] [.s 0] [(5, .own 0 ((([] ++ b_1)).length)), (6, .int .u64 r_1)] [(0, Rb 5 1 (Mb ([] ++ b_1)))] an ?_
  refine aw_loopF (fun n st => ∃ (u_1 : Int), ∃ (row_1 : List Int), st = mk [(5, .own 0 ((row_1).length)), (6, .int .u64 u_1)] [(0, Rb 5 1 (Mb row_1))] 1 ∧ R05_PutInt_L1 F n u_1 row_1 = some o_1) F (by kernel_rfl) ⟨_, _, rfl, h⟩ ?_ ?_
  ·rintro _ ⟨_, _, _, h⟩; exact none_ne (h : (none : Option (Int × (List Int))) = some o_1)
  rintro n_2 _ ⟨u_1, row_1, rfl, h⟩
  replace h : R05_PutInt_L1_body F (R05_PutInt_L1 F n_2) u_1 row_1 = some o_1 := h
  unfold R05_PutInt_L1_body at h
  refine sq ?_
  refine sr [] [5, 6, 13] [0] 1 [.own 0 ((row_1).length), .int .u64 u_1, .bool (decide (u_1 ≥ (128 : Int)))] [Rb 5 1 (Mb row_1)] hmix an ?_
  refine cd 13 (decide (u_1 ≥ (128 : Int))) ?_ ?_
  rotate_left
  ·intro g_1; replace h := cond_f g_1 h
   refine aw_exit (id := 0) (by kernel_rfl) ?_
   cases h
   exact ⟨rfl, (sw [0] [] [.s 5, .s 6] [.s 0] an)⟩
  intro g_1; replace h := cond_t g_1 h
  refine sk ?_
  refine aw_block (id := 1) (by kernel_rfl) ?_
  refine sq ?_
  obtain ⟨_, h_4, h⟩ := bind_some h; replace h_4 := need_some h_4
  refine rg [(5, { id := 1 }), (6, { id := 2, l := (Mb (row_1 ++ ([w_u8 ((w_u8 (irem u_1 (128 : Int))) + (128 : Int))] : List Int))), n := ((row_1 ++ ([w_u8 ((w_u8 (irem u_1 (128 : Int))) + (128 : Int))] : List Int))).length })] [5, 6] [2] 3 [.own 2 (((row_1 ++ ([w_u8 ((w_u8 (irem u_1 (128 : Int))) + (128 : Int))] : List Int))).length), .int .u64 u_1] [Rb 5 1 (Mb (row_1 ++ ([w_u8 ((w_u8 (irem u_1 (128 : Int))) + (128 : Int))] : List Int)))] hmix (ac (by decide : (128 : Int) ≠ (0 : Int)) (ac (by first | (simp; done) | (simp; omega) : (row_1).length = ((List.map (AV.int .u8) row_1)).length) (ac (by first | (simp; done) | (simp; omega) : 1 = ((List.map (AV.int .u8) ([w_u8 ((w_u8 (irem u_1 (128 : Int))) + (128 : Int))] : List Int))).length) (ac (vc_app _ _ : (Mb (row_1 ++ ([w_u8 ((w_u8 (irem u_1 (128 : Int))) + (128 : Int))] : List Int))) = (Mb row_1) ++ (Mb ([w_u8 ((w_u8 (irem u_1 (128 : Int))) + (128 : Int))] : List Int))) (ac (by simp : ((row_1 ++ ([w_u8 ((w_u8 (irem u_1 (128 : Int))) + (128 : Int))] : List Int))).length = ((List.map (AV.int .u8) (row_1 ++ ([w_u8 ((w_u8 (irem u_1 (128 : Int))) + (128 : Int))] : List Int)))).length) (ac (by first | (simp; done) | simpa using h_4 : (((List.map (AV.int .u8) row_1) : List AV).length + ((List.map (AV.int .u8) ([w_u8 ((w_u8 (irem u_1 (128 : Int))) + (128 : Int))] : List Int)) : List AV).length) * 1 ≤ 140737488355328) an)))))) ?_
  refine rg [] [5, 6] [2] 3 [.own 2 (((row_1 ++ ([w_u8 ((w_u8 (irem u_1 (128 : Int))) + (128 : Int))] : List Int))).length), .int .u64 (iquo .u64 u_1 (128 : Int))] [Rb 5 1 (Mb (row_1 ++ ([w_u8 ((w_u8 (irem u_1 (128 : Int))) + (128 : Int))] : List Int)))] hmix (ac (by decide : (128 : Int) ≠ (0 : Int)) an) ?_
  exact ⟨_, (sw [2] [] [.s 5, .s 6] [.s 0] an), _, _, rfl, h⟩
 refine sq ?_
 obtain ⟨_, h_5, h⟩ := bind_some h; replace h_5 := need_some h_5
 refine rg [(3, { id := 1 }), (4, { id := 2, l := (Mb (o_1.2 ++ ([w_u8 o_1.1] : List Int))), n := ((o_1.2 ++ ([w_u8 o_1.1] : List Int))).length })] [5] [2] 3 [.own 2 (((o_1.2 ++ ([w_u8 o_1.1] : List Int))).length)] [Rb 5 1 (Mb (o_1.2 ++ ([w_u8 o_1.1] : List Int)))] hmix (ac (by first | (simp; done) | (simp; omega) : (o_1.2).length = ((List.map (AV.int .u8) o_1.2)).length) (ac (by first | (simp; done) | (simp; omega) : 1 = ((List.map (AV.int .u8) ([w_u8 o_1.1] : List Int))).length) (ac (vc_app _ _ : (Mb (o_1.2 ++ ([w_u8 o_1.1] : List Int))) = (Mb o_1.2) ++ (Mb ([w_u8 o_1.1] : List Int))) (ac (by simp : ((o_1.2 ++ ([w_u8 o_1.1] : List Int))).length = ((List.map (AV.int .u8) (o_1.2 ++ ([w_u8 o_1.1] : List Int)))).length) (ac (by first | (simp; done) | simpa using h_5 : (((List.map (AV.int .u8) o_1.2) : List AV).length + ((List.map (AV.int .u8) ([w_u8 o_1.1] : List Int)) : List AV).length) * 1 ≤ 140737488355328) an))))) ?_
 refine sr [] [4] [2] 3 [.own 2 (((o_1.2 ++ ([w_u8 o_1.1] : List Int))).length)] [Rb 5 1 (Mb (o_1.2 ++ ([w_u8 o_1.1] : List Int)))] hmix an ?_
 refine wk [2] [] [.s 4] [.s 0] [(4, .own 0 (((o_1.2 ++ ([w_u8 o_1.1] : List Int))).length))] [(0, Rb 5 1 (Mb (o_1.2 ++ ([w_u8 o_1.1] : List Int))))] an ?_
 refine rt ?_
 cases h
 exact ⟨.inr rfl, Nat.le_of_ble_eq_true rfl, by kernel_rfl⟩

theorem R09_Frame_ok (F : Nat) (b_1 : List (Int)) (r : (List (Int))) (h : R09_Frame F b_1 = some r) : TripleG prog 31 [] [] [.sl false 1 (Mb b_1)] [.row 5 1 (Mb r)] (.own 0 ((r).length)) := by
 refine triple_intro (fn := Go.Proofs.Try.f31) (code := codeOf Go.Proofs.Try.f31) (by kernel_rfl) (by kernel_rfl) (Nat.le_of_ble_eq_true (by kernel_rfl)) ?_
 unfold R09_Frame at h
 refine sr [(0, { id := 0, m := 1 })] [0] [] 1 [.sl false 1 (Mb b_1)] [] hmix an ?_
 refine sq ?_
 obtain ⟨r_1, h_1, h⟩ := bind_some h
 obtain ⟨_, h_2, h⟩ := bind_some h; replace h_2 := need_some h_2
 refine rg [(1, { n := (b_1).length }), (2, { av := .own 0 ((r_1).length), ids := [1], l := [.nilsl, Ii (lN (b_1))], post := [(.row 5 1 (Mb r_1))] }), (4, { id := 2, l := (Mb (r_1 ++ b_1)), n := ((r_1 ++ b_1)).length })] [2] [2] 3 [.own 2 (((r_1 ++ b_1)).length)] [Rb 5 1 (Mb (r_1 ++ b_1))] hmix (ac (vc_len _ : ((Mb b_1)).length = (b_1).length) (ar ([.nilsl, Ii (lN (b_1))] : List AV) (ac (rfl : ([] : List BoxSt) = []) (ac (triple_lo (args' := [.sl false 1 [], Ii (lN (b_1))]) (R05_PutInt_ok F [] (lN (b_1)) r_1 h_1) rfl ⟨rfl, rfl, trivial⟩ : TripleG prog 37 [] [] [.nilsl, Ii (lN (b_1))] [(.row 5 1 (Mb r_1))] (.own 0 ((r_1).length))) (ac (by first | (simp; done) | (simp; omega) : (r_1).length = ((List.map (AV.int .u8) r_1)).length) (ac (trivial : True) (ac (vc_app _ _ : (Mb (r_1 ++ b_1)) = (Mb r_1) ++ (Mb b_1)) (ac (by simp : ((r_1 ++ b_1)).length = ((List.map (AV.int .u8) (r_1 ++ b_1))).length) (ac (by first | (simp; done) | simpa using h_2 : (((List.map (AV.int .u8) r_1) : List AV).length + ((List.map (AV.int .u8) b_1) : List AV).length) * 1 ≤ 140737488355328) an))))))))) ?_
 refine wk [2] [] [.s 2] [.s 0] [(2, .own 0 (((r_1 ++ b_1)).length))] [(0, Rb 5 1 (Mb (r_1 ++ b_1)))] an ?_
 refine rt ?_
 cases h
 exact ⟨.inr rfl, Nat.le_of_ble_eq_true rfl, by kernel_rfl⟩

theorem R09_written_ok (F : Nat) (data_1 : List (Int)) (at__1 : Int) (frame_1 : List (Int)) (r : (List (Int))) (h : R09_written F data_1 at__1 frame_1 = some r) : TripleG prog 32 [] [] [.sl false 1 (Mb data_1), Ii at__1, .sl false 1 (Mb frame_1)] [.row 5 1 (Mb r)] (.own 0 ((r).length)) := by
 refine triple_intro (fn := Go.Proofs.Try.f32) (code := codeOf Go.Proofs.Try.f32) (by kernel_rfl) (by kernel_rfl) (Nat.le_of_ble_eq_true (by kernel_rfl)) ?_
 unfold R09_written at h
 refine sr [(0, { id := 0, m := 1 })] [0, 1, 2] [] 1 [.sl false 1 (Mb data_1), Ii at__1, .sl false 1 (Mb frame_1)] [] hmix an ?_
 refine sq ?_
 obtain ⟨_, h_1, h⟩ := bind_some h; replace h_1 := need_some h_1
 refine rg [(0, { id := 1 }), (2, { id := 2, l := (Mb ([] ++ data_1)), n := (([] ++ data_1)).length })] [1, 2, 7] [2] 3 [Ii at__1, .sl false 1 (Mb frame_1), .own 2 ((([] ++ data_1)).length)] [Rb 5 1 (Mb ([] ++ data_1))] hmix (ac (by first | (simp; done) | (simp; omega) : 0 = (([] : List AV)).length) (ac (trivial : True) (ac (by simp : (List.map (AV.int .u8) ([] ++ data_1)) = [] ++ (List.map (AV.int .u8) data_1)) (ac (by simp : (([] ++ data_1)).length = ((List.map (AV.int .u8) ([] ++ data_1))).length) (ac (by first | (simp; done) | simpa using h_1 : (([] : List AV).length + ((List.map (AV.int .u8) data_1) : List AV).length) * 1 ≤ 140737488355328) an))))) ?_
 refine sq ?_
 refine sr [] [1, 2, 7, 8] [2] 3 [Ii at__1, .sl false 1 (Mb frame_1), .own 2 ((([] ++ data_1)).length), Ii 0] [Rb 5 1 (Mb ([] ++ data_1))] hmix an ?_
 obtain ⟨o_1, h_2, h⟩ := bind_some h
 refine aw_mid (mk [(7, .own 0 ((o_1).length))] [(0, Rb 5 1 (Mb o_1))] 1) ?_ ?_
 ·replace h := h_2
  refine aw_block (id := 0) (by kernel_rfl) ?_
  refine wk [2] [] [.s 1, .s 2, .s 7, .s 8] [.s 0] [(1, Ii at__1), (2, .sl false 1 (Mb frame_1)), (7, .own 0 ((([] ++ data_1)).length)), (8, Ii 0)] [(0, Rb 5 1 (Mb ([] ++ data_1)))] an ?_
  refine aw_loopF (fun n st => ∃ (i_1 : Int), ∃ (row_1 : List Int), st = mk [(1, Ii at__1), (2, .sl false 1 (Mb frame_1)), (7, .own 0 ((row_1).length)), (8, Ii i_1)] [(0, Rb 5 1 (Mb row_1))] 1 ∧ R09_written_L1 F at__1 frame_1 n i_1 row_1 = some o_1) F (by kernel_rfl) ⟨_, _, rfl, h⟩ ?_ ?_
  ·rintro _ ⟨_, _, _, h⟩; exact none_ne (h : (none : Option (List Int)) = some o_1)
  rintro n_1 _ ⟨i_1, row_1, rfl, h⟩
  replace h : R09_written_L1_body F at__1 frame_1 (R09_written_L1 F at__1 frame_1 n_1) i_1 row_1 = some o_1 := h
  unfold R09_written_L1_body at h
  refine sq ?_
  refine sr [(2, { n := (frame_1).length })] [1, 2, 7, 8, 15] [0] 1 [Ii at__1, .sl false 1 (Mb frame_1), .own 0 ((row_1).length), Ii i_1, .bool (decide (i_1 < (lN (frame_1))))] [Rb 5 1 (Mb row_1)] hmix (ac (vc_len _ : ((Mb frame_1)).length = (frame_1).length) an) ?_
  refine cd 15 (decide (i_1 < (lN (frame_1)))) ?_ ?_
  rotate_left
  ·intro g_1; replace h := cond_f g_1 h
   refine aw_exit (id := 0) (by kernel_rfl) ?_
   cases h
   exact ⟨rfl, (sw [0] [] [.s 7] [.s 0] an)⟩
  intro g_1; replace h := cond_t g_1 h
  refine sk ?_
  refine sq ?_
  refine aw_block (id := 1) (by kernel_rfl) ?_
  obtain ⟨_, h_3, h⟩ := bind_some h; replace h_3 := need_some h_3
  obtain ⟨x_1, h_4, h⟩ := bind_some h
  obtain ⟨x_2, h_5, h⟩ := bind_some h
  refine rg [(9, { av := Iu x_1 }), (12, { av := Iu x_2, l := (Mb ((row_1).set ((irem (w_i64 (at__1 + i_1)) (lN (row_1))).toNat) x_1)) })] [1, 2, 7, 8] [0] 1 [Ii at__1, .sl false 1 (Mb frame_1), .own 0 ((row_1).length), Ii i_1] [Rb 5 1 (Mb ((row_1).set ((irem (w_i64 (at__1 + i_1)) (lN (row_1))).toNat) x_1))] hmix (ac h_3 (ac (vc_idx h_4 : idxA (Mb frame_1) i_1 = some (Iu x_1)) (ac (idxL_lo h_5 : (0 : Int) ≤ (irem (w_i64 (at__1 + i_1)) (lN (row_1)))) (ac (by first | (simp; done) | simpa using idxL_hi h_5 : (irem (w_i64 (at__1 + i_1)) (((row_1).length : Nat) : Int)) < (((row_1).length : Nat) : Int)) (ac (vc_get h_5 : (Mb row_1)[(irem (w_i64 (at__1 + i_1)) (lN (row_1))).toNat]? = some (Iu x_2)) (ac (vc_set _ _ _ : (Mb ((row_1).set ((irem (w_i64 (at__1 + i_1)) (lN (row_1))).toNat) x_1)) = List.set (Mb row_1) ((irem (w_i64 (at__1 + i_1)) (lN (row_1))).toNat) (setElem (Iu x_2) 0 [Iu x_1])) an)))))) ?_
  refine rg [] [1, 2, 7, 8] [0] 1 [Ii at__1, .sl false 1 (Mb frame_1), .own 0 ((row_1).length), Ii (w_i64 (i_1 + (1 : Int)))] [Rb 5 1 (Mb ((row_1).set ((irem (w_i64 (at__1 + i_1)) (lN (row_1))).toNat) x_1))] hmix an ?_
  exact ⟨_, (sw [0] [] [.s 1, .s 2, .a 7 (.own 0 (((row_1).set ((irem (w_i64 (at__1 + i_1)) (lN (row_1))).toNat) x_1).length)), .s 8] [.s 0] (ac (congrArg (AV.own _) (by first | (simp; done) | (simp; omega)) : (.own 0 ((row_1).length) : AV) = .own 0 (((row_1).set ((irem (w_i64 (at__1 + i_1)) (lN (row_1))).toNat) x_1).length)) an)), _, _, rfl, h⟩
 refine sr [] [6] [0] 1 [.own 0 ((o_1).length)] [Rb 5 1 (Mb o_1)] hmix an ?_
 refine wk [0] [] [.s 6] [.s 0] [(6, .own 0 ((o_1).length))] [(0, Rb 5 1 (Mb o_1))] an ?_
 refine rt ?_
 cases h
 exact ⟨.inr rfl, Nat.le_of_ble_eq_true rfl, by kernel_rfl⟩

theorem R09_Put_ok (F : Nat) (r_1 : T_api_Ring) (b_1 : List (Int)) (r : T_api_Ring × Int × Int) (h : R09_Put F r_1 b_1 = some r) : TripleG prog 24 [] [] [e_T_api_Ring r_1, .sl false 1 (Mb b_1)] [] (.tuple [e_T_api_Ring r.1, Ii r.2.1, Ii r.2.2]) := by
 refine triple_intro (fn := Go.Proofs.Try.f24) (code := codeOf Go.Proofs.Try.f24) (by kernel_rfl) (by kernel_rfl) (Nat.le_of_ble_eq_true (by kernel_rfl)) ?_
 unfold R09_Put at h
 refine sr [(0, { id := 0 }), (1, { id := 1 })] [1, 2, 4] [0, 1] 2 [.sl false 1 (Mb b_1), Pp 0, Pp 1] [Vb 25 (v_T_api_Ring r_1), Vb 25 [Ii 0, .nilsl, Ii 0, Ii 0, Ii 0, Ii 0]] hmix an ?_
 refine sq ?_
 obtain ⟨r_2, h_1, h⟩ := bind_some h
 refine rg [(1, { av := Ii r_2, l := [e_T_api_Ring r_1] })] [1, 2, 4, 7] [0, 1] 2 [.sl false 1 (Mb b_1), Pp 0, Pp 1, Ii r_2] [Vb 25 (v_T_api_Ring r_1), Vb 25 [Ii 0, .nilsl, Ii 0, Ii 0, Ii 0, Ii 0]] hmix (ar ([e_T_api_Ring r_1] : List AV) (ac (rfl : ([] : List BoxSt) = []) (ac (R09_Check_ok F r_1 r_2 h_1 : TripleG prog 18 [] [] [e_T_api_Ring r_1] [] (Ii r_2)) an))) ?_
 refine sq ?_
 refine sr [] [1, 2, 4, 7, 17] [0, 1] 2 [.sl false 1 (Mb b_1), Pp 0, Pp 1, Ii r_2, .bool (r_2 != (0 : Int))] [Vb 25 (v_T_api_Ring r_1), Vb 25 [Ii 0, .nilsl, Ii 0, Ii 0, Ii 0, Ii 0]] hmix an ?_
 refine cd 17 (r_2 != (0 : Int)) ?_ ?_
 ·intro g_1; replace h := cond_t g_1 h
  refine sr [] [4, 5, 6] [1] 2 [Pp 1, Ii 0, Ii r_2] [Vb 25 (v_T_api_Ring r_1)] hmix an ?_
  refine wk [1] [] [.s 4, .s 5, .s 6] [.s 0] [(4, Pp 0), (5, Ii 0), (6, Ii r_2)] [(0, Vb 25 (v_T_api_Ring r_1))] an ?_
  refine rt ?_
  cases h
  exact ⟨.inr rfl, Nat.le_of_ble_eq_true rfl, by kernel_rfl⟩
 intro g_1; replace h := cond_f g_1 h
 refine sk ?_
 refine sq ?_
 obtain ⟨r_3, h_2, h⟩ := bind_some h
 refine rg [(1, { av := .own 0 ((r_3).length), ids := [2], l := [.sl false 1 (Mb b_1)], post := [(.row 5 1 (Mb r_3))] })] [1, 2, 4, 8] [0, 1, 2] 3 [.sl false 1 (Mb b_1), Pp 0, Pp 1, .own 2 ((r_3).length)] [Vb 25 (v_T_api_Ring r_1), Vb 25 [Ii 0, .nilsl, Ii 0, Ii 0, Ii 0, Ii 0], Rb 5 1 (Mb r_3)] hmix (ar ([.sl false 1 (Mb b_1)] : List AV) (ac (rfl : ([] : List BoxSt) = []) (ac (R09_Frame_ok F b_1 r_3 h_2 : TripleG prog 31 [] [] [.sl false 1 (Mb b_1)] [(.row 5 1 (Mb r_3))] (.own 0 ((r_3).length))) an))) ?_
 refine sq ?_
 refine sq ?_
 refine aw_mid (mk [(2, Pp 0), (4, Pp 1), (8, .own 2 ((r_3).length)), (32, .bool (decide ((lN (b_1)) > (2000 : Int)) || decide ((lN (r_3)) > (lN (r_1.Data)))))] [(0, Vb 25 (v_T_api_Ring r_1)), (1, Vb 25 [Ii 0, .nilsl, Ii 0, Ii 0, Ii 0, Ii 0]), (2, Rb 5 1 (Mb r_3))] 3) ?_ ?_
 ·rcases bft (decide ((lN (b_1)) > (2000 : Int))) with gg_1 | gg_1
  ·refine rg [(1, { n := (b_1).length }), (4, Hg), (5, Hg), (6, Hg), (7, Hg), (8, Hg), (9, Hg), (10, Ht)] [2, 4, 8, 32] [0, 1, 2] 3 [Pp 0, Pp 1, .own 2 ((r_3).length), .bool true] [Vb 25 (v_T_api_Ring r_1), Vb 25 [Ii 0, .nilsl, Ii 0, Ii 0, Ii 0, Ii 0], Rb 5 1 (Mb r_3)] hmix (ac (vc_len _ : ((Mb b_1)).length = (b_1).length) (ac gg_1 (ac gg_1 (ac gg_1 (ac gg_1 (ac gg_1 (ac gg_1 (ac gg_1 an)))))))) ?_
   exact ⟨rfl, (sw [0, 1, 2] [] [.s 2, .s 4, .s 8, .a 32 (.bool (decide ((lN (b_1)) > (2000 : Int)) || decide ((lN (r_3)) > (lN (r_1.Data)))))] [.s 0, .s 1, .s 2] (ac (congrArg AV.bool (ort gg_1) : (.bool true : AV) = .bool (decide ((lN (b_1)) > (2000 : Int)) || decide ((lN (r_3)) > (lN (r_1.Data))))) an))⟩
  ·refine rg [(1, { n := (b_1).length }), (8, { n := (r_1.Data).length }), (10, Hf)] [2, 4, 8, 32] [0, 1, 2] 3 [Pp 0, Pp 1, .own 2 ((r_3).length), .bool (decide ((lN (r_3)) > (lN (r_1.Data))))] [Vb 25 (v_T_api_Ring r_1), Vb 25 [Ii 0, .nilsl, Ii 0, Ii 0, Ii 0, Ii 0], Rb 5 1 (Mb r_3)] hmix (ac (vc_len _ : ((Mb b_1)).length = (b_1).length) (ac gg_1 (ac gg_1 (ac gg_1 (ac gg_1 (ac gg_1 (ac (vc_len _ : ((Mb r_1.Data)).length = (r_1.Data).length) (ac gg_1 (ac gg_1 an))))))))) ?_
   exact ⟨rfl, (sw [0, 1, 2] [] [.s 2, .s 4, .s 8, .a 32 (.bool (decide ((lN (b_1)) > (2000 : Int)) || decide ((lN (r_3)) > (lN (r_1.Data)))))] [.s 0, .s 1, .s 2] (ac (congrArg AV.bool (orf gg_1 rfl) : (.bool (decide ((lN (r_3)) > (lN (r_1.Data)))) : AV) = .bool (decide ((lN (b_1)) > (2000 : Int)) || decide ((lN (r_3)) > (lN (r_1.Data))))) an))⟩
 refine cd 32 (decide ((lN (b_1)) > (2000 : Int)) || decide ((lN (r_3)) > (lN (r_1.Data)))) ?_ ?_
 ·intro g_2; replace h := cond_t g_2 h
  refine sr [] [4, 5, 6] [1] 3 [Pp 1, Ii 0, Ii 7] [Vb 25 (v_T_api_Ring r_1)] hmix an ?_
  refine wk [1] [] [.s 4, .s 5, .s 6] [.s 0] [(4, Pp 0), (5, Ii 0), (6, Ii 7)] [(0, Vb 25 (v_T_api_Ring r_1))] an ?_
  refine rt ?_
  cases h
  exact ⟨.inr rfl, Nat.le_of_ble_eq_true rfl, by kernel_rfl⟩
 intro g_2; replace h := cond_f g_2 h
 refine sk ?_
 refine sq ?_
 refine sq ?_
 obtain ⟨p_1, h_4, h⟩ := bind_some h
 refine aw_mid (mk [(2, Pp 0), (4, Pp 1), (8, .own 2 ((r_3).length)), (43, .bool p_1)] [(0, Vb 25 (v_T_api_Ring r_1)), (1, Vb 25 [Ii 0, .nilsl, Ii 0, Ii 0, Ii 0, Ii 0]), (2, Rb 5 1 (Mb r_3))] 3) ?_ ?_
 ·replace h := h_4
  rcases bft (r_1.Policy == (2 : Int)) with gg_2 | gg_2
  ·replace h := cond_t gg_2 h
   obtain ⟨r_4, h_3, h⟩ := bind_some h
   refine rg [(7, { av := Ii r_4, l := [e_T_api_Ring r_1] }), (9, Ht)] [2, 4, 8, 43] [0, 1, 2] 3 [Pp 0, Pp 1, .own 2 ((r_3).length), .bool (decide ((lN (r_3)) > r_4))] [Vb 25 (v_T_api_Ring r_1), Vb 25 [Ii 0, .nilsl, Ii 0, Ii 0, Ii 0, Ii 0], Rb 5 1 (Mb r_3)] hmix (ac gg_2 (ac gg_2 (ac gg_2 (ac gg_2 (ar ([e_T_api_Ring r_1] : List AV) (ac (rfl : ([] : List BoxSt) = []) (ac (R09_Free_ok F r_1 r_4 h_3 : TripleG prog 20 [] [] [e_T_api_Ring r_1] [] (Ii r_4)) (ac gg_2 (ac gg_2 an))))))))) ?_
   cases h
   exact ⟨rfl, (sw [0, 1, 2] [] [.s 2, .s 4, .s 8, .s 43] [.s 0, .s 1, .s 2] an)⟩
  ·replace h := cond_f gg_2 h
   refine rg [(4, Hg), (5, Hg), (6, Hg), (7, Hg), (8, Hg), (9, Hf)] [2, 4, 8, 43] [0, 1, 2] 3 [Pp 0, Pp 1, .own 2 ((r_3).length), .bool false] [Vb 25 (v_T_api_Ring r_1), Vb 25 [Ii 0, .nilsl, Ii 0, Ii 0, Ii 0, Ii 0], Rb 5 1 (Mb r_3)] hmix (ac gg_2 (ac gg_2 (ac gg_2 (ac gg_2 (ac gg_2 (ac gg_2 an)))))) ?_
   cases h
   exact ⟨rfl, (sw [0, 1, 2] [] [.s 2, .s 4, .s 8, .s 43] [.s 0, .s 1, .s 2] an)⟩
 refine cd 43 p_1 ?_ ?_
 ·intro g_3; replace h := cond_t g_3 h
  refine sr [] [4, 5, 6] [1] 3 [Pp 1, Ii 0, Ii 6] [Vb 25 (v_T_api_Ring r_1)] hmix an ?_
  refine wk [1] [] [.s 4, .s 5, .s 6] [.s 0] [(4, Pp 0), (5, Ii 0), (6, Ii 6)] [(0, Vb 25 (v_T_api_Ring r_1))] an ?_
  refine rt ?_
  cases h
  exact ⟨.inr rfl, Nat.le_of_ble_eq_true rfl, by kernel_rfl⟩
 intro g_3; replace h := cond_f g_3 h
 refine sk ?_
 refine sq ?_
 refine sq ?_
 refine aw_mid (mk [(2, Pp 0), (4, Pp 1), (8, .own 2 ((r_3).length)), (56, .bool (decide ((w_i64 (r_1.End + (lN (r_3)))) > (1000000000000000 : Int)) || decide ((w_i64 (r_1.Next + (1 : Int))) > (1000000000000000 : Int))))] [(0, Vb 25 (v_T_api_Ring r_1)), (1, Vb 25 [Ii 0, .nilsl, Ii 0, Ii 0, Ii 0, Ii 0]), (2, Rb 5 1 (Mb r_3))] 3) ?_ ?_
 ·rcases bft (decide ((w_i64 (r_1.End + (lN (r_3)))) > (1000000000000000 : Int))) with gg_3 | gg_3
  ·refine rg [(7, Hg), (8, Hg), (9, Hg), (10, Hg), (11, Ht)] [2, 4, 8, 56] [0, 1, 2] 3 [Pp 0, Pp 1, .own 2 ((r_3).length), .bool true] [Vb 25 (v_T_api_Ring r_1), Vb 25 [Ii 0, .nilsl, Ii 0, Ii 0, Ii 0, Ii 0], Rb 5 1 (Mb r_3)] hmix (ac gg_3 (ac gg_3 (ac gg_3 (ac gg_3 (ac gg_3 an))))) ?_
   exact ⟨rfl, (sw [0, 1, 2] [] [.s 2, .s 4, .s 8, .a 56 (.bool (decide ((w_i64 (r_1.End + (lN (r_3)))) > (1000000000000000 : Int)) || decide ((w_i64 (r_1.Next + (1 : Int))) > (1000000000000000 : Int))))] [.s 0, .s 1, .s 2] (ac (congrArg AV.bool (ort gg_3) : (.bool true : AV) = .bool (decide ((w_i64 (r_1.End + (lN (r_3)))) > (1000000000000000 : Int)) || decide ((w_i64 (r_1.Next + (1 : Int))) > (1000000000000000 : Int)))) an))⟩
  ·refine rg [(11, Hf)] [2, 4, 8, 56] [0, 1, 2] 3 [Pp 0, Pp 1, .own 2 ((r_3).length), .bool (decide ((w_i64 (r_1.Next + (1 : Int))) > (1000000000000000 : Int)))] [Vb 25 (v_T_api_Ring r_1), Vb 25 [Ii 0, .nilsl, Ii 0, Ii 0, Ii 0, Ii 0], Rb 5 1 (Mb r_3)] hmix (ac gg_3 (ac gg_3 (ac gg_3 (ac gg_3 (ac gg_3 an))))) ?_
   exact ⟨rfl, (sw [0, 1, 2] [] [.s 2, .s 4, .s 8, .a 56 (.bool (decide ((w_i64 (r_1.End + (lN (r_3)))) > (1000000000000000 : Int)) || decide ((w_i64 (r_1.Next + (1 : Int))) > (1000000000000000 : Int))))] [.s 0, .s 1, .s 2] (ac (congrArg AV.bool (orf gg_3 rfl) : (.bool (decide ((w_i64 (r_1.Next + (1 : Int))) > (1000000000000000 : Int))) : AV) = .bool (decide ((w_i64 (r_1.End + (lN (r_3)))) > (1000000000000000 : Int)) || decide ((w_i64 (r_1.Next + (1 : Int))) > (1000000000000000 : Int)))) an))⟩
 refine cd 56 (decide ((w_i64 (r_1.End + (lN (r_3)))) > (1000000000000000 : Int)) || decide ((w_i64 (r_1.Next + (1 : Int))) > (1000000000000000 : Int))) ?_ ?_
 ·intro g_4; replace h := cond_t g_4 h
  refine sr [] [4, 5, 6] [1] 3 [Pp 1, Ii 0, Ii 2] [Vb 25 (v_T_api_Ring r_1)] hmix an ?_
  refine wk [1] [] [.s 4, .s 5, .s 6] [.s 0] [(4, Pp 0), (5, Ii 0), (6, Ii 2)] [(0, Vb 25 (v_T_api_Ring r_1))] an ?_
  refine rt ?_
  cases h
  exact ⟨.inr rfl, Nat.le_of_ble_eq_true rfl, by kernel_rfl⟩
 intro g_4; replace h := cond_f g_4 h
 refine sk ?_
 refine sq ?_
 obtain ⟨r_5, h_5, h⟩ := bind_some h
 obtain ⟨r_6, h_6, h⟩ := bind_some h
 refine rg [(1, { av := .own 0 ((r_5).length), ids := [3], l := [e_T_api_Ring r_1], post := [(.row 5 1 (Mb r_5))] }), (2, { av := .tuple [.own 0 ((r_6.1).length), .bool r_6.2], frz := [3], ids := [4], l := [.sl false 1 (Mb r_5)], post := [(.row 23 1 (List.map (fun l => AV.sl false 1 (l.map (AV.int .u8))) r_6.1))] })] [2, 4, 8, 9] [0, 1, 2, 4] 5 [Pp 0, Pp 1, .own 2 ((r_3).length), .own 4 ((r_6.1).length)] [Vb 25 (v_T_api_Ring r_1), Vb 25 [Ii 0, .nilsl, Ii 0, Ii 0, Ii 0, Ii 0], Rb 5 1 (Mb r_3), Rb 23 1 (List.map (fun l => AV.sl false 1 (l.map (AV.int .u8))) r_6.1)] hmix (ar ([e_T_api_Ring r_1] : List AV) (ac (rfl : ([] : List BoxSt) = []) (ac (R09_Contents_ok F r_1 r_5 h_5 : TripleG prog 28 [] [] [e_T_api_Ring r_1] [(.row 5 1 (Mb r_5))] (.own 0 ((r_5).length))) (ac (by first | (simp; done) | (simp; omega) : (r_5).length = ((List.map (AV.int .u8) r_5)).length) (ar ([.sl false 1 (Mb r_5)] : List AV) (ac (rfl : ([] : List BoxSt) = []) (ac (R09_Records_ok F r_5 r_6 h_6 : TripleG prog 27 [] [] [.sl false 1 (Mb r_5)] [(.row 23 1 (List.map (fun l => AV.sl false 1 (l.map (AV.int .u8))) r_6.1))] (.tuple [.own 0 ((r_6.1).length), .bool r_6.2])) an))))))) ?_
 refine sr [] [2, 4, 8, 9, 11] [0, 1, 2, 4] 5 [Pp 0, Pp 1, .own 2 ((r_3).length), .own 4 ((r_6.1).length), Ii 0] [Vb 25 (v_T_api_Ring r_1), Vb 25 [Ii 0, .nilsl, Ii 0, Ii 0, Ii 0, Ii 0], Rb 5 1 (Mb r_3), Rb 23 1 (List.map (fun l => AV.sl false 1 (l.map (AV.int .u8))) r_6.1)] hmix an ?_
 refine sr [(2, { n := (r_1.Data).length })] [2, 4, 8, 9, 11, 12] [0, 1, 2, 4] 5 [Pp 0, Pp 1, .own 2 ((r_3).length), .own 4 ((r_6.1).length), Ii 0, Ii (w_i64 ((lN (r_1.Data)) - (w_i64 (r_1.End - r_1.Start))))] [Vb 25 (v_T_api_Ring r_1), Vb 25 [Ii 0, .nilsl, Ii 0, Ii 0, Ii 0, Ii 0], Rb 5 1 (Mb r_3), Rb 23 1 (List.map (fun l => AV.sl false 1 (l.map (AV.int .u8))) r_6.1)] hmix (ac (vc_len _ : ((Mb r_1.Data)).length = (r_1.Data).length) an) ?_
 refine sq ?_
 obtain ⟨o_1, h_7, h⟩ := bind_some h
 refine aw_mid (mk [(2, Pp 0), (4, Pp 1), (8, .own 2 ((r_3).length)), (11, Ii o_1.1)] [(0, Vb 25 [Ii r_1.Policy, .sl false 1 (Mb r_1.Data), Ii o_1.2, Ii r_1.End, Ii r_1.First, Ii r_1.Next]), (1, Vb 25 [Ii 0, .nilsl, Ii 0, Ii 0, Ii 0, Ii 0]), (2, Rb 5 1 (Mb r_3))] 3) ?_ ?_
 ·replace h := h_7
  refine aw_block (id := 0) (by kernel_rfl) ?_
  refine wk [0, 1, 2, 4] [] [.s 2, .s 4, .s 8, .s 9, .s 11, .s 12] [.s 0, .s 1, .s 2, .s 3] [(2, Pp 0), (4, Pp 1), (8, .own 2 ((r_3).length)), (9, .own 3 ((r_6.1).length)), (11, Ii 0), (12, Ii (w_i64 ((lN (r_1.Data)) - (w_i64 (r_1.End - r_1.Start)))))] [(0, Vb 25 (v_T_api_Ring r_1)), (1, Vb 25 [Ii 0, .nilsl, Ii 0, Ii 0, Ii 0, Ii 0]), (2, Rb 5 1 (Mb r_3)), (3, Rb 23 1 (List.map (fun l => AV.sl false 1 (l.map (AV.int .u8))) r_6.1))] an ?_
  refine aw_loopF (fun n st => ∃ (lost_1 : Int), ∃ (room_1 : Int), ∃ (c_1 : Int), st = mk [(2, Pp 0), (4, Pp 1), (8, .own 2 ((r_3).length)), (9, .own 3 ((r_6.1).length)), (11, Ii lost_1), (12, Ii room_1)] [(0, Vb 25 [Ii r_1.Policy, .sl false 1 (Mb r_1.Data), Ii c_1, Ii r_1.End, Ii r_1.First, Ii r_1.Next]), (1, Vb 25 [Ii 0, .nilsl, Ii 0, Ii 0, Ii 0, Ii 0]), (2, Rb 5 1 (Mb r_3)), (3, Rb 23 1 (List.map (fun l => AV.sl false 1 (l.map (AV.int .u8))) r_6.1))] 4 ∧ R09_Put_L1 F r_3 r_6 n lost_1 room_1 c_1 = some o_1) F (by kernel_rfl) ⟨_, _, _, rfl, h⟩ ?_ ?_
  ·rintro _ ⟨_, _, _, _, h⟩; exact none_ne (h : (none : Option (Int × Int)) = some o_1)
  rintro n_1 _ ⟨lost_1, room_1, c_1, rfl, h⟩
  replace h : R09_Put_L1_body F r_3 r_6 (R09_Put_L1 F r_3 r_6 n_1) lost_1 room_1 c_1 = some o_1 := h
  unfold R09_Put_L1_body at h
  refine sq ?_
  refine sr [] [2, 4, 8, 9, 11, 12, 76] [0, 1, 2, 3] 4 [Pp 0, Pp 1, .own 2 ((r_3).length), .own 3 ((r_6.1).length), Ii lost_1, Ii room_1, .bool (decide (room_1 < (lN (r_3))))] [Vb 25 [Ii r_1.Policy, .sl false 1 (Mb r_1.Data), Ii c_1, Ii r_1.End, Ii r_1.First, Ii r_1.Next], Vb 25 [Ii 0, .nilsl, Ii 0, Ii 0, Ii 0, Ii 0], Rb 5 1 (Mb r_3), Rb 23 1 (List.map (fun l => AV.sl false 1 (l.map (AV.int .u8))) r_6.1)] hmix an ?_
  refine cd 76 (decide (room_1 < (lN (r_3)))) ?_ ?_
  rotate_left
  ·intro g_5; replace h := cond_f g_5 h
   refine aw_exit (id := 0) (by kernel_rfl) ?_
   cases h
   exact ⟨rfl, (sw [0, 1, 2] [] [.s 2, .s 4, .s 8, .s 11] [.s 0, .s 1, .s 2] an)⟩
  intro g_5; replace h := cond_t g_5 h
  refine sk ?_
  refine aw_block (id := 1) (by kernel_rfl) ?_
  refine sq ?_
  obtain ⟨x_1, h_8, h⟩ := bind_some h
  obtain ⟨r_7, h_9, h⟩ := bind_some h
  refine rg [(3, { av := .sl false 1 (Mb x_1) }), (4, { av := .own 0 ((r_7).length), ids := [4], l := [.sl false 1 (Mb x_1)], post := [(.row 5 1 (Mb r_7))] })] [2, 4, 8, 9, 11, 12, 13] [0, 1, 2, 3] 5 [Pp 0, Pp 1, .own 2 ((r_3).length), .own 3 ((r_6.1).length), Ii lost_1, Ii room_1, Ii (lN (r_7))] [Vb 25 [Ii r_1.Policy, .sl false 1 (Mb r_1.Data), Ii c_1, Ii r_1.End, Ii r_1.First, Ii r_1.Next], Vb 25 [Ii 0, .nilsl, Ii 0, Ii 0, Ii 0, Ii 0], Rb 5 1 (Mb r_3), Rb 23 1 (List.map (fun l => AV.sl false 1 (l.map (AV.int .u8))) r_6.1)] hmix (ac (idxL_lo h_8 : (0 : Int) ≤ lost_1) (ac (by first | (simp; done) | simpa using idxL_hi h_8 : lost_1 < (((r_6.1).length : Nat) : Int)) (ac (vc_get h_8 : (List.map (fun l => AV.sl false 1 (l.map (AV.int .u8))) r_6.1)[(lost_1).toNat]? = some (.sl false 1 (Mb x_1))) (ar ([.sl false 1 (Mb x_1)] : List AV) (ac (rfl : ([] : List BoxSt) = []) (ac (R09_Frame_ok F x_1 r_7 h_9 : TripleG prog 31 [] [] [.sl false 1 (Mb x_1)] [(.row 5 1 (Mb r_7))] (.own 0 ((r_7).length))) an)))))) ?_
  refine sr [] [2, 4, 8, 9, 11, 12, 13] [0, 1, 2, 3] 5 [Pp 0, Pp 1, .own 2 ((r_3).length), .own 3 ((r_6.1).length), Ii lost_1, Ii (w_i64 (room_1 + (lN (r_7)))), Ii (lN (r_7))] [Vb 25 [Ii r_1.Policy, .sl false 1 (Mb r_1.Data), Ii c_1, Ii r_1.End, Ii r_1.First, Ii r_1.Next], Vb 25 [Ii 0, .nilsl, Ii 0, Ii 0, Ii 0, Ii 0], Rb 5 1 (Mb r_3), Rb 23 1 (List.map (fun l => AV.sl false 1 (l.map (AV.int .u8))) r_6.1)] hmix an ?_
  refine sr [] [2, 4, 8, 9, 11, 12] [0, 1, 2, 3] 5 [Pp 0, Pp 1, .own 2 ((r_3).length), .own 3 ((r_6.1).length), Ii lost_1, Ii (w_i64 (room_1 + (lN (r_7))))] [Vb 25 [Ii r_1.Policy, .sl false 1 (Mb r_1.Data), Ii (w_i64 (c_1 + (lN (r_7)))), Ii r_1.End, Ii r_1.First, Ii r_1.Next], Vb 25 [Ii 0, .nilsl, Ii 0, Ii 0, Ii 0, Ii 0], Rb 5 1 (Mb r_3), Rb 23 1 (List.map (fun l => AV.sl false 1 (l.map (AV.int .u8))) r_6.1)] hmix an ?_
  refine rg [] [2, 4, 8, 9, 11, 12] [0, 1, 2, 3] 5 [Pp 0, Pp 1, .own 2 ((r_3).length), .own 3 ((r_6.1).length), Ii (w_i64 (lost_1 + (1 : Int))), Ii (w_i64 (room_1 + (lN (r_7))))] [Vb 25 [Ii r_1.Policy, .sl false 1 (Mb r_1.Data), Ii (w_i64 (c_1 + (lN (r_7)))), Ii r_1.End, Ii r_1.First, Ii r_1.Next], Vb 25 [Ii 0, .nilsl, Ii 0, Ii 0, Ii 0, Ii 0], Rb 5 1 (Mb r_3), Rb 23 1 (List.map (fun l => AV.sl false 1 (l.map (AV.int .u8))) r_6.1)] hmix an ?_
  exact ⟨_, (sw [0, 1, 2, 3] [] [.s 2, .s 4, .s 8, .s 9, .s 11, .s 12] [.s 0, .s 1, .s 2, .s 3] an), _, _, _, rfl, h⟩
 refine sr [] [2, 4, 8, 11] [0, 1, 2] 3 [Pp 0, Pp 1, .own 2 ((r_3).length), Ii o_1.1] [Vb 25 [Ii r_1.Policy, .sl false 1 (Mb r_1.Data), Ii o_1.2, Ii r_1.End, Ii (w_i64 (r_1.First + o_1.1)), Ii r_1.Next], Vb 25 [Ii 0, .nilsl, Ii 0, Ii 0, Ii 0, Ii 0], Rb 5 1 (Mb r_3)] hmix an ?_
 refine sq ?_
 refine wk [0, 1] [2] [.s 2, .s 4, .a 8 (.sl false 1 (Mb r_3)), .s 11] [.s 0, .s 1] [(2, Pp 0), (4, Pp 1), (8, .sl false 1 (Mb r_3)), (11, Ii o_1.1)] [(0, Vb 25 [Ii r_1.Policy, .sl false 1 (Mb r_1.Data), Ii o_1.2, Ii r_1.End, Ii (w_i64 (r_1.First + o_1.1)), Ii r_1.Next]), (1, Vb 25 [Ii 0, .nilsl, Ii 0, Ii 0, Ii 0, Ii 0])] (ac (by first | (simp; done) | (simp; omega) : (r_3).length = ((List.map (AV.int .u8) r_3)).length) (ar 1 (ar ((Mb r_3) : List AV) (ac (rfl : (!false || false) = true) an)))) ?_
 obtain ⟨r_8, h_10, h⟩ := bind_some h
 refine rg [(5, { av := .own 0 ((r_8).length), ids := [2], l := [.sl false 1 (Mb r_1.Data), Ii r_1.End, .sl false 1 (Mb r_3)], post := [(.row 5 1 (Mb r_8))] })] [2, 4, 8, 11] [0, 1, 2] 3 [Pp 0, Pp 1, .sl false 1 (Mb r_3), Ii o_1.1] [Vb 25 [Ii r_1.Policy, .own 2 ((r_8).length), Ii o_1.2, Ii r_1.End, Ii (w_i64 (r_1.First + o_1.1)), Ii r_1.Next], Vb 25 [Ii 0, .nilsl, Ii 0, Ii 0, Ii 0, Ii 0], Rb 5 1 (Mb r_8)] hmix (ar ([.sl false 1 (Mb r_1.Data), Ii r_1.End, .sl false 1 (Mb r_3)] : List AV) (ac (rfl : ([] : List BoxSt) = []) (ac (R09_written_ok F r_1.Data r_1.End r_3 r_8 h_10 : TripleG prog 32 [] [] [.sl false 1 (Mb r_1.Data), Ii r_1.End, .sl false 1 (Mb r_3)] [(.row 5 1 (Mb r_8))] (.own 0 ((r_8).length))) an))) ?_
 refine sr [(3, { n := (r_3).length })] [2, 4, 11] [0, 1, 2] 3 [Pp 0, Pp 1, Ii o_1.1] [Vb 25 [Ii r_1.Policy, .own 2 ((r_8).length), Ii o_1.2, Ii (w_i64 (r_1.End + (lN (r_3)))), Ii (w_i64 (r_1.First + o_1.1)), Ii r_1.Next], Vb 25 [Ii 0, .nilsl, Ii 0, Ii 0, Ii 0, Ii 0], Rb 5 1 (Mb r_8)] hmix (ac (vc_len _ : ((Mb r_3)).length = (r_3).length) an) ?_
 refine sr [] [2, 4, 11] [0, 1, 2] 3 [Pp 0, Pp 1, Ii o_1.1] [Vb 25 [Ii r_1.Policy, .own 2 ((r_8).length), Ii o_1.2, Ii (w_i64 (r_1.End + (lN (r_3)))), Ii (w_i64 (r_1.First + o_1.1)), Ii (w_i64 (r_1.Next + (1 : Int)))], Vb 25 [Ii 0, .nilsl, Ii 0, Ii 0, Ii 0, Ii 0], Rb 5 1 (Mb r_8)] hmix an ?_
 refine sr [] [4, 5, 6] [1, 2] 3 [Pp 1, Ii o_1.1, Ii 0] [Vb 25 [Ii r_1.Policy, .own 2 ((r_8).length), Ii o_1.2, Ii (w_i64 (r_1.End + (lN (r_3)))), Ii (w_i64 (r_1.First + o_1.1)), Ii (w_i64 (r_1.Next + (1 : Int)))], Rb 5 1 (Mb r_8)] hmix an ?_
 refine wk [1] [2] [.s 4, .s 5, .s 6] [.a 0 (Vb 25 (v_T_api_Ring (⟨r_1.Policy, r_8, o_1.2, w_i64 (r_1.End + (lN (r_3))), w_i64 (r_1.First + o_1.1), w_i64 (r_1.Next + (1 : Int))⟩ : T_api_Ring)))] [(4, Pp 0), (5, Ii o_1.1), (6, Ii 0)] [(0, Vb 25 (v_T_api_Ring (⟨r_1.Policy, r_8, o_1.2, w_i64 (r_1.End + (lN (r_3))), w_i64 (r_1.First + o_1.1), w_i64 (r_1.Next + (1 : Int))⟩ : T_api_Ring)))] (ar 25 (ac (rfl : ones [Ii ((⟨r_1.Policy, r_8, o_1.2, w_i64 (r_1.End + (lN (r_3))), w_i64 (r_1.First + o_1.1), w_i64 (r_1.Next + (1 : Int))⟩ : T_api_Ring).Policy), .sl false 1 (Mb ((⟨r_1.Policy, r_8, o_1.2, w_i64 (r_1.End + (lN (r_3))), w_i64 (r_1.First + o_1.1), w_i64 (r_1.Next + (1 : Int))⟩ : T_api_Ring).Data)), Ii ((⟨r_1.Policy, r_8, o_1.2, w_i64 (r_1.End + (lN (r_3))), w_i64 (r_1.First + o_1.1), w_i64 (r_1.Next + (1 : Int))⟩ : T_api_Ring).Start), Ii ((⟨r_1.Policy, r_8, o_1.2, w_i64 (r_1.End + (lN (r_3))), w_i64 (r_1.First + o_1.1), w_i64 (r_1.Next + (1 : Int))⟩ : T_api_Ring).End), Ii ((⟨r_1.Policy, r_8, o_1.2, w_i64 (r_1.End + (lN (r_3))), w_i64 (r_1.First + o_1.1), w_i64 (r_1.Next + (1 : Int))⟩ : T_api_Ring).First), Ii ((⟨r_1.Policy, r_8, o_1.2, w_i64 (r_1.End + (lN (r_3))), w_i64 (r_1.First + o_1.1), w_i64 (r_1.Next + (1 : Int))⟩ : T_api_Ring).Next)] = true) (ac (by first | (simp; done) | (simp; omega) : (r_8).length = ((List.map (AV.int .u8) r_8)).length) (ac (rfl : (Ii r_1.Policy : AV) = Ii ((⟨r_1.Policy, r_8, o_1.2, w_i64 (r_1.End + (lN (r_3))), w_i64 (r_1.First + o_1.1), w_i64 (r_1.Next + (1 : Int))⟩ : T_api_Ring).Policy)) (ar 1 (ac (rfl : ((Mb r_8) : List AV) = (Mb ((⟨r_1.Policy, r_8, o_1.2, w_i64 (r_1.End + (lN (r_3))), w_i64 (r_1.First + o_1.1), w_i64 (r_1.Next + (1 : Int))⟩ : T_api_Ring).Data))) (ac (rfl : (!false || false) = true) (ac (rfl : (Ii o_1.2 : AV) = Ii ((⟨r_1.Policy, r_8, o_1.2, w_i64 (r_1.End + (lN (r_3))), w_i64 (r_1.First + o_1.1), w_i64 (r_1.Next + (1 : Int))⟩ : T_api_Ring).Start)) (ac (rfl : (Ii (w_i64 (r_1.End + (lN (r_3)))) : AV) = Ii ((⟨r_1.Policy, r_8, o_1.2, w_i64 (r_1.End + (lN (r_3))), w_i64 (r_1.First + o_1.1), w_i64 (r_1.Next + (1 : Int))⟩ : T_api_Ring).End)) (ac (rfl : (Ii (w_i64 (r_1.First + o_1.1)) : AV) = Ii ((⟨r_1.Policy, r_8, o_1.2, w_i64 (r_1.End + (lN (r_3))), w_i64 (r_1.First + o_1.1), w_i64 (r_1.Next + (1 : Int))⟩ : T_api_Ring).First)) (ac (rfl : (Ii (w_i64 (r_1.Next + (1 : Int))) : AV) = Ii ((⟨r_1.Policy, r_8, o_1.2, w_i64 (r_1.End + (lN (r_3))), w_i64 (r_1.First + o_1.1), w_i64 (r_1.Next + (1 : Int))⟩ : T_api_Ring).Next)) an))))))))))) ?_
 refine rt ?_
 cases h
 exact ⟨.inr rfl, Nat.le_of_ble_eq_true rfl, by kernel_rfl⟩

theorem L09_size_ok (F : Nat) (b_1 : List (Int)) (r : Int) (h : L09_size F b_1 = some r) : TripleG prog 25 [] [] [.sl false 1 (Mb b_1)] [] (Ii r) := by
 refine triple_intro (fn := Go.Proofs.Try.f25) (code := codeOf Go.Proofs.Try.f25) (by kernel_rfl) (by kernel_rfl) (Nat.le_of_ble_eq_true (by kernel_rfl)) ?_
 unfold L09_size at h
 refine sr [] [0] [] 0 [.sl false 1 (Mb b_1)] [] hmix an ?_
 refine sq ?_
 obtain ⟨r_1, h_1, h⟩ := bind_some h
 refine rg [(1, { n := (b_1).length }), (2, { av := .own 0 ((r_1).length), ids := [0], l := [.nilsl, Ii (lN (b_1))], post := [(.row 5 1 (Mb r_1))] }), (5, { n := (b_1).length })] [2] [] 1 [Ii (w_i64 ((lN (r_1)) + (lN (b_1))))] [] hmix (ac (vc_len _ : ((Mb b_1)).length = (b_1).length) (ar ([.nilsl, Ii (lN (b_1))] : List AV) (ac (rfl : ([] : List BoxSt) = []) (ac (triple_lo (args' := [.sl false 1 [], Ii (lN (b_1))]) (codec_PutInt_ok F [] (lN (b_1)) r_1 h_1) rfl ⟨rfl, rfl, trivial⟩ : TripleG prog 29 [] [] [.nilsl, Ii (lN (b_1))] [(.row 5 1 (Mb r_1))] (.own 0 ((r_1).length))) (ac (vc_len _ : ((Mb b_1)).length = (b_1).length) an))))) ?_
 refine rt ?_
 cases h
 exact ⟨.inr rfl, Nat.le_of_ble_eq_true rfl, by kernel_rfl⟩

end Go.Ab
