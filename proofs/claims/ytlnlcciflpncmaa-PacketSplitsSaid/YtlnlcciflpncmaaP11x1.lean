/- Printed: the typed Lean functions of the Go functions, or the proofs that the Go functions meet them. No conditions but those that the theorems name. -/
import Derived.Test.YtlnlcciflpncmaaP11xD
import Derived.Test.YtlnlcciflpncmaaProg
namespace Go.Ab
open Go
set_option linter.unusedVariables false
noncomputable abbrev prog := Go.Proofs.Try.prog
theorem hmix : prog.follows .mixedOrders = true := by kernel_rfl
theorem ext_102 : ExtIdx prog 102 := ⟨_, Go.Proofs.Try.func102, by kernel_rfl, by kernel_rfl, by kernel_rfl, by kernel_rfl⟩
theorem keyOk_9 : KeyOk prog 9 false [.str] := keyOk_str (by kernel_rfl)
theorem keyOk_57 : KeyOk prog 57 true [.int .i64, .int .i64] := keyOk_agg (by kernel_rfl) (by kernel_rfl) (by kernel_rfl) (by kernel_rfl)
theorem inj_Arr2_Int : ∀ a b : Arr2_Int, e_Arr2_Int a = e_Arr2_Int b → a = b := by
  intro a b h
  cases a; cases b; simpa [e_Arr2_Int, v_Arr2_Int] using h
theorem eqOk_57 : EqOk prog 57 [.int .i64, .int .i64] := eqOk_agg keyOk_57 (by kernel_rfl) (by kernel_rfl)

theorem L11_few_ok (F : Nat) (p_1 : T_api_Packet) (r : Bool) (h : L11_few F p_1 = some r) : TripleG prog 11 [] [] [e_T_api_Packet p_1] [] (.bool r) := by
 refine triple_intro (fn := Go.Proofs.Try.f11) (code := codeOf Go.Proofs.Try.f11) (by kernel_rfl) (by kernel_rfl) (Nat.le_of_ble_eq_true (by kernel_rfl)) ?_
 unfold L11_few at h
 refine sr [(0, { id := 0 })] [1] [0] 1 [Pp 0] [Vb 24 (v_T_api_Packet p_1)] hmix an ?_
 refine sq ?_
 refine sr [(2, { n := (p_1.Events).length })] [1, 7] [0] 1 [Pp 0, .bool (decide ((lN (p_1.Events)) > (30 : Int)))] [Vb 24 (v_T_api_Packet p_1)] hmix (ac (vc_len _ : ((Mp e_T_api_Event p_1.Events)).length = (p_1.Events).length) an) ?_
 refine cd 7 (decide ((lN (p_1.Events)) > (30 : Int))) ?_ ?_
 ·intro g_1; replace h := cond_t g_1 h
  refine sr [] [2] [] 1 [.bool false] [] hmix an ?_
  refine rt ?_
  cases h
  exact ⟨.inr rfl, Nat.le_of_ble_eq_true rfl, by kernel_rfl⟩
 intro g_1; replace h := cond_f g_1 h
 refine sk ?_
 refine sq ?_
 refine sr [] [1, 3] [0] 1 [Pp 0, Ii 0] [Vb 24 (v_T_api_Packet p_1)] hmix an ?_
 obtain ⟨o_1, h_1, h⟩ := bind_some h
 refine aw_conv (K1 := (fun e st' => match o_1 with | (.inl q0) => e = .normal ∧ Sub 0 st' (mk [] [] 0) | (.inr q1) => e = .ret ∧ FinR prog Go.Proofs.Try.f11 0 [] (.bool q1) st')) ?_ ?_
 ·replace h := h_1
  refine aw_block (id := 0) (by kernel_rfl) ?_
  refine wk [0] [] [.s 1, .s 3] [.s 0] [(1, Pp 0), (3, Ii 0)] [(0, Vb 24 (v_T_api_Packet p_1))] an ?_
  refine aw_loopF (fun n st => ∃ (i_1 : Int), st = mk [(1, Pp 0), (3, Ii i_1)] [(0, Vb 24 (v_T_api_Packet p_1))] 1 ∧ L11_few_L1 F p_1 n i_1 = some o_1) F (by kernel_rfl) ⟨_, rfl, h⟩ ?_ ?_
  ·rintro _ ⟨_, _, h⟩; exact none_ne (h : (none : Option (Unit ⊕ Bool)) = some o_1)
  rintro n_1 _ ⟨i_1, rfl, h⟩
  replace h : L11_few_L1_body F p_1 (L11_few_L1 F p_1 n_1) i_1 = some o_1 := h
  unfold L11_few_L1_body at h
  refine sq ?_
  refine sr [(3, { n := (p_1.Events).length })] [1, 3, 12] [0] 1 [Pp 0, Ii i_1, .bool (decide (i_1 < (lN (p_1.Events))))] [Vb 24 (v_T_api_Packet p_1)] hmix (ac (vc_len _ : ((Mp e_T_api_Event p_1.Events)).length = (p_1.Events).length) an) ?_
  refine cd 12 (decide (i_1 < (lN (p_1.Events)))) ?_ ?_
  rotate_left
  ·intro g_2; replace h := cond_f g_2 h
   refine aw_exit (id := 0) (by kernel_rfl) ?_
   cases h
   exact ⟨rfl, (sw [] [] [] [] an)⟩
  intro g_2; replace h := cond_t g_2 h
  refine sk ?_
  refine sq ?_
  refine aw_block (id := 1) (by kernel_rfl) ?_
  refine sq ?_
  obtain ⟨x_1, h_2, h⟩ := bind_some h
  refine rg [(3, { av := e_T_api_Event x_1 }), (6, { n := (x_1.Stack).length })] [1, 3, 22] [0] 1 [Pp 0, Ii i_1, .bool (decide ((lN (x_1.Stack)) > (40 : Int)))] [Vb 24 (v_T_api_Packet p_1)] hmix (ac (vc_idx h_2 : idxA (Mp e_T_api_Event p_1.Events) i_1 = some (e_T_api_Event x_1)) (ac (vc_len _ : ((Ms x_1.Stack)).length = (x_1.Stack).length) an)) ?_
  refine cd 22 (decide ((lN (x_1.Stack)) > (40 : Int))) ?_ ?_
  rotate_left
  ·intro g_3; replace h := cond_f g_3 h
   refine sk ?_
   refine rg [] [1, 3] [0] 1 [Pp 0, Ii (w_i64 (i_1 + (1 : Int)))] [Vb 24 (v_T_api_Packet p_1)] hmix an ?_
   exact ⟨_, (sw [0] [] [.s 1, .s 3] [.s 0] an), _, rfl, h⟩
  intro g_3; replace h := cond_t g_3 h
  refine sr [] [2] [] 1 [.bool false] [] hmix an ?_
  refine rt ?_
  cases h
  exact ⟨rfl, Nat.le_of_ble_eq_true rfl, by kernel_rfl⟩
 intro e st1 hk
 rcases o_1 with q_1 | q_2
 rotate_left
 ·obtain ⟨rfl, hf⟩ := hk
  cases h
  exact ⟨st1, Sub.refl _ _, .inr rfl, hf⟩
 obtain ⟨rfl, hs⟩ := hk
 refine ⟨_, hs, ?_⟩
 refine sr [] [2] [] 0 [.bool true] [] hmix an ?_
 refine rt ?_
 cases h
 exact ⟨.inr rfl, Nat.le_of_ble_eq_true rfl, by kernel_rfl⟩

theorem event_forms_ok (r : (List (T_event_form))) (h : event_forms = some r) : TripleG prog 94 [] [] [] [.row 103 9 (Mp e_T_event_form r)] (.own 0 ((r).length)) := by
 refine triple_intro (fn := Go.Proofs.Try.f94) (code := codeOf Go.Proofs.Try.f94) (by kernel_rfl) (by kernel_rfl) (Nat.le_of_ble_eq_true (by kernel_rfl)) ?_
 unfold event_forms at h
 refine sr [(0, { id := 0, m := 1 })] [] [] 1 [] [] hmix an ?_
 refine sr [(13, { id := 1 })] [0] [1] 2 [.own 1 13] [Rb 103 9 (Mp e_T_event_form ([(⟨([] : List Int), false, false, false, false, (0 : Int), (0 : Int), (0 : Int), (0 : Int)⟩ : T_event_form), (⟨([98, 101, 103, 105, 110] : List Int), true, false, false, false, (0 : Int), (0 : Int), (0 : Int), (0 : Int)⟩ : T_event_form), (⟨([101, 110, 100] : List Int), false, false, false, false, (0 : Int), (0 : Int), (0 : Int), (0 : Int)⟩ : T_event_form), (⟨([109, 97, 114, 107] : List Int), true, false, false, false, (0 : Int), (0 : Int), (0 : Int), (0 : Int)⟩ : T_event_form), (⟨([99, 111, 117, 110, 116] : List Int), true, true, false, false, (-1000000000000000 : Int), (1000000000000000 : Int), (0 : Int), (0 : Int)⟩ : T_event_form), (⟨([115, 97, 109, 112, 108, 101] : List Int), false, true, false, true, (1 : Int), (1000000000000 : Int), (0 : Int), (0 : Int)⟩ : T_event_form), (⟨([115, 101, 110, 100] : List Int), false, true, false, false, (0 : Int), (1000000000000000 : Int), (0 : Int), (0 : Int)⟩ : T_event_form), (⟨([114, 101, 99, 118] : List Int), false, true, false, false, (0 : Int), (1000000000000000 : Int), (0 : Int), (0 : Int)⟩ : T_event_form), (⟨([114, 117, 110] : List Int), false, true, false, false, (0 : Int), (63 : Int), (0 : Int), (0 : Int)⟩ : T_event_form), (⟨([115, 116, 111, 112] : List Int), false, true, true, false, (0 : Int), (3 : Int), (0 : Int), (1000000000000000 : Int)⟩ : T_event_form), (⟨([119, 97, 107, 101] : List Int), false, true, false, false, (0 : Int), (1000000000000000 : Int), (0 : Int), (0 : Int)⟩ : T_event_form), (⟨([97, 108, 108, 111, 99] : List Int), false, true, true, true, (0 : Int), (1000000000000000 : Int), (1 : Int), (1000000000000 : Int)⟩ : T_event_form), (⟨([102, 114, 101, 101] : List Int), false, true, false, false, (0 : Int), (1000000000000000 : Int), (0 : Int), (0 : Int)⟩ : T_event_form)] : List T_event_form))] hmix an ?_
 refine wk [1] [] [.a 0 (.own 0 ((([(⟨([] : List Int), false, false, false, false, (0 : Int), (0 : Int), (0 : Int), (0 : Int)⟩ : T_event_form), (⟨([98, 101, 103, 105, 110] : List Int), true, false, false, false, (0 : Int), (0 : Int), (0 : Int), (0 : Int)⟩ : T_event_form), (⟨([101, 110, 100] : List Int), false, false, false, false, (0 : Int), (0 : Int), (0 : Int), (0 : Int)⟩ : T_event_form), (⟨([109, 97, 114, 107] : List Int), true, false, false, false, (0 : Int), (0 : Int), (0 : Int), (0 : Int)⟩ : T_event_form), (⟨([99, 111, 117, 110, 116] : List Int), true, true, false, false, (-1000000000000000 : Int), (1000000000000000 : Int), (0 : Int), (0 : Int)⟩ : T_event_form), (⟨([115, 97, 109, 112, 108, 101] : List Int), false, true, false, true, (1 : Int), (1000000000000 : Int), (0 : Int), (0 : Int)⟩ : T_event_form), (⟨([115, 101, 110, 100] : List Int), false, true, false, false, (0 : Int), (1000000000000000 : Int), (0 : Int), (0 : Int)⟩ : T_event_form), (⟨([114, 101, 99, 118] : List Int), false, true, false, false, (0 : Int), (1000000000000000 : Int), (0 : Int), (0 : Int)⟩ : T_event_form), (⟨([114, 117, 110] : List Int), false, true, false, false, (0 : Int), (63 : Int), (0 : Int), (0 : Int)⟩ : T_event_form), (⟨([115, 116, 111, 112] : List Int), false, true, true, false, (0 : Int), (3 : Int), (0 : Int), (1000000000000000 : Int)⟩ : T_event_form), (⟨([119, 97, 107, 101] : List Int), false, true, false, false, (0 : Int), (1000000000000000 : Int), (0 : Int), (0 : Int)⟩ : T_event_form), (⟨([97, 108, 108, 111, 99] : List Int), false, true, true, true, (0 : Int), (1000000000000000 : Int), (1 : Int), (1000000000000 : Int)⟩ : T_event_form), (⟨([102, 114, 101, 101] : List Int), false, true, false, false, (0 : Int), (1000000000000000 : Int), (0 : Int), (0 : Int)⟩ : T_event_form)] : List T_event_form)).length))] [.s 0] [(0, .own 0 ((([(⟨([] : List Int), false, false, false, false, (0 : Int), (0 : Int), (0 : Int), (0 : Int)⟩ : T_event_form), (⟨([98, 101, 103, 105, 110] : List Int), true, false, false, false, (0 : Int), (0 : Int), (0 : Int), (0 : Int)⟩ : T_event_form), (⟨([101, 110, 100] : List Int), false, false, false, false, (0 : Int), (0 : Int), (0 : Int), (0 : Int)⟩ : T_event_form), (⟨([109, 97, 114, 107] : List Int), true, false, false, false, (0 : Int), (0 : Int), (0 : Int), (0 : Int)⟩ : T_event_form), (⟨([99, 111, 117, 110, 116] : List Int), true, true, false, false, (-1000000000000000 : Int), (1000000000000000 : Int), (0 : Int), (0 : Int)⟩ : T_event_form), (⟨([115, 97, 109, 112, 108, 101] : List Int), false, true, false, true, (1 : Int), (1000000000000 : Int), (0 : Int), (0 : Int)⟩ : T_event_form), (⟨([115, 101, 110, 100] : List Int), false, true, false, false, (0 : Int), (1000000000000000 : Int), (0 : Int), (0 : Int)⟩ : T_event_form), (⟨([114, 101, 99, 118] : List Int), false, true, false, false, (0 : Int), (1000000000000000 : Int), (0 : Int), (0 : Int)⟩ : T_event_form), (⟨([114, 117, 110] : List Int), false, true, false, false, (0 : Int), (63 : Int), (0 : Int), (0 : Int)⟩ : T_event_form), (⟨([115, 116, 111, 112] : List Int), false, true, true, false, (0 : Int), (3 : Int), (0 : Int), (1000000000000000 : Int)⟩ : T_event_form), (⟨([119, 97, 107, 101] : List Int), false, true, false, false, (0 : Int), (1000000000000000 : Int), (0 : Int), (0 : Int)⟩ : T_event_form), (⟨([97, 108, 108, 111, 99] : List Int), false, true, true, true, (0 : Int), (1000000000000000 : Int), (1 : Int), (1000000000000 : Int)⟩ : T_event_form), (⟨([102, 114, 101, 101] : List Int), false, true, false, false, (0 : Int), (1000000000000000 : Int), (0 : Int), (0 : Int)⟩ : T_event_form)] : List T_event_form)).length))] [(0, Rb 103 9 (Mp e_T_event_form ([(⟨([] : List Int), false, false, false, false, (0 : Int), (0 : Int), (0 : Int), (0 : Int)⟩ : T_event_form), (⟨([98, 101, 103, 105, 110] : List Int), true, false, false, false, (0 : Int), (0 : Int), (0 : Int), (0 : Int)⟩ : T_event_form), (⟨([101, 110, 100] : List Int), false, false, false, false, (0 : Int), (0 : Int), (0 : Int), (0 : Int)⟩ : T_event_form), (⟨([109, 97, 114, 107] : List Int), true, false, false, false, (0 : Int), (0 : Int), (0 : Int), (0 : Int)⟩ : T_event_form), (⟨([99, 111, 117, 110, 116] : List Int), true, true, false, false, (-1000000000000000 : Int), (1000000000000000 : Int), (0 : Int), (0 : Int)⟩ : T_event_form), (⟨([115, 97, 109, 112, 108, 101] : List Int), false, true, false, true, (1 : Int), (1000000000000 : Int), (0 : Int), (0 : Int)⟩ : T_event_form), (⟨([115, 101, 110, 100] : List Int), false, true, false, false, (0 : Int), (1000000000000000 : Int), (0 : Int), (0 : Int)⟩ : T_event_form), (⟨([114, 101, 99, 118] : List Int), false, true, false, false, (0 : Int), (1000000000000000 : Int), (0 : Int), (0 : Int)⟩ : T_event_form), (⟨([114, 117, 110] : List Int), false, true, false, false, (0 : Int), (63 : Int), (0 : Int), (0 : Int)⟩ : T_event_form), (⟨([115, 116, 111, 112] : List Int), false, true, true, false, (0 : Int), (3 : Int), (0 : Int), (1000000000000000 : Int)⟩ : T_event_form), (⟨([119, 97, 107, 101] : List Int), false, true, false, false, (0 : Int), (1000000000000000 : Int), (0 : Int), (0 : Int)⟩ : T_event_form), (⟨([97, 108, 108, 111, 99] : List Int), false, true, true, true, (0 : Int), (1000000000000000 : Int), (1 : Int), (1000000000000 : Int)⟩ : T_event_form), (⟨([102, 114, 101, 101] : List Int), false, true, false, false, (0 : Int), (1000000000000000 : Int), (0 : Int), (0 : Int)⟩ : T_event_form)] : List T_event_form)))] (ac (congrArg (AV.own _) (by first | (simp; done) | (simp; omega)) : (.own 1 13 : AV) = .own 1 ((([(⟨([] : List Int), false, false, false, false, (0 : Int), (0 : Int), (0 : Int), (0 : Int)⟩ : T_event_form), (⟨([98, 101, 103, 105, 110] : List Int), true, false, false, false, (0 : Int), (0 : Int), (0 : Int), (0 : Int)⟩ : T_event_form), (⟨([101, 110, 100] : List Int), false, false, false, false, (0 : Int), (0 : Int), (0 : Int), (0 : Int)⟩ : T_event_form), (⟨([109, 97, 114, 107] : List Int), true, false, false, false, (0 : Int), (0 : Int), (0 : Int), (0 : Int)⟩ : T_event_form), (⟨([99, 111, 117, 110, 116] : List Int), true, true, false, false, (-1000000000000000 : Int), (1000000000000000 : Int), (0 : Int), (0 : Int)⟩ : T_event_form), (⟨([115, 97, 109, 112, 108, 101] : List Int), false, true, false, true, (1 : Int), (1000000000000 : Int), (0 : Int), (0 : Int)⟩ : T_event_form), (⟨([115, 101, 110, 100] : List Int), false, true, false, false, (0 : Int), (1000000000000000 : Int), (0 : Int), (0 : Int)⟩ : T_event_form), (⟨([114, 101, 99, 118] : List Int), false, true, false, false, (0 : Int), (1000000000000000 : Int), (0 : Int), (0 : Int)⟩ : T_event_form), (⟨([114, 117, 110] : List Int), false, true, false, false, (0 : Int), (63 : Int), (0 : Int), (0 : Int)⟩ : T_event_form), (⟨([115, 116, 111, 112] : List Int), false, true, true, false, (0 : Int), (3 : Int), (0 : Int), (1000000000000000 : Int)⟩ : T_event_form), (⟨([119, 97, 107, 101] : List Int), false, true, false, false, (0 : Int), (1000000000000000 : Int), (0 : Int), (0 : Int)⟩ : T_event_form), (⟨([97, 108, 108, 111, 99] : List Int), false, true, true, true, (0 : Int), (1000000000000000 : Int), (1 : Int), (1000000000000 : Int)⟩ : T_event_form), (⟨([102, 114, 101, 101] : List Int), false, true, false, false, (0 : Int), (1000000000000000 : Int), (0 : Int), (0 : Int)⟩ : T_event_form)] : List T_event_form)).length)) an) ?_
 refine rt ?_
 cases h
 exact ⟨.inr rfl, Nat.le_of_ble_eq_true rfl, by kernel_rfl⟩

theorem event_formOf_ok (k_1 : Int) (r : T_event_form × Bool) (h : event_formOf k_1 = some r) : TripleG prog 75 [] [] [Ii k_1] [] (.tuple [e_T_event_form r.1, .bool r.2]) := by
 refine triple_intro (fn := Go.Proofs.Try.f75) (code := codeOf Go.Proofs.Try.f75) (by kernel_rfl) (by kernel_rfl) (Nat.le_of_ble_eq_true (by kernel_rfl)) ?_
 unfold event_formOf at h
 refine sr [(0, { id := 0 })] [0, 2] [0] 1 [Ii k_1, Pp 0] [Vb 103 [.str ([] : List Int), .bool false, .bool false, .bool false, .bool false, Ii 0, Ii 0, Ii 0, Ii 0]] hmix an ?_
 refine sq ?_
 obtain ⟨r_1, h_1, h⟩ := bind_some h
 refine rg [(0, { av := .own 0 ((r_1).length), ids := [1], l := [], post := [(.row 103 9 (Mp e_T_event_form r_1))] })] [0, 2, 4] [0, 1] 2 [Ii k_1, Pp 0, .own 1 ((r_1).length)] [Vb 103 [.str ([] : List Int), .bool false, .bool false, .bool false, .bool false, Ii 0, Ii 0, Ii 0, Ii 0], Rb 103 9 (Mp e_T_event_form r_1)] hmix (ar ([] : List AV) (ac (rfl : ([] : List BoxSt) = []) (ac (event_forms_ok r_1 h_1 : TripleG prog 94 [] [] [] [(.row 103 9 (Mp e_T_event_form r_1))] (.own 0 ((r_1).length))) an))) ?_
 refine sq ?_
 refine sq ?_
 refine aw_mid (mk [(0, Ii k_1), (2, Pp 0), (4, .own 1 ((r_1).length)), (13, .bool (decide (k_1 < (1 : Int)) || decide (k_1 ≥ (lN (r_1)))))] [(0, Vb 103 [.str ([] : List Int), .bool false, .bool false, .bool false, .bool false, Ii 0, Ii 0, Ii 0, Ii 0]), (1, Rb 103 9 (Mp e_T_event_form r_1))] 2) ?_ ?_
 ·rcases bft (decide (k_1 < (1 : Int))) with gg_1 | gg_1
  ·refine rg [(3, Hg), (4, Hg), (5, Hg), (6, Hg), (7, Ht)] [0, 2, 4, 13] [0, 1] 2 [Ii k_1, Pp 0, .own 1 ((r_1).length), .bool true] [Vb 103 [.str ([] : List Int), .bool false, .bool false, .bool false, .bool false, Ii 0, Ii 0, Ii 0, Ii 0], Rb 103 9 (Mp e_T_event_form r_1)] hmix (ac gg_1 (ac gg_1 (ac gg_1 (ac gg_1 (ac gg_1 an))))) ?_
   exact ⟨rfl, (sw [0, 1] [] [.s 0, .s 2, .s 4, .a 13 (.bool (decide (k_1 < (1 : Int)) || decide (k_1 ≥ (lN (r_1)))))] [.s 0, .s 1] (ac (congrArg AV.bool (ort gg_1) : (.bool true : AV) = .bool (decide (k_1 < (1 : Int)) || decide (k_1 ≥ (lN (r_1))))) an))⟩
  ·refine rg [(7, Hf)] [0, 2, 4, 13] [0, 1] 2 [Ii k_1, Pp 0, .own 1 ((r_1).length), .bool (decide (k_1 ≥ (lN (r_1))))] [Vb 103 [.str ([] : List Int), .bool false, .bool false, .bool false, .bool false, Ii 0, Ii 0, Ii 0, Ii 0], Rb 103 9 (Mp e_T_event_form r_1)] hmix (ac gg_1 (ac gg_1 (ac gg_1 (ac gg_1 (ac gg_1 an))))) ?_
   exact ⟨rfl, (sw [0, 1] [] [.s 0, .s 2, .s 4, .a 13 (.bool (decide (k_1 < (1 : Int)) || decide (k_1 ≥ (lN (r_1)))))] [.s 0, .s 1] (ac (congrArg AV.bool (orf gg_1 rfl) : (.bool (decide (k_1 ≥ (lN (r_1)))) : AV) = .bool (decide (k_1 < (1 : Int)) || decide (k_1 ≥ (lN (r_1))))) an))⟩
 refine cd 13 (decide (k_1 < (1 : Int)) || decide (k_1 ≥ (lN (r_1)))) ?_ ?_
 ·intro g_1; replace h := cond_t g_1 h
  refine sr [] [2, 3] [0] 2 [Pp 0, .bool false] [Vb 103 [.str ([] : List Int), .bool false, .bool false, .bool false, .bool false, Ii 0, Ii 0, Ii 0, Ii 0]] hmix an ?_
  refine wk [0] [] [.s 2, .s 3] [.a 0 (Vb 103 (v_T_event_form (⟨([] : List Int), false, false, false, false, (0 : Int), (0 : Int), (0 : Int), (0 : Int)⟩ : T_event_form)))] [(2, Pp 0), (3, .bool false)] [(0, Vb 103 (v_T_event_form (⟨([] : List Int), false, false, false, false, (0 : Int), (0 : Int), (0 : Int), (0 : Int)⟩ : T_event_form)))] (ar 103 (ac (rfl : ones [.str ((⟨([] : List Int), false, false, false, false, (0 : Int), (0 : Int), (0 : Int), (0 : Int)⟩ : T_event_form).word), .bool ((⟨([] : List Int), false, false, false, false, (0 : Int), (0 : Int), (0 : Int), (0 : Int)⟩ : T_event_form).name), .bool ((⟨([] : List Int), false, false, false, false, (0 : Int), (0 : Int), (0 : Int), (0 : Int)⟩ : T_event_form).n), .bool ((⟨([] : List Int), false, false, false, false, (0 : Int), (0 : Int), (0 : Int), (0 : Int)⟩ : T_event_form).m), .bool ((⟨([] : List Int), false, false, false, false, (0 : Int), (0 : Int), (0 : Int), (0 : Int)⟩ : T_event_form).stack), Ii ((⟨([] : List Int), false, false, false, false, (0 : Int), (0 : Int), (0 : Int), (0 : Int)⟩ : T_event_form).least), Ii ((⟨([] : List Int), false, false, false, false, (0 : Int), (0 : Int), (0 : Int), (0 : Int)⟩ : T_event_form).most), Ii ((⟨([] : List Int), false, false, false, false, (0 : Int), (0 : Int), (0 : Int), (0 : Int)⟩ : T_event_form).mLeast), Ii ((⟨([] : List Int), false, false, false, false, (0 : Int), (0 : Int), (0 : Int), (0 : Int)⟩ : T_event_form).mMost)] = true) (ac (rfl : (.str ([] : List Int) : AV) = .str ((⟨([] : List Int), false, false, false, false, (0 : Int), (0 : Int), (0 : Int), (0 : Int)⟩ : T_event_form).word)) (ac (rfl : (.bool false : AV) = .bool ((⟨([] : List Int), false, false, false, false, (0 : Int), (0 : Int), (0 : Int), (0 : Int)⟩ : T_event_form).name)) (ac (rfl : (.bool false : AV) = .bool ((⟨([] : List Int), false, false, false, false, (0 : Int), (0 : Int), (0 : Int), (0 : Int)⟩ : T_event_form).n)) (ac (rfl : (.bool false : AV) = .bool ((⟨([] : List Int), false, false, false, false, (0 : Int), (0 : Int), (0 : Int), (0 : Int)⟩ : T_event_form).m)) (ac (rfl : (.bool false : AV) = .bool ((⟨([] : List Int), false, false, false, false, (0 : Int), (0 : Int), (0 : Int), (0 : Int)⟩ : T_event_form).stack)) (ac (rfl : (Ii 0 : AV) = Ii ((⟨([] : List Int), false, false, false, false, (0 : Int), (0 : Int), (0 : Int), (0 : Int)⟩ : T_event_form).least)) (ac (rfl : (Ii 0 : AV) = Ii ((⟨([] : List Int), false, false, false, false, (0 : Int), (0 : Int), (0 : Int), (0 : Int)⟩ : T_event_form).most)) (ac (rfl : (Ii 0 : AV) = Ii ((⟨([] : List Int), false, false, false, false, (0 : Int), (0 : Int), (0 : Int), (0 : Int)⟩ : T_event_form).mLeast)) (ac (rfl : (Ii 0 : AV) = Ii ((⟨([] : List Int), false, false, false, false, (0 : Int), (0 : Int), (0 : Int), (0 : Int)⟩ : T_event_form).mMost)) an))))))))))) ?_
  refine rt ?_
  cases h
  exact ⟨.inr rfl, Nat.le_of_ble_eq_true rfl, by kernel_rfl⟩
 intro g_1; replace h := cond_f g_1 h
 refine sk ?_
 refine sq ?_
 obtain ⟨x_1, h_2, h⟩ := bind_some h
 refine rg [(3, { av := e_T_event_form x_1 })] [2, 3] [0] 2 [Pp 0, .bool true] [Vb 103 (v_T_event_form x_1)] hmix (ac (idxL_lo h_2 : (0 : Int) ≤ k_1) (ac (by first | (simp; done) | simpa using idxL_hi h_2 : k_1 < (((r_1).length : Nat) : Int)) (ac (vc_get h_2 : (Mp e_T_event_form r_1)[(k_1).toNat]? = some (e_T_event_form x_1)) an))) ?_
 refine wk [0] [] [.s 2, .s 3] [.s 0] [(2, Pp 0), (3, .bool true)] [(0, Vb 103 (v_T_event_form x_1))] an ?_
 refine rt ?_
 cases h
 exact ⟨.inr rfl, Nat.le_of_ble_eq_true rfl, by kernel_rfl⟩

theorem stringslite_IndexByte_ok (s_1 : List Int) (c_1 : Int) (r : Int) (h : stringslite_IndexByte s_1 c_1 = some r) : TripleG prog 101 [] [] [.str s_1, Iu c_1] [] (Ii r) := by
 refine triple_intro (fn := Go.Proofs.Try.f101) (code := codeOf Go.Proofs.Try.f101) (by kernel_rfl) (by kernel_rfl) (Nat.le_of_ble_eq_true (by kernel_rfl)) ?_
 unfold stringslite_IndexByte at h
 refine sr [] [0, 1] [] 0 [.str s_1, Iu c_1] [] hmix an ?_
 refine sr [] [4] [] 0 [Ii (idxByte s_1 c_1)] [] hmix (ac (ext_102 : ExtIdx prog 102) an) ?_
 refine rt ?_
 cases h
 exact ⟨.inr rfl, Nat.le_of_ble_eq_true rfl, by kernel_rfl⟩

theorem strings_IndexByte_ok (s_1 : List Int) (c_1 : Int) (r : Int) (h : strings_IndexByte s_1 c_1 = some r) : TripleG prog 100 [] [] [.str s_1, Iu c_1] [] (Ii r) := by
 refine triple_intro (fn := Go.Proofs.Try.f100) (code := codeOf Go.Proofs.Try.f100) (by kernel_rfl) (by kernel_rfl) (Nat.le_of_ble_eq_true (by kernel_rfl)) ?_
 unfold strings_IndexByte at h
 refine sr [] [0, 1] [] 0 [.str s_1, Iu c_1] [] hmix an ?_
 refine sq ?_
 obtain ⟨r_1, h_1, h⟩ := bind_some h
 refine rg [(2, { av := Ii r_1, l := [.str s_1, Iu c_1] })] [4] [] 0 [Ii r_1] [] hmix (ar ([.str s_1, Iu c_1] : List AV) (ac (rfl : ([] : List BoxSt) = []) (ac (stringslite_IndexByte_ok s_1 c_1 r_1 h_1 : TripleG prog 101 [] [] [.str s_1, Iu c_1] [] (Ii r_1)) an))) ?_
 refine rt ?_
 cases h
 exact ⟨.inr rfl, Nat.le_of_ble_eq_true rfl, by kernel_rfl⟩

theorem intern_letter_ok (c_1 : Int) (r : Bool) (h : intern_letter c_1 = some r) : TripleG prog 95 [] [] [Iu c_1] [] (.bool r) := by
 refine triple_intro (fn := Go.Proofs.Try.f95) (code := codeOf Go.Proofs.Try.f95) (by kernel_rfl) (by kernel_rfl) (Nat.le_of_ble_eq_true (by kernel_rfl)) ?_
 unfold intern_letter at h
 refine sr [] [0] [] 0 [Iu c_1] [] hmix an ?_
 refine sq ?_
 obtain ⟨p_1, h_2, h⟩ := bind_some h
 refine aw_mid (mk [(2, .bool p_1)] [] 0) ?_ ?_
 ·replace h := h_2
  rcases bft (decide (c_1 ≥ (97 : Int))) with gg_1 | gg_1
  ·replace h := cond_t gg_1 h
   rcases bft (decide (c_1 ≤ (122 : Int))) with gg_2 | gg_2
   ·replace h := cond_t gg_2 h
    refine rg [(5, Ht), (7, Hg), (8, Hg), (9, Hg), (12, Hg), (13, Ht), (15, Hg), (16, Hg), (17, Hg), (20, Hg), (21, Ht), (23, Hg), (24, Hg), (25, Hg), (26, Ht)] [2] [] 0 [.bool true] [] hmix (ac gg_1 (ac gg_1 (ac gg_1 (ac gg_2 (ac gg_2 (ac gg_2 (ac gg_2 (ac gg_2 (ax (ax (ax (ax (ar true (ax (ax (ax (ar true an))))))))))))))))) ?_
    cases h
    exact ⟨rfl, (sw [] [] [.s 2] [] an)⟩
   ·replace h := cond_f gg_2 h
    rcases bft (decide (c_1 ≥ (65 : Int))) with gg_3 | gg_3
    ·replace h := cond_t gg_3 h
     rcases bft (decide (c_1 ≤ (90 : Int))) with gg_4 | gg_4
     ·replace h := cond_t gg_4 h
      refine rg [(5, Ht), (12, Ht), (13, Hf), (15, Hg), (16, Hg), (17, Hg), (20, Hg), (21, Ht), (23, Hg), (24, Hg), (25, Hg), (26, Ht)] [2] [] 0 [.bool true] [] hmix (ac gg_1 (ac gg_1 (ac gg_1 (ac gg_2 (ac gg_2 (ac gg_2 (ac gg_3 (ac gg_3 (ac gg_2 (ac gg_3 (ac gg_2 (ac gg_4 (ac gg_4 (ac gg_4 (ac gg_4 (ac gg_4 (ax (ax (ax (ar true an)))))))))))))))))))) ?_
      cases h
      exact ⟨rfl, (sw [] [] [.s 2] [] an)⟩
     ·replace h := cond_f gg_4 h
      rcases bft (decide (c_1 ≥ (48 : Int))) with gg_5 | gg_5
      ·replace h := cond_t gg_5 h
       rcases bft (decide (c_1 ≤ (57 : Int))) with gg_6 | gg_6
       ·replace h := cond_t gg_6 h
        refine rg [(5, Ht), (12, Ht), (13, Hf), (20, Ht), (21, Hf), (23, Hg), (24, Hg), (25, Hg), (26, Ht)] [2] [] 0 [.bool true] [] hmix (ac gg_1 (ac gg_1 (ac gg_1 (ac gg_2 (ac gg_2 (ac gg_2 (ac gg_3 (ac gg_3 (ac gg_2 (ac gg_3 (ac gg_2 (ac gg_4 (ac gg_4 (ac gg_4 (ac gg_5 (ac gg_5 (ac gg_4 (ac gg_5 (ac gg_4 (ac gg_6 (ac gg_6 (ac gg_6 (ac gg_6 an))))))))))))))))))))))) ?_
        cases h
        exact ⟨rfl, (sw [] [] [.s 2] [] an)⟩
       ·replace h := cond_f gg_6 h
        obtain ⟨r_1, h_1, h⟩ := bind_some h
        refine rg [(5, Ht), (12, Ht), (13, Hf), (20, Ht), (21, Hf), (24, { av := Ii r_1, l := [.str ([95, 46, 58, 47, 60, 62, 36, 42, 126, 45] : List Int), Iu c_1] }), (26, Hf)] [2] [] 0 [.bool (decide (r_1 ≥ (0 : Int)))] [] hmix (ac gg_1 (ac gg_1 (ac gg_1 (ac gg_2 (ac gg_2 (ac gg_2 (ac gg_3 (ac gg_3 (ac gg_2 (ac gg_3 (ac gg_2 (ac gg_4 (ac gg_4 (ac gg_4 (ac gg_5 (ac gg_5 (ac gg_4 (ac gg_5 (ac gg_4 (ac gg_6 (ac gg_6 (ar ([.str ([95, 46, 58, 47, 60, 62, 36, 42, 126, 45] : List Int), Iu c_1] : List AV) (ac (rfl : ([] : List BoxSt) = []) (ac (strings_IndexByte_ok ([95, 46, 58, 47, 60, 62, 36, 42, 126, 45] : List Int) c_1 r_1 h_1 : TripleG prog 100 [] [] [.str ([95, 46, 58, 47, 60, 62, 36, 42, 126, 45] : List Int), Iu c_1] [] (Ii r_1)) (ac gg_6 (ac gg_6 an)))))))))))))))))))))))))) ?_
        cases h
        exact ⟨rfl, (sw [] [] [.s 2] [] an)⟩
      ·replace h := cond_f gg_5 h
       obtain ⟨r_1, h_1, h⟩ := bind_some h
       refine rg [(5, Ht), (12, Ht), (13, Hf), (18, Hg), (19, Hg), (20, Hf), (21, Hf), (24, { av := Ii r_1, l := [.str ([95, 46, 58, 47, 60, 62, 36, 42, 126, 45] : List Int), Iu c_1] }), (26, Hf)] [2] [] 0 [.bool (decide (r_1 ≥ (0 : Int)))] [] hmix (ac gg_1 (ac gg_1 (ac gg_1 (ac gg_2 (ac gg_2 (ac gg_2 (ac gg_3 (ac gg_3 (ac gg_2 (ac gg_3 (ac gg_2 (ac gg_4 (ac gg_4 (ac gg_4 (ac gg_5 (ac gg_5 (ac gg_4 (ac gg_5 (ac gg_4 (ar false (ar false (ar ([.str ([95, 46, 58, 47, 60, 62, 36, 42, 126, 45] : List Int), Iu c_1] : List AV) (ac (rfl : ([] : List BoxSt) = []) (ac (strings_IndexByte_ok ([95, 46, 58, 47, 60, 62, 36, 42, 126, 45] : List Int) c_1 r_1 h_1 : TripleG prog 100 [] [] [.str ([95, 46, 58, 47, 60, 62, 36, 42, 126, 45] : List Int), Iu c_1] [] (Ii r_1)) (ar false (ar false an)))))))))))))))))))))))))) ?_
       cases h
       exact ⟨rfl, (sw [] [] [.s 2] [] an)⟩
    ·replace h := cond_f gg_3 h
     rcases bft (decide (c_1 ≥ (48 : Int))) with gg_7 | gg_7
     ·replace h := cond_t gg_7 h
      rcases bft (decide (c_1 ≤ (57 : Int))) with gg_8 | gg_8
      ·replace h := cond_t gg_8 h
       refine rg [(5, Ht), (10, Hg), (11, Hg), (12, Hf), (13, Hf), (20, Ht), (21, Hf), (23, Hg), (24, Hg), (25, Hg), (26, Ht)] [2] [] 0 [.bool true] [] hmix (ac gg_1 (ac gg_1 (ac gg_1 (ac gg_2 (ac gg_2 (ac gg_2 (ac gg_3 (ac gg_3 (ac gg_2 (ac gg_3 (ac gg_2 (ar false (ar false (ar false (ac gg_7 (ac gg_7 (ar false (ac gg_7 (ar false (ac gg_8 (ac gg_8 (ac gg_8 (ac gg_8 an))))))))))))))))))))))) ?_
       cases h
       exact ⟨rfl, (sw [] [] [.s 2] [] an)⟩
      ·replace h := cond_f gg_8 h
       obtain ⟨r_1, h_1, h⟩ := bind_some h
       refine rg [(5, Ht), (10, Hg), (11, Hg), (12, Hf), (13, Hf), (20, Ht), (21, Hf), (24, { av := Ii r_1, l := [.str ([95, 46, 58, 47, 60, 62, 36, 42, 126, 45] : List Int), Iu c_1] }), (26, Hf)] [2] [] 0 [.bool (decide (r_1 ≥ (0 : Int)))] [] hmix (ac gg_1 (ac gg_1 (ac gg_1 (ac gg_2 (ac gg_2 (ac gg_2 (ac gg_3 (ac gg_3 (ac gg_2 (ac gg_3 (ac gg_2 (ar false (ar false (ar false (ac gg_7 (ac gg_7 (ar false (ac gg_7 (ar false (ac gg_8 (ac gg_8 (ar ([.str ([95, 46, 58, 47, 60, 62, 36, 42, 126, 45] : List Int), Iu c_1] : List AV) (ac (rfl : ([] : List BoxSt) = []) (ac (strings_IndexByte_ok ([95, 46, 58, 47, 60, 62, 36, 42, 126, 45] : List Int) c_1 r_1 h_1 : TripleG prog 100 [] [] [.str ([95, 46, 58, 47, 60, 62, 36, 42, 126, 45] : List Int), Iu c_1] [] (Ii r_1)) (ac gg_8 (ac gg_8 an)))))))))))))))))))))))))) ?_
       cases h
       exact ⟨rfl, (sw [] [] [.s 2] [] an)⟩
     ·replace h := cond_f gg_7 h
      obtain ⟨r_1, h_1, h⟩ := bind_some h
      refine rg [(5, Ht), (10, Hg), (11, Hg), (12, Hf), (13, Hf), (18, Hg), (19, Hg), (20, Hf), (21, Hf), (24, { av := Ii r_1, l := [.str ([95, 46, 58, 47, 60, 62, 36, 42, 126, 45] : List Int), Iu c_1] }), (26, Hf)] [2] [] 0 [.bool (decide (r_1 ≥ (0 : Int)))] [] hmix (ac gg_1 (ac gg_1 (ac gg_1 (ac gg_2 (ac gg_2 (ac gg_2 (ac gg_3 (ac gg_3 (ac gg_2 (ac gg_3 (ac gg_2 (ar false (ar false (ar false (ac gg_7 (ac gg_7 (ar false (ac gg_7 (ar false (ar false (ar false (ar ([.str ([95, 46, 58, 47, 60, 62, 36, 42, 126, 45] : List Int), Iu c_1] : List AV) (ac (rfl : ([] : List BoxSt) = []) (ac (strings_IndexByte_ok ([95, 46, 58, 47, 60, 62, 36, 42, 126, 45] : List Int) c_1 r_1 h_1 : TripleG prog 100 [] [] [.str ([95, 46, 58, 47, 60, 62, 36, 42, 126, 45] : List Int), Iu c_1] [] (Ii r_1)) (ar false (ar false an)))))))))))))))))))))))))) ?_
      cases h
      exact ⟨rfl, (sw [] [] [.s 2] [] an)⟩
  ·replace h := cond_f gg_1 h
   rcases bft (decide (c_1 ≥ (65 : Int))) with gg_9 | gg_9
   ·replace h := cond_t gg_9 h
    rcases bft (decide (c_1 ≤ (90 : Int))) with gg_10 | gg_10
    ·replace h := cond_t gg_10 h
     refine rg [(3, Hg), (4, Hg), (5, Hf), (12, Ht), (13, Hf), (15, Hg), (16, Hg), (17, Hg), (20, Hg), (21, Ht), (23, Hg), (24, Hg), (25, Hg), (26, Ht)] [2] [] 0 [.bool true] [] hmix (ac gg_1 (ac gg_1 (ac gg_1 (ar false (ar false (ar false (ac gg_9 (ac gg_9 (ar false (ac gg_9 (ar false (ac gg_10 (ac gg_10 (ac gg_10 (ac gg_10 (ac gg_10 (ax (ax (ax (ar true an)))))))))))))))))))) ?_
     cases h
     exact ⟨rfl, (sw [] [] [.s 2] [] an)⟩
    ·replace h := cond_f gg_10 h
     rcases bft (decide (c_1 ≥ (48 : Int))) with gg_11 | gg_11
     ·replace h := cond_t gg_11 h
      rcases bft (decide (c_1 ≤ (57 : Int))) with gg_12 | gg_12
      ·replace h := cond_t gg_12 h
       refine rg [(3, Hg), (4, Hg), (5, Hf), (12, Ht), (13, Hf), (20, Ht), (21, Hf), (23, Hg), (24, Hg), (25, Hg), (26, Ht)] [2] [] 0 [.bool true] [] hmix (ac gg_1 (ac gg_1 (ac gg_1 (ar false (ar false (ar false (ac gg_9 (ac gg_9 (ar false (ac gg_9 (ar false (ac gg_10 (ac gg_10 (ac gg_10 (ac gg_11 (ac gg_11 (ac gg_10 (ac gg_11 (ac gg_10 (ac gg_12 (ac gg_12 (ac gg_12 (ac gg_12 an))))))))))))))))))))))) ?_
       cases h
       exact ⟨rfl, (sw [] [] [.s 2] [] an)⟩
      ·replace h := cond_f gg_12 h
       obtain ⟨r_1, h_1, h⟩ := bind_some h
       refine rg [(3, Hg), (4, Hg), (5, Hf), (12, Ht), (13, Hf), (20, Ht), (21, Hf), (24, { av := Ii r_1, l := [.str ([95, 46, 58, 47, 60, 62, 36, 42, 126, 45] : List Int), Iu c_1] }), (26, Hf)] [2] [] 0 [.bool (decide (r_1 ≥ (0 : Int)))] [] hmix (ac gg_1 (ac gg_1 (ac gg_1 (ar false (ar false (ar false (ac gg_9 (ac gg_9 (ar false (ac gg_9 (ar false (ac gg_10 (ac gg_10 (ac gg_10 (ac gg_11 (ac gg_11 (ac gg_10 (ac gg_11 (ac gg_10 (ac gg_12 (ac gg_12 (ar ([.str ([95, 46, 58, 47, 60, 62, 36, 42, 126, 45] : List Int), Iu c_1] : List AV) (ac (rfl : ([] : List BoxSt) = []) (ac (strings_IndexByte_ok ([95, 46, 58, 47, 60, 62, 36, 42, 126, 45] : List Int) c_1 r_1 h_1 : TripleG prog 100 [] [] [.str ([95, 46, 58, 47, 60, 62, 36, 42, 126, 45] : List Int), Iu c_1] [] (Ii r_1)) (ac gg_12 (ac gg_12 an)))))))))))))))))))))))))) ?_
       cases h
       exact ⟨rfl, (sw [] [] [.s 2] [] an)⟩
     ·replace h := cond_f gg_11 h
      obtain ⟨r_1, h_1, h⟩ := bind_some h
      refine rg [(3, Hg), (4, Hg), (5, Hf), (12, Ht), (13, Hf), (18, Hg), (19, Hg), (20, Hf), (21, Hf), (24, { av := Ii r_1, l := [.str ([95, 46, 58, 47, 60, 62, 36, 42, 126, 45] : List Int), Iu c_1] }), (26, Hf)] [2] [] 0 [.bool (decide (r_1 ≥ (0 : Int)))] [] hmix (ac gg_1 (ac gg_1 (ac gg_1 (ar false (ar false (ar false (ac gg_9 (ac gg_9 (ar false (ac gg_9 (ar false (ac gg_10 (ac gg_10 (ac gg_10 (ac gg_11 (ac gg_11 (ac gg_10 (ac gg_11 (ac gg_10 (ar false (ar false (ar ([.str ([95, 46, 58, 47, 60, 62, 36, 42, 126, 45] : List Int), Iu c_1] : List AV) (ac (rfl : ([] : List BoxSt) = []) (ac (strings_IndexByte_ok ([95, 46, 58, 47, 60, 62, 36, 42, 126, 45] : List Int) c_1 r_1 h_1 : TripleG prog 100 [] [] [.str ([95, 46, 58, 47, 60, 62, 36, 42, 126, 45] : List Int), Iu c_1] [] (Ii r_1)) (ar false (ar false an)))))))))))))))))))))))))) ?_
      cases h
      exact ⟨rfl, (sw [] [] [.s 2] [] an)⟩
   ·replace h := cond_f gg_9 h
    rcases bft (decide (c_1 ≥ (48 : Int))) with gg_13 | gg_13
    ·replace h := cond_t gg_13 h
     rcases bft (decide (c_1 ≤ (57 : Int))) with gg_14 | gg_14
     ·replace h := cond_t gg_14 h
      refine rg [(3, Hg), (4, Hg), (5, Hf), (10, Hg), (11, Hg), (12, Hf), (13, Hf), (20, Ht), (21, Hf), (23, Hg), (24, Hg), (25, Hg), (26, Ht)] [2] [] 0 [.bool true] [] hmix (ac gg_1 (ac gg_1 (ac gg_1 (ar false (ar false (ar false (ac gg_9 (ac gg_9 (ar false (ac gg_9 (ar false (ar false (ar false (ar false (ac gg_13 (ac gg_13 (ar false (ac gg_13 (ar false (ac gg_14 (ac gg_14 (ac gg_14 (ac gg_14 an))))))))))))))))))))))) ?_
      cases h
      exact ⟨rfl, (sw [] [] [.s 2] [] an)⟩
     ·replace h := cond_f gg_14 h
      obtain ⟨r_1, h_1, h⟩ := bind_some h
      refine rg [(3, Hg), (4, Hg), (5, Hf), (10, Hg), (11, Hg), (12, Hf), (13, Hf), (20, Ht), (21, Hf), (24, { av := Ii r_1, l := [.str ([95, 46, 58, 47, 60, 62, 36, 42, 126, 45] : List Int), Iu c_1] }), (26, Hf)] [2] [] 0 [.bool (decide (r_1 ≥ (0 : Int)))] [] hmix (ac gg_1 (ac gg_1 (ac gg_1 (ar false (ar false (ar false (ac gg_9 (ac gg_9 (ar false (ac gg_9 (ar false (ar false (ar false (ar false (ac gg_13 (ac gg_13 (ar false (ac gg_13 (ar false (ac gg_14 (ac gg_14 (ar ([.str ([95, 46, 58, 47, 60, 62, 36, 42, 126, 45] : List Int), Iu c_1] : List AV) (ac (rfl : ([] : List BoxSt) = []) (ac (strings_IndexByte_ok ([95, 46, 58, 47, 60, 62, 36, 42, 126, 45] : List Int) c_1 r_1 h_1 : TripleG prog 100 [] [] [.str ([95, 46, 58, 47, 60, 62, 36, 42, 126, 45] : List Int), Iu c_1] [] (Ii r_1)) (ac gg_14 (ac gg_14 an)))))))))))))))))))))))))) ?_
      cases h
      exact ⟨rfl, (sw [] [] [.s 2] [] an)⟩
    ·replace h := cond_f gg_13 h
     obtain ⟨r_1, h_1, h⟩ := bind_some h
     refine rg [(3, Hg), (4, Hg), (5, Hf), (10, Hg), (11, Hg), (12, Hf), (13, Hf), (18, Hg), (19, Hg), (20, Hf), (21, Hf), (24, { av := Ii r_1, l := [.str ([95, 46, 58, 47, 60, 62, 36, 42, 126, 45] : List Int), Iu c_1] }), (26, Hf)] [2] [] 0 [.bool (decide (r_1 ≥ (0 : Int)))] [] hmix (ac gg_1 (ac gg_1 (ac gg_1 (ar false (ar false (ar false (ac gg_9 (ac gg_9 (ar false (ac gg_9 (ar false (ar false (ar false (ar false (ac gg_13 (ac gg_13 (ar false (ac gg_13 (ar false (ar false (ar false (ar ([.str ([95, 46, 58, 47, 60, 62, 36, 42, 126, 45] : List Int), Iu c_1] : List AV) (ac (rfl : ([] : List BoxSt) = []) (ac (strings_IndexByte_ok ([95, 46, 58, 47, 60, 62, 36, 42, 126, 45] : List Int) c_1 r_1 h_1 : TripleG prog 100 [] [] [.str ([95, 46, 58, 47, 60, 62, 36, 42, 126, 45] : List Int), Iu c_1] [] (Ii r_1)) (ar false (ar false an)))))))))))))))))))))))))) ?_
     cases h
     exact ⟨rfl, (sw [] [] [.s 2] [] an)⟩
 refine rt ?_
 cases h
 exact ⟨.inr rfl, Nat.le_of_ble_eq_true rfl, by kernel_rfl⟩

theorem intern_Name_ok (F : Nat) (s_1 : List Int) (r : Int) (h : intern_Name F s_1 = some r) : TripleG prog 78 [] [] [.str s_1] [] (Ii r) := by
 refine triple_intro (fn := Go.Proofs.Try.f78) (code := codeOf Go.Proofs.Try.f78) (by kernel_rfl) (by kernel_rfl) (Nat.le_of_ble_eq_true (by kernel_rfl)) ?_
 unfold intern_Name at h
 refine sr [] [0] [] 0 [.str s_1] [] hmix an ?_
 refine sq ?_
 refine sq ?_
 refine aw_mid (mk [(0, .str s_1), (10, .bool ((s_1 == ([] : List Int)) || decide ((lN (s_1)) > (40 : Int))))] [] 0) ?_ ?_
 ·rcases bft (s_1 == ([] : List Int)) with gg_1 | gg_1
  ·refine rg [(3, Hg), (4, Hg), (5, Hg), (6, Ht)] [0, 10] [] 0 [.str s_1, .bool true] [] hmix (ac gg_1 (ac gg_1 (ac gg_1 (ac gg_1 an)))) ?_
   exact ⟨rfl, (sw [] [] [.s 0, .a 10 (.bool ((s_1 == ([] : List Int)) || decide ((lN (s_1)) > (40 : Int))))] [] (ac (congrArg AV.bool (ort gg_1) : (.bool true : AV) = .bool ((s_1 == ([] : List Int)) || decide ((lN (s_1)) > (40 : Int)))) an))⟩
  ·refine rg [(6, Hf)] [0, 10] [] 0 [.str s_1, .bool (decide ((lN (s_1)) > (40 : Int)))] [] hmix (ac gg_1 (ac gg_1 (ac gg_1 (ac gg_1 an)))) ?_
   exact ⟨rfl, (sw [] [] [.s 0, .a 10 (.bool ((s_1 == ([] : List Int)) || decide ((lN (s_1)) > (40 : Int))))] [] (ac (congrArg AV.bool (orf gg_1 rfl) : (.bool (decide ((lN (s_1)) > (40 : Int))) : AV) = .bool ((s_1 == ([] : List Int)) || decide ((lN (s_1)) > (40 : Int)))) an))⟩
 refine cd 10 ((s_1 == ([] : List Int)) || decide ((lN (s_1)) > (40 : Int))) ?_ ?_
 ·intro g_1; replace h := cond_t g_1 h
  refine sr [] [2] [] 0 [Ii 3] [] hmix an ?_
  refine rt ?_
  cases h
  exact ⟨.inr rfl, Nat.le_of_ble_eq_true rfl, by kernel_rfl⟩
 intro g_1; replace h := cond_f g_1 h
 refine sk ?_
 refine sq ?_
 refine sr [] [0, 12, 13] [] 0 [.str s_1, Ii (lN (s_1)), Ii 0] [] hmix an ?_
 obtain ⟨o_1, h_1, h⟩ := bind_some h
 refine aw_conv (K1 := (fun e st' => match o_1 with | (.inl q0) => e = .normal ∧ Sub 0 st' (mk [] [] 0) | (.inr q1) => e = .ret ∧ FinR prog Go.Proofs.Try.f78 0 [] (Ii q1) st')) ?_ ?_
 ·replace h := h_1
  refine aw_block (id := 0) (by kernel_rfl) ?_
  refine wk [] [] [.s 0, .s 12, .s 13] [] [(0, .str s_1), (12, Ii (lN (s_1))), (13, Ii 0)] [] an ?_
  refine aw_loopF (fun n st => ∃ (v_1 : Int), st = mk [(0, .str s_1), (12, Ii (lN (s_1))), (13, Ii v_1)] [] 0 ∧ intern_Name_L1 F s_1 n v_1 = some o_1) F (by kernel_rfl) ⟨_, rfl, h⟩ ?_ ?_
  ·rintro _ ⟨_, _, h⟩; exact none_ne (h : (none : Option (Unit ⊕ Int)) = some o_1)
  rintro n_1 _ ⟨v_1, rfl, h⟩
  replace h : intern_Name_L1_body F s_1 (intern_Name_L1 F s_1 n_1) v_1 = some o_1 := h
  unfold intern_Name_L1_body at h
  refine sr [] [0, 12, 13, 14] [] 0 [.str s_1, Ii (lN (s_1)), Ii v_1, .bool (decide (v_1 < (lN (s_1))))] [] hmix an ?_
  refine sq ?_
  refine cd 14 (decide (v_1 < (lN (s_1)))) ?_ ?_
  rotate_left
  ·intro g_2; replace h := cond_f g_2 h
   refine aw_exit (id := 0) (by kernel_rfl) ?_
   cases h
   exact ⟨rfl, (sw [] [] [] [] an)⟩
  intro g_2; replace h := cond_t g_2 h
  refine sk ?_
  refine sq ?_
  refine aw_block (id := 1) (by kernel_rfl) ?_
  refine sr [] [0, 3, 12, 13] [] 0 [.str s_1, Ii v_1, Ii (lN (s_1)), Ii v_1] [] hmix an ?_
  refine sq ?_
  obtain ⟨c_1, h_2, h⟩ := bind_some h
  obtain ⟨r_1, h_3, h⟩ := bind_some h
  refine rg [(2, { z := c_1 }), (3, { av := .bool r_1, l := [Iu c_1] })] [0, 12, 13, 20] [] 0 [.str s_1, Ii (lN (s_1)), Ii v_1, .bool (!r_1)] [] hmix (ac h_2 (ar ([Iu c_1] : List AV) (ac (rfl : ([] : List BoxSt) = []) (ac (intern_letter_ok c_1 r_1 h_3 : TripleG prog 95 [] [] [Iu c_1] [] (.bool r_1)) an)))) ?_
  refine cd 20 (!r_1) ?_ ?_
  rotate_left
  ·intro g_3; replace h := cond_f g_3 h
   refine sk ?_
   refine rg [] [0, 12, 13] [] 0 [.str s_1, Ii (lN (s_1)), Ii (w_i64 (v_1 + (1 : Int)))] [] hmix an ?_
   exact ⟨_, (sw [] [] [.s 0, .s 12, .s 13] [] an), _, rfl, h⟩
  intro g_3; replace h := cond_t g_3 h
  refine sr [] [2] [] 0 [Ii 3] [] hmix an ?_
  refine rt ?_
  cases h
  exact ⟨rfl, Nat.le_of_ble_eq_true rfl, by kernel_rfl⟩
 intro e st1 hk
 rcases o_1 with q_1 | q_2
 rotate_left
 ·obtain ⟨rfl, hf⟩ := hk
  cases h
  exact ⟨st1, Sub.refl _ _, .inr rfl, hf⟩
 obtain ⟨rfl, hs⟩ := hk
 refine ⟨_, hs, ?_⟩
 refine sr [] [2] [] 0 [Ii 0] [] hmix an ?_
 refine rt ?_
 cases h
 exact ⟨.inr rfl, Nat.le_of_ble_eq_true rfl, by kernel_rfl⟩

theorem intern_Frames_ok (F : Nat) (l_1 : List (List Int)) (r : Int) (h : intern_Frames F l_1 = some r) : TripleG prog 81 [] [] [.sl false 1 (Ms l_1)] [] (Ii r) := by
 refine triple_intro (fn := Go.Proofs.Try.f81) (code := codeOf Go.Proofs.Try.f81) (by kernel_rfl) (by kernel_rfl) (Nat.le_of_ble_eq_true (by kernel_rfl)) ?_
 unfold intern_Frames at h
 refine sr [] [0] [] 0 [.sl false 1 (Ms l_1)] [] hmix an ?_
 refine sq ?_
 refine sr [(1, { n := (l_1).length })] [0, 8] [] 0 [.sl false 1 (Ms l_1), .bool (decide ((lN (l_1)) > (32 : Int)))] [] hmix (ac (vc_len _ : ((Ms l_1)).length = (l_1).length) an) ?_
 refine cd 8 (decide ((lN (l_1)) > (32 : Int))) ?_ ?_
 ·intro g_1; replace h := cond_t g_1 h
  refine sr [] [2] [] 0 [Ii 7] [] hmix an ?_
  refine rt ?_
  cases h
  exact ⟨.inr rfl, Nat.le_of_ble_eq_true rfl, by kernel_rfl⟩
 intro g_1; replace h := cond_f g_1 h
 refine sk ?_
 refine sq ?_
 refine sr [(1, { n := (l_1).length })] [9, 10, 11] [] 0 [.sl false 1 (Ms l_1), Ii (lN (l_1)), Ii 0] [] hmix (ac (vc_len _ : ((Ms l_1)).length = (l_1).length) an) ?_
 obtain ⟨o_1, h_1, h⟩ := bind_some h
 refine aw_conv (K1 := (fun e st' => match o_1 with | (.inl q0) => e = .normal ∧ Sub 0 st' (mk [] [] 0) | (.inr q1) => e = .ret ∧ FinR prog Go.Proofs.Try.f81 0 [] (Ii q1) st')) ?_ ?_
 ·replace h := h_1
  refine aw_block (id := 0) (by kernel_rfl) ?_
  refine wk [] [] [.s 9, .s 10, .s 11] [] [(9, .sl false 1 (Ms l_1)), (10, Ii (lN (l_1))), (11, Ii 0)] [] an ?_
  refine aw_loopF (fun n st => ∃ (v_1 : Int), st = mk [(9, .sl false 1 (Ms l_1)), (10, Ii (lN (l_1))), (11, Ii v_1)] [] 0 ∧ intern_Frames_L1 F l_1 n v_1 = some o_1) F (by kernel_rfl) ⟨_, rfl, h⟩ ?_ ?_
  ·rintro _ ⟨_, _, h⟩; exact none_ne (h : (none : Option (Unit ⊕ Int)) = some o_1)
  rintro n_1 _ ⟨v_1, rfl, h⟩
  replace h : intern_Frames_L1_body F l_1 (intern_Frames_L1 F l_1 n_1) v_1 = some o_1 := h
  unfold intern_Frames_L1_body at h
  refine sr [] [9, 10, 11, 12] [] 0 [.sl false 1 (Ms l_1), Ii (lN (l_1)), Ii v_1, .bool (decide (v_1 < (lN (l_1))))] [] hmix an ?_
  refine sq ?_
  refine cd 12 (decide (v_1 < (lN (l_1)))) ?_ ?_
  rotate_left
  ·intro g_2; replace h := cond_f g_2 h
   refine aw_exit (id := 0) (by kernel_rfl) ?_
   cases h
   exact ⟨rfl, (sw [] [] [] [] an)⟩
  intro g_2; replace h := cond_t g_2 h
  refine sk ?_
  refine sq ?_
  refine aw_block (id := 1) (by kernel_rfl) ?_
  refine sq ?_
  obtain ⟨x_1, h_2, h⟩ := bind_some h
  refine rg [(0, { av := .str x_1 })] [4, 9, 10, 11] [] 0 [.str x_1, .sl false 1 (Ms l_1), Ii (lN (l_1)), Ii v_1] [] hmix (ac (vc_idx h_2 : idxA (Ms l_1) v_1 = some (.str x_1)) an) ?_
  refine sq ?_
  obtain ⟨r_1, h_3, h⟩ := bind_some h
  refine rg [(1, { av := Ii r_1, l := [.str x_1] })] [5, 9, 10, 11] [] 0 [Ii r_1, .sl false 1 (Ms l_1), Ii (lN (l_1)), Ii v_1] [] hmix (ar ([.str x_1] : List AV) (ac (rfl : ([] : List BoxSt) = []) (ac (intern_Name_ok F x_1 r_1 h_3 : TripleG prog 78 [] [] [.str x_1] [] (Ii r_1)) an))) ?_
  refine sr [] [5, 9, 10, 11, 18] [] 0 [Ii r_1, .sl false 1 (Ms l_1), Ii (lN (l_1)), Ii v_1, .bool (r_1 != (0 : Int))] [] hmix an ?_
  refine cd 18 (r_1 != (0 : Int)) ?_ ?_
  rotate_left
  ·intro g_3; replace h := cond_f g_3 h
   refine sk ?_
   refine rg [] [9, 10, 11] [] 0 [.sl false 1 (Ms l_1), Ii (lN (l_1)), Ii (w_i64 (v_1 + (1 : Int)))] [] hmix an ?_
   exact ⟨_, (sw [] [] [.s 9, .s 10, .s 11] [] an), _, rfl, h⟩
  intro g_3; replace h := cond_t g_3 h
  refine sr [] [2] [] 0 [Ii r_1] [] hmix an ?_
  refine rt ?_
  cases h
  exact ⟨rfl, Nat.le_of_ble_eq_true rfl, by kernel_rfl⟩
 intro e st1 hk
 rcases o_1 with q_1 | q_2
 rotate_left
 ·obtain ⟨rfl, hf⟩ := hk
  cases h
  exact ⟨st1, Sub.refl _ _, .inr rfl, hf⟩
 obtain ⟨rfl, hs⟩ := hk
 refine ⟨_, hs, ?_⟩
 refine sr [] [2] [] 0 [Ii 0] [] hmix an ?_
 refine rt ?_
 cases h
 exact ⟨.inr rfl, Nat.le_of_ble_eq_true rfl, by kernel_rfl⟩

theorem event_names_ok (F : Nat) (f_1 : T_event_form) (e_1 : T_api_Event) (r : Int) (h : event_names F f_1 e_1 = some r) : TripleG prog 76 [] [] [e_T_event_form f_1, e_T_api_Event e_1] [] (Ii r) := by
 refine triple_intro (fn := Go.Proofs.Try.f76) (code := codeOf Go.Proofs.Try.f76) (by kernel_rfl) (by kernel_rfl) (Nat.le_of_ble_eq_true (by kernel_rfl)) ?_
 unfold event_names at h
 refine sr [(0, { id := 0 }), (1, { id := 1 })] [2, 3] [0, 1] 2 [Pp 0, Pp 1] [Vb 103 (v_T_event_form f_1), Vb 33 (v_T_api_Event e_1)] hmix an ?_
 refine sq ?_
 refine sr [] [3, 6] [1] 2 [Pp 1, .bool f_1.name] [Vb 33 (v_T_api_Event e_1)] hmix an ?_
 refine cd 6 f_1.name ?_ ?_
 ·intro g_1; replace h := cond_t g_1 h
  refine sq ?_
  obtain ⟨r_1, h_1, h⟩ := bind_some h
  refine rg [(2, { av := Ii r_1, l := [.str e_1.Name] })] [4] [] 2 [Ii r_1] [] hmix (ar ([.str e_1.Name] : List AV) (ac (rfl : ([] : List BoxSt) = []) (ac (intern_Name_ok F e_1.Name r_1 h_1 : TripleG prog 78 [] [] [.str e_1.Name] [] (Ii r_1)) an))) ?_
  refine rt ?_
  cases h
  exact ⟨.inr rfl, Nat.le_of_ble_eq_true rfl, by kernel_rfl⟩
 intro g_1; replace h := cond_f g_1 h
 refine sk ?_
 refine sq ?_
 obtain ⟨r_2, h_2, h⟩ := bind_some h
 refine rg [(2, { av := Ii r_2, l := [.sl false 1 (Ms e_1.Stack)] })] [4] [] 2 [Ii r_2] [] hmix (ar ([.sl false 1 (Ms e_1.Stack)] : List AV) (ac (rfl : ([] : List BoxSt) = []) (ac (intern_Frames_ok F e_1.Stack r_2 h_2 : TripleG prog 81 [] [] [.sl false 1 (Ms e_1.Stack)] [] (Ii r_2)) an))) ?_
 refine rt ?_
 cases h
 exact ⟨.inr rfl, Nat.le_of_ble_eq_true rfl, by kernel_rfl⟩

theorem event_Check_ok (F : Nat) (e_1 : T_api_Event) (r : Int) (h : event_Check F e_1 = some r) : TripleG prog 48 [] [] [e_T_api_Event e_1] [] (Ii r) := by
 refine triple_intro (fn := Go.Proofs.Try.f48) (code := codeOf Go.Proofs.Try.f48) (by kernel_rfl) (by kernel_rfl) (Nat.le_of_ble_eq_true (by kernel_rfl)) ?_
 unfold event_Check at h
 refine sr [(0, { id := 0 })] [1] [0] 1 [Pp 0] [Vb 33 (v_T_api_Event e_1)] hmix an ?_
 refine sq ?_
 refine sq ?_
 refine aw_mid (mk [(1, Pp 0), (13, .bool (decide (e_1.At < (0 : Int)) || decide (e_1.At > (1000000000000 : Int))))] [(0, Vb 33 (v_T_api_Event e_1))] 1) ?_ ?_
 ·rcases bft (decide (e_1.At < (0 : Int))) with gg_1 | gg_1
  ·refine rg [(4, Hg), (5, Hg), (6, Hg), (7, Ht)] [1, 13] [0] 1 [Pp 0, .bool true] [Vb 33 (v_T_api_Event e_1)] hmix (ac gg_1 (ac gg_1 (ac gg_1 (ac gg_1 an)))) ?_
   exact ⟨rfl, (sw [0] [] [.s 1, .a 13 (.bool (decide (e_1.At < (0 : Int)) || decide (e_1.At > (1000000000000 : Int))))] [.s 0] (ac (congrArg AV.bool (ort gg_1) : (.bool true : AV) = .bool (decide (e_1.At < (0 : Int)) || decide (e_1.At > (1000000000000 : Int)))) an))⟩
  ·refine rg [(7, Hf)] [1, 13] [0] 1 [Pp 0, .bool (decide (e_1.At > (1000000000000 : Int)))] [Vb 33 (v_T_api_Event e_1)] hmix (ac gg_1 (ac gg_1 (ac gg_1 (ac gg_1 an)))) ?_
   exact ⟨rfl, (sw [0] [] [.s 1, .a 13 (.bool (decide (e_1.At < (0 : Int)) || decide (e_1.At > (1000000000000 : Int))))] [.s 0] (ac (congrArg AV.bool (orf gg_1 rfl) : (.bool (decide (e_1.At > (1000000000000 : Int))) : AV) = .bool (decide (e_1.At < (0 : Int)) || decide (e_1.At > (1000000000000 : Int)))) an))⟩
 refine cd 13 (decide (e_1.At < (0 : Int)) || decide (e_1.At > (1000000000000 : Int))) ?_ ?_
 ·intro g_1; replace h := cond_t g_1 h
  refine sr [] [2] [] 1 [Ii 2] [] hmix an ?_
  refine rt ?_
  cases h
  exact ⟨.inr rfl, Nat.le_of_ble_eq_true rfl, by kernel_rfl⟩
 intro g_1; replace h := cond_f g_1 h
 refine sk ?_
 refine sq ?_
 obtain ⟨r_1, h_1, h⟩ := bind_some h
 refine rg [(2, { av := .tuple [e_T_event_form r_1.1, .bool r_1.2], l := [Ii e_1.Kind] }), (6, { id := 1 })] [1, 3, 4] [0, 1] 2 [Pp 0, Pp 1, .bool r_1.2] [Vb 33 (v_T_api_Event e_1), Vb 103 (v_T_event_form r_1.1)] hmix (ar ([Ii e_1.Kind] : List AV) (ac (rfl : ([] : List BoxSt) = []) (ac (event_formOf_ok e_1.Kind r_1 h_1 : TripleG prog 75 [] [] [Ii e_1.Kind] [] (.tuple [e_T_event_form r_1.1, .bool r_1.2])) an))) ?_
 refine sq ?_
 refine sq ?_
 obtain ⟨p_1, h_2, h⟩ := bind_some h
 refine aw_mid (mk [(1, Pp 0), (3, Pp 1), (62, .bool p_1)] [(0, Vb 33 (v_T_api_Event e_1)), (1, Vb 103 (v_T_event_form r_1.1))] 2) ?_ ?_
 ·replace h := h_2
  rcases bft (!r_1.2) with gg_2 | gg_2
  ·replace h := cond_t gg_2 h
   refine rg [(3, Hg), (4, Hg), (5, Hg), (6, Hg), (10, Hg), (11, Ht), (13, Hg), (14, Hg), (15, Hg), (16, Hg), (20, Hg), (21, Ht), (23, Hg), (24, Hg), (25, Hg), (26, Hg), (30, Hg), (31, Ht), (33, Hg), (34, Hg), (35, Hg), (36, Hg), (41, Hg), (42, Ht)] [1, 3, 62] [0, 1] 2 [Pp 0, Pp 1, .bool true] [Vb 33 (v_T_api_Event e_1), Vb 103 (v_T_event_form r_1.1)] hmix (ac gg_2 (ac gg_2 (ac gg_2 (ac gg_2 (ac gg_2 (ac gg_2 (ax (ax (ax (ax (ax (ar true (ax (ax (ax (ax (ax (ar true (ax (ax (ax (ax (ax (ar true an)))))))))))))))))))))))) ?_
   cases h
   exact ⟨rfl, (sw [0, 1] [] [.s 1, .s 3, .s 62] [.s 0, .s 1] an)⟩
  ·replace h := cond_f gg_2 h
   rcases bft (!r_1.1.name) with gg_3 | gg_3
   ·replace h := cond_t gg_3 h
    rcases bft (!(e_1.Name == ([] : List Int))) with gg_4 | gg_4
    ·replace h := cond_t gg_4 h
     refine rg [(10, Ht), (11, Hf), (13, Hg), (14, Hg), (15, Hg), (16, Hg), (20, Hg), (21, Ht), (23, Hg), (24, Hg), (25, Hg), (26, Hg), (30, Hg), (31, Ht), (33, Hg), (34, Hg), (35, Hg), (36, Hg), (41, Hg), (42, Ht)] [1, 3, 62] [0, 1] 2 [Pp 0, Pp 1, .bool true] [Vb 33 (v_T_api_Event e_1), Vb 103 (v_T_event_form r_1.1)] hmix (ac gg_2 (ac gg_2 (ac gg_2 (ac gg_2 (ac gg_3 (ac gg_3 (ac gg_3 (ac gg_2 (ac gg_3 (ac gg_2 (ac gg_4 (ac gg_4 (ac gg_4 (ac gg_4 (ac gg_4 (ac gg_4 (ax (ax (ax (ax (ax (ar true (ax (ax (ax (ax (ax (ar true an)))))))))))))))))))))))))))) ?_
     cases h
     exact ⟨rfl, (sw [0, 1] [] [.s 1, .s 3, .s 62] [.s 0, .s 1] an)⟩
    ·replace h := cond_f gg_4 h
     rcases bft (!r_1.1.n) with gg_5 | gg_5
     ·replace h := cond_t gg_5 h
      rcases bft (e_1.N != (0 : Int)) with gg_6 | gg_6
      ·replace h := cond_t gg_6 h
       refine rg [(10, Ht), (11, Hf), (20, Ht), (21, Hf), (23, Hg), (24, Hg), (25, Hg), (26, Hg), (30, Hg), (31, Ht), (33, Hg), (34, Hg), (35, Hg), (36, Hg), (41, Hg), (42, Ht)] [1, 3, 62] [0, 1] 2 [Pp 0, Pp 1, .bool true] [Vb 33 (v_T_api_Event e_1), Vb 103 (v_T_event_form r_1.1)] hmix (ac gg_2 (ac gg_2 (ac gg_2 (ac gg_2 (ac gg_3 (ac gg_3 (ac gg_3 (ac gg_2 (ac gg_3 (ac gg_2 (ac gg_4 (ac gg_4 (ac gg_4 (ac gg_4 (ac gg_5 (ac gg_5 (ac gg_5 (ac gg_4 (ac gg_5 (ac gg_4 (ac gg_6 (ac gg_6 (ac gg_6 (ac gg_6 (ac gg_6 (ac gg_6 (ax (ax (ax (ax (ax (ar true an)))))))))))))))))))))))))))))))) ?_
       cases h
       exact ⟨rfl, (sw [0, 1] [] [.s 1, .s 3, .s 62] [.s 0, .s 1] an)⟩
      ·replace h := cond_f gg_6 h
       rcases bft (!r_1.1.m) with gg_7 | gg_7
       ·replace h := cond_t gg_7 h
        rcases bft (e_1.M != (0 : Int)) with gg_8 | gg_8
        ·replace h := cond_t gg_8 h
         refine rg [(10, Ht), (11, Hf), (20, Ht), (21, Hf), (30, Ht), (31, Hf), (33, Hg), (34, Hg), (35, Hg), (36, Hg), (41, Hg), (42, Ht)] [1, 3, 62] [0, 1] 2 [Pp 0, Pp 1, .bool true] [Vb 33 (v_T_api_Event e_1), Vb 103 (v_T_event_form r_1.1)] hmix (ac gg_2 (ac gg_2 (ac gg_2 (ac gg_2 (ac gg_3 (ac gg_3 (ac gg_3 (ac gg_2 (ac gg_3 (ac gg_2 (ac gg_4 (ac gg_4 (ac gg_4 (ac gg_4 (ac gg_5 (ac gg_5 (ac gg_5 (ac gg_4 (ac gg_5 (ac gg_4 (ac gg_6 (ac gg_6 (ac gg_6 (ac gg_6 (ac gg_7 (ac gg_7 (ac gg_7 (ac gg_6 (ac gg_7 (ac gg_6 (ac gg_8 (ac gg_8 (ac gg_8 (ac gg_8 (ac gg_8 (ac gg_8 an)))))))))))))))))))))))))))))))))))) ?_
         cases h
         exact ⟨rfl, (sw [0, 1] [] [.s 1, .s 3, .s 62] [.s 0, .s 1] an)⟩
        ·replace h := cond_f gg_8 h
         rcases bft (!r_1.1.stack) with gg_9 | gg_9
         ·replace h := cond_t gg_9 h
          refine rg [(10, Ht), (11, Hf), (20, Ht), (21, Hf), (30, Ht), (31, Hf), (39, { n := (e_1.Stack).length }), (41, Ht), (42, Hf)] [1, 3, 62] [0, 1] 2 [Pp 0, Pp 1, .bool (decide ((lN (e_1.Stack)) > (0 : Int)))] [Vb 33 (v_T_api_Event e_1), Vb 103 (v_T_event_form r_1.1)] hmix (ac gg_2 (ac gg_2 (ac gg_2 (ac gg_2 (ac gg_3 (ac gg_3 (ac gg_3 (ac gg_2 (ac gg_3 (ac gg_2 (ac gg_4 (ac gg_4 (ac gg_4 (ac gg_4 (ac gg_5 (ac gg_5 (ac gg_5 (ac gg_4 (ac gg_5 (ac gg_4 (ac gg_6 (ac gg_6 (ac gg_6 (ac gg_6 (ac gg_7 (ac gg_7 (ac gg_7 (ac gg_6 (ac gg_7 (ac gg_6 (ac gg_8 (ac gg_8 (ac gg_8 (ac gg_8 (ac gg_9 (ac gg_9 (ac gg_9 (ac (vc_len _ : ((Ms e_1.Stack)).length = (e_1.Stack).length) (ac gg_9 (ac gg_8 (ac gg_9 (ac gg_8 an)))))))))))))))))))))))))))))))))))))))))) ?_
          cases h
          exact ⟨rfl, (sw [0, 1] [] [.s 1, .s 3, .s 62] [.s 0, .s 1] an)⟩
         ·replace h := cond_f gg_9 h
          refine rg [(10, Ht), (11, Hf), (20, Ht), (21, Hf), (30, Ht), (31, Hf), (37, Hg), (38, Hg), (39, Hg), (40, Hg), (41, Hf), (42, Hf)] [1, 3, 62] [0, 1] 2 [Pp 0, Pp 1, .bool false] [Vb 33 (v_T_api_Event e_1), Vb 103 (v_T_event_form r_1.1)] hmix (ac gg_2 (ac gg_2 (ac gg_2 (ac gg_2 (ac gg_3 (ac gg_3 (ac gg_3 (ac gg_2 (ac gg_3 (ac gg_2 (ac gg_4 (ac gg_4 (ac gg_4 (ac gg_4 (ac gg_5 (ac gg_5 (ac gg_5 (ac gg_4 (ac gg_5 (ac gg_4 (ac gg_6 (ac gg_6 (ac gg_6 (ac gg_6 (ac gg_7 (ac gg_7 (ac gg_7 (ac gg_6 (ac gg_7 (ac gg_6 (ac gg_8 (ac gg_8 (ac gg_8 (ac gg_8 (ac gg_9 (ac gg_9 (ac gg_9 (ac gg_9 (ac gg_8 (ac gg_9 (ac gg_8 an))))))))))))))))))))))))))))))))))))))))) ?_
          cases h
          exact ⟨rfl, (sw [0, 1] [] [.s 1, .s 3, .s 62] [.s 0, .s 1] an)⟩
       ·replace h := cond_f gg_7 h
        rcases bft (!r_1.1.stack) with gg_10 | gg_10
        ·replace h := cond_t gg_10 h
         refine rg [(10, Ht), (11, Hf), (20, Ht), (21, Hf), (27, Hg), (28, Hg), (29, Hg), (30, Hf), (31, Hf), (39, { n := (e_1.Stack).length }), (41, Ht), (42, Hf)] [1, 3, 62] [0, 1] 2 [Pp 0, Pp 1, .bool (decide ((lN (e_1.Stack)) > (0 : Int)))] [Vb 33 (v_T_api_Event e_1), Vb 103 (v_T_event_form r_1.1)] hmix (ac gg_2 (ac gg_2 (ac gg_2 (ac gg_2 (ac gg_3 (ac gg_3 (ac gg_3 (ac gg_2 (ac gg_3 (ac gg_2 (ac gg_4 (ac gg_4 (ac gg_4 (ac gg_4 (ac gg_5 (ac gg_5 (ac gg_5 (ac gg_4 (ac gg_5 (ac gg_4 (ac gg_6 (ac gg_6 (ac gg_6 (ac gg_6 (ac gg_7 (ac gg_7 (ac gg_7 (ac gg_6 (ac gg_7 (ac gg_6 (ar false (ar false (ar false (ar false (ac gg_10 (ac gg_10 (ac gg_10 (ac (vc_len _ : ((Ms e_1.Stack)).length = (e_1.Stack).length) (ac gg_10 (ar false (ac gg_10 (ar false an)))))))))))))))))))))))))))))))))))))))))) ?_
         cases h
         exact ⟨rfl, (sw [0, 1] [] [.s 1, .s 3, .s 62] [.s 0, .s 1] an)⟩
        ·replace h := cond_f gg_10 h
         refine rg [(10, Ht), (11, Hf), (20, Ht), (21, Hf), (27, Hg), (28, Hg), (29, Hg), (30, Hf), (31, Hf), (37, Hg), (38, Hg), (39, Hg), (40, Hg), (41, Hf), (42, Hf)] [1, 3, 62] [0, 1] 2 [Pp 0, Pp 1, .bool false] [Vb 33 (v_T_api_Event e_1), Vb 103 (v_T_event_form r_1.1)] hmix (ac gg_2 (ac gg_2 (ac gg_2 (ac gg_2 (ac gg_3 (ac gg_3 (ac gg_3 (ac gg_2 (ac gg_3 (ac gg_2 (ac gg_4 (ac gg_4 (ac gg_4 (ac gg_4 (ac gg_5 (ac gg_5 (ac gg_5 (ac gg_4 (ac gg_5 (ac gg_4 (ac gg_6 (ac gg_6 (ac gg_6 (ac gg_6 (ac gg_7 (ac gg_7 (ac gg_7 (ac gg_6 (ac gg_7 (ac gg_6 (ar false (ar false (ar false (ar false (ac gg_10 (ac gg_10 (ac gg_10 (ac gg_10 (ar false (ac gg_10 (ar false an))))))))))))))))))))))))))))))))))))))))) ?_
         cases h
         exact ⟨rfl, (sw [0, 1] [] [.s 1, .s 3, .s 62] [.s 0, .s 1] an)⟩
     ·replace h := cond_f gg_5 h
      rcases bft (!r_1.1.m) with gg_11 | gg_11
      ·replace h := cond_t gg_11 h
       rcases bft (e_1.M != (0 : Int)) with gg_12 | gg_12
       ·replace h := cond_t gg_12 h
        refine rg [(10, Ht), (11, Hf), (17, Hg), (18, Hg), (19, Hg), (20, Hf), (21, Hf), (30, Ht), (31, Hf), (33, Hg), (34, Hg), (35, Hg), (36, Hg), (41, Hg), (42, Ht)] [1, 3, 62] [0, 1] 2 [Pp 0, Pp 1, .bool true] [Vb 33 (v_T_api_Event e_1), Vb 103 (v_T_event_form r_1.1)] hmix (ac gg_2 (ac gg_2 (ac gg_2 (ac gg_2 (ac gg_3 (ac gg_3 (ac gg_3 (ac gg_2 (ac gg_3 (ac gg_2 (ac gg_4 (ac gg_4 (ac gg_4 (ac gg_4 (ac gg_5 (ac gg_5 (ac gg_5 (ac gg_4 (ac gg_5 (ac gg_4 (ar false (ar false (ar false (ar false (ac gg_11 (ac gg_11 (ac gg_11 (ar false (ac gg_11 (ar false (ac gg_12 (ac gg_12 (ac gg_12 (ac gg_12 (ac gg_12 (ac gg_12 an)))))))))))))))))))))))))))))))))))) ?_
        cases h
        exact ⟨rfl, (sw [0, 1] [] [.s 1, .s 3, .s 62] [.s 0, .s 1] an)⟩
       ·replace h := cond_f gg_12 h
        rcases bft (!r_1.1.stack) with gg_13 | gg_13
        ·replace h := cond_t gg_13 h
         refine rg [(10, Ht), (11, Hf), (17, Hg), (18, Hg), (19, Hg), (20, Hf), (21, Hf), (30, Ht), (31, Hf), (39, { n := (e_1.Stack).length }), (41, Ht), (42, Hf)] [1, 3, 62] [0, 1] 2 [Pp 0, Pp 1, .bool (decide ((lN (e_1.Stack)) > (0 : Int)))] [Vb 33 (v_T_api_Event e_1), Vb 103 (v_T_event_form r_1.1)] hmix (ac gg_2 (ac gg_2 (ac gg_2 (ac gg_2 (ac gg_3 (ac gg_3 (ac gg_3 (ac gg_2 (ac gg_3 (ac gg_2 (ac gg_4 (ac gg_4 (ac gg_4 (ac gg_4 (ac gg_5 (ac gg_5 (ac gg_5 (ac gg_4 (ac gg_5 (ac gg_4 (ar false (ar false (ar false (ar false (ac gg_11 (ac gg_11 (ac gg_11 (ar false (ac gg_11 (ar false (ac gg_12 (ac gg_12 (ac gg_12 (ac gg_12 (ac gg_13 (ac gg_13 (ac gg_13 (ac (vc_len _ : ((Ms e_1.Stack)).length = (e_1.Stack).length) (ac gg_13 (ac gg_12 (ac gg_13 (ac gg_12 an)))))))))))))))))))))))))))))))))))))))))) ?_
         cases h
         exact ⟨rfl, (sw [0, 1] [] [.s 1, .s 3, .s 62] [.s 0, .s 1] an)⟩
        ·replace h := cond_f gg_13 h
         refine rg [(10, Ht), (11, Hf), (17, Hg), (18, Hg), (19, Hg), (20, Hf), (21, Hf), (30, Ht), (31, Hf), (37, Hg), (38, Hg), (39, Hg), (40, Hg), (41, Hf), (42, Hf)] [1, 3, 62] [0, 1] 2 [Pp 0, Pp 1, .bool false] [Vb 33 (v_T_api_Event e_1), Vb 103 (v_T_event_form r_1.1)] hmix (ac gg_2 (ac gg_2 (ac gg_2 (ac gg_2 (ac gg_3 (ac gg_3 (ac gg_3 (ac gg_2 (ac gg_3 (ac gg_2 (ac gg_4 (ac gg_4 (ac gg_4 (ac gg_4 (ac gg_5 (ac gg_5 (ac gg_5 (ac gg_4 (ac gg_5 (ac gg_4 (ar false (ar false (ar false (ar false (ac gg_11 (ac gg_11 (ac gg_11 (ar false (ac gg_11 (ar false (ac gg_12 (ac gg_12 (ac gg_12 (ac gg_12 (ac gg_13 (ac gg_13 (ac gg_13 (ac gg_13 (ac gg_12 (ac gg_13 (ac gg_12 an))))))))))))))))))))))))))))))))))))))))) ?_
         cases h
         exact ⟨rfl, (sw [0, 1] [] [.s 1, .s 3, .s 62] [.s 0, .s 1] an)⟩
      ·replace h := cond_f gg_11 h
       rcases bft (!r_1.1.stack) with gg_14 | gg_14
       ·replace h := cond_t gg_14 h
        refine rg [(10, Ht), (11, Hf), (17, Hg), (18, Hg), (19, Hg), (20, Hf), (21, Hf), (27, Hg), (28, Hg), (29, Hg), (30, Hf), (31, Hf), (39, { n := (e_1.Stack).length }), (41, Ht), (42, Hf)] [1, 3, 62] [0, 1] 2 [Pp 0, Pp 1, .bool (decide ((lN (e_1.Stack)) > (0 : Int)))] [Vb 33 (v_T_api_Event e_1), Vb 103 (v_T_event_form r_1.1)] hmix (ac gg_2 (ac gg_2 (ac gg_2 (ac gg_2 (ac gg_3 (ac gg_3 (ac gg_3 (ac gg_2 (ac gg_3 (ac gg_2 (ac gg_4 (ac gg_4 (ac gg_4 (ac gg_4 (ac gg_5 (ac gg_5 (ac gg_5 (ac gg_4 (ac gg_5 (ac gg_4 (ar false (ar false (ar false (ar false (ac gg_11 (ac gg_11 (ac gg_11 (ar false (ac gg_11 (ar false (ar false (ar false (ar false (ar false (ac gg_14 (ac gg_14 (ac gg_14 (ac (vc_len _ : ((Ms e_1.Stack)).length = (e_1.Stack).length) (ac gg_14 (ar false (ac gg_14 (ar false an)))))))))))))))))))))))))))))))))))))))))) ?_
        cases h
        exact ⟨rfl, (sw [0, 1] [] [.s 1, .s 3, .s 62] [.s 0, .s 1] an)⟩
       ·replace h := cond_f gg_14 h
        refine rg [(10, Ht), (11, Hf), (17, Hg), (18, Hg), (19, Hg), (20, Hf), (21, Hf), (27, Hg), (28, Hg), (29, Hg), (30, Hf), (31, Hf), (37, Hg), (38, Hg), (39, Hg), (40, Hg), (41, Hf), (42, Hf)] [1, 3, 62] [0, 1] 2 [Pp 0, Pp 1, .bool false] [Vb 33 (v_T_api_Event e_1), Vb 103 (v_T_event_form r_1.1)] hmix (ac gg_2 (ac gg_2 (ac gg_2 (ac gg_2 (ac gg_3 (ac gg_3 (ac gg_3 (ac gg_2 (ac gg_3 (ac gg_2 (ac gg_4 (ac gg_4 (ac gg_4 (ac gg_4 (ac gg_5 (ac gg_5 (ac gg_5 (ac gg_4 (ac gg_5 (ac gg_4 (ar false (ar false (ar false (ar false (ac gg_11 (ac gg_11 (ac gg_11 (ar false (ac gg_11 (ar false (ar false (ar false (ar false (ar false (ac gg_14 (ac gg_14 (ac gg_14 (ac gg_14 (ar false (ac gg_14 (ar false an))))))))))))))))))))))))))))))))))))))))) ?_
        cases h
        exact ⟨rfl, (sw [0, 1] [] [.s 1, .s 3, .s 62] [.s 0, .s 1] an)⟩
   ·replace h := cond_f gg_3 h
    rcases bft (!r_1.1.n) with gg_15 | gg_15
    ·replace h := cond_t gg_15 h
     rcases bft (e_1.N != (0 : Int)) with gg_16 | gg_16
     ·replace h := cond_t gg_16 h
      refine rg [(7, Hg), (8, Hg), (9, Hg), (10, Hf), (11, Hf), (20, Ht), (21, Hf), (23, Hg), (24, Hg), (25, Hg), (26, Hg), (30, Hg), (31, Ht), (33, Hg), (34, Hg), (35, Hg), (36, Hg), (41, Hg), (42, Ht)] [1, 3, 62] [0, 1] 2 [Pp 0, Pp 1, .bool true] [Vb 33 (v_T_api_Event e_1), Vb 103 (v_T_event_form r_1.1)] hmix (ac gg_2 (ac gg_2 (ac gg_2 (ac gg_2 (ac gg_3 (ac gg_3 (ac gg_3 (ac gg_2 (ac gg_3 (ac gg_2 (ar false (ar false (ar false (ar false (ac gg_15 (ac gg_15 (ac gg_15 (ar false (ac gg_15 (ar false (ac gg_16 (ac gg_16 (ac gg_16 (ac gg_16 (ac gg_16 (ac gg_16 (ax (ax (ax (ax (ax (ar true an)))))))))))))))))))))))))))))))) ?_
      cases h
      exact ⟨rfl, (sw [0, 1] [] [.s 1, .s 3, .s 62] [.s 0, .s 1] an)⟩
     ·replace h := cond_f gg_16 h
      rcases bft (!r_1.1.m) with gg_17 | gg_17
      ·replace h := cond_t gg_17 h
       rcases bft (e_1.M != (0 : Int)) with gg_18 | gg_18
       ·replace h := cond_t gg_18 h
        refine rg [(7, Hg), (8, Hg), (9, Hg), (10, Hf), (11, Hf), (20, Ht), (21, Hf), (30, Ht), (31, Hf), (33, Hg), (34, Hg), (35, Hg), (36, Hg), (41, Hg), (42, Ht)] [1, 3, 62] [0, 1] 2 [Pp 0, Pp 1, .bool true] [Vb 33 (v_T_api_Event e_1), Vb 103 (v_T_event_form r_1.1)] hmix (ac gg_2 (ac gg_2 (ac gg_2 (ac gg_2 (ac gg_3 (ac gg_3 (ac gg_3 (ac gg_2 (ac gg_3 (ac gg_2 (ar false (ar false (ar false (ar false (ac gg_15 (ac gg_15 (ac gg_15 (ar false (ac gg_15 (ar false (ac gg_16 (ac gg_16 (ac gg_16 (ac gg_16 (ac gg_17 (ac gg_17 (ac gg_17 (ac gg_16 (ac gg_17 (ac gg_16 (ac gg_18 (ac gg_18 (ac gg_18 (ac gg_18 (ac gg_18 (ac gg_18 an)))))))))))))))))))))))))))))))))))) ?_
        cases h
        exact ⟨rfl, (sw [0, 1] [] [.s 1, .s 3, .s 62] [.s 0, .s 1] an)⟩
       ·replace h := cond_f gg_18 h
        rcases bft (!r_1.1.stack) with gg_19 | gg_19
        ·replace h := cond_t gg_19 h
         refine rg [(7, Hg), (8, Hg), (9, Hg), (10, Hf), (11, Hf), (20, Ht), (21, Hf), (30, Ht), (31, Hf), (39, { n := (e_1.Stack).length }), (41, Ht), (42, Hf)] [1, 3, 62] [0, 1] 2 [Pp 0, Pp 1, .bool (decide ((lN (e_1.Stack)) > (0 : Int)))] [Vb 33 (v_T_api_Event e_1), Vb 103 (v_T_event_form r_1.1)] hmix (ac gg_2 (ac gg_2 (ac gg_2 (ac gg_2 (ac gg_3 (ac gg_3 (ac gg_3 (ac gg_2 (ac gg_3 (ac gg_2 (ar false (ar false (ar false (ar false (ac gg_15 (ac gg_15 (ac gg_15 (ar false (ac gg_15 (ar false (ac gg_16 (ac gg_16 (ac gg_16 (ac gg_16 (ac gg_17 (ac gg_17 (ac gg_17 (ac gg_16 (ac gg_17 (ac gg_16 (ac gg_18 (ac gg_18 (ac gg_18 (ac gg_18 (ac gg_19 (ac gg_19 (ac gg_19 (ac (vc_len _ : ((Ms e_1.Stack)).length = (e_1.Stack).length) (ac gg_19 (ac gg_18 (ac gg_19 (ac gg_18 an)))))))))))))))))))))))))))))))))))))))))) ?_
         cases h
         exact ⟨rfl, (sw [0, 1] [] [.s 1, .s 3, .s 62] [.s 0, .s 1] an)⟩
        ·replace h := cond_f gg_19 h
         refine rg [(7, Hg), (8, Hg), (9, Hg), (10, Hf), (11, Hf), (20, Ht), (21, Hf), (30, Ht), (31, Hf), (37, Hg), (38, Hg), (39, Hg), (40, Hg), (41, Hf), (42, Hf)] [1, 3, 62] [0, 1] 2 [Pp 0, Pp 1, .bool false] [Vb 33 (v_T_api_Event e_1), Vb 103 (v_T_event_form r_1.1)] hmix (ac gg_2 (ac gg_2 (ac gg_2 (ac gg_2 (ac gg_3 (ac gg_3 (ac gg_3 (ac gg_2 (ac gg_3 (ac gg_2 (ar false (ar false (ar false (ar false (ac gg_15 (ac gg_15 (ac gg_15 (ar false (ac gg_15 (ar false (ac gg_16 (ac gg_16 (ac gg_16 (ac gg_16 (ac gg_17 (ac gg_17 (ac gg_17 (ac gg_16 (ac gg_17 (ac gg_16 (ac gg_18 (ac gg_18 (ac gg_18 (ac gg_18 (ac gg_19 (ac gg_19 (ac gg_19 (ac gg_19 (ac gg_18 (ac gg_19 (ac gg_18 an))))))))))))))))))))))))))))))))))))))))) ?_
         cases h
         exact ⟨rfl, (sw [0, 1] [] [.s 1, .s 3, .s 62] [.s 0, .s 1] an)⟩
      ·replace h := cond_f gg_17 h
       rcases bft (!r_1.1.stack) with gg_20 | gg_20
       ·replace h := cond_t gg_20 h
        refine rg [(7, Hg), (8, Hg), (9, Hg), (10, Hf), (11, Hf), (20, Ht), (21, Hf), (27, Hg), (28, Hg), (29, Hg), (30, Hf), (31, Hf), (39, { n := (e_1.Stack).length }), (41, Ht), (42, Hf)] [1, 3, 62] [0, 1] 2 [Pp 0, Pp 1, .bool (decide ((lN (e_1.Stack)) > (0 : Int)))] [Vb 33 (v_T_api_Event e_1), Vb 103 (v_T_event_form r_1.1)] hmix (ac gg_2 (ac gg_2 (ac gg_2 (ac gg_2 (ac gg_3 (ac gg_3 (ac gg_3 (ac gg_2 (ac gg_3 (ac gg_2 (ar false (ar false (ar false (ar false (ac gg_15 (ac gg_15 (ac gg_15 (ar false (ac gg_15 (ar false (ac gg_16 (ac gg_16 (ac gg_16 (ac gg_16 (ac gg_17 (ac gg_17 (ac gg_17 (ac gg_16 (ac gg_17 (ac gg_16 (ar false (ar false (ar false (ar false (ac gg_20 (ac gg_20 (ac gg_20 (ac (vc_len _ : ((Ms e_1.Stack)).length = (e_1.Stack).length) (ac gg_20 (ar false (ac gg_20 (ar false an)))))))))))))))))))))))))))))))))))))))))) ?_
        cases h
        exact ⟨rfl, (sw [0, 1] [] [.s 1, .s 3, .s 62] [.s 0, .s 1] an)⟩
       ·replace h := cond_f gg_20 h
        refine rg [(7, Hg), (8, Hg), (9, Hg), (10, Hf), (11, Hf), (20, Ht), (21, Hf), (27, Hg), (28, Hg), (29, Hg), (30, Hf), (31, Hf), (37, Hg), (38, Hg), (39, Hg), (40, Hg), (41, Hf), (42, Hf)] [1, 3, 62] [0, 1] 2 [Pp 0, Pp 1, .bool false] [Vb 33 (v_T_api_Event e_1), Vb 103 (v_T_event_form r_1.1)] hmix (ac gg_2 (ac gg_2 (ac gg_2 (ac gg_2 (ac gg_3 (ac gg_3 (ac gg_3 (ac gg_2 (ac gg_3 (ac gg_2 (ar false (ar false (ar false (ar false (ac gg_15 (ac gg_15 (ac gg_15 (ar false (ac gg_15 (ar false (ac gg_16 (ac gg_16 (ac gg_16 (ac gg_16 (ac gg_17 (ac gg_17 (ac gg_17 (ac gg_16 (ac gg_17 (ac gg_16 (ar false (ar false (ar false (ar false (ac gg_20 (ac gg_20 (ac gg_20 (ac gg_20 (ar false (ac gg_20 (ar false an))))))))))))))))))))))))))))))))))))))))) ?_
        cases h
        exact ⟨rfl, (sw [0, 1] [] [.s 1, .s 3, .s 62] [.s 0, .s 1] an)⟩
    ·replace h := cond_f gg_15 h
     rcases bft (!r_1.1.m) with gg_21 | gg_21
     ·replace h := cond_t gg_21 h
      rcases bft (e_1.M != (0 : Int)) with gg_22 | gg_22
      ·replace h := cond_t gg_22 h
       refine rg [(7, Hg), (8, Hg), (9, Hg), (10, Hf), (11, Hf), (17, Hg), (18, Hg), (19, Hg), (20, Hf), (21, Hf), (30, Ht), (31, Hf), (33, Hg), (34, Hg), (35, Hg), (36, Hg), (41, Hg), (42, Ht)] [1, 3, 62] [0, 1] 2 [Pp 0, Pp 1, .bool true] [Vb 33 (v_T_api_Event e_1), Vb 103 (v_T_event_form r_1.1)] hmix (ac gg_2 (ac gg_2 (ac gg_2 (ac gg_2 (ac gg_3 (ac gg_3 (ac gg_3 (ac gg_2 (ac gg_3 (ac gg_2 (ar false (ar false (ar false (ar false (ac gg_15 (ac gg_15 (ac gg_15 (ar false (ac gg_15 (ar false (ar false (ar false (ar false (ar false (ac gg_21 (ac gg_21 (ac gg_21 (ar false (ac gg_21 (ar false (ac gg_22 (ac gg_22 (ac gg_22 (ac gg_22 (ac gg_22 (ac gg_22 an)))))))))))))))))))))))))))))))))))) ?_
       cases h
       exact ⟨rfl, (sw [0, 1] [] [.s 1, .s 3, .s 62] [.s 0, .s 1] an)⟩
      ·replace h := cond_f gg_22 h
       rcases bft (!r_1.1.stack) with gg_23 | gg_23
       ·replace h := cond_t gg_23 h
        refine rg [(7, Hg), (8, Hg), (9, Hg), (10, Hf), (11, Hf), (17, Hg), (18, Hg), (19, Hg), (20, Hf), (21, Hf), (30, Ht), (31, Hf), (39, { n := (e_1.Stack).length }), (41, Ht), (42, Hf)] [1, 3, 62] [0, 1] 2 [Pp 0, Pp 1, .bool (decide ((lN (e_1.Stack)) > (0 : Int)))] [Vb 33 (v_T_api_Event e_1), Vb 103 (v_T_event_form r_1.1)] hmix (ac gg_2 (ac gg_2 (ac gg_2 (ac gg_2 (ac gg_3 (ac gg_3 (ac gg_3 (ac gg_2 (ac gg_3 (ac gg_2 (ar false (ar false (ar false (ar false (ac gg_15 (ac gg_15 (ac gg_15 (ar false (ac gg_15 (ar false (ar false (ar false (ar false (ar false (ac gg_21 (ac gg_21 (ac gg_21 (ar false (ac gg_21 (ar false (ac gg_22 (ac gg_22 (ac gg_22 (ac gg_22 (ac gg_23 (ac gg_23 (ac gg_23 (ac (vc_len _ : ((Ms e_1.Stack)).length = (e_1.Stack).length) (ac gg_23 (ac gg_22 (ac gg_23 (ac gg_22 an)))))))))))))))))))))))))))))))))))))))))) ?_
        cases h
        exact ⟨rfl, (sw [0, 1] [] [.s 1, .s 3, .s 62] [.s 0, .s 1] an)⟩
       ·replace h := cond_f gg_23 h
        refine rg [(7, Hg), (8, Hg), (9, Hg), (10, Hf), (11, Hf), (17, Hg), (18, Hg), (19, Hg), (20, Hf), (21, Hf), (30, Ht), (31, Hf), (37, Hg), (38, Hg), (39, Hg), (40, Hg), (41, Hf), (42, Hf)] [1, 3, 62] [0, 1] 2 [Pp 0, Pp 1, .bool false] [Vb 33 (v_T_api_Event e_1), Vb 103 (v_T_event_form r_1.1)] hmix (ac gg_2 (ac gg_2 (ac gg_2 (ac gg_2 (ac gg_3 (ac gg_3 (ac gg_3 (ac gg_2 (ac gg_3 (ac gg_2 (ar false (ar false (ar false (ar false (ac gg_15 (ac gg_15 (ac gg_15 (ar false (ac gg_15 (ar false (ar false (ar false (ar false (ar false (ac gg_21 (ac gg_21 (ac gg_21 (ar false (ac gg_21 (ar false (ac gg_22 (ac gg_22 (ac gg_22 (ac gg_22 (ac gg_23 (ac gg_23 (ac gg_23 (ac gg_23 (ac gg_22 (ac gg_23 (ac gg_22 an))))))))))))))))))))))))))))))))))))))))) ?_
        cases h
        exact ⟨rfl, (sw [0, 1] [] [.s 1, .s 3, .s 62] [.s 0, .s 1] an)⟩
     ·replace h := cond_f gg_21 h
      rcases bft (!r_1.1.stack) with gg_24 | gg_24
      ·replace h := cond_t gg_24 h
       refine rg [(7, Hg), (8, Hg), (9, Hg), (10, Hf), (11, Hf), (17, Hg), (18, Hg), (19, Hg), (20, Hf), (21, Hf), (27, Hg), (28, Hg), (29, Hg), (30, Hf), (31, Hf), (39, { n := (e_1.Stack).length }), (41, Ht), (42, Hf)] [1, 3, 62] [0, 1] 2 [Pp 0, Pp 1, .bool (decide ((lN (e_1.Stack)) > (0 : Int)))] [Vb 33 (v_T_api_Event e_1), Vb 103 (v_T_event_form r_1.1)] hmix (ac gg_2 (ac gg_2 (ac gg_2 (ac gg_2 (ac gg_3 (ac gg_3 (ac gg_3 (ac gg_2 (ac gg_3 (ac gg_2 (ar false (ar false (ar false (ar false (ac gg_15 (ac gg_15 (ac gg_15 (ar false (ac gg_15 (ar false (ar false (ar false (ar false (ar false (ac gg_21 (ac gg_21 (ac gg_21 (ar false (ac gg_21 (ar false (ar false (ar false (ar false (ar false (ac gg_24 (ac gg_24 (ac gg_24 (ac (vc_len _ : ((Ms e_1.Stack)).length = (e_1.Stack).length) (ac gg_24 (ar false (ac gg_24 (ar false an)))))))))))))))))))))))))))))))))))))))))) ?_
       cases h
       exact ⟨rfl, (sw [0, 1] [] [.s 1, .s 3, .s 62] [.s 0, .s 1] an)⟩
      ·replace h := cond_f gg_24 h
       refine rg [(7, Hg), (8, Hg), (9, Hg), (10, Hf), (11, Hf), (17, Hg), (18, Hg), (19, Hg), (20, Hf), (21, Hf), (27, Hg), (28, Hg), (29, Hg), (30, Hf), (31, Hf), (37, Hg), (38, Hg), (39, Hg), (40, Hg), (41, Hf), (42, Hf)] [1, 3, 62] [0, 1] 2 [Pp 0, Pp 1, .bool false] [Vb 33 (v_T_api_Event e_1), Vb 103 (v_T_event_form r_1.1)] hmix (ac gg_2 (ac gg_2 (ac gg_2 (ac gg_2 (ac gg_3 (ac gg_3 (ac gg_3 (ac gg_2 (ac gg_3 (ac gg_2 (ar false (ar false (ar false (ar false (ac gg_15 (ac gg_15 (ac gg_15 (ar false (ac gg_15 (ar false (ar false (ar false (ar false (ar false (ac gg_21 (ac gg_21 (ac gg_21 (ar false (ac gg_21 (ar false (ar false (ar false (ar false (ar false (ac gg_24 (ac gg_24 (ac gg_24 (ac gg_24 (ar false (ac gg_24 (ar false an))))))))))))))))))))))))))))))))))))))))) ?_
       cases h
       exact ⟨rfl, (sw [0, 1] [] [.s 1, .s 3, .s 62] [.s 0, .s 1] an)⟩
 refine cd 62 p_1 ?_ ?_
 ·intro g_2; replace h := cond_t g_2 h
  refine sr [] [2] [] 2 [Ii 1] [] hmix an ?_
  refine rt ?_
  cases h
  exact ⟨.inr rfl, Nat.le_of_ble_eq_true rfl, by kernel_rfl⟩
 intro g_2; replace h := cond_f g_2 h
 refine sk ?_
 refine sq ?_
 refine sq ?_
 obtain ⟨r_2, h_3, h⟩ := bind_some h
 refine rg [(2, { av := Ii r_2, l := [e_T_event_form r_1.1, e_T_api_Event e_1] })] [1, 3, 5] [0, 1] 2 [Pp 0, Pp 1, Ii r_2] [Vb 33 (v_T_api_Event e_1), Vb 103 (v_T_event_form r_1.1)] hmix (ar ([e_T_event_form r_1.1, e_T_api_Event e_1] : List AV) (ac (rfl : ([] : List BoxSt) = []) (ac (event_names_ok F r_1.1 e_1 r_2 h_3 : TripleG prog 76 [] [] [e_T_event_form r_1.1, e_T_api_Event e_1] [] (Ii r_2)) an))) ?_
 refine sr [] [1, 3, 5, 67] [0, 1] 2 [Pp 0, Pp 1, Ii r_2, .bool (r_2 != (0 : Int))] [Vb 33 (v_T_api_Event e_1), Vb 103 (v_T_event_form r_1.1)] hmix an ?_
 refine cd 67 (r_2 != (0 : Int)) ?_ ?_
 ·intro g_3; replace h := cond_t g_3 h
  refine sr [] [2] [] 2 [Ii r_2] [] hmix an ?_
  refine rt ?_
  cases h
  exact ⟨.inr rfl, Nat.le_of_ble_eq_true rfl, by kernel_rfl⟩
 intro g_3; replace h := cond_f g_3 h
 refine sk ?_
 refine sq ?_
 refine aw_block (id := 0) (by kernel_rfl) ?_
 refine sq ?_
 refine aw_mid (mk [(1, Pp 0), (3, Pp 1), (69, .bool (r_1.1.n && (decide (e_1.N < r_1.1.least) || decide (e_1.N > r_1.1.most))))] [(0, Vb 33 (v_T_api_Event e_1)), (1, Vb 103 (v_T_event_form r_1.1))] 2) ?_ ?_
 ·rcases Bool.eq_false_or_eq_true r_1.1.n with gg_25 | gg_25
  ·rcases bft (decide (e_1.N < r_1.1.least)) with gg_26 | gg_26
   ·refine rg [(9, Hg), (10, Hg), (11, Hg), (12, Hg), (13, Hg), (14, Ht), (15, Ht)] [1, 3, 69] [0, 1] 2 [Pp 0, Pp 1, .bool true] [Vb 33 (v_T_api_Event e_1), Vb 103 (v_T_event_form r_1.1)] hmix (ac gg_25 (ac gg_25 (ac gg_25 (ac gg_25 (ac gg_25 (ac gg_25 (ac gg_26 (ac gg_26 (ac gg_26 (ac gg_26 (ac gg_26 (ac gg_25 (ac gg_26 (ac gg_25 an)))))))))))))) ?_
    exact ⟨rfl, (sw [0, 1] [] [.s 1, .s 3, .a 69 (.bool (r_1.1.n && (decide (e_1.N < r_1.1.least) || decide (e_1.N > r_1.1.most))))] [.s 0, .s 1] (ac (congrArg AV.bool (andt gg_25 (ort gg_26)) : (.bool true : AV) = .bool (r_1.1.n && (decide (e_1.N < r_1.1.least) || decide (e_1.N > r_1.1.most)))) an))⟩
   ·refine rg [(14, Hf), (15, Ht)] [1, 3, 69] [0, 1] 2 [Pp 0, Pp 1, .bool (decide (e_1.N > r_1.1.most))] [Vb 33 (v_T_api_Event e_1), Vb 103 (v_T_event_form r_1.1)] hmix (ac gg_25 (ac gg_25 (ac gg_25 (ac gg_25 (ac gg_25 (ac gg_25 (ac gg_26 (ac gg_26 (ac gg_26 (ac gg_26 (ac gg_26 (ac gg_25 (ac gg_26 (ac gg_25 an)))))))))))))) ?_
    exact ⟨rfl, (sw [0, 1] [] [.s 1, .s 3, .a 69 (.bool (r_1.1.n && (decide (e_1.N < r_1.1.least) || decide (e_1.N > r_1.1.most))))] [.s 0, .s 1] (ac (congrArg AV.bool (andt gg_25 (orf gg_26 rfl)) : (.bool (decide (e_1.N > r_1.1.most)) : AV) = .bool (r_1.1.n && (decide (e_1.N < r_1.1.least) || decide (e_1.N > r_1.1.most)))) an))⟩
  ·refine rg [(3, Hg), (4, Hg), (5, Hg), (6, Hg), (7, Hg), (8, Hg), (14, Hg), (15, Hf)] [1, 3, 69] [0, 1] 2 [Pp 0, Pp 1, .bool false] [Vb 33 (v_T_api_Event e_1), Vb 103 (v_T_event_form r_1.1)] hmix (ac gg_25 (ac gg_25 (ac gg_25 (ac gg_25 (ac gg_25 (ac gg_25 (ac gg_25 (ac gg_25 an)))))))) ?_
   exact ⟨rfl, (sw [0, 1] [] [.s 1, .s 3, .a 69 (.bool (r_1.1.n && (decide (e_1.N < r_1.1.least) || decide (e_1.N > r_1.1.most))))] [.s 0, .s 1] (ac (congrArg AV.bool (andf gg_25) : (.bool false : AV) = .bool (r_1.1.n && (decide (e_1.N < r_1.1.least) || decide (e_1.N > r_1.1.most)))) an))⟩
 refine cd 69 (r_1.1.n && (decide (e_1.N < r_1.1.least) || decide (e_1.N > r_1.1.most))) ?_ ?_
 ·intro g_4; replace h := cond_t g_4 h
  refine sr [] [2] [] 2 [Ii 2] [] hmix an ?_
  refine rt ?_
  cases h
  exact ⟨.inr rfl, Nat.le_of_ble_eq_true rfl, by kernel_rfl⟩
 intro g_4; replace h := cond_f g_4 h
 refine sq ?_
 refine aw_mid (mk [(1, Pp 0), (3, Pp 1), (86, .bool ((e_1.Kind == (9 : Int)) && ((e_1.N != (2 : Int)) && (e_1.M != (0 : Int)))))] [(0, Vb 33 (v_T_api_Event e_1)), (1, Vb 103 (v_T_event_form r_1.1))] 2) ?_ ?_
 ·rcases bft (e_1.Kind == (9 : Int)) with gg_27 | gg_27
  ·rcases bft (e_1.N != (2 : Int)) with gg_28 | gg_28
   ·refine rg [(7, Ht), (12, Ht)] [1, 3, 86] [0, 1] 2 [Pp 0, Pp 1, .bool (e_1.M != (0 : Int))] [Vb 33 (v_T_api_Event e_1), Vb 103 (v_T_event_form r_1.1)] hmix (ac gg_27 (ac gg_27 (ac gg_27 (ac gg_27 (ac gg_28 (ac gg_28 (ac gg_28 (ac gg_28 an)))))))) ?_
    exact ⟨rfl, (sw [0, 1] [] [.s 1, .s 3, .a 86 (.bool ((e_1.Kind == (9 : Int)) && ((e_1.N != (2 : Int)) && (e_1.M != (0 : Int)))))] [.s 0, .s 1] (ac (congrArg AV.bool (andt gg_27 (andt gg_28 rfl)) : (.bool (e_1.M != (0 : Int)) : AV) = .bool ((e_1.Kind == (9 : Int)) && ((e_1.N != (2 : Int)) && (e_1.M != (0 : Int))))) an))⟩
   ·refine rg [(7, Ht), (9, Hg), (10, Hg), (11, Hg), (12, Hf)] [1, 3, 86] [0, 1] 2 [Pp 0, Pp 1, .bool false] [Vb 33 (v_T_api_Event e_1), Vb 103 (v_T_event_form r_1.1)] hmix (ac gg_27 (ac gg_27 (ac gg_27 (ac gg_27 (ac gg_28 (ac gg_28 (ac gg_28 (ac gg_28 an)))))))) ?_
    exact ⟨rfl, (sw [0, 1] [] [.s 1, .s 3, .a 86 (.bool ((e_1.Kind == (9 : Int)) && ((e_1.N != (2 : Int)) && (e_1.M != (0 : Int)))))] [.s 0, .s 1] (ac (congrArg AV.bool (andt gg_27 (andf gg_28)) : (.bool false : AV) = .bool ((e_1.Kind == (9 : Int)) && ((e_1.N != (2 : Int)) && (e_1.M != (0 : Int))))) an))⟩
  ·refine rg [(4, Hg), (5, Hg), (6, Hg), (7, Hf), (9, Hg), (10, Hg), (11, Hg), (12, Hf)] [1, 3, 86] [0, 1] 2 [Pp 0, Pp 1, .bool false] [Vb 33 (v_T_api_Event e_1), Vb 103 (v_T_event_form r_1.1)] hmix (ac gg_27 (ac gg_27 (ac gg_27 (ac gg_27 (ac (rfl : false = !true) (ac (rfl : false = !true) (ac (rfl : false = !true) (ar false an)))))))) ?_
   exact ⟨rfl, (sw [0, 1] [] [.s 1, .s 3, .a 86 (.bool ((e_1.Kind == (9 : Int)) && ((e_1.N != (2 : Int)) && (e_1.M != (0 : Int)))))] [.s 0, .s 1] (ac (congrArg AV.bool (andf gg_27) : (.bool false : AV) = .bool ((e_1.Kind == (9 : Int)) && ((e_1.N != (2 : Int)) && (e_1.M != (0 : Int))))) an))⟩
 refine cd 86 ((e_1.Kind == (9 : Int)) && ((e_1.N != (2 : Int)) && (e_1.M != (0 : Int)))) ?_ ?_
 ·intro g_5; replace h := cond_t g_5 h
  refine sr [] [2] [] 2 [Ii 1] [] hmix an ?_
  refine rt ?_
  cases h
  exact ⟨.inr rfl, Nat.le_of_ble_eq_true rfl, by kernel_rfl⟩
 intro g_5; replace h := cond_f g_5 h
 refine sq ?_
 refine aw_mid (mk [(100, .bool (r_1.1.m && (bif decide (e_1.M < r_1.1.mLeast) then ((e_1.Kind != (9 : Int)) || (e_1.N == (2 : Int))) else (decide (e_1.M > r_1.1.mMost) && ((e_1.Kind != (9 : Int)) || (e_1.N == (2 : Int)))))))] [] 0) ?_ ?_
 ·rcases Bool.eq_false_or_eq_true r_1.1.m with gg_29 | gg_29
  ·rcases bft (decide (e_1.M < r_1.1.mLeast)) with gg_30 | gg_30
   ·rcases bft (e_1.Kind != (9 : Int)) with gg_31 | gg_31
    ·refine rg [(9, Hg), (10, Hg), (11, Hg), (12, Hg), (13, Hg), (14, Ht), (15, Ht), (21, Hg), (22, Hg), (23, Hg), (24, Ht), (25, Ht)] [100] [] 2 [.bool true] [] hmix (ac gg_29 (ac gg_29 (ac gg_29 (ac gg_29 (ac gg_29 (ac gg_29 (ac gg_30 (ac gg_30 (ac gg_30 (ac gg_30 (ac gg_30 (ac gg_29 (ac gg_30 (ac gg_29 (ar true (ar true (ar true (ar true (ac gg_31 (ac gg_31 (ac gg_31 (ar true (ac gg_31 (ar true an)))))))))))))))))))))))) ?_
     exact ⟨rfl, (sw [] [] [.a 100 (.bool (r_1.1.m && (bif decide (e_1.M < r_1.1.mLeast) then ((e_1.Kind != (9 : Int)) || (e_1.N == (2 : Int))) else (decide (e_1.M > r_1.1.mMost) && ((e_1.Kind != (9 : Int)) || (e_1.N == (2 : Int)))))))] [] (ac (congrArg AV.bool (andt gg_29 (ctr gg_30 (ort gg_31))) : (.bool true : AV) = .bool (r_1.1.m && (bif decide (e_1.M < r_1.1.mLeast) then ((e_1.Kind != (9 : Int)) || (e_1.N == (2 : Int))) else (decide (e_1.M > r_1.1.mMost) && ((e_1.Kind != (9 : Int)) || (e_1.N == (2 : Int))))))) an))⟩
    ·refine rg [(9, Hg), (10, Hg), (11, Hg), (12, Hg), (13, Hg), (14, Ht), (15, Ht), (24, Hf), (25, Ht)] [100] [] 2 [.bool (e_1.N == (2 : Int))] [] hmix (ac gg_29 (ac gg_29 (ac gg_29 (ac gg_29 (ac gg_29 (ac gg_29 (ac gg_30 (ac gg_30 (ac gg_30 (ac gg_30 (ac gg_30 (ac gg_29 (ac gg_30 (ac gg_29 (ar true (ar true (ar true (ar true (ac gg_31 (ac gg_31 (ac gg_31 (ar true (ac gg_31 (ar true an)))))))))))))))))))))))) ?_
     exact ⟨rfl, (sw [] [] [.a 100 (.bool (r_1.1.m && (bif decide (e_1.M < r_1.1.mLeast) then ((e_1.Kind != (9 : Int)) || (e_1.N == (2 : Int))) else (decide (e_1.M > r_1.1.mMost) && ((e_1.Kind != (9 : Int)) || (e_1.N == (2 : Int)))))))] [] (ac (congrArg AV.bool (andt gg_29 (ctr gg_30 (orf gg_31 rfl))) : (.bool (e_1.N == (2 : Int)) : AV) = .bool (r_1.1.m && (bif decide (e_1.M < r_1.1.mLeast) then ((e_1.Kind != (9 : Int)) || (e_1.N == (2 : Int))) else (decide (e_1.M > r_1.1.mMost) && ((e_1.Kind != (9 : Int)) || (e_1.N == (2 : Int))))))) an))⟩
   ·rcases bft (decide (e_1.M > r_1.1.mMost)) with gg_32 | gg_32
    ·rcases bft (e_1.Kind != (9 : Int)) with gg_33 | gg_33
     ·refine rg [(14, Hf), (15, Ht), (21, Hg), (22, Hg), (23, Hg), (24, Ht), (25, Ht)] [100] [] 2 [.bool true] [] hmix (ac gg_29 (ac gg_29 (ac gg_29 (ac gg_29 (ac gg_29 (ac gg_29 (ac gg_30 (ac gg_30 (ac gg_30 (ac gg_30 (ac gg_30 (ac gg_29 (ac gg_30 (ac gg_29 (ac gg_32 (ac gg_32 (ac gg_32 (ac gg_32 (ac gg_33 (ac gg_33 (ac gg_33 (ac gg_32 (ac gg_33 (ac gg_32 an)))))))))))))))))))))))) ?_
      exact ⟨rfl, (sw [] [] [.a 100 (.bool (r_1.1.m && (bif decide (e_1.M < r_1.1.mLeast) then ((e_1.Kind != (9 : Int)) || (e_1.N == (2 : Int))) else (decide (e_1.M > r_1.1.mMost) && ((e_1.Kind != (9 : Int)) || (e_1.N == (2 : Int)))))))] [] (ac (congrArg AV.bool (andt gg_29 (cfr gg_30 (andt gg_32 (ort gg_33)))) : (.bool true : AV) = .bool (r_1.1.m && (bif decide (e_1.M < r_1.1.mLeast) then ((e_1.Kind != (9 : Int)) || (e_1.N == (2 : Int))) else (decide (e_1.M > r_1.1.mMost) && ((e_1.Kind != (9 : Int)) || (e_1.N == (2 : Int))))))) an))⟩
     ·refine rg [(14, Hf), (15, Ht), (24, Hf), (25, Ht)] [100] [] 2 [.bool (e_1.N == (2 : Int))] [] hmix (ac gg_29 (ac gg_29 (ac gg_29 (ac gg_29 (ac gg_29 (ac gg_29 (ac gg_30 (ac gg_30 (ac gg_30 (ac gg_30 (ac gg_30 (ac gg_29 (ac gg_30 (ac gg_29 (ac gg_32 (ac gg_32 (ac gg_32 (ac gg_32 (ac gg_33 (ac gg_33 (ac gg_33 (ac gg_32 (ac gg_33 (ac gg_32 an)))))))))))))))))))))))) ?_
      exact ⟨rfl, (sw [] [] [.a 100 (.bool (r_1.1.m && (bif decide (e_1.M < r_1.1.mLeast) then ((e_1.Kind != (9 : Int)) || (e_1.N == (2 : Int))) else (decide (e_1.M > r_1.1.mMost) && ((e_1.Kind != (9 : Int)) || (e_1.N == (2 : Int)))))))] [] (ac (congrArg AV.bool (andt gg_29 (cfr gg_30 (andt gg_32 (orf gg_33 rfl)))) : (.bool (e_1.N == (2 : Int)) : AV) = .bool (r_1.1.m && (bif decide (e_1.M < r_1.1.mLeast) then ((e_1.Kind != (9 : Int)) || (e_1.N == (2 : Int))) else (decide (e_1.M > r_1.1.mMost) && ((e_1.Kind != (9 : Int)) || (e_1.N == (2 : Int))))))) an))⟩
    ·refine rg [(14, Hf), (15, Ht), (17, Hg), (18, Hg), (19, Hg), (20, Hg), (24, Hg), (25, Hf)] [100] [] 2 [.bool false] [] hmix (ac gg_29 (ac gg_29 (ac gg_29 (ac gg_29 (ac gg_29 (ac gg_29 (ac gg_30 (ac gg_30 (ac gg_30 (ac gg_30 (ac gg_30 (ac gg_29 (ac gg_30 (ac gg_29 (ac gg_32 (ac gg_32 (ac gg_32 (ac gg_32 (ac gg_32 (ac gg_32 an)))))))))))))))))))) ?_
     exact ⟨rfl, (sw [] [] [.a 100 (.bool (r_1.1.m && (bif decide (e_1.M < r_1.1.mLeast) then ((e_1.Kind != (9 : Int)) || (e_1.N == (2 : Int))) else (decide (e_1.M > r_1.1.mMost) && ((e_1.Kind != (9 : Int)) || (e_1.N == (2 : Int)))))))] [] (ac (congrArg AV.bool (andt gg_29 (cfr gg_30 (andf gg_32))) : (.bool false : AV) = .bool (r_1.1.m && (bif decide (e_1.M < r_1.1.mLeast) then ((e_1.Kind != (9 : Int)) || (e_1.N == (2 : Int))) else (decide (e_1.M > r_1.1.mMost) && ((e_1.Kind != (9 : Int)) || (e_1.N == (2 : Int))))))) an))⟩
  ·refine rg [(3, Hg), (4, Hg), (5, Hg), (6, Hg), (7, Hg), (8, Hg), (14, Hg), (15, Hf), (17, Hg), (18, Hg), (19, Hg), (20, Hg), (24, Hg), (25, Hf)] [100] [] 2 [.bool false] [] hmix (ac gg_29 (ac gg_29 (ac gg_29 (ac gg_29 (ac gg_29 (ac gg_29 (ac gg_29 (ac gg_29 (ac (rfl : false = !true) (ac (rfl : false = !true) (ac (rfl : false = !true) (ac (rfl : false = !true) (ac (rfl : false = !true) (ar false an)))))))))))))) ?_
   exact ⟨rfl, (sw [] [] [.a 100 (.bool (r_1.1.m && (bif decide (e_1.M < r_1.1.mLeast) then ((e_1.Kind != (9 : Int)) || (e_1.N == (2 : Int))) else (decide (e_1.M > r_1.1.mMost) && ((e_1.Kind != (9 : Int)) || (e_1.N == (2 : Int)))))))] [] (ac (congrArg AV.bool (andf gg_29) : (.bool false : AV) = .bool (r_1.1.m && (bif decide (e_1.M < r_1.1.mLeast) then ((e_1.Kind != (9 : Int)) || (e_1.N == (2 : Int))) else (decide (e_1.M > r_1.1.mMost) && ((e_1.Kind != (9 : Int)) || (e_1.N == (2 : Int))))))) an))⟩
 refine cd 100 (r_1.1.m && (bif decide (e_1.M < r_1.1.mLeast) then ((e_1.Kind != (9 : Int)) || (e_1.N == (2 : Int))) else (decide (e_1.M > r_1.1.mMost) && ((e_1.Kind != (9 : Int)) || (e_1.N == (2 : Int)))))) ?_ ?_
 ·intro g_6; replace h := cond_t g_6 h
  refine sr [] [2] [] 0 [Ii 2] [] hmix an ?_
  refine rt ?_
  cases h
  exact ⟨.inr rfl, Nat.le_of_ble_eq_true rfl, by kernel_rfl⟩
 intro g_6; replace h := cond_f g_6 h
 refine sk ?_
 refine sr [] [2] [] 0 [Ii 0] [] hmix an ?_
 refine rt ?_
 cases h
 exact ⟨.inr rfl, Nat.le_of_ble_eq_true rfl, by kernel_rfl⟩

theorem event_CheckAll_ok (F : Nat) (l_1 : List (T_api_Event)) (r : Int) (h : event_CheckAll F l_1 = some r) : TripleG prog 26 [] [] [.sl false 6 (Mp e_T_api_Event l_1)] [] (Ii r) := by
 refine triple_intro (fn := Go.Proofs.Try.f26) (code := codeOf Go.Proofs.Try.f26) (by kernel_rfl) (by kernel_rfl) (Nat.le_of_ble_eq_true (by kernel_rfl)) ?_
 unfold event_CheckAll at h
 refine sr [] [0] [] 0 [.sl false 6 (Mp e_T_api_Event l_1)] [] hmix an ?_
 refine sq ?_
 refine sr [(1, { n := (l_1).length })] [0, 6, 7, 8] [] 0 [.sl false 6 (Mp e_T_api_Event l_1), .sl false 6 (Mp e_T_api_Event l_1), Ii (lN (l_1)), Ii 0] [] hmix (ac (vc_len _ : ((Mp e_T_api_Event l_1)).length = (l_1).length) an) ?_
 obtain ⟨o_1, h_1, h⟩ := bind_some h
 refine aw_conv (K1 := (fun e st' => match o_1 with | (.inl q0) => e = .normal ∧ Sub 0 st' (mk [] [] 0) | (.inr q1) => e = .ret ∧ FinR prog Go.Proofs.Try.f26 0 [] (Ii q1) st')) ?_ ?_
 ·replace h := h_1
  refine aw_block (id := 0) (by kernel_rfl) ?_
  refine wk [] [] [.s 0, .s 6, .s 7, .s 8] [] [(0, .sl false 6 (Mp e_T_api_Event l_1)), (6, .sl false 6 (Mp e_T_api_Event l_1)), (7, Ii (lN (l_1))), (8, Ii 0)] [] an ?_
  refine aw_loopF (fun n st => ∃ (v_1 : Int), st = mk [(0, .sl false 6 (Mp e_T_api_Event l_1)), (6, .sl false 6 (Mp e_T_api_Event l_1)), (7, Ii (lN (l_1))), (8, Ii v_1)] [] 0 ∧ event_CheckAll_L1 F l_1 n v_1 = some o_1) F (by kernel_rfl) ⟨_, rfl, h⟩ ?_ ?_
  ·rintro _ ⟨_, _, h⟩; exact none_ne (h : (none : Option (Unit ⊕ Int)) = some o_1)
  rintro n_1 _ ⟨v_1, rfl, h⟩
  replace h : event_CheckAll_L1_body F l_1 (event_CheckAll_L1 F l_1 n_1) v_1 = some o_1 := h
  unfold event_CheckAll_L1_body at h
  refine sr [] [0, 6, 7, 8, 9] [] 0 [.sl false 6 (Mp e_T_api_Event l_1), .sl false 6 (Mp e_T_api_Event l_1), Ii (lN (l_1)), Ii v_1, .bool (decide (v_1 < (lN (l_1))))] [] hmix an ?_
  refine sq ?_
  refine cd 9 (decide (v_1 < (lN (l_1)))) ?_ ?_
  rotate_left
  ·intro g_1; replace h := cond_f g_1 h
   refine aw_exit (id := 0) (by kernel_rfl) ?_
   cases h
   exact ⟨rfl, (sw [] [] [] [] an)⟩
  intro g_1; replace h := cond_t g_1 h
  refine sk ?_
  refine sq ?_
  refine aw_block (id := 1) (by kernel_rfl) ?_
  refine sq ?_
  obtain ⟨x_1, h_2, h⟩ := bind_some h
  refine rg [(1, { av := e_T_api_Event x_1 }), (3, { id := 0 })] [0, 3, 4, 6, 7, 8] [0] 1 [.sl false 6 (Mp e_T_api_Event l_1), Ii v_1, Pp 0, .sl false 6 (Mp e_T_api_Event l_1), Ii (lN (l_1)), Ii v_1] [Vb 33 (v_T_api_Event x_1)] hmix (ac (vc_idx h_2 : idxA (Mp e_T_api_Event l_1) v_1 = some (e_T_api_Event x_1)) an) ?_
  refine sq ?_
  refine sq ?_
  obtain ⟨r_1, h_3, h⟩ := bind_some h
  refine rg [(1, { av := Ii r_1, l := [e_T_api_Event x_1] })] [0, 3, 4, 5, 6, 7, 8] [0] 1 [.sl false 6 (Mp e_T_api_Event l_1), Ii v_1, Pp 0, Ii r_1, .sl false 6 (Mp e_T_api_Event l_1), Ii (lN (l_1)), Ii v_1] [Vb 33 (v_T_api_Event x_1)] hmix (ar ([e_T_api_Event x_1] : List AV) (ac (rfl : ([] : List BoxSt) = []) (ac (event_Check_ok F x_1 r_1 h_3 : TripleG prog 48 [] [] [e_T_api_Event x_1] [] (Ii r_1)) an))) ?_
  refine sr [] [0, 3, 4, 5, 6, 7, 8, 16] [0] 1 [.sl false 6 (Mp e_T_api_Event l_1), Ii v_1, Pp 0, Ii r_1, .sl false 6 (Mp e_T_api_Event l_1), Ii (lN (l_1)), Ii v_1, .bool (r_1 != (0 : Int))] [Vb 33 (v_T_api_Event x_1)] hmix an ?_
  refine cd 16 (r_1 != (0 : Int)) ?_ ?_
  ·intro g_2; replace h := cond_t g_2 h
   refine sr [] [2] [] 1 [Ii r_1] [] hmix an ?_
   refine rt ?_
   cases h
   exact ⟨rfl, Nat.le_of_ble_eq_true rfl, by kernel_rfl⟩
  intro g_2; replace h := cond_f g_2 h
  refine sk ?_
  refine sq ?_
  obtain ⟨p_1, h_5, h⟩ := bind_some h
  refine aw_mid (mk [(0, .sl false 6 (Mp e_T_api_Event l_1)), (6, .sl false 6 (Mp e_T_api_Event l_1)), (7, Ii (lN (l_1))), (8, Ii v_1), (30, .bool p_1)] [] 0) ?_ ?_
  ·replace h := h_5
   rcases bft (decide (v_1 > (0 : Int))) with gg_4 | gg_4
   ·replace h := cond_t gg_4 h
    obtain ⟨x_2, h_4, h⟩ := bind_some h
    refine rg [(8, { av := e_T_api_Event x_2 }), (12, Ht)] [0, 6, 7, 8, 21, 22, 23, 24, 25, 26, 27, 28, 29, 30] [0] 1 [.sl false 6 (Mp e_T_api_Event l_1), .sl false 6 (Mp e_T_api_Event l_1), Ii (lN (l_1)), Ii v_1, Pp 0, Ii x_1.At, .sl false 6 (Mp e_T_api_Event l_1), Ii v_1, Ii (w_i64 (v_1 - (1 : Int))), .ref (e_T_api_Event x_2), .ref (Ii x_2.At), Ii x_2.At, .bool (decide (x_1.At < x_2.At)), .bool (decide (x_1.At < x_2.At))] [Vb 33 (v_T_api_Event x_1)] hmix (ac gg_4 (ac gg_4 (ac gg_4 (ac gg_4 (ac gg_4 (ac gg_4 (ac (vc_idx h_4 : idxA (Mp e_T_api_Event l_1) (w_i64 (v_1 - (1 : Int))) = some (e_T_api_Event x_2)) (ac gg_4 (ac gg_4 (ac gg_4 (ac gg_4 an))))))))))) ?_
    cases h
    exact ⟨rfl, (sw [] [] [.s 0, .s 6, .s 7, .s 8, .s 30] [] an)⟩
   ·replace h := cond_f gg_4 h
    refine rg [(3, Hg), (4, Hg), (5, Hg), (6, Hg), (7, Hg), (8, Hg), (9, Hg), (10, Hg), (11, Hg), (12, Hf)] [0, 6, 7, 8, 21, 22, 23, 24, 25, 26, 27, 28, 29, 30] [] 1 [.sl false 6 (Mp e_T_api_Event l_1), .sl false 6 (Mp e_T_api_Event l_1), Ii (lN (l_1)), Ii v_1, .tuple [], .tuple [], .tuple [], .tuple [], .tuple [], .tuple [], .tuple [], .tuple [], .tuple [], .bool false] [] hmix (ac gg_4 (ac gg_4 (ac gg_4 (ac gg_4 (ac gg_4 (ac gg_4 (ac gg_4 (ac gg_4 (ac gg_4 (ac gg_4 an)))))))))) ?_
    cases h
    exact ⟨rfl, (sw [] [] [.s 0, .s 6, .s 7, .s 8, .s 30] [] an)⟩
  refine cd 30 p_1 ?_ ?_
  rotate_left
  ·intro g_3; replace h := cond_f g_3 h
   refine sk ?_
   refine rg [] [0, 6, 7, 8] [] 0 [.sl false 6 (Mp e_T_api_Event l_1), .sl false 6 (Mp e_T_api_Event l_1), Ii (lN (l_1)), Ii (w_i64 (v_1 + (1 : Int)))] [] hmix an ?_
   exact ⟨_, (sw [] [] [.s 0, .s 6, .s 7, .s 8] [] an), _, rfl, h⟩
  intro g_3; replace h := cond_t g_3 h
  refine sr [] [2] [] 0 [Ii 11] [] hmix an ?_
  refine rt ?_
  cases h
  exact ⟨rfl, Nat.le_of_ble_eq_true rfl, by kernel_rfl⟩
 intro e st1 hk
 rcases o_1 with q_1 | q_2
 rotate_left
 ·obtain ⟨rfl, hf⟩ := hk
  cases h
  exact ⟨st1, Sub.refl _ _, .inr rfl, hf⟩
 obtain ⟨rfl, hs⟩ := hk
 refine ⟨_, hs, ?_⟩
 refine sr [] [2] [] 0 [Ii 0] [] hmix an ?_
 refine rt ?_
 cases h
 exact ⟨.inr rfl, Nat.le_of_ble_eq_true rfl, by kernel_rfl⟩

theorem packet_Check_ok (F : Nat) (p_1 : T_api_Packet) (r : Int) (h : packet_Check F p_1 = some r) : TripleG prog 13 [] [] [e_T_api_Packet p_1] [] (Ii r) := by
 refine triple_intro (fn := Go.Proofs.Try.f13) (code := codeOf Go.Proofs.Try.f13) (by kernel_rfl) (by kernel_rfl) (Nat.le_of_ble_eq_true (by kernel_rfl)) ?_
 unfold packet_Check at h
 refine sr [(0, { id := 0 })] [1] [0] 1 [Pp 0] [Vb 24 (v_T_api_Packet p_1)] hmix an ?_
 refine sq ?_
 refine sr [(6, { id := 1 })] [1, 11, 12, 13] [0, 1] 2 [Pp 0, .own 1 3, Ii ((3 : Nat) : Int), Ii 0] [Vb 24 (v_T_api_Packet p_1), Rb 3 1 (Mi ([p_1.Thread, p_1.Serial, p_1.Lost] : List Int))] hmix an ?_
 obtain ⟨o_1, h_1, h⟩ := bind_some h
 refine aw_conv (K1 := (fun e st' => match o_1 with | (.inl q0) => e = .normal ∧ Sub 0 st' (mk [(1, Pp 0)] [(0, Vb 24 (v_T_api_Packet p_1))] 1) | (.inr q1) => e = .ret ∧ FinR prog Go.Proofs.Try.f13 0 [] (Ii q1) st')) ?_ ?_
 ·replace h := h_1
  refine aw_block (id := 0) (by kernel_rfl) ?_
  refine wk [0, 1] [] [.s 1, .a 11 (.own 1 ((([p_1.Thread, p_1.Serial, p_1.Lost] : List Int)).length)), .s 12, .s 13] [.s 0, .s 1] [(1, Pp 0), (11, .own 1 ((([p_1.Thread, p_1.Serial, p_1.Lost] : List Int)).length)), (12, Ii ((3 : Nat) : Int)), (13, Ii 0)] [(0, Vb 24 (v_T_api_Packet p_1)), (1, Rb 3 1 (Mi ([p_1.Thread, p_1.Serial, p_1.Lost] : List Int)))] (ac (congrArg (AV.own _) (by first | (simp; done) | (simp; omega)) : (.own 1 3 : AV) = .own 1 ((([p_1.Thread, p_1.Serial, p_1.Lost] : List Int)).length)) an) ?_
  refine aw_loopF (fun n st => ∃ (v_1 : Int), st = mk [(1, Pp 0), (11, .own 1 ((([p_1.Thread, p_1.Serial, p_1.Lost] : List Int)).length)), (12, Ii ((3 : Nat) : Int)), (13, Ii v_1)] [(0, Vb 24 (v_T_api_Packet p_1)), (1, Rb 3 1 (Mi ([p_1.Thread, p_1.Serial, p_1.Lost] : List Int)))] 2 ∧ packet_Check_L1 F p_1 n v_1 = some o_1) F (by kernel_rfl) ⟨_, rfl, h⟩ ?_ ?_
  ·rintro _ ⟨_, _, h⟩; exact none_ne (h : (none : Option (Unit ⊕ Int)) = some o_1)
  rintro n_1 _ ⟨v_1, rfl, h⟩
  replace h : packet_Check_L1_body F p_1 (packet_Check_L1 F p_1 n_1) v_1 = some o_1 := h
  unfold packet_Check_L1_body at h
  refine sr [] [1, 11, 12, 13, 14] [0, 1] 2 [Pp 0, .own 1 ((([p_1.Thread, p_1.Serial, p_1.Lost] : List Int)).length), Ii ((3 : Nat) : Int), Ii v_1, .bool (decide (v_1 < ((3 : Nat) : Int)))] [Vb 24 (v_T_api_Packet p_1), Rb 3 1 (Mi ([p_1.Thread, p_1.Serial, p_1.Lost] : List Int))] hmix an ?_
  refine sq ?_
  refine cd 14 (decide (v_1 < ((3 : Nat) : Int))) ?_ ?_
  rotate_left
  ·intro g_1; replace h := cond_f g_1 h
   refine aw_exit (id := 0) (by kernel_rfl) ?_
   cases h
   exact ⟨rfl, (sw [0] [] [.s 1] [.s 0] an)⟩
  intro g_1; replace h := cond_t g_1 h
  refine sk ?_
  refine sq ?_
  refine aw_block (id := 1) (by kernel_rfl) ?_
  refine sq ?_
  obtain ⟨x_1, h_2, h⟩ := bind_some h
  refine rg [(1, { av := Ii x_1 })] [1, 4, 11, 12, 13] [0, 1] 2 [Pp 0, Ii x_1, .own 1 ((([p_1.Thread, p_1.Serial, p_1.Lost] : List Int)).length), Ii ((3 : Nat) : Int), Ii v_1] [Vb 24 (v_T_api_Packet p_1), Rb 3 1 (Mi ([p_1.Thread, p_1.Serial, p_1.Lost] : List Int))] hmix (ac (idxL_lo h_2 : (0 : Int) ≤ v_1) (ac (by first | (simp; done) | simpa using idxL_hi h_2 : v_1 < (((([p_1.Thread, p_1.Serial, p_1.Lost] : List Int)).length : Nat) : Int)) (ac (vc_get h_2 : (Mi ([p_1.Thread, p_1.Serial, p_1.Lost] : List Int))[(v_1).toNat]? = some (Ii x_1)) an))) ?_
  refine sq ?_
  refine aw_mid (mk [(1, Pp 0), (11, .own 1 ((([p_1.Thread, p_1.Serial, p_1.Lost] : List Int)).length)), (12, Ii ((3 : Nat) : Int)), (13, Ii v_1), (22, .bool (decide (x_1 < (0 : Int)) || decide (x_1 > (1000000000000000 : Int))))] [(0, Vb 24 (v_T_api_Packet p_1)), (1, Rb 3 1 (Mi ([p_1.Thread, p_1.Serial, p_1.Lost] : List Int)))] 2) ?_ ?_
  ·rcases bft (decide (x_1 < (0 : Int))) with gg_4 | gg_4
   ·refine rg [(3, Hg), (4, Hg), (5, Ht)] [1, 11, 12, 13, 20, 21, 22] [0, 1] 2 [Pp 0, .own 1 ((([p_1.Thread, p_1.Serial, p_1.Lost] : List Int)).length), Ii ((3 : Nat) : Int), Ii v_1, .tuple [], .tuple [], .bool true] [Vb 24 (v_T_api_Packet p_1), Rb 3 1 (Mi ([p_1.Thread, p_1.Serial, p_1.Lost] : List Int))] hmix (ac gg_4 (ac gg_4 (ac gg_4 an))) ?_
    exact ⟨rfl, (sw [0, 1] [] [.s 1, .s 11, .s 12, .s 13, .a 22 (.bool (decide (x_1 < (0 : Int)) || decide (x_1 > (1000000000000000 : Int))))] [.s 0, .s 1] (ac (congrArg AV.bool (ort gg_4) : (.bool true : AV) = .bool (decide (x_1 < (0 : Int)) || decide (x_1 > (1000000000000000 : Int)))) an))⟩
   ·refine rg [(5, Hf)] [1, 11, 12, 13, 20, 21, 22] [0, 1] 2 [Pp 0, .own 1 ((([p_1.Thread, p_1.Serial, p_1.Lost] : List Int)).length), Ii ((3 : Nat) : Int), Ii v_1, Ii x_1, .bool (decide (x_1 > (1000000000000000 : Int))), .bool (decide (x_1 > (1000000000000000 : Int)))] [Vb 24 (v_T_api_Packet p_1), Rb 3 1 (Mi ([p_1.Thread, p_1.Serial, p_1.Lost] : List Int))] hmix (ac gg_4 (ac gg_4 (ac gg_4 an))) ?_
    exact ⟨rfl, (sw [0, 1] [] [.s 1, .s 11, .s 12, .s 13, .a 22 (.bool (decide (x_1 < (0 : Int)) || decide (x_1 > (1000000000000000 : Int))))] [.s 0, .s 1] (ac (congrArg AV.bool (orf gg_4 rfl) : (.bool (decide (x_1 > (1000000000000000 : Int))) : AV) = .bool (decide (x_1 < (0 : Int)) || decide (x_1 > (1000000000000000 : Int)))) an))⟩
  refine cd 22 (decide (x_1 < (0 : Int)) || decide (x_1 > (1000000000000000 : Int))) ?_ ?_
  rotate_left
  ·intro g_2; replace h := cond_f g_2 h
   refine sk ?_
   refine rg [] [1, 11, 12, 13] [0, 1] 2 [Pp 0, .own 1 ((([p_1.Thread, p_1.Serial, p_1.Lost] : List Int)).length), Ii ((3 : Nat) : Int), Ii (w_i64 (v_1 + (1 : Int)))] [Vb 24 (v_T_api_Packet p_1), Rb 3 1 (Mi ([p_1.Thread, p_1.Serial, p_1.Lost] : List Int))] hmix an ?_
   exact ⟨_, (sw [0, 1] [] [.s 1, .s 11, .s 12, .s 13] [.s 0, .s 1] an), _, rfl, h⟩
  intro g_2; replace h := cond_t g_2 h
  refine sr [] [2] [] 2 [Ii 2] [] hmix an ?_
  refine rt ?_
  cases h
  exact ⟨rfl, Nat.le_of_ble_eq_true rfl, by kernel_rfl⟩
 intro e st1 hk
 rcases o_1 with q_1 | q_2
 rotate_left
 ·obtain ⟨rfl, hf⟩ := hk
  cases h
  exact ⟨st1, Sub.refl _ _, .inr rfl, hf⟩
 obtain ⟨rfl, hs⟩ := hk
 refine ⟨_, hs, ?_⟩
 refine sq ?_
 refine aw_block (id := 2) (by kernel_rfl) ?_
 refine sq ?_
 refine sr [] [1, 24] [0] 1 [Pp 0, .bool (decide (p_1.Lost > p_1.Serial))] [Vb 24 (v_T_api_Packet p_1)] hmix an ?_
 obtain ⟨o_2, h_3, h⟩ := bind_some h
 refine aw_mid (mk [(1, Pp 0), (24, .bool o_2)] [(0, Vb 24 (v_T_api_Packet p_1))] 1) ?_ ?_
 ·replace h := h_3
  refine cd 24 (decide (p_1.Lost > p_1.Serial)) ?_ ?_
  ·intro g_3; replace h := cond_t g_3 h
   refine sk ?_
   cases h
   exact ⟨rfl, (sw [0] [] [.s 1, .s 24] [.s 0] an)⟩
  intro g_3; replace h := cond_f g_3 h
  refine rg [(4, { n := (p_1.Events).length })] [1, 24] [0] 1 [Pp 0, .bool (decide ((w_i64 (p_1.Serial + (lN (p_1.Events)))) > (1000000000000000 : Int)))] [Vb 24 (v_T_api_Packet p_1)] hmix (ac (vc_len _ : ((Mp e_T_api_Event p_1.Events)).length = (p_1.Events).length) an) ?_
  cases h
  exact ⟨rfl, (sw [0] [] [.s 1, .s 24] [.s 0] an)⟩
 refine cd 24 o_2 ?_ ?_
 ·intro g_4; replace h := cond_t g_4 h
  refine sr [] [2] [] 1 [Ii 2] [] hmix an ?_
  refine rt ?_
  cases h
  exact ⟨.inr rfl, Nat.le_of_ble_eq_true rfl, by kernel_rfl⟩
 intro g_4; replace h := cond_f g_4 h
 refine sr [(2, { n := (p_1.Events).length })] [1, 37] [0] 1 [Pp 0, .bool ((lN (p_1.Events)) == (0 : Int))] [Vb 24 (v_T_api_Packet p_1)] hmix (ac (vc_len _ : ((Mp e_T_api_Event p_1.Events)).length = (p_1.Events).length) an) ?_
 refine cd 37 ((lN (p_1.Events)) == (0 : Int)) ?_ ?_
 ·intro g_5; replace h := cond_t g_5 h
  refine sr [] [2] [] 1 [Ii 8] [] hmix an ?_
  refine rt ?_
  cases h
  exact ⟨.inr rfl, Nat.le_of_ble_eq_true rfl, by kernel_rfl⟩
 intro g_5; replace h := cond_f g_5 h
 refine sr [(2, { n := (p_1.Events).length })] [1, 42] [0] 1 [Pp 0, .bool (decide ((lN (p_1.Events)) > (1000 : Int)))] [Vb 24 (v_T_api_Packet p_1)] hmix (ac (vc_len _ : ((Mp e_T_api_Event p_1.Events)).length = (p_1.Events).length) an) ?_
 refine cd 42 (decide ((lN (p_1.Events)) > (1000 : Int))) ?_ ?_
 ·intro g_6; replace h := cond_t g_6 h
  refine sr [] [2] [] 1 [Ii 7] [] hmix an ?_
  refine rt ?_
  cases h
  exact ⟨.inr rfl, Nat.le_of_ble_eq_true rfl, by kernel_rfl⟩
 intro g_6; replace h := cond_f g_6 h
 refine sk ?_
 refine sq ?_
 obtain ⟨r_1, h_4, h⟩ := bind_some h
 refine rg [(2, { av := Ii r_1, l := [.sl false 6 (Mp e_T_api_Event p_1.Events)] })] [2] [] 1 [Ii r_1] [] hmix (ar ([.sl false 6 (Mp e_T_api_Event p_1.Events)] : List AV) (ac (rfl : ([] : List BoxSt) = []) (ac (event_CheckAll_ok F p_1.Events r_1 h_4 : TripleG prog 26 [] [] [.sl false 6 (Mp e_T_api_Event p_1.Events)] [] (Ii r_1)) an))) ?_
 refine rt ?_
 cases h
 exact ⟨.inr rfl, Nat.le_of_ble_eq_true rfl, by kernel_rfl⟩

theorem intern_checkNames_ok (F : Nat) (names_1 : List (List Int)) (r : Int) (h : intern_checkNames F names_1 = some r) : TripleG prog 63 [] [] [.sl false 1 (Ms names_1)] [] (Ii r) := by
 refine triple_intro (fn := Go.Proofs.Try.f63) (code := codeOf Go.Proofs.Try.f63) (by kernel_rfl) (by kernel_rfl) (Nat.le_of_ble_eq_true (by kernel_rfl)) ?_
 unfold intern_checkNames at h
 refine sr [] [0] [] 0 [.sl false 1 (Ms names_1)] [] hmix an ?_
 refine sr [(0, { id := 0, mag := false, mks := [.str] })] [0, 3] [0] 1 [.sl false 1 (Ms names_1), .mp 0] [.live (.map false [.str] [])] hmix an ?_
 refine sq ?_
 refine sr [(1, { n := (names_1).length })] [3, 8, 9, 10] [0] 1 [.mp 0, .sl false 1 (Ms names_1), Ii (lN (names_1)), Ii 0] [.live (.map false [.str] [])] hmix (ac (vc_len _ : ((Ms names_1)).length = (names_1).length) an) ?_
 obtain ⟨o_1, h_1, h⟩ := bind_some h
 refine aw_conv (K1 := (fun e st' => match o_1 with | (.inl q0) => e = .normal ∧ Sub 0 st' (mk [] [] 0) | (.inr q1) => e = .ret ∧ FinR prog Go.Proofs.Try.f63 0 [] (Ii q1) st')) ?_ ?_
 ·replace h := h_1
  refine aw_block (id := 0) (by kernel_rfl) ?_
  refine wk [0] [] [.s 3, .s 8, .s 9, .s 10] [.s 0] [(3, .mp 0), (8, .sl false 1 (Ms names_1)), (9, Ii (lN (names_1))), (10, Ii 0)] [(0, .live (.map false [.str] []))] an ?_
  refine aw_loopF (fun n st => ∃ (v_1 : Int), ∃ (row_1 : List ((List Int) × Bool)), st = mk [(3, .mp 0), (8, .sl false 1 (Ms names_1)), (9, Ii (lN (names_1))), (10, Ii v_1)] [(0, .live (.map false [.str] (List.map (mpE AV.str AV.bool) row_1)))] 1 ∧ intern_checkNames_L1 F names_1 n v_1 row_1 = some o_1) F (by kernel_rfl) ⟨_, _, rfl, h⟩ ?_ ?_
  ·rintro _ ⟨_, _, _, h⟩; exact none_ne (h : (none : Option (Unit ⊕ Int)) = some o_1)
  rintro n_1 _ ⟨v_1, row_1, rfl, h⟩
  replace h : intern_checkNames_L1_body F names_1 (intern_checkNames_L1 F names_1 n_1) v_1 row_1 = some o_1 := h
  unfold intern_checkNames_L1_body at h
  refine sr [] [3, 8, 9, 10, 11] [0] 1 [.mp 0, .sl false 1 (Ms names_1), Ii (lN (names_1)), Ii v_1, .bool (decide (v_1 < (lN (names_1))))] [.live (.map false [.str] (List.map (mpE AV.str AV.bool) row_1))] hmix an ?_
  refine sq ?_
  refine cd 11 (decide (v_1 < (lN (names_1)))) ?_ ?_
  rotate_left
  ·intro g_1; replace h := cond_f g_1 h
   refine aw_exit (id := 0) (by kernel_rfl) ?_
   cases h
   exact ⟨rfl, (sw [] [] [] [] an)⟩
  intro g_1; replace h := cond_t g_1 h
  refine sk ?_
  refine sq ?_
  refine aw_block (id := 1) (by kernel_rfl) ?_
  refine sq ?_
  obtain ⟨x_1, h_2, h⟩ := bind_some h
  refine rg [(0, { av := .str x_1 })] [3, 5, 8, 9, 10] [0] 1 [.mp 0, .str x_1, .sl false 1 (Ms names_1), Ii (lN (names_1)), Ii v_1] [.live (.map false [.str] (List.map (mpE AV.str AV.bool) row_1))] hmix (ac (vc_idx h_2 : idxA (Ms names_1) v_1 = some (.str x_1)) an) ?_
  refine sq ?_
  refine sq ?_
  obtain ⟨r_1, h_3, h⟩ := bind_some h
  refine rg [(1, { av := Ii r_1, l := [.str x_1] })] [3, 5, 6, 8, 9, 10] [0] 1 [.mp 0, .str x_1, Ii r_1, .sl false 1 (Ms names_1), Ii (lN (names_1)), Ii v_1] [.live (.map false [.str] (List.map (mpE AV.str AV.bool) row_1))] hmix (ar ([.str x_1] : List AV) (ac (rfl : ([] : List BoxSt) = []) (ac (intern_Name_ok F x_1 r_1 h_3 : TripleG prog 78 [] [] [.str x_1] [] (Ii r_1)) an))) ?_
  refine sr [] [3, 5, 6, 8, 9, 10, 17] [0] 1 [.mp 0, .str x_1, Ii r_1, .sl false 1 (Ms names_1), Ii (lN (names_1)), Ii v_1, .bool (r_1 != (0 : Int))] [.live (.map false [.str] (List.map (mpE AV.str AV.bool) row_1))] hmix an ?_
  refine cd 17 (r_1 != (0 : Int)) ?_ ?_
  ·intro g_2; replace h := cond_t g_2 h
   refine sr [] [2] [] 1 [Ii r_1] [] hmix an ?_
   refine rt ?_
   cases h
   exact ⟨rfl, Nat.le_of_ble_eq_true rfl, by kernel_rfl⟩
  intro g_2; replace h := cond_f g_2 h
  refine sk ?_
  refine sq ?_
  refine sr [(2, { av := (.bool ((mget row_1 x_1).getD false)), g := (mget row_1 x_1).isSome })] [3, 5, 8, 9, 10, 21] [0] 1 [.mp 0, .str x_1, .sl false 1 (Ms names_1), Ii (lN (names_1)), Ii v_1, .bool ((mget row_1 x_1).getD false)] [.live (.map false [.str] (List.map (mpE AV.str AV.bool) row_1))] hmix (ac (keyOk_9 : KeyOk prog 9 false [.str]) (ac (mlook_map (f := AV.str) (g := AV.bool) inj_str row_1 x_1 false : MLook (List.map (mpE AV.str AV.bool) row_1) (.str x_1) (.bool false) (.bool ((mget row_1 x_1).getD false)) (mget row_1 x_1).isSome) an)) ?_
  refine cd 21 ((mget row_1 x_1).getD false) ?_ ?_
  ·intro g_3; replace h := cond_t g_3 h
   refine sr [] [2] [] 1 [Ii 4] [] hmix an ?_
   refine rt ?_
   cases h
   exact ⟨rfl, Nat.le_of_ble_eq_true rfl, by kernel_rfl⟩
  intro g_3; replace h := cond_f g_3 h
  refine sk ?_
  obtain ⟨_, h_4, h⟩ := bind_some h; replace h_4 := need_some h_4
  refine rg [(2, { es := (List.map (mpE AV.str AV.bool) (mput row_1 x_1 true)) })] [3, 8, 9, 10] [0] 1 [.mp 0, .sl false 1 (Ms names_1), Ii (lN (names_1)), Ii v_1] [.live (.map false [.str] (List.map (mpE AV.str AV.bool) (mput row_1 x_1 true)))] hmix (ac (keyOk_9 : KeyOk prog 9 false [.str]) (ac (mput_map (f := AV.str) (g := AV.bool) inj_str row_1 x_1 true : MPut (List.map (mpE AV.str AV.bool) row_1) (.str x_1) (.bool true) (List.map (mpE AV.str AV.bool) (mput row_1 x_1 true))) (ac (mlen_lt (l := row_1) h_4 : ((List.map (mpE AV.str AV.bool) row_1) : List (AV × AV)).length < maxLen) an))) ?_
  refine rg [] [3, 8, 9, 10] [0] 1 [.mp 0, .sl false 1 (Ms names_1), Ii (lN (names_1)), Ii (w_i64 (v_1 + (1 : Int)))] [.live (.map false [.str] (List.map (mpE AV.str AV.bool) (mput row_1 x_1 true)))] hmix an ?_
  exact ⟨_, (sw [0] [] [.s 3, .s 8, .s 9, .s 10] [.s 0] an), _, _, rfl, h⟩
 intro e st1 hk
 rcases o_1 with q_1 | q_2
 rotate_left
 ·obtain ⟨rfl, hf⟩ := hk
  cases h
  exact ⟨st1, Sub.refl _ _, .inr rfl, hf⟩
 obtain ⟨rfl, hs⟩ := hk
 refine ⟨_, hs, ?_⟩
 refine sr [] [2] [] 0 [Ii 0] [] hmix an ?_
 refine rt ?_
 cases h
 exact ⟨.inr rfl, Nat.le_of_ble_eq_true rfl, by kernel_rfl⟩

theorem intern_Check_ok (F : Nat) (names_1 : List (List Int)) (stacks_1 : List (Arr2_Int)) (r : Int) (h : intern_Check F names_1 stacks_1 = some r) : TripleG prog 40 [] [] [.sl false 1 (Ms names_1), .sl false 2 (Mp e_Arr2_Int stacks_1)] [] (Ii r) := by
 refine triple_intro (fn := Go.Proofs.Try.f40) (code := codeOf Go.Proofs.Try.f40) (by kernel_rfl) (by kernel_rfl) (Nat.le_of_ble_eq_true (by kernel_rfl)) ?_
 unfold intern_Check at h
 refine sr [] [0, 1] [] 0 [.sl false 1 (Ms names_1), .sl false 2 (Mp e_Arr2_Int stacks_1)] [] hmix an ?_
 refine sq ?_
 refine sq ?_
 refine aw_mid (mk [(0, .sl false 1 (Ms names_1)), (1, .sl false 2 (Mp e_Arr2_Int stacks_1)), (17, .bool (decide ((lN (names_1)) > (1000 : Int)) || decide ((lN (stacks_1)) > (1000 : Int))))] [] 0) ?_ ?_
 ·rcases bft (decide ((lN (names_1)) > (1000 : Int))) with gg_1 | gg_1
  ·refine rg [(1, { n := (names_1).length }), (4, Hg), (5, Hg), (6, Hg), (7, Ht)] [0, 1, 17] [] 0 [.sl false 1 (Ms names_1), .sl false 2 (Mp e_Arr2_Int stacks_1), .bool true] [] hmix (ac (vc_len _ : ((Ms names_1)).length = (names_1).length) (ac gg_1 (ac gg_1 (ac gg_1 (ac gg_1 an))))) ?_
   exact ⟨rfl, (sw [] [] [.s 0, .s 1, .a 17 (.bool (decide ((lN (names_1)) > (1000 : Int)) || decide ((lN (stacks_1)) > (1000 : Int))))] [] (ac (congrArg AV.bool (ort gg_1) : (.bool true : AV) = .bool (decide ((lN (names_1)) > (1000 : Int)) || decide ((lN (stacks_1)) > (1000 : Int)))) an))⟩
  ·refine rg [(1, { n := (names_1).length }), (5, { n := (stacks_1).length }), (7, Hf)] [0, 1, 17] [] 0 [.sl false 1 (Ms names_1), .sl false 2 (Mp e_Arr2_Int stacks_1), .bool (decide ((lN (stacks_1)) > (1000 : Int)))] [] hmix (ac (vc_len _ : ((Ms names_1)).length = (names_1).length) (ac gg_1 (ac gg_1 (ac (vc_len _ : ((Mp e_Arr2_Int stacks_1)).length = (stacks_1).length) (ac gg_1 (ac gg_1 an)))))) ?_
   exact ⟨rfl, (sw [] [] [.s 0, .s 1, .a 17 (.bool (decide ((lN (names_1)) > (1000 : Int)) || decide ((lN (stacks_1)) > (1000 : Int))))] [] (ac (congrArg AV.bool (orf gg_1 rfl) : (.bool (decide ((lN (stacks_1)) > (1000 : Int))) : AV) = .bool (decide ((lN (names_1)) > (1000 : Int)) || decide ((lN (stacks_1)) > (1000 : Int)))) an))⟩
 refine cd 17 (decide ((lN (names_1)) > (1000 : Int)) || decide ((lN (stacks_1)) > (1000 : Int))) ?_ ?_
 ·intro g_1; replace h := cond_t g_1 h
  refine sr [] [4] [] 0 [Ii 7] [] hmix an ?_
  refine rt ?_
  cases h
  exact ⟨.inr rfl, Nat.le_of_ble_eq_true rfl, by kernel_rfl⟩
 intro g_1; replace h := cond_f g_1 h
 refine sk ?_
 refine sq ?_
 refine sq ?_
 obtain ⟨r_1, h_1, h⟩ := bind_some h
 refine rg [(1, { av := Ii r_1, l := [.sl false 1 (Ms names_1)] })] [0, 1, 5] [] 0 [.sl false 1 (Ms names_1), .sl false 2 (Mp e_Arr2_Int stacks_1), Ii r_1] [] hmix (ar ([.sl false 1 (Ms names_1)] : List AV) (ac (rfl : ([] : List BoxSt) = []) (ac (intern_checkNames_ok F names_1 r_1 h_1 : TripleG prog 63 [] [] [.sl false 1 (Ms names_1)] [] (Ii r_1)) an))) ?_
 refine sr [] [0, 1, 5, 21] [] 0 [.sl false 1 (Ms names_1), .sl false 2 (Mp e_Arr2_Int stacks_1), Ii r_1, .bool (r_1 != (0 : Int))] [] hmix an ?_
 refine cd 21 (r_1 != (0 : Int)) ?_ ?_
 ·intro g_2; replace h := cond_t g_2 h
  refine sr [] [4] [] 0 [Ii r_1] [] hmix an ?_
  refine rt ?_
  cases h
  exact ⟨.inr rfl, Nat.le_of_ble_eq_true rfl, by kernel_rfl⟩
 intro g_2; replace h := cond_f g_2 h
 refine sk ?_
 refine sr [(0, { id := 0, mag := true, mks := [.int .i64, .int .i64] })] [0, 1, 6] [0] 1 [.sl false 1 (Ms names_1), .sl false 2 (Mp e_Arr2_Int stacks_1), .mp 0] [.live (.map true [.int .i64, .int .i64] [])] hmix an ?_
 refine sq ?_
 obtain ⟨_, h_2, h⟩ := bind_some h; replace h_2 := need_some h_2
 refine rg [(1, { n := (stacks_1).length }), (2, { id := 1, l := (Mi (List.replicate ((stacks_1).length) (0 : Int))), m := (stacks_1).length, n := (stacks_1).length })] [0, 1, 6, 7] [0, 1] 2 [.sl false 1 (Ms names_1), .sl false 2 (Mp e_Arr2_Int stacks_1), .mp 0, .own 1 ((stacks_1).length)] [.live (.map true [.int .i64, .int .i64] []), Rb 3 1 (Mi (List.replicate ((stacks_1).length) (0 : Int)))] hmix (ac (vc_len _ : ((Mp e_Arr2_Int stacks_1)).length = (stacks_1).length) (ar (lN (stacks_1)) (ar (lN (stacks_1)) (ac (Nat.le_refl _ : ((stacks_1).length) ≤ ((stacks_1).length)) (ac h_2 (ac (vc_rep : (Mi (List.replicate ((stacks_1).length) (0 : Int))) = List.replicate ((stacks_1).length) (Ii 0)) an)))))) ?_
 refine sq ?_
 refine sr [(1, { n := (stacks_1).length })] [0, 6, 7, 27, 28, 29] [0, 1] 2 [.sl false 1 (Ms names_1), .mp 0, .own 1 ((stacks_1).length), .sl false 2 (Mp e_Arr2_Int stacks_1), Ii (lN (stacks_1)), Ii 0] [.live (.map true [.int .i64, .int .i64] []), Rb 3 1 (Mi (List.replicate ((stacks_1).length) (0 : Int)))] hmix (ac (vc_len _ : ((Mp e_Arr2_Int stacks_1)).length = (stacks_1).length) an) ?_
 obtain ⟨o_1, h_3, h⟩ := bind_some h
 refine aw_conv (K1 := (fun e st' => match o_1 with | (.inl q0) => e = .normal ∧ Sub 0 st' (mk [] [] 0) | (.inr q1) => e = .ret ∧ FinR prog Go.Proofs.Try.f40 0 [] (Ii q1) st')) ?_ ?_
 ·replace h := h_3
  refine aw_block (id := 0) (by kernel_rfl) ?_
  refine wk [0, 1] [] [.s 0, .s 6, .a 7 (.own 1 (((List.replicate ((stacks_1).length) (0 : Int))).length)), .s 27, .s 28, .s 29] [.s 0, .s 1] [(0, .sl false 1 (Ms names_1)), (6, .mp 0), (7, .own 1 (((List.replicate ((stacks_1).length) (0 : Int))).length)), (27, .sl false 2 (Mp e_Arr2_Int stacks_1)), (28, Ii (lN (stacks_1))), (29, Ii 0)] [(0, .live (.map true [.int .i64, .int .i64] [])), (1, Rb 3 1 (Mi (List.replicate ((stacks_1).length) (0 : Int))))] (ac (congrArg (AV.own _) List.length_replicate.symm : (.own 1 ((stacks_1).length) : AV) = .own 1 (((List.replicate ((stacks_1).length) (0 : Int))).length)) an) ?_
  refine aw_loopF (fun n st => ∃ (v_1 : Int), ∃ (row_1 : List (Arr2_Int × Bool)), ∃ (row_2 : List Int), st = mk [(0, .sl false 1 (Ms names_1)), (6, .mp 0), (7, .own 1 ((row_2).length)), (27, .sl false 2 (Mp e_Arr2_Int stacks_1)), (28, Ii (lN (stacks_1))), (29, Ii v_1)] [(0, .live (.map true [.int .i64, .int .i64] (List.map (mpE e_Arr2_Int AV.bool) row_1))), (1, Rb 3 1 (Mi row_2))] 2 ∧ intern_Check_L1 F names_1 stacks_1 n v_1 row_1 row_2 = some o_1) F (by kernel_rfl) ⟨_, _, _, rfl, h⟩ ?_ ?_
  ·rintro _ ⟨_, _, _, _, h⟩; exact none_ne (h : (none : Option (Unit ⊕ Int)) = some o_1)
  rintro n_1 _ ⟨v_1, row_1, row_2, rfl, h⟩
  replace h : intern_Check_L1_body F names_1 stacks_1 (intern_Check_L1 F names_1 stacks_1 n_1) v_1 row_1 row_2 = some o_1 := h
  unfold intern_Check_L1_body at h
  refine sr [] [0, 6, 7, 27, 28, 29, 30] [0, 1] 2 [.sl false 1 (Ms names_1), .mp 0, .own 1 ((row_2).length), .sl false 2 (Mp e_Arr2_Int stacks_1), Ii (lN (stacks_1)), Ii v_1, .bool (decide (v_1 < (lN (stacks_1))))] [.live (.map true [.int .i64, .int .i64] (List.map (mpE e_Arr2_Int AV.bool) row_1)), Rb 3 1 (Mi row_2)] hmix an ?_
  refine sq ?_
  refine cd 30 (decide (v_1 < (lN (stacks_1)))) ?_ ?_
  rotate_left
  ·intro g_3; replace h := cond_f g_3 h
   refine aw_exit (id := 0) (by kernel_rfl) ?_
   cases h
   exact ⟨rfl, (sw [] [] [] [] an)⟩
  intro g_3; replace h := cond_t g_3 h
  refine sk ?_
  refine sq ?_
  refine aw_block (id := 1) (by kernel_rfl) ?_
  refine sq ?_
  obtain ⟨x_1, h_4, h⟩ := bind_some h
  refine rg [(1, { av := .agg [Ii x_1.c0, Ii x_1.c1] }), (3, { id := 2 })] [0, 6, 7, 8, 9, 27, 28, 29] [0, 1, 2] 3 [.sl false 1 (Ms names_1), .mp 0, .own 1 ((row_2).length), Ii v_1, Pp 2, .sl false 2 (Mp e_Arr2_Int stacks_1), Ii (lN (stacks_1)), Ii v_1] [.live (.map true [.int .i64, .int .i64] (List.map (mpE e_Arr2_Int AV.bool) row_1)), Rb 3 1 (Mi row_2), Vb 57 [Ii x_1.c0, Ii x_1.c1]] hmix (ac (vc_idx h_4 : idxA (Mp e_Arr2_Int stacks_1) v_1 = some (.agg [Ii x_1.c0, Ii x_1.c1])) an) ?_
  refine sq ?_
  refine aw_block (id := 2) (by kernel_rfl) ?_
  refine sq ?_
  refine aw_mid (mk [(0, .sl false 1 (Ms names_1)), (6, .mp 0), (7, .own 1 ((row_2).length)), (8, Ii v_1), (9, Pp 2), (27, .sl false 2 (Mp e_Arr2_Int stacks_1)), (28, Ii (lN (stacks_1))), (29, Ii v_1), (34, .bool (decide (x_1.c0 < (-1 : Int)) || (decide (x_1.c0 ≥ v_1) || (decide (x_1.c1 < (0 : Int)) || decide (x_1.c1 ≥ (lN (names_1)))))))] [(0, .live (.map true [.int .i64, .int .i64] (List.map (mpE e_Arr2_Int AV.bool) row_1))), (1, Rb 3 1 (Mi row_2)), (2, Vb 57 [Ii x_1.c0, Ii x_1.c1])] 3) ?_ ?_
  ·rcases bft (decide (x_1.c0 < (-1 : Int))) with gg_11 | gg_11
   ·refine rg [(4, Hg), (5, Hg), (6, Hg), (7, Hg), (8, Ht), (10, Hg), (11, Hg), (12, Hg), (13, Ht), (15, Hg), (16, Hg), (17, Hg), (18, Hg), (19, Hg), (20, Ht)] [0, 6, 7, 8, 9, 27, 28, 29, 34, 39, 40, 41, 42, 45, 46, 47, 50, 51, 52, 53, 54] [0, 1, 2] 3 [.sl false 1 (Ms names_1), .mp 0, .own 1 ((row_2).length), Ii v_1, Pp 2, .sl false 2 (Mp e_Arr2_Int stacks_1), Ii (lN (stacks_1)), Ii v_1, .bool true, .tuple [], .tuple [], .tuple [], .tuple [], .tuple [], .tuple [], .tuple [], .tuple [], .tuple [], .tuple [], .tuple [], .tuple []] [.live (.map true [.int .i64, .int .i64] (List.map (mpE e_Arr2_Int AV.bool) row_1)), Rb 3 1 (Mi row_2), Vb 57 [Ii x_1.c0, Ii x_1.c1]] hmix (ac (by decide : (0 : Int) ≤ (0 : Int)) (ac (by decide : (0 : Int) < ((2 : Nat) : Int)) (ac gg_11 (ac gg_11 (ac gg_11 (ac gg_11 (ac gg_11 (ax (ax (ax (ar true (ax (ax (ax (ax (ax (ar true an))))))))))))))))) ?_
    exact ⟨rfl, (sw [0, 1, 2] [] [.s 0, .s 6, .s 7, .s 8, .s 9, .s 27, .s 28, .s 29, .a 34 (.bool (decide (x_1.c0 < (-1 : Int)) || (decide (x_1.c0 ≥ v_1) || (decide (x_1.c1 < (0 : Int)) || decide (x_1.c1 ≥ (lN (names_1)))))))] [.s 0, .s 1, .s 2] (ac (congrArg AV.bool (ort gg_11) : (.bool true : AV) = .bool (decide (x_1.c0 < (-1 : Int)) || (decide (x_1.c0 ≥ v_1) || (decide (x_1.c1 < (0 : Int)) || decide (x_1.c1 ≥ (lN (names_1))))))) an))⟩
   ·rcases bft (decide (x_1.c0 ≥ v_1)) with gg_12 | gg_12
    ·refine rg [(8, Hf), (10, Hg), (11, Hg), (12, Hg), (13, Ht), (15, Hg), (16, Hg), (17, Hg), (18, Hg), (19, Hg), (20, Ht)] [0, 6, 7, 8, 9, 27, 28, 29, 34, 39, 40, 41, 42, 45, 46, 47, 50, 51, 52, 53, 54] [0, 1, 2] 3 [.sl false 1 (Ms names_1), .mp 0, .own 1 ((row_2).length), Ii v_1, Pp 2, .sl false 2 (Mp e_Arr2_Int stacks_1), Ii (lN (stacks_1)), Ii v_1, .bool true, Pp 2, Ii x_1.c0, Ii v_1, .bool (decide (x_1.c0 ≥ v_1)), .tuple [], .tuple [], .tuple [], .tuple [], .tuple [], .tuple [], .tuple [], .tuple []] [.live (.map true [.int .i64, .int .i64] (List.map (mpE e_Arr2_Int AV.bool) row_1)), Rb 3 1 (Mi row_2), Vb 57 [Ii x_1.c0, Ii x_1.c1]] hmix (ac (by decide : (0 : Int) ≤ (0 : Int)) (ac (by decide : (0 : Int) < ((2 : Nat) : Int)) (ac gg_11 (ac (by decide : (0 : Int) ≤ (0 : Int)) (ac (by decide : (0 : Int) < ((2 : Nat) : Int)) (ac gg_11 (ac gg_11 (ac gg_11 (ac gg_11 (ac gg_12 (ac gg_12 (ac gg_12 (ac gg_12 (ax (ax (ax (ax (ax (ar true an))))))))))))))))))) ?_
     exact ⟨rfl, (sw [0, 1, 2] [] [.s 0, .s 6, .s 7, .s 8, .s 9, .s 27, .s 28, .s 29, .a 34 (.bool (decide (x_1.c0 < (-1 : Int)) || (decide (x_1.c0 ≥ v_1) || (decide (x_1.c1 < (0 : Int)) || decide (x_1.c1 ≥ (lN (names_1)))))))] [.s 0, .s 1, .s 2] (ac (congrArg AV.bool (orf gg_11 (ort gg_12)) : (.bool true : AV) = .bool (decide (x_1.c0 < (-1 : Int)) || (decide (x_1.c0 ≥ v_1) || (decide (x_1.c1 < (0 : Int)) || decide (x_1.c1 ≥ (lN (names_1))))))) an))⟩
    ·rcases bft (decide (x_1.c1 < (0 : Int))) with gg_13 | gg_13
     ·refine rg [(8, Hf), (13, Hf), (15, Hg), (16, Hg), (17, Hg), (18, Hg), (19, Hg), (20, Ht)] [0, 6, 7, 8, 9, 27, 28, 29, 34, 39, 40, 41, 42, 45, 46, 47, 50, 51, 52, 53, 54] [0, 1, 2] 3 [.sl false 1 (Ms names_1), .mp 0, .own 1 ((row_2).length), Ii v_1, Pp 2, .sl false 2 (Mp e_Arr2_Int stacks_1), Ii (lN (stacks_1)), Ii v_1, .bool true, Pp 2, Ii x_1.c0, Ii v_1, .bool (decide (x_1.c0 ≥ v_1)), .ptr 2 0 0 1, Ii x_1.c1, .bool (decide (x_1.c1 < (0 : Int))), .tuple [], .tuple [], .tuple [], .tuple [], .tuple []] [.live (.map true [.int .i64, .int .i64] (List.map (mpE e_Arr2_Int AV.bool) row_1)), Rb 3 1 (Mi row_2), Vb 57 [Ii x_1.c0, Ii x_1.c1]] hmix (ac (by decide : (0 : Int) ≤ (0 : Int)) (ac (by decide : (0 : Int) < ((2 : Nat) : Int)) (ac gg_11 (ac (by decide : (0 : Int) ≤ (0 : Int)) (ac (by decide : (0 : Int) < ((2 : Nat) : Int)) (ac gg_11 (ac gg_11 (ac gg_11 (ac gg_11 (ac gg_12 (ac (by decide : (0 : Int) ≤ (1 : Int)) (ac (by decide : (1 : Int) < ((2 : Nat) : Int)) (ac gg_12 (ac gg_12 (ac gg_12 (ac gg_13 (ac gg_13 (ac gg_13 (ac gg_13 (ac gg_13 (ac gg_13 an))))))))))))))))))))) ?_
      exact ⟨rfl, (sw [0, 1, 2] [] [.s 0, .s 6, .s 7, .s 8, .s 9, .s 27, .s 28, .s 29, .a 34 (.bool (decide (x_1.c0 < (-1 : Int)) || (decide (x_1.c0 ≥ v_1) || (decide (x_1.c1 < (0 : Int)) || decide (x_1.c1 ≥ (lN (names_1)))))))] [.s 0, .s 1, .s 2] (ac (congrArg AV.bool (orf gg_11 (orf gg_12 (ort gg_13))) : (.bool true : AV) = .bool (decide (x_1.c0 < (-1 : Int)) || (decide (x_1.c0 ≥ v_1) || (decide (x_1.c1 < (0 : Int)) || decide (x_1.c1 ≥ (lN (names_1))))))) an))⟩
     ·refine rg [(8, Hf), (13, Hf), (18, { n := (names_1).length }), (20, Hf)] [0, 6, 7, 8, 9, 27, 28, 29, 34, 39, 40, 41, 42, 45, 46, 47, 50, 51, 52, 53, 54] [0, 1, 2] 3 [.sl false 1 (Ms names_1), .mp 0, .own 1 ((row_2).length), Ii v_1, Pp 2, .sl false 2 (Mp e_Arr2_Int stacks_1), Ii (lN (stacks_1)), Ii v_1, .bool (decide (x_1.c1 ≥ (lN (names_1)))), Pp 2, Ii x_1.c0, Ii v_1, .bool (decide (x_1.c0 ≥ v_1)), .ptr 2 0 0 1, Ii x_1.c1, .bool (decide (x_1.c1 < (0 : Int))), .ptr 2 0 0 1, Ii x_1.c1, .sl false 1 (Ms names_1), Ii (lN (names_1)), .bool (decide (x_1.c1 ≥ (lN (names_1))))] [.live (.map true [.int .i64, .int .i64] (List.map (mpE e_Arr2_Int AV.bool) row_1)), Rb 3 1 (Mi row_2), Vb 57 [Ii x_1.c0, Ii x_1.c1]] hmix (ac (by decide : (0 : Int) ≤ (0 : Int)) (ac (by decide : (0 : Int) < ((2 : Nat) : Int)) (ac gg_11 (ac (by decide : (0 : Int) ≤ (0 : Int)) (ac (by decide : (0 : Int) < ((2 : Nat) : Int)) (ac gg_11 (ac gg_11 (ac gg_11 (ac gg_11 (ac gg_12 (ac (by decide : (0 : Int) ≤ (1 : Int)) (ac (by decide : (1 : Int) < ((2 : Nat) : Int)) (ac gg_12 (ac gg_12 (ac gg_12 (ac gg_13 (ac (by decide : (0 : Int) ≤ (1 : Int)) (ac (by decide : (1 : Int) < ((2 : Nat) : Int)) (ac gg_13 (ac gg_13 (ac gg_13 (ac (vc_len _ : ((Ms names_1)).length = (names_1).length) (ac gg_13 (ac gg_13 an)))))))))))))))))))))))) ?_
      exact ⟨rfl, (sw [0, 1, 2] [] [.s 0, .s 6, .s 7, .s 8, .s 9, .s 27, .s 28, .s 29, .a 34 (.bool (decide (x_1.c0 < (-1 : Int)) || (decide (x_1.c0 ≥ v_1) || (decide (x_1.c1 < (0 : Int)) || decide (x_1.c1 ≥ (lN (names_1)))))))] [.s 0, .s 1, .s 2] (ac (congrArg AV.bool (orf gg_11 (orf gg_12 (orf gg_13 rfl))) : (.bool (decide (x_1.c1 ≥ (lN (names_1)))) : AV) = .bool (decide (x_1.c0 < (-1 : Int)) || (decide (x_1.c0 ≥ v_1) || (decide (x_1.c1 < (0 : Int)) || decide (x_1.c1 ≥ (lN (names_1))))))) an))⟩
  refine cd 34 (decide (x_1.c0 < (-1 : Int)) || (decide (x_1.c0 ≥ v_1) || (decide (x_1.c1 < (0 : Int)) || decide (x_1.c1 ≥ (lN (names_1)))))) ?_ ?_
  ·intro g_4; replace h := cond_t g_4 h
   refine sr [] [4] [] 3 [Ii 2] [] hmix an ?_
   refine rt ?_
   cases h
   exact ⟨rfl, Nat.le_of_ble_eq_true rfl, by kernel_rfl⟩
  intro g_4; replace h := cond_f g_4 h
  refine sr [(2, { av := (.bool ((mget row_1 x_1).getD false)), g := (mget row_1 x_1).isSome })] [0, 6, 7, 8, 9, 27, 28, 29, 56] [0, 1, 2] 3 [.sl false 1 (Ms names_1), .mp 0, .own 1 ((row_2).length), Ii v_1, Pp 2, .sl false 2 (Mp e_Arr2_Int stacks_1), Ii (lN (stacks_1)), Ii v_1, .bool ((mget row_1 x_1).getD false)] [.live (.map true [.int .i64, .int .i64] (List.map (mpE e_Arr2_Int AV.bool) row_1)), Rb 3 1 (Mi row_2), Vb 57 [Ii x_1.c0, Ii x_1.c1]] hmix (ac (keyOk_57 : KeyOk prog 57 true [.int .i64, .int .i64]) (ac (mlook_map (f := e_Arr2_Int) (g := AV.bool) inj_Arr2_Int row_1 x_1 false : MLook (List.map (mpE e_Arr2_Int AV.bool) row_1) (.agg [Ii x_1.c0, Ii x_1.c1]) (.bool false) (.bool ((mget row_1 x_1).getD false)) (mget row_1 x_1).isSome) an)) ?_
  refine cd 56 ((mget row_1 x_1).getD false) ?_ ?_
  ·intro g_5; replace h := cond_t g_5 h
   refine sr [] [4] [] 3 [Ii 4] [] hmix an ?_
   refine rt ?_
   cases h
   exact ⟨rfl, Nat.le_of_ble_eq_true rfl, by kernel_rfl⟩
  intro g_5; replace h := cond_f g_5 h
  refine sk ?_
  refine sq ?_
  obtain ⟨_, h_5, h⟩ := bind_some h; replace h_5 := need_some h_5
  refine rg [(2, { es := (List.map (mpE e_Arr2_Int AV.bool) (mput row_1 x_1 true)) })] [0, 6, 7, 8, 9, 27, 28, 29] [0, 1, 2] 3 [.sl false 1 (Ms names_1), .mp 0, .own 1 ((row_2).length), Ii v_1, Pp 2, .sl false 2 (Mp e_Arr2_Int stacks_1), Ii (lN (stacks_1)), Ii v_1] [.live (.map true [.int .i64, .int .i64] (List.map (mpE e_Arr2_Int AV.bool) (mput row_1 x_1 true))), Rb 3 1 (Mi row_2), Vb 57 [Ii x_1.c0, Ii x_1.c1]] hmix (ac (keyOk_57 : KeyOk prog 57 true [.int .i64, .int .i64]) (ac (mput_map (f := e_Arr2_Int) (g := AV.bool) inj_Arr2_Int row_1 x_1 true : MPut (List.map (mpE e_Arr2_Int AV.bool) row_1) (.agg [Ii x_1.c0, Ii x_1.c1]) (.bool true) (List.map (mpE e_Arr2_Int AV.bool) (mput row_1 x_1 true))) (ac (mlen_lt (l := row_1) h_5 : ((List.map (mpE e_Arr2_Int AV.bool) row_1) : List (AV × AV)).length < maxLen) an))) ?_
  refine sq ?_
  obtain ⟨x_2, h_6, h⟩ := bind_some h
  refine rg [(3, { av := Ii x_2, l := (Mi ((row_2).set ((v_1).toNat) (1 : Int))) })] [0, 6, 7, 8, 9, 27, 28, 29] [0, 1, 2] 3 [.sl false 1 (Ms names_1), .mp 0, .own 1 ((row_2).length), Ii v_1, Pp 2, .sl false 2 (Mp e_Arr2_Int stacks_1), Ii (lN (stacks_1)), Ii v_1] [.live (.map true [.int .i64, .int .i64] (List.map (mpE e_Arr2_Int AV.bool) (mput row_1 x_1 true))), Rb 3 1 (Mi ((row_2).set ((v_1).toNat) (1 : Int))), Vb 57 [Ii x_1.c0, Ii x_1.c1]] hmix (ac (idxL_lo h_6 : (0 : Int) ≤ v_1) (ac (by first | (simp; done) | simpa using idxL_hi h_6 : v_1 < (((row_2).length : Nat) : Int)) (ac (vc_get h_6 : (Mi row_2)[(v_1).toNat]? = some (Ii x_2)) (ac (vc_set _ _ _ : (Mi ((row_2).set ((v_1).toNat) (1 : Int))) = List.set (Mi row_2) ((v_1).toNat) (setElem (Ii x_2) 0 [Ii 1])) an)))) ?_
  refine sq ?_
  refine sr [] [0, 6, 7, 8, 9, 27, 28, 29, 67] [0, 1, 2] 3 [.sl false 1 (Ms names_1), .mp 0, .own 1 ((row_2).length), Ii v_1, Pp 2, .sl false 2 (Mp e_Arr2_Int stacks_1), Ii (lN (stacks_1)), Ii v_1, .bool (x_1.c0 != (-1 : Int))] [.live (.map true [.int .i64, .int .i64] (List.map (mpE e_Arr2_Int AV.bool) (mput row_1 x_1 true))), Rb 3 1 (Mi ((row_2).set ((v_1).toNat) (1 : Int))), Vb 57 [Ii x_1.c0, Ii x_1.c1]] hmix (ac (by decide : (0 : Int) ≤ (0 : Int)) (ac (by decide : (0 : Int) < ((2 : Nat) : Int)) an)) ?_
  obtain ⟨o_2, h_7, h⟩ := bind_some h
  refine aw_mid (mk [(0, .sl false 1 (Ms names_1)), (6, .mp 0), (7, .own 1 ((o_2).length)), (8, Ii v_1), (27, .sl false 2 (Mp e_Arr2_Int stacks_1)), (28, Ii (lN (stacks_1))), (29, Ii v_1)] [(0, .live (.map true [.int .i64, .int .i64] (List.map (mpE e_Arr2_Int AV.bool) (mput row_1 x_1 true)))), (1, Rb 3 1 (Mi o_2))] 2) ?_ ?_
  ·replace h := h_7
   refine cd 67 (x_1.c0 != (-1 : Int)) ?_ ?_
   rotate_left
   ·intro g_6; replace h := cond_f g_6 h
    refine sk ?_
    cases h
    exact ⟨rfl, (sw [0, 1] [] [.s 0, .s 6, .a 7 (.own 1 (((row_2).set ((v_1).toNat) (1 : Int)).length)), .s 8, .s 27, .s 28, .s 29] [.s 0, .s 1] (ac (congrArg (AV.own _) (by first | (simp; done) | (simp; omega)) : (.own 1 ((row_2).length) : AV) = .own 1 (((row_2).set ((v_1).toNat) (1 : Int)).length)) an))⟩
   intro g_6; replace h := cond_t g_6 h
   obtain ⟨x_3, h_8, h⟩ := bind_some h
   obtain ⟨x_4, h_9, h⟩ := bind_some h
   obtain ⟨x_5, h_10, h⟩ := bind_some h
   refine rg [(3, { av := Ii x_3 }), (8, { av := Ii x_4 }), (11, { av := Ii x_5, l := (Mi (((row_2).set ((v_1).toNat) (1 : Int)).set ((v_1).toNat) (w_i64 (x_3 + x_4)))) })] [0, 6, 7, 8, 27, 28, 29] [0, 1] 3 [.sl false 1 (Ms names_1), .mp 0, .own 1 ((row_2).length), Ii v_1, .sl false 2 (Mp e_Arr2_Int stacks_1), Ii (lN (stacks_1)), Ii v_1] [.live (.map true [.int .i64, .int .i64] (List.map (mpE e_Arr2_Int AV.bool) (mput row_1 x_1 true))), Rb 3 1 (Mi (((row_2).set ((v_1).toNat) (1 : Int)).set ((v_1).toNat) (w_i64 (x_3 + x_4))))] hmix (ac (idxL_lo h_8 : (0 : Int) ≤ v_1) (ac (by first | (simp; done) | simpa using idxL_hi h_8 : v_1 < (((row_2).length : Nat) : Int)) (ac (vc_get h_8 : (Mi ((row_2).set ((v_1).toNat) (1 : Int)))[(v_1).toNat]? = some (Ii x_3)) (ac (by decide : (0 : Int) ≤ (0 : Int)) (ac (by decide : (0 : Int) < ((2 : Nat) : Int)) (ac (idxL_lo h_9 : (0 : Int) ≤ x_1.c0) (ac (by first | (simp; done) | simpa using idxL_hi h_9 : x_1.c0 < (((row_2).length : Nat) : Int)) (ac (vc_get h_9 : (Mi ((row_2).set ((v_1).toNat) (1 : Int)))[(x_1.c0).toNat]? = some (Ii x_4)) (ac (idxL_lo h_10 : (0 : Int) ≤ v_1) (ac (by first | (simp; done) | simpa using idxL_hi h_10 : v_1 < (((row_2).length : Nat) : Int)) (ac (vc_get h_10 : (Mi ((row_2).set ((v_1).toNat) (1 : Int)))[(v_1).toNat]? = some (Ii x_5)) (ac (vc_set _ _ _ : (Mi (((row_2).set ((v_1).toNat) (1 : Int)).set ((v_1).toNat) (w_i64 (x_3 + x_4)))) = List.set (Mi ((row_2).set ((v_1).toNat) (1 : Int))) ((v_1).toNat) (setElem (Ii x_5) 0 [Ii (w_i64 (x_3 + x_4))])) an)))))))))))) ?_
   cases h
   exact ⟨rfl, (sw [0, 1] [] [.s 0, .s 6, .a 7 (.own 1 ((((row_2).set ((v_1).toNat) (1 : Int)).set ((v_1).toNat) (w_i64 (x_3 + x_4))).length)), .s 8, .s 27, .s 28, .s 29] [.s 0, .s 1] (ac (congrArg (AV.own _) (by first | (simp; done) | (simp; omega)) : (.own 1 ((row_2).length) : AV) = .own 1 ((((row_2).set ((v_1).toNat) (1 : Int)).set ((v_1).toNat) (w_i64 (x_3 + x_4))).length)) an))⟩
  refine sq ?_
  obtain ⟨x_6, h_11, h⟩ := bind_some h
  refine rg [(3, { av := Ii x_6 })] [0, 6, 7, 27, 28, 29, 83] [0, 1] 2 [.sl false 1 (Ms names_1), .mp 0, .own 1 ((o_2).length), .sl false 2 (Mp e_Arr2_Int stacks_1), Ii (lN (stacks_1)), Ii v_1, .bool (decide (x_6 > (32 : Int)))] [.live (.map true [.int .i64, .int .i64] (List.map (mpE e_Arr2_Int AV.bool) (mput row_1 x_1 true))), Rb 3 1 (Mi o_2)] hmix (ac (idxL_lo h_11 : (0 : Int) ≤ v_1) (ac (by first | (simp; done) | simpa using idxL_hi h_11 : v_1 < (((o_2).length : Nat) : Int)) (ac (vc_get h_11 : (Mi o_2)[(v_1).toNat]? = some (Ii x_6)) an))) ?_
  refine cd 83 (decide (x_6 > (32 : Int))) ?_ ?_
  rotate_left
  ·intro g_7; replace h := cond_f g_7 h
   refine sk ?_
   refine rg [] [0, 6, 7, 27, 28, 29] [0, 1] 2 [.sl false 1 (Ms names_1), .mp 0, .own 1 ((o_2).length), .sl false 2 (Mp e_Arr2_Int stacks_1), Ii (lN (stacks_1)), Ii (w_i64 (v_1 + (1 : Int)))] [.live (.map true [.int .i64, .int .i64] (List.map (mpE e_Arr2_Int AV.bool) (mput row_1 x_1 true))), Rb 3 1 (Mi o_2)] hmix an ?_
   exact ⟨_, (sw [0, 1] [] [.s 0, .s 6, .s 7, .s 27, .s 28, .s 29] [.s 0, .s 1] an), _, _, _, rfl, h⟩
  intro g_7; replace h := cond_t g_7 h
  refine sr [] [4] [] 2 [Ii 7] [] hmix an ?_
  refine rt ?_
  cases h
  exact ⟨rfl, Nat.le_of_ble_eq_true rfl, by kernel_rfl⟩
 intro e st1 hk
 rcases o_1 with q_1 | q_2
 rotate_left
 ·obtain ⟨rfl, hf⟩ := hk
  cases h
  exact ⟨st1, Sub.refl _ _, .inr rfl, hf⟩
 obtain ⟨rfl, hs⟩ := hk
 refine ⟨_, hs, ?_⟩
 refine sr [] [4] [] 0 [Ii 0] [] hmix an ?_
 refine rt ?_
 cases h
 exact ⟨.inr rfl, Nat.le_of_ble_eq_true rfl, by kernel_rfl⟩

theorem record_uses_ok (k_1 : Int) (r : Bool × Bool × Bool × Bool) (h : record_uses k_1 = some r) : TripleG prog 51 [] [] [Ii k_1] [] (.tuple [.bool r.1, .bool r.2.1, .bool r.2.2.1, .bool r.2.2.2]) := by
 refine triple_intro (fn := Go.Proofs.Try.f51) (code := codeOf Go.Proofs.Try.f51) (by kernel_rfl) (by kernel_rfl) (Nat.le_of_ble_eq_true (by kernel_rfl)) ?_
 unfold record_uses at h
 refine sr [] [0] [] 0 [Ii k_1] [] hmix an ?_
 refine sq ?_
 refine aw_mid (mk [(0, Ii k_1), (2, .bool ((k_1 == (1 : Int)) || ((k_1 == (3 : Int)) || (k_1 == (4 : Int)))))] [] 0) ?_ ?_
 ·rcases bft (k_1 == (1 : Int)) with gg_1 | gg_1
  ·refine rg [(3, Hg), (4, Hg), (5, Ht), (7, Hg), (8, Hg), (9, Ht)] [0, 2] [] 0 [Ii k_1, .bool true] [] hmix (ac gg_1 (ac gg_1 (ac gg_1 (ax (ax (ar true an)))))) ?_
   exact ⟨rfl, (sw [] [] [.s 0, .a 2 (.bool ((k_1 == (1 : Int)) || ((k_1 == (3 : Int)) || (k_1 == (4 : Int)))))] [] (ac (congrArg AV.bool (ort gg_1) : (.bool true : AV) = .bool ((k_1 == (1 : Int)) || ((k_1 == (3 : Int)) || (k_1 == (4 : Int))))) an))⟩
  ·rcases bft (k_1 == (3 : Int)) with gg_2 | gg_2
   ·refine rg [(5, Hf), (7, Hg), (8, Hg), (9, Ht)] [0, 2] [] 0 [Ii k_1, .bool true] [] hmix (ac gg_1 (ac gg_1 (ac gg_1 (ac gg_2 (ac gg_2 (ac gg_2 an)))))) ?_
    exact ⟨rfl, (sw [] [] [.s 0, .a 2 (.bool ((k_1 == (1 : Int)) || ((k_1 == (3 : Int)) || (k_1 == (4 : Int)))))] [] (ac (congrArg AV.bool (orf gg_1 (ort gg_2)) : (.bool true : AV) = .bool ((k_1 == (1 : Int)) || ((k_1 == (3 : Int)) || (k_1 == (4 : Int))))) an))⟩
   ·refine rg [(5, Hf), (9, Hf)] [0, 2] [] 0 [Ii k_1, .bool (k_1 == (4 : Int))] [] hmix (ac gg_1 (ac gg_1 (ac gg_1 (ac gg_2 (ac gg_2 (ac gg_2 an)))))) ?_
    exact ⟨rfl, (sw [] [] [.s 0, .a 2 (.bool ((k_1 == (1 : Int)) || ((k_1 == (3 : Int)) || (k_1 == (4 : Int)))))] [] (ac (congrArg AV.bool (orf gg_1 (orf gg_2 rfl)) : (.bool (k_1 == (4 : Int)) : AV) = .bool ((k_1 == (1 : Int)) || ((k_1 == (3 : Int)) || (k_1 == (4 : Int))))) an))⟩
 refine sr [] [0, 2, 3] [] 0 [Ii k_1, .bool ((k_1 == (1 : Int)) || ((k_1 == (3 : Int)) || (k_1 == (4 : Int)))), .bool (decide (k_1 ≥ (4 : Int)))] [] hmix an ?_
 refine sq ?_
 refine aw_mid (mk [(0, Ii k_1), (2, .bool ((k_1 == (1 : Int)) || ((k_1 == (3 : Int)) || (k_1 == (4 : Int))))), (3, .bool (decide (k_1 ≥ (4 : Int)))), (4, .bool ((k_1 == (9 : Int)) || (k_1 == (11 : Int))))] [] 0) ?_ ?_
 ·rcases bft (k_1 == (9 : Int)) with gg_3 | gg_3
  ·refine rg [(3, Hg), (4, Hg), (5, Ht)] [0, 2, 3, 4] [] 0 [Ii k_1, .bool ((k_1 == (1 : Int)) || ((k_1 == (3 : Int)) || (k_1 == (4 : Int)))), .bool (decide (k_1 ≥ (4 : Int))), .bool true] [] hmix (ac gg_3 (ac gg_3 (ac gg_3 an))) ?_
   exact ⟨rfl, (sw [] [] [.s 0, .s 2, .s 3, .a 4 (.bool ((k_1 == (9 : Int)) || (k_1 == (11 : Int))))] [] (ac (congrArg AV.bool (ort gg_3) : (.bool true : AV) = .bool ((k_1 == (9 : Int)) || (k_1 == (11 : Int)))) an))⟩
  ·refine rg [(5, Hf)] [0, 2, 3, 4] [] 0 [Ii k_1, .bool ((k_1 == (1 : Int)) || ((k_1 == (3 : Int)) || (k_1 == (4 : Int)))), .bool (decide (k_1 ≥ (4 : Int))), .bool (k_1 == (11 : Int))] [] hmix (ac gg_3 (ac gg_3 (ac gg_3 an))) ?_
   exact ⟨rfl, (sw [] [] [.s 0, .s 2, .s 3, .a 4 (.bool ((k_1 == (9 : Int)) || (k_1 == (11 : Int))))] [] (ac (congrArg AV.bool (orf gg_3 rfl) : (.bool (k_1 == (11 : Int)) : AV) = .bool ((k_1 == (9 : Int)) || (k_1 == (11 : Int)))) an))⟩
 refine sq ?_
 refine aw_mid (mk [(2, .bool ((k_1 == (1 : Int)) || ((k_1 == (3 : Int)) || (k_1 == (4 : Int))))), (3, .bool (decide (k_1 ≥ (4 : Int)))), (4, .bool ((k_1 == (9 : Int)) || (k_1 == (11 : Int)))), (5, .bool ((k_1 == (5 : Int)) || (k_1 == (11 : Int))))] [] 0) ?_ ?_
 ·rcases bft (k_1 == (5 : Int)) with gg_4 | gg_4
  ·refine rg [(3, Hg), (4, Hg), (5, Ht)] [2, 3, 4, 5] [] 0 [.bool ((k_1 == (1 : Int)) || ((k_1 == (3 : Int)) || (k_1 == (4 : Int)))), .bool (decide (k_1 ≥ (4 : Int))), .bool ((k_1 == (9 : Int)) || (k_1 == (11 : Int))), .bool true] [] hmix (ac gg_4 (ac gg_4 (ac gg_4 an))) ?_
   exact ⟨rfl, (sw [] [] [.s 2, .s 3, .s 4, .a 5 (.bool ((k_1 == (5 : Int)) || (k_1 == (11 : Int))))] [] (ac (congrArg AV.bool (ort gg_4) : (.bool true : AV) = .bool ((k_1 == (5 : Int)) || (k_1 == (11 : Int)))) an))⟩
  ·refine rg [(5, Hf)] [2, 3, 4, 5] [] 0 [.bool ((k_1 == (1 : Int)) || ((k_1 == (3 : Int)) || (k_1 == (4 : Int)))), .bool (decide (k_1 ≥ (4 : Int))), .bool ((k_1 == (9 : Int)) || (k_1 == (11 : Int))), .bool (k_1 == (11 : Int))] [] hmix (ac gg_4 (ac gg_4 (ac gg_4 an))) ?_
   exact ⟨rfl, (sw [] [] [.s 2, .s 3, .s 4, .a 5 (.bool ((k_1 == (5 : Int)) || (k_1 == (11 : Int))))] [] (ac (congrArg AV.bool (orf gg_4 rfl) : (.bool (k_1 == (11 : Int)) : AV) = .bool ((k_1 == (5 : Int)) || (k_1 == (11 : Int)))) an))⟩
 refine sr [] [2, 3, 4, 5] [] 0 [.bool ((k_1 == (1 : Int)) || ((k_1 == (3 : Int)) || (k_1 == (4 : Int)))), .bool (decide (k_1 ≥ (4 : Int))), .bool ((k_1 == (9 : Int)) || (k_1 == (11 : Int))), .bool ((k_1 == (5 : Int)) || (k_1 == (11 : Int)))] [] hmix an ?_
 refine rt ?_
 cases h
 exact ⟨.inr rfl, Nat.le_of_ble_eq_true rfl, by kernel_rfl⟩

theorem codec_number_ok (n_1 : Int) (r : Int) (h : codec_number n_1 = some r) : TripleG prog 77 [] [] [Ii n_1] [] (.int .u64 r) := by
 refine triple_intro (fn := Go.Proofs.Try.f77) (code := codeOf Go.Proofs.Try.f77) (by kernel_rfl) (by kernel_rfl) (Nat.le_of_ble_eq_true (by kernel_rfl)) ?_
 unfold codec_number at h
 refine sr [] [0] [] 0 [Ii n_1] [] hmix an ?_
 refine sr [] [2] [] 0 [.int .u64 (ixor .u64 (ishl .u64 (w_u64 n_1) (1 : Int)) (w_u64 (ishr .i64 n_1 (63 : Int))))] [] hmix (ac (by decide : (0 : Int) ≤ (1 : Int)) (ac (by decide : (0 : Int) ≤ (63 : Int)) an)) ?_
 refine rt ?_
 cases h
 exact ⟨.inr rfl, Nat.le_of_ble_eq_true rfl, by kernel_rfl⟩

theorem codec_PutInt_ok (F : Nat) (b_1 : List (Int)) (n_1 : Int) (r : (List (Int))) (h : codec_PutInt F b_1 n_1 = some r) : TripleG prog 52 [] [] [.sl false 1 (Mb b_1), Ii n_1] [.row 5 1 (Mb r)] (.own 0 ((r).length)) := by
 refine triple_intro (fn := Go.Proofs.Try.f52) (code := codeOf Go.Proofs.Try.f52) (by kernel_rfl) (by kernel_rfl) (Nat.le_of_ble_eq_true (by kernel_rfl)) ?_
 unfold codec_PutInt at h
 refine sr [(0, { id := 0, m := 1 })] [0, 1] [] 1 [.sl false 1 (Mb b_1), Ii n_1] [] hmix an ?_
 refine sr [(0, { b := true, id := 1 })] [0, 1, 5] [1] 2 [.sl false 1 (Mb b_1), Ii n_1, Pp 1] [Rb 107 1 (Mb (List.replicate 10 (0 : Int)))] hmix an ?_
 refine sr [] [0, 1, 5, 6] [1] 2 [.sl false 1 (Mb b_1), Ii n_1, Pp 1, Ii 0] [Rb 107 1 (Mb (List.replicate 10 (0 : Int)))] hmix an ?_
 refine sq ?_
 refine sq ?_
 obtain ⟨r_1, h_1, h⟩ := bind_some h
 refine rg [(1, { av := .int .u64 r_1, l := [Ii n_1] })] [0, 5, 6, 7] [1] 2 [.sl false 1 (Mb b_1), Pp 1, Ii 0, .int .u64 r_1] [Rb 107 1 (Mb (List.replicate 10 (0 : Int)))] hmix (ar ([Ii n_1] : List AV) (ac (rfl : ([] : List BoxSt) = []) (ac (codec_number_ok n_1 r_1 h_1 : TripleG prog 77 [] [] [Ii n_1] [] (.int .u64 r_1)) an))) ?_
 obtain ⟨o_1, h_2, h⟩ := bind_some h
 refine aw_mid (mk [(0, .sl false 1 (Mb b_1)), (5, Pp 0), (6, Ii o_1.1)] [(0, Rb 107 1 (Mb o_1.2))] 1) ?_ ?_
 ·replace h := h_2
  refine aw_block (id := 0) (by kernel_rfl) ?_
  refine wk [1] [] [.s 0, .s 5, .s 6, .s 7] [.s 0] [(0, .sl false 1 (Mb b_1)), (5, Pp 0), (6, Ii 0), (7, .int .u64 r_1)] [(0, Rb 107 1 (Mb (List.replicate 10 (0 : Int))))] an ?_
  refine aw_loopF (fun n st => ∃ (size_1 : Int), ∃ (u_1 : Int), ∃ (row_1 : List Int), st = mk [(0, .sl false 1 (Mb b_1)), (5, Pp 0), (6, Ii size_1), (7, .int .u64 u_1)] [(0, Rb 107 1 (Mb row_1))] 1 ∧ codec_PutInt_L1 F n size_1 u_1 row_1 = some o_1) F (by kernel_rfl) ⟨_, _, _, rfl, h⟩ ?_ ?_
  ·rintro _ ⟨_, _, _, _, h⟩; exact none_ne (h : (none : Option (Int × (List Int))) = some o_1)
  rintro n_2 _ ⟨size_1, u_1, row_1, rfl, h⟩
  replace h : codec_PutInt_L1_body F (codec_PutInt_L1 F n_2) size_1 u_1 row_1 = some o_1 := h
  unfold codec_PutInt_L1_body at h
  refine sq ?_
  refine aw_block (id := 1) (by kernel_rfl) ?_
  refine sq ?_
  obtain ⟨_, h_3, h⟩ := bind_some h; replace h_3 := need_some h_3
  obtain ⟨x_1, h_4, h⟩ := bind_some h
  refine rg [(4, Ht), (5, { av := Iu x_1, l := (Mb ((row_1).set ((size_1).toNat) (w_u8 (iand .u64 u_1 (127 : Int))))) })] [0, 5, 6, 7] [0] 1 [.sl false 1 (Mb b_1), Pp 0, Ii size_1, .int .u64 u_1] [Rb 107 1 (Mb ((row_1).set ((size_1).toNat) (w_u8 (iand .u64 u_1 (127 : Int)))))] hmix (ac h_3.1 (ac h_3.2 (ac (vc_getN h_4 : (Mb row_1)[(size_1).toNat]? = some (Iu x_1)) (ac (vc_set _ _ _ : (Mb ((row_1).set ((size_1).toNat) (w_u8 (iand .u64 u_1 (127 : Int))))) = List.set (Mb row_1) ((size_1).toNat) (setElem (Iu x_1) 0 [Iu (w_u8 (iand .u64 u_1 (127 : Int)))])) an)))) ?_
  refine sr [] [0, 5, 6, 7] [0] 1 [.sl false 1 (Mb b_1), Pp 0, Ii (w_i64 (size_1 + (1 : Int))), .int .u64 u_1] [Rb 107 1 (Mb ((row_1).set ((size_1).toNat) (w_u8 (iand .u64 u_1 (127 : Int)))))] hmix an ?_
  refine sq ?_
  refine sr [] [0, 5, 6, 7, 20] [0] 1 [.sl false 1 (Mb b_1), Pp 0, Ii (w_i64 (size_1 + (1 : Int))), .int .u64 u_1, .bool (decide (u_1 < (128 : Int)))] [Rb 107 1 (Mb ((row_1).set ((size_1).toNat) (w_u8 (iand .u64 u_1 (127 : Int)))))] hmix an ?_
  refine cd 20 (decide (u_1 < (128 : Int))) ?_ ?_
  ·intro g_1; replace h := cond_t g_1 h
   refine aw_exit (id := 0) (by kernel_rfl) ?_
   cases h
   exact ⟨rfl, (sw [0] [] [.s 0, .s 5, .s 6] [.s 0] an)⟩
  intro g_1; replace h := cond_f g_1 h
  refine sk ?_
  obtain ⟨_, h_5, h⟩ := bind_some h; replace h_5 := need_some h_5
  obtain ⟨x_2, h_6, h⟩ := bind_some h
  obtain ⟨_, h_7, h⟩ := bind_some h; replace h_7 := need_some h_7
  obtain ⟨x_3, h_8, h⟩ := bind_some h
  refine rg [(2, Ht), (3, { av := Iu x_2 }), (5, Ht), (6, { av := Iu x_3, l := (Mb (((row_1).set ((size_1).toNat) (w_u8 (iand .u64 u_1 (127 : Int)))).set ((w_i64 ((w_i64 (size_1 + (1 : Int))) - (1 : Int))).toNat) (ior .u8 x_2 (128 : Int)))) })] [0, 5, 6, 7] [0] 1 [.sl false 1 (Mb b_1), Pp 0, Ii (w_i64 (size_1 + (1 : Int))), .int .u64 u_1] [Rb 107 1 (Mb (((row_1).set ((size_1).toNat) (w_u8 (iand .u64 u_1 (127 : Int)))).set ((w_i64 ((w_i64 (size_1 + (1 : Int))) - (1 : Int))).toNat) (ior .u8 x_2 (128 : Int))))] hmix (ac h_5.1 (ac h_5.2 (ac (vc_getN h_6 : (Mb ((row_1).set ((size_1).toNat) (w_u8 (iand .u64 u_1 (127 : Int)))))[(w_i64 ((w_i64 (size_1 + (1 : Int))) - (1 : Int))).toNat]? = some (Iu x_2)) (ac h_7.1 (ac h_7.2 (ac (vc_getN h_8 : (Mb ((row_1).set ((size_1).toNat) (w_u8 (iand .u64 u_1 (127 : Int)))))[(w_i64 ((w_i64 (size_1 + (1 : Int))) - (1 : Int))).toNat]? = some (Iu x_3)) (ac (vc_set _ _ _ : (Mb (((row_1).set ((size_1).toNat) (w_u8 (iand .u64 u_1 (127 : Int)))).set ((w_i64 ((w_i64 (size_1 + (1 : Int))) - (1 : Int))).toNat) (ior .u8 x_2 (128 : Int)))) = List.set (Mb ((row_1).set ((size_1).toNat) (w_u8 (iand .u64 u_1 (127 : Int))))) ((w_i64 ((w_i64 (size_1 + (1 : Int))) - (1 : Int))).toNat) (setElem (Iu x_3) 0 [Iu (ior .u8 x_2 (128 : Int))])) an))))))) ?_
  refine rg [] [0, 5, 6, 7] [0] 1 [.sl false 1 (Mb b_1), Pp 0, Ii (w_i64 (size_1 + (1 : Int))), .int .u64 (ishr .u64 u_1 (7 : Int))] [Rb 107 1 (Mb (((row_1).set ((size_1).toNat) (w_u8 (iand .u64 u_1 (127 : Int)))).set ((w_i64 ((w_i64 (size_1 + (1 : Int))) - (1 : Int))).toNat) (ior .u8 x_2 (128 : Int))))] hmix (ac (by decide : (0 : Int) ≤ (7 : Int)) an) ?_
  exact ⟨_, (sw [0] [] [.s 0, .s 5, .s 6, .s 7] [.s 0] an), _, _, _, rfl, h⟩
 refine sq ?_
 obtain ⟨_, h_9, h⟩ := bind_some h; replace h_9 := need_some h_9
 obtain ⟨_, h_10, h⟩ := bind_some h; replace h_10 := need_some h_10
 obtain ⟨_, h_11, h⟩ := bind_some h; replace h_11 := need_some h_11
 obtain ⟨_, h_12, h⟩ := bind_some h; replace h_12 := need_some h_12
 refine rg [(2, { n := (b_1).length }), (4, { n := (b_1).length }), (5, { l := (Mb (sub b_1 (0 : Int) (lN (b_1)))) }), (8, { dep := true, id := 1, l := (Mb ((sub b_1 (0 : Int) (lN (b_1))) ++ (((o_1.2).take ((o_1.1).toNat)).drop 0))), n := (((sub b_1 (0 : Int) (lN (b_1))) ++ (((o_1.2).take ((o_1.1).toNat)).drop 0))).length })] [4] [1] 2 [.own 1 ((((sub b_1 (0 : Int) (lN (b_1))) ++ (((o_1.2).take ((o_1.1).toNat)).drop 0))).length)] [Rb 5 1 (Mb ((sub b_1 (0 : Int) (lN (b_1))) ++ (((o_1.2).take ((o_1.1).toNat)).drop 0)))] hmix (ac (vc_len _ : ((Mb b_1)).length = (b_1).length) (ac (vc_len _ : ((Mb b_1)).length = (b_1).length) (ac (by decide : (0 : Int) ≤ (0 : Int)) (ac (Int.natCast_nonneg _ : (0 : Int) ≤ (lN (b_1))) (ac (vc_lenle (Int.le_refl _) : (lN (b_1)) ≤ (lN ((Mb b_1)))) (ar (lN (b_1)) (ac (vc_sub _ _ _ : (Mb (sub b_1 (0 : Int) (lN (b_1)))) = (((Mb b_1)).take ((lN (b_1))).toNat).drop ((0 : Int)).toNat) (ac (by decide : (0 : Int) ≤ (0 : Int)) (ac h_9.1 (ac h_9.2.1 (ac (vc_lenle' h_9.2.2 : 10 ≤ ((Mb o_1.2)).length) (ac (vc_lenle' h_10.2 : ((o_1.1).toNat) ≤ ((Mb o_1.2)).length) (ac h_10.1 (ac (vc_app_part _ _ _ _ : (Mb ((sub b_1 (0 : Int) (lN (b_1))) ++ (((o_1.2).take ((o_1.1).toNat)).drop 0))) = (Mb (sub b_1 (0 : Int) (lN (b_1)))) ++ (((Mb o_1.2)).take ((o_1.1).toNat)).drop 0) (ac (by first | (simp; done) | simpa using h_11 : (((List.map (AV.int .u8) (sub b_1 (0 : Int) (((b_1).length : Nat) : Int))) : List AV).length + ((((List.map (AV.int .u8) o_1.2)).take ((o_1.1).toNat)).drop 0 : List AV).length) * 1 ≤ 140737488355328) (ac (by first | (simp; done) | simpa using h_12 : 0 < ((((List.map (AV.int .u8) o_1.2)).take ((o_1.1).toNat)).drop 0 : List AV).length ∨ ((List.map (AV.int .u8) (sub b_1 (0 : Int) (((b_1).length : Nat) : Int))) : List AV).length = 0) (ac (by simp : (((sub b_1 (0 : Int) (((b_1).length : Nat) : Int)) ++ (((o_1.2).take ((o_1.1).toNat)).drop 0))).length = ((List.map (AV.int .u8) ((sub b_1 (0 : Int) (((b_1).length : Nat) : Int)) ++ (((o_1.2).take ((o_1.1).toNat)).drop 0)))).length) an))))))))))))))))) ?_
 refine wk [1] [] [.s 4] [.s 0] [(4, .own 0 ((((sub b_1 (0 : Int) (lN (b_1))) ++ (((o_1.2).take ((o_1.1).toNat)).drop 0))).length))] [(0, Rb 5 1 (Mb ((sub b_1 (0 : Int) (lN (b_1))) ++ (((o_1.2).take ((o_1.1).toNat)).drop 0))))] an ?_
 refine rt ?_
 cases h
 exact ⟨.inr rfl, Nat.le_of_ble_eq_true rfl, by kernel_rfl⟩

theorem slices_Index_string_string_ok (F : Nat) (s_1 : List (List Int)) (a_1 : List Int) (r : Int) (h : slices_Index_string_string F s_1 a_1 = some r) : TripleG prog 79 [] [] [.sl false 1 (Ms s_1), .str a_1] [] (Ii r) := by
 refine triple_intro (fn := Go.Proofs.Try.f79) (code := codeOf Go.Proofs.Try.f79) (by kernel_rfl) (by kernel_rfl) (Nat.le_of_ble_eq_true (by kernel_rfl)) ?_
 unfold slices_Index_string_string at h
 refine sr [] [0, 1] [] 0 [.sl false 1 (Ms s_1), .str a_1] [] hmix an ?_
 refine sq ?_
 refine sr [(1, { n := (s_1).length })] [0, 1, 7, 8] [] 0 [.sl false 1 (Ms s_1), .str a_1, Ii (lN (s_1)), Ii 0] [] hmix (ac (vc_len _ : ((Ms s_1)).length = (s_1).length) an) ?_
 obtain ⟨o_1, h_1, h⟩ := bind_some h
 refine aw_conv (K1 := (fun e st' => match o_1 with | (.inl q0) => e = .normal ∧ Sub 0 st' (mk [] [] 0) | (.inr q1) => e = .ret ∧ FinR prog Go.Proofs.Try.f79 0 [] (Ii q1) st')) ?_ ?_
 ·replace h := h_1
  refine aw_block (id := 0) (by kernel_rfl) ?_
  refine wk [] [] [.s 0, .s 1, .s 7, .s 8] [] [(0, .sl false 1 (Ms s_1)), (1, .str a_1), (7, Ii (lN (s_1))), (8, Ii 0)] [] an ?_
  refine aw_loopF (fun n st => ∃ (v_1 : Int), st = mk [(0, .sl false 1 (Ms s_1)), (1, .str a_1), (7, Ii (lN (s_1))), (8, Ii v_1)] [] 0 ∧ slices_Index_string_string_L1 F s_1 a_1 n v_1 = some o_1) F (by kernel_rfl) ⟨_, rfl, h⟩ ?_ ?_
  ·rintro _ ⟨_, _, h⟩; exact none_ne (h : (none : Option (Unit ⊕ Int)) = some o_1)
  rintro n_1 _ ⟨v_1, rfl, h⟩
  replace h : slices_Index_string_string_L1_body F s_1 a_1 (slices_Index_string_string_L1 F s_1 a_1 n_1) v_1 = some o_1 := h
  unfold slices_Index_string_string_L1_body at h
  refine sr [] [0, 1, 7, 8, 9] [] 0 [.sl false 1 (Ms s_1), .str a_1, Ii (lN (s_1)), Ii v_1, .bool (decide (v_1 < (lN (s_1))))] [] hmix an ?_
  refine sq ?_
  refine cd 9 (decide (v_1 < (lN (s_1)))) ?_ ?_
  rotate_left
  ·intro g_1; replace h := cond_f g_1 h
   refine aw_exit (id := 0) (by kernel_rfl) ?_
   cases h
   exact ⟨rfl, (sw [] [] [] [] an)⟩
  intro g_1; replace h := cond_t g_1 h
  refine sk ?_
  refine sq ?_
  refine aw_block (id := 1) (by kernel_rfl) ?_
  refine sr [] [0, 1, 5, 7, 8] [] 0 [.sl false 1 (Ms s_1), .str a_1, Ii v_1, Ii (lN (s_1)), Ii v_1] [] hmix an ?_
  refine sq ?_
  obtain ⟨x_1, h_2, h⟩ := bind_some h
  refine rg [(3, { av := .str x_1 })] [0, 1, 5, 7, 8, 16] [] 0 [.sl false 1 (Ms s_1), .str a_1, Ii v_1, Ii (lN (s_1)), Ii v_1, .bool (a_1 == x_1)] [] hmix (ac (vc_idx h_2 : idxA (Ms s_1) v_1 = some (.str x_1)) an) ?_
  refine cd 16 (a_1 == x_1) ?_ ?_
  rotate_left
  ·intro g_2; replace h := cond_f g_2 h
   refine sk ?_
   refine rg [] [0, 1, 7, 8] [] 0 [.sl false 1 (Ms s_1), .str a_1, Ii (lN (s_1)), Ii (w_i64 (v_1 + (1 : Int)))] [] hmix an ?_
   exact ⟨_, (sw [] [] [.s 0, .s 1, .s 7, .s 8] [] an), _, rfl, h⟩
  intro g_2; replace h := cond_t g_2 h
  refine sr [] [4] [] 0 [Ii v_1] [] hmix an ?_
  refine rt ?_
  cases h
  exact ⟨rfl, Nat.le_of_ble_eq_true rfl, by kernel_rfl⟩
 intro e st1 hk
 rcases o_1 with q_1 | q_2
 rotate_left
 ·obtain ⟨rfl, hf⟩ := hk
  cases h
  exact ⟨st1, Sub.refl _ _, .inr rfl, hf⟩
 obtain ⟨rfl, hs⟩ := hk
 refine ⟨_, hs, ?_⟩
 refine sr [] [4] [] 0 [Ii (-1)] [] hmix an ?_
 refine rt ?_
 cases h
 exact ⟨.inr rfl, Nat.le_of_ble_eq_true rfl, by kernel_rfl⟩

theorem slices_Clone_string_string_ok (s_1 : List (List Int)) (r : (List (List Int))) (h : slices_Clone_string_string s_1 = some r) : TripleG prog 80 [] [] [.sl false 1 (Ms s_1)] [.row 9 1 (Ms r)] (.own 0 ((r).length)) := by
 refine triple_intro (fn := Go.Proofs.Try.f80) (code := codeOf Go.Proofs.Try.f80) (by kernel_rfl) (by kernel_rfl) (Nat.le_of_ble_eq_true (by kernel_rfl)) ?_
 unfold slices_Clone_string_string at h
 refine sr [(0, { id := 0, m := 1 })] [0] [] 1 [.sl false 1 (Ms s_1)] [] hmix an ?_
 refine sq ?_
 refine sr [] [0, 4] [] 1 [.sl false 1 (Ms s_1), .nb (Ms s_1)] [] hmix an ?_
 refine aw_condN (t := 4) (l := (Ms s_1)) (by kernel_rfl) (by kernel_rfl) ?_ ?_
 ·intro h_2; replace h_2 := List.map_eq_nil_iff.1 h_2
  replace h := Eq.trans (show (some []) = ((need (((([] : List (List Int))).length + (s_1).length) * 16 ≤ 140737488355328)).bind fun _ =>
 some ([] ++ s_1)) from by simp [h_2, need]) h
  refine sr [(0, { id := 1, m := 1 })] [2] [1] 2 [.own 1 0] [Rb 9 1 []] hmix an ?_
  refine wk [1] [] [.a 2 (.own 0 ((([] : List (List Int))).length))] [.s 0] [(2, .own 0 ((([] : List (List Int))).length))] [(0, Rb 9 1 [])] (ac (congrArg (AV.own _) (by first | (simp; done) | (simp; omega)) : (.own 1 0 : AV) = .own 1 ((([] : List (List Int))).length)) an) ?_
  refine rt ?_
  cases h
  exact ⟨.inr rfl, Nat.le_of_ble_eq_true rfl, by kernel_rfl⟩
 refine sk ?_
 refine sq ?_
 obtain ⟨_, h_1, h⟩ := bind_some h; replace h_1 := need_some h_1
 refine rg [(0, { id := 1 }), (2, { id := 2, l := (Ms ([] ++ s_1)), n := (([] ++ s_1)).length })] [2] [2] 3 [.own 2 ((([] ++ s_1)).length)] [Rb 9 1 (Ms ([] ++ s_1))] hmix (ac (by first | (simp; done) | (simp; omega) : 0 = (([] : List AV)).length) (ac (trivial : True) (ac (by simp : (List.map AV.str ([] ++ s_1)) = [] ++ (List.map AV.str s_1)) (ac (by simp : (([] ++ s_1)).length = ((List.map AV.str ([] ++ s_1))).length) (ac (by first | (simp; done) | simpa using h_1 : (([] : List AV).length + ((List.map AV.str s_1) : List AV).length) * 16 ≤ 140737488355328) an))))) ?_
 refine wk [2] [] [.s 2] [.s 0] [(2, .own 0 ((([] ++ s_1)).length))] [(0, Rb 9 1 (Ms ([] ++ s_1)))] an ?_
 refine rt ?_
 cases h
 exact ⟨.inr rfl, Nat.le_of_ble_eq_true rfl, by kernel_rfl⟩

theorem intern_Put_ok (F : Nat) (names_1 : List (List Int)) (s_1 : List Int) (r : Int × (List (List Int)) × Int) (h : intern_Put F names_1 s_1 = some r) : TripleG prog 53 [] [] [.sl false 1 (Ms names_1), .str s_1] [] (.tuple [Ii r.1, .sl false 1 (Ms r.2.1), Ii r.2.2]) := by
 refine triple_intro (fn := Go.Proofs.Try.f53) (code := codeOf Go.Proofs.Try.f53) (by kernel_rfl) (by kernel_rfl) (Nat.le_of_ble_eq_true (by kernel_rfl)) ?_
 unfold intern_Put at h
 refine sr [] [0, 1] [] 0 [.sl false 1 (Ms names_1), .str s_1] [] hmix an ?_
 refine sq ?_
 refine sq ?_
 obtain ⟨r_1, h_1, h⟩ := bind_some h
 refine rg [(1, { av := Ii r_1, l := [.str s_1] })] [0, 1, 7] [] 0 [.sl false 1 (Ms names_1), .str s_1, Ii r_1] [] hmix (ar ([.str s_1] : List AV) (ac (rfl : ([] : List BoxSt) = []) (ac (intern_Name_ok F s_1 r_1 h_1 : TripleG prog 78 [] [] [.str s_1] [] (Ii r_1)) an))) ?_
 refine sr [] [0, 1, 7, 12] [] 0 [.sl false 1 (Ms names_1), .str s_1, Ii r_1, .bool (r_1 != (0 : Int))] [] hmix an ?_
 refine cd 12 (r_1 != (0 : Int)) ?_ ?_
 ·intro g_1; replace h := cond_t g_1 h
  refine sr [] [4, 5, 6] [] 0 [Ii 0, .sl false 1 (Ms names_1), Ii r_1] [] hmix an ?_
  refine rt ?_
  cases h
  exact ⟨.inr rfl, Nat.le_of_ble_eq_true rfl, by kernel_rfl⟩
 intro g_1; replace h := cond_f g_1 h
 refine sk ?_
 refine sq ?_
 refine sq ?_
 obtain ⟨r_2, h_2, h⟩ := bind_some h
 refine rg [(2, { av := Ii r_2, l := [.sl false 1 (Ms names_1), .str s_1] })] [0, 1, 8] [] 0 [.sl false 1 (Ms names_1), .str s_1, Ii r_2] [] hmix (ar ([.sl false 1 (Ms names_1), .str s_1] : List AV) (ac (rfl : ([] : List BoxSt) = []) (ac (slices_Index_string_string_ok F names_1 s_1 r_2 h_2 : TripleG prog 79 [] [] [.sl false 1 (Ms names_1), .str s_1] [] (Ii r_2)) an))) ?_
 refine sr [] [0, 1, 8, 19] [] 0 [.sl false 1 (Ms names_1), .str s_1, Ii r_2, .bool (decide (r_2 ≥ (0 : Int)))] [] hmix an ?_
 refine cd 19 (decide (r_2 ≥ (0 : Int))) ?_ ?_
 ·intro g_2; replace h := cond_t g_2 h
  refine sr [] [4, 5, 6] [] 0 [Ii r_2, .sl false 1 (Ms names_1), Ii 0] [] hmix an ?_
  refine rt ?_
  cases h
  exact ⟨.inr rfl, Nat.le_of_ble_eq_true rfl, by kernel_rfl⟩
 intro g_2; replace h := cond_f g_2 h
 refine sk ?_
 refine sq ?_
 refine sr [(1, { n := (names_1).length })] [0, 1, 24] [] 0 [.sl false 1 (Ms names_1), .str s_1, .bool (decide ((lN (names_1)) ≥ (1000 : Int)))] [] hmix (ac (vc_len _ : ((Ms names_1)).length = (names_1).length) an) ?_
 refine cd 24 (decide ((lN (names_1)) ≥ (1000 : Int))) ?_ ?_
 ·intro g_3; replace h := cond_t g_3 h
  refine sr [] [4, 5, 6] [] 0 [Ii 0, .sl false 1 (Ms names_1), Ii 6] [] hmix an ?_
  refine rt ?_
  cases h
  exact ⟨.inr rfl, Nat.le_of_ble_eq_true rfl, by kernel_rfl⟩
 intro g_3; replace h := cond_f g_3 h
 refine sk ?_
 refine sq ?_
 obtain ⟨r_3, h_3, h⟩ := bind_some h
 obtain ⟨_, h_4, h⟩ := bind_some h; replace h_4 := need_some h_4
 refine rg [(1, { n := (names_1).length }), (3, { av := .own 0 ((r_3).length), ids := [0], l := [.sl false 1 (Ms names_1)], post := [(.row 9 1 (Ms r_3))] }), (5, { id := 1 }), (6, { id := 2, l := (Ms (r_3 ++ ([s_1] : List (List Int)))), n := ((r_3 ++ ([s_1] : List (List Int)))).length })] [4, 5, 6] [2] 3 [Ii (lN (names_1)), .own 2 (((r_3 ++ ([s_1] : List (List Int)))).length), Ii 0] [Rb 9 1 (Ms (r_3 ++ ([s_1] : List (List Int))))] hmix (ac (vc_len _ : ((Ms names_1)).length = (names_1).length) (ar ([.sl false 1 (Ms names_1)] : List AV) (ac (rfl : ([] : List BoxSt) = []) (ac (slices_Clone_string_string_ok names_1 r_3 h_3 : TripleG prog 80 [] [] [.sl false 1 (Ms names_1)] [(.row 9 1 (Ms r_3))] (.own 0 ((r_3).length))) (ac (by first | (simp; done) | (simp; omega) : (r_3).length = ((List.map AV.str r_3)).length) (ac (by first | (simp; done) | (simp; omega) : 1 = ((List.map AV.str ([s_1] : List (List Int)))).length) (ac (vc_app _ _ : (Ms (r_3 ++ ([s_1] : List (List Int)))) = (Ms r_3) ++ (Ms ([s_1] : List (List Int)))) (ac (by simp : ((r_3 ++ ([s_1] : List (List Int)))).length = ((List.map AV.str (r_3 ++ ([s_1] : List (List Int))))).length) (ac (by first | (simp; done) | simpa using h_4 : (((List.map AV.str r_3) : List AV).length + ((List.map AV.str ([s_1] : List (List Int))) : List AV).length) * 16 ≤ 140737488355328) an))))))))) ?_
 refine wk [] [2] [.s 4, .a 5 (.sl false 1 (Ms (r_3 ++ ([s_1] : List (List Int))))), .s 6] [] [(4, Ii (lN (names_1))), (5, .sl false 1 (Ms (r_3 ++ ([s_1] : List (List Int))))), (6, Ii 0)] [] (ac (by first | (simp; done) | (simp; omega) : ((r_3 ++ ([s_1] : List (List Int)))).length = ((List.map AV.str (r_3 ++ ([s_1] : List (List Int))))).length) (ar 1 (ar ((Ms (r_3 ++ ([s_1] : List (List Int)))) : List AV) (ac (rfl : (!false || false) = true) an)))) ?_
 refine rt ?_
 cases h
 exact ⟨.inr rfl, Nat.le_of_ble_eq_true rfl, by kernel_rfl⟩

theorem slices_Clone_2_int_2_int_ok (s_1 : List (Arr2_Int)) (r : (List (Arr2_Int))) (h : slices_Clone_2_int_2_int s_1 = some r) : TripleG prog 82 [] [] [.sl false 2 (Mp e_Arr2_Int s_1)] [.row 57 2 (Mp e_Arr2_Int r)] (.own 0 ((r).length)) := by
 refine triple_intro (fn := Go.Proofs.Try.f82) (code := codeOf Go.Proofs.Try.f82) (by kernel_rfl) (by kernel_rfl) (Nat.le_of_ble_eq_true (by kernel_rfl)) ?_
 unfold slices_Clone_2_int_2_int at h
 refine sr [(0, { id := 0, m := 1 })] [0] [] 1 [.sl false 2 (Mp e_Arr2_Int s_1)] [] hmix an ?_
 refine sq ?_
 refine sr [] [0, 4] [] 1 [.sl false 2 (Mp e_Arr2_Int s_1), .nb (Mp e_Arr2_Int s_1)] [] hmix an ?_
 refine aw_condN (t := 4) (l := (Mp e_Arr2_Int s_1)) (by kernel_rfl) (by kernel_rfl) ?_ ?_
 ·intro h_2; replace h_2 := List.map_eq_nil_iff.1 h_2
  replace h := Eq.trans (show (some []) = ((need (((([] : List Arr2_Int)).length + (s_1).length) * 16 ≤ 140737488355328)).bind fun _ =>
 some ([] ++ s_1)) from by simp [h_2, need]) h
  refine sr [(0, { id := 1, m := 1 })] [2] [1] 2 [.own 1 0] [Rb 57 2 []] hmix an ?_
  refine wk [1] [] [.a 2 (.own 0 ((([] : List Arr2_Int)).length))] [.s 0] [(2, .own 0 ((([] : List Arr2_Int)).length))] [(0, Rb 57 2 [])] (ac (congrArg (AV.own _) (by first | (simp; done) | (simp; omega)) : (.own 1 0 : AV) = .own 1 ((([] : List Arr2_Int)).length)) an) ?_
  refine rt ?_
  cases h
  exact ⟨.inr rfl, Nat.le_of_ble_eq_true rfl, by kernel_rfl⟩
 refine sk ?_
 refine sq ?_
 obtain ⟨_, h_1, h⟩ := bind_some h; replace h_1 := need_some h_1
 refine rg [(0, { id := 1 }), (2, { id := 2, l := (Mp e_Arr2_Int ([] ++ s_1)), n := (([] ++ s_1)).length })] [2] [2] 3 [.own 2 ((([] ++ s_1)).length)] [Rb 57 2 (Mp e_Arr2_Int ([] ++ s_1))] hmix (ac (by first | (simp; done) | (simp; omega) : 0 = (([] : List AV)).length) (ac (trivial : True) (ac (by simp : (List.map e_Arr2_Int ([] ++ s_1)) = [] ++ (List.map e_Arr2_Int s_1)) (ac (by simp : (([] ++ s_1)).length = ((List.map e_Arr2_Int ([] ++ s_1))).length) (ac (by first | (simp; done) | simpa using h_1 : (([] : List AV).length + ((List.map e_Arr2_Int s_1) : List AV).length) * 16 ≤ 140737488355328) an))))) ?_
 refine wk [2] [] [.s 2] [.s 0] [(2, .own 0 ((([] ++ s_1)).length))] [(0, Rb 57 2 (Mp e_Arr2_Int ([] ++ s_1)))] an ?_
 refine rt ?_
 cases h
 exact ⟨.inr rfl, Nat.le_of_ble_eq_true rfl, by kernel_rfl⟩

theorem slices_Index_2_int_2_int_ok (F : Nat) (s_1 : List (Arr2_Int)) (a_1 : Arr2_Int) (r : Int) (h : slices_Index_2_int_2_int F s_1 a_1 = some r) : TripleG prog 83 [] [] [.sl false 2 (Mp e_Arr2_Int s_1), .agg [Ii a_1.c0, Ii a_1.c1]] [] (Ii r) := by
 refine triple_intro (fn := Go.Proofs.Try.f83) (code := codeOf Go.Proofs.Try.f83) (by kernel_rfl) (by kernel_rfl) (Nat.le_of_ble_eq_true (by kernel_rfl)) ?_
 unfold slices_Index_2_int_2_int at h
 refine sr [(0, { id := 0 })] [0, 3] [0] 1 [.sl false 2 (Mp e_Arr2_Int s_1), Pp 0] [Vb 57 [Ii a_1.c0, Ii a_1.c1]] hmix an ?_
 refine sq ?_
 refine sr [(1, { n := (s_1).length })] [0, 3, 7, 8] [0] 1 [.sl false 2 (Mp e_Arr2_Int s_1), Pp 0, Ii (lN (s_1)), Ii 0] [Vb 57 [Ii a_1.c0, Ii a_1.c1]] hmix (ac (vc_len _ : ((Mp e_Arr2_Int s_1)).length = (s_1).length) an) ?_
 obtain ⟨o_1, h_1, h⟩ := bind_some h
 refine aw_conv (K1 := (fun e st' => match o_1 with | (.inl q0) => e = .normal ∧ Sub 0 st' (mk [] [] 0) | (.inr q1) => e = .ret ∧ FinR prog Go.Proofs.Try.f83 0 [] (Ii q1) st')) ?_ ?_
 ·replace h := h_1
  refine aw_block (id := 0) (by kernel_rfl) ?_
  refine wk [0] [] [.s 0, .s 3, .s 7, .s 8] [.s 0] [(0, .sl false 2 (Mp e_Arr2_Int s_1)), (3, Pp 0), (7, Ii (lN (s_1))), (8, Ii 0)] [(0, Vb 57 [Ii a_1.c0, Ii a_1.c1])] an ?_
  refine aw_loopF (fun n st => ∃ (v_1 : Int), st = mk [(0, .sl false 2 (Mp e_Arr2_Int s_1)), (3, Pp 0), (7, Ii (lN (s_1))), (8, Ii v_1)] [(0, Vb 57 [Ii a_1.c0, Ii a_1.c1])] 1 ∧ slices_Index_2_int_2_int_L1 F s_1 a_1 n v_1 = some o_1) F (by kernel_rfl) ⟨_, rfl, h⟩ ?_ ?_
  ·rintro _ ⟨_, _, h⟩; exact none_ne (h : (none : Option (Unit ⊕ Int)) = some o_1)
  rintro n_1 _ ⟨v_1, rfl, h⟩
  replace h : slices_Index_2_int_2_int_L1_body F s_1 a_1 (slices_Index_2_int_2_int_L1 F s_1 a_1 n_1) v_1 = some o_1 := h
  unfold slices_Index_2_int_2_int_L1_body at h
  refine sr [] [0, 3, 7, 8, 9] [0] 1 [.sl false 2 (Mp e_Arr2_Int s_1), Pp 0, Ii (lN (s_1)), Ii v_1, .bool (decide (v_1 < (lN (s_1))))] [Vb 57 [Ii a_1.c0, Ii a_1.c1]] hmix an ?_
  refine sq ?_
  refine cd 9 (decide (v_1 < (lN (s_1)))) ?_ ?_
  rotate_left
  ·intro g_1; replace h := cond_f g_1 h
   refine aw_exit (id := 0) (by kernel_rfl) ?_
   cases h
   exact ⟨rfl, (sw [] [] [] [] an)⟩
  intro g_1; replace h := cond_t g_1 h
  refine sk ?_
  refine sq ?_
  refine aw_block (id := 1) (by kernel_rfl) ?_
  refine sr [] [0, 3, 5, 7, 8] [0] 1 [.sl false 2 (Mp e_Arr2_Int s_1), Pp 0, Ii v_1, Ii (lN (s_1)), Ii v_1] [Vb 57 [Ii a_1.c0, Ii a_1.c1]] hmix an ?_
  refine sq ?_
  obtain ⟨x_1, h_2, h⟩ := bind_some h
  refine rg [(3, { av := .agg [Ii x_1.c0, Ii x_1.c1] }), (5, { b := (decide (a_1 = x_1)), mks := [.int .i64, .int .i64] })] [0, 3, 5, 7, 8, 16] [0] 1 [.sl false 2 (Mp e_Arr2_Int s_1), Pp 0, Ii v_1, Ii (lN (s_1)), Ii v_1, .bool (decide (a_1 = x_1))] [Vb 57 [Ii a_1.c0, Ii a_1.c1]] hmix (ac (vc_idx h_2 : idxA (Mp e_Arr2_Int s_1) v_1 = some (.agg [Ii x_1.c0, Ii x_1.c1])) (ac (eqOk_57 : EqOk prog 57 [.int .i64, .int .i64]) (ac (vc_eqA (f := e_Arr2_Int) inj_Arr2_Int a_1 x_1 : ((decide (a_1 = x_1)) = true ↔ AV.agg [Ii a_1.c0, Ii a_1.c1] = AV.agg [Ii x_1.c0, Ii x_1.c1])) an))) ?_
  refine cd 16 (decide (a_1 = x_1)) ?_ ?_
  rotate_left
  ·intro g_2; replace h := cond_f g_2 h
   refine sk ?_
   refine rg [] [0, 3, 7, 8] [0] 1 [.sl false 2 (Mp e_Arr2_Int s_1), Pp 0, Ii (lN (s_1)), Ii (w_i64 (v_1 + (1 : Int)))] [Vb 57 [Ii a_1.c0, Ii a_1.c1]] hmix an ?_
   exact ⟨_, (sw [0] [] [.s 0, .s 3, .s 7, .s 8] [.s 0] an), _, rfl, h⟩
  intro g_2; replace h := cond_t g_2 h
  refine sr [] [4] [] 1 [Ii v_1] [] hmix an ?_
  refine rt ?_
  cases h
  exact ⟨rfl, Nat.le_of_ble_eq_true rfl, by kernel_rfl⟩
 intro e st1 hk
 rcases o_1 with q_1 | q_2
 rotate_left
 ·obtain ⟨rfl, hf⟩ := hk
  cases h
  exact ⟨st1, Sub.refl _ _, .inr rfl, hf⟩
 obtain ⟨rfl, hs⟩ := hk
 refine ⟨_, hs, ?_⟩
 refine sr [] [4] [] 0 [Ii (-1)] [] hmix an ?_
 refine rt ?_
 cases h
 exact ⟨.inr rfl, Nat.le_of_ble_eq_true rfl, by kernel_rfl⟩

theorem intern_PutStack_ok (F : Nat) (names_1 : List (List Int)) (stacks_1 : List (Arr2_Int)) (l_1 : List (List Int)) (r : Int × (List (List Int)) × (List (Arr2_Int)) × Int) (h : intern_PutStack F names_1 stacks_1 l_1 = some r) : TripleG prog 54 [] [] [.sl false 1 (Ms names_1), .sl false 2 (Mp e_Arr2_Int stacks_1), .sl false 1 (Ms l_1)] [] (.tuple [Ii r.1, .sl false 1 (Ms r.2.1), .sl false 2 (Mp e_Arr2_Int r.2.2.1), Ii r.2.2.2]) := by
 refine triple_intro (fn := Go.Proofs.Try.f54) (code := codeOf Go.Proofs.Try.f54) (by kernel_rfl) (by kernel_rfl) (Nat.le_of_ble_eq_true (by kernel_rfl)) ?_
 unfold intern_PutStack at h
 refine sr [] [0, 1, 2] [] 0 [.sl false 1 (Ms names_1), .sl false 2 (Mp e_Arr2_Int stacks_1), .sl false 1 (Ms l_1)] [] hmix an ?_
 refine sq ?_
 refine sq ?_
 obtain ⟨r_1, h_1, h⟩ := bind_some h
 refine rg [(1, { av := Ii r_1, l := [.sl false 1 (Ms l_1)] })] [0, 1, 2, 10] [] 0 [.sl false 1 (Ms names_1), .sl false 2 (Mp e_Arr2_Int stacks_1), .sl false 1 (Ms l_1), Ii r_1] [] hmix (ar ([.sl false 1 (Ms l_1)] : List AV) (ac (rfl : ([] : List BoxSt) = []) (ac (intern_Frames_ok F l_1 r_1 h_1 : TripleG prog 81 [] [] [.sl false 1 (Ms l_1)] [] (Ii r_1)) an))) ?_
 refine sr [] [0, 1, 2, 10, 23] [] 0 [.sl false 1 (Ms names_1), .sl false 2 (Mp e_Arr2_Int stacks_1), .sl false 1 (Ms l_1), Ii r_1, .bool (r_1 != (0 : Int))] [] hmix an ?_
 refine cd 23 (r_1 != (0 : Int)) ?_ ?_
 ·intro g_1; replace h := cond_t g_1 h
  refine sr [] [6, 7, 8, 9] [] 0 [Ii 0, .sl false 1 (Ms names_1), .sl false 2 (Mp e_Arr2_Int stacks_1), Ii r_1] [] hmix an ?_
  refine rt ?_
  cases h
  exact ⟨.inr rfl, Nat.le_of_ble_eq_true rfl, by kernel_rfl⟩
 intro g_1; replace h := cond_f g_1 h
 refine sk ?_
 refine sq ?_
 obtain ⟨r_2, h_2, h⟩ := bind_some h
 refine rg [(2, { av := .own 0 ((r_2).length), ids := [0], l := [.sl false 2 (Mp e_Arr2_Int stacks_1)], post := [(.row 57 2 (Mp e_Arr2_Int r_2))] })] [0, 1, 2, 11, 12, 13] [0] 1 [.sl false 1 (Ms names_1), .sl false 2 (Mp e_Arr2_Int stacks_1), .sl false 1 (Ms l_1), Ii (-1), .sl false 1 (Ms names_1), .own 0 ((r_2).length)] [Rb 57 2 (Mp e_Arr2_Int r_2)] hmix (ar ([.sl false 2 (Mp e_Arr2_Int stacks_1)] : List AV) (ac (rfl : ([] : List BoxSt) = []) (ac (slices_Clone_2_int_2_int_ok stacks_1 r_2 h_2 : TripleG prog 82 [] [] [.sl false 2 (Mp e_Arr2_Int stacks_1)] [(.row 57 2 (Mp e_Arr2_Int r_2))] (.own 0 ((r_2).length))) an))) ?_
 refine sq ?_
 refine sr [(1, { n := (l_1).length })] [0, 1, 11, 12, 13, 30, 31, 32] [0] 1 [.sl false 1 (Ms names_1), .sl false 2 (Mp e_Arr2_Int stacks_1), Ii (-1), .sl false 1 (Ms names_1), .own 0 ((r_2).length), .sl false 1 (Ms l_1), Ii (lN (l_1)), Ii 0] [Rb 57 2 (Mp e_Arr2_Int r_2)] hmix (ac (vc_len _ : ((Ms l_1)).length = (l_1).length) an) ?_
 obtain ⟨o_1, h_3, h⟩ := bind_some h
 refine aw_conv (K1 := (fun e st' => match o_1 with | (.inl q0) => e = .normal ∧ Sub 0 st' (mk [(11, Ii q0.1), (12, .sl false 1 (Ms q0.2.1)), (13, .own 0 ((q0.2.2).length))] [(0, Rb 57 2 (Mp e_Arr2_Int q0.2.2))] 1) | (.inr q1) => e = .ret ∧ FinR prog Go.Proofs.Try.f54 0 [] (.tuple [Ii q1.1, .sl false 1 (Ms q1.2.1), .sl false 2 (Mp e_Arr2_Int q1.2.2.1), Ii q1.2.2.2]) st')) ?_ ?_
 ·replace h := h_3
  refine aw_block (id := 0) (by kernel_rfl) ?_
  refine wk [0] [] [.s 0, .s 1, .s 11, .s 12, .s 13, .s 30, .s 31, .s 32] [.s 0] [(0, .sl false 1 (Ms names_1)), (1, .sl false 2 (Mp e_Arr2_Int stacks_1)), (11, Ii (-1)), (12, .sl false 1 (Ms names_1)), (13, .own 0 ((r_2).length)), (30, .sl false 1 (Ms l_1)), (31, Ii (lN (l_1))), (32, Ii 0)] [(0, Rb 57 2 (Mp e_Arr2_Int r_2))] an ?_
  refine aw_loopF (fun n st => ∃ (at__1 : Int), ∃ (n_1 : List (List Int)), ∃ (v_1 : Int), ∃ (row_1 : List Arr2_Int), st = mk [(0, .sl false 1 (Ms names_1)), (1, .sl false 2 (Mp e_Arr2_Int stacks_1)), (11, Ii at__1), (12, .sl false 1 (Ms n_1)), (13, .own 0 ((row_1).length)), (30, .sl false 1 (Ms l_1)), (31, Ii (lN (l_1))), (32, Ii v_1)] [(0, Rb 57 2 (Mp e_Arr2_Int row_1))] 1 ∧ intern_PutStack_L1 F names_1 stacks_1 l_1 n at__1 n_1 v_1 row_1 = some o_1) F (by kernel_rfl) ⟨_, _, _, _, rfl, h⟩ ?_ ?_
  ·rintro _ ⟨_, _, _, _, _, h⟩; exact none_ne (h : (none : Option ((Int × (List (List Int)) × (List Arr2_Int)) ⊕ (Int × (List (List Int)) × (List (Arr2_Int)) × Int))) = some o_1)
  rintro n_2 _ ⟨at__1, n_1, v_1, row_1, rfl, h⟩
  replace h : intern_PutStack_L1_body F names_1 stacks_1 l_1 (intern_PutStack_L1 F names_1 stacks_1 l_1 n_2) at__1 n_1 v_1 row_1 = some o_1 := h
  unfold intern_PutStack_L1_body at h
  refine sr [] [0, 1, 11, 12, 13, 30, 31, 32, 33] [0] 1 [.sl false 1 (Ms names_1), .sl false 2 (Mp e_Arr2_Int stacks_1), Ii at__1, .sl false 1 (Ms n_1), .own 0 ((row_1).length), .sl false 1 (Ms l_1), Ii (lN (l_1)), Ii v_1, .bool (decide (v_1 < (lN (l_1))))] [Rb 57 2 (Mp e_Arr2_Int row_1)] hmix an ?_
  refine sq ?_
  refine cd 33 (decide (v_1 < (lN (l_1)))) ?_ ?_
  rotate_left
  ·intro g_2; replace h := cond_f g_2 h
   refine aw_exit (id := 0) (by kernel_rfl) ?_
   cases h
   exact ⟨rfl, (sw [0] [] [.s 11, .s 12, .s 13] [.s 0] an)⟩
  intro g_2; replace h := cond_t g_2 h
  refine sk ?_
  refine sq ?_
  refine aw_block (id := 1) (by kernel_rfl) ?_
  refine sq ?_
  obtain ⟨x_1, h_4, h⟩ := bind_some h
  refine rg [(0, { av := .str x_1 })] [0, 1, 11, 12, 13, 15, 30, 31, 32] [0] 1 [.sl false 1 (Ms names_1), .sl false 2 (Mp e_Arr2_Int stacks_1), Ii at__1, .sl false 1 (Ms n_1), .own 0 ((row_1).length), .str x_1, .sl false 1 (Ms l_1), Ii (lN (l_1)), Ii v_1] [Rb 57 2 (Mp e_Arr2_Int row_1)] hmix (ac (vc_idx h_4 : idxA (Ms l_1) v_1 = some (.str x_1)) an) ?_
  refine sq ?_
  obtain ⟨r_3, h_5, h⟩ := bind_some h
  refine rg [(2, { av := .tuple [Ii r_3.1, .sl false 1 (Ms r_3.2.1), Ii r_3.2.2], l := [.sl false 1 (Ms n_1), .str x_1] })] [0, 1, 11, 13, 16, 17, 18, 30, 31, 32] [0] 1 [.sl false 1 (Ms names_1), .sl false 2 (Mp e_Arr2_Int stacks_1), Ii at__1, .own 0 ((row_1).length), Ii r_3.1, .sl false 1 (Ms r_3.2.1), Ii r_3.2.2, .sl false 1 (Ms l_1), Ii (lN (l_1)), Ii v_1] [Rb 57 2 (Mp e_Arr2_Int row_1)] hmix (ar ([.sl false 1 (Ms n_1), .str x_1] : List AV) (ac (rfl : ([] : List BoxSt) = []) (ac (intern_Put_ok F n_1 x_1 r_3 h_5 : TripleG prog 53 [] [] [.sl false 1 (Ms n_1), .str x_1] [] (.tuple [Ii r_3.1, .sl false 1 (Ms r_3.2.1), Ii r_3.2.2])) an))) ?_
  refine sq ?_
  refine sr [] [0, 1, 11, 13, 16, 17, 18, 30, 31, 32, 44] [0] 1 [.sl false 1 (Ms names_1), .sl false 2 (Mp e_Arr2_Int stacks_1), Ii at__1, .own 0 ((row_1).length), Ii r_3.1, .sl false 1 (Ms r_3.2.1), Ii r_3.2.2, .sl false 1 (Ms l_1), Ii (lN (l_1)), Ii v_1, .bool (r_3.2.2 != (0 : Int))] [Rb 57 2 (Mp e_Arr2_Int row_1)] hmix an ?_
  refine cd 44 (r_3.2.2 != (0 : Int)) ?_ ?_
  ·intro g_3; replace h := cond_t g_3 h
   refine sr [] [6, 7, 8, 9] [] 1 [Ii 0, .sl false 1 (Ms names_1), .sl false 2 (Mp e_Arr2_Int stacks_1), Ii r_3.2.2] [] hmix an ?_
   refine rt ?_
   cases h
   exact ⟨rfl, Nat.le_of_ble_eq_true rfl, by kernel_rfl⟩
  intro g_3; replace h := cond_f g_3 h
  refine sk ?_
  refine sr [] [0, 1, 11, 12, 13, 16, 30, 31, 32] [0] 1 [.sl false 1 (Ms names_1), .sl false 2 (Mp e_Arr2_Int stacks_1), Ii at__1, .sl false 1 (Ms r_3.2.1), .own 0 ((row_1).length), Ii r_3.1, .sl false 1 (Ms l_1), Ii (lN (l_1)), Ii v_1] [Rb 57 2 (Mp e_Arr2_Int row_1)] hmix an ?_
  refine sr [(3, { id := 1 })] [0, 1, 12, 13, 19, 30, 31, 32] [0, 1] 2 [.sl false 1 (Ms names_1), .sl false 2 (Mp e_Arr2_Int stacks_1), .sl false 1 (Ms r_3.2.1), .own 0 ((row_1).length), Pp 1, .sl false 1 (Ms l_1), Ii (lN (l_1)), Ii v_1] [Rb 57 2 (Mp e_Arr2_Int row_1), Vb 57 [Ii at__1, Ii r_3.1]] hmix an ?_
  refine sq ?_
  refine sq ?_
  obtain ⟨r_4, h_6, h⟩ := bind_some h
  refine rg [(2, { av := Ii r_4, l := [.sl false 2 (Mp e_Arr2_Int row_1), .agg [Ii at__1, Ii r_3.1]], lend := [0] })] [0, 1, 11, 12, 13, 19, 30, 31, 32] [0, 1] 2 [.sl false 1 (Ms names_1), .sl false 2 (Mp e_Arr2_Int stacks_1), Ii r_4, .sl false 1 (Ms r_3.2.1), .own 0 ((row_1).length), Pp 1, .sl false 1 (Ms l_1), Ii (lN (l_1)), Ii v_1] [Rb 57 2 (Mp e_Arr2_Int row_1), Vb 57 [Ii at__1, Ii r_3.1]] hmix (ac (by first | (simp; done) | (simp; omega) : (row_1).length = ((List.map e_Arr2_Int row_1)).length) (ar ([.sl false 2 (Mp e_Arr2_Int row_1), .agg [Ii at__1, Ii r_3.1]] : List AV) (ac (rfl : ([] : List BoxSt) = []) (ac (triple_lo (args' := [.sl false 2 (Mp e_Arr2_Int row_1), .agg [Ii ((⟨at__1, r_3.1⟩ : Arr2_Int).c0), Ii ((⟨at__1, r_3.1⟩ : Arr2_Int).c1)]]) (slices_Index_2_int_2_int_ok F row_1 (⟨at__1, r_3.1⟩ : Arr2_Int) r_4 h_6) rfl ⟨rfl, rfl, rfl, rfl, rfl, trivial⟩ : TripleG prog 83 [] [] [.sl false 2 (Mp e_Arr2_Int row_1), .agg [Ii at__1, Ii r_3.1]] [] (Ii r_4)) an)))) ?_
  refine sr [] [0, 1, 11, 12, 13, 19, 30, 31, 32, 56] [0, 1] 2 [.sl false 1 (Ms names_1), .sl false 2 (Mp e_Arr2_Int stacks_1), Ii r_4, .sl false 1 (Ms r_3.2.1), .own 0 ((row_1).length), Pp 1, .sl false 1 (Ms l_1), Ii (lN (l_1)), Ii v_1, .bool (decide (r_4 ≥ (0 : Int)))] [Rb 57 2 (Mp e_Arr2_Int row_1), Vb 57 [Ii at__1, Ii r_3.1]] hmix an ?_
  refine cd 56 (decide (r_4 ≥ (0 : Int))) ?_ ?_
  ·intro g_4; replace h := cond_t g_4 h
   refine aw_exit (id := 1) (by kernel_rfl) ?_
   refine rg [] [0, 1, 11, 12, 13, 30, 31, 32] [0] 2 [.sl false 1 (Ms names_1), .sl false 2 (Mp e_Arr2_Int stacks_1), Ii r_4, .sl false 1 (Ms r_3.2.1), .own 0 ((row_1).length), .sl false 1 (Ms l_1), Ii (lN (l_1)), Ii (w_i64 (v_1 + (1 : Int)))] [Rb 57 2 (Mp e_Arr2_Int row_1)] hmix an ?_
   exact ⟨_, (sw [0] [] [.s 0, .s 1, .s 11, .s 12, .s 13, .s 30, .s 31, .s 32] [.s 0] an), _, _, _, _, rfl, h⟩
  intro g_4; replace h := cond_f g_4 h
  refine sk ?_
  refine sq ?_
  refine sr [] [0, 1, 12, 13, 19, 30, 31, 32, 59] [0, 1] 2 [.sl false 1 (Ms names_1), .sl false 2 (Mp e_Arr2_Int stacks_1), .sl false 1 (Ms r_3.2.1), .own 0 ((row_1).length), Pp 1, .sl false 1 (Ms l_1), Ii (lN (l_1)), Ii v_1, .bool (decide ((lN (row_1)) ≥ (1000 : Int)))] [Rb 57 2 (Mp e_Arr2_Int row_1), Vb 57 [Ii at__1, Ii r_3.1]] hmix an ?_
  refine cd 59 (decide ((lN (row_1)) ≥ (1000 : Int))) ?_ ?_
  ·intro g_5; replace h := cond_t g_5 h
   refine sr [] [6, 7, 8, 9] [] 2 [Ii 0, .sl false 1 (Ms names_1), .sl false 2 (Mp e_Arr2_Int stacks_1), Ii 6] [] hmix an ?_
   refine rt ?_
   cases h
   exact ⟨rfl, Nat.le_of_ble_eq_true rfl, by kernel_rfl⟩
  intro g_5; replace h := cond_f g_5 h
  refine sk ?_
  refine sr [] [0, 1, 11, 12, 13, 19, 30, 31, 32] [0, 1] 2 [.sl false 1 (Ms names_1), .sl false 2 (Mp e_Arr2_Int stacks_1), Ii (lN (row_1)), .sl false 1 (Ms r_3.2.1), .own 0 ((row_1).length), Pp 1, .sl false 1 (Ms l_1), Ii (lN (l_1)), Ii v_1] [Rb 57 2 (Mp e_Arr2_Int row_1), Vb 57 [Ii at__1, Ii r_3.1]] hmix an ?_
  obtain ⟨_, h_7, h⟩ := bind_some h; replace h_7 := need_some h_7
  refine rg [(2, { id := 2 }), (3, { id := 3, l := (Mp e_Arr2_Int (row_1 ++ ([(⟨at__1, r_3.1⟩ : Arr2_Int)] : List Arr2_Int))), n := ((row_1 ++ ([(⟨at__1, r_3.1⟩ : Arr2_Int)] : List Arr2_Int))).length })] [0, 1, 11, 12, 13, 30, 31, 32] [3] 4 [.sl false 1 (Ms names_1), .sl false 2 (Mp e_Arr2_Int stacks_1), Ii (lN (row_1)), .sl false 1 (Ms r_3.2.1), .own 3 (((row_1 ++ ([(⟨at__1, r_3.1⟩ : Arr2_Int)] : List Arr2_Int))).length), .sl false 1 (Ms l_1), Ii (lN (l_1)), Ii v_1] [Rb 57 2 (Mp e_Arr2_Int (row_1 ++ ([(⟨at__1, r_3.1⟩ : Arr2_Int)] : List Arr2_Int)))] hmix (ac (by first | (simp; done) | (simp; omega) : (row_1).length = ((List.map e_Arr2_Int row_1)).length) (ac (by first | (simp; done) | (simp; omega) : 1 = ((List.map e_Arr2_Int ([(⟨at__1, r_3.1⟩ : Arr2_Int)] : List Arr2_Int))).length) (ac (vc_app _ _ : (Mp e_Arr2_Int (row_1 ++ ([(⟨at__1, r_3.1⟩ : Arr2_Int)] : List Arr2_Int))) = (Mp e_Arr2_Int row_1) ++ (Mp e_Arr2_Int ([(⟨at__1, r_3.1⟩ : Arr2_Int)] : List Arr2_Int))) (ac (by simp : ((row_1 ++ ([(⟨at__1, r_3.1⟩ : Arr2_Int)] : List Arr2_Int))).length = ((List.map e_Arr2_Int (row_1 ++ ([(⟨at__1, r_3.1⟩ : Arr2_Int)] : List Arr2_Int)))).length) (ac (by first | (simp; done) | simpa using h_7 : (((List.map e_Arr2_Int row_1) : List AV).length + ((List.map e_Arr2_Int ([(⟨at__1, r_3.1⟩ : Arr2_Int)] : List Arr2_Int)) : List AV).length) * 16 ≤ 140737488355328) an))))) ?_
  refine rg [] [0, 1, 11, 12, 13, 30, 31, 32] [3] 4 [.sl false 1 (Ms names_1), .sl false 2 (Mp e_Arr2_Int stacks_1), Ii (lN (row_1)), .sl false 1 (Ms r_3.2.1), .own 3 (((row_1 ++ ([(⟨at__1, r_3.1⟩ : Arr2_Int)] : List Arr2_Int))).length), .sl false 1 (Ms l_1), Ii (lN (l_1)), Ii (w_i64 (v_1 + (1 : Int)))] [Rb 57 2 (Mp e_Arr2_Int (row_1 ++ ([(⟨at__1, r_3.1⟩ : Arr2_Int)] : List Arr2_Int)))] hmix an ?_
  exact ⟨_, (sw [3] [] [.s 0, .s 1, .s 11, .s 12, .s 13, .s 30, .s 31, .s 32] [.s 0] an), _, _, _, _, rfl, h⟩
 intro e st1 hk
 rcases o_1 with q_1 | q_2
 rotate_left
 ·obtain ⟨rfl, hf⟩ := hk
  cases h
  exact ⟨st1, Sub.refl _ _, .inr rfl, hf⟩
 obtain ⟨rfl, hs⟩ := hk
 refine ⟨_, hs, ?_⟩
 refine sr [] [6, 7, 8, 9] [0] 1 [Ii q_1.1, .sl false 1 (Ms q_1.2.1), .own 0 ((q_1.2.2).length), Ii 0] [Rb 57 2 (Mp e_Arr2_Int q_1.2.2)] hmix an ?_
 refine wk [] [0] [.s 6, .s 7, .a 8 (.sl false 2 (Mp e_Arr2_Int q_1.2.2)), .s 9] [] [(6, Ii q_1.1), (7, .sl false 1 (Ms q_1.2.1)), (8, .sl false 2 (Mp e_Arr2_Int q_1.2.2)), (9, Ii 0)] [] (ac (by first | (simp; done) | (simp; omega) : (q_1.2.2).length = ((List.map e_Arr2_Int q_1.2.2)).length) (ar 2 (ar ((Mp e_Arr2_Int q_1.2.2) : List AV) (ac (rfl : (!false || false) = true) an)))) ?_
 refine rt ?_
 cases h
 exact ⟨.inr rfl, Nat.le_of_ble_eq_true rfl, by kernel_rfl⟩

theorem record_Encode_ok (F : Nat) (names_1 : List (List Int)) (stacks_1 : List (Arr2_Int)) (e_1 : T_api_Event) (r : (List (Int)) × (List (List Int)) × (List (Arr2_Int)) × Int) (h : record_Encode F names_1 stacks_1 e_1 = some r) : TripleG prog 31 [] [] [.sl false 1 (Ms names_1), .sl false 2 (Mp e_Arr2_Int stacks_1), e_T_api_Event e_1] [.row 5 1 (Mb r.1)] (.tuple [.own 0 ((r.1).length), .sl false 1 (Ms r.2.1), .sl false 2 (Mp e_Arr2_Int r.2.2.1), Ii r.2.2.2]) := by
 refine triple_intro (fn := Go.Proofs.Try.f31) (code := codeOf Go.Proofs.Try.f31) (by kernel_rfl) (by kernel_rfl) (Nat.le_of_ble_eq_true (by kernel_rfl)) ?_
 unfold record_Encode at h
 refine sr [(0, { id := 0 }), (1, { id := 1, m := 1 })] [0, 1, 5] [0] 2 [.sl false 1 (Ms names_1), .sl false 2 (Mp e_Arr2_Int stacks_1), Pp 0] [Vb 33 (v_T_api_Event e_1)] hmix an ?_
 refine sq ?_
 refine sq ?_
 obtain ⟨r_1, h_1, h⟩ := bind_some h
 refine rg [(2, { av := Ii r_1, l := [.sl false 1 (Ms names_1), .sl false 2 (Mp e_Arr2_Int stacks_1)] })] [0, 1, 5, 26] [0] 2 [.sl false 1 (Ms names_1), .sl false 2 (Mp e_Arr2_Int stacks_1), Pp 0, .bool (r_1 != (0 : Int))] [Vb 33 (v_T_api_Event e_1)] hmix (ar ([.sl false 1 (Ms names_1), .sl false 2 (Mp e_Arr2_Int stacks_1)] : List AV) (ac (rfl : ([] : List BoxSt) = []) (ac (intern_Check_ok F names_1 stacks_1 r_1 h_1 : TripleG prog 40 [] [] [.sl false 1 (Ms names_1), .sl false 2 (Mp e_Arr2_Int stacks_1)] [] (Ii r_1)) an))) ?_
 refine cd 26 (r_1 != (0 : Int)) ?_ ?_
 ·intro g_1; replace h := cond_t g_1 h
  refine sr [(0, { id := 2, m := 1 })] [6, 7, 8, 9] [2] 3 [.own 2 0, .nilsl, .nilsl, Ii 1] [Rb 5 1 []] hmix an ?_
  refine wk [2] [] [.a 6 (.own 0 ((([] : List Int)).length)), .a 7 (.sl false 1 []), .a 8 (.sl false 2 []), .s 9] [.s 0] [(6, .own 0 ((([] : List Int)).length)), (7, .sl false 1 []), (8, .sl false 2 []), (9, Ii 1)] [(0, Rb 5 1 [])] (ac (congrArg (AV.own _) (by first | (simp; done) | (simp; omega)) : (.own 2 0 : AV) = .own 2 ((([] : List Int)).length)) (ar ([] : List AV) (ar ([] : List AV) an))) ?_
  refine rt ?_
  cases h
  exact ⟨.inr rfl, Nat.le_of_ble_eq_true rfl, by kernel_rfl⟩
 intro g_1; replace h := cond_f g_1 h
 refine sk ?_
 refine sq ?_
 refine sq ?_
 obtain ⟨r_2, h_2, h⟩ := bind_some h
 refine rg [(1, { av := Ii r_2, l := [e_T_api_Event e_1] })] [0, 1, 5, 10] [0] 2 [.sl false 1 (Ms names_1), .sl false 2 (Mp e_Arr2_Int stacks_1), Pp 0, Ii r_2] [Vb 33 (v_T_api_Event e_1)] hmix (ar ([e_T_api_Event e_1] : List AV) (ac (rfl : ([] : List BoxSt) = []) (ac (event_Check_ok F e_1 r_2 h_2 : TripleG prog 48 [] [] [e_T_api_Event e_1] [] (Ii r_2)) an))) ?_
 refine sr [] [0, 1, 5, 10, 30] [0] 2 [.sl false 1 (Ms names_1), .sl false 2 (Mp e_Arr2_Int stacks_1), Pp 0, Ii r_2, .bool (r_2 != (0 : Int))] [Vb 33 (v_T_api_Event e_1)] hmix an ?_
 refine cd 30 (r_2 != (0 : Int)) ?_ ?_
 ·intro g_2; replace h := cond_t g_2 h
  refine sr [(1, { id := 2, m := 1 })] [6, 7, 8, 9] [2] 3 [.own 2 0, .nilsl, .nilsl, Ii r_2] [Rb 5 1 []] hmix an ?_
  refine wk [2] [] [.a 6 (.own 0 ((([] : List Int)).length)), .a 7 (.sl false 1 []), .a 8 (.sl false 2 []), .s 9] [.s 0] [(6, .own 0 ((([] : List Int)).length)), (7, .sl false 1 []), (8, .sl false 2 []), (9, Ii r_2)] [(0, Rb 5 1 [])] (ac (congrArg (AV.own _) (by first | (simp; done) | (simp; omega)) : (.own 2 0 : AV) = .own 2 ((([] : List Int)).length)) (ar ([] : List AV) (ar ([] : List AV) an))) ?_
  refine rt ?_
  cases h
  exact ⟨.inr rfl, Nat.le_of_ble_eq_true rfl, by kernel_rfl⟩
 intro g_2; replace h := cond_f g_2 h
 refine sk ?_
 refine sq ?_
 obtain ⟨r_3, h_3, h⟩ := bind_some h
 refine rg [(2, { av := .tuple [.bool r_3.1, .bool r_3.2.1, .bool r_3.2.2.1, .bool r_3.2.2.2], l := [Ii e_1.Kind] })] [0, 1, 5, 11, 12, 13, 14] [0] 2 [.sl false 1 (Ms names_1), .sl false 2 (Mp e_Arr2_Int stacks_1), Pp 0, .bool r_3.1, .bool r_3.2.1, .bool r_3.2.2.1, .bool r_3.2.2.2] [Vb 33 (v_T_api_Event e_1)] hmix (ar ([Ii e_1.Kind] : List AV) (ac (rfl : ([] : List BoxSt) = []) (ac (record_uses_ok e_1.Kind r_3 h_3 : TripleG prog 51 [] [] [Ii e_1.Kind] [] (.tuple [.bool r_3.1, .bool r_3.2.1, .bool r_3.2.2.1, .bool r_3.2.2.2])) an))) ?_
 refine sq ?_
 obtain ⟨r_4, h_4, h⟩ := bind_some h
 obtain ⟨r_5, h_5, h⟩ := bind_some h
 refine rg [(2, { av := .own 0 ((r_4).length), ids := [2], l := [.nilsl, Ii e_1.Kind], post := [(.row 5 1 (Mb r_4))] }), (5, { av := .own 0 ((r_5).length), frz := [2], ids := [3], l := [.sl false 1 (Mb r_4), Ii e_1.At], post := [(.row 5 1 (Mb r_5))] })] [0, 1, 5, 11, 12, 13, 14, 15] [0, 3] 4 [.sl false 1 (Ms names_1), .sl false 2 (Mp e_Arr2_Int stacks_1), Pp 0, .bool r_3.1, .bool r_3.2.1, .bool r_3.2.2.1, .bool r_3.2.2.2, .own 3 ((r_5).length)] [Vb 33 (v_T_api_Event e_1), Rb 5 1 (Mb r_5)] hmix (ar ([.nilsl, Ii e_1.Kind] : List AV) (ac (rfl : ([] : List BoxSt) = []) (ac (triple_lo (args' := [.sl false 1 [], Ii e_1.Kind]) (codec_PutInt_ok F [] e_1.Kind r_4 h_4) rfl ⟨rfl, rfl, trivial⟩ : TripleG prog 52 [] [] [.nilsl, Ii e_1.Kind] [(.row 5 1 (Mb r_4))] (.own 0 ((r_4).length))) (ac (by first | (simp; done) | (simp; omega) : (r_4).length = ((List.map (AV.int .u8) r_4)).length) (ar ([.sl false 1 (Mb r_4), Ii e_1.At] : List AV) (ac (rfl : ([] : List BoxSt) = []) (ac (codec_PutInt_ok F r_4 e_1.At r_5 h_5 : TripleG prog 52 [] [] [.sl false 1 (Mb r_4), Ii e_1.At] [(.row 5 1 (Mb r_5))] (.own 0 ((r_5).length))) an))))))) ?_
 refine sq ?_
 refine sr [] [0, 1, 5, 12, 13, 14, 15, 46] [0, 3] 4 [.sl false 1 (Ms names_1), .sl false 2 (Mp e_Arr2_Int stacks_1), Pp 0, .bool r_3.2.1, .bool r_3.2.2.1, .bool r_3.2.2.2, .own 3 ((r_5).length), .bool r_3.1] [Vb 33 (v_T_api_Event e_1), Rb 5 1 (Mb r_5)] hmix an ?_
 obtain ⟨o_1, h_6, h⟩ := bind_some h
 refine aw_conv (K1 := (fun e st' => match o_1 with | (.inl q0) => e = .normal ∧ Sub 0 st' (mk [(0, .sl false 1 (Ms q0.1)), (1, .sl false 2 (Mp e_Arr2_Int stacks_1)), (5, Pp 0), (12, .bool r_3.2.1), (13, .bool r_3.2.2.1), (14, .bool r_3.2.2.2), (15, .own 1 ((q0.2).length))] [(0, Vb 33 (v_T_api_Event e_1)), (1, Rb 5 1 (Mb q0.2))] 2) | (.inr q1) => e = .ret ∧ FinR prog Go.Proofs.Try.f31 0 [.row 5 1 (Mb q1.1)] (.tuple [.own 0 ((q1.1).length), .sl false 1 (Ms q1.2.1), .sl false 2 (Mp e_Arr2_Int q1.2.2.1), Ii q1.2.2.2]) st')) ?_ ?_
 ·replace h := h_6
  refine cd 46 r_3.1 ?_ ?_
  rotate_left
  ·intro g_3; replace h := cond_f g_3 h
   refine sk ?_
   cases h
   exact ⟨rfl, (sw [0, 3] [] [.s 0, .s 1, .s 5, .s 12, .s 13, .s 14, .s 15] [.s 0, .s 1] an)⟩
  intro g_3; replace h := cond_t g_3 h
  refine sq ?_
  obtain ⟨r_6, h_7, h⟩ := bind_some h
  refine rg [(3, { av := .tuple [Ii r_6.1, .sl false 1 (Ms r_6.2.1), Ii r_6.2.2], l := [.sl false 1 (Ms names_1), .str e_1.Name] })] [1, 5, 12, 13, 14, 15, 16, 17, 18] [0, 3] 4 [.sl false 2 (Mp e_Arr2_Int stacks_1), Pp 0, .bool r_3.2.1, .bool r_3.2.2.1, .bool r_3.2.2.2, .own 3 ((r_5).length), Ii r_6.1, .sl false 1 (Ms r_6.2.1), Ii r_6.2.2] [Vb 33 (v_T_api_Event e_1), Rb 5 1 (Mb r_5)] hmix (ar ([.sl false 1 (Ms names_1), .str e_1.Name] : List AV) (ac (rfl : ([] : List BoxSt) = []) (ac (intern_Put_ok F names_1 e_1.Name r_6 h_7 : TripleG prog 53 [] [] [.sl false 1 (Ms names_1), .str e_1.Name] [] (.tuple [Ii r_6.1, .sl false 1 (Ms r_6.2.1), Ii r_6.2.2])) an))) ?_
  refine sq ?_
  refine sr [] [1, 5, 12, 13, 14, 15, 16, 17, 18, 56] [0, 3] 4 [.sl false 2 (Mp e_Arr2_Int stacks_1), Pp 0, .bool r_3.2.1, .bool r_3.2.2.1, .bool r_3.2.2.2, .own 3 ((r_5).length), Ii r_6.1, .sl false 1 (Ms r_6.2.1), Ii r_6.2.2, .bool (r_6.2.2 != (0 : Int))] [Vb 33 (v_T_api_Event e_1), Rb 5 1 (Mb r_5)] hmix an ?_
  refine cd 56 (r_6.2.2 != (0 : Int)) ?_ ?_
  rotate_left
  ·intro g_4; replace h := cond_f g_4 h
   refine sk ?_
   obtain ⟨r_7, h_8, h⟩ := bind_some h
   refine rg [(2, { av := .own 0 ((r_7).length), frz := [3], ids := [4], l := [.sl false 1 (Mb r_5), Ii r_6.1], post := [(.row 5 1 (Mb r_7))] })] [0, 1, 5, 12, 13, 14, 15] [0, 4] 5 [.sl false 1 (Ms r_6.2.1), .sl false 2 (Mp e_Arr2_Int stacks_1), Pp 0, .bool r_3.2.1, .bool r_3.2.2.1, .bool r_3.2.2.2, .own 4 ((r_7).length)] [Vb 33 (v_T_api_Event e_1), Rb 5 1 (Mb r_7)] hmix (ac (by first | (simp; done) | (simp; omega) : (r_5).length = ((List.map (AV.int .u8) r_5)).length) (ar ([.sl false 1 (Mb r_5), Ii r_6.1] : List AV) (ac (rfl : ([] : List BoxSt) = []) (ac (codec_PutInt_ok F r_5 r_6.1 r_7 h_8 : TripleG prog 52 [] [] [.sl false 1 (Mb r_5), Ii r_6.1] [(.row 5 1 (Mb r_7))] (.own 0 ((r_7).length))) an)))) ?_
   cases h
   exact ⟨rfl, (sw [0, 4] [] [.s 0, .s 1, .s 5, .s 12, .s 13, .s 14, .s 15] [.s 0, .s 1] an)⟩
  intro g_4; replace h := cond_t g_4 h
  refine sr [(1, { id := 4, m := 1 })] [6, 7, 8, 9] [4] 5 [.own 4 0, .nilsl, .nilsl, Ii r_6.2.2] [Rb 5 1 []] hmix an ?_
  refine wk [4] [] [.a 6 (.own 0 ((([] : List Int)).length)), .a 7 (.sl false 1 []), .a 8 (.sl false 2 []), .s 9] [.s 0] [(6, .own 0 ((([] : List Int)).length)), (7, .sl false 1 []), (8, .sl false 2 []), (9, Ii r_6.2.2)] [(0, Rb 5 1 [])] (ac (congrArg (AV.own _) (by first | (simp; done) | (simp; omega)) : (.own 4 0 : AV) = .own 4 ((([] : List Int)).length)) (ar ([] : List AV) (ar ([] : List AV) an))) ?_
  refine rt ?_
  cases h
  exact ⟨rfl, Nat.le_of_ble_eq_true rfl, by kernel_rfl⟩
 intro e st1 hk
 rcases o_1 with q_1 | q_2
 rotate_left
 ·obtain ⟨rfl, hf⟩ := hk
  cases h
  exact ⟨st1, Sub.refl _ _, .inr rfl, hf⟩
 obtain ⟨rfl, hs⟩ := hk
 refine ⟨_, hs, ?_⟩
 refine sq ?_
 refine sr [] [0, 1, 5, 13, 14, 15, 62] [0, 1] 2 [.sl false 1 (Ms q_1.1), .sl false 2 (Mp e_Arr2_Int stacks_1), Pp 0, .bool r_3.2.2.1, .bool r_3.2.2.2, .own 1 ((q_1.2).length), .bool r_3.2.1] [Vb 33 (v_T_api_Event e_1), Rb 5 1 (Mb q_1.2)] hmix an ?_
 obtain ⟨o_2, h_9, h⟩ := bind_some h
 refine aw_mid (mk [(0, .sl false 1 (Ms q_1.1)), (1, .sl false 2 (Mp e_Arr2_Int stacks_1)), (5, Pp 0), (13, .bool r_3.2.2.1), (14, .bool r_3.2.2.2), (15, .own 1 ((o_2).length))] [(0, Vb 33 (v_T_api_Event e_1)), (1, Rb 5 1 (Mb o_2))] 2) ?_ ?_
 ·replace h := h_9
  refine cd 62 r_3.2.1 ?_ ?_
  rotate_left
  ·intro g_5; replace h := cond_f g_5 h
   refine sk ?_
   cases h
   exact ⟨rfl, (sw [0, 1] [] [.s 0, .s 1, .s 5, .s 13, .s 14, .s 15] [.s 0, .s 1] an)⟩
  intro g_5; replace h := cond_t g_5 h
  obtain ⟨r_8, h_10, h⟩ := bind_some h
  refine rg [(3, { av := .own 0 ((r_8).length), frz := [1], ids := [2], l := [.sl false 1 (Mb q_1.2), Ii e_1.N], post := [(.row 5 1 (Mb r_8))] })] [0, 1, 5, 13, 14, 15] [0, 2] 3 [.sl false 1 (Ms q_1.1), .sl false 2 (Mp e_Arr2_Int stacks_1), Pp 0, .bool r_3.2.2.1, .bool r_3.2.2.2, .own 2 ((r_8).length)] [Vb 33 (v_T_api_Event e_1), Rb 5 1 (Mb r_8)] hmix (ac (by first | (simp; done) | (simp; omega) : (q_1.2).length = ((List.map (AV.int .u8) q_1.2)).length) (ar ([.sl false 1 (Mb q_1.2), Ii e_1.N] : List AV) (ac (rfl : ([] : List BoxSt) = []) (ac (codec_PutInt_ok F q_1.2 e_1.N r_8 h_10 : TripleG prog 52 [] [] [.sl false 1 (Mb q_1.2), Ii e_1.N] [(.row 5 1 (Mb r_8))] (.own 0 ((r_8).length))) an)))) ?_
  cases h
  exact ⟨rfl, (sw [0, 2] [] [.s 0, .s 1, .s 5, .s 13, .s 14, .s 15] [.s 0, .s 1] an)⟩
 refine sq ?_
 refine sr [] [0, 1, 5, 14, 15, 67] [0, 1] 2 [.sl false 1 (Ms q_1.1), .sl false 2 (Mp e_Arr2_Int stacks_1), Pp 0, .bool r_3.2.2.2, .own 1 ((o_2).length), .bool r_3.2.2.1] [Vb 33 (v_T_api_Event e_1), Rb 5 1 (Mb o_2)] hmix an ?_
 obtain ⟨o_3, h_11, h⟩ := bind_some h
 refine aw_mid (mk [(0, .sl false 1 (Ms q_1.1)), (1, .sl false 2 (Mp e_Arr2_Int stacks_1)), (5, Pp 0), (14, .bool r_3.2.2.2), (15, .own 1 ((o_3).length))] [(0, Vb 33 (v_T_api_Event e_1)), (1, Rb 5 1 (Mb o_3))] 2) ?_ ?_
 ·replace h := h_11
  refine cd 67 r_3.2.2.1 ?_ ?_
  rotate_left
  ·intro g_6; replace h := cond_f g_6 h
   refine sk ?_
   cases h
   exact ⟨rfl, (sw [0, 1] [] [.s 0, .s 1, .s 5, .s 14, .s 15] [.s 0, .s 1] an)⟩
  intro g_6; replace h := cond_t g_6 h
  obtain ⟨r_9, h_12, h⟩ := bind_some h
  refine rg [(3, { av := .own 0 ((r_9).length), frz := [1], ids := [2], l := [.sl false 1 (Mb o_2), Ii e_1.M], post := [(.row 5 1 (Mb r_9))] })] [0, 1, 5, 14, 15] [0, 2] 3 [.sl false 1 (Ms q_1.1), .sl false 2 (Mp e_Arr2_Int stacks_1), Pp 0, .bool r_3.2.2.2, .own 2 ((r_9).length)] [Vb 33 (v_T_api_Event e_1), Rb 5 1 (Mb r_9)] hmix (ac (by first | (simp; done) | (simp; omega) : (o_2).length = ((List.map (AV.int .u8) o_2)).length) (ar ([.sl false 1 (Mb o_2), Ii e_1.M] : List AV) (ac (rfl : ([] : List BoxSt) = []) (ac (codec_PutInt_ok F o_2 e_1.M r_9 h_12 : TripleG prog 52 [] [] [.sl false 1 (Mb o_2), Ii e_1.M] [(.row 5 1 (Mb r_9))] (.own 0 ((r_9).length))) an)))) ?_
  cases h
  exact ⟨rfl, (sw [0, 2] [] [.s 0, .s 1, .s 5, .s 14, .s 15] [.s 0, .s 1] an)⟩
 refine sq ?_
 refine sr [] [0, 1, 5, 15, 72] [0, 1] 2 [.sl false 1 (Ms q_1.1), .sl false 2 (Mp e_Arr2_Int stacks_1), Pp 0, .own 1 ((o_3).length), .bool r_3.2.2.2] [Vb 33 (v_T_api_Event e_1), Rb 5 1 (Mb o_3)] hmix an ?_
 obtain ⟨o_4, h_13, h⟩ := bind_some h
 refine aw_conv (K1 := (fun e st' => match o_4 with | (.inl q0) => e = .normal ∧ Sub 0 st' (mk [(0, .sl false 1 (Ms q0.1)), (1, .sl false 2 (Mp e_Arr2_Int q0.2.1)), (15, .own 0 ((q0.2.2).length))] [(0, Rb 5 1 (Mb q0.2.2))] 1) | (.inr q1) => e = .ret ∧ FinR prog Go.Proofs.Try.f31 0 [.row 5 1 (Mb q1.1)] (.tuple [.own 0 ((q1.1).length), .sl false 1 (Ms q1.2.1), .sl false 2 (Mp e_Arr2_Int q1.2.2.1), Ii q1.2.2.2]) st')) ?_ ?_
 ·replace h := h_13
  refine cd 72 r_3.2.2.2 ?_ ?_
  rotate_left
  ·intro g_7; replace h := cond_f g_7 h
   refine sk ?_
   cases h
   exact ⟨rfl, (sw [1] [] [.s 0, .s 1, .s 15] [.s 0] an)⟩
  intro g_7; replace h := cond_t g_7 h
  refine sq ?_
  obtain ⟨r_10, h_14, h⟩ := bind_some h
  refine rg [(4, { av := .tuple [Ii r_10.1, .sl false 1 (Ms r_10.2.1), .sl false 2 (Mp e_Arr2_Int r_10.2.2.1), Ii r_10.2.2.2], l := [.sl false 1 (Ms q_1.1), .sl false 2 (Mp e_Arr2_Int stacks_1), .sl false 1 (Ms e_1.Stack)] })] [15, 19, 20, 21, 22] [1] 2 [.own 1 ((o_3).length), Ii r_10.1, .sl false 1 (Ms r_10.2.1), .sl false 2 (Mp e_Arr2_Int r_10.2.2.1), Ii r_10.2.2.2] [Rb 5 1 (Mb o_3)] hmix (ar ([.sl false 1 (Ms q_1.1), .sl false 2 (Mp e_Arr2_Int stacks_1), .sl false 1 (Ms e_1.Stack)] : List AV) (ac (rfl : ([] : List BoxSt) = []) (ac (intern_PutStack_ok F q_1.1 stacks_1 e_1.Stack r_10 h_14 : TripleG prog 54 [] [] [.sl false 1 (Ms q_1.1), .sl false 2 (Mp e_Arr2_Int stacks_1), .sl false 1 (Ms e_1.Stack)] [] (.tuple [Ii r_10.1, .sl false 1 (Ms r_10.2.1), .sl false 2 (Mp e_Arr2_Int r_10.2.2.1), Ii r_10.2.2.2])) an))) ?_
  refine sq ?_
  refine sr [] [15, 19, 20, 21, 22, 84] [1] 2 [.own 1 ((o_3).length), Ii r_10.1, .sl false 1 (Ms r_10.2.1), .sl false 2 (Mp e_Arr2_Int r_10.2.2.1), Ii r_10.2.2.2, .bool (r_10.2.2.2 != (0 : Int))] [Rb 5 1 (Mb o_3)] hmix an ?_
  refine cd 84 (r_10.2.2.2 != (0 : Int)) ?_ ?_
  rotate_left
  ·intro g_8; replace h := cond_f g_8 h
   refine sk ?_
   obtain ⟨r_11, h_15, h⟩ := bind_some h
   refine rg [(2, { av := .own 0 ((r_11).length), frz := [1], ids := [2], l := [.sl false 1 (Mb o_3), Ii r_10.1], post := [(.row 5 1 (Mb r_11))] })] [0, 1, 15] [2] 3 [.sl false 1 (Ms r_10.2.1), .sl false 2 (Mp e_Arr2_Int r_10.2.2.1), .own 2 ((r_11).length)] [Rb 5 1 (Mb r_11)] hmix (ac (by first | (simp; done) | (simp; omega) : (o_3).length = ((List.map (AV.int .u8) o_3)).length) (ar ([.sl false 1 (Mb o_3), Ii r_10.1] : List AV) (ac (rfl : ([] : List BoxSt) = []) (ac (codec_PutInt_ok F o_3 r_10.1 r_11 h_15 : TripleG prog 52 [] [] [.sl false 1 (Mb o_3), Ii r_10.1] [(.row 5 1 (Mb r_11))] (.own 0 ((r_11).length))) an)))) ?_
   cases h
   exact ⟨rfl, (sw [2] [] [.s 0, .s 1, .s 15] [.s 0] an)⟩
  intro g_8; replace h := cond_t g_8 h
  refine sr [(1, { id := 2, m := 1 })] [6, 7, 8, 9] [2] 3 [.own 2 0, .nilsl, .nilsl, Ii r_10.2.2.2] [Rb 5 1 []] hmix an ?_
  refine wk [2] [] [.a 6 (.own 0 ((([] : List Int)).length)), .a 7 (.sl false 1 []), .a 8 (.sl false 2 []), .s 9] [.s 0] [(6, .own 0 ((([] : List Int)).length)), (7, .sl false 1 []), (8, .sl false 2 []), (9, Ii r_10.2.2.2)] [(0, Rb 5 1 [])] (ac (congrArg (AV.own _) (by first | (simp; done) | (simp; omega)) : (.own 2 0 : AV) = .own 2 ((([] : List Int)).length)) (ar ([] : List AV) (ar ([] : List AV) an))) ?_
  refine rt ?_
  cases h
  exact ⟨rfl, Nat.le_of_ble_eq_true rfl, by kernel_rfl⟩
 intro e st1 hk
 rcases o_4 with q_3 | q_4
 rotate_left
 ·obtain ⟨rfl, hf⟩ := hk
  cases h
  exact ⟨st1, Sub.refl _ _, .inr rfl, hf⟩
 obtain ⟨rfl, hs⟩ := hk
 refine ⟨_, hs, ?_⟩
 refine sr [] [6, 7, 8, 9] [0] 1 [.own 0 ((q_3.2.2).length), .sl false 1 (Ms q_3.1), .sl false 2 (Mp e_Arr2_Int q_3.2.1), Ii 0] [Rb 5 1 (Mb q_3.2.2)] hmix an ?_
 refine wk [0] [] [.s 6, .s 7, .s 8, .s 9] [.s 0] [(6, .own 0 ((q_3.2.2).length)), (7, .sl false 1 (Ms q_3.1)), (8, .sl false 2 (Mp e_Arr2_Int q_3.2.1)), (9, Ii 0)] [(0, Rb 5 1 (Mb q_3.2.2))] an ?_
 refine rt ?_
 cases h
 exact ⟨.inr rfl, Nat.le_of_ble_eq_true rfl, by kernel_rfl⟩

theorem codec_PutText_ok (F : Nat) (b_1 : List (Int)) (s_1 : List Int) (r : (List (Int))) (h : codec_PutText F b_1 s_1 = some r) : TripleG prog 33 [] [] [.sl false 1 (Mb b_1), .str s_1] [.row 5 1 (Mb r)] (.own 0 ((r).length)) := by
 refine triple_intro (fn := Go.Proofs.Try.f33) (code := codeOf Go.Proofs.Try.f33) (by kernel_rfl) (by kernel_rfl) (Nat.le_of_ble_eq_true (by kernel_rfl)) ?_
 unfold codec_PutText at h
 refine sr [(0, { id := 0, m := 1 })] [0, 1] [] 1 [.sl false 1 (Mb b_1), .str s_1] [] hmix an ?_
 refine sq ?_
 obtain ⟨r_1, h_1, h⟩ := bind_some h
 refine rg [(3, { av := .own 0 ((r_1).length), ids := [1], l := [.sl false 1 (Mb b_1), Ii (lN (s_1))], post := [(.row 5 1 (Mb r_1))] })] [1, 5] [1] 2 [.str s_1, .own 1 ((r_1).length)] [Rb 5 1 (Mb r_1)] hmix (ar ([.sl false 1 (Mb b_1), Ii (lN (s_1))] : List AV) (ac (rfl : ([] : List BoxSt) = []) (ac (codec_PutInt_ok F b_1 (lN (s_1)) r_1 h_1 : TripleG prog 52 [] [] [.sl false 1 (Mb b_1), Ii (lN (s_1))] [(.row 5 1 (Mb r_1))] (.own 0 ((r_1).length))) an))) ?_
 refine sq ?_
 obtain ⟨_, h_2, h⟩ := bind_some h; replace h_2 := need_some h_2
 refine rg [(5, { id := 2, l := (Mb (List.replicate ((w_i64 ((lN (r_1)) + (lN (s_1)))).toNat) (0 : Int))), m := (w_i64 ((lN (r_1)) + (lN (s_1)))).toNat, n := (w_i64 ((lN (r_1)) + (lN (s_1)))).toNat })] [1, 5, 6] [1, 2] 3 [.str s_1, .own 1 ((r_1).length), .own 2 ((w_i64 ((lN (r_1)) + (lN (s_1)))).toNat)] [Rb 5 1 (Mb r_1), Rb 5 1 (Mb (List.replicate ((w_i64 ((lN (r_1)) + (lN (s_1)))).toNat) (0 : Int)))] hmix (ac ((Int.toNat_of_nonneg h_2.1).symm : w_i64 ((lN (r_1)) + (lN (s_1))) = (((w_i64 ((lN (r_1)) + (lN (s_1)))).toNat : Nat) : Int)) (ac ((Int.toNat_of_nonneg h_2.1).symm : w_i64 ((lN (r_1)) + (lN (s_1))) = (((w_i64 ((lN (r_1)) + (lN (s_1)))).toNat : Nat) : Int)) (ac (Nat.le_refl _ : ((w_i64 ((lN (r_1)) + (lN (s_1)))).toNat) ≤ ((w_i64 ((lN (r_1)) + (lN (s_1)))).toNat)) (ac h_2.2 (ac (vc_rep : (Mb (List.replicate ((w_i64 ((lN (r_1)) + (lN (s_1)))).toNat) (0 : Int))) = List.replicate ((w_i64 ((lN (r_1)) + (lN (s_1)))).toNat) (Iu 0)) an))))) ?_
 refine sq ?_
 obtain ⟨_, h_3, h⟩ := bind_some h; replace h_3 := need_some h_3
 refine rg [(2, { l := (Mb (cpy (List.replicate ((w_i64 ((lN (r_1)) + (lN (s_1)))).toNat) (0 : Int)) 0 ((w_i64 ((lN (r_1)) + (lN (s_1)))).toNat) r_1)), n := (min (r_1).length ((w_i64 ((lN (r_1)) + (lN (s_1)))).toNat - 0)) })] [1, 5, 6] [1, 2] 3 [.str s_1, .own 1 ((r_1).length), .own 2 ((w_i64 ((lN (r_1)) + (lN (s_1)))).toNat)] [Rb 5 1 (Mb r_1), Rb 5 1 (Mb (cpy (List.replicate ((w_i64 ((lN (r_1)) + (lN (s_1)))).toNat) (0 : Int)) 0 ((w_i64 ((lN (r_1)) + (lN (s_1)))).toNat) r_1))] hmix (ac (by first | (simp; done) | (simp; omega) : (r_1).length = ((List.map (AV.int .u8) r_1)).length) (ac h_3.1 (ac (vc_lenle' h_3.2 : ((w_i64 ((lN (r_1)) + (lN (s_1)))).toNat) ≤ ((Mb (List.replicate ((w_i64 ((lN (r_1)) + (lN (s_1)))).toNat) (0 : Int)))).length) (ac (by simp : (min (r_1).length ((w_i64 ((((r_1).length : Nat) : Int) + (((s_1).length : Nat) : Int))).toNat - 0)) = min ((List.map (AV.int .u8) r_1) : List AV).length ((w_i64 ((((r_1).length : Nat) : Int) + (((s_1).length : Nat) : Int))).toNat - 0)) (ac (by simp [cpy] : (List.map (AV.int .u8) (cpy (List.replicate ((w_i64 ((((r_1).length : Nat) : Int) + (((s_1).length : Nat) : Int))).toNat) (0 : Int)) 0 ((w_i64 ((((r_1).length : Nat) : Int) + (((s_1).length : Nat) : Int))).toNat) r_1)) = ((List.map (AV.int .u8) (List.replicate ((w_i64 ((((r_1).length : Nat) : Int) + (((s_1).length : Nat) : Int))).toNat) (0 : Int)))).take 0 ++ ((List.map (AV.int .u8) r_1) : List AV).take (min (r_1).length ((w_i64 ((((r_1).length : Nat) : Int) + (((s_1).length : Nat) : Int))).toNat - 0)) ++ ((List.map (AV.int .u8) (List.replicate ((w_i64 ((((r_1).length : Nat) : Int) + (((s_1).length : Nat) : Int))).toNat) (0 : Int)))).drop (0 + (min (r_1).length ((w_i64 ((((r_1).length : Nat) : Int) + (((s_1).length : Nat) : Int))).toNat - 0)))) an))))) ?_
 refine sq ?_
 obtain ⟨_, h_4, h⟩ := bind_some h; replace h_4 := need_some h_4
 obtain ⟨_, h_5, h⟩ := bind_some h; replace h_5 := need_some h_5
 refine rg [(5, { l := (Mb (cpy (cpy (List.replicate ((w_i64 ((lN (r_1)) + (lN (s_1)))).toNat) (0 : Int)) 0 ((w_i64 ((lN (r_1)) + (lN (s_1)))).toNat) r_1) ((r_1).length) ((w_i64 ((lN (r_1)) + (lN (s_1)))).toNat) s_1)), n := (min (s_1).length ((w_i64 ((lN (r_1)) + (lN (s_1)))).toNat - (r_1).length)) })] [6] [2] 3 [.own 2 ((w_i64 ((lN (r_1)) + (lN (s_1)))).toNat)] [Rb 5 1 (Mb (cpy (cpy (List.replicate ((w_i64 ((lN (r_1)) + (lN (s_1)))).toNat) (0 : Int)) 0 ((w_i64 ((lN (r_1)) + (lN (s_1)))).toNat) r_1) ((r_1).length) ((w_i64 ((lN (r_1)) + (lN (s_1)))).toNat) s_1))] hmix (ac (Int.natCast_nonneg _ : (0 : Int) ≤ (lN (r_1))) (ac h_4 (ac (Int.le_refl _ : (((w_i64 ((lN (r_1)) + (lN (s_1)))).toNat : Nat) : Int) ≤ (((w_i64 ((lN (r_1)) + (lN (s_1)))).toNat : Nat) : Int)) (ac (trivial : True) (ac h_5.1 (ac (vc_lenle' h_5.2 : ((w_i64 ((lN (r_1)) + (lN (s_1)))).toNat) ≤ ((Mb (cpy (List.replicate ((w_i64 ((lN (r_1)) + (lN (s_1)))).toNat) (0 : Int)) 0 ((w_i64 ((lN (r_1)) + (lN (s_1)))).toNat) r_1))).length) (ac (by simp : (min (s_1).length ((w_i64 ((((r_1).length : Nat) : Int) + (((s_1).length : Nat) : Int))).toNat - (r_1).length)) = min ((List.map (AV.int .u8) s_1) : List AV).length ((w_i64 ((((r_1).length : Nat) : Int) + (((s_1).length : Nat) : Int))).toNat - (r_1).length)) (ac (by simp [cpy] : (List.map (AV.int .u8) (cpy (cpy (List.replicate ((w_i64 ((((r_1).length : Nat) : Int) + (((s_1).length : Nat) : Int))).toNat) (0 : Int)) 0 ((w_i64 ((((r_1).length : Nat) : Int) + (((s_1).length : Nat) : Int))).toNat) r_1) ((r_1).length) ((w_i64 ((((r_1).length : Nat) : Int) + (((s_1).length : Nat) : Int))).toNat) s_1)) = ((List.map (AV.int .u8) (cpy (List.replicate ((w_i64 ((((r_1).length : Nat) : Int) + (((s_1).length : Nat) : Int))).toNat) (0 : Int)) 0 ((w_i64 ((((r_1).length : Nat) : Int) + (((s_1).length : Nat) : Int))).toNat) r_1))).take ((r_1).length) ++ ((List.map (AV.int .u8) s_1) : List AV).take (min (s_1).length ((w_i64 ((((r_1).length : Nat) : Int) + (((s_1).length : Nat) : Int))).toNat - (r_1).length)) ++ ((List.map (AV.int .u8) (cpy (List.replicate ((w_i64 ((((r_1).length : Nat) : Int) + (((s_1).length : Nat) : Int))).toNat) (0 : Int)) 0 ((w_i64 ((((r_1).length : Nat) : Int) + (((s_1).length : Nat) : Int))).toNat) r_1))).drop ((r_1).length + (min (s_1).length ((w_i64 ((((r_1).length : Nat) : Int) + (((s_1).length : Nat) : Int))).toNat - (r_1).length)))) an)))))))) ?_
 refine sr [] [4] [2] 3 [.own 2 ((w_i64 ((lN (r_1)) + (lN (s_1)))).toNat)] [Rb 5 1 (Mb (cpy (cpy (List.replicate ((w_i64 ((lN (r_1)) + (lN (s_1)))).toNat) (0 : Int)) 0 ((w_i64 ((lN (r_1)) + (lN (s_1)))).toNat) r_1) ((r_1).length) ((w_i64 ((lN (r_1)) + (lN (s_1)))).toNat) s_1))] hmix an ?_
 refine wk [2] [] [.a 4 (.own 0 (((cpy (cpy (List.replicate ((w_i64 ((lN (r_1)) + (lN (s_1)))).toNat) (0 : Int)) 0 ((w_i64 ((lN (r_1)) + (lN (s_1)))).toNat) r_1) ((r_1).length) ((w_i64 ((lN (r_1)) + (lN (s_1)))).toNat) s_1)).length))] [.s 0] [(4, .own 0 (((cpy (cpy (List.replicate ((w_i64 ((lN (r_1)) + (lN (s_1)))).toNat) (0 : Int)) 0 ((w_i64 ((lN (r_1)) + (lN (s_1)))).toNat) r_1) ((r_1).length) ((w_i64 ((lN (r_1)) + (lN (s_1)))).toNat) s_1)).length))] [(0, Rb 5 1 (Mb (cpy (cpy (List.replicate ((w_i64 ((lN (r_1)) + (lN (s_1)))).toNat) (0 : Int)) 0 ((w_i64 ((lN (r_1)) + (lN (s_1)))).toNat) r_1) ((r_1).length) ((w_i64 ((lN (r_1)) + (lN (s_1)))).toNat) s_1)))] (ac (congrArg (AV.own _) ((cpy_len h_5.1 h_5.2).trans ((cpy_len h_3.1 h_3.2).trans List.length_replicate)).symm : (.own 2 ((w_i64 ((lN (r_1)) + (lN (s_1)))).toNat) : AV) = .own 2 (((cpy (cpy (List.replicate ((w_i64 ((lN (r_1)) + (lN (s_1)))).toNat) (0 : Int)) 0 ((w_i64 ((lN (r_1)) + (lN (s_1)))).toNat) r_1) ((r_1).length) ((w_i64 ((lN (r_1)) + (lN (s_1)))).toNat) s_1)).length)) an) ?_
 refine rt ?_
 cases h
 exact ⟨.inr rfl, Nat.le_of_ble_eq_true rfl, by kernel_rfl⟩

theorem packet_puts_v2_ok (F : Nat) (l_1 : List (Int)) (r : (List (Int))) (h : packet_puts_v2 F l_1 = some r) : TripleG prog 32 [] [] [.nilsl, .sl false 1 (Mi l_1)] [.row 5 1 (Mb r)] (.own 0 ((r).length)) := by
 refine triple_intro (fn := Go.Proofs.Try.f32) (code := codeOf Go.Proofs.Try.f32) (by kernel_rfl) (by kernel_rfl) (Nat.le_of_ble_eq_true (by kernel_rfl)) ?_
 unfold packet_puts_v2 at h
 refine sr [(0, { id := 0, m := 1 })] [0, 1] [] 1 [.nilsl, .sl false 1 (Mi l_1)] [] hmix an ?_
 refine sq ?_
 refine sr [(1, { n := (l_1).length })] [0, 7, 8, 9] [] 1 [.nilsl, .sl false 1 (Mi l_1), Ii (lN (l_1)), Ii 0] [] hmix (ac (vc_len _ : ((Mi l_1)).length = (l_1).length) an) ?_
 obtain ⟨o_1, h_1, h⟩ := bind_some h
 refine aw_mid (mk [(0, .own 0 ((o_1).length))] [(0, Rb 5 1 (Mb o_1))] 1) ?_ ?_
 ·replace h := h_1
  refine aw_block (id := 0) (by kernel_rfl) ?_
  refine aw_sub (sub_adoptS 0 none 1 5 1 (by kernel_rfl)) ?_
  refine wk [1] [] [.s 0, .s 7, .s 8, .s 9] [.s 0] [(0, .own 0 0), (7, .sl false 1 (Mi l_1)), (8, Ii (lN (l_1))), (9, Ii 0)] [(0, Rb 5 1 [])] an ?_
  refine aw_loopF (fun n st => ∃ (v_1 : Int), ∃ (row_1 : List Int), st = mk [(0, .own 0 ((row_1).length)), (7, .sl false 1 (Mi l_1)), (8, Ii (lN (l_1))), (9, Ii v_1)] [(0, Rb 5 1 (Mb row_1))] 1 ∧ packet_puts_v2_L1 F l_1 n v_1 row_1 = some o_1) F (by kernel_rfl) ⟨_, _, rfl, h⟩ ?_ ?_
  ·rintro _ ⟨_, _, _, h⟩; exact none_ne (h : (none : Option (List Int)) = some o_1)
  rintro n_1 _ ⟨v_1, row_1, rfl, h⟩
  replace h : packet_puts_v2_L1_body F l_1 (packet_puts_v2_L1 F l_1 n_1) v_1 row_1 = some o_1 := h
  unfold packet_puts_v2_L1_body at h
  refine sr [] [0, 7, 8, 9, 10] [0] 1 [.own 0 ((row_1).length), .sl false 1 (Mi l_1), Ii (lN (l_1)), Ii v_1, .bool (decide (v_1 < (lN (l_1))))] [Rb 5 1 (Mb row_1)] hmix an ?_
  refine sq ?_
  refine cd 10 (decide (v_1 < (lN (l_1)))) ?_ ?_
  rotate_left
  ·intro g_1; replace h := cond_f g_1 h
   refine aw_exit (id := 0) (by kernel_rfl) ?_
   cases h
   exact ⟨rfl, (sw [0] [] [.s 0] [.s 0] an)⟩
  intro g_1; replace h := cond_t g_1 h
  refine sk ?_
  refine sq ?_
  refine aw_block (id := 1) (by kernel_rfl) ?_
  refine sq ?_
  obtain ⟨x_1, h_2, h⟩ := bind_some h
  refine rg [(0, { av := Ii x_1 })] [0, 6, 7, 8, 9] [0] 1 [.own 0 ((row_1).length), Ii x_1, .sl false 1 (Mi l_1), Ii (lN (l_1)), Ii v_1] [Rb 5 1 (Mb row_1)] hmix (ac (vc_idx h_2 : idxA (Mi l_1) v_1 = some (Ii x_1)) an) ?_
  obtain ⟨r_1, h_3, h⟩ := bind_some h
  refine rg [(2, { av := .own 0 ((r_1).length), frz := [0], ids := [1], l := [.sl false 1 (Mb row_1), Ii x_1], post := [(.row 5 1 (Mb r_1))] })] [0, 7, 8, 9] [1] 2 [.own 1 ((r_1).length), .sl false 1 (Mi l_1), Ii (lN (l_1)), Ii v_1] [Rb 5 1 (Mb r_1)] hmix (ac (by first | (simp; done) | (simp; omega) : (row_1).length = ((List.map (AV.int .u8) row_1)).length) (ar ([.sl false 1 (Mb row_1), Ii x_1] : List AV) (ac (rfl : ([] : List BoxSt) = []) (ac (codec_PutInt_ok F row_1 x_1 r_1 h_3 : TripleG prog 52 [] [] [.sl false 1 (Mb row_1), Ii x_1] [(.row 5 1 (Mb r_1))] (.own 0 ((r_1).length))) an)))) ?_
  refine rg [] [0, 7, 8, 9] [1] 2 [.own 1 ((r_1).length), .sl false 1 (Mi l_1), Ii (lN (l_1)), Ii (w_i64 (v_1 + (1 : Int)))] [Rb 5 1 (Mb r_1)] hmix an ?_
  exact ⟨_, (sw [1] [] [.s 0, .s 7, .s 8, .s 9] [.s 0] an), _, _, rfl, h⟩
 refine sr [] [4] [0] 1 [.own 0 ((o_1).length)] [Rb 5 1 (Mb o_1)] hmix an ?_
 refine wk [0] [] [.s 4] [.s 0] [(4, .own 0 ((o_1).length))] [(0, Rb 5 1 (Mb o_1))] an ?_
 refine rt ?_
 cases h
 exact ⟨.inr rfl, Nat.le_of_ble_eq_true rfl, by kernel_rfl⟩

theorem packet_puts_v3_ok (F : Nat) (b_1 : List (Int)) (l_1 : List (Int)) (r : (List (Int))) (h : packet_puts_v3 F b_1 l_1 = some r) : TripleG prog 32 [] [(.row 5 1 (Mb b_1))] [.own 0 ((b_1).length), .sl false 1 (Mi l_1)] [.row 5 1 (Mb r)] (.own 0 ((r).length)) := by
 refine triple_introG (fn := Go.Proofs.Try.f32) (code := codeOf Go.Proofs.Try.f32) (by kernel_rfl) (by kernel_rfl) (Nat.le_of_ble_eq_true (by kernel_rfl)) ?_
 unfold packet_puts_v3 at h
 refine sr [(0, { id := 1, m := 1 })] [0, 1] [0] 2 [.own 0 ((b_1).length), .sl false 1 (Mi l_1)] [Rb 5 1 (Mb b_1)] hmix an ?_
 refine sq ?_
 refine sr [(1, { n := (l_1).length })] [0, 7, 8, 9] [0] 2 [.own 0 ((b_1).length), .sl false 1 (Mi l_1), Ii (lN (l_1)), Ii 0] [Rb 5 1 (Mb b_1)] hmix (ac (vc_len _ : ((Mi l_1)).length = (l_1).length) an) ?_
 obtain ⟨o_1, h_1, h⟩ := bind_some h
 refine aw_mid (mk [(0, .own 0 ((o_1).length))] [(0, Rb 5 1 (Mb o_1))] 1) ?_ ?_
 ·replace h := h_1
  refine aw_block (id := 0) (by kernel_rfl) ?_
  refine wk [0] [] [.s 0, .s 7, .s 8, .s 9] [.s 0] [(0, .own 0 ((b_1).length)), (7, .sl false 1 (Mi l_1)), (8, Ii (lN (l_1))), (9, Ii 0)] [(0, Rb 5 1 (Mb b_1))] an ?_
  refine aw_loopF (fun n st => ∃ (v_1 : Int), ∃ (row_1 : List Int), st = mk [(0, .own 0 ((row_1).length)), (7, .sl false 1 (Mi l_1)), (8, Ii (lN (l_1))), (9, Ii v_1)] [(0, Rb 5 1 (Mb row_1))] 1 ∧ packet_puts_v3_L1 F l_1 n v_1 row_1 = some o_1) F (by kernel_rfl) ⟨_, _, rfl, h⟩ ?_ ?_
  ·rintro _ ⟨_, _, _, h⟩; exact none_ne (h : (none : Option (List Int)) = some o_1)
  rintro n_1 _ ⟨v_1, row_1, rfl, h⟩
  replace h : packet_puts_v3_L1_body F l_1 (packet_puts_v3_L1 F l_1 n_1) v_1 row_1 = some o_1 := h
  unfold packet_puts_v3_L1_body at h
  refine sr [] [0, 7, 8, 9, 10] [0] 1 [.own 0 ((row_1).length), .sl false 1 (Mi l_1), Ii (lN (l_1)), Ii v_1, .bool (decide (v_1 < (lN (l_1))))] [Rb 5 1 (Mb row_1)] hmix an ?_
  refine sq ?_
  refine cd 10 (decide (v_1 < (lN (l_1)))) ?_ ?_
  rotate_left
  ·intro g_1; replace h := cond_f g_1 h
   refine aw_exit (id := 0) (by kernel_rfl) ?_
   cases h
   exact ⟨rfl, (sw [0] [] [.s 0] [.s 0] an)⟩
  intro g_1; replace h := cond_t g_1 h
  refine sk ?_
  refine sq ?_
  refine aw_block (id := 1) (by kernel_rfl) ?_
  refine sq ?_
  obtain ⟨x_1, h_2, h⟩ := bind_some h
  refine rg [(0, { av := Ii x_1 })] [0, 6, 7, 8, 9] [0] 1 [.own 0 ((row_1).length), Ii x_1, .sl false 1 (Mi l_1), Ii (lN (l_1)), Ii v_1] [Rb 5 1 (Mb row_1)] hmix (ac (vc_idx h_2 : idxA (Mi l_1) v_1 = some (Ii x_1)) an) ?_
  obtain ⟨r_1, h_3, h⟩ := bind_some h
  refine rg [(2, { av := .own 0 ((r_1).length), frz := [0], ids := [1], l := [.sl false 1 (Mb row_1), Ii x_1], post := [(.row 5 1 (Mb r_1))] })] [0, 7, 8, 9] [1] 2 [.own 1 ((r_1).length), .sl false 1 (Mi l_1), Ii (lN (l_1)), Ii v_1] [Rb 5 1 (Mb r_1)] hmix (ac (by first | (simp; done) | (simp; omega) : (row_1).length = ((List.map (AV.int .u8) row_1)).length) (ar ([.sl false 1 (Mb row_1), Ii x_1] : List AV) (ac (rfl : ([] : List BoxSt) = []) (ac (codec_PutInt_ok F row_1 x_1 r_1 h_3 : TripleG prog 52 [] [] [.sl false 1 (Mb row_1), Ii x_1] [(.row 5 1 (Mb r_1))] (.own 0 ((r_1).length))) an)))) ?_
  refine rg [] [0, 7, 8, 9] [1] 2 [.own 1 ((r_1).length), .sl false 1 (Mi l_1), Ii (lN (l_1)), Ii (w_i64 (v_1 + (1 : Int)))] [Rb 5 1 (Mb r_1)] hmix an ?_
  exact ⟨_, (sw [1] [] [.s 0, .s 7, .s 8, .s 9] [.s 0] an), _, _, rfl, h⟩
 refine sr [] [4] [0] 1 [.own 0 ((o_1).length)] [Rb 5 1 (Mb o_1)] hmix an ?_
 refine wk [0] [] [.s 4] [.s 0] [(4, .own 0 ((o_1).length))] [(0, Rb 5 1 (Mb o_1))] an ?_
 refine rt ?_
 cases h
 exact ⟨.inr rfl, Nat.le_of_ble_eq_true rfl, by kernel_rfl⟩

end Go.Ab
