/- Printed: the typed Lean functions of the Go functions, or the proofs that the Go functions meet them. No conditions but those that the theorems name. -/
import Derived.Test.YtlnlcciflpncmaaP11x4
namespace Go.Ab
open Go
set_option linter.unusedVariables false
theorem L11_PacketJoins_ok (F : Nat) (a_1 : T_api_Packet) (b_1 : T_api_Packet) (r : Bool) (h : L11_PacketJoins F a_1 b_1 = some r) : TripleG prog 9 [] [] [e_T_api_Packet a_1, e_T_api_Packet b_1] [] (.bool r) := by
  refine triple_intro (fn := Go.Proofs.Try.f9) (code := codeOf Go.Proofs.Try.f9) (by kernel_rfl) (by kernel_rfl) (Nat.le_of_ble_eq_true (by kernel_rfl)) ?_
  unfold L11_PacketJoins at h
  refine sr [(0, { id := 0 }), (1, { id := 1 })] [2, 3] [0, 1] 2 [Pp 0, Pp 1] [Vb 24 (v_T_api_Packet a_1), Vb 24 (v_T_api_Packet b_1)] hmix an ?_
  refine sq ?_
  refine sq ?_
  obtain ⟨p_1, h_3, h⟩ := bind_some h
  refine aw_mid (mk [(2, Pp 0), (3, Pp 1), (19, .bool p_1)] [(0, Vb 24 (v_T_api_Packet a_1)), (1, Vb 24 (v_T_api_Packet b_1))] 2) ?_ ?_
  · replace h := h_3
    obtain ⟨r_1, h_1, h⟩ := bind_some h
    rcases bft (!r_1) with gg_1 | gg_1
    · replace h := cond_t gg_1 h
      refine rg [(1, { av := .bool r_1, l := [e_T_api_Packet a_1] }), (4, Hg), (5, Hg), (6, Hg), (7, Ht)] [2, 3, 19] [0, 1] 2 [Pp 0, Pp 1, .bool true] [Vb 24 (v_T_api_Packet a_1), Vb 24 (v_T_api_Packet b_1)] hmix (ar ([e_T_api_Packet a_1] : List AV) (ac (rfl : ([] : List BoxSt) = []) (ac (L11_few_ok F a_1 r_1 h_1 : TripleG prog 11 [] [] [e_T_api_Packet a_1] [] (.bool r_1)) (ac gg_1 (ac gg_1 (ac gg_1 (ac gg_1 an))))))) ?_
      cases h
      exact ⟨rfl, (sw [0, 1] [] [.s 2, .s 3, .s 19] [.s 0, .s 1] an)⟩
    · replace h := cond_f gg_1 h
      obtain ⟨r_2, h_2, h⟩ := bind_some h
      refine rg [(1, { av := .bool r_1, l := [e_T_api_Packet a_1] }), (5, { av := .bool r_2, l := [e_T_api_Packet b_1] }), (7, Hf)] [2, 3, 19] [0, 1] 2 [Pp 0, Pp 1, .bool (!r_2)] [Vb 24 (v_T_api_Packet a_1), Vb 24 (v_T_api_Packet b_1)] hmix (ar ([e_T_api_Packet a_1] : List AV) (ac (rfl : ([] : List BoxSt) = []) (ac (L11_few_ok F a_1 r_1 h_1 : TripleG prog 11 [] [] [e_T_api_Packet a_1] [] (.bool r_1)) (ac gg_1 (ac gg_1 (ar ([e_T_api_Packet b_1] : List AV) (ac (rfl : ([] : List BoxSt) = []) (ac (L11_few_ok F b_1 r_2 h_2 : TripleG prog 11 [] [] [e_T_api_Packet b_1] [] (.bool r_2)) (ac gg_1 (ac gg_1 an)))))))))) ?_
      cases h
      exact ⟨rfl, (sw [0, 1] [] [.s 2, .s 3, .s 19] [.s 0, .s 1] an)⟩
  refine cd 19 p_1 ?_ ?_
  · intro g_1; replace h := cond_t g_1 h
    refine sq ?_
    obtain ⟨r_3, h_4, h⟩ := bind_some h
    refine rg [(0, { av := .bool r_3, l := [] })] [4] [] 2 [.bool r_3] [] hmix (ar ([] : List AV) (ac (rfl : ([] : List BoxSt) = []) (ac (L11_lives_ok F r_3 h_4 : TripleG prog 12 [] [] [] [] (.bool r_3)) an))) ?_
    refine rt ?_
    cases h
    exact ⟨.inr rfl, Nat.le_of_ble_eq_true rfl, by kernel_rfl⟩
  intro g_1; replace h := cond_f g_1 h
  refine sk ?_
  refine sq ?_
  obtain ⟨r_4, h_5, h⟩ := bind_some h
  refine rg [(2, { av := .tuple [e_T_api_Packet r_4.1, .bool r_4.2], l := [e_T_api_Packet a_1, e_T_api_Packet b_1] }), (6, { id := 2 })] [2, 3, 5, 6] [0, 1, 2] 3 [Pp 0, Pp 1, Pp 2, .bool r_4.2] [Vb 24 (v_T_api_Packet a_1), Vb 24 (v_T_api_Packet b_1), Vb 24 (v_T_api_Packet r_4.1)] hmix (ar ([e_T_api_Packet a_1, e_T_api_Packet b_1] : List AV) (ac (rfl : ([] : List BoxSt) = []) (ac (packet_Join_ok F a_1 b_1 r_4 h_5 : TripleG prog 21 [] [] [e_T_api_Packet a_1, e_T_api_Packet b_1] [] (.tuple [e_T_api_Packet r_4.1, .bool r_4.2])) an))) ?_
  refine sq ?_
  obtain ⟨r_5, h_6, h⟩ := bind_some h
  refine rg [(2, { av := .tuple [e_T_api_Packet r_5.1, .bool r_5.2], l := [e_T_api_Packet a_1, e_T_api_Packet b_1] }), (6, { id := 3 })] [2, 3, 5, 6, 7, 8] [0, 1, 2, 3] 4 [Pp 0, Pp 1, Pp 2, .bool r_4.2, Pp 3, .bool r_5.2] [Vb 24 (v_T_api_Packet a_1), Vb 24 (v_T_api_Packet b_1), Vb 24 (v_T_api_Packet r_4.1), Vb 24 (v_T_api_Packet r_5.1)] hmix (ar ([e_T_api_Packet a_1, e_T_api_Packet b_1] : List AV) (ac (rfl : ([] : List BoxSt) = []) (ac (R11_Join_ok F a_1 b_1 r_5 h_6 : TripleG prog 22 [] [] [e_T_api_Packet a_1, e_T_api_Packet b_1] [] (.tuple [e_T_api_Packet r_5.1, .bool r_5.2])) an))) ?_
  refine sq ?_
  refine sq ?_
  obtain ⟨p_2, h_8, h⟩ := bind_some h
  refine aw_mid (mk [(2, Pp 0), (3, Pp 1), (5, Pp 2), (6, .bool r_4.2), (41, .bool p_2)] [(0, Vb 24 (v_T_api_Packet a_1)), (1, Vb 24 (v_T_api_Packet b_1)), (2, Vb 24 (v_T_api_Packet r_4.1))] 3) ?_ ?_
  · replace h := h_8
    obtain ⟨r_6, h_7, h⟩ := bind_some h
    rcases bft (!r_6) with gg_2 | gg_2
    · replace h := cond_t gg_2 h
      refine rg [(2, { av := .bool r_6, l := [e_T_api_Packet r_4.1, e_T_api_Packet r_5.1] }), (5, Hg), (6, Hg), (7, Hg), (8, Ht)] [2, 3, 5, 6, 41] [0, 1, 2] 4 [Pp 0, Pp 1, Pp 2, .bool r_4.2, .bool true] [Vb 24 (v_T_api_Packet a_1), Vb 24 (v_T_api_Packet b_1), Vb 24 (v_T_api_Packet r_4.1)] hmix (ar ([e_T_api_Packet r_4.1, e_T_api_Packet r_5.1] : List AV) (ac (rfl : ([] : List BoxSt) = []) (ac (R11_Same_ok F r_4.1 r_5.1 r_6 h_7 : TripleG prog 16 [] [] [e_T_api_Packet r_4.1, e_T_api_Packet r_5.1] [] (.bool r_6)) (ac gg_2 (ac gg_2 (ac gg_2 (ac gg_2 an))))))) ?_
      cases h
      exact ⟨rfl, (sw [0, 1, 2] [] [.s 2, .s 3, .s 5, .s 6, .s 41] [.s 0, .s 1, .s 2] an)⟩
    · replace h := cond_f gg_2 h
      refine rg [(2, { av := .bool r_6, l := [e_T_api_Packet r_4.1, e_T_api_Packet r_5.1] }), (8, Hf)] [2, 3, 5, 6, 41] [0, 1, 2] 4 [Pp 0, Pp 1, Pp 2, .bool r_4.2, .bool (!(r_4.2 == r_5.2))] [Vb 24 (v_T_api_Packet a_1), Vb 24 (v_T_api_Packet b_1), Vb 24 (v_T_api_Packet r_4.1)] hmix (ar ([e_T_api_Packet r_4.1, e_T_api_Packet r_5.1] : List AV) (ac (rfl : ([] : List BoxSt) = []) (ac (R11_Same_ok F r_4.1 r_5.1 r_6 h_7 : TripleG prog 16 [] [] [e_T_api_Packet r_4.1, e_T_api_Packet r_5.1] [] (.bool r_6)) (ac gg_2 (ac gg_2 (ac gg_2 (ac gg_2 an))))))) ?_
      cases h
      exact ⟨rfl, (sw [0, 1, 2] [] [.s 2, .s 3, .s 5, .s 6, .s 41] [.s 0, .s 1, .s 2] an)⟩
  refine cd 41 p_2 ?_ ?_
  · intro g_2; replace h := cond_t g_2 h
    refine sr [] [4] [] 3 [.bool false] [] hmix an ?_
    refine rt ?_
    cases h
    exact ⟨.inr rfl, Nat.le_of_ble_eq_true rfl, by kernel_rfl⟩
  intro g_2; replace h := cond_f g_2 h
  refine sk ?_
  refine sq ?_
  refine sr [] [2, 3, 5, 43] [0, 1, 2] 3 [Pp 0, Pp 1, Pp 2, .bool (!r_4.2)] [Vb 24 (v_T_api_Packet a_1), Vb 24 (v_T_api_Packet b_1), Vb 24 (v_T_api_Packet r_4.1)] hmix an ?_
  refine cd 43 (!r_4.2) ?_ ?_
  · intro g_3; replace h := cond_t g_3 h
    refine sq ?_
    obtain ⟨r_7, h_9, h⟩ := bind_some h
    refine rg [(0, { av := .bool r_7, l := [] })] [4] [] 3 [.bool r_7] [] hmix (ar ([] : List AV) (ac (rfl : ([] : List BoxSt) = []) (ac (L11_lives_ok F r_7 h_9 : TripleG prog 12 [] [] [] [] (.bool r_7)) an))) ?_
    refine rt ?_
    cases h
    exact ⟨.inr rfl, Nat.le_of_ble_eq_true rfl, by kernel_rfl⟩
  intro g_3; replace h := cond_f g_3 h
  refine sk ?_
  refine sq ?_
  obtain ⟨r_8, h_10, h⟩ := bind_some h
  refine rg [(3, { n := (a_1.Events).length }), (4, { av := .tuple [e_T_api_Packet r_8.1, e_T_api_Packet r_8.2.1, .bool r_8.2.2], l := [e_T_api_Packet r_4.1, Ii (lN (a_1.Events))] }), (9, { id := 3 }), (10, { id := 4 })] [2, 3, 9, 10, 11] [0, 1, 3, 4] 5 [Pp 0, Pp 1, Pp 3, Pp 4, .bool r_8.2.2] [Vb 24 (v_T_api_Packet a_1), Vb 24 (v_T_api_Packet b_1), Vb 24 (v_T_api_Packet r_8.1), Vb 24 (v_T_api_Packet r_8.2.1)] hmix (ac (vc_len _ : ((Mp e_T_api_Event a_1.Events)).length = (a_1.Events).length) (ar ([e_T_api_Packet r_4.1, Ii (lN (a_1.Events))] : List AV) (ac (rfl : ([] : List BoxSt) = []) (ac (packet_Split_ok F r_4.1 (lN (a_1.Events)) r_8 h_10 : TripleG prog 23 [] [] [e_T_api_Packet r_4.1, Ii (lN (a_1.Events))] [] (.tuple [e_T_api_Packet r_8.1, e_T_api_Packet r_8.2.1, .bool r_8.2.2])) an)))) ?_
  refine sq ?_
  obtain ⟨p_3, h_14, h⟩ := bind_some h
  refine aw_mid (mk [(4, .bool p_3)] [] 0) ?_ ?_
  · replace h := h_14
    obtain ⟨r_9, h_11, h⟩ := bind_some h
    rcases Bool.eq_false_or_eq_true r_9 with gg_3 | gg_3
    · replace h := cond_t gg_3 h
      obtain ⟨r_10, h_12, h⟩ := bind_some h
      rcases Bool.eq_false_or_eq_true r_10 with gg_4 | gg_4
      · replace h := cond_t gg_4 h
        rcases Bool.eq_false_or_eq_true r_8.2.2 with gg_5 | gg_5
        · replace h := cond_t gg_5 h
          obtain ⟨r_11, h_13, h⟩ := bind_some h
          refine rg [(2, { av := .bool r_9, l := [e_T_api_Packet r_8.1, e_T_api_Packet a_1] }), (6, { av := .bool r_10, l := [e_T_api_Packet r_8.2.1, e_T_api_Packet b_1] }), (7, Ht), (10, Ht), (12, { av := .bool r_11, l := [] }), (13, Ht)] [4] [] 5 [.bool r_11] [] hmix (ar ([e_T_api_Packet r_8.1, e_T_api_Packet a_1] : List AV) (ac (rfl : ([] : List BoxSt) = []) (ac (R11_Same_ok F r_8.1 a_1 r_9 h_11 : TripleG prog 16 [] [] [e_T_api_Packet r_8.1, e_T_api_Packet a_1] [] (.bool r_9)) (ac gg_3 (ac gg_3 (ac gg_3 (ar ([e_T_api_Packet r_8.2.1, e_T_api_Packet b_1] : List AV) (ac (rfl : ([] : List BoxSt) = []) (ac (R11_Same_ok F r_8.2.1 b_1 r_10 h_12 : TripleG prog 16 [] [] [e_T_api_Packet r_8.2.1, e_T_api_Packet b_1] [] (.bool r_10)) (ac gg_3 (ac gg_4 (ac gg_4 (ac gg_5 (ar ([] : List AV) (ac (rfl : ([] : List BoxSt) = []) (ac (L11_lives_ok F r_11 h_13 : TripleG prog 12 [] [] [] [] (.bool r_11)) (ac gg_5 an))))))))))))))))) ?_
          cases h
          exact ⟨rfl, (sw [] [] [.s 4] [] an)⟩
        · replace h := cond_f gg_5 h
          refine rg [(2, { av := .bool r_9, l := [e_T_api_Packet r_8.1, e_T_api_Packet a_1] }), (6, { av := .bool r_10, l := [e_T_api_Packet r_8.2.1, e_T_api_Packet b_1] }), (7, Ht), (10, Ht), (12, Hg), (13, Hf)] [4] [] 5 [.bool false] [] hmix (ar ([e_T_api_Packet r_8.1, e_T_api_Packet a_1] : List AV) (ac (rfl : ([] : List BoxSt) = []) (ac (R11_Same_ok F r_8.1 a_1 r_9 h_11 : TripleG prog 16 [] [] [e_T_api_Packet r_8.1, e_T_api_Packet a_1] [] (.bool r_9)) (ac gg_3 (ac gg_3 (ac gg_3 (ar ([e_T_api_Packet r_8.2.1, e_T_api_Packet b_1] : List AV) (ac (rfl : ([] : List BoxSt) = []) (ac (R11_Same_ok F r_8.2.1 b_1 r_10 h_12 : TripleG prog 16 [] [] [e_T_api_Packet r_8.2.1, e_T_api_Packet b_1] [] (.bool r_10)) (ac gg_3 (ac gg_4 (ac gg_4 (ac gg_5 (ac gg_5 an)))))))))))))) ?_
          cases h
          exact ⟨rfl, (sw [] [] [.s 4] [] an)⟩
      · replace h := cond_f gg_4 h
        refine rg [(2, { av := .bool r_9, l := [e_T_api_Packet r_8.1, e_T_api_Packet a_1] }), (6, { av := .bool r_10, l := [e_T_api_Packet r_8.2.1, e_T_api_Packet b_1] }), (7, Ht), (9, Hg), (10, Hf), (12, Hg), (13, Hf)] [4] [] 5 [.bool false] [] hmix (ar ([e_T_api_Packet r_8.1, e_T_api_Packet a_1] : List AV) (ac (rfl : ([] : List BoxSt) = []) (ac (R11_Same_ok F r_8.1 a_1 r_9 h_11 : TripleG prog 16 [] [] [e_T_api_Packet r_8.1, e_T_api_Packet a_1] [] (.bool r_9)) (ac gg_3 (ac gg_3 (ac gg_3 (ar ([e_T_api_Packet r_8.2.1, e_T_api_Packet b_1] : List AV) (ac (rfl : ([] : List BoxSt) = []) (ac (R11_Same_ok F r_8.2.1 b_1 r_10 h_12 : TripleG prog 16 [] [] [e_T_api_Packet r_8.2.1, e_T_api_Packet b_1] [] (.bool r_10)) (ac gg_3 (ac gg_4 (ac gg_4 (ac (rfl : false = !true) (ar false an)))))))))))))) ?_
        cases h
        exact ⟨rfl, (sw [] [] [.s 4] [] an)⟩
    · replace h := cond_f gg_3 h
      refine rg [(2, { av := .bool r_9, l := [e_T_api_Packet r_8.1, e_T_api_Packet a_1] }), (4, Hg), (5, Hg), (6, Hg), (7, Hf), (9, Hg), (10, Hf), (12, Hg), (13, Hf)] [4] [] 5 [.bool false] [] hmix (ar ([e_T_api_Packet r_8.1, e_T_api_Packet a_1] : List AV) (ac (rfl : ([] : List BoxSt) = []) (ac (R11_Same_ok F r_8.1 a_1 r_9 h_11 : TripleG prog 16 [] [] [e_T_api_Packet r_8.1, e_T_api_Packet a_1] [] (.bool r_9)) (ac gg_3 (ac gg_3 (ac gg_3 (ac gg_3 (ac (rfl : false = !true) (ar false (ac (rfl : false = !true) (ar false an))))))))))) ?_
      cases h
      exact ⟨rfl, (sw [] [] [.s 4] [] an)⟩
  refine rt ?_
  cases h
  exact ⟨.inr rfl, Nat.le_of_ble_eq_true rfl, by kernel_rfl⟩

end Go.Ab
