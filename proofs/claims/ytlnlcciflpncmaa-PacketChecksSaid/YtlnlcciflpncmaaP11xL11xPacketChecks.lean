/- Printed: the typed Lean functions of the Go functions, or the proofs that the Go functions meet them. No conditions but those that the theorems name. -/
import Derived.Test.YtlnlcciflpncmaaP11x4
namespace Go.Ab
open Go
set_option linter.unusedVariables false
theorem L11_PacketChecks_ok (F : Nat) (p_1 : T_api_Packet) (q_1 : T_api_Packet) (r : Bool) (h : L11_PacketChecks F p_1 q_1 = some r) : TripleG prog 3 [] [] [e_T_api_Packet p_1, e_T_api_Packet q_1] [] (.bool r) := by
  refine triple_intro (fn := Go.Proofs.Try.f3) (code := codeOf Go.Proofs.Try.f3) (by kernel_rfl) (by kernel_rfl) (Nat.le_of_ble_eq_true (by kernel_rfl)) ?_
  unfold L11_PacketChecks at h
  refine sr [(0, { id := 0 }), (1, { id := 1 })] [2, 3] [0, 1] 2 [.ptr 0 0 0 0, .ptr 1 0 0 0] [Vb 24 (v_T_api_Packet p_1), Vb 24 (v_T_api_Packet q_1)] hmix an ?_
  refine sq ?_
  refine sq ?_
  obtain ⟨p_2, h_3, h⟩ := bind_some h
  refine aw_mid (mk [(2, .ptr 0 0 0 0), (3, .ptr 1 0 0 0), (12, .bool p_2)] [(0, Vb 24 (v_T_api_Packet p_1)), (1, Vb 24 (v_T_api_Packet q_1))] 2) ?_ ?_
  · replace h := h_3
    obtain ⟨r_1, h_1, h⟩ := bind_some h
    rcases Bool.eq_false_or_eq_true (!r_1) with gg_1 | gg_1
    · replace h := cond_t gg_1 h
      refine rg [(1, { av := .bool r_1, l := [e_T_api_Packet p_1] }), (4, Hg), (5, Hg), (6, Hg), (7, Ht)] [2, 3, 12] [0, 1] 2 [.ptr 0 0 0 0, .ptr 1 0 0 0, .bool true] [Vb 24 (v_T_api_Packet p_1), Vb 24 (v_T_api_Packet q_1)] hmix (ar ([e_T_api_Packet p_1] : List AV) (ac (rfl : ([] : List BoxSt) = []) (ac (L11_few_ok F p_1 r_1 h_1 : TripleG prog 11 [] [] [e_T_api_Packet p_1] [] (.bool r_1)) (ac gg_1 (ac gg_1 (ac gg_1 (ac gg_1 an))))))) ?_
      replace h := Option.some.inj h; subst h
      exact ⟨rfl, (sw [0, 1] [] [.s 2, .s 3, .s 12] [.s 0, .s 1] an)⟩
    · replace h := cond_f gg_1 h
      obtain ⟨r_2, h_2, h⟩ := bind_some h
      refine rg [(1, { av := .bool r_1, l := [e_T_api_Packet p_1] }), (5, { av := .bool r_2, l := [e_T_api_Packet q_1] }), (7, Hf)] [2, 3, 12] [0, 1] 2 [.ptr 0 0 0 0, .ptr 1 0 0 0, .bool (!r_2)] [Vb 24 (v_T_api_Packet p_1), Vb 24 (v_T_api_Packet q_1)] hmix (ar ([e_T_api_Packet p_1] : List AV) (ac (rfl : ([] : List BoxSt) = []) (ac (L11_few_ok F p_1 r_1 h_1 : TripleG prog 11 [] [] [e_T_api_Packet p_1] [] (.bool r_1)) (ac gg_1 (ac gg_1 (ar ([e_T_api_Packet q_1] : List AV) (ac (rfl : ([] : List BoxSt) = []) (ac (L11_few_ok F q_1 r_2 h_2 : TripleG prog 11 [] [] [e_T_api_Packet q_1] [] (.bool r_2)) (ac gg_1 (ac gg_1 an)))))))))) ?_
      replace h := Option.some.inj h; subst h
      exact ⟨rfl, (sw [0, 1] [] [.s 2, .s 3, .s 12] [.s 0, .s 1] an)⟩
  refine cd 12 p_2 ?_ ?_
  · intro g_1; replace h := cond_t g_1 h
    refine sq ?_
    obtain ⟨r_3, h_4, h⟩ := bind_some h
    refine rg [(0, { av := .bool r_3, l := [] })] [4] [] 2 [.bool r_3] [] hmix (ar ([] : List AV) (ac (rfl : ([] : List BoxSt) = []) (ac (L11_lives_ok F r_3 h_4 : TripleG prog 12 [] [] [] [] (.bool r_3)) an))) ?_
    refine aw_ret (by kernel_rfl) ?_
    replace h := Option.some.inj h; subst h
    exact ⟨.inr rfl, Nat.le_of_ble_eq_true rfl, by kernel_rfl⟩
  intro g_1; replace h := cond_f g_1 h
  refine sk ?_
  refine sq ?_
  obtain ⟨p_3, h_11, h⟩ := bind_some h
  refine aw_mid (mk [(4, .bool p_3)] [] 0) ?_ ?_
  · replace h := h_11
    obtain ⟨r_4, h_5, h⟩ := bind_some h
    obtain ⟨r_5, h_6, h⟩ := bind_some h
    rcases Bool.eq_false_or_eq_true (r_4 == r_5) with gg_2 | gg_2
    · replace h := cond_t gg_2 h
      obtain ⟨r_6, h_7, h⟩ := bind_some h
      obtain ⟨r_7, h_8, h⟩ := bind_some h
      rcases Bool.eq_false_or_eq_true (r_6 == r_7) with gg_3 | gg_3
      · replace h := cond_t gg_3 h
        obtain ⟨r_8, h_9, h⟩ := bind_some h
        rcases Bool.eq_false_or_eq_true r_8 with gg_4 | gg_4
        · replace h := cond_t gg_4 h
          obtain ⟨r_9, h_10, h⟩ := bind_some h
          refine rg [(1, { av := Ii r_4, l := [e_T_api_Packet p_1] }), (3, { av := Ii r_5, l := [e_T_api_Packet p_1] }), (8, { av := .bool r_6, l := [e_T_api_Packet p_1, e_T_api_Packet q_1] }), (11, { av := .bool r_7, l := [e_T_api_Packet p_1, e_T_api_Packet q_1] }), (13, Ht), (17, { av := .bool r_8, l := [e_T_api_Packet p_1, e_T_api_Packet p_1] }), (18, Ht), (20, { av := .bool r_9, l := [] }), (21, Ht)] [4] [] 2 [.bool r_9] [] hmix (ar ([e_T_api_Packet p_1] : List AV) (ac (rfl : ([] : List BoxSt) = []) (ac (packet_Check_ok F p_1 r_4 h_5 : TripleG prog 13 [] [] [e_T_api_Packet p_1] [] (Ii r_4)) (ar ([e_T_api_Packet p_1] : List AV) (ac (rfl : ([] : List BoxSt) = []) (ac (R11_Check_ok F p_1 r_5 h_6 : TripleG prog 14 [] [] [e_T_api_Packet p_1] [] (Ii r_5)) (ac gg_2 (ac gg_2 (ac gg_2 (ar ([e_T_api_Packet p_1, e_T_api_Packet q_1] : List AV) (ac (rfl : ([] : List BoxSt) = []) (ac (packet_Same_ok F p_1 q_1 r_6 h_7 : TripleG prog 15 [] [] [e_T_api_Packet p_1, e_T_api_Packet q_1] [] (.bool r_6)) (ac gg_2 (ac gg_2 (ac gg_2 (ar ([e_T_api_Packet p_1, e_T_api_Packet q_1] : List AV) (ac (rfl : ([] : List BoxSt) = []) (ac (R11_Same_ok F p_1 q_1 r_7 h_8 : TripleG prog 16 [] [] [e_T_api_Packet p_1, e_T_api_Packet q_1] [] (.bool r_7)) (ac gg_2 (ac gg_2 (ac gg_3 (ac gg_3 (ac gg_3 (ar ([e_T_api_Packet p_1, e_T_api_Packet p_1] : List AV) (ac (rfl : ([] : List BoxSt) = []) (ac (packet_Same_ok F p_1 p_1 r_8 h_9 : TripleG prog 15 [] [] [e_T_api_Packet p_1, e_T_api_Packet p_1] [] (.bool r_8)) (ac gg_3 (ac gg_4 (ar ([] : List AV) (ac (rfl : ([] : List BoxSt) = []) (ac (L11_lives_ok F r_9 h_10 : TripleG prog 12 [] [] [] [] (.bool r_9)) (ac gg_4 an)))))))))))))))))))))))))))))))) ?_
          replace h := Option.some.inj h; subst h
          exact ⟨rfl, (sw [] [] [.s 4] [] an)⟩
        · replace h := cond_f gg_4 h
          refine rg [(1, { av := Ii r_4, l := [e_T_api_Packet p_1] }), (3, { av := Ii r_5, l := [e_T_api_Packet p_1] }), (8, { av := .bool r_6, l := [e_T_api_Packet p_1, e_T_api_Packet q_1] }), (11, { av := .bool r_7, l := [e_T_api_Packet p_1, e_T_api_Packet q_1] }), (13, Ht), (17, { av := .bool r_8, l := [e_T_api_Packet p_1, e_T_api_Packet p_1] }), (18, Ht), (20, Hg), (21, Hf)] [4] [] 2 [.bool false] [] hmix (ar ([e_T_api_Packet p_1] : List AV) (ac (rfl : ([] : List BoxSt) = []) (ac (packet_Check_ok F p_1 r_4 h_5 : TripleG prog 13 [] [] [e_T_api_Packet p_1] [] (Ii r_4)) (ar ([e_T_api_Packet p_1] : List AV) (ac (rfl : ([] : List BoxSt) = []) (ac (R11_Check_ok F p_1 r_5 h_6 : TripleG prog 14 [] [] [e_T_api_Packet p_1] [] (Ii r_5)) (ac gg_2 (ac gg_2 (ac gg_2 (ar ([e_T_api_Packet p_1, e_T_api_Packet q_1] : List AV) (ac (rfl : ([] : List BoxSt) = []) (ac (packet_Same_ok F p_1 q_1 r_6 h_7 : TripleG prog 15 [] [] [e_T_api_Packet p_1, e_T_api_Packet q_1] [] (.bool r_6)) (ac gg_2 (ac gg_2 (ac gg_2 (ar ([e_T_api_Packet p_1, e_T_api_Packet q_1] : List AV) (ac (rfl : ([] : List BoxSt) = []) (ac (R11_Same_ok F p_1 q_1 r_7 h_8 : TripleG prog 16 [] [] [e_T_api_Packet p_1, e_T_api_Packet q_1] [] (.bool r_7)) (ac gg_2 (ac gg_2 (ac gg_3 (ac gg_3 (ac gg_3 (ar ([e_T_api_Packet p_1, e_T_api_Packet p_1] : List AV) (ac (rfl : ([] : List BoxSt) = []) (ac (packet_Same_ok F p_1 p_1 r_8 h_9 : TripleG prog 15 [] [] [e_T_api_Packet p_1, e_T_api_Packet p_1] [] (.bool r_8)) (ac gg_3 (ac gg_4 (ac gg_4 an))))))))))))))))))))))))))))) ?_
          replace h := Option.some.inj h; subst h
          exact ⟨rfl, (sw [] [] [.s 4] [] an)⟩
      · replace h := cond_f gg_3 h
        refine rg [(1, { av := Ii r_4, l := [e_T_api_Packet p_1] }), (3, { av := Ii r_5, l := [e_T_api_Packet p_1] }), (8, { av := .bool r_6, l := [e_T_api_Packet p_1, e_T_api_Packet q_1] }), (11, { av := .bool r_7, l := [e_T_api_Packet p_1, e_T_api_Packet q_1] }), (13, Ht), (15, Hg), (16, Hg), (17, Hg), (18, Hf), (20, Hg), (21, Hf)] [4] [] 2 [.bool false] [] hmix (ar ([e_T_api_Packet p_1] : List AV) (ac (rfl : ([] : List BoxSt) = []) (ac (packet_Check_ok F p_1 r_4 h_5 : TripleG prog 13 [] [] [e_T_api_Packet p_1] [] (Ii r_4)) (ar ([e_T_api_Packet p_1] : List AV) (ac (rfl : ([] : List BoxSt) = []) (ac (R11_Check_ok F p_1 r_5 h_6 : TripleG prog 14 [] [] [e_T_api_Packet p_1] [] (Ii r_5)) (ac gg_2 (ac gg_2 (ac gg_2 (ar ([e_T_api_Packet p_1, e_T_api_Packet q_1] : List AV) (ac (rfl : ([] : List BoxSt) = []) (ac (packet_Same_ok F p_1 q_1 r_6 h_7 : TripleG prog 15 [] [] [e_T_api_Packet p_1, e_T_api_Packet q_1] [] (.bool r_6)) (ac gg_2 (ac gg_2 (ac gg_2 (ar ([e_T_api_Packet p_1, e_T_api_Packet q_1] : List AV) (ac (rfl : ([] : List BoxSt) = []) (ac (R11_Same_ok F p_1 q_1 r_7 h_8 : TripleG prog 16 [] [] [e_T_api_Packet p_1, e_T_api_Packet q_1] [] (.bool r_7)) (ac gg_2 (ac gg_2 (ac gg_3 (ac gg_3 (ac gg_3 (ac gg_3 (ac (rfl : false = !true) (ar false an)))))))))))))))))))))))))) ?_
        replace h := Option.some.inj h; subst h
        exact ⟨rfl, (sw [] [] [.s 4] [] an)⟩
    · replace h := cond_f gg_2 h
      refine rg [(1, { av := Ii r_4, l := [e_T_api_Packet p_1] }), (3, { av := Ii r_5, l := [e_T_api_Packet p_1] }), (6, Hg), (7, Hg), (8, Hg), (9, Hg), (10, Hg), (11, Hg), (12, Hg), (13, Hf), (15, Hg), (16, Hg), (17, Hg), (18, Hf), (20, Hg), (21, Hf)] [4] [] 2 [.bool false] [] hmix (ar ([e_T_api_Packet p_1] : List AV) (ac (rfl : ([] : List BoxSt) = []) (ac (packet_Check_ok F p_1 r_4 h_5 : TripleG prog 13 [] [] [e_T_api_Packet p_1] [] (Ii r_4)) (ar ([e_T_api_Packet p_1] : List AV) (ac (rfl : ([] : List BoxSt) = []) (ac (R11_Check_ok F p_1 r_5 h_6 : TripleG prog 14 [] [] [e_T_api_Packet p_1] [] (Ii r_5)) (ac gg_2 (ac gg_2 (ac gg_2 (ac gg_2 (ac gg_2 (ac gg_2 (ac gg_2 (ac gg_2 (ac (rfl : false = !true) (ac (rfl : false = !true) (ac (rfl : false = !true) (ar false (ac (rfl : false = !true) (ar false an)))))))))))))))))))) ?_
      replace h := Option.some.inj h; subst h
      exact ⟨rfl, (sw [] [] [.s 4] [] an)⟩
  refine aw_ret (by kernel_rfl) ?_
  replace h := Option.some.inj h; subst h
  exact ⟨.inr rfl, Nat.le_of_ble_eq_true rfl, by kernel_rfl⟩

end Go.Ab
