/- Printed: the typed Lean functions of the Go functions, or the proofs that the Go functions meet them. No conditions but those that the theorems name. -/
import Derived.Test.YtlnlcciflpncmaaP11x4
namespace Go.Ab
open Go
set_option linter.unusedVariables false
theorem L11_PacketSplits_ok (F : Nat) (p_1 : T_api_Packet) (n_1 : Int) (r : Bool) (h : L11_PacketSplits F p_1 n_1 = some r) : TripleG prog 10 [] [] [e_T_api_Packet p_1, Ii n_1] [] (.bool r) := by
 refine triple_intro (fn := Go.Proofs.Try.f10) (code := codeOf Go.Proofs.Try.f10) (by kernel_rfl) (by kernel_rfl) (Nat.le_of_ble_eq_true (by kernel_rfl)) ?_
 unfold L11_PacketSplits at h
 refine sr [(0, { id := 0 })] [1, 2] [0] 1 [Ii n_1, Pp 0] [Vb 24 (v_T_api_Packet p_1)] hmix an ?_
 refine sq ?_
 refine sq ?_
 obtain ⟨r_1, h_1, h⟩ := bind_some h
 refine rg [(1, { av := .bool r_1, l := [e_T_api_Packet p_1] })] [1, 2, 15] [0] 1 [Ii n_1, Pp 0, .bool (!r_1)] [Vb 24 (v_T_api_Packet p_1)] hmix (ar ([e_T_api_Packet p_1] : List AV) (ac (rfl : ([] : List BoxSt) = []) (ac (L11_few_ok F p_1 r_1 h_1 : TripleG prog 11 [] [] [e_T_api_Packet p_1] [] (.bool r_1)) an))) ?_
 refine cd 15 (!r_1) ?_ ?_
 ·intro g_1; replace h := cond_t g_1 h
  refine sq ?_
  obtain ⟨r_2, h_2, h⟩ := bind_some h
  refine rg [(0, { av := .bool r_2, l := [] })] [4] [] 1 [.bool r_2] [] hmix (ar ([] : List AV) (ac (rfl : ([] : List BoxSt) = []) (ac (L11_lives_ok F r_2 h_2 : TripleG prog 12 [] [] [] [] (.bool r_2)) an))) ?_
  refine rt ?_
  cases h
  exact ⟨.inr rfl, Nat.le_of_ble_eq_true rfl, by kernel_rfl⟩
 intro g_1; replace h := cond_f g_1 h
 refine sk ?_
 refine sq ?_
 obtain ⟨r_3, h_3, h⟩ := bind_some h
 refine rg [(2, { av := .tuple [e_T_api_Packet r_3.1, e_T_api_Packet r_3.2.1, .bool r_3.2.2], l := [e_T_api_Packet p_1, Ii n_1] }), (7, { id := 1 }), (8, { id := 2 })] [1, 2, 5, 6, 7] [0, 1, 2] 3 [Ii n_1, Pp 0, Pp 1, Pp 2, .bool r_3.2.2] [Vb 24 (v_T_api_Packet p_1), Vb 24 (v_T_api_Packet r_3.1), Vb 24 (v_T_api_Packet r_3.2.1)] hmix (ar ([e_T_api_Packet p_1, Ii n_1] : List AV) (ac (rfl : ([] : List BoxSt) = []) (ac (packet_Split_ok F p_1 n_1 r_3 h_3 : TripleG prog 23 [] [] [e_T_api_Packet p_1, Ii n_1] [] (.tuple [e_T_api_Packet r_3.1, e_T_api_Packet r_3.2.1, .bool r_3.2.2])) an))) ?_
 refine sq ?_
 obtain ⟨r_4, h_4, h⟩ := bind_some h
 refine rg [(2, { av := .tuple [e_T_api_Packet r_4.1, e_T_api_Packet r_4.2.1, .bool r_4.2.2], l := [e_T_api_Packet p_1, Ii n_1] }), (7, { id := 3 }), (8, { id := 4 })] [1, 2, 5, 6, 7, 8, 9, 10] [0, 1, 2, 3, 4] 5 [Ii n_1, Pp 0, Pp 1, Pp 2, .bool r_3.2.2, Pp 3, Pp 4, .bool r_4.2.2] [Vb 24 (v_T_api_Packet p_1), Vb 24 (v_T_api_Packet r_3.1), Vb 24 (v_T_api_Packet r_3.2.1), Vb 24 (v_T_api_Packet r_4.1), Vb 24 (v_T_api_Packet r_4.2.1)] hmix (ar ([e_T_api_Packet p_1, Ii n_1] : List AV) (ac (rfl : ([] : List BoxSt) = []) (ac (R11_Split_ok F p_1 n_1 r_4 h_4 : TripleG prog 24 [] [] [e_T_api_Packet p_1, Ii n_1] [] (.tuple [e_T_api_Packet r_4.1, e_T_api_Packet r_4.2.1, .bool r_4.2.2])) an))) ?_
 refine sq ?_
 refine sq ?_
 obtain ⟨p_2, h_7, h⟩ := bind_some h
 refine aw_mid (mk [(1, Ii n_1), (2, Pp 0), (5, Pp 1), (6, Pp 2), (7, .bool r_3.2.2), (45, .bool p_2)] [(0, Vb 24 (v_T_api_Packet p_1)), (1, Vb 24 (v_T_api_Packet r_3.1)), (2, Vb 24 (v_T_api_Packet r_3.2.1))] 3) ?_ ?_
 ·replace h := h_7
  obtain ⟨r_5, h_5, h⟩ := bind_some h
  rcases bft (!r_5) with gg_1 | gg_1
  ·replace h := cond_t gg_1 h
   refine rg [(2, { av := .bool r_5, l := [e_T_api_Packet r_3.1, e_T_api_Packet r_4.1] }), (5, Hg), (6, Hg), (7, Hg), (8, Hg), (9, Ht), (11, Hg), (12, Hg), (13, Hg), (14, Ht)] [1, 2, 5, 6, 7, 45] [0, 1, 2] 5 [Ii n_1, Pp 0, Pp 1, Pp 2, .bool r_3.2.2, .bool true] [Vb 24 (v_T_api_Packet p_1), Vb 24 (v_T_api_Packet r_3.1), Vb 24 (v_T_api_Packet r_3.2.1)] hmix (ar ([e_T_api_Packet r_3.1, e_T_api_Packet r_4.1] : List AV) (ac (rfl : ([] : List BoxSt) = []) (ac (R11_Same_ok F r_3.1 r_4.1 r_5 h_5 : TripleG prog 16 [] [] [e_T_api_Packet r_3.1, e_T_api_Packet r_4.1] [] (.bool r_5)) (ac gg_1 (ac gg_1 (ac gg_1 (ac gg_1 (ac gg_1 (ax (ax (ax (ar true an)))))))))))) ?_
   cases h
   exact ⟨rfl, (sw [0, 1, 2] [] [.s 1, .s 2, .s 5, .s 6, .s 7, .s 45] [.s 0, .s 1, .s 2] an)⟩
  ·replace h := cond_f gg_1 h
   obtain ⟨r_6, h_6, h⟩ := bind_some h
   rcases bft (!r_6) with gg_2 | gg_2
   ·replace h := cond_t gg_2 h
    refine rg [(2, { av := .bool r_5, l := [e_T_api_Packet r_3.1, e_T_api_Packet r_4.1] }), (7, { av := .bool r_6, l := [e_T_api_Packet r_3.2.1, e_T_api_Packet r_4.2.1] }), (9, Hf), (11, Hg), (12, Hg), (13, Hg), (14, Ht)] [1, 2, 5, 6, 7, 45] [0, 1, 2] 5 [Ii n_1, Pp 0, Pp 1, Pp 2, .bool r_3.2.2, .bool true] [Vb 24 (v_T_api_Packet p_1), Vb 24 (v_T_api_Packet r_3.1), Vb 24 (v_T_api_Packet r_3.2.1)] hmix (ar ([e_T_api_Packet r_3.1, e_T_api_Packet r_4.1] : List AV) (ac (rfl : ([] : List BoxSt) = []) (ac (R11_Same_ok F r_3.1 r_4.1 r_5 h_5 : TripleG prog 16 [] [] [e_T_api_Packet r_3.1, e_T_api_Packet r_4.1] [] (.bool r_5)) (ac gg_1 (ac gg_1 (ac gg_1 (ar ([e_T_api_Packet r_3.2.1, e_T_api_Packet r_4.2.1] : List AV) (ac (rfl : ([] : List BoxSt) = []) (ac (R11_Same_ok F r_3.2.1 r_4.2.1 r_6 h_6 : TripleG prog 16 [] [] [e_T_api_Packet r_3.2.1, e_T_api_Packet r_4.2.1] [] (.bool r_6)) (ac gg_1 (ac gg_1 (ac gg_2 (ac gg_2 (ac gg_2 (ac gg_2 an))))))))))))))) ?_
    cases h
    exact ⟨rfl, (sw [0, 1, 2] [] [.s 1, .s 2, .s 5, .s 6, .s 7, .s 45] [.s 0, .s 1, .s 2] an)⟩
   ·replace h := cond_f gg_2 h
    refine rg [(2, { av := .bool r_5, l := [e_T_api_Packet r_3.1, e_T_api_Packet r_4.1] }), (7, { av := .bool r_6, l := [e_T_api_Packet r_3.2.1, e_T_api_Packet r_4.2.1] }), (9, Hf), (14, Hf)] [1, 2, 5, 6, 7, 45] [0, 1, 2] 5 [Ii n_1, Pp 0, Pp 1, Pp 2, .bool r_3.2.2, .bool (!(r_3.2.2 == r_4.2.2))] [Vb 24 (v_T_api_Packet p_1), Vb 24 (v_T_api_Packet r_3.1), Vb 24 (v_T_api_Packet r_3.2.1)] hmix (ar ([e_T_api_Packet r_3.1, e_T_api_Packet r_4.1] : List AV) (ac (rfl : ([] : List BoxSt) = []) (ac (R11_Same_ok F r_3.1 r_4.1 r_5 h_5 : TripleG prog 16 [] [] [e_T_api_Packet r_3.1, e_T_api_Packet r_4.1] [] (.bool r_5)) (ac gg_1 (ac gg_1 (ac gg_1 (ar ([e_T_api_Packet r_3.2.1, e_T_api_Packet r_4.2.1] : List AV) (ac (rfl : ([] : List BoxSt) = []) (ac (R11_Same_ok F r_3.2.1 r_4.2.1 r_6 h_6 : TripleG prog 16 [] [] [e_T_api_Packet r_3.2.1, e_T_api_Packet r_4.2.1] [] (.bool r_6)) (ac gg_1 (ac gg_1 (ac gg_2 (ac gg_2 (ac gg_2 (ac gg_2 an))))))))))))))) ?_
    cases h
    exact ⟨rfl, (sw [0, 1, 2] [] [.s 1, .s 2, .s 5, .s 6, .s 7, .s 45] [.s 0, .s 1, .s 2] an)⟩
 refine cd 45 p_2 ?_ ?_
 ·intro g_2; replace h := cond_t g_2 h
  refine sr [] [4] [] 3 [.bool false] [] hmix an ?_
  refine rt ?_
  cases h
  exact ⟨.inr rfl, Nat.le_of_ble_eq_true rfl, by kernel_rfl⟩
 intro g_2; replace h := cond_f g_2 h
 refine sk ?_
 refine sq ?_
 refine sr [] [1, 2, 5, 6, 47] [0, 1, 2] 3 [Ii n_1, Pp 0, Pp 1, Pp 2, .bool (!r_3.2.2)] [Vb 24 (v_T_api_Packet p_1), Vb 24 (v_T_api_Packet r_3.1), Vb 24 (v_T_api_Packet r_3.2.1)] hmix an ?_
 refine cd 47 (!r_3.2.2) ?_ ?_
 ·intro g_3; replace h := cond_t g_3 h
  refine sq ?_
  obtain ⟨r_7, h_8, h⟩ := bind_some h
  refine rg [(0, { av := .bool r_7, l := [] })] [4] [] 3 [.bool r_7] [] hmix (ar ([] : List AV) (ac (rfl : ([] : List BoxSt) = []) (ac (L11_lives_ok F r_7 h_8 : TripleG prog 12 [] [] [] [] (.bool r_7)) an))) ?_
  refine rt ?_
  cases h
  exact ⟨.inr rfl, Nat.le_of_ble_eq_true rfl, by kernel_rfl⟩
 intro g_3; replace h := cond_f g_3 h
 refine sk ?_
 refine sq ?_
 obtain ⟨r_8, h_9, h⟩ := bind_some h
 refine rg [(2, { av := .tuple [e_T_api_Packet r_8.1, .bool r_8.2], l := [e_T_api_Packet r_3.1, e_T_api_Packet r_3.2.1] }), (6, { id := 3 })] [1, 2, 5, 6, 11, 12] [0, 1, 2, 3] 4 [Ii n_1, Pp 0, Pp 1, Pp 2, Pp 3, .bool r_8.2] [Vb 24 (v_T_api_Packet p_1), Vb 24 (v_T_api_Packet r_3.1), Vb 24 (v_T_api_Packet r_3.2.1), Vb 24 (v_T_api_Packet r_8.1)] hmix (ar ([e_T_api_Packet r_3.1, e_T_api_Packet r_3.2.1] : List AV) (ac (rfl : ([] : List BoxSt) = []) (ac (packet_Join_ok F r_3.1 r_3.2.1 r_8 h_9 : TripleG prog 21 [] [] [e_T_api_Packet r_3.1, e_T_api_Packet r_3.2.1] [] (.tuple [e_T_api_Packet r_8.1, .bool r_8.2])) an))) ?_
 refine sq ?_
 obtain ⟨p_3, h_15, h⟩ := bind_some h
 refine aw_mid (mk [(4, .bool p_3)] [] 0) ?_ ?_
 ·replace h := h_15
  obtain ⟨r_9, h_10, h⟩ := bind_some h
  rcases Bool.eq_false_or_eq_true r_9 with gg_3 | gg_3
  ·replace h := cond_t gg_3 h
   rcases Bool.eq_false_or_eq_true r_8.2 with gg_4 | gg_4
   ·replace h := cond_t gg_4 h
    obtain ⟨r_10, h_11, h⟩ := bind_some h
    rcases bft (r_10 == (0 : Int)) with gg_5 | gg_5
    ·replace h := cond_t gg_5 h
     obtain ⟨r_11, h_12, h⟩ := bind_some h
     rcases bft (r_11 == (0 : Int)) with gg_6 | gg_6
     ·replace h := cond_t gg_6 h
      rcases bft ((lN (r_3.1.Events)) == n_1) with gg_7 | gg_7
      ·replace h := cond_t gg_7 h
       obtain ⟨r_12, h_13, h⟩ := bind_some h
       rcases bft (r_12 == (0 : Int)) with gg_8 | gg_8
       ·replace h := cond_t gg_8 h
        obtain ⟨r_13, h_14, h⟩ := bind_some h
        refine rg [(2, { av := .bool r_9, l := [e_T_api_Packet r_8.1, e_T_api_Packet p_1] }), (5, Ht), (8, { av := Ii r_10, l := [e_T_api_Packet r_3.1] }), (10, Ht), (13, { av := Ii r_11, l := [e_T_api_Packet r_3.2.1] }), (15, Ht), (19, { n := (r_3.1.Events).length }), (22, Ht), (26, { av := Ii r_12, l := [.sl false 6 (Mp e_T_api_Event r_3.2.1.Events)] }), (28, Ht), (30, { av := .bool r_13, l := [] }), (31, Ht)] [4] [] 4 [.bool r_13] [] hmix (ar ([e_T_api_Packet r_8.1, e_T_api_Packet p_1] : List AV) (ac (rfl : ([] : List BoxSt) = []) (ac (R11_Same_ok F r_8.1 p_1 r_9 h_10 : TripleG prog 16 [] [] [e_T_api_Packet r_8.1, e_T_api_Packet p_1] [] (.bool r_9)) (ac gg_3 (ac gg_3 (ac gg_4 (ac gg_4 (ar ([e_T_api_Packet r_3.1] : List AV) (ac (rfl : ([] : List BoxSt) = []) (ac (packet_Check_ok F r_3.1 r_10 h_11 : TripleG prog 13 [] [] [e_T_api_Packet r_3.1] [] (Ii r_10)) (ac gg_4 (ac gg_4 (ac gg_5 (ac gg_5 (ar ([e_T_api_Packet r_3.2.1] : List AV) (ac (rfl : ([] : List BoxSt) = []) (ac (packet_Check_ok F r_3.2.1 r_11 h_12 : TripleG prog 13 [] [] [e_T_api_Packet r_3.2.1] [] (Ii r_11)) (ac gg_5 (ac gg_5 (ac gg_6 (ac gg_6 (ac gg_6 (ac (vc_len _ : ((Mp e_T_api_Event r_3.1.Events)).length = (r_3.1.Events).length) (ac gg_6 (ac gg_6 (ac gg_6 (ac gg_7 (ac gg_7 (ac gg_7 (ar ([.sl false 6 (Mp e_T_api_Event r_3.2.1.Events)] : List AV) (ac (rfl : ([] : List BoxSt) = []) (ac (R07_CheckAll_ok F r_3.2.1.Events r_12 h_13 : TripleG prog 25 [] [] [.sl false 6 (Mp e_T_api_Event r_3.2.1.Events)] [] (Ii r_12)) (ac gg_7 (ac gg_7 (ac gg_8 (ar ([] : List AV) (ac (rfl : ([] : List BoxSt) = []) (ac (L11_lives_ok F r_13 h_14 : TripleG prog 12 [] [] [] [] (.bool r_13)) (ac gg_8 an))))))))))))))))))))))))))))))))))))))) ?_
        cases h
        exact ⟨rfl, (sw [] [] [.s 4] [] an)⟩
       ·replace h := cond_f gg_8 h
        refine rg [(2, { av := .bool r_9, l := [e_T_api_Packet r_8.1, e_T_api_Packet p_1] }), (5, Ht), (8, { av := Ii r_10, l := [e_T_api_Packet r_3.1] }), (10, Ht), (13, { av := Ii r_11, l := [e_T_api_Packet r_3.2.1] }), (15, Ht), (19, { n := (r_3.1.Events).length }), (22, Ht), (26, { av := Ii r_12, l := [.sl false 6 (Mp e_T_api_Event r_3.2.1.Events)] }), (28, Ht), (30, Hg), (31, Hf)] [4] [] 4 [.bool false] [] hmix (ar ([e_T_api_Packet r_8.1, e_T_api_Packet p_1] : List AV) (ac (rfl : ([] : List BoxSt) = []) (ac (R11_Same_ok F r_8.1 p_1 r_9 h_10 : TripleG prog 16 [] [] [e_T_api_Packet r_8.1, e_T_api_Packet p_1] [] (.bool r_9)) (ac gg_3 (ac gg_3 (ac gg_4 (ac gg_4 (ar ([e_T_api_Packet r_3.1] : List AV) (ac (rfl : ([] : List BoxSt) = []) (ac (packet_Check_ok F r_3.1 r_10 h_11 : TripleG prog 13 [] [] [e_T_api_Packet r_3.1] [] (Ii r_10)) (ac gg_4 (ac gg_4 (ac gg_5 (ac gg_5 (ar ([e_T_api_Packet r_3.2.1] : List AV) (ac (rfl : ([] : List BoxSt) = []) (ac (packet_Check_ok F r_3.2.1 r_11 h_12 : TripleG prog 13 [] [] [e_T_api_Packet r_3.2.1] [] (Ii r_11)) (ac gg_5 (ac gg_5 (ac gg_6 (ac gg_6 (ac gg_6 (ac (vc_len _ : ((Mp e_T_api_Event r_3.1.Events)).length = (r_3.1.Events).length) (ac gg_6 (ac gg_6 (ac gg_6 (ac gg_7 (ac gg_7 (ac gg_7 (ar ([.sl false 6 (Mp e_T_api_Event r_3.2.1.Events)] : List AV) (ac (rfl : ([] : List BoxSt) = []) (ac (R07_CheckAll_ok F r_3.2.1.Events r_12 h_13 : TripleG prog 25 [] [] [.sl false 6 (Mp e_T_api_Event r_3.2.1.Events)] [] (Ii r_12)) (ac gg_7 (ac gg_7 (ac gg_8 (ac gg_8 an)))))))))))))))))))))))))))))))))))) ?_
        cases h
        exact ⟨rfl, (sw [] [] [.s 4] [] an)⟩
      ·replace h := cond_f gg_7 h
       refine rg [(2, { av := .bool r_9, l := [e_T_api_Packet r_8.1, e_T_api_Packet p_1] }), (5, Ht), (8, { av := Ii r_10, l := [e_T_api_Packet r_3.1] }), (10, Ht), (13, { av := Ii r_11, l := [e_T_api_Packet r_3.2.1] }), (15, Ht), (19, { n := (r_3.1.Events).length }), (22, Ht), (24, Hg), (25, Hg), (26, Hg), (27, Hg), (28, Hf), (30, Hg), (31, Hf)] [4] [] 4 [.bool false] [] hmix (ar ([e_T_api_Packet r_8.1, e_T_api_Packet p_1] : List AV) (ac (rfl : ([] : List BoxSt) = []) (ac (R11_Same_ok F r_8.1 p_1 r_9 h_10 : TripleG prog 16 [] [] [e_T_api_Packet r_8.1, e_T_api_Packet p_1] [] (.bool r_9)) (ac gg_3 (ac gg_3 (ac gg_4 (ac gg_4 (ar ([e_T_api_Packet r_3.1] : List AV) (ac (rfl : ([] : List BoxSt) = []) (ac (packet_Check_ok F r_3.1 r_10 h_11 : TripleG prog 13 [] [] [e_T_api_Packet r_3.1] [] (Ii r_10)) (ac gg_4 (ac gg_4 (ac gg_5 (ac gg_5 (ar ([e_T_api_Packet r_3.2.1] : List AV) (ac (rfl : ([] : List BoxSt) = []) (ac (packet_Check_ok F r_3.2.1 r_11 h_12 : TripleG prog 13 [] [] [e_T_api_Packet r_3.2.1] [] (Ii r_11)) (ac gg_5 (ac gg_5 (ac gg_6 (ac gg_6 (ac gg_6 (ac (vc_len _ : ((Mp e_T_api_Event r_3.1.Events)).length = (r_3.1.Events).length) (ac gg_6 (ac gg_6 (ac gg_6 (ac gg_7 (ac gg_7 (ac gg_7 (ac gg_7 (ac gg_7 (ac (rfl : false = !true) (ar false an))))))))))))))))))))))))))))))))) ?_
       cases h
       exact ⟨rfl, (sw [] [] [.s 4] [] an)⟩
     ·replace h := cond_f gg_6 h
      refine rg [(2, { av := .bool r_9, l := [e_T_api_Packet r_8.1, e_T_api_Packet p_1] }), (5, Ht), (8, { av := Ii r_10, l := [e_T_api_Packet r_3.1] }), (10, Ht), (13, { av := Ii r_11, l := [e_T_api_Packet r_3.2.1] }), (15, Ht), (17, Hg), (18, Hg), (19, Hg), (20, Hg), (21, Hg), (22, Hf), (24, Hg), (25, Hg), (26, Hg), (27, Hg), (28, Hf), (30, Hg), (31, Hf)] [4] [] 4 [.bool false] [] hmix (ar ([e_T_api_Packet r_8.1, e_T_api_Packet p_1] : List AV) (ac (rfl : ([] : List BoxSt) = []) (ac (R11_Same_ok F r_8.1 p_1 r_9 h_10 : TripleG prog 16 [] [] [e_T_api_Packet r_8.1, e_T_api_Packet p_1] [] (.bool r_9)) (ac gg_3 (ac gg_3 (ac gg_4 (ac gg_4 (ar ([e_T_api_Packet r_3.1] : List AV) (ac (rfl : ([] : List BoxSt) = []) (ac (packet_Check_ok F r_3.1 r_10 h_11 : TripleG prog 13 [] [] [e_T_api_Packet r_3.1] [] (Ii r_10)) (ac gg_4 (ac gg_4 (ac gg_5 (ac gg_5 (ar ([e_T_api_Packet r_3.2.1] : List AV) (ac (rfl : ([] : List BoxSt) = []) (ac (packet_Check_ok F r_3.2.1 r_11 h_12 : TripleG prog 13 [] [] [e_T_api_Packet r_3.2.1] [] (Ii r_11)) (ac gg_5 (ac gg_5 (ac gg_6 (ac gg_6 (ac gg_6 (ac gg_6 (ac gg_6 (ac gg_6 (ac (rfl : false = !true) (ac (rfl : false = !true) (ac (rfl : false = !true) (ac (rfl : false = !true) (ar false (ac (rfl : false = !true) (ar false an)))))))))))))))))))))))))))))))) ?_
      cases h
      exact ⟨rfl, (sw [] [] [.s 4] [] an)⟩
    ·replace h := cond_f gg_5 h
     refine rg [(2, { av := .bool r_9, l := [e_T_api_Packet r_8.1, e_T_api_Packet p_1] }), (5, Ht), (8, { av := Ii r_10, l := [e_T_api_Packet r_3.1] }), (10, Ht), (12, Hg), (13, Hg), (14, Hg), (15, Hf), (17, Hg), (18, Hg), (19, Hg), (20, Hg), (21, Hg), (22, Hf), (24, Hg), (25, Hg), (26, Hg), (27, Hg), (28, Hf), (30, Hg), (31, Hf)] [4] [] 4 [.bool false] [] hmix (ar ([e_T_api_Packet r_8.1, e_T_api_Packet p_1] : List AV) (ac (rfl : ([] : List BoxSt) = []) (ac (R11_Same_ok F r_8.1 p_1 r_9 h_10 : TripleG prog 16 [] [] [e_T_api_Packet r_8.1, e_T_api_Packet p_1] [] (.bool r_9)) (ac gg_3 (ac gg_3 (ac gg_4 (ac gg_4 (ar ([e_T_api_Packet r_3.1] : List AV) (ac (rfl : ([] : List BoxSt) = []) (ac (packet_Check_ok F r_3.1 r_10 h_11 : TripleG prog 13 [] [] [e_T_api_Packet r_3.1] [] (Ii r_10)) (ac gg_4 (ac gg_4 (ac gg_5 (ac gg_5 (ac gg_5 (ac gg_5 (ac (rfl : false = !true) (ac (rfl : false = !true) (ac (rfl : false = !true) (ac (rfl : false = !true) (ac (rfl : false = !true) (ar false (ac (rfl : false = !true) (ac (rfl : false = !true) (ac (rfl : false = !true) (ac (rfl : false = !true) (ar false (ac (rfl : false = !true) (ar false an))))))))))))))))))))))))))))) ?_
     cases h
     exact ⟨rfl, (sw [] [] [.s 4] [] an)⟩
   ·replace h := cond_f gg_4 h
    refine rg [(2, { av := .bool r_9, l := [e_T_api_Packet r_8.1, e_T_api_Packet p_1] }), (5, Ht), (7, Hg), (8, Hg), (9, Hg), (10, Hf), (12, Hg), (13, Hg), (14, Hg), (15, Hf), (17, Hg), (18, Hg), (19, Hg), (20, Hg), (21, Hg), (22, Hf), (24, Hg), (25, Hg), (26, Hg), (27, Hg), (28, Hf), (30, Hg), (31, Hf)] [4] [] 4 [.bool false] [] hmix (ar ([e_T_api_Packet r_8.1, e_T_api_Packet p_1] : List AV) (ac (rfl : ([] : List BoxSt) = []) (ac (R11_Same_ok F r_8.1 p_1 r_9 h_10 : TripleG prog 16 [] [] [e_T_api_Packet r_8.1, e_T_api_Packet p_1] [] (.bool r_9)) (ac gg_3 (ac gg_3 (ac gg_4 (ac gg_4 (ac gg_4 (ac gg_4 (ac (rfl : false = !true) (ac (rfl : false = !true) (ac (rfl : false = !true) (ar false (ac (rfl : false = !true) (ac (rfl : false = !true) (ac (rfl : false = !true) (ac (rfl : false = !true) (ac (rfl : false = !true) (ar false (ac (rfl : false = !true) (ac (rfl : false = !true) (ac (rfl : false = !true) (ac (rfl : false = !true) (ar false (ac (rfl : false = !true) (ar false an)))))))))))))))))))))))))) ?_
    cases h
    exact ⟨rfl, (sw [] [] [.s 4] [] an)⟩
  ·replace h := cond_f gg_3 h
   refine rg [(2, { av := .bool r_9, l := [e_T_api_Packet r_8.1, e_T_api_Packet p_1] }), (4, Hg), (5, Hf), (7, Hg), (8, Hg), (9, Hg), (10, Hf), (12, Hg), (13, Hg), (14, Hg), (15, Hf), (17, Hg), (18, Hg), (19, Hg), (20, Hg), (21, Hg), (22, Hf), (24, Hg), (25, Hg), (26, Hg), (27, Hg), (28, Hf), (30, Hg), (31, Hf)] [4] [] 4 [.bool false] [] hmix (ar ([e_T_api_Packet r_8.1, e_T_api_Packet p_1] : List AV) (ac (rfl : ([] : List BoxSt) = []) (ac (R11_Same_ok F r_8.1 p_1 r_9 h_10 : TripleG prog 16 [] [] [e_T_api_Packet r_8.1, e_T_api_Packet p_1] [] (.bool r_9)) (ac gg_3 (ac gg_3 (ac (rfl : false = !true) (ac (rfl : false = !true) (ac (rfl : false = !true) (ar false (ac (rfl : false = !true) (ac (rfl : false = !true) (ac (rfl : false = !true) (ar false (ac (rfl : false = !true) (ac (rfl : false = !true) (ac (rfl : false = !true) (ac (rfl : false = !true) (ac (rfl : false = !true) (ar false (ac (rfl : false = !true) (ac (rfl : false = !true) (ac (rfl : false = !true) (ac (rfl : false = !true) (ar false (ac (rfl : false = !true) (ar false an)))))))))))))))))))))))))) ?_
   cases h
   exact ⟨rfl, (sw [] [] [.s 4] [] an)⟩
 refine rt ?_
 cases h
 exact ⟨.inr rfl, Nat.le_of_ble_eq_true rfl, by kernel_rfl⟩

end Go.Ab
