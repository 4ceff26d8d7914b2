/- Printed: the typed Lean functions of the Go functions, or the proofs that the Go functions meet them. No conditions but those that the theorems name. -/
import Derived.Test.YtlnlcciflpncmaaP11x3
namespace Go.Ab
open Go
set_option linter.unusedVariables false
theorem R11_End_ok (p_1 : T_api_Packet) (r : Int) (h : R11_End p_1 = some r) : TripleG prog 45 [] [] [e_T_api_Packet p_1] [] (Ii r) := by
  refine triple_intro (fn := Go.Proofs.Try.f45) (code := codeOf Go.Proofs.Try.f45) (by kernel_rfl) (by kernel_rfl) (Nat.le_of_ble_eq_true (by kernel_rfl)) ?_
  unfold R11_End at h
  refine sr [(0, { id := 0 })] [1] [0] 1 [Pp 0] [Vb 24 (v_T_api_Packet p_1)] hmix an ?_
  refine sr [(4, { n := (p_1.Events).length })] [2] [] 1 [Ii (w_i64 (p_1.Serial + (lN (p_1.Events))))] [] hmix (ac (vc_len _ : ((Mp e_T_api_Event p_1.Events)).length = (p_1.Events).length) an) ?_
  refine rt ?_
  cases h
  exact ⟨.inr rfl, Nat.le_of_ble_eq_true rfl, by kernel_rfl⟩

theorem R11_Join_ok (F : Nat) (a_1 : T_api_Packet) (b_1 : T_api_Packet) (r : T_api_Packet × Bool) (h : R11_Join F a_1 b_1 = some r) : TripleG prog 22 [] [] [e_T_api_Packet a_1, e_T_api_Packet b_1] [] (.tuple [e_T_api_Packet r.1, .bool r.2]) := by
  refine triple_intro (fn := Go.Proofs.Try.f22) (code := codeOf Go.Proofs.Try.f22) (by kernel_rfl) (by kernel_rfl) (Nat.le_of_ble_eq_true (by kernel_rfl)) ?_
  unfold R11_Join at h
  refine sr [(0, { id := 0 }), (1, { id := 1 }), (2, { id := 2 })] [2, 3, 4] [0, 1, 2] 3 [Pp 0, Pp 1, Pp 2] [Vb 24 (v_T_api_Packet a_1), Vb 24 (v_T_api_Packet b_1), Vb 24 [Ii 0, Ii 0, Ii 0, .nilsl]] hmix an ?_
  refine aw_sub (sub_adoptB 2 3 3 33 6 (by kernel_rfl)) ?_
  refine wk [0, 1, 2, 3] [] [.s 2, .s 3, .s 4] [.s 0, .s 1, .s 2, .s 3] [(2, Pp 0), (3, Pp 1), (4, Pp 2)] [(0, Vb 24 (v_T_api_Packet a_1)), (1, Vb 24 (v_T_api_Packet b_1)), (2, Vb 24 [Ii 0, Ii 0, Ii 0, .own 3 0]), (3, Rb 33 6 [])] an ?_
  refine sq ?_
  refine sq ?_
  obtain ⟨p_1, h_4, h⟩ := bind_some h
  refine aw_mid (mk [(2, Pp 0), (3, Pp 1), (4, Pp 2), (33, .bool p_1)] [(0, Vb 24 (v_T_api_Packet a_1)), (1, Vb 24 (v_T_api_Packet b_1)), (2, Vb 24 [Ii 0, Ii 0, Ii 0, .own 3 0]), (3, Rb 33 6 [])] 4) ?_ ?_
  · replace h := h_4
    obtain ⟨r_1, h_1, h⟩ := bind_some h
    rcases bft (r_1 != (0 : Int)) with gg_1 | gg_1
    · replace h := cond_t gg_1 h
      refine rg [(1, { av := Ii r_1, l := [e_T_api_Packet a_1] }), (4, Hg), (5, Hg), (6, Hg), (7, Ht), (9, Hg), (10, Hg), (11, Hg), (12, Hg), (13, Hg), (14, Ht), (16, Hg), (17, Hg), (18, Hg), (19, Ht), (21, Hg), (22, Hg), (23, Hg), (24, Hg), (25, Hg), (26, Ht)] [2, 3, 4, 33] [0, 1, 2, 3] 4 [Pp 0, Pp 1, Pp 2, .bool true] [Vb 24 (v_T_api_Packet a_1), Vb 24 (v_T_api_Packet b_1), Vb 24 [Ii 0, Ii 0, Ii 0, .own 3 0], Rb 33 6 []] hmix (ar ([e_T_api_Packet a_1] : List AV) (ac (rfl : ([] : List BoxSt) = []) (ac (R11_Check_ok F a_1 r_1 h_1 : TripleG prog 14 [] [] [e_T_api_Packet a_1] [] (Ii r_1)) (ac gg_1 (ac gg_1 (ac gg_1 (ac gg_1 (ax (ax (ax (ax (ax (ar true (ax (ax (ax (ar true (ax (ax (ax (ax (ax (ar true an))))))))))))))))))))))) ?_
      cases h
      exact ⟨rfl, (sw [0, 1, 2, 3] [] [.s 2, .s 3, .s 4, .s 33] [.s 0, .s 1, .s 2, .s 3] an)⟩
    · replace h := cond_f gg_1 h
      obtain ⟨r_2, h_2, h⟩ := bind_some h
      rcases bft (r_2 != (0 : Int)) with gg_2 | gg_2
      · replace h := cond_t gg_2 h
        refine rg [(1, { av := Ii r_1, l := [e_T_api_Packet a_1] }), (5, { av := Ii r_2, l := [e_T_api_Packet b_1] }), (7, Hf), (9, Hg), (10, Hg), (11, Hg), (12, Hg), (13, Hg), (14, Ht), (16, Hg), (17, Hg), (18, Hg), (19, Ht), (21, Hg), (22, Hg), (23, Hg), (24, Hg), (25, Hg), (26, Ht)] [2, 3, 4, 33] [0, 1, 2, 3] 4 [Pp 0, Pp 1, Pp 2, .bool true] [Vb 24 (v_T_api_Packet a_1), Vb 24 (v_T_api_Packet b_1), Vb 24 [Ii 0, Ii 0, Ii 0, .own 3 0], Rb 33 6 []] hmix (ar ([e_T_api_Packet a_1] : List AV) (ac (rfl : ([] : List BoxSt) = []) (ac (R11_Check_ok F a_1 r_1 h_1 : TripleG prog 14 [] [] [e_T_api_Packet a_1] [] (Ii r_1)) (ac gg_1 (ac gg_1 (ar ([e_T_api_Packet b_1] : List AV) (ac (rfl : ([] : List BoxSt) = []) (ac (R11_Check_ok F b_1 r_2 h_2 : TripleG prog 14 [] [] [e_T_api_Packet b_1] [] (Ii r_2)) (ac gg_1 (ac gg_1 (ac gg_2 (ac gg_2 (ac gg_2 (ac gg_2 (ac gg_2 (ac gg_2 (ax (ax (ax (ar true (ax (ax (ax (ax (ax (ar true an)))))))))))))))))))))))))) ?_
        cases h
        exact ⟨rfl, (sw [0, 1, 2, 3] [] [.s 2, .s 3, .s 4, .s 33] [.s 0, .s 1, .s 2, .s 3] an)⟩
      · replace h := cond_f gg_2 h
        rcases bft (a_1.Thread != b_1.Thread) with gg_3 | gg_3
        · replace h := cond_t gg_3 h
          refine rg [(1, { av := Ii r_1, l := [e_T_api_Packet a_1] }), (5, { av := Ii r_2, l := [e_T_api_Packet b_1] }), (7, Hf), (14, Hf), (16, Hg), (17, Hg), (18, Hg), (19, Ht), (21, Hg), (22, Hg), (23, Hg), (24, Hg), (25, Hg), (26, Ht)] [2, 3, 4, 33] [0, 1, 2, 3] 4 [Pp 0, Pp 1, Pp 2, .bool true] [Vb 24 (v_T_api_Packet a_1), Vb 24 (v_T_api_Packet b_1), Vb 24 [Ii 0, Ii 0, Ii 0, .own 3 0], Rb 33 6 []] hmix (ar ([e_T_api_Packet a_1] : List AV) (ac (rfl : ([] : List BoxSt) = []) (ac (R11_Check_ok F a_1 r_1 h_1 : TripleG prog 14 [] [] [e_T_api_Packet a_1] [] (Ii r_1)) (ac gg_1 (ac gg_1 (ar ([e_T_api_Packet b_1] : List AV) (ac (rfl : ([] : List BoxSt) = []) (ac (R11_Check_ok F b_1 r_2 h_2 : TripleG prog 14 [] [] [e_T_api_Packet b_1] [] (Ii r_2)) (ac gg_1 (ac gg_1 (ac gg_2 (ac gg_2 (ac gg_2 (ac gg_2 (ac gg_2 (ac gg_2 (ac gg_3 (ac gg_3 (ac gg_3 (ac gg_3 (ax (ax (ax (ax (ax (ar true an)))))))))))))))))))))))))) ?_
          cases h
          exact ⟨rfl, (sw [0, 1, 2, 3] [] [.s 2, .s 3, .s 4, .s 33] [.s 0, .s 1, .s 2, .s 3] an)⟩
        · replace h := cond_f gg_3 h
          rcases bft (b_1.Lost != (0 : Int)) with gg_4 | gg_4
          · replace h := cond_t gg_4 h
            refine rg [(1, { av := Ii r_1, l := [e_T_api_Packet a_1] }), (5, { av := Ii r_2, l := [e_T_api_Packet b_1] }), (7, Hf), (14, Hf), (19, Hf), (21, Hg), (22, Hg), (23, Hg), (24, Hg), (25, Hg), (26, Ht)] [2, 3, 4, 33] [0, 1, 2, 3] 4 [Pp 0, Pp 1, Pp 2, .bool true] [Vb 24 (v_T_api_Packet a_1), Vb 24 (v_T_api_Packet b_1), Vb 24 [Ii 0, Ii 0, Ii 0, .own 3 0], Rb 33 6 []] hmix (ar ([e_T_api_Packet a_1] : List AV) (ac (rfl : ([] : List BoxSt) = []) (ac (R11_Check_ok F a_1 r_1 h_1 : TripleG prog 14 [] [] [e_T_api_Packet a_1] [] (Ii r_1)) (ac gg_1 (ac gg_1 (ar ([e_T_api_Packet b_1] : List AV) (ac (rfl : ([] : List BoxSt) = []) (ac (R11_Check_ok F b_1 r_2 h_2 : TripleG prog 14 [] [] [e_T_api_Packet b_1] [] (Ii r_2)) (ac gg_1 (ac gg_1 (ac gg_2 (ac gg_2 (ac gg_2 (ac gg_2 (ac gg_2 (ac gg_2 (ac gg_3 (ac gg_3 (ac gg_3 (ac gg_3 (ac gg_4 (ac gg_4 (ac gg_4 (ac gg_4 (ac gg_4 (ac gg_4 an)))))))))))))))))))))))))) ?_
            cases h
            exact ⟨rfl, (sw [0, 1, 2, 3] [] [.s 2, .s 3, .s 4, .s 33] [.s 0, .s 1, .s 2, .s 3] an)⟩
          · replace h := cond_f gg_4 h
            obtain ⟨r_3, h_3, h⟩ := bind_some h
            refine rg [(1, { av := Ii r_1, l := [e_T_api_Packet a_1] }), (5, { av := Ii r_2, l := [e_T_api_Packet b_1] }), (7, Hf), (14, Hf), (19, Hf), (24, { av := Ii r_3, l := [e_T_api_Packet a_1] }), (26, Hf)] [2, 3, 4, 33] [0, 1, 2, 3] 4 [Pp 0, Pp 1, Pp 2, .bool (b_1.Serial != r_3)] [Vb 24 (v_T_api_Packet a_1), Vb 24 (v_T_api_Packet b_1), Vb 24 [Ii 0, Ii 0, Ii 0, .own 3 0], Rb 33 6 []] hmix (ar ([e_T_api_Packet a_1] : List AV) (ac (rfl : ([] : List BoxSt) = []) (ac (R11_Check_ok F a_1 r_1 h_1 : TripleG prog 14 [] [] [e_T_api_Packet a_1] [] (Ii r_1)) (ac gg_1 (ac gg_1 (ar ([e_T_api_Packet b_1] : List AV) (ac (rfl : ([] : List BoxSt) = []) (ac (R11_Check_ok F b_1 r_2 h_2 : TripleG prog 14 [] [] [e_T_api_Packet b_1] [] (Ii r_2)) (ac gg_1 (ac gg_1 (ac gg_2 (ac gg_2 (ac gg_2 (ac gg_2 (ac gg_2 (ac gg_2 (ac gg_3 (ac gg_3 (ac gg_3 (ac gg_3 (ac gg_4 (ac gg_4 (ac gg_4 (ac gg_4 (ar ([e_T_api_Packet a_1] : List AV) (ac (rfl : ([] : List BoxSt) = []) (ac (R11_End_ok a_1 r_3 h_3 : TripleG prog 45 [] [] [e_T_api_Packet a_1] [] (Ii r_3)) (ac gg_4 (ac gg_4 an))))))))))))))))))))))))))))) ?_
            cases h
            exact ⟨rfl, (sw [0, 1, 2, 3] [] [.s 2, .s 3, .s 4, .s 33] [.s 0, .s 1, .s 2, .s 3] an)⟩
  refine cd 33 p_1 ?_ ?_
  · intro g_1; replace h := cond_t g_1 h
    refine sr [] [4, 5] [2] 4 [Pp 2, .bool false] [Vb 24 [Ii 0, Ii 0, Ii 0, .nilsl]] hmix an ?_
    refine aw_sub (sub_adoptB 2 3 4 33 6 (by kernel_rfl)) ?_
    refine wk [2, 4] [] [.s 4, .s 5] [.s 0, .s 1] [(4, Pp 0), (5, .bool false)] [(0, Vb 24 [Ii 0, Ii 0, Ii 0, .own 1 0]), (1, Rb 33 6 [])] an ?_
    refine wk [0] [1] [.s 4, .s 5] [.a 0 (Vb 24 (v_T_api_Packet (⟨(0 : Int), (0 : Int), (0 : Int), []⟩ : T_api_Packet)))] [(4, Pp 0), (5, .bool false)] [(0, Vb 24 (v_T_api_Packet (⟨(0 : Int), (0 : Int), (0 : Int), []⟩ : T_api_Packet)))] (ar 24 (ac (rfl : ones [Ii ((⟨(0 : Int), (0 : Int), (0 : Int), []⟩ : T_api_Packet).Thread), Ii ((⟨(0 : Int), (0 : Int), (0 : Int), []⟩ : T_api_Packet).Serial), Ii ((⟨(0 : Int), (0 : Int), (0 : Int), []⟩ : T_api_Packet).Lost), .sl false 6 (Mp e_T_api_Event ((⟨(0 : Int), (0 : Int), (0 : Int), []⟩ : T_api_Packet).Events))] = true) (ac (by first | (simp; done) | (simp; omega) : 0 = (([] : List AV)).length) (ac (rfl : (Ii 0 : AV) = Ii ((⟨(0 : Int), (0 : Int), (0 : Int), []⟩ : T_api_Packet).Thread)) (ac (rfl : (Ii 0 : AV) = Ii ((⟨(0 : Int), (0 : Int), (0 : Int), []⟩ : T_api_Packet).Serial)) (ac (rfl : (Ii 0 : AV) = Ii ((⟨(0 : Int), (0 : Int), (0 : Int), []⟩ : T_api_Packet).Lost)) (ar 6 (ac (rfl : ([] : List AV) = (Mp e_T_api_Event ((⟨(0 : Int), (0 : Int), (0 : Int), []⟩ : T_api_Packet).Events))) (ac (rfl : (!false || false) = true) an))))))))) ?_
    refine rt ?_
    cases h
    exact ⟨.inr rfl, Nat.le_of_ble_eq_true rfl, by kernel_rfl⟩
  intro g_1; replace h := cond_f g_1 h
  refine sk ?_
  refine sq ?_
  refine sq ?_
  obtain ⟨p_2, h_7, h⟩ := bind_some h
  refine aw_mid (mk [(2, Pp 0), (3, Pp 1), (4, Pp 2), (59, .bool p_2)] [(0, Vb 24 (v_T_api_Packet a_1)), (1, Vb 24 (v_T_api_Packet b_1)), (2, Vb 24 [Ii 0, Ii 0, Ii 0, .own 3 0]), (3, Rb 33 6 [])] 4) ?_ ?_
  · replace h := h_7
    obtain ⟨x_1, h_5, h⟩ := bind_some h
    obtain ⟨x_2, h_6, h⟩ := bind_some h
    rcases bft (decide (x_1.At < x_2.At)) with gg_5 | gg_5
    · replace h := cond_t gg_5 h
      refine rg [(2, { av := e_T_api_Event x_1 }), (9, { n := (a_1.Events).length }), (11, { av := e_T_api_Event x_2 }), (16, Hg), (17, Hg), (18, Hg), (19, Hg), (20, Hg), (21, Hg), (22, Hg), (23, Hg), (24, Ht)] [2, 3, 4, 59] [0, 1, 2, 3] 4 [Pp 0, Pp 1, Pp 2, .bool true] [Vb 24 (v_T_api_Packet a_1), Vb 24 (v_T_api_Packet b_1), Vb 24 [Ii 0, Ii 0, Ii 0, .own 3 0], Rb 33 6 []] hmix (ac (vc_idx h_5 : idxA (Mp e_T_api_Event b_1.Events) (0 : Int) = some (e_T_api_Event x_1)) (ac (vc_len _ : ((Mp e_T_api_Event a_1.Events)).length = (a_1.Events).length) (ac (vc_idx h_6 : idxA (Mp e_T_api_Event a_1.Events) (w_i64 ((lN (a_1.Events)) - (1 : Int))) = some (e_T_api_Event x_2)) (ac gg_5 (ac gg_5 (ac gg_5 (ac gg_5 (ac gg_5 (ac gg_5 (ac gg_5 (ac gg_5 (ac gg_5 an)))))))))))) ?_
      cases h
      exact ⟨rfl, (sw [0, 1, 2, 3] [] [.s 2, .s 3, .s 4, .s 59] [.s 0, .s 1, .s 2, .s 3] an)⟩
    · replace h := cond_f gg_5 h
      refine rg [(2, { av := e_T_api_Event x_1 }), (9, { n := (a_1.Events).length }), (11, { av := e_T_api_Event x_2 }), (18, { n := (a_1.Events).length }), (21, { n := (b_1.Events).length }), (24, Hf)] [2, 3, 4, 59] [0, 1, 2, 3] 4 [Pp 0, Pp 1, Pp 2, .bool (decide ((w_i64 ((lN (a_1.Events)) + (lN (b_1.Events)))) > (1000 : Int)))] [Vb 24 (v_T_api_Packet a_1), Vb 24 (v_T_api_Packet b_1), Vb 24 [Ii 0, Ii 0, Ii 0, .own 3 0], Rb 33 6 []] hmix (ac (vc_idx h_5 : idxA (Mp e_T_api_Event b_1.Events) (0 : Int) = some (e_T_api_Event x_1)) (ac (vc_len _ : ((Mp e_T_api_Event a_1.Events)).length = (a_1.Events).length) (ac (vc_idx h_6 : idxA (Mp e_T_api_Event a_1.Events) (w_i64 ((lN (a_1.Events)) - (1 : Int))) = some (e_T_api_Event x_2)) (ac gg_5 (ac gg_5 (ac gg_5 (ac (vc_len _ : ((Mp e_T_api_Event a_1.Events)).length = (a_1.Events).length) (ac gg_5 (ac gg_5 (ac gg_5 (ac (vc_len _ : ((Mp e_T_api_Event b_1.Events)).length = (b_1.Events).length) (ac gg_5 (ac gg_5 (ac gg_5 an)))))))))))))) ?_
      cases h
      exact ⟨rfl, (sw [0, 1, 2, 3] [] [.s 2, .s 3, .s 4, .s 59] [.s 0, .s 1, .s 2, .s 3] an)⟩
  refine cd 59 p_2 ?_ ?_
  · intro g_2; replace h := cond_t g_2 h
    refine sr [] [4, 5] [2] 4 [Pp 2, .bool false] [Vb 24 [Ii 0, Ii 0, Ii 0, .nilsl]] hmix an ?_
    refine aw_sub (sub_adoptB 2 3 4 33 6 (by kernel_rfl)) ?_
    refine wk [2, 4] [] [.s 4, .s 5] [.s 0, .s 1] [(4, Pp 0), (5, .bool false)] [(0, Vb 24 [Ii 0, Ii 0, Ii 0, .own 1 0]), (1, Rb 33 6 [])] an ?_
    refine wk [0] [1] [.s 4, .s 5] [.a 0 (Vb 24 (v_T_api_Packet (⟨(0 : Int), (0 : Int), (0 : Int), []⟩ : T_api_Packet)))] [(4, Pp 0), (5, .bool false)] [(0, Vb 24 (v_T_api_Packet (⟨(0 : Int), (0 : Int), (0 : Int), []⟩ : T_api_Packet)))] (ar 24 (ac (rfl : ones [Ii ((⟨(0 : Int), (0 : Int), (0 : Int), []⟩ : T_api_Packet).Thread), Ii ((⟨(0 : Int), (0 : Int), (0 : Int), []⟩ : T_api_Packet).Serial), Ii ((⟨(0 : Int), (0 : Int), (0 : Int), []⟩ : T_api_Packet).Lost), .sl false 6 (Mp e_T_api_Event ((⟨(0 : Int), (0 : Int), (0 : Int), []⟩ : T_api_Packet).Events))] = true) (ac (by first | (simp; done) | (simp; omega) : 0 = (([] : List AV)).length) (ac (rfl : (Ii 0 : AV) = Ii ((⟨(0 : Int), (0 : Int), (0 : Int), []⟩ : T_api_Packet).Thread)) (ac (rfl : (Ii 0 : AV) = Ii ((⟨(0 : Int), (0 : Int), (0 : Int), []⟩ : T_api_Packet).Serial)) (ac (rfl : (Ii 0 : AV) = Ii ((⟨(0 : Int), (0 : Int), (0 : Int), []⟩ : T_api_Packet).Lost)) (ar 6 (ac (rfl : ([] : List AV) = (Mp e_T_api_Event ((⟨(0 : Int), (0 : Int), (0 : Int), []⟩ : T_api_Packet).Events))) (ac (rfl : (!false || false) = true) an))))))))) ?_
    refine rt ?_
    cases h
    exact ⟨.inr rfl, Nat.le_of_ble_eq_true rfl, by kernel_rfl⟩
  intro g_2; replace h := cond_f g_2 h
  refine sk ?_
  refine sr [(7, { id := 4 })] [2, 3, 4, 6] [0, 1, 2, 3, 4] 5 [Pp 0, Pp 1, Pp 2, Pp 4] [Vb 24 (v_T_api_Packet a_1), Vb 24 (v_T_api_Packet b_1), Vb 24 [Ii 0, Ii 0, Ii 0, .own 3 0], Rb 33 6 [], Vb 24 [Ii a_1.Thread, Ii a_1.Serial, Ii a_1.Lost, .nilsl]] hmix an ?_
  refine aw_sub (sub_adoptB 4 3 5 33 6 (by kernel_rfl)) ?_
  refine wk [0, 1, 2, 3, 4, 5] [] [.s 2, .s 3, .s 4, .s 6] [.s 0, .s 1, .s 2, .s 3, .s 4, .s 5] [(2, Pp 0), (3, Pp 1), (4, Pp 2), (6, Pp 4)] [(0, Vb 24 (v_T_api_Packet a_1)), (1, Vb 24 (v_T_api_Packet b_1)), (2, Vb 24 [Ii 0, Ii 0, Ii 0, .own 3 0]), (3, Rb 33 6 []), (4, Vb 24 [Ii a_1.Thread, Ii a_1.Serial, Ii a_1.Lost, .own 5 0]), (5, Rb 33 6 [])] an ?_
  refine sq ?_
  obtain ⟨_, h_8, h⟩ := bind_some h; replace h_8 := need_some h_8
  refine rg [(4, { id := 6, l := (Mp e_T_api_Event ([] ++ a_1.Events)), n := (([] ++ a_1.Events)).length })] [3, 4, 6] [1, 2, 3, 4, 6] 7 [Pp 1, Pp 2, Pp 4] [Vb 24 (v_T_api_Packet b_1), Vb 24 [Ii 0, Ii 0, Ii 0, .own 3 0], Rb 33 6 [], Vb 24 [Ii a_1.Thread, Ii a_1.Serial, Ii a_1.Lost, .own 6 ((([] ++ a_1.Events)).length)], Rb 33 6 (Mp e_T_api_Event ([] ++ a_1.Events))] hmix (ac (by first | (simp; done) | (simp; omega) : 0 = (([] : List AV)).length) (ac (trivial : True) (ac (by simp : (List.map e_T_api_Event ([] ++ a_1.Events)) = [] ++ (List.map e_T_api_Event a_1.Events)) (ac (by simp : (([] ++ a_1.Events)).length = ((List.map e_T_api_Event ([] ++ a_1.Events))).length) (ac (by first | (simp; done) | simpa using h_8 : (([] : List AV).length + ((List.map e_T_api_Event a_1.Events) : List AV).length) * 72 ≤ 140737488355328) an))))) ?_
  refine sq ?_
  obtain ⟨_, h_9, h⟩ := bind_some h; replace h_9 := need_some h_9
  refine rg [(4, { id := 7, l := (Mp e_T_api_Event (([] ++ a_1.Events) ++ b_1.Events)), n := ((([] ++ a_1.Events) ++ b_1.Events)).length })] [4, 6] [2, 3, 4, 7] 8 [Pp 2, Pp 4] [Vb 24 [Ii 0, Ii 0, Ii 0, .own 3 0], Rb 33 6 [], Vb 24 [Ii a_1.Thread, Ii a_1.Serial, Ii a_1.Lost, .own 7 (((([] ++ a_1.Events) ++ b_1.Events)).length)], Rb 33 6 (Mp e_T_api_Event (([] ++ a_1.Events) ++ b_1.Events))] hmix (ac (by first | (simp; done) | (simp; omega) : (([] ++ a_1.Events)).length = ((List.map e_T_api_Event ([] ++ a_1.Events))).length) (ac (trivial : True) (ac (vc_app _ _ : (Mp e_T_api_Event (([] ++ a_1.Events) ++ b_1.Events)) = (Mp e_T_api_Event ([] ++ a_1.Events)) ++ (Mp e_T_api_Event b_1.Events)) (ac (by simp : ((([] ++ a_1.Events) ++ b_1.Events)).length = ((List.map e_T_api_Event (([] ++ a_1.Events) ++ b_1.Events))).length) (ac (by first | (simp; done) | simpa using h_9 : (((List.map e_T_api_Event ([] ++ a_1.Events)) : List AV).length + ((List.map e_T_api_Event b_1.Events) : List AV).length) * 72 ≤ 140737488355328) an))))) ?_
  refine sr [] [4, 5] [2, 7] 8 [Pp 2, .bool true] [Vb 24 [Ii a_1.Thread, Ii a_1.Serial, Ii a_1.Lost, .own 7 (((([] ++ a_1.Events) ++ b_1.Events)).length)], Rb 33 6 (Mp e_T_api_Event (([] ++ a_1.Events) ++ b_1.Events))] hmix an ?_
  refine wk [2] [7] [.s 4, .s 5] [.a 0 (Vb 24 (v_T_api_Packet (⟨a_1.Thread, a_1.Serial, a_1.Lost, (([] ++ a_1.Events) ++ b_1.Events)⟩ : T_api_Packet)))] [(4, Pp 0), (5, .bool true)] [(0, Vb 24 (v_T_api_Packet (⟨a_1.Thread, a_1.Serial, a_1.Lost, (([] ++ a_1.Events) ++ b_1.Events)⟩ : T_api_Packet)))] (ar 24 (ac (rfl : ones [Ii ((⟨a_1.Thread, a_1.Serial, a_1.Lost, (([] ++ a_1.Events) ++ b_1.Events)⟩ : T_api_Packet).Thread), Ii ((⟨a_1.Thread, a_1.Serial, a_1.Lost, (([] ++ a_1.Events) ++ b_1.Events)⟩ : T_api_Packet).Serial), Ii ((⟨a_1.Thread, a_1.Serial, a_1.Lost, (([] ++ a_1.Events) ++ b_1.Events)⟩ : T_api_Packet).Lost), .sl false 6 (Mp e_T_api_Event ((⟨a_1.Thread, a_1.Serial, a_1.Lost, (([] ++ a_1.Events) ++ b_1.Events)⟩ : T_api_Packet).Events))] = true) (ac (by first | (simp; done) | (simp; omega) : ((([] ++ a_1.Events) ++ b_1.Events)).length = ((List.map e_T_api_Event (([] ++ a_1.Events) ++ b_1.Events))).length) (ac (rfl : (Ii a_1.Thread : AV) = Ii ((⟨a_1.Thread, a_1.Serial, a_1.Lost, (([] ++ a_1.Events) ++ b_1.Events)⟩ : T_api_Packet).Thread)) (ac (rfl : (Ii a_1.Serial : AV) = Ii ((⟨a_1.Thread, a_1.Serial, a_1.Lost, (([] ++ a_1.Events) ++ b_1.Events)⟩ : T_api_Packet).Serial)) (ac (rfl : (Ii a_1.Lost : AV) = Ii ((⟨a_1.Thread, a_1.Serial, a_1.Lost, (([] ++ a_1.Events) ++ b_1.Events)⟩ : T_api_Packet).Lost)) (ar 6 (ac (rfl : ((Mp e_T_api_Event (([] ++ a_1.Events) ++ b_1.Events)) : List AV) = (Mp e_T_api_Event ((⟨a_1.Thread, a_1.Serial, a_1.Lost, (([] ++ a_1.Events) ++ b_1.Events)⟩ : T_api_Packet).Events))) (ac (rfl : (!false || false) = true) an))))))))) ?_
  refine rt ?_
  cases h
  exact ⟨.inr rfl, Nat.le_of_ble_eq_true rfl, by kernel_rfl⟩

end Go.Ab
