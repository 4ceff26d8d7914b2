/- Printed: the typed Lean functions of the Go functions, or the proofs that the Go functions meet them. No conditions but those that the theorems name. -/
import Derived.Test.YtlnlcciflpncmaaP11x4
namespace Go.Ab
open Go
set_option linter.unusedVariables false
theorem L11_PacketBack_ok (F : Nat) (p_1 : T_api_Packet) (more_1 : List (Int)) (r : Bool) (h : L11_PacketBack F p_1 more_1 = some r) : TripleG prog 7 [] [] [e_T_api_Packet p_1, .sl false 1 (Mb more_1)] [] (.bool r) := by
 refine triple_intro (fn := Go.Proofs.Try.f7) (code := codeOf Go.Proofs.Try.f7) (by kernel_rfl) (by kernel_rfl) (Nat.le_of_ble_eq_true (by kernel_rfl)) ?_
 unfold L11_PacketBack at h
 refine sr [(0, { id := 0 })] [1, 2] [0] 1 [.sl false 1 (Mb more_1), Pp 0] [Vb 24 (v_T_api_Packet p_1)] hmix an ?_
 refine sq ?_
 refine sq ?_
 obtain ⟨p_2, h_2, h⟩ := bind_some h
 refine aw_mid (mk [(1, .sl false 1 (Mb more_1)), (2, Pp 0), (17, .bool p_2)] [(0, Vb 24 (v_T_api_Packet p_1))] 1) ?_ ?_
 ·replace h := h_2
  obtain ⟨r_1, h_1, h⟩ := bind_some h
  rcases bft (!r_1) with gg_1 | gg_1
  ·replace h := cond_t gg_1 h
   refine rg [(1, { av := .bool r_1, l := [e_T_api_Packet p_1] }), (4, Hg), (5, Hg), (6, Hg), (7, Ht)] [1, 2, 17] [0] 1 [.sl false 1 (Mb more_1), Pp 0, .bool true] [Vb 24 (v_T_api_Packet p_1)] hmix (ar ([e_T_api_Packet p_1] : List AV) (ac (rfl : ([] : List BoxSt) = []) (ac (L11_few_ok F p_1 r_1 h_1 : TripleG prog 11 [] [] [e_T_api_Packet p_1] [] (.bool r_1)) (ac gg_1 (ac gg_1 (ac gg_1 (ac gg_1 an))))))) ?_
   cases h
   exact ⟨rfl, (sw [0] [] [.s 1, .s 2, .s 17] [.s 0] an)⟩
  ·replace h := cond_f gg_1 h
   refine rg [(1, { av := .bool r_1, l := [e_T_api_Packet p_1] }), (5, { n := (more_1).length }), (7, Hf)] [1, 2, 17] [0] 1 [.sl false 1 (Mb more_1), Pp 0, .bool (decide ((lN (more_1)) > (100 : Int)))] [Vb 24 (v_T_api_Packet p_1)] hmix (ar ([e_T_api_Packet p_1] : List AV) (ac (rfl : ([] : List BoxSt) = []) (ac (L11_few_ok F p_1 r_1 h_1 : TripleG prog 11 [] [] [e_T_api_Packet p_1] [] (.bool r_1)) (ac gg_1 (ac gg_1 (ac (vc_len _ : ((Mb more_1)).length = (more_1).length) (ac gg_1 (ac gg_1 an)))))))) ?_
   cases h
   exact ⟨rfl, (sw [0] [] [.s 1, .s 2, .s 17] [.s 0] an)⟩
 refine cd 17 p_2 ?_ ?_
 ·intro g_1; replace h := cond_t g_1 h
  refine sq ?_
  obtain ⟨r_2, h_3, h⟩ := bind_some h
  refine rg [(0, { av := .bool r_2, l := [] })] [4] [] 1 [.bool r_2] [] hmix (ar ([] : List AV) (ac (rfl : ([] : List BoxSt) = []) (ac (L11_lives_ok F r_2 h_3 : TripleG prog 12 [] [] [] [] (.bool r_2)) an))) ?_
  refine rt ?_
  cases h
  exact ⟨.inr rfl, Nat.le_of_ble_eq_true rfl, by kernel_rfl⟩
 intro g_1; replace h := cond_f g_1 h
 refine sk ?_
 refine sq ?_
 obtain ⟨r_3, h_4, h⟩ := bind_some h
 refine rg [(1, { av := .tuple [.own 0 ((r_3.1).length), Ii r_3.2], ids := [1], l := [e_T_api_Packet p_1], post := [(.row 5 1 (Mb r_3.1))] })] [1, 2, 5, 6] [0, 1] 2 [.sl false 1 (Mb more_1), Pp 0, .own 1 ((r_3.1).length), Ii r_3.2] [Vb 24 (v_T_api_Packet p_1), Rb 5 1 (Mb r_3.1)] hmix (ar ([e_T_api_Packet p_1] : List AV) (ac (rfl : ([] : List BoxSt) = []) (ac (packet_Encode_ok F p_1 r_3 h_4 : TripleG prog 17 [] [] [e_T_api_Packet p_1] [(.row 5 1 (Mb r_3.1))] (.tuple [.own 0 ((r_3.1).length), Ii r_3.2])) an))) ?_
 refine sq ?_
 refine sr [] [1, 2, 5, 25] [0, 1] 2 [.sl false 1 (Mb more_1), Pp 0, .own 1 ((r_3.1).length), .bool (r_3.2 != (0 : Int))] [Vb 24 (v_T_api_Packet p_1), Rb 5 1 (Mb r_3.1)] hmix an ?_
 refine cd 25 (r_3.2 != (0 : Int)) ?_ ?_
 ·intro g_2; replace h := cond_t g_2 h
  refine sq ?_
  obtain ⟨p_3, h_6, h⟩ := bind_some h
  refine aw_mid (mk [(4, .bool p_3)] [] 0) ?_ ?_
  ·replace h := h_6
   rcases bft ((lN (r_3.1)) == (0 : Int)) with gg_2 | gg_2
   ·replace h := cond_t gg_2 h
    obtain ⟨r_4, h_5, h⟩ := bind_some h
    refine rg [(4, { av := .bool r_4, l := [] }), (5, Ht)] [4] [] 2 [.bool r_4] [] hmix (ac gg_2 (ar ([] : List AV) (ac (rfl : ([] : List BoxSt) = []) (ac (L11_lives_ok F r_4 h_5 : TripleG prog 12 [] [] [] [] (.bool r_4)) (ac gg_2 an))))) ?_
    cases h
    exact ⟨rfl, (sw [] [] [.s 4] [] an)⟩
   ·replace h := cond_f gg_2 h
    refine rg [(4, Hg), (5, Hf)] [4] [] 2 [.bool false] [] hmix (ac gg_2 (ac gg_2 an)) ?_
    cases h
    exact ⟨rfl, (sw [] [] [.s 4] [] an)⟩
  refine rt ?_
  cases h
  exact ⟨.inr rfl, Nat.le_of_ble_eq_true rfl, by kernel_rfl⟩
 intro g_2; replace h := cond_f g_2 h
 refine sk ?_
 refine sq ?_
 obtain ⟨_, h_7, h⟩ := bind_some h; replace h_7 := need_some h_7
 obtain ⟨_, h_8, h⟩ := bind_some h; replace h_8 := need_some h_8
 obtain ⟨r_5, h_9, h⟩ := bind_some h
 refine rg [(0, { id := 2 }), (2, { id := 3, l := (Mb ([] ++ r_3.1)), n := (([] ++ r_3.1)).length }), (4, { id := 4, l := (Mb (([] ++ r_3.1) ++ more_1)), n := ((([] ++ r_3.1) ++ more_1)).length }), (5, { av := .tuple [e_T_api_Packet r_5.1, Ii r_5.2.1, Ii r_5.2.2], frz := [4], l := [.sl false 1 (Mb (([] ++ r_3.1) ++ more_1))] }), (10, { id := 5 })] [2, 5, 7, 8, 9] [0, 1, 5] 6 [Pp 0, .own 1 ((r_3.1).length), Pp 5, Ii r_5.2.1, Ii r_5.2.2] [Vb 24 (v_T_api_Packet p_1), Rb 5 1 (Mb r_3.1), Vb 24 (v_T_api_Packet r_5.1)] hmix (ac (by first | (simp; done) | (simp; omega) : 0 = (([] : List AV)).length) (ac (by first | (simp; done) | (simp; omega) : (r_3.1).length = ((List.map (AV.int .u8) r_3.1)).length) (ac (by simp : (List.map (AV.int .u8) ([] ++ r_3.1)) = [] ++ (List.map (AV.int .u8) r_3.1)) (ac (by simp : (([] ++ r_3.1)).length = ((List.map (AV.int .u8) ([] ++ r_3.1))).length) (ac (by first | (simp; done) | simpa using h_7 : (([] : List AV).length + ((List.map (AV.int .u8) r_3.1) : List AV).length) * 1 ≤ 140737488355328) (ac (by first | (simp; done) | (simp; omega) : (([] ++ r_3.1)).length = ((List.map (AV.int .u8) ([] ++ r_3.1))).length) (ac (trivial : True) (ac (vc_app _ _ : (Mb (([] ++ r_3.1) ++ more_1)) = (Mb ([] ++ r_3.1)) ++ (Mb more_1)) (ac (by simp : ((([] ++ r_3.1) ++ more_1)).length = ((List.map (AV.int .u8) (([] ++ r_3.1) ++ more_1))).length) (ac (by first | (simp; done) | simpa using h_8 : (((List.map (AV.int .u8) ([] ++ r_3.1)) : List AV).length + ((List.map (AV.int .u8) more_1) : List AV).length) * 1 ≤ 140737488355328) (ac (by first | (simp; done) | (simp; omega) : ((([] ++ r_3.1) ++ more_1)).length = ((List.map (AV.int .u8) (([] ++ r_3.1) ++ more_1))).length) (ar ([.sl false 1 (Mb (([] ++ r_3.1) ++ more_1))] : List AV) (ac (rfl : ([] : List BoxSt) = []) (ac (packet_Decode_ok F (([] ++ r_3.1) ++ more_1) r_5 h_9 : TripleG prog 19 [] [] [.sl false 1 (Mb (([] ++ r_3.1) ++ more_1))] [] (.tuple [e_T_api_Packet r_5.1, Ii r_5.2.1, Ii r_5.2.2])) an)))))))))))))) ?_
 refine sq ?_
 obtain ⟨p_4, h_12, h⟩ := bind_some h
 refine aw_mid (mk [(4, .bool p_4)] [] 0) ?_ ?_
 ·replace h := h_12
  obtain ⟨r_6, h_10, h⟩ := bind_some h
  rcases Bool.eq_false_or_eq_true r_6 with gg_3 | gg_3
  ·replace h := cond_t gg_3 h
   rcases bft (r_5.2.1 == (lN (r_3.1))) with gg_4 | gg_4
   ·replace h := cond_t gg_4 h
    rcases bft (r_5.2.2 == (0 : Int)) with gg_5 | gg_5
    ·replace h := cond_t gg_5 h
     obtain ⟨r_7, h_11, h⟩ := bind_some h
     refine rg [(2, { av := .bool r_6, l := [e_T_api_Packet r_5.1, e_T_api_Packet p_1] }), (8, Ht), (12, Ht), (14, { av := .bool r_7, l := [] }), (15, Ht)] [4] [] 6 [.bool r_7] [] hmix (ar ([e_T_api_Packet r_5.1, e_T_api_Packet p_1] : List AV) (ac (rfl : ([] : List BoxSt) = []) (ac (R11_Same_ok F r_5.1 p_1 r_6 h_10 : TripleG prog 16 [] [] [e_T_api_Packet r_5.1, e_T_api_Packet p_1] [] (.bool r_6)) (ac gg_3 (ac gg_3 (ac gg_3 (ac gg_3 (ac gg_3 (ac gg_4 (ac gg_4 (ac gg_4 (ac gg_5 (ar ([] : List AV) (ac (rfl : ([] : List BoxSt) = []) (ac (L11_lives_ok F r_7 h_11 : TripleG prog 12 [] [] [] [] (.bool r_7)) (ac gg_5 an)))))))))))))))) ?_
     cases h
     exact ⟨rfl, (sw [] [] [.s 4] [] an)⟩
    ·replace h := cond_f gg_5 h
     refine rg [(2, { av := .bool r_6, l := [e_T_api_Packet r_5.1, e_T_api_Packet p_1] }), (8, Ht), (12, Ht), (14, Hg), (15, Hf)] [4] [] 6 [.bool false] [] hmix (ar ([e_T_api_Packet r_5.1, e_T_api_Packet p_1] : List AV) (ac (rfl : ([] : List BoxSt) = []) (ac (R11_Same_ok F r_5.1 p_1 r_6 h_10 : TripleG prog 16 [] [] [e_T_api_Packet r_5.1, e_T_api_Packet p_1] [] (.bool r_6)) (ac gg_3 (ac gg_3 (ac gg_3 (ac gg_3 (ac gg_3 (ac gg_4 (ac gg_4 (ac gg_4 (ac gg_5 (ac gg_5 an))))))))))))) ?_
     cases h
     exact ⟨rfl, (sw [] [] [.s 4] [] an)⟩
   ·replace h := cond_f gg_4 h
    refine rg [(2, { av := .bool r_6, l := [e_T_api_Packet r_5.1, e_T_api_Packet p_1] }), (8, Ht), (10, Hg), (11, Hg), (12, Hf), (14, Hg), (15, Hf)] [4] [] 6 [.bool false] [] hmix (ar ([e_T_api_Packet r_5.1, e_T_api_Packet p_1] : List AV) (ac (rfl : ([] : List BoxSt) = []) (ac (R11_Same_ok F r_5.1 p_1 r_6 h_10 : TripleG prog 16 [] [] [e_T_api_Packet r_5.1, e_T_api_Packet p_1] [] (.bool r_6)) (ac gg_3 (ac gg_3 (ac gg_3 (ac gg_3 (ac gg_3 (ac gg_4 (ac gg_4 (ac gg_4 (ac (rfl : false = !true) (ar false an))))))))))))) ?_
    cases h
    exact ⟨rfl, (sw [] [] [.s 4] [] an)⟩
  ·replace h := cond_f gg_3 h
   refine rg [(2, { av := .bool r_6, l := [e_T_api_Packet r_5.1, e_T_api_Packet p_1] }), (4, Hg), (5, Hg), (6, Hg), (7, Hg), (8, Hf), (10, Hg), (11, Hg), (12, Hf), (14, Hg), (15, Hf)] [4] [] 6 [.bool false] [] hmix (ar ([e_T_api_Packet r_5.1, e_T_api_Packet p_1] : List AV) (ac (rfl : ([] : List BoxSt) = []) (ac (R11_Same_ok F r_5.1 p_1 r_6 h_10 : TripleG prog 16 [] [] [e_T_api_Packet r_5.1, e_T_api_Packet p_1] [] (.bool r_6)) (ac gg_3 (ac gg_3 (ac gg_3 (ac gg_3 (ac gg_3 (ac (rfl : false = !true) (ac (rfl : false = !true) (ar false (ac (rfl : false = !true) (ar false an))))))))))))) ?_
   cases h
   exact ⟨rfl, (sw [] [] [.s 4] [] an)⟩
 refine rt ?_
 cases h
 exact ⟨.inr rfl, Nat.le_of_ble_eq_true rfl, by kernel_rfl⟩

end Go.Ab
