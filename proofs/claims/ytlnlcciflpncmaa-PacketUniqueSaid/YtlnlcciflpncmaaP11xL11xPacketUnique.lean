/- Printed: the typed Lean functions of the Go functions, or the proofs that the Go functions meet them. No conditions but those that the theorems name. -/
import Derived.Test.YtlnlcciflpncmaaP11x4
namespace Go.Ab
open Go
set_option linter.unusedVariables false
theorem L11_PacketUnique_ok (F : Nat) (b_1 : List (Int)) (r : Bool) (h : L11_PacketUnique F b_1 = some r) : TripleG prog 8 [] [] [.sl false 1 (Mb b_1)] [] (.bool r) := by
 refine triple_intro (fn := Go.Proofs.Try.f8) (code := codeOf Go.Proofs.Try.f8) (by kernel_rfl) (by kernel_rfl) (Nat.le_of_ble_eq_true (by kernel_rfl)) ?_
 unfold L11_PacketUnique at h
 refine sr [] [0] [] 0 [.sl false 1 (Mb b_1)] [] hmix an ?_
 refine sq ?_
 refine sr [(1, { n := (b_1).length })] [0, 10] [] 0 [.sl false 1 (Mb b_1), .bool (decide ((lN (b_1)) > (600 : Int)))] [] hmix (ac (vc_len _ : ((Mb b_1)).length = (b_1).length) an) ?_
 refine cd 10 (decide ((lN (b_1)) > (600 : Int))) ?_ ?_
 ·intro g_1; replace h := cond_t g_1 h
  refine sq ?_
  obtain ⟨r_1, h_1, h⟩ := bind_some h
  refine rg [(0, { av := .bool r_1, l := [] })] [2] [] 0 [.bool r_1] [] hmix (ar ([] : List AV) (ac (rfl : ([] : List BoxSt) = []) (ac (L11_lives_ok F r_1 h_1 : TripleG prog 12 [] [] [] [] (.bool r_1)) an))) ?_
  refine rt ?_
  cases h
  exact ⟨.inr rfl, Nat.le_of_ble_eq_true rfl, by kernel_rfl⟩
 intro g_1; replace h := cond_f g_1 h
 refine sk ?_
 refine sq ?_
 obtain ⟨r_2, h_2, h⟩ := bind_some h
 refine rg [(1, { av := .tuple [e_T_api_Packet r_2.1, Ii r_2.2.1, Ii r_2.2.2], l := [.sl false 1 (Mb b_1)] }), (6, { id := 0 })] [0, 3, 4, 5] [0] 1 [.sl false 1 (Mb b_1), Pp 0, Ii r_2.2.1, Ii r_2.2.2] [Vb 24 (v_T_api_Packet r_2.1)] hmix (ar ([.sl false 1 (Mb b_1)] : List AV) (ac (rfl : ([] : List BoxSt) = []) (ac (packet_Decode_ok F b_1 r_2 h_2 : TripleG prog 19 [] [] [.sl false 1 (Mb b_1)] [] (.tuple [e_T_api_Packet r_2.1, Ii r_2.2.1, Ii r_2.2.2])) an))) ?_
 refine sq ?_
 refine sr [] [0, 3, 4, 19] [0] 1 [.sl false 1 (Mb b_1), Pp 0, Ii r_2.2.1, .bool (r_2.2.2 != (0 : Int))] [Vb 24 (v_T_api_Packet r_2.1)] hmix an ?_
 refine cd 19 (r_2.2.2 != (0 : Int)) ?_ ?_
 ·intro g_2; replace h := cond_t g_2 h
  refine sq ?_
  obtain ⟨p_1, h_4, h⟩ := bind_some h
  refine aw_mid (mk [(2, .bool p_1)] [] 0) ?_ ?_
  ·replace h := h_4
   rcases bft (r_2.2.1 == (0 : Int)) with gg_1 | gg_1
   ·replace h := cond_t gg_1 h
    rcases bft ((lN (r_2.1.Events)) == (0 : Int)) with gg_2 | gg_2
    ·replace h := cond_t gg_2 h
     obtain ⟨r_3, h_3, h⟩ := bind_some h
     refine rg [(5, { n := (r_2.1.Events).length }), (7, Ht), (9, { av := .bool r_3, l := [] }), (10, Ht)] [2] [] 1 [.bool r_3] [] hmix (ac gg_1 (ac gg_1 (ac gg_1 (ac (vc_len _ : ((Mp e_T_api_Event r_2.1.Events)).length = (r_2.1.Events).length) (ac gg_1 (ac gg_1 (ac gg_2 (ar ([] : List AV) (ac (rfl : ([] : List BoxSt) = []) (ac (L11_lives_ok F r_3 h_3 : TripleG prog 12 [] [] [] [] (.bool r_3)) (ac gg_2 an))))))))))) ?_
     cases h
     exact ⟨rfl, (sw [] [] [.s 2] [] an)⟩
    ·replace h := cond_f gg_2 h
     refine rg [(5, { n := (r_2.1.Events).length }), (7, Ht), (9, Hg), (10, Hf)] [2] [] 1 [.bool false] [] hmix (ac gg_1 (ac gg_1 (ac gg_1 (ac (vc_len _ : ((Mp e_T_api_Event r_2.1.Events)).length = (r_2.1.Events).length) (ac gg_1 (ac gg_1 (ac gg_2 (ac gg_2 an)))))))) ?_
     cases h
     exact ⟨rfl, (sw [] [] [.s 2] [] an)⟩
   ·replace h := cond_f gg_1 h
    refine rg [(3, Hg), (4, Hg), (5, Hg), (6, Hg), (7, Hf), (9, Hg), (10, Hf)] [2] [] 1 [.bool false] [] hmix (ac gg_1 (ac gg_1 (ac gg_1 (ac gg_1 (ac gg_1 (ac (rfl : false = !true) (ar false an))))))) ?_
    cases h
    exact ⟨rfl, (sw [] [] [.s 2] [] an)⟩
  refine rt ?_
  cases h
  exact ⟨.inr rfl, Nat.le_of_ble_eq_true rfl, by kernel_rfl⟩
 intro g_2; replace h := cond_f g_2 h
 refine sk ?_
 refine sq ?_
 obtain ⟨r_4, h_5, h⟩ := bind_some h
 refine rg [(1, { av := .tuple [.own 0 ((r_4.1).length), Ii r_4.2], ids := [1], l := [e_T_api_Packet r_2.1], post := [(.row 5 1 (Mb r_4.1))] })] [0, 3, 4, 6, 7] [0, 1] 2 [.sl false 1 (Mb b_1), Pp 0, Ii r_2.2.1, .own 1 ((r_4.1).length), Ii r_4.2] [Vb 24 (v_T_api_Packet r_2.1), Rb 5 1 (Mb r_4.1)] hmix (ar ([e_T_api_Packet r_2.1] : List AV) (ac (rfl : ([] : List BoxSt) = []) (ac (packet_Encode_ok F r_2.1 r_4 h_5 : TripleG prog 17 [] [] [e_T_api_Packet r_2.1] [(.row 5 1 (Mb r_4.1))] (.tuple [.own 0 ((r_4.1).length), Ii r_4.2])) an))) ?_
 refine sq ?_
 obtain ⟨p_2, h_9, h⟩ := bind_some h
 refine aw_mid (mk [(2, .bool p_2)] [] 0) ?_ ?_
 ·replace h := h_9
  obtain ⟨r_5, h_6, h⟩ := bind_some h
  rcases bft (r_5 == (0 : Int)) with gg_3 | gg_3
  ·replace h := cond_t gg_3 h
   rcases bft (r_4.2 == (0 : Int)) with gg_4 | gg_4
   ·replace h := cond_t gg_4 h
    rcases bft (decide (r_2.2.1 > (0 : Int))) with gg_5 | gg_5
    ·replace h := cond_t gg_5 h
     rcases bft (decide (r_2.2.1 ≤ (lN (b_1)))) with gg_6 | gg_6
     ·replace h := cond_t gg_6 h
      obtain ⟨_, h_7, h⟩ := bind_some h; replace h_7 := need_some h_7
      rcases bft (r_4.1 == (sub b_1 (0 : Int) r_2.2.1)) with gg_7 | gg_7
      ·replace h := cond_t gg_7 h
       obtain ⟨r_6, h_8, h⟩ := bind_some h
       refine rg [(1, { av := Ii r_5, l := [e_T_api_Packet r_2.1] }), (6, Ht), (10, Ht), (14, { n := (b_1).length }), (16, Ht), (19, { s := r_4.1 }), (22, { l := (Mb (sub b_1 (0 : Int) r_2.2.1)) }), (23, { s := sub b_1 (0 : Int) r_2.2.1 }), (25, Ht), (27, { av := .bool r_6, l := [] }), (28, Ht)] [2] [] 2 [.bool r_6] [] hmix (ar ([e_T_api_Packet r_2.1] : List AV) (ac (rfl : ([] : List BoxSt) = []) (ac (packet_Check_ok F r_2.1 r_5 h_6 : TripleG prog 13 [] [] [e_T_api_Packet r_2.1] [] (Ii r_5)) (ac gg_3 (ac gg_3 (ac gg_3 (ac gg_4 (ac gg_4 (ac gg_4 (ac gg_5 (ac gg_5 (ac gg_5 (ac (vc_len _ : ((Mb b_1)).length = (b_1).length) (ac gg_5 (ac gg_5 (ac gg_6 (ac gg_6 (ac (by first | (simp; done) | (simp; omega) : (r_4.1).length = ((List.map (AV.int .u8) r_4.1)).length) (ac (rfl : (Mb r_4.1) = List.map (AV.int .u8) r_4.1) (ac gg_6 (ac gg_6 (ac gg_6 (ac (by decide : (0 : Int) ≤ (0 : Int)) (ac h_7.1 (ac (vc_lenle h_7.2 : r_2.2.1 ≤ (lN ((Mb b_1)))) (ac (vc_sub _ _ _ : (Mb (sub b_1 (0 : Int) r_2.2.1)) = (((Mb b_1)).take (r_2.2.1).toNat).drop ((0 : Int)).toNat) (ac gg_6 (ac (rfl : (Mb (sub b_1 (0 : Int) r_2.2.1)) = List.map (AV.int .u8) (sub b_1 (0 : Int) r_2.2.1)) (ac gg_6 (ac gg_6 (ac gg_7 (ar ([] : List AV) (ac (rfl : ([] : List BoxSt) = []) (ac (L11_lives_ok F r_6 h_8 : TripleG prog 12 [] [] [] [] (.bool r_6)) (ac gg_7 an))))))))))))))))))))))))))))))))))) ?_
       cases h
       exact ⟨rfl, (sw [] [] [.s 2] [] an)⟩
      ·replace h := cond_f gg_7 h
       refine rg [(1, { av := Ii r_5, l := [e_T_api_Packet r_2.1] }), (6, Ht), (10, Ht), (14, { n := (b_1).length }), (16, Ht), (19, { s := r_4.1 }), (22, { l := (Mb (sub b_1 (0 : Int) r_2.2.1)) }), (23, { s := sub b_1 (0 : Int) r_2.2.1 }), (25, Ht), (27, Hg), (28, Hf)] [2] [] 2 [.bool false] [] hmix (ar ([e_T_api_Packet r_2.1] : List AV) (ac (rfl : ([] : List BoxSt) = []) (ac (packet_Check_ok F r_2.1 r_5 h_6 : TripleG prog 13 [] [] [e_T_api_Packet r_2.1] [] (Ii r_5)) (ac gg_3 (ac gg_3 (ac gg_3 (ac gg_4 (ac gg_4 (ac gg_4 (ac gg_5 (ac gg_5 (ac gg_5 (ac (vc_len _ : ((Mb b_1)).length = (b_1).length) (ac gg_5 (ac gg_5 (ac gg_6 (ac gg_6 (ac (by first | (simp; done) | (simp; omega) : (r_4.1).length = ((List.map (AV.int .u8) r_4.1)).length) (ac (rfl : (Mb r_4.1) = List.map (AV.int .u8) r_4.1) (ac gg_6 (ac gg_6 (ac gg_6 (ac (by decide : (0 : Int) ≤ (0 : Int)) (ac h_7.1 (ac (vc_lenle h_7.2 : r_2.2.1 ≤ (lN ((Mb b_1)))) (ac (vc_sub _ _ _ : (Mb (sub b_1 (0 : Int) r_2.2.1)) = (((Mb b_1)).take (r_2.2.1).toNat).drop ((0 : Int)).toNat) (ac gg_6 (ac (rfl : (Mb (sub b_1 (0 : Int) r_2.2.1)) = List.map (AV.int .u8) (sub b_1 (0 : Int) r_2.2.1)) (ac gg_6 (ac gg_6 (ac gg_7 (ac gg_7 an)))))))))))))))))))))))))))))))) ?_
       cases h
       exact ⟨rfl, (sw [] [] [.s 2] [] an)⟩
     ·replace h := cond_f gg_6 h
      refine rg [(1, { av := Ii r_5, l := [e_T_api_Packet r_2.1] }), (6, Ht), (10, Ht), (14, { n := (b_1).length }), (16, Ht), (18, Hg), (19, Hg), (20, Hg), (21, Hg), (22, Hg), (23, Hg), (24, Hg), (25, Hf), (27, Hg), (28, Hf)] [2] [] 2 [.bool false] [] hmix (ar ([e_T_api_Packet r_2.1] : List AV) (ac (rfl : ([] : List BoxSt) = []) (ac (packet_Check_ok F r_2.1 r_5 h_6 : TripleG prog 13 [] [] [e_T_api_Packet r_2.1] [] (Ii r_5)) (ac gg_3 (ac gg_3 (ac gg_3 (ac gg_4 (ac gg_4 (ac gg_4 (ac gg_5 (ac gg_5 (ac gg_5 (ac (vc_len _ : ((Mb b_1)).length = (b_1).length) (ac gg_5 (ac gg_5 (ac gg_6 (ac gg_6 (ac gg_6 (ac gg_6 (ac gg_6 (ac gg_6 (ac gg_6 (ac gg_6 (ac (rfl : false = !true) (ar false an))))))))))))))))))))))))) ?_
      cases h
      exact ⟨rfl, (sw [] [] [.s 2] [] an)⟩
    ·replace h := cond_f gg_5 h
     refine rg [(1, { av := Ii r_5, l := [e_T_api_Packet r_2.1] }), (6, Ht), (10, Ht), (12, Hg), (13, Hg), (14, Hg), (15, Hg), (16, Hf), (18, Hg), (19, Hg), (20, Hg), (21, Hg), (22, Hg), (23, Hg), (24, Hg), (25, Hf), (27, Hg), (28, Hf)] [2] [] 2 [.bool false] [] hmix (ar ([e_T_api_Packet r_2.1] : List AV) (ac (rfl : ([] : List BoxSt) = []) (ac (packet_Check_ok F r_2.1 r_5 h_6 : TripleG prog 13 [] [] [e_T_api_Packet r_2.1] [] (Ii r_5)) (ac gg_3 (ac gg_3 (ac gg_3 (ac gg_4 (ac gg_4 (ac gg_4 (ac gg_5 (ac gg_5 (ac gg_5 (ac gg_5 (ac gg_5 (ac (rfl : false = !true) (ac (rfl : false = !true) (ac (rfl : false = !true) (ac (rfl : false = !true) (ac (rfl : false = !true) (ac (rfl : false = !true) (ac (rfl : false = !true) (ar false (ac (rfl : false = !true) (ar false an)))))))))))))))))))))))) ?_
     cases h
     exact ⟨rfl, (sw [] [] [.s 2] [] an)⟩
   ·replace h := cond_f gg_4 h
    refine rg [(1, { av := Ii r_5, l := [e_T_api_Packet r_2.1] }), (6, Ht), (8, Hg), (9, Hg), (10, Hf), (12, Hg), (13, Hg), (14, Hg), (15, Hg), (16, Hf), (18, Hg), (19, Hg), (20, Hg), (21, Hg), (22, Hg), (23, Hg), (24, Hg), (25, Hf), (27, Hg), (28, Hf)] [2] [] 2 [.bool false] [] hmix (ar ([e_T_api_Packet r_2.1] : List AV) (ac (rfl : ([] : List BoxSt) = []) (ac (packet_Check_ok F r_2.1 r_5 h_6 : TripleG prog 13 [] [] [e_T_api_Packet r_2.1] [] (Ii r_5)) (ac gg_3 (ac gg_3 (ac gg_3 (ac gg_4 (ac gg_4 (ac gg_4 (ac (rfl : false = !true) (ac (rfl : false = !true) (ac (rfl : false = !true) (ac (rfl : false = !true) (ar false (ac (rfl : false = !true) (ac (rfl : false = !true) (ac (rfl : false = !true) (ac (rfl : false = !true) (ac (rfl : false = !true) (ac (rfl : false = !true) (ac (rfl : false = !true) (ar false (ac (rfl : false = !true) (ar false an)))))))))))))))))))))))) ?_
    cases h
    exact ⟨rfl, (sw [] [] [.s 2] [] an)⟩
  ·replace h := cond_f gg_3 h
   refine rg [(1, { av := Ii r_5, l := [e_T_api_Packet r_2.1] }), (4, Hg), (5, Hg), (6, Hf), (8, Hg), (9, Hg), (10, Hf), (12, Hg), (13, Hg), (14, Hg), (15, Hg), (16, Hf), (18, Hg), (19, Hg), (20, Hg), (21, Hg), (22, Hg), (23, Hg), (24, Hg), (25, Hf), (27, Hg), (28, Hf)] [2] [] 2 [.bool false] [] hmix (ar ([e_T_api_Packet r_2.1] : List AV) (ac (rfl : ([] : List BoxSt) = []) (ac (packet_Check_ok F r_2.1 r_5 h_6 : TripleG prog 13 [] [] [e_T_api_Packet r_2.1] [] (Ii r_5)) (ac gg_3 (ac gg_3 (ac gg_3 (ac (rfl : false = !true) (ac (rfl : false = !true) (ar false (ac (rfl : false = !true) (ac (rfl : false = !true) (ac (rfl : false = !true) (ac (rfl : false = !true) (ar false (ac (rfl : false = !true) (ac (rfl : false = !true) (ac (rfl : false = !true) (ac (rfl : false = !true) (ac (rfl : false = !true) (ac (rfl : false = !true) (ac (rfl : false = !true) (ar false (ac (rfl : false = !true) (ar false an)))))))))))))))))))))))) ?_
   cases h
   exact ⟨rfl, (sw [] [] [.s 2] [] an)⟩
 refine rt ?_
 cases h
 exact ⟨.inr rfl, Nat.le_of_ble_eq_true rfl, by kernel_rfl⟩

end Go.Ab
