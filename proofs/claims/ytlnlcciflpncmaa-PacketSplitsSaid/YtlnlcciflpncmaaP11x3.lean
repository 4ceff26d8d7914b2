/- Printed: the typed Lean functions of the Go functions, or the proofs that the Go functions meet them. No conditions but those that the theorems name. -/
import Derived.Test.YtlnlcciflpncmaaP11x2
namespace Go.Ab
open Go
set_option linter.unusedVariables false
theorem L11_lives_ok (F : Nat) (r : Bool) (h : L11_lives F = some r) : TripleG prog 12 [] [] [] [] (.bool r) := by
 refine triple_intro (fn := Go.Proofs.Try.f12) (code := codeOf Go.Proofs.Try.f12) (by kernel_rfl) (by kernel_rfl) (Nat.le_of_ble_eq_true (by kernel_rfl)) ?_
 unfold L11_lives at h
 refine sr [] [] [] 0 [] [] hmix an ?_
 refine sr [(1, { id := 0, lo := [(12, [0, 0, 0, 0, 0, 1])] }), (3, { id := 1 })] [1] [0, 1] 2 [Pp 1] [Rb 33 6 (Mp e_T_api_Event ([(⟨(5 : Int), (3 : Int), ([97] : List Int), (0 : Int), (0 : Int), []⟩ : T_api_Event)] : List T_api_Event)), Vb 24 [Ii 7, Ii 1, Ii 1, .own 0 1]] hmix an ?_
 refine sq ?_
 refine wk [1] [0] [.s 1] [.a 0 (Vb 24 [Ii 7, Ii 1, Ii 1, .sl false 6 (Mp e_T_api_Event ([(⟨(5 : Int), (3 : Int), ([97] : List Int), (0 : Int), (0 : Int), []⟩ : T_api_Event)] : List T_api_Event))])] [(1, Pp 0)] [(0, Vb 24 [Ii 7, Ii 1, Ii 1, .sl false 6 (Mp e_T_api_Event ([(⟨(5 : Int), (3 : Int), ([97] : List Int), (0 : Int), (0 : Int), []⟩ : T_api_Event)] : List T_api_Event))])] (ar 24 (ac (rfl : ones [Ii 7, Ii 1, Ii 1, .sl false 6 (Mp e_T_api_Event ([(⟨(5 : Int), (3 : Int), ([97] : List Int), (0 : Int), (0 : Int), []⟩ : T_api_Event)] : List T_api_Event))] = true) (ac (by first | (simp; done) | (simp; omega) : 1 = ((List.map e_T_api_Event ([(⟨(5 : Int), (3 : Int), ([97] : List Int), (0 : Int), (0 : Int), []⟩ : T_api_Event)] : List T_api_Event))).length) (ac (rfl : (Ii 7 : AV) = Ii 7) (ac (rfl : (Ii 1 : AV) = Ii 1) (ac (rfl : (Ii 1 : AV) = Ii 1) (ar 6 (ar ((Mp e_T_api_Event ([(⟨(5 : Int), (3 : Int), ([97] : List Int), (0 : Int), (0 : Int), []⟩ : T_api_Event)] : List T_api_Event)) : List AV) (ac (rfl : (!false || false) = true) an))))))))) ?_
 obtain ⟨r_1, h_1, h⟩ := bind_some h
 refine rg [(1, { av := .tuple [.own 0 ((r_1.1).length), Ii r_1.2], ids := [1], l := [.agg [Ii 7, Ii 1, Ii 1, .sl false 6 (Mp e_T_api_Event ([(⟨(5 : Int), (3 : Int), ([97] : List Int), (0 : Int), (0 : Int), []⟩ : T_api_Event)] : List T_api_Event))]], post := [(.row 5 1 (Mb r_1.1))] })] [1, 2, 3] [0, 1] 2 [Pp 0, .own 1 ((r_1.1).length), Ii r_1.2] [Vb 24 [Ii 7, Ii 1, Ii 1, .sl false 6 (Mp e_T_api_Event ([(⟨(5 : Int), (3 : Int), ([97] : List Int), (0 : Int), (0 : Int), []⟩ : T_api_Event)] : List T_api_Event))], Rb 5 1 (Mb r_1.1)] hmix (ar ([.agg [Ii 7, Ii 1, Ii 1, .sl false 6 (Mp e_T_api_Event ([(⟨(5 : Int), (3 : Int), ([97] : List Int), (0 : Int), (0 : Int), []⟩ : T_api_Event)] : List T_api_Event))]] : List AV) (ac (rfl : ([] : List BoxSt) = []) (ac (triple_lo (args' := [e_T_api_Packet (⟨(7 : Int), (1 : Int), (1 : Int), ([(⟨(5 : Int), (3 : Int), ([97] : List Int), (0 : Int), (0 : Int), []⟩ : T_api_Event)] : List T_api_Event)⟩ : T_api_Packet)]) (packet_Encode_ok F (⟨(7 : Int), (1 : Int), (1 : Int), ([(⟨(5 : Int), (3 : Int), ([97] : List Int), (0 : Int), (0 : Int), []⟩ : T_api_Event)] : List T_api_Event)⟩ : T_api_Packet) r_1 h_1) rfl ⟨rfl, rfl, rfl, rfl, rfl, rfl, trivial⟩ : TripleG prog 17 [] [] [.agg [Ii 7, Ii 1, Ii 1, .sl false 6 (Mp e_T_api_Event ([(⟨(5 : Int), (3 : Int), ([97] : List Int), (0 : Int), (0 : Int), []⟩ : T_api_Event)] : List T_api_Event))]] [(.row 5 1 (Mb r_1.1))] (.tuple [.own 0 ((r_1.1).length), Ii r_1.2])) an))) ?_
 refine sq ?_
 refine sq ?_
 refine aw_mid (mk [(1, Pp 0), (2, .own 1 ((r_1.1).length)), (26, .bool (!(r_1.1 == ([14, 2, 2, 2, 2, 97, 0, 2, 6, 10, 0] : List Int)) || (r_1.2 != (0 : Int))))] [(0, Vb 24 [Ii 7, Ii 1, Ii 1, .sl false 6 (Mp e_T_api_Event ([(⟨(5 : Int), (3 : Int), ([97] : List Int), (0 : Int), (0 : Int), []⟩ : T_api_Event)] : List T_api_Event))]), (1, Rb 5 1 (Mb r_1.1))] 2) ?_ ?_
 ·rcases bft (!(r_1.1 == ([14, 2, 2, 2, 2, 97, 0, 2, 6, 10, 0] : List Int))) with gg_1 | gg_1
  ·refine rg [(1, { s := r_1.1 }), (4, Hg), (5, Hg), (6, Ht)] [1, 2, 26] [0, 1] 2 [Pp 0, .own 1 ((r_1.1).length), .bool true] [Vb 24 [Ii 7, Ii 1, Ii 1, .sl false 6 (Mp e_T_api_Event ([(⟨(5 : Int), (3 : Int), ([97] : List Int), (0 : Int), (0 : Int), []⟩ : T_api_Event)] : List T_api_Event))], Rb 5 1 (Mb r_1.1)] hmix (ac (by first | (simp; done) | (simp; omega) : (r_1.1).length = ((List.map (AV.int .u8) r_1.1)).length) (ac (rfl : (Mb r_1.1) = List.map (AV.int .u8) r_1.1) (ac gg_1 (ac gg_1 (ac gg_1 an))))) ?_
   exact ⟨rfl, (sw [0, 1] [] [.s 1, .s 2, .a 26 (.bool (!(r_1.1 == ([14, 2, 2, 2, 2, 97, 0, 2, 6, 10, 0] : List Int)) || (r_1.2 != (0 : Int))))] [.s 0, .s 1] (ac (congrArg AV.bool (ort gg_1) : (.bool true : AV) = .bool (!(r_1.1 == ([14, 2, 2, 2, 2, 97, 0, 2, 6, 10, 0] : List Int)) || (r_1.2 != (0 : Int)))) an))⟩
  ·refine rg [(1, { s := r_1.1 }), (6, Hf)] [1, 2, 26] [0, 1] 2 [Pp 0, .own 1 ((r_1.1).length), .bool (r_1.2 != (0 : Int))] [Vb 24 [Ii 7, Ii 1, Ii 1, .sl false 6 (Mp e_T_api_Event ([(⟨(5 : Int), (3 : Int), ([97] : List Int), (0 : Int), (0 : Int), []⟩ : T_api_Event)] : List T_api_Event))], Rb 5 1 (Mb r_1.1)] hmix (ac (by first | (simp; done) | (simp; omega) : (r_1.1).length = ((List.map (AV.int .u8) r_1.1)).length) (ac (rfl : (Mb r_1.1) = List.map (AV.int .u8) r_1.1) (ac gg_1 (ac gg_1 (ac gg_1 an))))) ?_
   exact ⟨rfl, (sw [0, 1] [] [.s 1, .s 2, .a 26 (.bool (!(r_1.1 == ([14, 2, 2, 2, 2, 97, 0, 2, 6, 10, 0] : List Int)) || (r_1.2 != (0 : Int))))] [.s 0, .s 1] (ac (congrArg AV.bool (orf gg_1 rfl) : (.bool (r_1.2 != (0 : Int)) : AV) = .bool (!(r_1.1 == ([14, 2, 2, 2, 2, 97, 0, 2, 6, 10, 0] : List Int)) || (r_1.2 != (0 : Int)))) an))⟩
 refine cd 26 (!(r_1.1 == ([14, 2, 2, 2, 2, 97, 0, 2, 6, 10, 0] : List Int)) || (r_1.2 != (0 : Int))) ?_ ?_
 ·intro g_1; replace h := cond_t g_1 h
  refine sr [] [0] [] 2 [.bool false] [] hmix an ?_
  refine rt ?_
  cases h
  exact ⟨.inr rfl, Nat.le_of_ble_eq_true rfl, by kernel_rfl⟩
 intro g_1; replace h := cond_f g_1 h
 refine sk ?_
 refine sq ?_
 obtain ⟨_, h_2, h⟩ := bind_some h; replace h_2 := need_some h_2
 obtain ⟨r_2, h_3, h⟩ := bind_some h
 refine rg [(1, { id := 2 }), (2, { id := 3, l := (Mb (r_1.1 ++ ([(9 : Int)] : List Int))), n := ((r_1.1 ++ ([(9 : Int)] : List Int))).length }), (3, { av := .tuple [e_T_api_Packet r_2.1, Ii r_2.2.1, Ii r_2.2.2], frz := [3], l := [.sl false 1 (Mb (r_1.1 ++ ([(9 : Int)] : List Int)))] }), (8, { id := 4 })] [1, 4, 5, 6] [0, 4] 5 [Pp 0, Pp 4, Ii r_2.2.1, Ii r_2.2.2] [Vb 24 [Ii 7, Ii 1, Ii 1, .sl false 6 (Mp e_T_api_Event ([(⟨(5 : Int), (3 : Int), ([97] : List Int), (0 : Int), (0 : Int), []⟩ : T_api_Event)] : List T_api_Event))], Vb 24 (v_T_api_Packet r_2.1)] hmix (ac (by first | (simp; done) | (simp; omega) : (r_1.1).length = ((List.map (AV.int .u8) r_1.1)).length) (ac (by first | (simp; done) | (simp; omega) : 1 = ((List.map (AV.int .u8) ([(9 : Int)] : List Int))).length) (ac (vc_app _ _ : (Mb (r_1.1 ++ ([(9 : Int)] : List Int))) = (Mb r_1.1) ++ (Mb ([(9 : Int)] : List Int))) (ac (by simp : ((r_1.1 ++ ([(9 : Int)] : List Int))).length = ((List.map (AV.int .u8) (r_1.1 ++ ([(9 : Int)] : List Int)))).length) (ac (by first | (simp; done) | simpa using h_2 : (((List.map (AV.int .u8) r_1.1) : List AV).length + ((List.map (AV.int .u8) ([(9 : Int)] : List Int)) : List AV).length) * 1 ≤ 140737488355328) (ac (by first | (simp; done) | (simp; omega) : ((r_1.1 ++ ([(9 : Int)] : List Int))).length = ((List.map (AV.int .u8) (r_1.1 ++ ([(9 : Int)] : List Int)))).length) (ar ([.sl false 1 (Mb (r_1.1 ++ ([(9 : Int)] : List Int)))] : List AV) (ac (rfl : ([] : List BoxSt) = []) (ac (packet_Decode_ok F (r_1.1 ++ ([(9 : Int)] : List Int)) r_2 h_3 : TripleG prog 19 [] [] [.sl false 1 (Mb (r_1.1 ++ ([(9 : Int)] : List Int)))] [] (.tuple [e_T_api_Packet r_2.1, Ii r_2.2.1, Ii r_2.2.2])) an))))))))) ?_
 refine sq ?_
 obtain ⟨r_3, h_4, h⟩ := bind_some h
 refine rg [(4, { av := .tuple [e_T_api_Packet r_3.1, .bool r_3.2], l := [.agg [Ii 7, Ii 1, Ii 1, .sl false 6 (Mp e_T_api_Event ([(⟨(5 : Int), (3 : Int), ([97] : List Int), (0 : Int), (0 : Int), []⟩ : T_api_Event)] : List T_api_Event))], .agg [Ii 7, Ii 2, Ii 0, .sl false 6 (Mp e_T_api_Event ([(⟨(5 : Int), (3 : Int), ([97] : List Int), (0 : Int), (0 : Int), []⟩ : T_api_Event)] : List T_api_Event))]] }), (8, { id := 5 })] [1, 4, 5, 6, 7, 8] [0, 4, 5] 6 [Pp 0, Pp 4, Ii r_2.2.1, Ii r_2.2.2, Pp 5, .bool r_3.2] [Vb 24 [Ii 7, Ii 1, Ii 1, .sl false 6 (Mp e_T_api_Event ([(⟨(5 : Int), (3 : Int), ([97] : List Int), (0 : Int), (0 : Int), []⟩ : T_api_Event)] : List T_api_Event))], Vb 24 (v_T_api_Packet r_2.1), Vb 24 (v_T_api_Packet r_3.1)] hmix (ar ([.agg [Ii 7, Ii 1, Ii 1, .sl false 6 (Mp e_T_api_Event ([(⟨(5 : Int), (3 : Int), ([97] : List Int), (0 : Int), (0 : Int), []⟩ : T_api_Event)] : List T_api_Event))], .agg [Ii 7, Ii 2, Ii 0, .sl false 6 (Mp e_T_api_Event ([(⟨(5 : Int), (3 : Int), ([97] : List Int), (0 : Int), (0 : Int), []⟩ : T_api_Event)] : List T_api_Event))]] : List AV) (ac (rfl : ([] : List BoxSt) = []) (ac (triple_lo (args' := [e_T_api_Packet (⟨(7 : Int), (1 : Int), (1 : Int), ([(⟨(5 : Int), (3 : Int), ([97] : List Int), (0 : Int), (0 : Int), []⟩ : T_api_Event)] : List T_api_Event)⟩ : T_api_Packet), e_T_api_Packet (⟨(7 : Int), (2 : Int), (0 : Int), ([(⟨(5 : Int), (3 : Int), ([97] : List Int), (0 : Int), (0 : Int), []⟩ : T_api_Event)] : List T_api_Event)⟩ : T_api_Packet)]) (packet_Join_ok F (⟨(7 : Int), (1 : Int), (1 : Int), ([(⟨(5 : Int), (3 : Int), ([97] : List Int), (0 : Int), (0 : Int), []⟩ : T_api_Event)] : List T_api_Event)⟩ : T_api_Packet) (⟨(7 : Int), (2 : Int), (0 : Int), ([(⟨(5 : Int), (3 : Int), ([97] : List Int), (0 : Int), (0 : Int), []⟩ : T_api_Event)] : List T_api_Event)⟩ : T_api_Packet) r_3 h_4) rfl ⟨rfl, rfl, rfl, rfl, rfl, rfl, rfl, rfl, rfl, rfl, rfl, rfl, trivial⟩ : TripleG prog 21 [] [] [.agg [Ii 7, Ii 1, Ii 1, .sl false 6 (Mp e_T_api_Event ([(⟨(5 : Int), (3 : Int), ([97] : List Int), (0 : Int), (0 : Int), []⟩ : T_api_Event)] : List T_api_Event))], .agg [Ii 7, Ii 2, Ii 0, .sl false 6 (Mp e_T_api_Event ([(⟨(5 : Int), (3 : Int), ([97] : List Int), (0 : Int), (0 : Int), []⟩ : T_api_Event)] : List T_api_Event))]] [] (.tuple [e_T_api_Packet r_3.1, .bool r_3.2])) an))) ?_
 refine sq ?_
 obtain ⟨r_4, h_5, h⟩ := bind_some h
 refine rg [(1, { av := .tuple [e_T_api_Packet r_4.1, e_T_api_Packet r_4.2.1, .bool r_4.2.2], l := [e_T_api_Packet r_3.1, Ii 1] }), (6, { id := 6 }), (7, { id := 7 })] [1, 4, 5, 6, 7, 8, 9, 10, 11] [0, 4, 5, 6, 7] 8 [Pp 0, Pp 4, Ii r_2.2.1, Ii r_2.2.2, Pp 5, .bool r_3.2, Pp 6, Pp 7, .bool r_4.2.2] [Vb 24 [Ii 7, Ii 1, Ii 1, .sl false 6 (Mp e_T_api_Event ([(⟨(5 : Int), (3 : Int), ([97] : List Int), (0 : Int), (0 : Int), []⟩ : T_api_Event)] : List T_api_Event))], Vb 24 (v_T_api_Packet r_2.1), Vb 24 (v_T_api_Packet r_3.1), Vb 24 (v_T_api_Packet r_4.1), Vb 24 (v_T_api_Packet r_4.2.1)] hmix (ar ([e_T_api_Packet r_3.1, Ii 1] : List AV) (ac (rfl : ([] : List BoxSt) = []) (ac (packet_Split_ok F r_3.1 (1 : Int) r_4 h_5 : TripleG prog 23 [] [] [e_T_api_Packet r_3.1, Ii 1] [] (.tuple [e_T_api_Packet r_4.1, e_T_api_Packet r_4.2.1, .bool r_4.2.2])) an))) ?_
 refine sq ?_
 obtain ⟨p_1, h_10, h⟩ := bind_some h
 refine aw_mid (mk [(0, .bool p_1)] [] 0) ?_ ?_
 ·replace h := h_10
  obtain ⟨r_5, h_6, h⟩ := bind_some h
  rcases Bool.eq_false_or_eq_true r_5 with gg_2 | gg_2
  ·replace h := cond_t gg_2 h
   rcases bft (r_2.2.1 == (11 : Int)) with gg_3 | gg_3
   ·replace h := cond_t gg_3 h
    rcases bft (r_2.2.2 == (0 : Int)) with gg_4 | gg_4
    ·replace h := cond_t gg_4 h
     rcases Bool.eq_false_or_eq_true r_3.2 with gg_5 | gg_5
     ·replace h := cond_t gg_5 h
      rcases bft ((lN (r_3.1.Events)) == (2 : Int)) with gg_6 | gg_6
      ·replace h := cond_t gg_6 h
       rcases Bool.eq_false_or_eq_true r_4.2.2 with gg_7 | gg_7
       ·replace h := cond_t gg_7 h
        obtain ⟨r_6, h_7, h⟩ := bind_some h
        rcases Bool.eq_false_or_eq_true r_6 with gg_8 | gg_8
        ·replace h := cond_t gg_8 h
         rcases bft (r_4.2.1.Serial == (2 : Int)) with gg_9 | gg_9
         ·replace h := cond_t gg_9 h
          obtain ⟨r_7, h_8, h⟩ := bind_some h
          rcases Bool.eq_false_or_eq_true r_7 with gg_10 | gg_10
          ·replace h := cond_t gg_10 h
           obtain ⟨r_8, h_9, h⟩ := bind_some h
           refine rg [(2, { av := .bool r_5, l := [e_T_api_Packet r_2.1, .agg [Ii 7, Ii 1, Ii 1, .sl false 6 (Mp e_T_api_Event ([(⟨(5 : Int), (3 : Int), ([97] : List Int), (0 : Int), (0 : Int), []⟩ : T_api_Event)] : List T_api_Event))]] }), (6, Ht), (10, Ht), (13, Ht), (17, { n := (r_3.1.Events).length }), (19, Ht), (22, Ht), (26, { av := .bool r_6, l := [e_T_api_Packet r_4.1, .agg [Ii 7, Ii 1, Ii 1, .sl false 6 (Mp e_T_api_Event ([(⟨(5 : Int), (3 : Int), ([97] : List Int), (0 : Int), (0 : Int), []⟩ : T_api_Event)] : List T_api_Event))]] }), (27, Ht), (32, Ht), (36, { av := .bool r_7, l := [.agg [Ii 7, Ii 1, Ii 1, .sl false 6 (Mp e_T_api_Event ([(⟨(5 : Int), (3 : Int), ([97] : List Int), (0 : Int), (0 : Int), []⟩ : T_api_Event)] : List T_api_Event))], e_T_api_Packet r_2.1] }), (37, Ht), (40, { av := Ii r_8, l := [.agg [Ii 7, Ii 1, Ii 1, .sl false 6 (Mp e_T_api_Event ([(⟨(5 : Int), (3 : Int), ([97] : List Int), (0 : Int), (0 : Int), []⟩ : T_api_Event)] : List T_api_Event))]] }), (42, Ht)] [0] [] 8 [.bool (r_8 == (0 : Int))] [] hmix (ar ([e_T_api_Packet r_2.1, .agg [Ii 7, Ii 1, Ii 1, .sl false 6 (Mp e_T_api_Event ([(⟨(5 : Int), (3 : Int), ([97] : List Int), (0 : Int), (0 : Int), []⟩ : T_api_Event)] : List T_api_Event))]] : List AV) (ac (rfl : ([] : List BoxSt) = []) (ac (triple_lo (args' := [e_T_api_Packet r_2.1, e_T_api_Packet (⟨(7 : Int), (1 : Int), (1 : Int), ([(⟨(5 : Int), (3 : Int), ([97] : List Int), (0 : Int), (0 : Int), []⟩ : T_api_Event)] : List T_api_Event)⟩ : T_api_Packet)]) (R11_Same_ok F r_2.1 (⟨(7 : Int), (1 : Int), (1 : Int), ([(⟨(5 : Int), (3 : Int), ([97] : List Int), (0 : Int), (0 : Int), []⟩ : T_api_Event)] : List T_api_Event)⟩ : T_api_Packet) r_5 h_6) rfl ⟨rfl, rfl, rfl, rfl, rfl, rfl, rfl, rfl, rfl, rfl, rfl, rfl, trivial⟩ : TripleG prog 16 [] [] [e_T_api_Packet r_2.1, .agg [Ii 7, Ii 1, Ii 1, .sl false 6 (Mp e_T_api_Event ([(⟨(5 : Int), (3 : Int), ([97] : List Int), (0 : Int), (0 : Int), []⟩ : T_api_Event)] : List T_api_Event))]] [] (.bool r_5)) (ac gg_2 (ac gg_2 (ac gg_2 (ac gg_3 (ac gg_3 (ac gg_3 (ac gg_4 (ac gg_4 (ac gg_5 (ac gg_5 (ac gg_5 (ac (vc_len _ : ((Mp e_T_api_Event r_3.1.Events)).length = (r_3.1.Events).length) (ac gg_5 (ac gg_5 (ac gg_6 (ac gg_6 (ac gg_7 (ac gg_7 (ac gg_7 (ar ([e_T_api_Packet r_4.1, .agg [Ii 7, Ii 1, Ii 1, .sl false 6 (Mp e_T_api_Event ([(⟨(5 : Int), (3 : Int), ([97] : List Int), (0 : Int), (0 : Int), []⟩ : T_api_Event)] : List T_api_Event))]] : List AV) (ac (rfl : ([] : List BoxSt) = []) (ac (triple_lo (args' := [e_T_api_Packet r_4.1, e_T_api_Packet (⟨(7 : Int), (1 : Int), (1 : Int), ([(⟨(5 : Int), (3 : Int), ([97] : List Int), (0 : Int), (0 : Int), []⟩ : T_api_Event)] : List T_api_Event)⟩ : T_api_Packet)]) (R11_Same_ok F r_4.1 (⟨(7 : Int), (1 : Int), (1 : Int), ([(⟨(5 : Int), (3 : Int), ([97] : List Int), (0 : Int), (0 : Int), []⟩ : T_api_Event)] : List T_api_Event)⟩ : T_api_Packet) r_6 h_7) rfl ⟨rfl, rfl, rfl, rfl, rfl, rfl, rfl, rfl, rfl, rfl, rfl, rfl, trivial⟩ : TripleG prog 16 [] [] [e_T_api_Packet r_4.1, .agg [Ii 7, Ii 1, Ii 1, .sl false 6 (Mp e_T_api_Event ([(⟨(5 : Int), (3 : Int), ([97] : List Int), (0 : Int), (0 : Int), []⟩ : T_api_Event)] : List T_api_Event))]] [] (.bool r_6)) (ac gg_7 (ac gg_8 (ac gg_8 (ac gg_8 (ac gg_8 (ac gg_9 (ac gg_9 (ac gg_9 (ar ([.agg [Ii 7, Ii 1, Ii 1, .sl false 6 (Mp e_T_api_Event ([(⟨(5 : Int), (3 : Int), ([97] : List Int), (0 : Int), (0 : Int), []⟩ : T_api_Event)] : List T_api_Event))], e_T_api_Packet r_2.1] : List AV) (ac (rfl : ([] : List BoxSt) = []) (ac (triple_lo (args' := [e_T_api_Packet (⟨(7 : Int), (1 : Int), (1 : Int), ([(⟨(5 : Int), (3 : Int), ([97] : List Int), (0 : Int), (0 : Int), []⟩ : T_api_Event)] : List T_api_Event)⟩ : T_api_Packet), e_T_api_Packet r_2.1]) (packet_Same_ok F (⟨(7 : Int), (1 : Int), (1 : Int), ([(⟨(5 : Int), (3 : Int), ([97] : List Int), (0 : Int), (0 : Int), []⟩ : T_api_Event)] : List T_api_Event)⟩ : T_api_Packet) r_2.1 r_7 h_8) rfl ⟨rfl, rfl, rfl, rfl, rfl, rfl, rfl, rfl, rfl, rfl, rfl, rfl, trivial⟩ : TripleG prog 15 [] [] [.agg [Ii 7, Ii 1, Ii 1, .sl false 6 (Mp e_T_api_Event ([(⟨(5 : Int), (3 : Int), ([97] : List Int), (0 : Int), (0 : Int), []⟩ : T_api_Event)] : List T_api_Event))], e_T_api_Packet r_2.1] [] (.bool r_7)) (ac gg_9 (ac gg_10 (ac gg_10 (ar ([.agg [Ii 7, Ii 1, Ii 1, .sl false 6 (Mp e_T_api_Event ([(⟨(5 : Int), (3 : Int), ([97] : List Int), (0 : Int), (0 : Int), []⟩ : T_api_Event)] : List T_api_Event))]] : List AV) (ac (rfl : ([] : List BoxSt) = []) (ac (triple_lo (args' := [e_T_api_Packet (⟨(7 : Int), (1 : Int), (1 : Int), ([(⟨(5 : Int), (3 : Int), ([97] : List Int), (0 : Int), (0 : Int), []⟩ : T_api_Event)] : List T_api_Event)⟩ : T_api_Packet)]) (packet_Check_ok F (⟨(7 : Int), (1 : Int), (1 : Int), ([(⟨(5 : Int), (3 : Int), ([97] : List Int), (0 : Int), (0 : Int), []⟩ : T_api_Event)] : List T_api_Event)⟩ : T_api_Packet) r_8 h_9) rfl ⟨rfl, rfl, rfl, rfl, rfl, rfl, trivial⟩ : TripleG prog 13 [] [] [.agg [Ii 7, Ii 1, Ii 1, .sl false 6 (Mp e_T_api_Event ([(⟨(5 : Int), (3 : Int), ([97] : List Int), (0 : Int), (0 : Int), []⟩ : T_api_Event)] : List T_api_Event))]] [] (Ii r_8)) (ac gg_10 (ac gg_10 an)))))))))))))))))))))))))))))))))))))))))))) ?_
           cases h
           exact ⟨rfl, (sw [] [] [.s 0] [] an)⟩
          ·replace h := cond_f gg_10 h
           refine rg [(2, { av := .bool r_5, l := [e_T_api_Packet r_2.1, .agg [Ii 7, Ii 1, Ii 1, .sl false 6 (Mp e_T_api_Event ([(⟨(5 : Int), (3 : Int), ([97] : List Int), (0 : Int), (0 : Int), []⟩ : T_api_Event)] : List T_api_Event))]] }), (6, Ht), (10, Ht), (13, Ht), (17, { n := (r_3.1.Events).length }), (19, Ht), (22, Ht), (26, { av := .bool r_6, l := [e_T_api_Packet r_4.1, .agg [Ii 7, Ii 1, Ii 1, .sl false 6 (Mp e_T_api_Event ([(⟨(5 : Int), (3 : Int), ([97] : List Int), (0 : Int), (0 : Int), []⟩ : T_api_Event)] : List T_api_Event))]] }), (27, Ht), (32, Ht), (36, { av := .bool r_7, l := [.agg [Ii 7, Ii 1, Ii 1, .sl false 6 (Mp e_T_api_Event ([(⟨(5 : Int), (3 : Int), ([97] : List Int), (0 : Int), (0 : Int), []⟩ : T_api_Event)] : List T_api_Event))], e_T_api_Packet r_2.1] }), (37, Ht), (39, Hg), (40, Hg), (41, Hg), (42, Hf)] [0] [] 8 [.bool false] [] hmix (ar ([e_T_api_Packet r_2.1, .agg [Ii 7, Ii 1, Ii 1, .sl false 6 (Mp e_T_api_Event ([(⟨(5 : Int), (3 : Int), ([97] : List Int), (0 : Int), (0 : Int), []⟩ : T_api_Event)] : List T_api_Event))]] : List AV) (ac (rfl : ([] : List BoxSt) = []) (ac (triple_lo (args' := [e_T_api_Packet r_2.1, e_T_api_Packet (⟨(7 : Int), (1 : Int), (1 : Int), ([(⟨(5 : Int), (3 : Int), ([97] : List Int), (0 : Int), (0 : Int), []⟩ : T_api_Event)] : List T_api_Event)⟩ : T_api_Packet)]) (R11_Same_ok F r_2.1 (⟨(7 : Int), (1 : Int), (1 : Int), ([(⟨(5 : Int), (3 : Int), ([97] : List Int), (0 : Int), (0 : Int), []⟩ : T_api_Event)] : List T_api_Event)⟩ : T_api_Packet) r_5 h_6) rfl ⟨rfl, rfl, rfl, rfl, rfl, rfl, rfl, rfl, rfl, rfl, rfl, rfl, trivial⟩ : TripleG prog 16 [] [] [e_T_api_Packet r_2.1, .agg [Ii 7, Ii 1, Ii 1, .sl false 6 (Mp e_T_api_Event ([(⟨(5 : Int), (3 : Int), ([97] : List Int), (0 : Int), (0 : Int), []⟩ : T_api_Event)] : List T_api_Event))]] [] (.bool r_5)) (ac gg_2 (ac gg_2 (ac gg_2 (ac gg_3 (ac gg_3 (ac gg_3 (ac gg_4 (ac gg_4 (ac gg_5 (ac gg_5 (ac gg_5 (ac (vc_len _ : ((Mp e_T_api_Event r_3.1.Events)).length = (r_3.1.Events).length) (ac gg_5 (ac gg_5 (ac gg_6 (ac gg_6 (ac gg_7 (ac gg_7 (ac gg_7 (ar ([e_T_api_Packet r_4.1, .agg [Ii 7, Ii 1, Ii 1, .sl false 6 (Mp e_T_api_Event ([(⟨(5 : Int), (3 : Int), ([97] : List Int), (0 : Int), (0 : Int), []⟩ : T_api_Event)] : List T_api_Event))]] : List AV) (ac (rfl : ([] : List BoxSt) = []) (ac (triple_lo (args' := [e_T_api_Packet r_4.1, e_T_api_Packet (⟨(7 : Int), (1 : Int), (1 : Int), ([(⟨(5 : Int), (3 : Int), ([97] : List Int), (0 : Int), (0 : Int), []⟩ : T_api_Event)] : List T_api_Event)⟩ : T_api_Packet)]) (R11_Same_ok F r_4.1 (⟨(7 : Int), (1 : Int), (1 : Int), ([(⟨(5 : Int), (3 : Int), ([97] : List Int), (0 : Int), (0 : Int), []⟩ : T_api_Event)] : List T_api_Event)⟩ : T_api_Packet) r_6 h_7) rfl ⟨rfl, rfl, rfl, rfl, rfl, rfl, rfl, rfl, rfl, rfl, rfl, rfl, trivial⟩ : TripleG prog 16 [] [] [e_T_api_Packet r_4.1, .agg [Ii 7, Ii 1, Ii 1, .sl false 6 (Mp e_T_api_Event ([(⟨(5 : Int), (3 : Int), ([97] : List Int), (0 : Int), (0 : Int), []⟩ : T_api_Event)] : List T_api_Event))]] [] (.bool r_6)) (ac gg_7 (ac gg_8 (ac gg_8 (ac gg_8 (ac gg_8 (ac gg_9 (ac gg_9 (ac gg_9 (ar ([.agg [Ii 7, Ii 1, Ii 1, .sl false 6 (Mp e_T_api_Event ([(⟨(5 : Int), (3 : Int), ([97] : List Int), (0 : Int), (0 : Int), []⟩ : T_api_Event)] : List T_api_Event))], e_T_api_Packet r_2.1] : List AV) (ac (rfl : ([] : List BoxSt) = []) (ac (triple_lo (args' := [e_T_api_Packet (⟨(7 : Int), (1 : Int), (1 : Int), ([(⟨(5 : Int), (3 : Int), ([97] : List Int), (0 : Int), (0 : Int), []⟩ : T_api_Event)] : List T_api_Event)⟩ : T_api_Packet), e_T_api_Packet r_2.1]) (packet_Same_ok F (⟨(7 : Int), (1 : Int), (1 : Int), ([(⟨(5 : Int), (3 : Int), ([97] : List Int), (0 : Int), (0 : Int), []⟩ : T_api_Event)] : List T_api_Event)⟩ : T_api_Packet) r_2.1 r_7 h_8) rfl ⟨rfl, rfl, rfl, rfl, rfl, rfl, rfl, rfl, rfl, rfl, rfl, rfl, trivial⟩ : TripleG prog 15 [] [] [.agg [Ii 7, Ii 1, Ii 1, .sl false 6 (Mp e_T_api_Event ([(⟨(5 : Int), (3 : Int), ([97] : List Int), (0 : Int), (0 : Int), []⟩ : T_api_Event)] : List T_api_Event))], e_T_api_Packet r_2.1] [] (.bool r_7)) (ac gg_9 (ac gg_10 (ac gg_10 (ac gg_10 (ac gg_10 an))))))))))))))))))))))))))))))))))))))))) ?_
           cases h
           exact ⟨rfl, (sw [] [] [.s 0] [] an)⟩
         ·replace h := cond_f gg_9 h
          refine rg [(2, { av := .bool r_5, l := [e_T_api_Packet r_2.1, .agg [Ii 7, Ii 1, Ii 1, .sl false 6 (Mp e_T_api_Event ([(⟨(5 : Int), (3 : Int), ([97] : List Int), (0 : Int), (0 : Int), []⟩ : T_api_Event)] : List T_api_Event))]] }), (6, Ht), (10, Ht), (13, Ht), (17, { n := (r_3.1.Events).length }), (19, Ht), (22, Ht), (26, { av := .bool r_6, l := [e_T_api_Packet r_4.1, .agg [Ii 7, Ii 1, Ii 1, .sl false 6 (Mp e_T_api_Event ([(⟨(5 : Int), (3 : Int), ([97] : List Int), (0 : Int), (0 : Int), []⟩ : T_api_Event)] : List T_api_Event))]] }), (27, Ht), (32, Ht), (34, Hg), (35, Hg), (36, Hg), (37, Hf), (39, Hg), (40, Hg), (41, Hg), (42, Hf)] [0] [] 8 [.bool false] [] hmix (ar ([e_T_api_Packet r_2.1, .agg [Ii 7, Ii 1, Ii 1, .sl false 6 (Mp e_T_api_Event ([(⟨(5 : Int), (3 : Int), ([97] : List Int), (0 : Int), (0 : Int), []⟩ : T_api_Event)] : List T_api_Event))]] : List AV) (ac (rfl : ([] : List BoxSt) = []) (ac (triple_lo (args' := [e_T_api_Packet r_2.1, e_T_api_Packet (⟨(7 : Int), (1 : Int), (1 : Int), ([(⟨(5 : Int), (3 : Int), ([97] : List Int), (0 : Int), (0 : Int), []⟩ : T_api_Event)] : List T_api_Event)⟩ : T_api_Packet)]) (R11_Same_ok F r_2.1 (⟨(7 : Int), (1 : Int), (1 : Int), ([(⟨(5 : Int), (3 : Int), ([97] : List Int), (0 : Int), (0 : Int), []⟩ : T_api_Event)] : List T_api_Event)⟩ : T_api_Packet) r_5 h_6) rfl ⟨rfl, rfl, rfl, rfl, rfl, rfl, rfl, rfl, rfl, rfl, rfl, rfl, trivial⟩ : TripleG prog 16 [] [] [e_T_api_Packet r_2.1, .agg [Ii 7, Ii 1, Ii 1, .sl false 6 (Mp e_T_api_Event ([(⟨(5 : Int), (3 : Int), ([97] : List Int), (0 : Int), (0 : Int), []⟩ : T_api_Event)] : List T_api_Event))]] [] (.bool r_5)) (ac gg_2 (ac gg_2 (ac gg_2 (ac gg_3 (ac gg_3 (ac gg_3 (ac gg_4 (ac gg_4 (ac gg_5 (ac gg_5 (ac gg_5 (ac (vc_len _ : ((Mp e_T_api_Event r_3.1.Events)).length = (r_3.1.Events).length) (ac gg_5 (ac gg_5 (ac gg_6 (ac gg_6 (ac gg_7 (ac gg_7 (ac gg_7 (ar ([e_T_api_Packet r_4.1, .agg [Ii 7, Ii 1, Ii 1, .sl false 6 (Mp e_T_api_Event ([(⟨(5 : Int), (3 : Int), ([97] : List Int), (0 : Int), (0 : Int), []⟩ : T_api_Event)] : List T_api_Event))]] : List AV) (ac (rfl : ([] : List BoxSt) = []) (ac (triple_lo (args' := [e_T_api_Packet r_4.1, e_T_api_Packet (⟨(7 : Int), (1 : Int), (1 : Int), ([(⟨(5 : Int), (3 : Int), ([97] : List Int), (0 : Int), (0 : Int), []⟩ : T_api_Event)] : List T_api_Event)⟩ : T_api_Packet)]) (R11_Same_ok F r_4.1 (⟨(7 : Int), (1 : Int), (1 : Int), ([(⟨(5 : Int), (3 : Int), ([97] : List Int), (0 : Int), (0 : Int), []⟩ : T_api_Event)] : List T_api_Event)⟩ : T_api_Packet) r_6 h_7) rfl ⟨rfl, rfl, rfl, rfl, rfl, rfl, rfl, rfl, rfl, rfl, rfl, rfl, trivial⟩ : TripleG prog 16 [] [] [e_T_api_Packet r_4.1, .agg [Ii 7, Ii 1, Ii 1, .sl false 6 (Mp e_T_api_Event ([(⟨(5 : Int), (3 : Int), ([97] : List Int), (0 : Int), (0 : Int), []⟩ : T_api_Event)] : List T_api_Event))]] [] (.bool r_6)) (ac gg_7 (ac gg_8 (ac gg_8 (ac gg_8 (ac gg_8 (ac gg_9 (ac gg_9 (ac gg_9 (ac gg_9 (ac (rfl : false = !true) (ac (rfl : false = !true) (ac (rfl : false = !true) (ar false an)))))))))))))))))))))))))))))))))))))) ?_
          cases h
          exact ⟨rfl, (sw [] [] [.s 0] [] an)⟩
        ·replace h := cond_f gg_8 h
         refine rg [(2, { av := .bool r_5, l := [e_T_api_Packet r_2.1, .agg [Ii 7, Ii 1, Ii 1, .sl false 6 (Mp e_T_api_Event ([(⟨(5 : Int), (3 : Int), ([97] : List Int), (0 : Int), (0 : Int), []⟩ : T_api_Event)] : List T_api_Event))]] }), (6, Ht), (10, Ht), (13, Ht), (17, { n := (r_3.1.Events).length }), (19, Ht), (22, Ht), (26, { av := .bool r_6, l := [e_T_api_Packet r_4.1, .agg [Ii 7, Ii 1, Ii 1, .sl false 6 (Mp e_T_api_Event ([(⟨(5 : Int), (3 : Int), ([97] : List Int), (0 : Int), (0 : Int), []⟩ : T_api_Event)] : List T_api_Event))]] }), (27, Ht), (29, Hg), (30, Hg), (31, Hg), (32, Hf), (34, Hg), (35, Hg), (36, Hg), (37, Hf), (39, Hg), (40, Hg), (41, Hg), (42, Hf)] [0] [] 8 [.bool false] [] hmix (ar ([e_T_api_Packet r_2.1, .agg [Ii 7, Ii 1, Ii 1, .sl false 6 (Mp e_T_api_Event ([(⟨(5 : Int), (3 : Int), ([97] : List Int), (0 : Int), (0 : Int), []⟩ : T_api_Event)] : List T_api_Event))]] : List AV) (ac (rfl : ([] : List BoxSt) = []) (ac (triple_lo (args' := [e_T_api_Packet r_2.1, e_T_api_Packet (⟨(7 : Int), (1 : Int), (1 : Int), ([(⟨(5 : Int), (3 : Int), ([97] : List Int), (0 : Int), (0 : Int), []⟩ : T_api_Event)] : List T_api_Event)⟩ : T_api_Packet)]) (R11_Same_ok F r_2.1 (⟨(7 : Int), (1 : Int), (1 : Int), ([(⟨(5 : Int), (3 : Int), ([97] : List Int), (0 : Int), (0 : Int), []⟩ : T_api_Event)] : List T_api_Event)⟩ : T_api_Packet) r_5 h_6) rfl ⟨rfl, rfl, rfl, rfl, rfl, rfl, rfl, rfl, rfl, rfl, rfl, rfl, trivial⟩ : TripleG prog 16 [] [] [e_T_api_Packet r_2.1, .agg [Ii 7, Ii 1, Ii 1, .sl false 6 (Mp e_T_api_Event ([(⟨(5 : Int), (3 : Int), ([97] : List Int), (0 : Int), (0 : Int), []⟩ : T_api_Event)] : List T_api_Event))]] [] (.bool r_5)) (ac gg_2 (ac gg_2 (ac gg_2 (ac gg_3 (ac gg_3 (ac gg_3 (ac gg_4 (ac gg_4 (ac gg_5 (ac gg_5 (ac gg_5 (ac (vc_len _ : ((Mp e_T_api_Event r_3.1.Events)).length = (r_3.1.Events).length) (ac gg_5 (ac gg_5 (ac gg_6 (ac gg_6 (ac gg_7 (ac gg_7 (ac gg_7 (ar ([e_T_api_Packet r_4.1, .agg [Ii 7, Ii 1, Ii 1, .sl false 6 (Mp e_T_api_Event ([(⟨(5 : Int), (3 : Int), ([97] : List Int), (0 : Int), (0 : Int), []⟩ : T_api_Event)] : List T_api_Event))]] : List AV) (ac (rfl : ([] : List BoxSt) = []) (ac (triple_lo (args' := [e_T_api_Packet r_4.1, e_T_api_Packet (⟨(7 : Int), (1 : Int), (1 : Int), ([(⟨(5 : Int), (3 : Int), ([97] : List Int), (0 : Int), (0 : Int), []⟩ : T_api_Event)] : List T_api_Event)⟩ : T_api_Packet)]) (R11_Same_ok F r_4.1 (⟨(7 : Int), (1 : Int), (1 : Int), ([(⟨(5 : Int), (3 : Int), ([97] : List Int), (0 : Int), (0 : Int), []⟩ : T_api_Event)] : List T_api_Event)⟩ : T_api_Packet) r_6 h_7) rfl ⟨rfl, rfl, rfl, rfl, rfl, rfl, rfl, rfl, rfl, rfl, rfl, rfl, trivial⟩ : TripleG prog 16 [] [] [e_T_api_Packet r_4.1, .agg [Ii 7, Ii 1, Ii 1, .sl false 6 (Mp e_T_api_Event ([(⟨(5 : Int), (3 : Int), ([97] : List Int), (0 : Int), (0 : Int), []⟩ : T_api_Event)] : List T_api_Event))]] [] (.bool r_6)) (ac gg_7 (ac gg_8 (ac gg_8 (ac gg_8 (ac gg_8 (ac (rfl : false = !true) (ac (rfl : false = !true) (ac (rfl : false = !true) (ar false (ac (rfl : false = !true) (ac (rfl : false = !true) (ac (rfl : false = !true) (ar false an)))))))))))))))))))))))))))))))))))))) ?_
         cases h
         exact ⟨rfl, (sw [] [] [.s 0] [] an)⟩
       ·replace h := cond_f gg_7 h
        refine rg [(2, { av := .bool r_5, l := [e_T_api_Packet r_2.1, .agg [Ii 7, Ii 1, Ii 1, .sl false 6 (Mp e_T_api_Event ([(⟨(5 : Int), (3 : Int), ([97] : List Int), (0 : Int), (0 : Int), []⟩ : T_api_Event)] : List T_api_Event))]] }), (6, Ht), (10, Ht), (13, Ht), (17, { n := (r_3.1.Events).length }), (19, Ht), (22, Ht), (24, Hg), (25, Hg), (26, Hg), (27, Hf), (29, Hg), (30, Hg), (31, Hg), (32, Hf), (34, Hg), (35, Hg), (36, Hg), (37, Hf), (39, Hg), (40, Hg), (41, Hg), (42, Hf)] [0] [] 8 [.bool false] [] hmix (ar ([e_T_api_Packet r_2.1, .agg [Ii 7, Ii 1, Ii 1, .sl false 6 (Mp e_T_api_Event ([(⟨(5 : Int), (3 : Int), ([97] : List Int), (0 : Int), (0 : Int), []⟩ : T_api_Event)] : List T_api_Event))]] : List AV) (ac (rfl : ([] : List BoxSt) = []) (ac (triple_lo (args' := [e_T_api_Packet r_2.1, e_T_api_Packet (⟨(7 : Int), (1 : Int), (1 : Int), ([(⟨(5 : Int), (3 : Int), ([97] : List Int), (0 : Int), (0 : Int), []⟩ : T_api_Event)] : List T_api_Event)⟩ : T_api_Packet)]) (R11_Same_ok F r_2.1 (⟨(7 : Int), (1 : Int), (1 : Int), ([(⟨(5 : Int), (3 : Int), ([97] : List Int), (0 : Int), (0 : Int), []⟩ : T_api_Event)] : List T_api_Event)⟩ : T_api_Packet) r_5 h_6) rfl ⟨rfl, rfl, rfl, rfl, rfl, rfl, rfl, rfl, rfl, rfl, rfl, rfl, trivial⟩ : TripleG prog 16 [] [] [e_T_api_Packet r_2.1, .agg [Ii 7, Ii 1, Ii 1, .sl false 6 (Mp e_T_api_Event ([(⟨(5 : Int), (3 : Int), ([97] : List Int), (0 : Int), (0 : Int), []⟩ : T_api_Event)] : List T_api_Event))]] [] (.bool r_5)) (ac gg_2 (ac gg_2 (ac gg_2 (ac gg_3 (ac gg_3 (ac gg_3 (ac gg_4 (ac gg_4 (ac gg_5 (ac gg_5 (ac gg_5 (ac (vc_len _ : ((Mp e_T_api_Event r_3.1.Events)).length = (r_3.1.Events).length) (ac gg_5 (ac gg_5 (ac gg_6 (ac gg_6 (ac gg_7 (ac gg_7 (ac gg_7 (ac gg_7 (ac (rfl : false = !true) (ac (rfl : false = !true) (ac (rfl : false = !true) (ar false (ac (rfl : false = !true) (ac (rfl : false = !true) (ac (rfl : false = !true) (ar false (ac (rfl : false = !true) (ac (rfl : false = !true) (ac (rfl : false = !true) (ar false an))))))))))))))))))))))))))))))))))) ?_
        cases h
        exact ⟨rfl, (sw [] [] [.s 0] [] an)⟩
      ·replace h := cond_f gg_6 h
       refine rg [(2, { av := .bool r_5, l := [e_T_api_Packet r_2.1, .agg [Ii 7, Ii 1, Ii 1, .sl false 6 (Mp e_T_api_Event ([(⟨(5 : Int), (3 : Int), ([97] : List Int), (0 : Int), (0 : Int), []⟩ : T_api_Event)] : List T_api_Event))]] }), (6, Ht), (10, Ht), (13, Ht), (17, { n := (r_3.1.Events).length }), (19, Ht), (21, Hg), (22, Hf), (24, Hg), (25, Hg), (26, Hg), (27, Hf), (29, Hg), (30, Hg), (31, Hg), (32, Hf), (34, Hg), (35, Hg), (36, Hg), (37, Hf), (39, Hg), (40, Hg), (41, Hg), (42, Hf)] [0] [] 8 [.bool false] [] hmix (ar ([e_T_api_Packet r_2.1, .agg [Ii 7, Ii 1, Ii 1, .sl false 6 (Mp e_T_api_Event ([(⟨(5 : Int), (3 : Int), ([97] : List Int), (0 : Int), (0 : Int), []⟩ : T_api_Event)] : List T_api_Event))]] : List AV) (ac (rfl : ([] : List BoxSt) = []) (ac (triple_lo (args' := [e_T_api_Packet r_2.1, e_T_api_Packet (⟨(7 : Int), (1 : Int), (1 : Int), ([(⟨(5 : Int), (3 : Int), ([97] : List Int), (0 : Int), (0 : Int), []⟩ : T_api_Event)] : List T_api_Event)⟩ : T_api_Packet)]) (R11_Same_ok F r_2.1 (⟨(7 : Int), (1 : Int), (1 : Int), ([(⟨(5 : Int), (3 : Int), ([97] : List Int), (0 : Int), (0 : Int), []⟩ : T_api_Event)] : List T_api_Event)⟩ : T_api_Packet) r_5 h_6) rfl ⟨rfl, rfl, rfl, rfl, rfl, rfl, rfl, rfl, rfl, rfl, rfl, rfl, trivial⟩ : TripleG prog 16 [] [] [e_T_api_Packet r_2.1, .agg [Ii 7, Ii 1, Ii 1, .sl false 6 (Mp e_T_api_Event ([(⟨(5 : Int), (3 : Int), ([97] : List Int), (0 : Int), (0 : Int), []⟩ : T_api_Event)] : List T_api_Event))]] [] (.bool r_5)) (ac gg_2 (ac gg_2 (ac gg_2 (ac gg_3 (ac gg_3 (ac gg_3 (ac gg_4 (ac gg_4 (ac gg_5 (ac gg_5 (ac gg_5 (ac (vc_len _ : ((Mp e_T_api_Event r_3.1.Events)).length = (r_3.1.Events).length) (ac gg_5 (ac gg_5 (ac gg_6 (ac gg_6 (ac (rfl : false = !true) (ac (rfl : false = !true) (ac (rfl : false = !true) (ar false (ac (rfl : false = !true) (ac (rfl : false = !true) (ac (rfl : false = !true) (ar false (ac (rfl : false = !true) (ac (rfl : false = !true) (ac (rfl : false = !true) (ar false (ac (rfl : false = !true) (ac (rfl : false = !true) (ac (rfl : false = !true) (ar false an))))))))))))))))))))))))))))))))))) ?_
       cases h
       exact ⟨rfl, (sw [] [] [.s 0] [] an)⟩
     ·replace h := cond_f gg_5 h
      refine rg [(2, { av := .bool r_5, l := [e_T_api_Packet r_2.1, .agg [Ii 7, Ii 1, Ii 1, .sl false 6 (Mp e_T_api_Event ([(⟨(5 : Int), (3 : Int), ([97] : List Int), (0 : Int), (0 : Int), []⟩ : T_api_Event)] : List T_api_Event))]] }), (6, Ht), (10, Ht), (13, Ht), (15, Hg), (16, Hg), (17, Hg), (18, Hg), (19, Hf), (21, Hg), (22, Hf), (24, Hg), (25, Hg), (26, Hg), (27, Hf), (29, Hg), (30, Hg), (31, Hg), (32, Hf), (34, Hg), (35, Hg), (36, Hg), (37, Hf), (39, Hg), (40, Hg), (41, Hg), (42, Hf)] [0] [] 8 [.bool false] [] hmix (ar ([e_T_api_Packet r_2.1, .agg [Ii 7, Ii 1, Ii 1, .sl false 6 (Mp e_T_api_Event ([(⟨(5 : Int), (3 : Int), ([97] : List Int), (0 : Int), (0 : Int), []⟩ : T_api_Event)] : List T_api_Event))]] : List AV) (ac (rfl : ([] : List BoxSt) = []) (ac (triple_lo (args' := [e_T_api_Packet r_2.1, e_T_api_Packet (⟨(7 : Int), (1 : Int), (1 : Int), ([(⟨(5 : Int), (3 : Int), ([97] : List Int), (0 : Int), (0 : Int), []⟩ : T_api_Event)] : List T_api_Event)⟩ : T_api_Packet)]) (R11_Same_ok F r_2.1 (⟨(7 : Int), (1 : Int), (1 : Int), ([(⟨(5 : Int), (3 : Int), ([97] : List Int), (0 : Int), (0 : Int), []⟩ : T_api_Event)] : List T_api_Event)⟩ : T_api_Packet) r_5 h_6) rfl ⟨rfl, rfl, rfl, rfl, rfl, rfl, rfl, rfl, rfl, rfl, rfl, rfl, trivial⟩ : TripleG prog 16 [] [] [e_T_api_Packet r_2.1, .agg [Ii 7, Ii 1, Ii 1, .sl false 6 (Mp e_T_api_Event ([(⟨(5 : Int), (3 : Int), ([97] : List Int), (0 : Int), (0 : Int), []⟩ : T_api_Event)] : List T_api_Event))]] [] (.bool r_5)) (ac gg_2 (ac gg_2 (ac gg_2 (ac gg_3 (ac gg_3 (ac gg_3 (ac gg_4 (ac gg_4 (ac gg_5 (ac gg_5 (ac gg_5 (ac gg_5 (ac gg_5 (ac (rfl : false = !true) (ar false (ac (rfl : false = !true) (ac (rfl : false = !true) (ac (rfl : false = !true) (ar false (ac (rfl : false = !true) (ac (rfl : false = !true) (ac (rfl : false = !true) (ar false (ac (rfl : false = !true) (ac (rfl : false = !true) (ac (rfl : false = !true) (ar false (ac (rfl : false = !true) (ac (rfl : false = !true) (ac (rfl : false = !true) (ar false an)))))))))))))))))))))))))))))))))) ?_
      cases h
      exact ⟨rfl, (sw [] [] [.s 0] [] an)⟩
    ·replace h := cond_f gg_4 h
     refine rg [(2, { av := .bool r_5, l := [e_T_api_Packet r_2.1, .agg [Ii 7, Ii 1, Ii 1, .sl false 6 (Mp e_T_api_Event ([(⟨(5 : Int), (3 : Int), ([97] : List Int), (0 : Int), (0 : Int), []⟩ : T_api_Event)] : List T_api_Event))]] }), (6, Ht), (10, Ht), (12, Hg), (13, Hf), (15, Hg), (16, Hg), (17, Hg), (18, Hg), (19, Hf), (21, Hg), (22, Hf), (24, Hg), (25, Hg), (26, Hg), (27, Hf), (29, Hg), (30, Hg), (31, Hg), (32, Hf), (34, Hg), (35, Hg), (36, Hg), (37, Hf), (39, Hg), (40, Hg), (41, Hg), (42, Hf)] [0] [] 8 [.bool false] [] hmix (ar ([e_T_api_Packet r_2.1, .agg [Ii 7, Ii 1, Ii 1, .sl false 6 (Mp e_T_api_Event ([(⟨(5 : Int), (3 : Int), ([97] : List Int), (0 : Int), (0 : Int), []⟩ : T_api_Event)] : List T_api_Event))]] : List AV) (ac (rfl : ([] : List BoxSt) = []) (ac (triple_lo (args' := [e_T_api_Packet r_2.1, e_T_api_Packet (⟨(7 : Int), (1 : Int), (1 : Int), ([(⟨(5 : Int), (3 : Int), ([97] : List Int), (0 : Int), (0 : Int), []⟩ : T_api_Event)] : List T_api_Event)⟩ : T_api_Packet)]) (R11_Same_ok F r_2.1 (⟨(7 : Int), (1 : Int), (1 : Int), ([(⟨(5 : Int), (3 : Int), ([97] : List Int), (0 : Int), (0 : Int), []⟩ : T_api_Event)] : List T_api_Event)⟩ : T_api_Packet) r_5 h_6) rfl ⟨rfl, rfl, rfl, rfl, rfl, rfl, rfl, rfl, rfl, rfl, rfl, rfl, trivial⟩ : TripleG prog 16 [] [] [e_T_api_Packet r_2.1, .agg [Ii 7, Ii 1, Ii 1, .sl false 6 (Mp e_T_api_Event ([(⟨(5 : Int), (3 : Int), ([97] : List Int), (0 : Int), (0 : Int), []⟩ : T_api_Event)] : List T_api_Event))]] [] (.bool r_5)) (ac gg_2 (ac gg_2 (ac gg_2 (ac gg_3 (ac gg_3 (ac gg_3 (ac gg_4 (ac gg_4 (ac (rfl : false = !true) (ac (rfl : false = !true) (ac (rfl : false = !true) (ac (rfl : false = !true) (ar false (ac (rfl : false = !true) (ar false (ac (rfl : false = !true) (ac (rfl : false = !true) (ac (rfl : false = !true) (ar false (ac (rfl : false = !true) (ac (rfl : false = !true) (ac (rfl : false = !true) (ar false (ac (rfl : false = !true) (ac (rfl : false = !true) (ac (rfl : false = !true) (ar false (ac (rfl : false = !true) (ac (rfl : false = !true) (ac (rfl : false = !true) (ar false an)))))))))))))))))))))))))))))))))) ?_
     cases h
     exact ⟨rfl, (sw [] [] [.s 0] [] an)⟩
   ·replace h := cond_f gg_3 h
    refine rg [(2, { av := .bool r_5, l := [e_T_api_Packet r_2.1, .agg [Ii 7, Ii 1, Ii 1, .sl false 6 (Mp e_T_api_Event ([(⟨(5 : Int), (3 : Int), ([97] : List Int), (0 : Int), (0 : Int), []⟩ : T_api_Event)] : List T_api_Event))]] }), (6, Ht), (8, Hg), (9, Hg), (10, Hf), (12, Hg), (13, Hf), (15, Hg), (16, Hg), (17, Hg), (18, Hg), (19, Hf), (21, Hg), (22, Hf), (24, Hg), (25, Hg), (26, Hg), (27, Hf), (29, Hg), (30, Hg), (31, Hg), (32, Hf), (34, Hg), (35, Hg), (36, Hg), (37, Hf), (39, Hg), (40, Hg), (41, Hg), (42, Hf)] [0] [] 8 [.bool false] [] hmix (ar ([e_T_api_Packet r_2.1, .agg [Ii 7, Ii 1, Ii 1, .sl false 6 (Mp e_T_api_Event ([(⟨(5 : Int), (3 : Int), ([97] : List Int), (0 : Int), (0 : Int), []⟩ : T_api_Event)] : List T_api_Event))]] : List AV) (ac (rfl : ([] : List BoxSt) = []) (ac (triple_lo (args' := [e_T_api_Packet r_2.1, e_T_api_Packet (⟨(7 : Int), (1 : Int), (1 : Int), ([(⟨(5 : Int), (3 : Int), ([97] : List Int), (0 : Int), (0 : Int), []⟩ : T_api_Event)] : List T_api_Event)⟩ : T_api_Packet)]) (R11_Same_ok F r_2.1 (⟨(7 : Int), (1 : Int), (1 : Int), ([(⟨(5 : Int), (3 : Int), ([97] : List Int), (0 : Int), (0 : Int), []⟩ : T_api_Event)] : List T_api_Event)⟩ : T_api_Packet) r_5 h_6) rfl ⟨rfl, rfl, rfl, rfl, rfl, rfl, rfl, rfl, rfl, rfl, rfl, rfl, trivial⟩ : TripleG prog 16 [] [] [e_T_api_Packet r_2.1, .agg [Ii 7, Ii 1, Ii 1, .sl false 6 (Mp e_T_api_Event ([(⟨(5 : Int), (3 : Int), ([97] : List Int), (0 : Int), (0 : Int), []⟩ : T_api_Event)] : List T_api_Event))]] [] (.bool r_5)) (ac gg_2 (ac gg_2 (ac gg_2 (ac gg_3 (ac gg_3 (ac gg_3 (ac (rfl : false = !true) (ar false (ac (rfl : false = !true) (ac (rfl : false = !true) (ac (rfl : false = !true) (ac (rfl : false = !true) (ar false (ac (rfl : false = !true) (ar false (ac (rfl : false = !true) (ac (rfl : false = !true) (ac (rfl : false = !true) (ar false (ac (rfl : false = !true) (ac (rfl : false = !true) (ac (rfl : false = !true) (ar false (ac (rfl : false = !true) (ac (rfl : false = !true) (ac (rfl : false = !true) (ar false (ac (rfl : false = !true) (ac (rfl : false = !true) (ac (rfl : false = !true) (ar false an)))))))))))))))))))))))))))))))))) ?_
    cases h
    exact ⟨rfl, (sw [] [] [.s 0] [] an)⟩
  ·replace h := cond_f gg_2 h
   refine rg [(2, { av := .bool r_5, l := [e_T_api_Packet r_2.1, .agg [Ii 7, Ii 1, Ii 1, .sl false 6 (Mp e_T_api_Event ([(⟨(5 : Int), (3 : Int), ([97] : List Int), (0 : Int), (0 : Int), []⟩ : T_api_Event)] : List T_api_Event))]] }), (4, Hg), (5, Hg), (6, Hf), (8, Hg), (9, Hg), (10, Hf), (12, Hg), (13, Hf), (15, Hg), (16, Hg), (17, Hg), (18, Hg), (19, Hf), (21, Hg), (22, Hf), (24, Hg), (25, Hg), (26, Hg), (27, Hf), (29, Hg), (30, Hg), (31, Hg), (32, Hf), (34, Hg), (35, Hg), (36, Hg), (37, Hf), (39, Hg), (40, Hg), (41, Hg), (42, Hf)] [0] [] 8 [.bool false] [] hmix (ar ([e_T_api_Packet r_2.1, .agg [Ii 7, Ii 1, Ii 1, .sl false 6 (Mp e_T_api_Event ([(⟨(5 : Int), (3 : Int), ([97] : List Int), (0 : Int), (0 : Int), []⟩ : T_api_Event)] : List T_api_Event))]] : List AV) (ac (rfl : ([] : List BoxSt) = []) (ac (triple_lo (args' := [e_T_api_Packet r_2.1, e_T_api_Packet (⟨(7 : Int), (1 : Int), (1 : Int), ([(⟨(5 : Int), (3 : Int), ([97] : List Int), (0 : Int), (0 : Int), []⟩ : T_api_Event)] : List T_api_Event)⟩ : T_api_Packet)]) (R11_Same_ok F r_2.1 (⟨(7 : Int), (1 : Int), (1 : Int), ([(⟨(5 : Int), (3 : Int), ([97] : List Int), (0 : Int), (0 : Int), []⟩ : T_api_Event)] : List T_api_Event)⟩ : T_api_Packet) r_5 h_6) rfl ⟨rfl, rfl, rfl, rfl, rfl, rfl, rfl, rfl, rfl, rfl, rfl, rfl, trivial⟩ : TripleG prog 16 [] [] [e_T_api_Packet r_2.1, .agg [Ii 7, Ii 1, Ii 1, .sl false 6 (Mp e_T_api_Event ([(⟨(5 : Int), (3 : Int), ([97] : List Int), (0 : Int), (0 : Int), []⟩ : T_api_Event)] : List T_api_Event))]] [] (.bool r_5)) (ac gg_2 (ac gg_2 (ac gg_2 (ac (rfl : false = !true) (ac (rfl : false = !true) (ar false (ac (rfl : false = !true) (ar false (ac (rfl : false = !true) (ac (rfl : false = !true) (ac (rfl : false = !true) (ac (rfl : false = !true) (ar false (ac (rfl : false = !true) (ar false (ac (rfl : false = !true) (ac (rfl : false = !true) (ac (rfl : false = !true) (ar false (ac (rfl : false = !true) (ac (rfl : false = !true) (ac (rfl : false = !true) (ar false (ac (rfl : false = !true) (ac (rfl : false = !true) (ac (rfl : false = !true) (ar false (ac (rfl : false = !true) (ac (rfl : false = !true) (ac (rfl : false = !true) (ar false an)))))))))))))))))))))))))))))))))) ?_
   cases h
   exact ⟨rfl, (sw [] [] [.s 0] [] an)⟩
 refine rt ?_
 cases h
 exact ⟨.inr rfl, Nat.le_of_ble_eq_true rfl, by kernel_rfl⟩

theorem R11_number_ok (n_1 : Int) (r : Bool) (h : R11_number n_1 = some r) : TripleG prog 27 [] [] [Ii n_1] [] (.bool r) := by
 refine triple_intro (fn := Go.Proofs.Try.f27) (code := codeOf Go.Proofs.Try.f27) (by kernel_rfl) (by kernel_rfl) (Nat.le_of_ble_eq_true (by kernel_rfl)) ?_
 unfold R11_number at h
 refine sr [] [0] [] 0 [Ii n_1] [] hmix an ?_
 refine sq ?_
 refine aw_mid (mk [(2, .bool (decide (n_1 ≥ (0 : Int)) && decide (n_1 ≤ (1000000000000000 : Int))))] [] 0) ?_ ?_
 ·rcases bft (decide (n_1 ≥ (0 : Int))) with gg_1 | gg_1
  ·refine rg [(5, Ht)] [2] [] 0 [.bool (decide (n_1 ≤ (1000000000000000 : Int)))] [] hmix (ac gg_1 (ac gg_1 (ac gg_1 an))) ?_
   exact ⟨rfl, (sw [] [] [.a 2 (.bool (decide (n_1 ≥ (0 : Int)) && decide (n_1 ≤ (1000000000000000 : Int))))] [] (ac (congrArg AV.bool (andt gg_1 rfl) : (.bool (decide (n_1 ≤ (1000000000000000 : Int))) : AV) = .bool (decide (n_1 ≥ (0 : Int)) && decide (n_1 ≤ (1000000000000000 : Int)))) an))⟩
  ·refine rg [(3, Hg), (4, Hg), (5, Hf)] [2] [] 0 [.bool false] [] hmix (ac gg_1 (ac gg_1 (ac gg_1 an))) ?_
   exact ⟨rfl, (sw [] [] [.a 2 (.bool (decide (n_1 ≥ (0 : Int)) && decide (n_1 ≤ (1000000000000000 : Int))))] [] (ac (congrArg AV.bool (andf gg_1) : (.bool false : AV) = .bool (decide (n_1 ≥ (0 : Int)) && decide (n_1 ≤ (1000000000000000 : Int)))) an))⟩
 refine rt ?_
 cases h
 exact ⟨.inr rfl, Nat.le_of_ble_eq_true rfl, by kernel_rfl⟩

theorem R07_uses_ok (k_1 : Int) (r : Bool × Bool × Bool × Bool) (h : R07_uses k_1 = some r) : TripleG prog 71 [] [] [Ii k_1] [] (.tuple [.bool r.1, .bool r.2.1, .bool r.2.2.1, .bool r.2.2.2]) := by
 refine triple_intro (fn := Go.Proofs.Try.f71) (code := codeOf Go.Proofs.Try.f71) (by kernel_rfl) (by kernel_rfl) (Nat.le_of_ble_eq_true (by kernel_rfl)) ?_
 unfold R07_uses at h
 refine sr [] [0] [] 0 [Ii k_1] [] hmix an ?_
 refine sq ?_
 refine aw_mid (mk [(0, Ii k_1), (6, .bool ((k_1 == (1 : Int)) || ((k_1 == (3 : Int)) || (k_1 == (4 : Int)))))] [] 0) ?_ ?_
 ·rcases bft (k_1 == (1 : Int)) with gg_1 | gg_1
  ·refine rg [(3, Hg), (4, Hg), (5, Ht), (7, Hg), (8, Hg), (9, Ht)] [0, 6] [] 0 [Ii k_1, .bool true] [] hmix (ac gg_1 (ac gg_1 (ac gg_1 (ax (ax (ar true an)))))) ?_
   exact ⟨rfl, (sw [] [] [.s 0, .a 6 (.bool ((k_1 == (1 : Int)) || ((k_1 == (3 : Int)) || (k_1 == (4 : Int)))))] [] (ac (congrArg AV.bool (ort gg_1) : (.bool true : AV) = .bool ((k_1 == (1 : Int)) || ((k_1 == (3 : Int)) || (k_1 == (4 : Int))))) an))⟩
  ·rcases bft (k_1 == (3 : Int)) with gg_2 | gg_2
   ·refine rg [(5, Hf), (7, Hg), (8, Hg), (9, Ht)] [0, 6] [] 0 [Ii k_1, .bool true] [] hmix (ac gg_1 (ac gg_1 (ac gg_1 (ac gg_2 (ac gg_2 (ac gg_2 an)))))) ?_
    exact ⟨rfl, (sw [] [] [.s 0, .a 6 (.bool ((k_1 == (1 : Int)) || ((k_1 == (3 : Int)) || (k_1 == (4 : Int)))))] [] (ac (congrArg AV.bool (orf gg_1 (ort gg_2)) : (.bool true : AV) = .bool ((k_1 == (1 : Int)) || ((k_1 == (3 : Int)) || (k_1 == (4 : Int))))) an))⟩
   ·refine rg [(5, Hf), (9, Hf)] [0, 6] [] 0 [Ii k_1, .bool (k_1 == (4 : Int))] [] hmix (ac gg_1 (ac gg_1 (ac gg_1 (ac gg_2 (ac gg_2 (ac gg_2 an)))))) ?_
    exact ⟨rfl, (sw [] [] [.s 0, .a 6 (.bool ((k_1 == (1 : Int)) || ((k_1 == (3 : Int)) || (k_1 == (4 : Int)))))] [] (ac (congrArg AV.bool (orf gg_1 (orf gg_2 rfl)) : (.bool (k_1 == (4 : Int)) : AV) = .bool ((k_1 == (1 : Int)) || ((k_1 == (3 : Int)) || (k_1 == (4 : Int))))) an))⟩
 refine sr [] [0, 6, 7] [] 0 [Ii k_1, .bool ((k_1 == (1 : Int)) || ((k_1 == (3 : Int)) || (k_1 == (4 : Int)))), .bool (decide (k_1 ≥ (4 : Int)))] [] hmix an ?_
 refine sq ?_
 refine aw_mid (mk [(0, Ii k_1), (6, .bool ((k_1 == (1 : Int)) || ((k_1 == (3 : Int)) || (k_1 == (4 : Int))))), (7, .bool (decide (k_1 ≥ (4 : Int)))), (8, .bool ((k_1 == (9 : Int)) || (k_1 == (11 : Int))))] [] 0) ?_ ?_
 ·rcases bft (k_1 == (9 : Int)) with gg_3 | gg_3
  ·refine rg [(3, Hg), (4, Hg), (5, Ht)] [0, 6, 7, 8] [] 0 [Ii k_1, .bool ((k_1 == (1 : Int)) || ((k_1 == (3 : Int)) || (k_1 == (4 : Int)))), .bool (decide (k_1 ≥ (4 : Int))), .bool true] [] hmix (ac gg_3 (ac gg_3 (ac gg_3 an))) ?_
   exact ⟨rfl, (sw [] [] [.s 0, .s 6, .s 7, .a 8 (.bool ((k_1 == (9 : Int)) || (k_1 == (11 : Int))))] [] (ac (congrArg AV.bool (ort gg_3) : (.bool true : AV) = .bool ((k_1 == (9 : Int)) || (k_1 == (11 : Int)))) an))⟩
  ·refine rg [(5, Hf)] [0, 6, 7, 8] [] 0 [Ii k_1, .bool ((k_1 == (1 : Int)) || ((k_1 == (3 : Int)) || (k_1 == (4 : Int)))), .bool (decide (k_1 ≥ (4 : Int))), .bool (k_1 == (11 : Int))] [] hmix (ac gg_3 (ac gg_3 (ac gg_3 an))) ?_
   exact ⟨rfl, (sw [] [] [.s 0, .s 6, .s 7, .a 8 (.bool ((k_1 == (9 : Int)) || (k_1 == (11 : Int))))] [] (ac (congrArg AV.bool (orf gg_3 rfl) : (.bool (k_1 == (11 : Int)) : AV) = .bool ((k_1 == (9 : Int)) || (k_1 == (11 : Int)))) an))⟩
 refine sq ?_
 refine aw_mid (mk [(6, .bool ((k_1 == (1 : Int)) || ((k_1 == (3 : Int)) || (k_1 == (4 : Int))))), (7, .bool (decide (k_1 ≥ (4 : Int)))), (8, .bool ((k_1 == (9 : Int)) || (k_1 == (11 : Int)))), (9, .bool ((k_1 == (5 : Int)) || (k_1 == (11 : Int))))] [] 0) ?_ ?_
 ·rcases bft (k_1 == (5 : Int)) with gg_4 | gg_4
  ·refine rg [(3, Hg), (4, Hg), (5, Ht)] [6, 7, 8, 9] [] 0 [.bool ((k_1 == (1 : Int)) || ((k_1 == (3 : Int)) || (k_1 == (4 : Int)))), .bool (decide (k_1 ≥ (4 : Int))), .bool ((k_1 == (9 : Int)) || (k_1 == (11 : Int))), .bool true] [] hmix (ac gg_4 (ac gg_4 (ac gg_4 an))) ?_
   exact ⟨rfl, (sw [] [] [.s 6, .s 7, .s 8, .a 9 (.bool ((k_1 == (5 : Int)) || (k_1 == (11 : Int))))] [] (ac (congrArg AV.bool (ort gg_4) : (.bool true : AV) = .bool ((k_1 == (5 : Int)) || (k_1 == (11 : Int)))) an))⟩
  ·refine rg [(5, Hf)] [6, 7, 8, 9] [] 0 [.bool ((k_1 == (1 : Int)) || ((k_1 == (3 : Int)) || (k_1 == (4 : Int)))), .bool (decide (k_1 ≥ (4 : Int))), .bool ((k_1 == (9 : Int)) || (k_1 == (11 : Int))), .bool (k_1 == (11 : Int))] [] hmix (ac gg_4 (ac gg_4 (ac gg_4 an))) ?_
   exact ⟨rfl, (sw [] [] [.s 6, .s 7, .s 8, .a 9 (.bool ((k_1 == (5 : Int)) || (k_1 == (11 : Int))))] [] (ac (congrArg AV.bool (orf gg_4 rfl) : (.bool (k_1 == (11 : Int)) : AV) = .bool ((k_1 == (5 : Int)) || (k_1 == (11 : Int)))) an))⟩
 refine sr [] [2, 3, 4, 5] [] 0 [.bool ((k_1 == (1 : Int)) || ((k_1 == (3 : Int)) || (k_1 == (4 : Int)))), .bool (decide (k_1 ≥ (4 : Int))), .bool ((k_1 == (9 : Int)) || (k_1 == (11 : Int))), .bool ((k_1 == (5 : Int)) || (k_1 == (11 : Int)))] [] hmix an ?_
 refine rt ?_
 cases h
 exact ⟨.inr rfl, Nat.le_of_ble_eq_true rfl, by kernel_rfl⟩

theorem R06_letter_ok (F : Nat) (c_1 : Int) (r : Bool) (h : R06_letter F c_1 = some r) : TripleG prog 92 [] [] [Iu c_1] [] (.bool r) := by
 refine triple_intro (fn := Go.Proofs.Try.f92) (code := codeOf Go.Proofs.Try.f92) (by kernel_rfl) (by kernel_rfl) (Nat.le_of_ble_eq_true (by kernel_rfl)) ?_
 unfold R06_letter at h
 refine sr [] [0] [] 0 [Iu c_1] [] hmix an ?_
 refine sq ?_
 refine sq ?_
 refine aw_mid (mk [(0, Iu c_1), (26, .bool (bif decide (c_1 ≥ (97 : Int)) then (decide (c_1 ≤ (122 : Int)) || (bif decide (c_1 ≥ (65 : Int)) then (decide (c_1 ≤ (90 : Int)) || (decide (c_1 ≥ (48 : Int)) && decide (c_1 ≤ (57 : Int)))) else (decide (c_1 ≥ (48 : Int)) && decide (c_1 ≤ (57 : Int))))) else (bif decide (c_1 ≥ (65 : Int)) then (decide (c_1 ≤ (90 : Int)) || (decide (c_1 ≥ (48 : Int)) && decide (c_1 ≤ (57 : Int)))) else (decide (c_1 ≥ (48 : Int)) && decide (c_1 ≤ (57 : Int))))))] [] 0) ?_ ?_
 ·rcases bft (decide (c_1 ≥ (97 : Int))) with gg_1 | gg_1
  ·rcases bft (decide (c_1 ≤ (122 : Int))) with gg_2 | gg_2
   ·refine rg [(5, Ht), (7, Hg), (8, Hg), (9, Hg), (12, Hg), (13, Ht), (15, Hg), (16, Hg), (17, Hg), (20, Hg), (21, Ht)] [0, 26] [] 0 [Iu c_1, .bool true] [] hmix (ac gg_1 (ac gg_1 (ac gg_1 (ac gg_2 (ac gg_2 (ac gg_2 (ac gg_2 (ac gg_2 (ax (ax (ax (ax (ar true an))))))))))))) ?_
    exact ⟨rfl, (sw [] [] [.s 0, .a 26 (.bool (bif decide (c_1 ≥ (97 : Int)) then (decide (c_1 ≤ (122 : Int)) || (bif decide (c_1 ≥ (65 : Int)) then (decide (c_1 ≤ (90 : Int)) || (decide (c_1 ≥ (48 : Int)) && decide (c_1 ≤ (57 : Int)))) else (decide (c_1 ≥ (48 : Int)) && decide (c_1 ≤ (57 : Int))))) else (bif decide (c_1 ≥ (65 : Int)) then (decide (c_1 ≤ (90 : Int)) || (decide (c_1 ≥ (48 : Int)) && decide (c_1 ≤ (57 : Int)))) else (decide (c_1 ≥ (48 : Int)) && decide (c_1 ≤ (57 : Int))))))] [] (ac (congrArg AV.bool (ctr gg_1 (ort gg_2)) : (.bool true : AV) = .bool (bif decide (c_1 ≥ (97 : Int)) then (decide (c_1 ≤ (122 : Int)) || (bif decide (c_1 ≥ (65 : Int)) then (decide (c_1 ≤ (90 : Int)) || (decide (c_1 ≥ (48 : Int)) && decide (c_1 ≤ (57 : Int)))) else (decide (c_1 ≥ (48 : Int)) && decide (c_1 ≤ (57 : Int))))) else (bif decide (c_1 ≥ (65 : Int)) then (decide (c_1 ≤ (90 : Int)) || (decide (c_1 ≥ (48 : Int)) && decide (c_1 ≤ (57 : Int)))) else (decide (c_1 ≥ (48 : Int)) && decide (c_1 ≤ (57 : Int)))))) an))⟩
   ·rcases bft (decide (c_1 ≥ (65 : Int))) with gg_3 | gg_3
    ·rcases bft (decide (c_1 ≤ (90 : Int))) with gg_4 | gg_4
     ·refine rg [(5, Ht), (12, Ht), (13, Hf), (15, Hg), (16, Hg), (17, Hg), (20, Hg), (21, Ht)] [0, 26] [] 0 [Iu c_1, .bool true] [] hmix (ac gg_1 (ac gg_1 (ac gg_1 (ac gg_2 (ac gg_2 (ac gg_2 (ac gg_3 (ac gg_3 (ac gg_2 (ac gg_3 (ac gg_2 (ac gg_4 (ac gg_4 (ac gg_4 (ac gg_4 (ac gg_4 an)))))))))))))))) ?_
      exact ⟨rfl, (sw [] [] [.s 0, .a 26 (.bool (bif decide (c_1 ≥ (97 : Int)) then (decide (c_1 ≤ (122 : Int)) || (bif decide (c_1 ≥ (65 : Int)) then (decide (c_1 ≤ (90 : Int)) || (decide (c_1 ≥ (48 : Int)) && decide (c_1 ≤ (57 : Int)))) else (decide (c_1 ≥ (48 : Int)) && decide (c_1 ≤ (57 : Int))))) else (bif decide (c_1 ≥ (65 : Int)) then (decide (c_1 ≤ (90 : Int)) || (decide (c_1 ≥ (48 : Int)) && decide (c_1 ≤ (57 : Int)))) else (decide (c_1 ≥ (48 : Int)) && decide (c_1 ≤ (57 : Int))))))] [] (ac (congrArg AV.bool (ctr gg_1 (orf gg_2 (ctr gg_3 (ort gg_4)))) : (.bool true : AV) = .bool (bif decide (c_1 ≥ (97 : Int)) then (decide (c_1 ≤ (122 : Int)) || (bif decide (c_1 ≥ (65 : Int)) then (decide (c_1 ≤ (90 : Int)) || (decide (c_1 ≥ (48 : Int)) && decide (c_1 ≤ (57 : Int)))) else (decide (c_1 ≥ (48 : Int)) && decide (c_1 ≤ (57 : Int))))) else (bif decide (c_1 ≥ (65 : Int)) then (decide (c_1 ≤ (90 : Int)) || (decide (c_1 ≥ (48 : Int)) && decide (c_1 ≤ (57 : Int)))) else (decide (c_1 ≥ (48 : Int)) && decide (c_1 ≤ (57 : Int)))))) an))⟩
     ·rcases bft (decide (c_1 ≥ (48 : Int))) with gg_5 | gg_5
      ·refine rg [(5, Ht), (12, Ht), (13, Hf), (20, Ht), (21, Hf)] [0, 26] [] 0 [Iu c_1, .bool (decide (c_1 ≤ (57 : Int)))] [] hmix (ac gg_1 (ac gg_1 (ac gg_1 (ac gg_2 (ac gg_2 (ac gg_2 (ac gg_3 (ac gg_3 (ac gg_2 (ac gg_3 (ac gg_2 (ac gg_4 (ac gg_4 (ac gg_4 (ac gg_5 (ac gg_5 (ac gg_4 (ac gg_5 (ac gg_4 an))))))))))))))))))) ?_
       exact ⟨rfl, (sw [] [] [.s 0, .a 26 (.bool (bif decide (c_1 ≥ (97 : Int)) then (decide (c_1 ≤ (122 : Int)) || (bif decide (c_1 ≥ (65 : Int)) then (decide (c_1 ≤ (90 : Int)) || (decide (c_1 ≥ (48 : Int)) && decide (c_1 ≤ (57 : Int)))) else (decide (c_1 ≥ (48 : Int)) && decide (c_1 ≤ (57 : Int))))) else (bif decide (c_1 ≥ (65 : Int)) then (decide (c_1 ≤ (90 : Int)) || (decide (c_1 ≥ (48 : Int)) && decide (c_1 ≤ (57 : Int)))) else (decide (c_1 ≥ (48 : Int)) && decide (c_1 ≤ (57 : Int))))))] [] (ac (congrArg AV.bool (ctr gg_1 (orf gg_2 (ctr gg_3 (orf gg_4 (andt gg_5 rfl))))) : (.bool (decide (c_1 ≤ (57 : Int))) : AV) = .bool (bif decide (c_1 ≥ (97 : Int)) then (decide (c_1 ≤ (122 : Int)) || (bif decide (c_1 ≥ (65 : Int)) then (decide (c_1 ≤ (90 : Int)) || (decide (c_1 ≥ (48 : Int)) && decide (c_1 ≤ (57 : Int)))) else (decide (c_1 ≥ (48 : Int)) && decide (c_1 ≤ (57 : Int))))) else (bif decide (c_1 ≥ (65 : Int)) then (decide (c_1 ≤ (90 : Int)) || (decide (c_1 ≥ (48 : Int)) && decide (c_1 ≤ (57 : Int)))) else (decide (c_1 ≥ (48 : Int)) && decide (c_1 ≤ (57 : Int)))))) an))⟩
      ·refine rg [(5, Ht), (12, Ht), (13, Hf), (18, Hg), (19, Hg), (20, Hf), (21, Hf)] [0, 26] [] 0 [Iu c_1, .bool false] [] hmix (ac gg_1 (ac gg_1 (ac gg_1 (ac gg_2 (ac gg_2 (ac gg_2 (ac gg_3 (ac gg_3 (ac gg_2 (ac gg_3 (ac gg_2 (ac gg_4 (ac gg_4 (ac gg_4 (ac gg_5 (ac gg_5 (ac gg_4 (ac gg_5 (ac gg_4 an))))))))))))))))))) ?_
       exact ⟨rfl, (sw [] [] [.s 0, .a 26 (.bool (bif decide (c_1 ≥ (97 : Int)) then (decide (c_1 ≤ (122 : Int)) || (bif decide (c_1 ≥ (65 : Int)) then (decide (c_1 ≤ (90 : Int)) || (decide (c_1 ≥ (48 : Int)) && decide (c_1 ≤ (57 : Int)))) else (decide (c_1 ≥ (48 : Int)) && decide (c_1 ≤ (57 : Int))))) else (bif decide (c_1 ≥ (65 : Int)) then (decide (c_1 ≤ (90 : Int)) || (decide (c_1 ≥ (48 : Int)) && decide (c_1 ≤ (57 : Int)))) else (decide (c_1 ≥ (48 : Int)) && decide (c_1 ≤ (57 : Int))))))] [] (ac (congrArg AV.bool (ctr gg_1 (orf gg_2 (ctr gg_3 (orf gg_4 (andf gg_5))))) : (.bool false : AV) = .bool (bif decide (c_1 ≥ (97 : Int)) then (decide (c_1 ≤ (122 : Int)) || (bif decide (c_1 ≥ (65 : Int)) then (decide (c_1 ≤ (90 : Int)) || (decide (c_1 ≥ (48 : Int)) && decide (c_1 ≤ (57 : Int)))) else (decide (c_1 ≥ (48 : Int)) && decide (c_1 ≤ (57 : Int))))) else (bif decide (c_1 ≥ (65 : Int)) then (decide (c_1 ≤ (90 : Int)) || (decide (c_1 ≥ (48 : Int)) && decide (c_1 ≤ (57 : Int)))) else (decide (c_1 ≥ (48 : Int)) && decide (c_1 ≤ (57 : Int)))))) an))⟩
    ·rcases bft (decide (c_1 ≥ (48 : Int))) with gg_6 | gg_6
     ·refine rg [(5, Ht), (10, Hg), (11, Hg), (12, Hf), (13, Hf), (20, Ht), (21, Hf)] [0, 26] [] 0 [Iu c_1, .bool (decide (c_1 ≤ (57 : Int)))] [] hmix (ac gg_1 (ac gg_1 (ac gg_1 (ac gg_2 (ac gg_2 (ac gg_2 (ac gg_3 (ac gg_3 (ac gg_2 (ac gg_3 (ac gg_2 (ar false (ar false (ar false (ac gg_6 (ac gg_6 (ar false (ac gg_6 (ar false an))))))))))))))))))) ?_
      exact ⟨rfl, (sw [] [] [.s 0, .a 26 (.bool (bif decide (c_1 ≥ (97 : Int)) then (decide (c_1 ≤ (122 : Int)) || (bif decide (c_1 ≥ (65 : Int)) then (decide (c_1 ≤ (90 : Int)) || (decide (c_1 ≥ (48 : Int)) && decide (c_1 ≤ (57 : Int)))) else (decide (c_1 ≥ (48 : Int)) && decide (c_1 ≤ (57 : Int))))) else (bif decide (c_1 ≥ (65 : Int)) then (decide (c_1 ≤ (90 : Int)) || (decide (c_1 ≥ (48 : Int)) && decide (c_1 ≤ (57 : Int)))) else (decide (c_1 ≥ (48 : Int)) && decide (c_1 ≤ (57 : Int))))))] [] (ac (congrArg AV.bool (ctr gg_1 (orf gg_2 (cfr gg_3 (andt gg_6 rfl)))) : (.bool (decide (c_1 ≤ (57 : Int))) : AV) = .bool (bif decide (c_1 ≥ (97 : Int)) then (decide (c_1 ≤ (122 : Int)) || (bif decide (c_1 ≥ (65 : Int)) then (decide (c_1 ≤ (90 : Int)) || (decide (c_1 ≥ (48 : Int)) && decide (c_1 ≤ (57 : Int)))) else (decide (c_1 ≥ (48 : Int)) && decide (c_1 ≤ (57 : Int))))) else (bif decide (c_1 ≥ (65 : Int)) then (decide (c_1 ≤ (90 : Int)) || (decide (c_1 ≥ (48 : Int)) && decide (c_1 ≤ (57 : Int)))) else (decide (c_1 ≥ (48 : Int)) && decide (c_1 ≤ (57 : Int)))))) an))⟩
     ·refine rg [(5, Ht), (10, Hg), (11, Hg), (12, Hf), (13, Hf), (18, Hg), (19, Hg), (20, Hf), (21, Hf)] [0, 26] [] 0 [Iu c_1, .bool false] [] hmix (ac gg_1 (ac gg_1 (ac gg_1 (ac gg_2 (ac gg_2 (ac gg_2 (ac gg_3 (ac gg_3 (ac gg_2 (ac gg_3 (ac gg_2 (ar false (ar false (ar false (ac gg_6 (ac gg_6 (ar false (ac gg_6 (ar false an))))))))))))))))))) ?_
      exact ⟨rfl, (sw [] [] [.s 0, .a 26 (.bool (bif decide (c_1 ≥ (97 : Int)) then (decide (c_1 ≤ (122 : Int)) || (bif decide (c_1 ≥ (65 : Int)) then (decide (c_1 ≤ (90 : Int)) || (decide (c_1 ≥ (48 : Int)) && decide (c_1 ≤ (57 : Int)))) else (decide (c_1 ≥ (48 : Int)) && decide (c_1 ≤ (57 : Int))))) else (bif decide (c_1 ≥ (65 : Int)) then (decide (c_1 ≤ (90 : Int)) || (decide (c_1 ≥ (48 : Int)) && decide (c_1 ≤ (57 : Int)))) else (decide (c_1 ≥ (48 : Int)) && decide (c_1 ≤ (57 : Int))))))] [] (ac (congrArg AV.bool (ctr gg_1 (orf gg_2 (cfr gg_3 (andf gg_6)))) : (.bool false : AV) = .bool (bif decide (c_1 ≥ (97 : Int)) then (decide (c_1 ≤ (122 : Int)) || (bif decide (c_1 ≥ (65 : Int)) then (decide (c_1 ≤ (90 : Int)) || (decide (c_1 ≥ (48 : Int)) && decide (c_1 ≤ (57 : Int)))) else (decide (c_1 ≥ (48 : Int)) && decide (c_1 ≤ (57 : Int))))) else (bif decide (c_1 ≥ (65 : Int)) then (decide (c_1 ≤ (90 : Int)) || (decide (c_1 ≥ (48 : Int)) && decide (c_1 ≤ (57 : Int)))) else (decide (c_1 ≥ (48 : Int)) && decide (c_1 ≤ (57 : Int)))))) an))⟩
  ·rcases bft (decide (c_1 ≥ (65 : Int))) with gg_7 | gg_7
   ·rcases bft (decide (c_1 ≤ (90 : Int))) with gg_8 | gg_8
    ·refine rg [(3, Hg), (4, Hg), (5, Hf), (12, Ht), (13, Hf), (15, Hg), (16, Hg), (17, Hg), (20, Hg), (21, Ht)] [0, 26] [] 0 [Iu c_1, .bool true] [] hmix (ac gg_1 (ac gg_1 (ac gg_1 (ar false (ar false (ar false (ac gg_7 (ac gg_7 (ar false (ac gg_7 (ar false (ac gg_8 (ac gg_8 (ac gg_8 (ac gg_8 (ac gg_8 an)))))))))))))))) ?_
     exact ⟨rfl, (sw [] [] [.s 0, .a 26 (.bool (bif decide (c_1 ≥ (97 : Int)) then (decide (c_1 ≤ (122 : Int)) || (bif decide (c_1 ≥ (65 : Int)) then (decide (c_1 ≤ (90 : Int)) || (decide (c_1 ≥ (48 : Int)) && decide (c_1 ≤ (57 : Int)))) else (decide (c_1 ≥ (48 : Int)) && decide (c_1 ≤ (57 : Int))))) else (bif decide (c_1 ≥ (65 : Int)) then (decide (c_1 ≤ (90 : Int)) || (decide (c_1 ≥ (48 : Int)) && decide (c_1 ≤ (57 : Int)))) else (decide (c_1 ≥ (48 : Int)) && decide (c_1 ≤ (57 : Int))))))] [] (ac (congrArg AV.bool (cfr gg_1 (ctr gg_7 (ort gg_8))) : (.bool true : AV) = .bool (bif decide (c_1 ≥ (97 : Int)) then (decide (c_1 ≤ (122 : Int)) || (bif decide (c_1 ≥ (65 : Int)) then (decide (c_1 ≤ (90 : Int)) || (decide (c_1 ≥ (48 : Int)) && decide (c_1 ≤ (57 : Int)))) else (decide (c_1 ≥ (48 : Int)) && decide (c_1 ≤ (57 : Int))))) else (bif decide (c_1 ≥ (65 : Int)) then (decide (c_1 ≤ (90 : Int)) || (decide (c_1 ≥ (48 : Int)) && decide (c_1 ≤ (57 : Int)))) else (decide (c_1 ≥ (48 : Int)) && decide (c_1 ≤ (57 : Int)))))) an))⟩
    ·rcases bft (decide (c_1 ≥ (48 : Int))) with gg_9 | gg_9
     ·refine rg [(3, Hg), (4, Hg), (5, Hf), (12, Ht), (13, Hf), (20, Ht), (21, Hf)] [0, 26] [] 0 [Iu c_1, .bool (decide (c_1 ≤ (57 : Int)))] [] hmix (ac gg_1 (ac gg_1 (ac gg_1 (ar false (ar false (ar false (ac gg_7 (ac gg_7 (ar false (ac gg_7 (ar false (ac gg_8 (ac gg_8 (ac gg_8 (ac gg_9 (ac gg_9 (ac gg_8 (ac gg_9 (ac gg_8 an))))))))))))))))))) ?_
      exact ⟨rfl, (sw [] [] [.s 0, .a 26 (.bool (bif decide (c_1 ≥ (97 : Int)) then (decide (c_1 ≤ (122 : Int)) || (bif decide (c_1 ≥ (65 : Int)) then (decide (c_1 ≤ (90 : Int)) || (decide (c_1 ≥ (48 : Int)) && decide (c_1 ≤ (57 : Int)))) else (decide (c_1 ≥ (48 : Int)) && decide (c_1 ≤ (57 : Int))))) else (bif decide (c_1 ≥ (65 : Int)) then (decide (c_1 ≤ (90 : Int)) || (decide (c_1 ≥ (48 : Int)) && decide (c_1 ≤ (57 : Int)))) else (decide (c_1 ≥ (48 : Int)) && decide (c_1 ≤ (57 : Int))))))] [] (ac (congrArg AV.bool (cfr gg_1 (ctr gg_7 (orf gg_8 (andt gg_9 rfl)))) : (.bool (decide (c_1 ≤ (57 : Int))) : AV) = .bool (bif decide (c_1 ≥ (97 : Int)) then (decide (c_1 ≤ (122 : Int)) || (bif decide (c_1 ≥ (65 : Int)) then (decide (c_1 ≤ (90 : Int)) || (decide (c_1 ≥ (48 : Int)) && decide (c_1 ≤ (57 : Int)))) else (decide (c_1 ≥ (48 : Int)) && decide (c_1 ≤ (57 : Int))))) else (bif decide (c_1 ≥ (65 : Int)) then (decide (c_1 ≤ (90 : Int)) || (decide (c_1 ≥ (48 : Int)) && decide (c_1 ≤ (57 : Int)))) else (decide (c_1 ≥ (48 : Int)) && decide (c_1 ≤ (57 : Int)))))) an))⟩
     ·refine rg [(3, Hg), (4, Hg), (5, Hf), (12, Ht), (13, Hf), (18, Hg), (19, Hg), (20, Hf), (21, Hf)] [0, 26] [] 0 [Iu c_1, .bool false] [] hmix (ac gg_1 (ac gg_1 (ac gg_1 (ar false (ar false (ar false (ac gg_7 (ac gg_7 (ar false (ac gg_7 (ar false (ac gg_8 (ac gg_8 (ac gg_8 (ac gg_9 (ac gg_9 (ac gg_8 (ac gg_9 (ac gg_8 an))))))))))))))))))) ?_
      exact ⟨rfl, (sw [] [] [.s 0, .a 26 (.bool (bif decide (c_1 ≥ (97 : Int)) then (decide (c_1 ≤ (122 : Int)) || (bif decide (c_1 ≥ (65 : Int)) then (decide (c_1 ≤ (90 : Int)) || (decide (c_1 ≥ (48 : Int)) && decide (c_1 ≤ (57 : Int)))) else (decide (c_1 ≥ (48 : Int)) && decide (c_1 ≤ (57 : Int))))) else (bif decide (c_1 ≥ (65 : Int)) then (decide (c_1 ≤ (90 : Int)) || (decide (c_1 ≥ (48 : Int)) && decide (c_1 ≤ (57 : Int)))) else (decide (c_1 ≥ (48 : Int)) && decide (c_1 ≤ (57 : Int))))))] [] (ac (congrArg AV.bool (cfr gg_1 (ctr gg_7 (orf gg_8 (andf gg_9)))) : (.bool false : AV) = .bool (bif decide (c_1 ≥ (97 : Int)) then (decide (c_1 ≤ (122 : Int)) || (bif decide (c_1 ≥ (65 : Int)) then (decide (c_1 ≤ (90 : Int)) || (decide (c_1 ≥ (48 : Int)) && decide (c_1 ≤ (57 : Int)))) else (decide (c_1 ≥ (48 : Int)) && decide (c_1 ≤ (57 : Int))))) else (bif decide (c_1 ≥ (65 : Int)) then (decide (c_1 ≤ (90 : Int)) || (decide (c_1 ≥ (48 : Int)) && decide (c_1 ≤ (57 : Int)))) else (decide (c_1 ≥ (48 : Int)) && decide (c_1 ≤ (57 : Int)))))) an))⟩
   ·rcases bft (decide (c_1 ≥ (48 : Int))) with gg_10 | gg_10
    ·refine rg [(3, Hg), (4, Hg), (5, Hf), (10, Hg), (11, Hg), (12, Hf), (13, Hf), (20, Ht), (21, Hf)] [0, 26] [] 0 [Iu c_1, .bool (decide (c_1 ≤ (57 : Int)))] [] hmix (ac gg_1 (ac gg_1 (ac gg_1 (ar false (ar false (ar false (ac gg_7 (ac gg_7 (ar false (ac gg_7 (ar false (ar false (ar false (ar false (ac gg_10 (ac gg_10 (ar false (ac gg_10 (ar false an))))))))))))))))))) ?_
     exact ⟨rfl, (sw [] [] [.s 0, .a 26 (.bool (bif decide (c_1 ≥ (97 : Int)) then (decide (c_1 ≤ (122 : Int)) || (bif decide (c_1 ≥ (65 : Int)) then (decide (c_1 ≤ (90 : Int)) || (decide (c_1 ≥ (48 : Int)) && decide (c_1 ≤ (57 : Int)))) else (decide (c_1 ≥ (48 : Int)) && decide (c_1 ≤ (57 : Int))))) else (bif decide (c_1 ≥ (65 : Int)) then (decide (c_1 ≤ (90 : Int)) || (decide (c_1 ≥ (48 : Int)) && decide (c_1 ≤ (57 : Int)))) else (decide (c_1 ≥ (48 : Int)) && decide (c_1 ≤ (57 : Int))))))] [] (ac (congrArg AV.bool (cfr gg_1 (cfr gg_7 (andt gg_10 rfl))) : (.bool (decide (c_1 ≤ (57 : Int))) : AV) = .bool (bif decide (c_1 ≥ (97 : Int)) then (decide (c_1 ≤ (122 : Int)) || (bif decide (c_1 ≥ (65 : Int)) then (decide (c_1 ≤ (90 : Int)) || (decide (c_1 ≥ (48 : Int)) && decide (c_1 ≤ (57 : Int)))) else (decide (c_1 ≥ (48 : Int)) && decide (c_1 ≤ (57 : Int))))) else (bif decide (c_1 ≥ (65 : Int)) then (decide (c_1 ≤ (90 : Int)) || (decide (c_1 ≥ (48 : Int)) && decide (c_1 ≤ (57 : Int)))) else (decide (c_1 ≥ (48 : Int)) && decide (c_1 ≤ (57 : Int)))))) an))⟩
    ·refine rg [(3, Hg), (4, Hg), (5, Hf), (10, Hg), (11, Hg), (12, Hf), (13, Hf), (18, Hg), (19, Hg), (20, Hf), (21, Hf)] [0, 26] [] 0 [Iu c_1, .bool false] [] hmix (ac gg_1 (ac gg_1 (ac gg_1 (ar false (ar false (ar false (ac gg_7 (ac gg_7 (ar false (ac gg_7 (ar false (ar false (ar false (ar false (ac gg_10 (ac gg_10 (ar false (ac gg_10 (ar false an))))))))))))))))))) ?_
     exact ⟨rfl, (sw [] [] [.s 0, .a 26 (.bool (bif decide (c_1 ≥ (97 : Int)) then (decide (c_1 ≤ (122 : Int)) || (bif decide (c_1 ≥ (65 : Int)) then (decide (c_1 ≤ (90 : Int)) || (decide (c_1 ≥ (48 : Int)) && decide (c_1 ≤ (57 : Int)))) else (decide (c_1 ≥ (48 : Int)) && decide (c_1 ≤ (57 : Int))))) else (bif decide (c_1 ≥ (65 : Int)) then (decide (c_1 ≤ (90 : Int)) || (decide (c_1 ≥ (48 : Int)) && decide (c_1 ≤ (57 : Int)))) else (decide (c_1 ≥ (48 : Int)) && decide (c_1 ≤ (57 : Int))))))] [] (ac (congrArg AV.bool (cfr gg_1 (cfr gg_7 (andf gg_10))) : (.bool false : AV) = .bool (bif decide (c_1 ≥ (97 : Int)) then (decide (c_1 ≤ (122 : Int)) || (bif decide (c_1 ≥ (65 : Int)) then (decide (c_1 ≤ (90 : Int)) || (decide (c_1 ≥ (48 : Int)) && decide (c_1 ≤ (57 : Int)))) else (decide (c_1 ≥ (48 : Int)) && decide (c_1 ≤ (57 : Int))))) else (bif decide (c_1 ≥ (65 : Int)) then (decide (c_1 ≤ (90 : Int)) || (decide (c_1 ≥ (48 : Int)) && decide (c_1 ≤ (57 : Int)))) else (decide (c_1 ≥ (48 : Int)) && decide (c_1 ≤ (57 : Int)))))) an))⟩
 refine cd 26 (bif decide (c_1 ≥ (97 : Int)) then (decide (c_1 ≤ (122 : Int)) || (bif decide (c_1 ≥ (65 : Int)) then (decide (c_1 ≤ (90 : Int)) || (decide (c_1 ≥ (48 : Int)) && decide (c_1 ≤ (57 : Int)))) else (decide (c_1 ≥ (48 : Int)) && decide (c_1 ≤ (57 : Int))))) else (bif decide (c_1 ≥ (65 : Int)) then (decide (c_1 ≤ (90 : Int)) || (decide (c_1 ≥ (48 : Int)) && decide (c_1 ≤ (57 : Int)))) else (decide (c_1 ≥ (48 : Int)) && decide (c_1 ≤ (57 : Int))))) ?_ ?_
 ·intro g_1; replace h := cond_t g_1 h
  refine sr [] [2] [] 0 [.bool true] [] hmix an ?_
  refine rt ?_
  cases h
  exact ⟨.inr rfl, Nat.le_of_ble_eq_true rfl, by kernel_rfl⟩
 intro g_1; replace h := cond_f g_1 h
 refine sk ?_
 refine sr [] [0, 3] [] 0 [Iu c_1, .str ([95, 46, 58, 47, 60, 62, 36, 42, 126, 45] : List Int)] [] hmix an ?_
 refine sq ?_
 refine sr [] [0, 3, 4] [] 0 [Iu c_1, .str ([95, 46, 58, 47, 60, 62, 36, 42, 126, 45] : List Int), Ii 0] [] hmix an ?_
 obtain ⟨o_1, h_1, h⟩ := bind_some h
 refine aw_conv (K1 := (fun e st' => match o_1 with | (.inl q0) => e = .normal ∧ Sub 0 st' (mk [] [] 0) | (.inr q1) => e = .ret ∧ FinR prog Go.Proofs.Try.f92 0 [] (.bool q1) st')) ?_ ?_
 ·replace h := h_1
  refine aw_block (id := 0) (by kernel_rfl) ?_
  refine wk [] [] [.s 0, .s 3, .s 4] [] [(0, Iu c_1), (3, .str ([95, 46, 58, 47, 60, 62, 36, 42, 126, 45] : List Int)), (4, Ii 0)] [] an ?_
  refine aw_loopF (fun n st => ∃ (i_1 : Int), st = mk [(0, Iu c_1), (3, .str ([95, 46, 58, 47, 60, 62, 36, 42, 126, 45] : List Int)), (4, Ii i_1)] [] 0 ∧ R06_letter_L1 F c_1 n i_1 = some o_1) F (by kernel_rfl) ⟨_, rfl, h⟩ ?_ ?_
  ·rintro _ ⟨_, _, h⟩; exact none_ne (h : (none : Option (Unit ⊕ Bool)) = some o_1)
  rintro n_1 _ ⟨i_1, rfl, h⟩
  replace h : R06_letter_L1_body F c_1 (R06_letter_L1 F c_1 n_1) i_1 = some o_1 := h
  unfold R06_letter_L1_body at h
  refine sq ?_
  refine sr [] [0, 3, 4, 30] [] 0 [Iu c_1, .str ([95, 46, 58, 47, 60, 62, 36, 42, 126, 45] : List Int), Ii i_1, .bool (decide (i_1 < (lN (([95, 46, 58, 47, 60, 62, 36, 42, 126, 45] : List Int)))))] [] hmix an ?_
  refine cd 30 (decide (i_1 < (lN (([95, 46, 58, 47, 60, 62, 36, 42, 126, 45] : List Int))))) ?_ ?_
  rotate_left
  ·intro g_2; replace h := cond_f g_2 h
   refine aw_exit (id := 0) (by kernel_rfl) ?_
   cases h
   exact ⟨rfl, (sw [] [] [] [] an)⟩
  intro g_2; replace h := cond_t g_2 h
  refine sk ?_
  refine sq ?_
  refine aw_block (id := 1) (by kernel_rfl) ?_
  refine sq ?_
  obtain ⟨c_2, h_2, h⟩ := bind_some h
  refine rg [(2, { z := c_2 })] [0, 3, 4, 37] [] 0 [Iu c_1, .str ([95, 46, 58, 47, 60, 62, 36, 42, 126, 45] : List Int), Ii i_1, .bool (c_2 == c_1)] [] hmix (ac h_2 an) ?_
  refine cd 37 (c_2 == c_1) ?_ ?_
  rotate_left
  ·intro g_3; replace h := cond_f g_3 h
   refine sk ?_
   refine rg [] [0, 3, 4] [] 0 [Iu c_1, .str ([95, 46, 58, 47, 60, 62, 36, 42, 126, 45] : List Int), Ii (w_i64 (i_1 + (1 : Int)))] [] hmix an ?_
   exact ⟨_, (sw [] [] [.s 0, .s 3, .s 4] [] an), _, rfl, h⟩
  intro g_3; replace h := cond_t g_3 h
  refine sr [] [2] [] 0 [.bool true] [] hmix an ?_
  refine rt ?_
  cases h
  exact ⟨rfl, Nat.le_of_ble_eq_true rfl, by kernel_rfl⟩
 intro e st1 hk
 rcases o_1 with q_1 | q_2
 rotate_left
 ·obtain ⟨rfl, hf⟩ := hk
  cases h
  exact ⟨st1, Sub.refl _ _, .inr rfl, hf⟩
 obtain ⟨rfl, hs⟩ := hk
 refine ⟨_, hs, ?_⟩
 refine sr [] [2] [] 0 [.bool false] [] hmix an ?_
 refine rt ?_
 cases h
 exact ⟨.inr rfl, Nat.le_of_ble_eq_true rfl, by kernel_rfl⟩

theorem R06_Name_ok (F : Nat) (s_1 : List Int) (r : Int) (h : R06_Name F s_1 = some r) : TripleG prog 72 [] [] [.str s_1] [] (Ii r) := by
 refine triple_intro (fn := Go.Proofs.Try.f72) (code := codeOf Go.Proofs.Try.f72) (by kernel_rfl) (by kernel_rfl) (Nat.le_of_ble_eq_true (by kernel_rfl)) ?_
 unfold R06_Name at h
 refine sr [] [0] [] 0 [.str s_1] [] hmix an ?_
 refine sq ?_
 refine sq ?_
 refine aw_mid (mk [(0, .str s_1), (11, .bool (decide ((lN (s_1)) < (1 : Int)) || decide ((lN (s_1)) > (40 : Int))))] [] 0) ?_ ?_
 ·rcases bft (decide ((lN (s_1)) < (1 : Int))) with gg_1 | gg_1
  ·refine rg [(4, Hg), (5, Hg), (6, Hg), (7, Ht)] [0, 11] [] 0 [.str s_1, .bool true] [] hmix (ac gg_1 (ac gg_1 (ac gg_1 (ac gg_1 an)))) ?_
   exact ⟨rfl, (sw [] [] [.s 0, .a 11 (.bool (decide ((lN (s_1)) < (1 : Int)) || decide ((lN (s_1)) > (40 : Int))))] [] (ac (congrArg AV.bool (ort gg_1) : (.bool true : AV) = .bool (decide ((lN (s_1)) < (1 : Int)) || decide ((lN (s_1)) > (40 : Int)))) an))⟩
  ·refine rg [(7, Hf)] [0, 11] [] 0 [.str s_1, .bool (decide ((lN (s_1)) > (40 : Int)))] [] hmix (ac gg_1 (ac gg_1 (ac gg_1 (ac gg_1 an)))) ?_
   exact ⟨rfl, (sw [] [] [.s 0, .a 11 (.bool (decide ((lN (s_1)) < (1 : Int)) || decide ((lN (s_1)) > (40 : Int))))] [] (ac (congrArg AV.bool (orf gg_1 rfl) : (.bool (decide ((lN (s_1)) > (40 : Int))) : AV) = .bool (decide ((lN (s_1)) < (1 : Int)) || decide ((lN (s_1)) > (40 : Int)))) an))⟩
 refine cd 11 (decide ((lN (s_1)) < (1 : Int)) || decide ((lN (s_1)) > (40 : Int))) ?_ ?_
 ·intro g_1; replace h := cond_t g_1 h
  refine sr [] [2] [] 0 [Ii 3] [] hmix an ?_
  refine rt ?_
  cases h
  exact ⟨.inr rfl, Nat.le_of_ble_eq_true rfl, by kernel_rfl⟩
 intro g_1; replace h := cond_f g_1 h
 refine sk ?_
 refine sq ?_
 refine sr [] [0, 3] [] 0 [.str s_1, Ii 0] [] hmix an ?_
 obtain ⟨o_1, h_1, h⟩ := bind_some h
 refine aw_conv (K1 := (fun e st' => match o_1 with | (.inl q0) => e = .normal ∧ Sub 0 st' (mk [] [] 0) | (.inr q1) => e = .ret ∧ FinR prog Go.Proofs.Try.f72 0 [] (Ii q1) st')) ?_ ?_
 ·replace h := h_1
  refine aw_block (id := 0) (by kernel_rfl) ?_
  refine wk [] [] [.s 0, .s 3] [] [(0, .str s_1), (3, Ii 0)] [] an ?_
  refine aw_loopF (fun n st => ∃ (i_1 : Int), st = mk [(0, .str s_1), (3, Ii i_1)] [] 0 ∧ R06_Name_L1 F s_1 n i_1 = some o_1) F (by kernel_rfl) ⟨_, rfl, h⟩ ?_ ?_
  ·rintro _ ⟨_, _, h⟩; exact none_ne (h : (none : Option (Unit ⊕ Int)) = some o_1)
  rintro n_1 _ ⟨i_1, rfl, h⟩
  replace h : R06_Name_L1_body F s_1 (R06_Name_L1 F s_1 n_1) i_1 = some o_1 := h
  unfold R06_Name_L1_body at h
  refine sq ?_
  refine sr [] [0, 3, 15] [] 0 [.str s_1, Ii i_1, .bool (decide (i_1 < (lN (s_1))))] [] hmix an ?_
  refine cd 15 (decide (i_1 < (lN (s_1)))) ?_ ?_
  rotate_left
  ·intro g_2; replace h := cond_f g_2 h
   refine aw_exit (id := 0) (by kernel_rfl) ?_
   cases h
   exact ⟨rfl, (sw [] [] [] [] an)⟩
  intro g_2; replace h := cond_t g_2 h
  refine sk ?_
  refine sq ?_
  refine aw_block (id := 1) (by kernel_rfl) ?_
  refine sq ?_
  obtain ⟨c_1, h_2, h⟩ := bind_some h
  obtain ⟨r_1, h_3, h⟩ := bind_some h
  refine rg [(2, { z := c_1 }), (3, { av := .bool r_1, l := [Iu c_1] })] [0, 3, 22] [] 0 [.str s_1, Ii i_1, .bool (!r_1)] [] hmix (ac h_2 (ar ([Iu c_1] : List AV) (ac (rfl : ([] : List BoxSt) = []) (ac (R06_letter_ok F c_1 r_1 h_3 : TripleG prog 92 [] [] [Iu c_1] [] (.bool r_1)) an)))) ?_
  refine cd 22 (!r_1) ?_ ?_
  rotate_left
  ·intro g_3; replace h := cond_f g_3 h
   refine sk ?_
   refine rg [] [0, 3] [] 0 [.str s_1, Ii (w_i64 (i_1 + (1 : Int)))] [] hmix an ?_
   exact ⟨_, (sw [] [] [.s 0, .s 3] [] an), _, rfl, h⟩
  intro g_3; replace h := cond_t g_3 h
  refine sr [] [2] [] 0 [Ii 3] [] hmix an ?_
  refine rt ?_
  cases h
  exact ⟨rfl, Nat.le_of_ble_eq_true rfl, by kernel_rfl⟩
 intro e st1 hk
 rcases o_1 with q_1 | q_2
 rotate_left
 ·obtain ⟨rfl, hf⟩ := hk
  cases h
  exact ⟨st1, Sub.refl _ _, .inr rfl, hf⟩
 obtain ⟨rfl, hs⟩ := hk
 refine ⟨_, hs, ?_⟩
 refine sr [] [2] [] 0 [Ii 0] [] hmix an ?_
 refine rt ?_
 cases h
 exact ⟨.inr rfl, Nat.le_of_ble_eq_true rfl, by kernel_rfl⟩

theorem R06_Frames_ok (F : Nat) (l_1 : List (List Int)) (r : Int) (h : R06_Frames F l_1 = some r) : TripleG prog 73 [] [] [.sl false 1 (Ms l_1)] [] (Ii r) := by
 refine triple_intro (fn := Go.Proofs.Try.f73) (code := codeOf Go.Proofs.Try.f73) (by kernel_rfl) (by kernel_rfl) (Nat.le_of_ble_eq_true (by kernel_rfl)) ?_
 unfold R06_Frames at h
 refine sr [] [0] [] 0 [.sl false 1 (Ms l_1)] [] hmix an ?_
 refine sq ?_
 refine sr [(1, { n := (l_1).length })] [0, 6] [] 0 [.sl false 1 (Ms l_1), .bool (decide ((lN (l_1)) > (32 : Int)))] [] hmix (ac (vc_len _ : ((Ms l_1)).length = (l_1).length) an) ?_
 refine cd 6 (decide ((lN (l_1)) > (32 : Int))) ?_ ?_
 ·intro g_1; replace h := cond_t g_1 h
  refine sr [] [2] [] 0 [Ii 7] [] hmix an ?_
  refine rt ?_
  cases h
  exact ⟨.inr rfl, Nat.le_of_ble_eq_true rfl, by kernel_rfl⟩
 intro g_1; replace h := cond_f g_1 h
 refine sk ?_
 refine sq ?_
 refine sr [] [0, 3] [] 0 [.sl false 1 (Ms l_1), Ii 0] [] hmix an ?_
 obtain ⟨o_1, h_1, h⟩ := bind_some h
 refine aw_conv (K1 := (fun e st' => match o_1 with | (.inl q0) => e = .normal ∧ Sub 0 st' (mk [] [] 0) | (.inr q1) => e = .ret ∧ FinR prog Go.Proofs.Try.f73 0 [] (Ii q1) st')) ?_ ?_
 ·replace h := h_1
  refine aw_block (id := 0) (by kernel_rfl) ?_
  refine wk [] [] [.s 0, .s 3] [] [(0, .sl false 1 (Ms l_1)), (3, Ii 0)] [] an ?_
  refine aw_loopF (fun n st => ∃ (i_1 : Int), st = mk [(0, .sl false 1 (Ms l_1)), (3, Ii i_1)] [] 0 ∧ R06_Frames_L1 F l_1 n i_1 = some o_1) F (by kernel_rfl) ⟨_, rfl, h⟩ ?_ ?_
  ·rintro _ ⟨_, _, h⟩; exact none_ne (h : (none : Option (Unit ⊕ Int)) = some o_1)
  rintro n_1 _ ⟨i_1, rfl, h⟩
  replace h : R06_Frames_L1_body F l_1 (R06_Frames_L1 F l_1 n_1) i_1 = some o_1 := h
  unfold R06_Frames_L1_body at h
  refine sq ?_
  refine sr [(2, { n := (l_1).length })] [0, 3, 10] [] 0 [.sl false 1 (Ms l_1), Ii i_1, .bool (decide (i_1 < (lN (l_1))))] [] hmix (ac (vc_len _ : ((Ms l_1)).length = (l_1).length) an) ?_
  refine cd 10 (decide (i_1 < (lN (l_1)))) ?_ ?_
  rotate_left
  ·intro g_2; replace h := cond_f g_2 h
   refine aw_exit (id := 0) (by kernel_rfl) ?_
   cases h
   exact ⟨rfl, (sw [] [] [] [] an)⟩
  intro g_2; replace h := cond_t g_2 h
  refine sk ?_
  refine sq ?_
  refine aw_block (id := 1) (by kernel_rfl) ?_
  refine sq ?_
  obtain ⟨x_1, h_2, h⟩ := bind_some h
  obtain ⟨r_1, h_3, h⟩ := bind_some h
  refine rg [(2, { av := .str x_1 }), (4, { av := Ii r_1, l := [.str x_1] })] [0, 3, 18] [] 0 [.sl false 1 (Ms l_1), Ii i_1, .bool (r_1 != (0 : Int))] [] hmix (ac (vc_idx h_2 : idxA (Ms l_1) i_1 = some (.str x_1)) (ar ([.str x_1] : List AV) (ac (rfl : ([] : List BoxSt) = []) (ac (R06_Name_ok F x_1 r_1 h_3 : TripleG prog 72 [] [] [.str x_1] [] (Ii r_1)) an)))) ?_
  refine cd 18 (r_1 != (0 : Int)) ?_ ?_
  rotate_left
  ·intro g_3; replace h := cond_f g_3 h
   refine sk ?_
   refine rg [] [0, 3] [] 0 [.sl false 1 (Ms l_1), Ii (w_i64 (i_1 + (1 : Int)))] [] hmix an ?_
   exact ⟨_, (sw [] [] [.s 0, .s 3] [] an), _, rfl, h⟩
  intro g_3; replace h := cond_t g_3 h
  refine sr [] [2] [] 0 [Ii 3] [] hmix an ?_
  refine rt ?_
  cases h
  exact ⟨rfl, Nat.le_of_ble_eq_true rfl, by kernel_rfl⟩
 intro e st1 hk
 rcases o_1 with q_1 | q_2
 rotate_left
 ·obtain ⟨rfl, hf⟩ := hk
  cases h
  exact ⟨st1, Sub.refl _ _, .inr rfl, hf⟩
 obtain ⟨rfl, hs⟩ := hk
 refine ⟨_, hs, ?_⟩
 refine sr [] [2] [] 0 [Ii 0] [] hmix an ?_
 refine rt ?_
 cases h
 exact ⟨.inr rfl, Nat.le_of_ble_eq_true rfl, by kernel_rfl⟩

theorem R07_within_ok (n_1 : Int) (low_1 : Int) (high_1 : Int) (r : Int) (h : R07_within n_1 low_1 high_1 = some r) : TripleG prog 93 [] [] [Ii n_1, Ii low_1, Ii high_1] [] (Ii r) := by
 refine triple_intro (fn := Go.Proofs.Try.f93) (code := codeOf Go.Proofs.Try.f93) (by kernel_rfl) (by kernel_rfl) (Nat.le_of_ble_eq_true (by kernel_rfl)) ?_
 unfold R07_within at h
 refine sr [] [0, 1, 2] [] 0 [Ii n_1, Ii low_1, Ii high_1] [] hmix an ?_
 refine sq ?_
 refine sq ?_
 refine aw_mid (mk [(14, .bool (decide (n_1 < low_1) || decide (n_1 > high_1)))] [] 0) ?_ ?_
 ·rcases bft (decide (n_1 < low_1)) with gg_1 | gg_1
  ·refine rg [(4, Hg), (5, Hg), (6, Hg), (7, Ht)] [14] [] 0 [.bool true] [] hmix (ac gg_1 (ac gg_1 (ac gg_1 (ac gg_1 an)))) ?_
   exact ⟨rfl, (sw [] [] [.a 14 (.bool (decide (n_1 < low_1) || decide (n_1 > high_1)))] [] (ac (congrArg AV.bool (ort gg_1) : (.bool true : AV) = .bool (decide (n_1 < low_1) || decide (n_1 > high_1))) an))⟩
  ·refine rg [(7, Hf)] [14] [] 0 [.bool (decide (n_1 > high_1))] [] hmix (ac gg_1 (ac gg_1 (ac gg_1 (ac gg_1 an)))) ?_
   exact ⟨rfl, (sw [] [] [.a 14 (.bool (decide (n_1 < low_1) || decide (n_1 > high_1)))] [] (ac (congrArg AV.bool (orf gg_1 rfl) : (.bool (decide (n_1 > high_1)) : AV) = .bool (decide (n_1 < low_1) || decide (n_1 > high_1))) an))⟩
 refine cd 14 (decide (n_1 < low_1) || decide (n_1 > high_1)) ?_ ?_
 ·intro g_1; replace h := cond_t g_1 h
  refine sr [] [6] [] 0 [Ii 2] [] hmix an ?_
  refine rt ?_
  cases h
  exact ⟨.inr rfl, Nat.le_of_ble_eq_true rfl, by kernel_rfl⟩
 intro g_1; replace h := cond_f g_1 h
 refine sk ?_
 refine sr [] [6] [] 0 [Ii 0] [] hmix an ?_
 refine rt ?_
 cases h
 exact ⟨.inr rfl, Nat.le_of_ble_eq_true rfl, by kernel_rfl⟩

theorem R07_numbers_ok (e_1 : T_api_Event) (r : Int) (h : R07_numbers e_1 = some r) : TripleG prog 74 [] [] [e_T_api_Event e_1] [] (Ii r) := by
 refine triple_intro (fn := Go.Proofs.Try.f74) (code := codeOf Go.Proofs.Try.f74) (by kernel_rfl) (by kernel_rfl) (Nat.le_of_ble_eq_true (by kernel_rfl)) ?_
 unfold R07_numbers at h
 refine sr [(0, { id := 0 })] [1] [0] 1 [Pp 0] [Vb 33 (v_T_api_Event e_1)] hmix an ?_
 refine sq ?_
 refine sr [] [1, 6] [0] 1 [Pp 0, Ii e_1.Kind] [Vb 33 (v_T_api_Event e_1)] hmix an ?_
 obtain ⟨o_1, h_1, h⟩ := bind_some h
 refine aw_conv (K1 := (fun e st' => match o_1 with | (.inl q0) => e = .normal ∧ Sub 0 st' (mk [(1, Pp 0)] [(0, Vb 33 (v_T_api_Event e_1))] 1) | (.inr q1) => e = .ret ∧ FinR prog Go.Proofs.Try.f74 0 [] (Ii q1) st')) ?_ ?_
 ·replace h := h_1
  refine aw_block (id := 0) (by kernel_rfl) ?_
  refine sq ?_
  refine sr [] [1, 6, 7] [0] 1 [Pp 0, Ii e_1.Kind, .bool (e_1.Kind == (1 : Int))] [Vb 33 (v_T_api_Event e_1)] hmix an ?_
  obtain ⟨o_2, h_2, h⟩ := bind_some h
  refine aw_mid (mk [(1, Pp 0), (6, Ii e_1.Kind), (7, .bool o_2)] [(0, Vb 33 (v_T_api_Event e_1))] 1) ?_ ?_
  ·replace h := h_2
   refine cd 7 (e_1.Kind == (1 : Int)) ?_ ?_
   ·intro g_1; replace h := cond_t g_1 h
    refine sk ?_
    cases h
    exact ⟨rfl, (sw [0] [] [.s 1, .s 6, .s 7] [.s 0] an)⟩
   intro g_1; replace h := cond_f g_1 h
   refine sr [] [1, 6, 7] [0] 1 [Pp 0, Ii e_1.Kind, .bool (e_1.Kind == (2 : Int))] [Vb 33 (v_T_api_Event e_1)] hmix an ?_
   refine cd 7 (e_1.Kind == (2 : Int)) ?_ ?_
   ·intro g_2; replace h := cond_t g_2 h
    refine sk ?_
    cases h
    exact ⟨rfl, (sw [0] [] [.s 1, .s 6, .s 7] [.s 0] an)⟩
   intro g_2; replace h := cond_f g_2 h
   refine rg [] [1, 6, 7] [0] 1 [Pp 0, Ii e_1.Kind, .bool (e_1.Kind == (3 : Int))] [Vb 33 (v_T_api_Event e_1)] hmix an ?_
   cases h
   exact ⟨rfl, (sw [0] [] [.s 1, .s 6, .s 7] [.s 0] an)⟩
  refine cd 7 o_2 ?_ ?_
  ·intro g_3; replace h := cond_t g_3 h
   refine sr [] [2] [] 1 [Ii 0] [] hmix an ?_
   refine rt ?_
   cases h
   exact ⟨rfl, Nat.le_of_ble_eq_true rfl, by kernel_rfl⟩
  intro g_3; replace h := cond_f g_3 h
  refine sr [] [1, 6, 11] [0] 1 [Pp 0, Ii e_1.Kind, .bool (e_1.Kind == (4 : Int))] [Vb 33 (v_T_api_Event e_1)] hmix an ?_
  refine cd 11 (e_1.Kind == (4 : Int)) ?_ ?_
  ·intro g_4; replace h := cond_t g_4 h
   refine sq ?_
   obtain ⟨r_1, h_3, h⟩ := bind_some h
   refine rg [(2, { av := Ii r_1, l := [Ii e_1.N, Ii (-1000000000000000), Ii 1000000000000000] })] [2] [] 1 [Ii r_1] [] hmix (ar ([Ii e_1.N, Ii (-1000000000000000), Ii 1000000000000000] : List AV) (ac (rfl : ([] : List BoxSt) = []) (ac (R07_within_ok e_1.N (-1000000000000000 : Int) (1000000000000000 : Int) r_1 h_3 : TripleG prog 93 [] [] [Ii e_1.N, Ii (-1000000000000000), Ii 1000000000000000] [] (Ii r_1)) an))) ?_
   refine rt ?_
   cases h
   exact ⟨rfl, Nat.le_of_ble_eq_true rfl, by kernel_rfl⟩
  intro g_4; replace h := cond_f g_4 h
  refine sr [] [1, 6, 16] [0] 1 [Pp 0, Ii e_1.Kind, .bool (e_1.Kind == (5 : Int))] [Vb 33 (v_T_api_Event e_1)] hmix an ?_
  refine cd 16 (e_1.Kind == (5 : Int)) ?_ ?_
  ·intro g_5; replace h := cond_t g_5 h
   refine sq ?_
   obtain ⟨r_2, h_4, h⟩ := bind_some h
   refine rg [(2, { av := Ii r_2, l := [Ii e_1.N, Ii 1, Ii 1000000000000] })] [2] [] 1 [Ii r_2] [] hmix (ar ([Ii e_1.N, Ii 1, Ii 1000000000000] : List AV) (ac (rfl : ([] : List BoxSt) = []) (ac (R07_within_ok e_1.N (1 : Int) (1000000000000 : Int) r_2 h_4 : TripleG prog 93 [] [] [Ii e_1.N, Ii 1, Ii 1000000000000] [] (Ii r_2)) an))) ?_
   refine rt ?_
   cases h
   exact ⟨rfl, Nat.le_of_ble_eq_true rfl, by kernel_rfl⟩
  intro g_5; replace h := cond_f g_5 h
  refine sr [] [1, 6, 21] [0] 1 [Pp 0, Ii e_1.Kind, .bool (e_1.Kind == (8 : Int))] [Vb 33 (v_T_api_Event e_1)] hmix an ?_
  refine cd 21 (e_1.Kind == (8 : Int)) ?_ ?_
  ·intro g_6; replace h := cond_t g_6 h
   refine sq ?_
   obtain ⟨r_3, h_5, h⟩ := bind_some h
   refine rg [(2, { av := Ii r_3, l := [Ii e_1.N, Ii 0, Ii 63] })] [2] [] 1 [Ii r_3] [] hmix (ar ([Ii e_1.N, Ii 0, Ii 63] : List AV) (ac (rfl : ([] : List BoxSt) = []) (ac (R07_within_ok e_1.N (0 : Int) (63 : Int) r_3 h_5 : TripleG prog 93 [] [] [Ii e_1.N, Ii 0, Ii 63] [] (Ii r_3)) an))) ?_
   refine rt ?_
   cases h
   exact ⟨rfl, Nat.le_of_ble_eq_true rfl, by kernel_rfl⟩
  intro g_6; replace h := cond_f g_6 h
  refine sr [] [1, 26] [0] 1 [Pp 0, .bool (e_1.Kind == (9 : Int))] [Vb 33 (v_T_api_Event e_1)] hmix an ?_
  refine cd 26 (e_1.Kind == (9 : Int)) ?_ ?_
  rotate_left
  ·intro g_7; replace h := cond_f g_7 h
   refine sk ?_
   cases h
   exact ⟨rfl, (sw [0] [] [.s 1] [.s 0] an)⟩
  intro g_7; replace h := cond_t g_7 h
  refine sq ?_
  obtain ⟨r_4, h_6, h⟩ := bind_some h
  refine rg [(2, { av := Ii r_4, l := [Ii e_1.N, Ii 0, Ii 3] })] [1, 3] [0] 1 [Pp 0, Ii r_4] [Vb 33 (v_T_api_Event e_1)] hmix (ar ([Ii e_1.N, Ii 0, Ii 3] : List AV) (ac (rfl : ([] : List BoxSt) = []) (ac (R07_within_ok e_1.N (0 : Int) (3 : Int) r_4 h_6 : TripleG prog 93 [] [] [Ii e_1.N, Ii 0, Ii 3] [] (Ii r_4)) an))) ?_
  refine sq ?_
  refine sq ?_
  refine aw_mid (mk [(1, Pp 0), (3, Ii r_4), (37, .bool ((r_4 == (0 : Int)) && (e_1.N == (2 : Int))))] [(0, Vb 33 (v_T_api_Event e_1))] 1) ?_ ?_
  ·rcases bft (r_4 == (0 : Int)) with gg_3 | gg_3
   ·refine rg [(6, Ht)] [1, 3, 37] [0] 1 [Pp 0, Ii r_4, .bool (e_1.N == (2 : Int))] [Vb 33 (v_T_api_Event e_1)] hmix (ac gg_3 (ac gg_3 (ac gg_3 (ac gg_3 an)))) ?_
    exact ⟨rfl, (sw [0] [] [.s 1, .s 3, .a 37 (.bool ((r_4 == (0 : Int)) && (e_1.N == (2 : Int))))] [.s 0] (ac (congrArg AV.bool (andt gg_3 rfl) : (.bool (e_1.N == (2 : Int)) : AV) = .bool ((r_4 == (0 : Int)) && (e_1.N == (2 : Int)))) an))⟩
   ·refine rg [(3, Hg), (4, Hg), (5, Hg), (6, Hf)] [1, 3, 37] [0] 1 [Pp 0, Ii r_4, .bool false] [Vb 33 (v_T_api_Event e_1)] hmix (ac gg_3 (ac gg_3 (ac gg_3 (ac gg_3 an)))) ?_
    exact ⟨rfl, (sw [0] [] [.s 1, .s 3, .a 37 (.bool ((r_4 == (0 : Int)) && (e_1.N == (2 : Int))))] [.s 0] (ac (congrArg AV.bool (andf gg_3) : (.bool false : AV) = .bool ((r_4 == (0 : Int)) && (e_1.N == (2 : Int)))) an))⟩
  refine cd 37 ((r_4 == (0 : Int)) && (e_1.N == (2 : Int))) ?_ ?_
  ·intro g_8; replace h := cond_t g_8 h
   refine sq ?_
   obtain ⟨r_5, h_7, h⟩ := bind_some h
   refine rg [(2, { av := Ii r_5, l := [Ii e_1.M, Ii 0, Ii 1000000000000000] })] [2] [] 1 [Ii r_5] [] hmix (ar ([Ii e_1.M, Ii 0, Ii 1000000000000000] : List AV) (ac (rfl : ([] : List BoxSt) = []) (ac (R07_within_ok e_1.M (0 : Int) (1000000000000000 : Int) r_5 h_7 : TripleG prog 93 [] [] [Ii e_1.M, Ii 0, Ii 1000000000000000] [] (Ii r_5)) an))) ?_
   refine rt ?_
   cases h
   exact ⟨rfl, Nat.le_of_ble_eq_true rfl, by kernel_rfl⟩
  intro g_8; replace h := cond_f g_8 h
  refine sk ?_
  refine sq ?_
  refine sq ?_
  refine aw_mid (mk [(3, Ii r_4), (47, .bool ((r_4 == (0 : Int)) && (e_1.M != (0 : Int))))] [] 0) ?_ ?_
  ·rcases bft (r_4 == (0 : Int)) with gg_4 | gg_4
   ·refine rg [(6, Ht)] [3, 47] [] 1 [Ii r_4, .bool (e_1.M != (0 : Int))] [] hmix (ac gg_4 (ac gg_4 (ac gg_4 (ac gg_4 an)))) ?_
    exact ⟨rfl, (sw [] [] [.s 3, .a 47 (.bool ((r_4 == (0 : Int)) && (e_1.M != (0 : Int))))] [] (ac (congrArg AV.bool (andt gg_4 rfl) : (.bool (e_1.M != (0 : Int)) : AV) = .bool ((r_4 == (0 : Int)) && (e_1.M != (0 : Int)))) an))⟩
   ·refine rg [(3, Hg), (4, Hg), (5, Hg), (6, Hf)] [3, 47] [] 1 [Ii r_4, .bool false] [] hmix (ac gg_4 (ac gg_4 (ac gg_4 (ac gg_4 an)))) ?_
    exact ⟨rfl, (sw [] [] [.s 3, .a 47 (.bool ((r_4 == (0 : Int)) && (e_1.M != (0 : Int))))] [] (ac (congrArg AV.bool (andf gg_4) : (.bool false : AV) = .bool ((r_4 == (0 : Int)) && (e_1.M != (0 : Int)))) an))⟩
  refine cd 47 ((r_4 == (0 : Int)) && (e_1.M != (0 : Int))) ?_ ?_
  ·intro g_9; replace h := cond_t g_9 h
   refine sr [] [2] [] 0 [Ii 1] [] hmix an ?_
   refine rt ?_
   cases h
   exact ⟨rfl, Nat.le_of_ble_eq_true rfl, by kernel_rfl⟩
  intro g_9; replace h := cond_f g_9 h
  refine sk ?_
  refine sr [] [2] [] 0 [Ii r_4] [] hmix an ?_
  refine rt ?_
  cases h
  exact ⟨rfl, Nat.le_of_ble_eq_true rfl, by kernel_rfl⟩
 intro e st1 hk
 rcases o_1 with q_1 | q_2
 rotate_left
 ·obtain ⟨rfl, hf⟩ := hk
  cases h
  exact ⟨st1, Sub.refl _ _, .inr rfl, hf⟩
 obtain ⟨rfl, hs⟩ := hk
 refine ⟨_, hs, ?_⟩
 refine sq ?_
 obtain ⟨r_6, h_8, h⟩ := bind_some h
 refine rg [(2, { av := Ii r_6, l := [Ii e_1.N, Ii 0, Ii 1000000000000000] })] [1, 4] [0] 1 [Pp 0, Ii r_6] [Vb 33 (v_T_api_Event e_1)] hmix (ar ([Ii e_1.N, Ii 0, Ii 1000000000000000] : List AV) (ac (rfl : ([] : List BoxSt) = []) (ac (R07_within_ok e_1.N (0 : Int) (1000000000000000 : Int) r_6 h_8 : TripleG prog 93 [] [] [Ii e_1.N, Ii 0, Ii 1000000000000000] [] (Ii r_6)) an))) ?_
 refine sq ?_
 refine sq ?_
 refine aw_mid (mk [(1, Pp 0), (4, Ii r_6), (58, .bool ((r_6 == (0 : Int)) && (e_1.Kind == (11 : Int))))] [(0, Vb 33 (v_T_api_Event e_1))] 1) ?_ ?_
 ·rcases bft (r_6 == (0 : Int)) with gg_5 | gg_5
  ·refine rg [(6, Ht)] [1, 4, 58] [0] 1 [Pp 0, Ii r_6, .bool (e_1.Kind == (11 : Int))] [Vb 33 (v_T_api_Event e_1)] hmix (ac gg_5 (ac gg_5 (ac gg_5 (ac gg_5 an)))) ?_
   exact ⟨rfl, (sw [0] [] [.s 1, .s 4, .a 58 (.bool ((r_6 == (0 : Int)) && (e_1.Kind == (11 : Int))))] [.s 0] (ac (congrArg AV.bool (andt gg_5 rfl) : (.bool (e_1.Kind == (11 : Int)) : AV) = .bool ((r_6 == (0 : Int)) && (e_1.Kind == (11 : Int)))) an))⟩
  ·refine rg [(3, Hg), (4, Hg), (5, Hg), (6, Hf)] [1, 4, 58] [0] 1 [Pp 0, Ii r_6, .bool false] [Vb 33 (v_T_api_Event e_1)] hmix (ac gg_5 (ac gg_5 (ac gg_5 (ac gg_5 an)))) ?_
   exact ⟨rfl, (sw [0] [] [.s 1, .s 4, .a 58 (.bool ((r_6 == (0 : Int)) && (e_1.Kind == (11 : Int))))] [.s 0] (ac (congrArg AV.bool (andf gg_5) : (.bool false : AV) = .bool ((r_6 == (0 : Int)) && (e_1.Kind == (11 : Int)))) an))⟩
 refine cd 58 ((r_6 == (0 : Int)) && (e_1.Kind == (11 : Int))) ?_ ?_
 ·intro g_10; replace h := cond_t g_10 h
  refine sq ?_
  obtain ⟨r_7, h_9, h⟩ := bind_some h
  refine rg [(2, { av := Ii r_7, l := [Ii e_1.M, Ii 1, Ii 1000000000000] })] [2] [] 1 [Ii r_7] [] hmix (ar ([Ii e_1.M, Ii 1, Ii 1000000000000] : List AV) (ac (rfl : ([] : List BoxSt) = []) (ac (R07_within_ok e_1.M (1 : Int) (1000000000000 : Int) r_7 h_9 : TripleG prog 93 [] [] [Ii e_1.M, Ii 1, Ii 1000000000000] [] (Ii r_7)) an))) ?_
  refine rt ?_
  cases h
  exact ⟨.inr rfl, Nat.le_of_ble_eq_true rfl, by kernel_rfl⟩
 intro g_10; replace h := cond_f g_10 h
 refine sk ?_
 refine sr [] [2] [] 1 [Ii r_6] [] hmix an ?_
 refine rt ?_
 cases h
 exact ⟨.inr rfl, Nat.le_of_ble_eq_true rfl, by kernel_rfl⟩

theorem R07_Check_ok (F : Nat) (e_1 : T_api_Event) (r : Int) (h : R07_Check F e_1 = some r) : TripleG prog 47 [] [] [e_T_api_Event e_1] [] (Ii r) := by
 refine triple_intro (fn := Go.Proofs.Try.f47) (code := codeOf Go.Proofs.Try.f47) (by kernel_rfl) (by kernel_rfl) (Nat.le_of_ble_eq_true (by kernel_rfl)) ?_
 unfold R07_Check at h
 refine sr [(0, { id := 0 })] [1] [0] 1 [Pp 0] [Vb 33 (v_T_api_Event e_1)] hmix an ?_
 refine sq ?_
 refine sq ?_
 refine aw_mid (mk [(1, Pp 0), (15, .bool (decide (e_1.At < (0 : Int)) || decide (e_1.At > (1000000000000 : Int))))] [(0, Vb 33 (v_T_api_Event e_1))] 1) ?_ ?_
 ·rcases bft (decide (e_1.At < (0 : Int))) with gg_1 | gg_1
  ·refine rg [(4, Hg), (5, Hg), (6, Hg), (7, Ht)] [1, 15] [0] 1 [Pp 0, .bool true] [Vb 33 (v_T_api_Event e_1)] hmix (ac gg_1 (ac gg_1 (ac gg_1 (ac gg_1 an)))) ?_
   exact ⟨rfl, (sw [0] [] [.s 1, .a 15 (.bool (decide (e_1.At < (0 : Int)) || decide (e_1.At > (1000000000000 : Int))))] [.s 0] (ac (congrArg AV.bool (ort gg_1) : (.bool true : AV) = .bool (decide (e_1.At < (0 : Int)) || decide (e_1.At > (1000000000000 : Int)))) an))⟩
  ·refine rg [(7, Hf)] [1, 15] [0] 1 [Pp 0, .bool (decide (e_1.At > (1000000000000 : Int)))] [Vb 33 (v_T_api_Event e_1)] hmix (ac gg_1 (ac gg_1 (ac gg_1 (ac gg_1 an)))) ?_
   exact ⟨rfl, (sw [0] [] [.s 1, .a 15 (.bool (decide (e_1.At < (0 : Int)) || decide (e_1.At > (1000000000000 : Int))))] [.s 0] (ac (congrArg AV.bool (orf gg_1 rfl) : (.bool (decide (e_1.At > (1000000000000 : Int))) : AV) = .bool (decide (e_1.At < (0 : Int)) || decide (e_1.At > (1000000000000 : Int)))) an))⟩
 refine cd 15 (decide (e_1.At < (0 : Int)) || decide (e_1.At > (1000000000000 : Int))) ?_ ?_
 ·intro g_1; replace h := cond_t g_1 h
  refine sr [] [2] [] 1 [Ii 2] [] hmix an ?_
  refine rt ?_
  cases h
  exact ⟨.inr rfl, Nat.le_of_ble_eq_true rfl, by kernel_rfl⟩
 intro g_1; replace h := cond_f g_1 h
 refine sk ?_
 refine sq ?_
 refine sq ?_
 refine aw_mid (mk [(1, Pp 0), (23, .bool (decide (e_1.Kind < (1 : Int)) || decide (e_1.Kind > (12 : Int))))] [(0, Vb 33 (v_T_api_Event e_1))] 1) ?_ ?_
 ·rcases bft (decide (e_1.Kind < (1 : Int))) with gg_2 | gg_2
  ·refine rg [(4, Hg), (5, Hg), (6, Hg), (7, Ht)] [1, 23] [0] 1 [Pp 0, .bool true] [Vb 33 (v_T_api_Event e_1)] hmix (ac gg_2 (ac gg_2 (ac gg_2 (ac gg_2 an)))) ?_
   exact ⟨rfl, (sw [0] [] [.s 1, .a 23 (.bool (decide (e_1.Kind < (1 : Int)) || decide (e_1.Kind > (12 : Int))))] [.s 0] (ac (congrArg AV.bool (ort gg_2) : (.bool true : AV) = .bool (decide (e_1.Kind < (1 : Int)) || decide (e_1.Kind > (12 : Int)))) an))⟩
  ·refine rg [(7, Hf)] [1, 23] [0] 1 [Pp 0, .bool (decide (e_1.Kind > (12 : Int)))] [Vb 33 (v_T_api_Event e_1)] hmix (ac gg_2 (ac gg_2 (ac gg_2 (ac gg_2 an)))) ?_
   exact ⟨rfl, (sw [0] [] [.s 1, .a 23 (.bool (decide (e_1.Kind < (1 : Int)) || decide (e_1.Kind > (12 : Int))))] [.s 0] (ac (congrArg AV.bool (orf gg_2 rfl) : (.bool (decide (e_1.Kind > (12 : Int))) : AV) = .bool (decide (e_1.Kind < (1 : Int)) || decide (e_1.Kind > (12 : Int)))) an))⟩
 refine cd 23 (decide (e_1.Kind < (1 : Int)) || decide (e_1.Kind > (12 : Int))) ?_ ?_
 ·intro g_2; replace h := cond_t g_2 h
  refine sr [] [2] [] 1 [Ii 1] [] hmix an ?_
  refine rt ?_
  cases h
  exact ⟨.inr rfl, Nat.le_of_ble_eq_true rfl, by kernel_rfl⟩
 intro g_2; replace h := cond_f g_2 h
 refine sk ?_
 refine sq ?_
 obtain ⟨r_1, h_1, h⟩ := bind_some h
 refine rg [(2, { av := .tuple [.bool r_1.1, .bool r_1.2.1, .bool r_1.2.2.1, .bool r_1.2.2.2], l := [Ii e_1.Kind] })] [1, 3, 4, 5, 6] [0] 1 [Pp 0, .bool r_1.1, .bool r_1.2.1, .bool r_1.2.2.1, .bool r_1.2.2.2] [Vb 33 (v_T_api_Event e_1)] hmix (ar ([Ii e_1.Kind] : List AV) (ac (rfl : ([] : List BoxSt) = []) (ac (R07_uses_ok e_1.Kind r_1 h_1 : TripleG prog 71 [] [] [Ii e_1.Kind] [] (.tuple [.bool r_1.1, .bool r_1.2.1, .bool r_1.2.2.1, .bool r_1.2.2.2])) an))) ?_
 refine sq ?_
 refine sq ?_
 obtain ⟨p_1, h_2, h⟩ := bind_some h
 refine aw_mid (mk [(1, Pp 0), (3, .bool r_1.1), (6, .bool r_1.2.2.2), (66, .bool p_1)] [(0, Vb 33 (v_T_api_Event e_1))] 1) ?_ ?_
 ·replace h := h_2
  rcases bft (!r_1.1) with gg_3 | gg_3
  ·replace h := cond_t gg_3 h
   rcases bft (!(e_1.Name == ([] : List Int))) with gg_4 | gg_4
   ·replace h := cond_t gg_4 h
    refine rg [(6, Ht), (8, Hg), (9, Hg), (10, Hg), (14, Hg), (15, Ht), (17, Hg), (18, Hg), (19, Hg), (23, Hg), (24, Ht), (26, Hg), (27, Hg), (28, Hg), (33, Hg), (34, Ht)] [1, 3, 6, 66] [0] 1 [Pp 0, .bool r_1.1, .bool r_1.2.2.2, .bool true] [Vb 33 (v_T_api_Event e_1)] hmix (ac gg_3 (ac gg_3 (ac gg_3 (ac gg_3 (ac gg_4 (ac gg_4 (ac gg_4 (ac gg_4 (ac gg_4 (ax (ax (ax (ax (ar true (ax (ax (ax (ax (ar true an))))))))))))))))))) ?_
    cases h
    exact ⟨rfl, (sw [0] [] [.s 1, .s 3, .s 6, .s 66] [.s 0] an)⟩
   ·replace h := cond_f gg_4 h
    rcases bft (!r_1.2.1) with gg_5 | gg_5
    ·replace h := cond_t gg_5 h
     rcases bft (e_1.N != (0 : Int)) with gg_6 | gg_6
     ·replace h := cond_t gg_6 h
      refine rg [(6, Ht), (14, Ht), (15, Hf), (17, Hg), (18, Hg), (19, Hg), (23, Hg), (24, Ht), (26, Hg), (27, Hg), (28, Hg), (33, Hg), (34, Ht)] [1, 3, 6, 66] [0] 1 [Pp 0, .bool r_1.1, .bool r_1.2.2.2, .bool true] [Vb 33 (v_T_api_Event e_1)] hmix (ac gg_3 (ac gg_3 (ac gg_3 (ac gg_3 (ac gg_4 (ac gg_4 (ac gg_4 (ac gg_5 (ac gg_5 (ac gg_5 (ac gg_4 (ac gg_5 (ac gg_4 (ac gg_6 (ac gg_6 (ac gg_6 (ac gg_6 (ac gg_6 (ax (ax (ax (ax (ar true an))))))))))))))))))))))) ?_
      cases h
      exact ⟨rfl, (sw [0] [] [.s 1, .s 3, .s 6, .s 66] [.s 0] an)⟩
     ·replace h := cond_f gg_6 h
      rcases bft (!r_1.2.2.1) with gg_7 | gg_7
      ·replace h := cond_t gg_7 h
       rcases bft (e_1.M != (0 : Int)) with gg_8 | gg_8
       ·replace h := cond_t gg_8 h
        refine rg [(6, Ht), (14, Ht), (15, Hf), (23, Ht), (24, Hf), (26, Hg), (27, Hg), (28, Hg), (33, Hg), (34, Ht)] [1, 3, 6, 66] [0] 1 [Pp 0, .bool r_1.1, .bool r_1.2.2.2, .bool true] [Vb 33 (v_T_api_Event e_1)] hmix (ac gg_3 (ac gg_3 (ac gg_3 (ac gg_3 (ac gg_4 (ac gg_4 (ac gg_4 (ac gg_5 (ac gg_5 (ac gg_5 (ac gg_4 (ac gg_5 (ac gg_4 (ac gg_6 (ac gg_6 (ac gg_6 (ac gg_7 (ac gg_7 (ac gg_7 (ac gg_6 (ac gg_7 (ac gg_6 (ac gg_8 (ac gg_8 (ac gg_8 (ac gg_8 (ac gg_8 an))))))))))))))))))))))))))) ?_
        cases h
        exact ⟨rfl, (sw [0] [] [.s 1, .s 3, .s 6, .s 66] [.s 0] an)⟩
       ·replace h := cond_f gg_8 h
        rcases bft (!r_1.2.2.2) with gg_9 | gg_9
        ·replace h := cond_t gg_9 h
         refine rg [(6, Ht), (14, Ht), (15, Hf), (23, Ht), (24, Hf), (31, { n := (e_1.Stack).length }), (33, Ht), (34, Hf)] [1, 3, 6, 66] [0] 1 [Pp 0, .bool r_1.1, .bool r_1.2.2.2, .bool (decide ((lN (e_1.Stack)) > (0 : Int)))] [Vb 33 (v_T_api_Event e_1)] hmix (ac gg_3 (ac gg_3 (ac gg_3 (ac gg_3 (ac gg_4 (ac gg_4 (ac gg_4 (ac gg_5 (ac gg_5 (ac gg_5 (ac gg_4 (ac gg_5 (ac gg_4 (ac gg_6 (ac gg_6 (ac gg_6 (ac gg_7 (ac gg_7 (ac gg_7 (ac gg_6 (ac gg_7 (ac gg_6 (ac gg_8 (ac gg_8 (ac gg_8 (ac gg_9 (ac gg_9 (ac gg_9 (ac (vc_len _ : ((Ms e_1.Stack)).length = (e_1.Stack).length) (ac gg_9 (ac gg_8 (ac gg_9 (ac gg_8 an))))))))))))))))))))))))))))))))) ?_
         cases h
         exact ⟨rfl, (sw [0] [] [.s 1, .s 3, .s 6, .s 66] [.s 0] an)⟩
        ·replace h := cond_f gg_9 h
         refine rg [(6, Ht), (14, Ht), (15, Hf), (23, Ht), (24, Hf), (29, Hg), (30, Hg), (31, Hg), (32, Hg), (33, Hf), (34, Hf)] [1, 3, 6, 66] [0] 1 [Pp 0, .bool r_1.1, .bool r_1.2.2.2, .bool false] [Vb 33 (v_T_api_Event e_1)] hmix (ac gg_3 (ac gg_3 (ac gg_3 (ac gg_3 (ac gg_4 (ac gg_4 (ac gg_4 (ac gg_5 (ac gg_5 (ac gg_5 (ac gg_4 (ac gg_5 (ac gg_4 (ac gg_6 (ac gg_6 (ac gg_6 (ac gg_7 (ac gg_7 (ac gg_7 (ac gg_6 (ac gg_7 (ac gg_6 (ac gg_8 (ac gg_8 (ac gg_8 (ac gg_9 (ac gg_9 (ac gg_9 (ac gg_9 (ac gg_8 (ac gg_9 (ac gg_8 an)))))))))))))))))))))))))))))))) ?_
         cases h
         exact ⟨rfl, (sw [0] [] [.s 1, .s 3, .s 6, .s 66] [.s 0] an)⟩
      ·replace h := cond_f gg_7 h
       rcases bft (!r_1.2.2.2) with gg_10 | gg_10
       ·replace h := cond_t gg_10 h
        refine rg [(6, Ht), (14, Ht), (15, Hf), (20, Hg), (21, Hg), (22, Hg), (23, Hf), (24, Hf), (31, { n := (e_1.Stack).length }), (33, Ht), (34, Hf)] [1, 3, 6, 66] [0] 1 [Pp 0, .bool r_1.1, .bool r_1.2.2.2, .bool (decide ((lN (e_1.Stack)) > (0 : Int)))] [Vb 33 (v_T_api_Event e_1)] hmix (ac gg_3 (ac gg_3 (ac gg_3 (ac gg_3 (ac gg_4 (ac gg_4 (ac gg_4 (ac gg_5 (ac gg_5 (ac gg_5 (ac gg_4 (ac gg_5 (ac gg_4 (ac gg_6 (ac gg_6 (ac gg_6 (ac gg_7 (ac gg_7 (ac gg_7 (ac gg_6 (ac gg_7 (ac gg_6 (ar false (ar false (ar false (ac gg_10 (ac gg_10 (ac gg_10 (ac (vc_len _ : ((Ms e_1.Stack)).length = (e_1.Stack).length) (ac gg_10 (ar false (ac gg_10 (ar false an))))))))))))))))))))))))))))))))) ?_
        cases h
        exact ⟨rfl, (sw [0] [] [.s 1, .s 3, .s 6, .s 66] [.s 0] an)⟩
       ·replace h := cond_f gg_10 h
        refine rg [(6, Ht), (14, Ht), (15, Hf), (20, Hg), (21, Hg), (22, Hg), (23, Hf), (24, Hf), (29, Hg), (30, Hg), (31, Hg), (32, Hg), (33, Hf), (34, Hf)] [1, 3, 6, 66] [0] 1 [Pp 0, .bool r_1.1, .bool r_1.2.2.2, .bool false] [Vb 33 (v_T_api_Event e_1)] hmix (ac gg_3 (ac gg_3 (ac gg_3 (ac gg_3 (ac gg_4 (ac gg_4 (ac gg_4 (ac gg_5 (ac gg_5 (ac gg_5 (ac gg_4 (ac gg_5 (ac gg_4 (ac gg_6 (ac gg_6 (ac gg_6 (ac gg_7 (ac gg_7 (ac gg_7 (ac gg_6 (ac gg_7 (ac gg_6 (ar false (ar false (ar false (ac gg_10 (ac gg_10 (ac gg_10 (ac gg_10 (ar false (ac gg_10 (ar false an)))))))))))))))))))))))))))))))) ?_
        cases h
        exact ⟨rfl, (sw [0] [] [.s 1, .s 3, .s 6, .s 66] [.s 0] an)⟩
    ·replace h := cond_f gg_5 h
     rcases bft (!r_1.2.2.1) with gg_11 | gg_11
     ·replace h := cond_t gg_11 h
      rcases bft (e_1.M != (0 : Int)) with gg_12 | gg_12
      ·replace h := cond_t gg_12 h
       refine rg [(6, Ht), (11, Hg), (12, Hg), (13, Hg), (14, Hf), (15, Hf), (23, Ht), (24, Hf), (26, Hg), (27, Hg), (28, Hg), (33, Hg), (34, Ht)] [1, 3, 6, 66] [0] 1 [Pp 0, .bool r_1.1, .bool r_1.2.2.2, .bool true] [Vb 33 (v_T_api_Event e_1)] hmix (ac gg_3 (ac gg_3 (ac gg_3 (ac gg_3 (ac gg_4 (ac gg_4 (ac gg_4 (ac gg_5 (ac gg_5 (ac gg_5 (ac gg_4 (ac gg_5 (ac gg_4 (ar false (ar false (ar false (ac gg_11 (ac gg_11 (ac gg_11 (ar false (ac gg_11 (ar false (ac gg_12 (ac gg_12 (ac gg_12 (ac gg_12 (ac gg_12 an))))))))))))))))))))))))))) ?_
       cases h
       exact ⟨rfl, (sw [0] [] [.s 1, .s 3, .s 6, .s 66] [.s 0] an)⟩
      ·replace h := cond_f gg_12 h
       rcases bft (!r_1.2.2.2) with gg_13 | gg_13
       ·replace h := cond_t gg_13 h
        refine rg [(6, Ht), (11, Hg), (12, Hg), (13, Hg), (14, Hf), (15, Hf), (23, Ht), (24, Hf), (31, { n := (e_1.Stack).length }), (33, Ht), (34, Hf)] [1, 3, 6, 66] [0] 1 [Pp 0, .bool r_1.1, .bool r_1.2.2.2, .bool (decide ((lN (e_1.Stack)) > (0 : Int)))] [Vb 33 (v_T_api_Event e_1)] hmix (ac gg_3 (ac gg_3 (ac gg_3 (ac gg_3 (ac gg_4 (ac gg_4 (ac gg_4 (ac gg_5 (ac gg_5 (ac gg_5 (ac gg_4 (ac gg_5 (ac gg_4 (ar false (ar false (ar false (ac gg_11 (ac gg_11 (ac gg_11 (ar false (ac gg_11 (ar false (ac gg_12 (ac gg_12 (ac gg_12 (ac gg_13 (ac gg_13 (ac gg_13 (ac (vc_len _ : ((Ms e_1.Stack)).length = (e_1.Stack).length) (ac gg_13 (ac gg_12 (ac gg_13 (ac gg_12 an))))))))))))))))))))))))))))))))) ?_
        cases h
        exact ⟨rfl, (sw [0] [] [.s 1, .s 3, .s 6, .s 66] [.s 0] an)⟩
       ·replace h := cond_f gg_13 h
        refine rg [(6, Ht), (11, Hg), (12, Hg), (13, Hg), (14, Hf), (15, Hf), (23, Ht), (24, Hf), (29, Hg), (30, Hg), (31, Hg), (32, Hg), (33, Hf), (34, Hf)] [1, 3, 6, 66] [0] 1 [Pp 0, .bool r_1.1, .bool r_1.2.2.2, .bool false] [Vb 33 (v_T_api_Event e_1)] hmix (ac gg_3 (ac gg_3 (ac gg_3 (ac gg_3 (ac gg_4 (ac gg_4 (ac gg_4 (ac gg_5 (ac gg_5 (ac gg_5 (ac gg_4 (ac gg_5 (ac gg_4 (ar false (ar false (ar false (ac gg_11 (ac gg_11 (ac gg_11 (ar false (ac gg_11 (ar false (ac gg_12 (ac gg_12 (ac gg_12 (ac gg_13 (ac gg_13 (ac gg_13 (ac gg_13 (ac gg_12 (ac gg_13 (ac gg_12 an)))))))))))))))))))))))))))))))) ?_
        cases h
        exact ⟨rfl, (sw [0] [] [.s 1, .s 3, .s 6, .s 66] [.s 0] an)⟩
     ·replace h := cond_f gg_11 h
      rcases bft (!r_1.2.2.2) with gg_14 | gg_14
      ·replace h := cond_t gg_14 h
       refine rg [(6, Ht), (11, Hg), (12, Hg), (13, Hg), (14, Hf), (15, Hf), (20, Hg), (21, Hg), (22, Hg), (23, Hf), (24, Hf), (31, { n := (e_1.Stack).length }), (33, Ht), (34, Hf)] [1, 3, 6, 66] [0] 1 [Pp 0, .bool r_1.1, .bool r_1.2.2.2, .bool (decide ((lN (e_1.Stack)) > (0 : Int)))] [Vb 33 (v_T_api_Event e_1)] hmix (ac gg_3 (ac gg_3 (ac gg_3 (ac gg_3 (ac gg_4 (ac gg_4 (ac gg_4 (ac gg_5 (ac gg_5 (ac gg_5 (ac gg_4 (ac gg_5 (ac gg_4 (ar false (ar false (ar false (ac gg_11 (ac gg_11 (ac gg_11 (ar false (ac gg_11 (ar false (ar false (ar false (ar false (ac gg_14 (ac gg_14 (ac gg_14 (ac (vc_len _ : ((Ms e_1.Stack)).length = (e_1.Stack).length) (ac gg_14 (ar false (ac gg_14 (ar false an))))))))))))))))))))))))))))))))) ?_
       cases h
       exact ⟨rfl, (sw [0] [] [.s 1, .s 3, .s 6, .s 66] [.s 0] an)⟩
      ·replace h := cond_f gg_14 h
       refine rg [(6, Ht), (11, Hg), (12, Hg), (13, Hg), (14, Hf), (15, Hf), (20, Hg), (21, Hg), (22, Hg), (23, Hf), (24, Hf), (29, Hg), (30, Hg), (31, Hg), (32, Hg), (33, Hf), (34, Hf)] [1, 3, 6, 66] [0] 1 [Pp 0, .bool r_1.1, .bool r_1.2.2.2, .bool false] [Vb 33 (v_T_api_Event e_1)] hmix (ac gg_3 (ac gg_3 (ac gg_3 (ac gg_3 (ac gg_4 (ac gg_4 (ac gg_4 (ac gg_5 (ac gg_5 (ac gg_5 (ac gg_4 (ac gg_5 (ac gg_4 (ar false (ar false (ar false (ac gg_11 (ac gg_11 (ac gg_11 (ar false (ac gg_11 (ar false (ar false (ar false (ar false (ac gg_14 (ac gg_14 (ac gg_14 (ac gg_14 (ar false (ac gg_14 (ar false an)))))))))))))))))))))))))))))))) ?_
       cases h
       exact ⟨rfl, (sw [0] [] [.s 1, .s 3, .s 6, .s 66] [.s 0] an)⟩
  ·replace h := cond_f gg_3 h
   rcases bft (!r_1.2.1) with gg_15 | gg_15
   ·replace h := cond_t gg_15 h
    rcases bft (e_1.N != (0 : Int)) with gg_16 | gg_16
    ·replace h := cond_t gg_16 h
     refine rg [(3, Hg), (4, Hg), (5, Hg), (6, Hf), (14, Ht), (15, Hf), (17, Hg), (18, Hg), (19, Hg), (23, Hg), (24, Ht), (26, Hg), (27, Hg), (28, Hg), (33, Hg), (34, Ht)] [1, 3, 6, 66] [0] 1 [Pp 0, .bool r_1.1, .bool r_1.2.2.2, .bool true] [Vb 33 (v_T_api_Event e_1)] hmix (ac gg_3 (ac gg_3 (ac gg_3 (ac gg_3 (ar false (ar false (ar false (ac gg_15 (ac gg_15 (ac gg_15 (ar false (ac gg_15 (ar false (ac gg_16 (ac gg_16 (ac gg_16 (ac gg_16 (ac gg_16 (ax (ax (ax (ax (ar true an))))))))))))))))))))))) ?_
     cases h
     exact ⟨rfl, (sw [0] [] [.s 1, .s 3, .s 6, .s 66] [.s 0] an)⟩
    ·replace h := cond_f gg_16 h
     rcases bft (!r_1.2.2.1) with gg_17 | gg_17
     ·replace h := cond_t gg_17 h
      rcases bft (e_1.M != (0 : Int)) with gg_18 | gg_18
      ·replace h := cond_t gg_18 h
       refine rg [(3, Hg), (4, Hg), (5, Hg), (6, Hf), (14, Ht), (15, Hf), (23, Ht), (24, Hf), (26, Hg), (27, Hg), (28, Hg), (33, Hg), (34, Ht)] [1, 3, 6, 66] [0] 1 [Pp 0, .bool r_1.1, .bool r_1.2.2.2, .bool true] [Vb 33 (v_T_api_Event e_1)] hmix (ac gg_3 (ac gg_3 (ac gg_3 (ac gg_3 (ar false (ar false (ar false (ac gg_15 (ac gg_15 (ac gg_15 (ar false (ac gg_15 (ar false (ac gg_16 (ac gg_16 (ac gg_16 (ac gg_17 (ac gg_17 (ac gg_17 (ac gg_16 (ac gg_17 (ac gg_16 (ac gg_18 (ac gg_18 (ac gg_18 (ac gg_18 (ac gg_18 an))))))))))))))))))))))))))) ?_
       cases h
       exact ⟨rfl, (sw [0] [] [.s 1, .s 3, .s 6, .s 66] [.s 0] an)⟩
      ·replace h := cond_f gg_18 h
       rcases bft (!r_1.2.2.2) with gg_19 | gg_19
       ·replace h := cond_t gg_19 h
        refine rg [(3, Hg), (4, Hg), (5, Hg), (6, Hf), (14, Ht), (15, Hf), (23, Ht), (24, Hf), (31, { n := (e_1.Stack).length }), (33, Ht), (34, Hf)] [1, 3, 6, 66] [0] 1 [Pp 0, .bool r_1.1, .bool r_1.2.2.2, .bool (decide ((lN (e_1.Stack)) > (0 : Int)))] [Vb 33 (v_T_api_Event e_1)] hmix (ac gg_3 (ac gg_3 (ac gg_3 (ac gg_3 (ar false (ar false (ar false (ac gg_15 (ac gg_15 (ac gg_15 (ar false (ac gg_15 (ar false (ac gg_16 (ac gg_16 (ac gg_16 (ac gg_17 (ac gg_17 (ac gg_17 (ac gg_16 (ac gg_17 (ac gg_16 (ac gg_18 (ac gg_18 (ac gg_18 (ac gg_19 (ac gg_19 (ac gg_19 (ac (vc_len _ : ((Ms e_1.Stack)).length = (e_1.Stack).length) (ac gg_19 (ac gg_18 (ac gg_19 (ac gg_18 an))))))))))))))))))))))))))))))))) ?_
        cases h
        exact ⟨rfl, (sw [0] [] [.s 1, .s 3, .s 6, .s 66] [.s 0] an)⟩
       ·replace h := cond_f gg_19 h
        refine rg [(3, Hg), (4, Hg), (5, Hg), (6, Hf), (14, Ht), (15, Hf), (23, Ht), (24, Hf), (29, Hg), (30, Hg), (31, Hg), (32, Hg), (33, Hf), (34, Hf)] [1, 3, 6, 66] [0] 1 [Pp 0, .bool r_1.1, .bool r_1.2.2.2, .bool false] [Vb 33 (v_T_api_Event e_1)] hmix (ac gg_3 (ac gg_3 (ac gg_3 (ac gg_3 (ar false (ar false (ar false (ac gg_15 (ac gg_15 (ac gg_15 (ar false (ac gg_15 (ar false (ac gg_16 (ac gg_16 (ac gg_16 (ac gg_17 (ac gg_17 (ac gg_17 (ac gg_16 (ac gg_17 (ac gg_16 (ac gg_18 (ac gg_18 (ac gg_18 (ac gg_19 (ac gg_19 (ac gg_19 (ac gg_19 (ac gg_18 (ac gg_19 (ac gg_18 an)))))))))))))))))))))))))))))))) ?_
        cases h
        exact ⟨rfl, (sw [0] [] [.s 1, .s 3, .s 6, .s 66] [.s 0] an)⟩
     ·replace h := cond_f gg_17 h
      rcases bft (!r_1.2.2.2) with gg_20 | gg_20
      ·replace h := cond_t gg_20 h
       refine rg [(3, Hg), (4, Hg), (5, Hg), (6, Hf), (14, Ht), (15, Hf), (20, Hg), (21, Hg), (22, Hg), (23, Hf), (24, Hf), (31, { n := (e_1.Stack).length }), (33, Ht), (34, Hf)] [1, 3, 6, 66] [0] 1 [Pp 0, .bool r_1.1, .bool r_1.2.2.2, .bool (decide ((lN (e_1.Stack)) > (0 : Int)))] [Vb 33 (v_T_api_Event e_1)] hmix (ac gg_3 (ac gg_3 (ac gg_3 (ac gg_3 (ar false (ar false (ar false (ac gg_15 (ac gg_15 (ac gg_15 (ar false (ac gg_15 (ar false (ac gg_16 (ac gg_16 (ac gg_16 (ac gg_17 (ac gg_17 (ac gg_17 (ac gg_16 (ac gg_17 (ac gg_16 (ar false (ar false (ar false (ac gg_20 (ac gg_20 (ac gg_20 (ac (vc_len _ : ((Ms e_1.Stack)).length = (e_1.Stack).length) (ac gg_20 (ar false (ac gg_20 (ar false an))))))))))))))))))))))))))))))))) ?_
       cases h
       exact ⟨rfl, (sw [0] [] [.s 1, .s 3, .s 6, .s 66] [.s 0] an)⟩
      ·replace h := cond_f gg_20 h
       refine rg [(3, Hg), (4, Hg), (5, Hg), (6, Hf), (14, Ht), (15, Hf), (20, Hg), (21, Hg), (22, Hg), (23, Hf), (24, Hf), (29, Hg), (30, Hg), (31, Hg), (32, Hg), (33, Hf), (34, Hf)] [1, 3, 6, 66] [0] 1 [Pp 0, .bool r_1.1, .bool r_1.2.2.2, .bool false] [Vb 33 (v_T_api_Event e_1)] hmix (ac gg_3 (ac gg_3 (ac gg_3 (ac gg_3 (ar false (ar false (ar false (ac gg_15 (ac gg_15 (ac gg_15 (ar false (ac gg_15 (ar false (ac gg_16 (ac gg_16 (ac gg_16 (ac gg_17 (ac gg_17 (ac gg_17 (ac gg_16 (ac gg_17 (ac gg_16 (ar false (ar false (ar false (ac gg_20 (ac gg_20 (ac gg_20 (ac gg_20 (ar false (ac gg_20 (ar false an)))))))))))))))))))))))))))))))) ?_
       cases h
       exact ⟨rfl, (sw [0] [] [.s 1, .s 3, .s 6, .s 66] [.s 0] an)⟩
   ·replace h := cond_f gg_15 h
    rcases bft (!r_1.2.2.1) with gg_21 | gg_21
    ·replace h := cond_t gg_21 h
     rcases bft (e_1.M != (0 : Int)) with gg_22 | gg_22
     ·replace h := cond_t gg_22 h
      refine rg [(3, Hg), (4, Hg), (5, Hg), (6, Hf), (11, Hg), (12, Hg), (13, Hg), (14, Hf), (15, Hf), (23, Ht), (24, Hf), (26, Hg), (27, Hg), (28, Hg), (33, Hg), (34, Ht)] [1, 3, 6, 66] [0] 1 [Pp 0, .bool r_1.1, .bool r_1.2.2.2, .bool true] [Vb 33 (v_T_api_Event e_1)] hmix (ac gg_3 (ac gg_3 (ac gg_3 (ac gg_3 (ar false (ar false (ar false (ac gg_15 (ac gg_15 (ac gg_15 (ar false (ac gg_15 (ar false (ar false (ar false (ar false (ac gg_21 (ac gg_21 (ac gg_21 (ar false (ac gg_21 (ar false (ac gg_22 (ac gg_22 (ac gg_22 (ac gg_22 (ac gg_22 an))))))))))))))))))))))))))) ?_
      cases h
      exact ⟨rfl, (sw [0] [] [.s 1, .s 3, .s 6, .s 66] [.s 0] an)⟩
     ·replace h := cond_f gg_22 h
      rcases bft (!r_1.2.2.2) with gg_23 | gg_23
      ·replace h := cond_t gg_23 h
       refine rg [(3, Hg), (4, Hg), (5, Hg), (6, Hf), (11, Hg), (12, Hg), (13, Hg), (14, Hf), (15, Hf), (23, Ht), (24, Hf), (31, { n := (e_1.Stack).length }), (33, Ht), (34, Hf)] [1, 3, 6, 66] [0] 1 [Pp 0, .bool r_1.1, .bool r_1.2.2.2, .bool (decide ((lN (e_1.Stack)) > (0 : Int)))] [Vb 33 (v_T_api_Event e_1)] hmix (ac gg_3 (ac gg_3 (ac gg_3 (ac gg_3 (ar false (ar false (ar false (ac gg_15 (ac gg_15 (ac gg_15 (ar false (ac gg_15 (ar false (ar false (ar false (ar false (ac gg_21 (ac gg_21 (ac gg_21 (ar false (ac gg_21 (ar false (ac gg_22 (ac gg_22 (ac gg_22 (ac gg_23 (ac gg_23 (ac gg_23 (ac (vc_len _ : ((Ms e_1.Stack)).length = (e_1.Stack).length) (ac gg_23 (ac gg_22 (ac gg_23 (ac gg_22 an))))))))))))))))))))))))))))))))) ?_
       cases h
       exact ⟨rfl, (sw [0] [] [.s 1, .s 3, .s 6, .s 66] [.s 0] an)⟩
      ·replace h := cond_f gg_23 h
       refine rg [(3, Hg), (4, Hg), (5, Hg), (6, Hf), (11, Hg), (12, Hg), (13, Hg), (14, Hf), (15, Hf), (23, Ht), (24, Hf), (29, Hg), (30, Hg), (31, Hg), (32, Hg), (33, Hf), (34, Hf)] [1, 3, 6, 66] [0] 1 [Pp 0, .bool r_1.1, .bool r_1.2.2.2, .bool false] [Vb 33 (v_T_api_Event e_1)] hmix (ac gg_3 (ac gg_3 (ac gg_3 (ac gg_3 (ar false (ar false (ar false (ac gg_15 (ac gg_15 (ac gg_15 (ar false (ac gg_15 (ar false (ar false (ar false (ar false (ac gg_21 (ac gg_21 (ac gg_21 (ar false (ac gg_21 (ar false (ac gg_22 (ac gg_22 (ac gg_22 (ac gg_23 (ac gg_23 (ac gg_23 (ac gg_23 (ac gg_22 (ac gg_23 (ac gg_22 an)))))))))))))))))))))))))))))))) ?_
       cases h
       exact ⟨rfl, (sw [0] [] [.s 1, .s 3, .s 6, .s 66] [.s 0] an)⟩
    ·replace h := cond_f gg_21 h
     rcases bft (!r_1.2.2.2) with gg_24 | gg_24
     ·replace h := cond_t gg_24 h
      refine rg [(3, Hg), (4, Hg), (5, Hg), (6, Hf), (11, Hg), (12, Hg), (13, Hg), (14, Hf), (15, Hf), (20, Hg), (21, Hg), (22, Hg), (23, Hf), (24, Hf), (31, { n := (e_1.Stack).length }), (33, Ht), (34, Hf)] [1, 3, 6, 66] [0] 1 [Pp 0, .bool r_1.1, .bool r_1.2.2.2, .bool (decide ((lN (e_1.Stack)) > (0 : Int)))] [Vb 33 (v_T_api_Event e_1)] hmix (ac gg_3 (ac gg_3 (ac gg_3 (ac gg_3 (ar false (ar false (ar false (ac gg_15 (ac gg_15 (ac gg_15 (ar false (ac gg_15 (ar false (ar false (ar false (ar false (ac gg_21 (ac gg_21 (ac gg_21 (ar false (ac gg_21 (ar false (ar false (ar false (ar false (ac gg_24 (ac gg_24 (ac gg_24 (ac (vc_len _ : ((Ms e_1.Stack)).length = (e_1.Stack).length) (ac gg_24 (ar false (ac gg_24 (ar false an))))))))))))))))))))))))))))))))) ?_
      cases h
      exact ⟨rfl, (sw [0] [] [.s 1, .s 3, .s 6, .s 66] [.s 0] an)⟩
     ·replace h := cond_f gg_24 h
      refine rg [(3, Hg), (4, Hg), (5, Hg), (6, Hf), (11, Hg), (12, Hg), (13, Hg), (14, Hf), (15, Hf), (20, Hg), (21, Hg), (22, Hg), (23, Hf), (24, Hf), (29, Hg), (30, Hg), (31, Hg), (32, Hg), (33, Hf), (34, Hf)] [1, 3, 6, 66] [0] 1 [Pp 0, .bool r_1.1, .bool r_1.2.2.2, .bool false] [Vb 33 (v_T_api_Event e_1)] hmix (ac gg_3 (ac gg_3 (ac gg_3 (ac gg_3 (ar false (ar false (ar false (ac gg_15 (ac gg_15 (ac gg_15 (ar false (ac gg_15 (ar false (ar false (ar false (ar false (ac gg_21 (ac gg_21 (ac gg_21 (ar false (ac gg_21 (ar false (ar false (ar false (ar false (ac gg_24 (ac gg_24 (ac gg_24 (ac gg_24 (ar false (ac gg_24 (ar false an)))))))))))))))))))))))))))))))) ?_
      cases h
      exact ⟨rfl, (sw [0] [] [.s 1, .s 3, .s 6, .s 66] [.s 0] an)⟩
 refine cd 66 p_1 ?_ ?_
 ·intro g_3; replace h := cond_t g_3 h
  refine sr [] [2] [] 1 [Ii 1] [] hmix an ?_
  refine rt ?_
  cases h
  exact ⟨.inr rfl, Nat.le_of_ble_eq_true rfl, by kernel_rfl⟩
 intro g_3; replace h := cond_f g_3 h
 refine sk ?_
 refine sr [] [1, 3, 6, 7] [0] 1 [Pp 0, .bool r_1.1, .bool r_1.2.2.2, Ii 0] [Vb 33 (v_T_api_Event e_1)] hmix an ?_
 refine sq ?_
 refine sr [] [1, 6, 7, 67] [0] 1 [Pp 0, .bool r_1.2.2.2, Ii 0, .bool r_1.1] [Vb 33 (v_T_api_Event e_1)] hmix an ?_
 obtain ⟨o_1, h_3, h⟩ := bind_some h
 refine aw_mid (mk [(1, Pp 0), (6, .bool r_1.2.2.2), (7, Ii o_1)] [(0, Vb 33 (v_T_api_Event e_1))] 1) ?_ ?_
 ·replace h := h_3
  refine cd 67 r_1.1 ?_ ?_
  rotate_left
  ·intro g_4; replace h := cond_f g_4 h
   refine sk ?_
   cases h
   exact ⟨rfl, (sw [0] [] [.s 1, .s 6, .s 7] [.s 0] an)⟩
  intro g_4; replace h := cond_t g_4 h
  obtain ⟨r_2, h_4, h⟩ := bind_some h
  refine rg [(2, { av := Ii r_2, l := [.str e_1.Name] })] [1, 6, 7] [0] 1 [Pp 0, .bool r_1.2.2.2, Ii r_2] [Vb 33 (v_T_api_Event e_1)] hmix (ar ([.str e_1.Name] : List AV) (ac (rfl : ([] : List BoxSt) = []) (ac (R06_Name_ok F e_1.Name r_2 h_4 : TripleG prog 72 [] [] [.str e_1.Name] [] (Ii r_2)) an))) ?_
  cases h
  exact ⟨rfl, (sw [0] [] [.s 1, .s 6, .s 7] [.s 0] an)⟩
 refine sq ?_
 refine sr [] [1, 7, 71] [0] 1 [Pp 0, Ii o_1, .bool r_1.2.2.2] [Vb 33 (v_T_api_Event e_1)] hmix an ?_
 obtain ⟨o_2, h_5, h⟩ := bind_some h
 refine aw_mid (mk [(1, Pp 0), (7, Ii o_2)] [(0, Vb 33 (v_T_api_Event e_1))] 1) ?_ ?_
 ·replace h := h_5
  refine cd 71 r_1.2.2.2 ?_ ?_
  rotate_left
  ·intro g_5; replace h := cond_f g_5 h
   refine sk ?_
   cases h
   exact ⟨rfl, (sw [0] [] [.s 1, .s 7] [.s 0] an)⟩
  intro g_5; replace h := cond_t g_5 h
  obtain ⟨r_3, h_6, h⟩ := bind_some h
  refine rg [(2, { av := Ii r_3, l := [.sl false 1 (Ms e_1.Stack)] })] [1, 7] [0] 1 [Pp 0, Ii r_3] [Vb 33 (v_T_api_Event e_1)] hmix (ar ([.sl false 1 (Ms e_1.Stack)] : List AV) (ac (rfl : ([] : List BoxSt) = []) (ac (R06_Frames_ok F e_1.Stack r_3 h_6 : TripleG prog 73 [] [] [.sl false 1 (Ms e_1.Stack)] [] (Ii r_3)) an))) ?_
  cases h
  exact ⟨rfl, (sw [0] [] [.s 1, .s 7] [.s 0] an)⟩
 refine sq ?_
 refine sr [] [1, 7, 76] [0] 1 [Pp 0, Ii o_2, .bool (o_2 != (0 : Int))] [Vb 33 (v_T_api_Event e_1)] hmix an ?_
 refine cd 76 (o_2 != (0 : Int)) ?_ ?_
 ·intro g_6; replace h := cond_t g_6 h
  refine sr [] [2] [] 1 [Ii o_2] [] hmix an ?_
  refine rt ?_
  cases h
  exact ⟨.inr rfl, Nat.le_of_ble_eq_true rfl, by kernel_rfl⟩
 intro g_6; replace h := cond_f g_6 h
 refine sk ?_
 refine sq ?_
 obtain ⟨r_4, h_7, h⟩ := bind_some h
 refine rg [(1, { av := Ii r_4, l := [e_T_api_Event e_1] })] [2] [] 1 [Ii r_4] [] hmix (ar ([e_T_api_Event e_1] : List AV) (ac (rfl : ([] : List BoxSt) = []) (ac (R07_numbers_ok e_1 r_4 h_7 : TripleG prog 74 [] [] [e_T_api_Event e_1] [] (Ii r_4)) an))) ?_
 refine rt ?_
 cases h
 exact ⟨.inr rfl, Nat.le_of_ble_eq_true rfl, by kernel_rfl⟩

theorem R07_CheckAll_ok (F : Nat) (l_1 : List (T_api_Event)) (r : Int) (h : R07_CheckAll F l_1 = some r) : TripleG prog 25 [] [] [.sl false 6 (Mp e_T_api_Event l_1)] [] (Ii r) := by
 refine triple_intro (fn := Go.Proofs.Try.f25) (code := codeOf Go.Proofs.Try.f25) (by kernel_rfl) (by kernel_rfl) (Nat.le_of_ble_eq_true (by kernel_rfl)) ?_
 unfold R07_CheckAll at h
 refine sr [] [0] [] 0 [.sl false 6 (Mp e_T_api_Event l_1)] [] hmix an ?_
 refine sq ?_
 refine sr [] [0, 3] [] 0 [.sl false 6 (Mp e_T_api_Event l_1), Ii 0] [] hmix an ?_
 obtain ⟨o_1, h_1, h⟩ := bind_some h
 refine aw_conv (K1 := (fun e st' => match o_1 with | (.inl q0) => e = .normal ∧ Sub 0 st' (mk [] [] 0) | (.inr q1) => e = .ret ∧ FinR prog Go.Proofs.Try.f25 0 [] (Ii q1) st')) ?_ ?_
 ·replace h := h_1
  refine aw_block (id := 0) (by kernel_rfl) ?_
  refine wk [] [] [.s 0, .s 3] [] [(0, .sl false 6 (Mp e_T_api_Event l_1)), (3, Ii 0)] [] an ?_
  refine aw_loopF (fun n st => ∃ (i_1 : Int), st = mk [(0, .sl false 6 (Mp e_T_api_Event l_1)), (3, Ii i_1)] [] 0 ∧ R07_CheckAll_L1 F l_1 n i_1 = some o_1) F (by kernel_rfl) ⟨_, rfl, h⟩ ?_ ?_
  ·rintro _ ⟨_, _, h⟩; exact none_ne (h : (none : Option (Unit ⊕ Int)) = some o_1)
  rintro n_1 _ ⟨i_1, rfl, h⟩
  replace h : R07_CheckAll_L1_body F l_1 (R07_CheckAll_L1 F l_1 n_1) i_1 = some o_1 := h
  unfold R07_CheckAll_L1_body at h
  refine sq ?_
  refine sr [(2, { n := (l_1).length })] [0, 3, 8] [] 0 [.sl false 6 (Mp e_T_api_Event l_1), Ii i_1, .bool (decide (i_1 < (lN (l_1))))] [] hmix (ac (vc_len _ : ((Mp e_T_api_Event l_1)).length = (l_1).length) an) ?_
  refine cd 8 (decide (i_1 < (lN (l_1)))) ?_ ?_
  rotate_left
  ·intro g_1; replace h := cond_f g_1 h
   refine aw_exit (id := 0) (by kernel_rfl) ?_
   cases h
   exact ⟨rfl, (sw [] [] [] [] an)⟩
  intro g_1; replace h := cond_t g_1 h
  refine sk ?_
  refine sq ?_
  refine aw_block (id := 1) (by kernel_rfl) ?_
  refine sq ?_
  obtain ⟨x_1, h_2, h⟩ := bind_some h
  obtain ⟨r_1, h_3, h⟩ := bind_some h
  refine rg [(2, { av := e_T_api_Event x_1 }), (4, { av := Ii r_1, l := [e_T_api_Event x_1] })] [0, 3, 4] [] 0 [.sl false 6 (Mp e_T_api_Event l_1), Ii i_1, Ii r_1] [] hmix (ac (vc_idx h_2 : idxA (Mp e_T_api_Event l_1) i_1 = some (e_T_api_Event x_1)) (ar ([e_T_api_Event x_1] : List AV) (ac (rfl : ([] : List BoxSt) = []) (ac (R07_Check_ok F x_1 r_1 h_3 : TripleG prog 47 [] [] [e_T_api_Event x_1] [] (Ii r_1)) an)))) ?_
  refine sq ?_
  refine sr [] [0, 3, 4, 17] [] 0 [.sl false 6 (Mp e_T_api_Event l_1), Ii i_1, Ii r_1, .bool (r_1 != (0 : Int))] [] hmix an ?_
  refine cd 17 (r_1 != (0 : Int)) ?_ ?_
  ·intro g_2; replace h := cond_t g_2 h
   refine sr [] [2] [] 0 [Ii r_1] [] hmix an ?_
   refine rt ?_
   cases h
   exact ⟨rfl, Nat.le_of_ble_eq_true rfl, by kernel_rfl⟩
  intro g_2; replace h := cond_f g_2 h
  refine sk ?_
  refine sq ?_
  obtain ⟨p_1, h_6, h⟩ := bind_some h
  refine aw_mid (mk [(0, .sl false 6 (Mp e_T_api_Event l_1)), (3, Ii i_1), (34, .bool p_1)] [] 0) ?_ ?_
  ·replace h := h_6
   rcases bft (decide (i_1 > (0 : Int))) with gg_4 | gg_4
   ·replace h := cond_t gg_4 h
    obtain ⟨x_2, h_4, h⟩ := bind_some h
    obtain ⟨x_3, h_5, h⟩ := bind_some h
    refine rg [(5, { av := e_T_api_Event x_2 }), (11, { av := e_T_api_Event x_3 }), (15, Ht)] [0, 3, 22, 23, 24, 25, 26, 27, 28, 29, 30, 31, 32, 33, 34] [] 0 [.sl false 6 (Mp e_T_api_Event l_1), Ii i_1, .sl false 6 (Mp e_T_api_Event l_1), Ii i_1, .ref (e_T_api_Event x_2), .ref (Ii x_2.At), Ii x_2.At, .sl false 6 (Mp e_T_api_Event l_1), Ii i_1, Ii (w_i64 (i_1 - (1 : Int))), .ref (e_T_api_Event x_3), .ref (Ii x_3.At), Ii x_3.At, .bool (decide (x_2.At < x_3.At)), .bool (decide (x_2.At < x_3.At))] [] hmix (ac gg_4 (ac gg_4 (ac gg_4 (ac (vc_idx h_4 : idxA (Mp e_T_api_Event l_1) i_1 = some (e_T_api_Event x_2)) (ac gg_4 (ac gg_4 (ac gg_4 (ac gg_4 (ac gg_4 (ac gg_4 (ac (vc_idx h_5 : idxA (Mp e_T_api_Event l_1) (w_i64 (i_1 - (1 : Int))) = some (e_T_api_Event x_3)) (ac gg_4 (ac gg_4 (ac gg_4 (ac gg_4 an))))))))))))))) ?_
    cases h
    exact ⟨rfl, (sw [] [] [.s 0, .s 3, .s 34] [] an)⟩
   ·replace h := cond_f gg_4 h
    refine rg [(3, Hg), (4, Hg), (5, Hg), (6, Hg), (7, Hg), (8, Hg), (9, Hg), (10, Hg), (11, Hg), (12, Hg), (13, Hg), (14, Hg), (15, Hf)] [0, 3, 22, 23, 24, 25, 26, 27, 28, 29, 30, 31, 32, 33, 34] [] 0 [.sl false 6 (Mp e_T_api_Event l_1), Ii i_1, .tuple [], .tuple [], .tuple [], .tuple [], .tuple [], .tuple [], .tuple [], .tuple [], .tuple [], .tuple [], .tuple [], .tuple [], .bool false] [] hmix (ac gg_4 (ac gg_4 (ac gg_4 (ac gg_4 (ac gg_4 (ac gg_4 (ac gg_4 (ac gg_4 (ac gg_4 (ac gg_4 (ac gg_4 (ac gg_4 (ac gg_4 an))))))))))))) ?_
    cases h
    exact ⟨rfl, (sw [] [] [.s 0, .s 3, .s 34] [] an)⟩
  refine cd 34 p_1 ?_ ?_
  rotate_left
  ·intro g_3; replace h := cond_f g_3 h
   refine sk ?_
   refine rg [] [0, 3] [] 0 [.sl false 6 (Mp e_T_api_Event l_1), Ii (w_i64 (i_1 + (1 : Int)))] [] hmix an ?_
   exact ⟨_, (sw [] [] [.s 0, .s 3] [] an), _, rfl, h⟩
  intro g_3; replace h := cond_t g_3 h
  refine sr [] [2] [] 0 [Ii 11] [] hmix an ?_
  refine rt ?_
  cases h
  exact ⟨rfl, Nat.le_of_ble_eq_true rfl, by kernel_rfl⟩
 intro e st1 hk
 rcases o_1 with q_1 | q_2
 rotate_left
 ·obtain ⟨rfl, hf⟩ := hk
  cases h
  exact ⟨st1, Sub.refl _ _, .inr rfl, hf⟩
 obtain ⟨rfl, hs⟩ := hk
 refine ⟨_, hs, ?_⟩
 refine sr [] [2] [] 0 [Ii 0] [] hmix an ?_
 refine rt ?_
 cases h
 exact ⟨.inr rfl, Nat.le_of_ble_eq_true rfl, by kernel_rfl⟩

theorem R11_Check_ok (F : Nat) (p_1 : T_api_Packet) (r : Int) (h : R11_Check F p_1 = some r) : TripleG prog 14 [] [] [e_T_api_Packet p_1] [] (Ii r) := by
 refine triple_intro (fn := Go.Proofs.Try.f14) (code := codeOf Go.Proofs.Try.f14) (by kernel_rfl) (by kernel_rfl) (Nat.le_of_ble_eq_true (by kernel_rfl)) ?_
 unfold R11_Check at h
 refine sr [(0, { id := 0 })] [1] [0] 1 [Pp 0] [Vb 24 (v_T_api_Packet p_1)] hmix an ?_
 refine sq ?_
 refine aw_block (id := 0) (by kernel_rfl) ?_
 refine sq ?_
 obtain ⟨p_2, h_4, h⟩ := bind_some h
 refine aw_mid (mk [(1, Pp 0), (3, .bool p_2)] [(0, Vb 24 (v_T_api_Packet p_1))] 1) ?_ ?_
 ·replace h := h_4
  obtain ⟨r_1, h_1, h⟩ := bind_some h
  rcases bft (!r_1) with gg_1 | gg_1
  ·replace h := cond_t gg_1 h
   refine rg [(2, { av := .bool r_1, l := [Ii p_1.Thread] }), (5, Hg), (6, Hg), (7, Hg), (8, Hg), (9, Ht), (11, Hg), (12, Hg), (13, Hg), (14, Hg), (15, Ht), (17, Hg), (18, Hg), (19, Hg), (20, Hg), (21, Hg), (22, Ht)] [1, 3] [0] 1 [Pp 0, .bool true] [Vb 24 (v_T_api_Packet p_1)] hmix (ar ([Ii p_1.Thread] : List AV) (ac (rfl : ([] : List BoxSt) = []) (ac (R11_number_ok p_1.Thread r_1 h_1 : TripleG prog 27 [] [] [Ii p_1.Thread] [] (.bool r_1)) (ac gg_1 (ac gg_1 (ac gg_1 (ac gg_1 (ac gg_1 (ax (ax (ax (ax (ar true (ax (ax (ax (ax (ax (ar true an))))))))))))))))))) ?_
   cases h
   exact ⟨rfl, (sw [0] [] [.s 1, .s 3] [.s 0] an)⟩
  ·replace h := cond_f gg_1 h
   obtain ⟨r_2, h_2, h⟩ := bind_some h
   rcases bft (!r_2) with gg_2 | gg_2
   ·replace h := cond_t gg_2 h
    refine rg [(2, { av := .bool r_1, l := [Ii p_1.Thread] }), (7, { av := .bool r_2, l := [Ii p_1.Serial] }), (9, Hf), (11, Hg), (12, Hg), (13, Hg), (14, Hg), (15, Ht), (17, Hg), (18, Hg), (19, Hg), (20, Hg), (21, Hg), (22, Ht)] [1, 3] [0] 1 [Pp 0, .bool true] [Vb 24 (v_T_api_Packet p_1)] hmix (ar ([Ii p_1.Thread] : List AV) (ac (rfl : ([] : List BoxSt) = []) (ac (R11_number_ok p_1.Thread r_1 h_1 : TripleG prog 27 [] [] [Ii p_1.Thread] [] (.bool r_1)) (ac gg_1 (ac gg_1 (ac gg_1 (ar ([Ii p_1.Serial] : List AV) (ac (rfl : ([] : List BoxSt) = []) (ac (R11_number_ok p_1.Serial r_2 h_2 : TripleG prog 27 [] [] [Ii p_1.Serial] [] (.bool r_2)) (ac gg_1 (ac gg_1 (ac gg_2 (ac gg_2 (ac gg_2 (ac gg_2 (ac gg_2 (ax (ax (ax (ax (ax (ar true an)))))))))))))))))))))) ?_
    cases h
    exact ⟨rfl, (sw [0] [] [.s 1, .s 3] [.s 0] an)⟩
   ·replace h := cond_f gg_2 h
    obtain ⟨r_3, h_3, h⟩ := bind_some h
    rcases bft (!r_3) with gg_3 | gg_3
    ·replace h := cond_t gg_3 h
     refine rg [(2, { av := .bool r_1, l := [Ii p_1.Thread] }), (7, { av := .bool r_2, l := [Ii p_1.Serial] }), (9, Hf), (13, { av := .bool r_3, l := [Ii p_1.Lost] }), (15, Hf), (17, Hg), (18, Hg), (19, Hg), (20, Hg), (21, Hg), (22, Ht)] [1, 3] [0] 1 [Pp 0, .bool true] [Vb 24 (v_T_api_Packet p_1)] hmix (ar ([Ii p_1.Thread] : List AV) (ac (rfl : ([] : List BoxSt) = []) (ac (R11_number_ok p_1.Thread r_1 h_1 : TripleG prog 27 [] [] [Ii p_1.Thread] [] (.bool r_1)) (ac gg_1 (ac gg_1 (ac gg_1 (ar ([Ii p_1.Serial] : List AV) (ac (rfl : ([] : List BoxSt) = []) (ac (R11_number_ok p_1.Serial r_2 h_2 : TripleG prog 27 [] [] [Ii p_1.Serial] [] (.bool r_2)) (ac gg_1 (ac gg_1 (ac gg_2 (ac gg_2 (ac gg_2 (ar ([Ii p_1.Lost] : List AV) (ac (rfl : ([] : List BoxSt) = []) (ac (R11_number_ok p_1.Lost r_3 h_3 : TripleG prog 27 [] [] [Ii p_1.Lost] [] (.bool r_3)) (ac gg_2 (ac gg_2 (ac gg_3 (ac gg_3 (ac gg_3 (ac gg_3 (ac gg_3 (ac gg_3 an))))))))))))))))))))))))) ?_
     cases h
     exact ⟨rfl, (sw [0] [] [.s 1, .s 3] [.s 0] an)⟩
    ·replace h := cond_f gg_3 h
     refine rg [(2, { av := .bool r_1, l := [Ii p_1.Thread] }), (7, { av := .bool r_2, l := [Ii p_1.Serial] }), (9, Hf), (13, { av := .bool r_3, l := [Ii p_1.Lost] }), (15, Hf), (22, Hf)] [1, 3] [0] 1 [Pp 0, .bool (decide (p_1.Lost > p_1.Serial))] [Vb 24 (v_T_api_Packet p_1)] hmix (ar ([Ii p_1.Thread] : List AV) (ac (rfl : ([] : List BoxSt) = []) (ac (R11_number_ok p_1.Thread r_1 h_1 : TripleG prog 27 [] [] [Ii p_1.Thread] [] (.bool r_1)) (ac gg_1 (ac gg_1 (ac gg_1 (ar ([Ii p_1.Serial] : List AV) (ac (rfl : ([] : List BoxSt) = []) (ac (R11_number_ok p_1.Serial r_2 h_2 : TripleG prog 27 [] [] [Ii p_1.Serial] [] (.bool r_2)) (ac gg_1 (ac gg_1 (ac gg_2 (ac gg_2 (ac gg_2 (ar ([Ii p_1.Lost] : List AV) (ac (rfl : ([] : List BoxSt) = []) (ac (R11_number_ok p_1.Lost r_3 h_3 : TripleG prog 27 [] [] [Ii p_1.Lost] [] (.bool r_3)) (ac gg_2 (ac gg_2 (ac gg_3 (ac gg_3 (ac gg_3 (ac gg_3 (ac gg_3 (ac gg_3 an))))))))))))))))))))))))) ?_
     cases h
     exact ⟨rfl, (sw [0] [] [.s 1, .s 3] [.s 0] an)⟩
 refine cd 3 p_2 ?_ ?_
 ·intro g_1; replace h := cond_t g_1 h
  refine sr [] [2] [] 1 [Ii 2] [] hmix an ?_
  refine rt ?_
  cases h
  exact ⟨.inr rfl, Nat.le_of_ble_eq_true rfl, by kernel_rfl⟩
 intro g_1; replace h := cond_f g_1 h
 refine sr [(4, { n := (p_1.Events).length })] [1, 27] [0] 1 [Pp 0, .bool (decide (p_1.Serial > (w_i64 ((1000000000000000 : Int) - (lN (p_1.Events))))))] [Vb 24 (v_T_api_Packet p_1)] hmix (ac (vc_len _ : ((Mp e_T_api_Event p_1.Events)).length = (p_1.Events).length) an) ?_
 refine cd 27 (decide (p_1.Serial > (w_i64 ((1000000000000000 : Int) - (lN (p_1.Events)))))) ?_ ?_
 ·intro g_2; replace h := cond_t g_2 h
  refine sr [] [2] [] 1 [Ii 2] [] hmix an ?_
  refine rt ?_
  cases h
  exact ⟨.inr rfl, Nat.le_of_ble_eq_true rfl, by kernel_rfl⟩
 intro g_2; replace h := cond_f g_2 h
 refine sr [(2, { n := (p_1.Events).length })] [1, 35] [0] 1 [Pp 0, .bool ((lN (p_1.Events)) == (0 : Int))] [Vb 24 (v_T_api_Packet p_1)] hmix (ac (vc_len _ : ((Mp e_T_api_Event p_1.Events)).length = (p_1.Events).length) an) ?_
 refine cd 35 ((lN (p_1.Events)) == (0 : Int)) ?_ ?_
 ·intro g_3; replace h := cond_t g_3 h
  refine sr [] [2] [] 1 [Ii 8] [] hmix an ?_
  refine rt ?_
  cases h
  exact ⟨.inr rfl, Nat.le_of_ble_eq_true rfl, by kernel_rfl⟩
 intro g_3; replace h := cond_f g_3 h
 refine sr [(2, { n := (p_1.Events).length })] [1, 40] [0] 1 [Pp 0, .bool (decide ((lN (p_1.Events)) > (1000 : Int)))] [Vb 24 (v_T_api_Packet p_1)] hmix (ac (vc_len _ : ((Mp e_T_api_Event p_1.Events)).length = (p_1.Events).length) an) ?_
 refine cd 40 (decide ((lN (p_1.Events)) > (1000 : Int))) ?_ ?_
 ·intro g_4; replace h := cond_t g_4 h
  refine sr [] [2] [] 1 [Ii 7] [] hmix an ?_
  refine rt ?_
  cases h
  exact ⟨.inr rfl, Nat.le_of_ble_eq_true rfl, by kernel_rfl⟩
 intro g_4; replace h := cond_f g_4 h
 refine sk ?_
 refine sq ?_
 obtain ⟨r_4, h_5, h⟩ := bind_some h
 refine rg [(2, { av := Ii r_4, l := [.sl false 6 (Mp e_T_api_Event p_1.Events)] })] [2] [] 1 [Ii r_4] [] hmix (ar ([.sl false 6 (Mp e_T_api_Event p_1.Events)] : List AV) (ac (rfl : ([] : List BoxSt) = []) (ac (R07_CheckAll_ok F p_1.Events r_4 h_5 : TripleG prog 25 [] [] [.sl false 6 (Mp e_T_api_Event p_1.Events)] [] (Ii r_4)) an))) ?_
 refine rt ?_
 cases h
 exact ⟨.inr rfl, Nat.le_of_ble_eq_true rfl, by kernel_rfl⟩

end Go.Ab
