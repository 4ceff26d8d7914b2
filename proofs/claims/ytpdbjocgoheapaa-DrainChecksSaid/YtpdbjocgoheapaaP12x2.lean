/- Printed: the typed Lean functions of the Go functions, or the proofs that the Go functions meet them. No conditions but those that the theorems name. -/
import Derived.Test.YtpdbjocgoheapaaP12x1
namespace Go.Ab
open Go
set_option linter.unusedVariables false
theorem L12_awake_ok (F : Nat) (r : Bool) (h : L12_awake F = some r) : TripleG prog 9 [] [] [] [] (.bool r) := by
 refine triple_intro (fn := Go.Proofs.Try.f9) (code := codeOf Go.Proofs.Try.f9) (by kernel_rfl) (by kernel_rfl) (Nat.le_of_ble_eq_true (by kernel_rfl)) ?_
 unfold L12_awake at h
 refine sr [] [] [] 0 [] [] hmix an ?_
 refine sq ?_
 obtain ⟨r_1, h_1, h⟩ := bind_some h
 obtain ⟨r_2, h_2, h⟩ := bind_some h
 refine rg [(0, { av := .own 0 ((r_1).length), ids := [0], l := [], post := [(.row 60 3 (Mp e_T_api_Thread r_1))] }), (1, { av := .tuple [e_T_api_Service r_2.1, Ii r_2.2], frz := [0], l := [.sl false 3 (Mp e_T_api_Thread r_1)] }), (5, { id := 1 })] [1, 2] [1] 2 [Pp 1, Ii r_2.2] [Vb 27 (v_T_api_Service r_2.1)] hmix (ar ([] : List AV) (ac (rfl : ([] : List BoxSt) = []) (ac (L12_two_ok r_1 h_1 : TripleG prog 24 [] [] [] [(.row 60 3 (Mp e_T_api_Thread r_1))] (.own 0 ((r_1).length))) (ac (by first | (simp; done) | (simp; omega) : (r_1).length = ((List.map e_T_api_Thread r_1)).length) (ar ([.sl false 3 (Mp e_T_api_Thread r_1)] : List AV) (ac (rfl : ([] : List BoxSt) = []) (ac (drain_New_ok F r_1 r_2 h_2 : TripleG prog 10 [] [] [.sl false 3 (Mp e_T_api_Thread r_1)] [] (.tuple [e_T_api_Service r_2.1, Ii r_2.2])) an))))))) ?_
 refine sq ?_
 obtain ⟨r_3, h_3, h⟩ := bind_some h
 obtain ⟨r_4, h_4, h⟩ := bind_some h
 refine rg [(1, { av := e_T_api_Packet r_3, l := [Ii 2, Ii 0, Ii 0, Ii 2] }), (2, { av := .tuple [e_T_api_Service r_4.1, Ii r_4.2], l := [e_T_api_Service r_2.1, e_T_api_Packet r_3] })] [1, 2, 3] [1] 2 [Pp 1, Ii r_2.2, Ii r_4.2] [Vb 27 (v_T_api_Service r_4.1)] hmix (ar ([Ii 2, Ii 0, Ii 0, Ii 2] : List AV) (ac (rfl : ([] : List BoxSt) = []) (ac (L12_some_ok F (2 : Int) (0 : Int) (0 : Int) (2 : Int) r_3 h_3 : TripleG prog 30 [] [] [Ii 2, Ii 0, Ii 0, Ii 2] [] (e_T_api_Packet r_3)) (ar ([e_T_api_Service r_2.1, e_T_api_Packet r_3] : List AV) (ac (rfl : ([] : List BoxSt) = []) (ac (drain_Collect_ok F r_2.1 r_3 r_4 h_4 : TripleG prog 22 [] [] [e_T_api_Service r_2.1, e_T_api_Packet r_3] [] (.tuple [e_T_api_Service r_4.1, Ii r_4.2])) an)))))) ?_
 refine sq ?_
 obtain ⟨r_5, h_5, h⟩ := bind_some h
 obtain ⟨r_6, h_6, h⟩ := bind_some h
 refine rg [(1, { av := e_T_api_Packet r_5, l := [Ii 1, Ii 0, Ii 0, Ii 1] }), (2, { av := .tuple [e_T_api_Service r_6.1, Ii r_6.2], l := [e_T_api_Service r_4.1, e_T_api_Packet r_5] })] [1, 2, 3, 4] [1] 2 [Pp 1, Ii r_2.2, Ii r_4.2, Ii r_6.2] [Vb 27 (v_T_api_Service r_6.1)] hmix (ar ([Ii 1, Ii 0, Ii 0, Ii 1] : List AV) (ac (rfl : ([] : List BoxSt) = []) (ac (L12_some_ok F (1 : Int) (0 : Int) (0 : Int) (1 : Int) r_5 h_5 : TripleG prog 30 [] [] [Ii 1, Ii 0, Ii 0, Ii 1] [] (e_T_api_Packet r_5)) (ar ([e_T_api_Service r_4.1, e_T_api_Packet r_5] : List AV) (ac (rfl : ([] : List BoxSt) = []) (ac (drain_Collect_ok F r_4.1 r_5 r_6 h_6 : TripleG prog 22 [] [] [e_T_api_Service r_4.1, e_T_api_Packet r_5] [] (.tuple [e_T_api_Service r_6.1, Ii r_6.2])) an)))))) ?_
 refine sq ?_
 obtain ⟨r_7, h_7, h⟩ := bind_some h
 obtain ⟨r_8, h_8, h⟩ := bind_some h
 refine rg [(1, { av := e_T_api_Packet r_7, l := [Ii 2, Ii 2, Ii 0, Ii 1] }), (2, { av := .tuple [e_T_api_Service r_8.1, Ii r_8.2], l := [e_T_api_Service r_6.1, e_T_api_Packet r_7] })] [1, 2, 3, 4, 5] [1] 2 [Pp 1, Ii r_2.2, Ii r_4.2, Ii r_6.2, Ii r_8.2] [Vb 27 (v_T_api_Service r_8.1)] hmix (ar ([Ii 2, Ii 2, Ii 0, Ii 1] : List AV) (ac (rfl : ([] : List BoxSt) = []) (ac (L12_some_ok F (2 : Int) (2 : Int) (0 : Int) (1 : Int) r_7 h_7 : TripleG prog 30 [] [] [Ii 2, Ii 2, Ii 0, Ii 1] [] (e_T_api_Packet r_7)) (ar ([e_T_api_Service r_6.1, e_T_api_Packet r_7] : List AV) (ac (rfl : ([] : List BoxSt) = []) (ac (drain_Collect_ok F r_6.1 r_7 r_8 h_8 : TripleG prog 22 [] [] [e_T_api_Service r_6.1, e_T_api_Packet r_7] [] (.tuple [e_T_api_Service r_8.1, Ii r_8.2])) an)))))) ?_
 refine sq ?_
 obtain ⟨r_9, h_9, h⟩ := bind_some h
 refine rg [(1, { av := .tuple [.own 0 ((r_9.1).length), e_T_api_Service r_9.2], ids := [2], l := [e_T_api_Service r_8.1], post := [(.row 43 4 (Mp e_T_api_Packet r_9.1))] })] [1, 2, 3, 4, 5, 6] [1, 2] 3 [Pp 1, Ii r_2.2, Ii r_4.2, Ii r_6.2, Ii r_8.2, .own 2 ((r_9.1).length)] [Vb 27 (v_T_api_Service r_9.2), Rb 43 4 (Mp e_T_api_Packet r_9.1)] hmix (ar ([e_T_api_Service r_8.1] : List AV) (ac (rfl : ([] : List BoxSt) = []) (ac (drain_Flush_ok F r_8.1 r_9 h_9 : TripleG prog 17 [] [] [e_T_api_Service r_8.1] [(.row 43 4 (Mp e_T_api_Packet r_9.1))] (.tuple [.own 0 ((r_9.1).length), e_T_api_Service r_9.2])) an))) ?_
 refine sq ?_
 obtain ⟨r_10, h_10, h⟩ := bind_some h
 refine rg [(1, { av := .tuple [Ii r_10.1, Ii r_10.2], l := [e_T_api_Service r_9.2, Ii 2] })] [1, 2, 3, 4, 5, 6, 7, 8] [1, 2] 3 [Pp 1, Ii r_2.2, Ii r_4.2, Ii r_6.2, Ii r_8.2, .own 2 ((r_9.1).length), Ii r_10.1, Ii r_10.2] [Vb 27 (v_T_api_Service r_9.2), Rb 43 4 (Mp e_T_api_Packet r_9.1)] hmix (ar ([e_T_api_Service r_9.2, Ii 2] : List AV) (ac (rfl : ([] : List BoxSt) = []) (ac (drain_Expect_ok F r_9.2 (2 : Int) r_10 h_10 : TripleG prog 15 [] [] [e_T_api_Service r_9.2, Ii 2] [] (.tuple [Ii r_10.1, Ii r_10.2])) an))) ?_
 refine sq ?_
 obtain ⟨r_11, h_11, h⟩ := bind_some h
 obtain ⟨r_12, h_12, h⟩ := bind_some h
 refine rg [(1, { av := e_T_api_Packet r_11, l := [Ii 2, Ii 2, Ii 0, Ii 1] }), (2, { av := .tuple [e_T_api_Service r_12.1, Ii r_12.2], l := [e_T_api_Service r_9.2, e_T_api_Packet r_11] }), (6, { id := 3 })] [1, 2, 3, 4, 5, 6, 7, 8, 10] [1, 2] 4 [Pp 1, Ii r_2.2, Ii r_4.2, Ii r_6.2, Ii r_8.2, .own 2 ((r_9.1).length), Ii r_10.1, Ii r_10.2, Ii r_12.2] [Vb 27 (v_T_api_Service r_9.2), Rb 43 4 (Mp e_T_api_Packet r_9.1)] hmix (ar ([Ii 2, Ii 2, Ii 0, Ii 1] : List AV) (ac (rfl : ([] : List BoxSt) = []) (ac (L12_some_ok F (2 : Int) (2 : Int) (0 : Int) (1 : Int) r_11 h_11 : TripleG prog 30 [] [] [Ii 2, Ii 2, Ii 0, Ii 1] [] (e_T_api_Packet r_11)) (ar ([e_T_api_Service r_9.2, e_T_api_Packet r_11] : List AV) (ac (rfl : ([] : List BoxSt) = []) (ac (drain_Collect_ok F r_9.2 r_11 r_12 h_12 : TripleG prog 22 [] [] [e_T_api_Service r_9.2, e_T_api_Packet r_11] [] (.tuple [e_T_api_Service r_12.1, Ii r_12.2])) an)))))) ?_
 refine sq ?_
 obtain ⟨r_13, h_13, h⟩ := bind_some h
 obtain ⟨r_14, h_14, h⟩ := bind_some h
 refine rg [(1, { av := e_T_api_Packet r_13, l := [Ii 2, Ii 5, Ii 1, Ii 1] }), (2, { av := .tuple [e_T_api_Service r_14.1, Ii r_14.2], l := [e_T_api_Service r_9.2, e_T_api_Packet r_13] }), (6, { id := 4 })] [1, 2, 3, 4, 5, 6, 7, 8, 10, 12] [1, 2] 5 [Pp 1, Ii r_2.2, Ii r_4.2, Ii r_6.2, Ii r_8.2, .own 2 ((r_9.1).length), Ii r_10.1, Ii r_10.2, Ii r_12.2, Ii r_14.2] [Vb 27 (v_T_api_Service r_9.2), Rb 43 4 (Mp e_T_api_Packet r_9.1)] hmix (ar ([Ii 2, Ii 5, Ii 1, Ii 1] : List AV) (ac (rfl : ([] : List BoxSt) = []) (ac (L12_some_ok F (2 : Int) (5 : Int) (1 : Int) (1 : Int) r_13 h_13 : TripleG prog 30 [] [] [Ii 2, Ii 5, Ii 1, Ii 1] [] (e_T_api_Packet r_13)) (ar ([e_T_api_Service r_9.2, e_T_api_Packet r_13] : List AV) (ac (rfl : ([] : List BoxSt) = []) (ac (drain_Collect_ok F r_9.2 r_13 r_14 h_14 : TripleG prog 22 [] [] [e_T_api_Service r_9.2, e_T_api_Packet r_13] [] (.tuple [e_T_api_Service r_14.1, Ii r_14.2])) an)))))) ?_
 refine sq ?_
 obtain ⟨r_15, h_15, h⟩ := bind_some h
 obtain ⟨r_16, h_16, h⟩ := bind_some h
 refine rg [(1, { av := e_T_api_Packet r_15, l := [Ii 3, Ii 0, Ii 0, Ii 1] }), (2, { av := .tuple [e_T_api_Service r_16.1, Ii r_16.2], l := [e_T_api_Service r_9.2, e_T_api_Packet r_15] }), (6, { id := 5 })] [1, 2, 3, 4, 5, 6, 7, 8, 10, 12, 14] [1, 2] 6 [Pp 1, Ii r_2.2, Ii r_4.2, Ii r_6.2, Ii r_8.2, .own 2 ((r_9.1).length), Ii r_10.1, Ii r_10.2, Ii r_12.2, Ii r_14.2, Ii r_16.2] [Vb 27 (v_T_api_Service r_9.2), Rb 43 4 (Mp e_T_api_Packet r_9.1)] hmix (ar ([Ii 3, Ii 0, Ii 0, Ii 1] : List AV) (ac (rfl : ([] : List BoxSt) = []) (ac (L12_some_ok F (3 : Int) (0 : Int) (0 : Int) (1 : Int) r_15 h_15 : TripleG prog 30 [] [] [Ii 3, Ii 0, Ii 0, Ii 1] [] (e_T_api_Packet r_15)) (ar ([e_T_api_Service r_9.2, e_T_api_Packet r_15] : List AV) (ac (rfl : ([] : List BoxSt) = []) (ac (drain_Collect_ok F r_9.2 r_15 r_16 h_16 : TripleG prog 22 [] [] [e_T_api_Service r_9.2, e_T_api_Packet r_15] [] (.tuple [e_T_api_Service r_16.1, Ii r_16.2])) an)))))) ?_
 refine sq ?_
 obtain ⟨r_17, h_17, h⟩ := bind_some h
 obtain ⟨r_18, h_18, h⟩ := bind_some h
 refine rg [(1, { av := e_T_api_Packet r_17, l := [Ii 2, Ii 5, Ii 2, Ii 1] }), (2, { av := .tuple [e_T_api_Service r_18.1, Ii r_18.2], l := [e_T_api_Service r_9.2, e_T_api_Packet r_17] })] [1, 2, 3, 4, 5, 6, 7, 8, 10, 12, 14, 15] [1, 2] 6 [Pp 1, Ii r_2.2, Ii r_4.2, Ii r_6.2, Ii r_8.2, .own 2 ((r_9.1).length), Ii r_10.1, Ii r_10.2, Ii r_12.2, Ii r_14.2, Ii r_16.2, Ii r_18.2] [Vb 27 (v_T_api_Service r_18.1), Rb 43 4 (Mp e_T_api_Packet r_9.1)] hmix (ar ([Ii 2, Ii 5, Ii 2, Ii 1] : List AV) (ac (rfl : ([] : List BoxSt) = []) (ac (L12_some_ok F (2 : Int) (5 : Int) (2 : Int) (1 : Int) r_17 h_17 : TripleG prog 30 [] [] [Ii 2, Ii 5, Ii 2, Ii 1] [] (e_T_api_Packet r_17)) (ar ([e_T_api_Service r_9.2, e_T_api_Packet r_17] : List AV) (ac (rfl : ([] : List BoxSt) = []) (ac (drain_Collect_ok F r_9.2 r_17 r_18 h_18 : TripleG prog 22 [] [] [e_T_api_Service r_9.2, e_T_api_Packet r_17] [] (.tuple [e_T_api_Service r_18.1, Ii r_18.2])) an)))))) ?_
 refine sq ?_
 obtain ⟨r_19, h_19, h⟩ := bind_some h
 refine rg [(1, { av := .tuple [.own 0 ((r_19.1).length), e_T_api_Service r_19.2], ids := [6], l := [e_T_api_Service r_18.1], post := [(.row 43 4 (Mp e_T_api_Packet r_19.1))] }), (5, { id := 7 })] [2, 3, 4, 5, 6, 7, 8, 10, 12, 14, 15, 16] [2, 6] 8 [Ii r_2.2, Ii r_4.2, Ii r_6.2, Ii r_8.2, .own 2 ((r_9.1).length), Ii r_10.1, Ii r_10.2, Ii r_12.2, Ii r_14.2, Ii r_16.2, Ii r_18.2, .own 6 ((r_19.1).length)] [Rb 43 4 (Mp e_T_api_Packet r_9.1), Rb 43 4 (Mp e_T_api_Packet r_19.1)] hmix (ar ([e_T_api_Service r_18.1] : List AV) (ac (rfl : ([] : List BoxSt) = []) (ac (drain_Flush_ok F r_18.1 r_19 h_19 : TripleG prog 17 [] [] [e_T_api_Service r_18.1] [(.row 43 4 (Mp e_T_api_Packet r_19.1))] (.tuple [.own 0 ((r_19.1).length), e_T_api_Service r_19.2])) an))) ?_
 refine sq ?_
 obtain ⟨r_20, h_20, h⟩ := bind_some h
 refine rg [(0, { av := .tuple [e_T_api_Service r_20.1, Ii r_20.2], l := [.nilsl] }), (4, { id := 8 })] [2, 3, 4, 5, 6, 7, 8, 10, 12, 14, 15, 16, 19] [2, 6] 9 [Ii r_2.2, Ii r_4.2, Ii r_6.2, Ii r_8.2, .own 2 ((r_9.1).length), Ii r_10.1, Ii r_10.2, Ii r_12.2, Ii r_14.2, Ii r_16.2, Ii r_18.2, .own 6 ((r_19.1).length), Ii r_20.2] [Rb 43 4 (Mp e_T_api_Packet r_9.1), Rb 43 4 (Mp e_T_api_Packet r_19.1)] hmix (ar ([.nilsl] : List AV) (ac (rfl : ([] : List BoxSt) = []) (ac (triple_lo (args' := [.sl false 3 []]) (drain_New_ok F [] r_20 h_20) rfl ⟨rfl, trivial⟩ : TripleG prog 10 [] [] [.nilsl] [] (.tuple [e_T_api_Service r_20.1, Ii r_20.2])) an))) ?_
 refine sq ?_
 obtain ⟨r_21, h_21, h⟩ := bind_some h
 refine rg [(2, { id := 9 }), (3, { av := .tuple [e_T_api_Service r_21.1, Ii r_21.2], frz := [9], l := [.sl false 3 (Mp e_T_api_Thread ([(⟨(1 : Int), ([120] : List Int), (0 : Int)⟩ : T_api_Thread), (⟨(1 : Int), ([121] : List Int), (0 : Int)⟩ : T_api_Thread)] : List T_api_Thread))] }), (7, { id := 10 })] [2, 3, 4, 5, 6, 7, 8, 10, 12, 14, 15, 16, 19, 21] [2, 6] 11 [Ii r_2.2, Ii r_4.2, Ii r_6.2, Ii r_8.2, .own 2 ((r_9.1).length), Ii r_10.1, Ii r_10.2, Ii r_12.2, Ii r_14.2, Ii r_16.2, Ii r_18.2, .own 6 ((r_19.1).length), Ii r_20.2, Ii r_21.2] [Rb 43 4 (Mp e_T_api_Packet r_9.1), Rb 43 4 (Mp e_T_api_Packet r_19.1)] hmix (ac (by first | (simp; done) | (simp; omega) : 2 = ((List.map e_T_api_Thread ([(⟨(1 : Int), ([120] : List Int), (0 : Int)⟩ : T_api_Thread), (⟨(1 : Int), ([121] : List Int), (0 : Int)⟩ : T_api_Thread)] : List T_api_Thread))).length) (ar ([.sl false 3 (Mp e_T_api_Thread ([(⟨(1 : Int), ([120] : List Int), (0 : Int)⟩ : T_api_Thread), (⟨(1 : Int), ([121] : List Int), (0 : Int)⟩ : T_api_Thread)] : List T_api_Thread))] : List AV) (ac (rfl : ([] : List BoxSt) = []) (ac (drain_New_ok F ([(⟨(1 : Int), ([120] : List Int), (0 : Int)⟩ : T_api_Thread), (⟨(1 : Int), ([121] : List Int), (0 : Int)⟩ : T_api_Thread)] : List T_api_Thread) r_21 h_21 : TripleG prog 10 [] [] [.sl false 3 (Mp e_T_api_Thread ([(⟨(1 : Int), ([120] : List Int), (0 : Int)⟩ : T_api_Thread), (⟨(1 : Int), ([121] : List Int), (0 : Int)⟩ : T_api_Thread)] : List T_api_Thread))] [] (.tuple [e_T_api_Service r_21.1, Ii r_21.2])) an)))) ?_
 refine sq ?_
 obtain ⟨p_1, h_26, h⟩ := bind_some h
 refine aw_mid (mk [(0, .bool p_1)] [] 0) ?_ ?_
 ·replace h := h_26
  rcases bft (r_2.2 == (0 : Int)) with gg_1 | gg_1
  ·replace h := cond_t gg_1 h
   rcases bft (r_4.2 == (0 : Int)) with gg_2 | gg_2
   ·replace h := cond_t gg_2 h
    rcases bft (r_6.2 == (0 : Int)) with gg_3 | gg_3
    ·replace h := cond_t gg_3 h
     rcases bft (r_8.2 == (0 : Int)) with gg_4 | gg_4
     ·replace h := cond_t gg_4 h
      rcases bft ((lN (r_9.1)) == (2 : Int)) with gg_5 | gg_5
      ·replace h := cond_t gg_5 h
       obtain ⟨x_1, h_22, h⟩ := bind_some h
       rcases bft (x_1.Thread == (1 : Int)) with gg_6 | gg_6
       ·replace h := cond_t gg_6 h
        obtain ⟨x_2, h_23, h⟩ := bind_some h
        rcases bft (x_2.Thread == (2 : Int)) with gg_7 | gg_7
        ·replace h := cond_t gg_7 h
         obtain ⟨x_3, h_24, h⟩ := bind_some h
         rcases bft ((lN (x_3.Events)) == (3 : Int)) with gg_8 | gg_8
         ·replace h := cond_t gg_8 h
          rcases bft (r_10.1 == (3 : Int)) with gg_9 | gg_9
          ·replace h := cond_t gg_9 h
           rcases bft (r_10.2 == (0 : Int)) with gg_10 | gg_10
           ·replace h := cond_t gg_10 h
            rcases bft (r_12.2 == (4 : Int)) with gg_11 | gg_11
            ·replace h := cond_t gg_11 h
             rcases bft (r_14.2 == (11 : Int)) with gg_12 | gg_12
             ·replace h := cond_t gg_12 h
              rcases bft (r_16.2 == (5 : Int)) with gg_13 | gg_13
              ·replace h := cond_t gg_13 h
               rcases bft (r_18.2 == (0 : Int)) with gg_14 | gg_14
               ·replace h := cond_t gg_14 h
                rcases bft ((lN (r_19.1)) == (1 : Int)) with gg_15 | gg_15
                ·replace h := cond_t gg_15 h
                 obtain ⟨x_4, h_25, h⟩ := bind_some h
                 rcases bft (x_4.Lost == (2 : Int)) with gg_16 | gg_16
                 ·replace h := cond_t gg_16 h
                  rcases bft (r_20.2 == (8 : Int)) with gg_17 | gg_17
                  ·replace h := cond_t gg_17 h
                   refine rg [(5, Ht), (9, Ht), (13, Ht), (18, Ht), (23, { av := e_T_api_Packet x_1 }), (25, Ht), (30, { av := e_T_api_Packet x_2 }), (32, Ht), (37, { av := e_T_api_Packet x_3 }), (38, { n := (x_3.Events).length }), (40, Ht), (44, Ht), (48, Ht), (52, Ht), (56, Ht), (60, Ht), (64, Ht), (69, Ht), (74, { av := e_T_api_Packet x_4 }), (76, Ht), (80, Ht), (84, Ht)] [0] [] 11 [.bool (r_21.2 == (4 : Int))] [] hmix (ac gg_1 (ac gg_1 (ac gg_1 (ac gg_2 (ac gg_2 (ac gg_2 (ac gg_3 (ac gg_3 (ac gg_3 (ac gg_4 (ac gg_4 (ac gg_4 (ac gg_4 (ac gg_5 (ac gg_5 (ac (idxL_lo h_22 : (0 : Int) ≤ (0 : Int)) (ac (by first | (simp; done) | simpa using idxL_hi h_22 : (0 : Int) < (((r_9.1).length : Nat) : Int)) (ac gg_5 (ac gg_5 (ac (vc_get h_22 : (Mp e_T_api_Packet r_9.1)[0]? = some (e_T_api_Packet x_1)) (ac gg_5 (ac gg_5 (ac gg_6 (ac gg_6 (ac (idxL_lo h_23 : (0 : Int) ≤ (1 : Int)) (ac (by first | (simp; done) | simpa using idxL_hi h_23 : (1 : Int) < (((r_9.1).length : Nat) : Int)) (ac gg_6 (ac gg_6 (ac (vc_get h_23 : (Mp e_T_api_Packet r_9.1)[1]? = some (e_T_api_Packet x_2)) (ac gg_6 (ac gg_6 (ac gg_7 (ac gg_7 (ac (idxL_lo h_24 : (0 : Int) ≤ (1 : Int)) (ac (by first | (simp; done) | simpa using idxL_hi h_24 : (1 : Int) < (((r_9.1).length : Nat) : Int)) (ac gg_7 (ac gg_7 (ac (vc_get h_24 : (Mp e_T_api_Packet r_9.1)[1]? = some (e_T_api_Packet x_3)) (ac gg_7 (ac (vc_len _ : ((Mp e_T_api_Event x_3.Events)).length = (x_3.Events).length) (ac gg_7 (ac gg_7 (ac gg_8 (ac gg_8 (ac gg_8 (ac gg_9 (ac gg_9 (ac gg_9 (ac gg_10 (ac gg_10 (ac gg_10 (ac gg_11 (ac gg_11 (ac gg_11 (ac gg_12 (ac gg_12 (ac gg_12 (ac gg_13 (ac gg_13 (ac gg_13 (ac gg_14 (ac gg_14 (ac gg_14 (ac gg_14 (ac gg_15 (ac gg_15 (ac (idxL_lo h_25 : (0 : Int) ≤ (0 : Int)) (ac (by first | (simp; done) | simpa using idxL_hi h_25 : (0 : Int) < (((r_19.1).length : Nat) : Int)) (ac gg_15 (ac gg_15 (ac (vc_get h_25 : (Mp e_T_api_Packet r_19.1)[0]? = some (e_T_api_Packet x_4)) (ac gg_15 (ac gg_15 (ac gg_16 (ac gg_16 (ac gg_16 (ac gg_17 (ac gg_17 (ac gg_17 an))))))))))))))))))))))))))))))))))))))))))))))))))))))))))))))))))))))))))))))) ?_
                   cases h
                   exact ⟨rfl, (sw [] [] [.s 0] [] an)⟩
                  ·replace h := cond_f gg_17 h
                   refine rg [(5, Ht), (9, Ht), (13, Ht), (18, Ht), (23, { av := e_T_api_Packet x_1 }), (25, Ht), (30, { av := e_T_api_Packet x_2 }), (32, Ht), (37, { av := e_T_api_Packet x_3 }), (38, { n := (x_3.Events).length }), (40, Ht), (44, Ht), (48, Ht), (52, Ht), (56, Ht), (60, Ht), (64, Ht), (69, Ht), (74, { av := e_T_api_Packet x_4 }), (76, Ht), (80, Ht), (82, Hg), (83, Hg), (84, Hf)] [0] [] 11 [.bool false] [] hmix (ac gg_1 (ac gg_1 (ac gg_1 (ac gg_2 (ac gg_2 (ac gg_2 (ac gg_3 (ac gg_3 (ac gg_3 (ac gg_4 (ac gg_4 (ac gg_4 (ac gg_4 (ac gg_5 (ac gg_5 (ac (idxL_lo h_22 : (0 : Int) ≤ (0 : Int)) (ac (by first | (simp; done) | simpa using idxL_hi h_22 : (0 : Int) < (((r_9.1).length : Nat) : Int)) (ac gg_5 (ac gg_5 (ac (vc_get h_22 : (Mp e_T_api_Packet r_9.1)[0]? = some (e_T_api_Packet x_1)) (ac gg_5 (ac gg_5 (ac gg_6 (ac gg_6 (ac (idxL_lo h_23 : (0 : Int) ≤ (1 : Int)) (ac (by first | (simp; done) | simpa using idxL_hi h_23 : (1 : Int) < (((r_9.1).length : Nat) : Int)) (ac gg_6 (ac gg_6 (ac (vc_get h_23 : (Mp e_T_api_Packet r_9.1)[1]? = some (e_T_api_Packet x_2)) (ac gg_6 (ac gg_6 (ac gg_7 (ac gg_7 (ac (idxL_lo h_24 : (0 : Int) ≤ (1 : Int)) (ac (by first | (simp; done) | simpa using idxL_hi h_24 : (1 : Int) < (((r_9.1).length : Nat) : Int)) (ac gg_7 (ac gg_7 (ac (vc_get h_24 : (Mp e_T_api_Packet r_9.1)[1]? = some (e_T_api_Packet x_3)) (ac gg_7 (ac (vc_len _ : ((Mp e_T_api_Event x_3.Events)).length = (x_3.Events).length) (ac gg_7 (ac gg_7 (ac gg_8 (ac gg_8 (ac gg_8 (ac gg_9 (ac gg_9 (ac gg_9 (ac gg_10 (ac gg_10 (ac gg_10 (ac gg_11 (ac gg_11 (ac gg_11 (ac gg_12 (ac gg_12 (ac gg_12 (ac gg_13 (ac gg_13 (ac gg_13 (ac gg_14 (ac gg_14 (ac gg_14 (ac gg_14 (ac gg_15 (ac gg_15 (ac (idxL_lo h_25 : (0 : Int) ≤ (0 : Int)) (ac (by first | (simp; done) | simpa using idxL_hi h_25 : (0 : Int) < (((r_19.1).length : Nat) : Int)) (ac gg_15 (ac gg_15 (ac (vc_get h_25 : (Mp e_T_api_Packet r_19.1)[0]? = some (e_T_api_Packet x_4)) (ac gg_15 (ac gg_15 (ac gg_16 (ac gg_16 (ac gg_16 (ac gg_17 (ac gg_17 (ac gg_17 an))))))))))))))))))))))))))))))))))))))))))))))))))))))))))))))))))))))))))))))) ?_
                   cases h
                   exact ⟨rfl, (sw [] [] [.s 0] [] an)⟩
                 ·replace h := cond_f gg_16 h
                  refine rg [(5, Ht), (9, Ht), (13, Ht), (18, Ht), (23, { av := e_T_api_Packet x_1 }), (25, Ht), (30, { av := e_T_api_Packet x_2 }), (32, Ht), (37, { av := e_T_api_Packet x_3 }), (38, { n := (x_3.Events).length }), (40, Ht), (44, Ht), (48, Ht), (52, Ht), (56, Ht), (60, Ht), (64, Ht), (69, Ht), (74, { av := e_T_api_Packet x_4 }), (76, Ht), (78, Hg), (79, Hg), (80, Hf), (82, Hg), (83, Hg), (84, Hf)] [0] [] 11 [.bool false] [] hmix (ac gg_1 (ac gg_1 (ac gg_1 (ac gg_2 (ac gg_2 (ac gg_2 (ac gg_3 (ac gg_3 (ac gg_3 (ac gg_4 (ac gg_4 (ac gg_4 (ac gg_4 (ac gg_5 (ac gg_5 (ac (idxL_lo h_22 : (0 : Int) ≤ (0 : Int)) (ac (by first | (simp; done) | simpa using idxL_hi h_22 : (0 : Int) < (((r_9.1).length : Nat) : Int)) (ac gg_5 (ac gg_5 (ac (vc_get h_22 : (Mp e_T_api_Packet r_9.1)[0]? = some (e_T_api_Packet x_1)) (ac gg_5 (ac gg_5 (ac gg_6 (ac gg_6 (ac (idxL_lo h_23 : (0 : Int) ≤ (1 : Int)) (ac (by first | (simp; done) | simpa using idxL_hi h_23 : (1 : Int) < (((r_9.1).length : Nat) : Int)) (ac gg_6 (ac gg_6 (ac (vc_get h_23 : (Mp e_T_api_Packet r_9.1)[1]? = some (e_T_api_Packet x_2)) (ac gg_6 (ac gg_6 (ac gg_7 (ac gg_7 (ac (idxL_lo h_24 : (0 : Int) ≤ (1 : Int)) (ac (by first | (simp; done) | simpa using idxL_hi h_24 : (1 : Int) < (((r_9.1).length : Nat) : Int)) (ac gg_7 (ac gg_7 (ac (vc_get h_24 : (Mp e_T_api_Packet r_9.1)[1]? = some (e_T_api_Packet x_3)) (ac gg_7 (ac (vc_len _ : ((Mp e_T_api_Event x_3.Events)).length = (x_3.Events).length) (ac gg_7 (ac gg_7 (ac gg_8 (ac gg_8 (ac gg_8 (ac gg_9 (ac gg_9 (ac gg_9 (ac gg_10 (ac gg_10 (ac gg_10 (ac gg_11 (ac gg_11 (ac gg_11 (ac gg_12 (ac gg_12 (ac gg_12 (ac gg_13 (ac gg_13 (ac gg_13 (ac gg_14 (ac gg_14 (ac gg_14 (ac gg_14 (ac gg_15 (ac gg_15 (ac (idxL_lo h_25 : (0 : Int) ≤ (0 : Int)) (ac (by first | (simp; done) | simpa using idxL_hi h_25 : (0 : Int) < (((r_19.1).length : Nat) : Int)) (ac gg_15 (ac gg_15 (ac (vc_get h_25 : (Mp e_T_api_Packet r_19.1)[0]? = some (e_T_api_Packet x_4)) (ac gg_15 (ac gg_15 (ac gg_16 (ac gg_16 (ac gg_16 (ac (rfl : false = !true) (ac (rfl : false = !true) (ar false an))))))))))))))))))))))))))))))))))))))))))))))))))))))))))))))))))))))))))))))) ?_
                  cases h
                  exact ⟨rfl, (sw [] [] [.s 0] [] an)⟩
                ·replace h := cond_f gg_15 h
                 refine rg [(5, Ht), (9, Ht), (13, Ht), (18, Ht), (23, { av := e_T_api_Packet x_1 }), (25, Ht), (30, { av := e_T_api_Packet x_2 }), (32, Ht), (37, { av := e_T_api_Packet x_3 }), (38, { n := (x_3.Events).length }), (40, Ht), (44, Ht), (48, Ht), (52, Ht), (56, Ht), (60, Ht), (64, Ht), (69, Ht), (71, Hg), (72, Hg), (73, Hg), (74, Hg), (75, Hg), (76, Hf), (78, Hg), (79, Hg), (80, Hf), (82, Hg), (83, Hg), (84, Hf)] [0] [] 11 [.bool false] [] hmix (ac gg_1 (ac gg_1 (ac gg_1 (ac gg_2 (ac gg_2 (ac gg_2 (ac gg_3 (ac gg_3 (ac gg_3 (ac gg_4 (ac gg_4 (ac gg_4 (ac gg_4 (ac gg_5 (ac gg_5 (ac (idxL_lo h_22 : (0 : Int) ≤ (0 : Int)) (ac (by first | (simp; done) | simpa using idxL_hi h_22 : (0 : Int) < (((r_9.1).length : Nat) : Int)) (ac gg_5 (ac gg_5 (ac (vc_get h_22 : (Mp e_T_api_Packet r_9.1)[0]? = some (e_T_api_Packet x_1)) (ac gg_5 (ac gg_5 (ac gg_6 (ac gg_6 (ac (idxL_lo h_23 : (0 : Int) ≤ (1 : Int)) (ac (by first | (simp; done) | simpa using idxL_hi h_23 : (1 : Int) < (((r_9.1).length : Nat) : Int)) (ac gg_6 (ac gg_6 (ac (vc_get h_23 : (Mp e_T_api_Packet r_9.1)[1]? = some (e_T_api_Packet x_2)) (ac gg_6 (ac gg_6 (ac gg_7 (ac gg_7 (ac (idxL_lo h_24 : (0 : Int) ≤ (1 : Int)) (ac (by first | (simp; done) | simpa using idxL_hi h_24 : (1 : Int) < (((r_9.1).length : Nat) : Int)) (ac gg_7 (ac gg_7 (ac (vc_get h_24 : (Mp e_T_api_Packet r_9.1)[1]? = some (e_T_api_Packet x_3)) (ac gg_7 (ac (vc_len _ : ((Mp e_T_api_Event x_3.Events)).length = (x_3.Events).length) (ac gg_7 (ac gg_7 (ac gg_8 (ac gg_8 (ac gg_8 (ac gg_9 (ac gg_9 (ac gg_9 (ac gg_10 (ac gg_10 (ac gg_10 (ac gg_11 (ac gg_11 (ac gg_11 (ac gg_12 (ac gg_12 (ac gg_12 (ac gg_13 (ac gg_13 (ac gg_13 (ac gg_14 (ac gg_14 (ac gg_14 (ac gg_14 (ac gg_15 (ac gg_15 (ac gg_15 (ac gg_15 (ac gg_15 (ac gg_15 (ac (rfl : false = !true) (ac (rfl : false = !true) (ar false (ac (rfl : false = !true) (ac (rfl : false = !true) (ar false an)))))))))))))))))))))))))))))))))))))))))))))))))))))))))))))))))))))))))))) ?_
                 cases h
                 exact ⟨rfl, (sw [] [] [.s 0] [] an)⟩
               ·replace h := cond_f gg_14 h
                refine rg [(5, Ht), (9, Ht), (13, Ht), (18, Ht), (23, { av := e_T_api_Packet x_1 }), (25, Ht), (30, { av := e_T_api_Packet x_2 }), (32, Ht), (37, { av := e_T_api_Packet x_3 }), (38, { n := (x_3.Events).length }), (40, Ht), (44, Ht), (48, Ht), (52, Ht), (56, Ht), (60, Ht), (64, Ht), (66, Hg), (67, Hg), (68, Hg), (69, Hf), (71, Hg), (72, Hg), (73, Hg), (74, Hg), (75, Hg), (76, Hf), (78, Hg), (79, Hg), (80, Hf), (82, Hg), (83, Hg), (84, Hf)] [0] [] 11 [.bool false] [] hmix (ac gg_1 (ac gg_1 (ac gg_1 (ac gg_2 (ac gg_2 (ac gg_2 (ac gg_3 (ac gg_3 (ac gg_3 (ac gg_4 (ac gg_4 (ac gg_4 (ac gg_4 (ac gg_5 (ac gg_5 (ac (idxL_lo h_22 : (0 : Int) ≤ (0 : Int)) (ac (by first | (simp; done) | simpa using idxL_hi h_22 : (0 : Int) < (((r_9.1).length : Nat) : Int)) (ac gg_5 (ac gg_5 (ac (vc_get h_22 : (Mp e_T_api_Packet r_9.1)[0]? = some (e_T_api_Packet x_1)) (ac gg_5 (ac gg_5 (ac gg_6 (ac gg_6 (ac (idxL_lo h_23 : (0 : Int) ≤ (1 : Int)) (ac (by first | (simp; done) | simpa using idxL_hi h_23 : (1 : Int) < (((r_9.1).length : Nat) : Int)) (ac gg_6 (ac gg_6 (ac (vc_get h_23 : (Mp e_T_api_Packet r_9.1)[1]? = some (e_T_api_Packet x_2)) (ac gg_6 (ac gg_6 (ac gg_7 (ac gg_7 (ac (idxL_lo h_24 : (0 : Int) ≤ (1 : Int)) (ac (by first | (simp; done) | simpa using idxL_hi h_24 : (1 : Int) < (((r_9.1).length : Nat) : Int)) (ac gg_7 (ac gg_7 (ac (vc_get h_24 : (Mp e_T_api_Packet r_9.1)[1]? = some (e_T_api_Packet x_3)) (ac gg_7 (ac (vc_len _ : ((Mp e_T_api_Event x_3.Events)).length = (x_3.Events).length) (ac gg_7 (ac gg_7 (ac gg_8 (ac gg_8 (ac gg_8 (ac gg_9 (ac gg_9 (ac gg_9 (ac gg_10 (ac gg_10 (ac gg_10 (ac gg_11 (ac gg_11 (ac gg_11 (ac gg_12 (ac gg_12 (ac gg_12 (ac gg_13 (ac gg_13 (ac gg_13 (ac gg_14 (ac gg_14 (ac gg_14 (ac gg_14 (ac (rfl : false = !true) (ac (rfl : false = !true) (ac (rfl : false = !true) (ac (rfl : false = !true) (ac (rfl : false = !true) (ar false (ac (rfl : false = !true) (ac (rfl : false = !true) (ar false (ac (rfl : false = !true) (ac (rfl : false = !true) (ar false an)))))))))))))))))))))))))))))))))))))))))))))))))))))))))))))))))))))))))))) ?_
                cases h
                exact ⟨rfl, (sw [] [] [.s 0] [] an)⟩
              ·replace h := cond_f gg_13 h
               refine rg [(5, Ht), (9, Ht), (13, Ht), (18, Ht), (23, { av := e_T_api_Packet x_1 }), (25, Ht), (30, { av := e_T_api_Packet x_2 }), (32, Ht), (37, { av := e_T_api_Packet x_3 }), (38, { n := (x_3.Events).length }), (40, Ht), (44, Ht), (48, Ht), (52, Ht), (56, Ht), (60, Ht), (62, Hg), (63, Hg), (64, Hf), (66, Hg), (67, Hg), (68, Hg), (69, Hf), (71, Hg), (72, Hg), (73, Hg), (74, Hg), (75, Hg), (76, Hf), (78, Hg), (79, Hg), (80, Hf), (82, Hg), (83, Hg), (84, Hf)] [0] [] 11 [.bool false] [] hmix (ac gg_1 (ac gg_1 (ac gg_1 (ac gg_2 (ac gg_2 (ac gg_2 (ac gg_3 (ac gg_3 (ac gg_3 (ac gg_4 (ac gg_4 (ac gg_4 (ac gg_4 (ac gg_5 (ac gg_5 (ac (idxL_lo h_22 : (0 : Int) ≤ (0 : Int)) (ac (by first | (simp; done) | simpa using idxL_hi h_22 : (0 : Int) < (((r_9.1).length : Nat) : Int)) (ac gg_5 (ac gg_5 (ac (vc_get h_22 : (Mp e_T_api_Packet r_9.1)[0]? = some (e_T_api_Packet x_1)) (ac gg_5 (ac gg_5 (ac gg_6 (ac gg_6 (ac (idxL_lo h_23 : (0 : Int) ≤ (1 : Int)) (ac (by first | (simp; done) | simpa using idxL_hi h_23 : (1 : Int) < (((r_9.1).length : Nat) : Int)) (ac gg_6 (ac gg_6 (ac (vc_get h_23 : (Mp e_T_api_Packet r_9.1)[1]? = some (e_T_api_Packet x_2)) (ac gg_6 (ac gg_6 (ac gg_7 (ac gg_7 (ac (idxL_lo h_24 : (0 : Int) ≤ (1 : Int)) (ac (by first | (simp; done) | simpa using idxL_hi h_24 : (1 : Int) < (((r_9.1).length : Nat) : Int)) (ac gg_7 (ac gg_7 (ac (vc_get h_24 : (Mp e_T_api_Packet r_9.1)[1]? = some (e_T_api_Packet x_3)) (ac gg_7 (ac (vc_len _ : ((Mp e_T_api_Event x_3.Events)).length = (x_3.Events).length) (ac gg_7 (ac gg_7 (ac gg_8 (ac gg_8 (ac gg_8 (ac gg_9 (ac gg_9 (ac gg_9 (ac gg_10 (ac gg_10 (ac gg_10 (ac gg_11 (ac gg_11 (ac gg_11 (ac gg_12 (ac gg_12 (ac gg_12 (ac gg_13 (ac gg_13 (ac gg_13 (ac (rfl : false = !true) (ac (rfl : false = !true) (ac (rfl : false = !true) (ar false (ac (rfl : false = !true) (ac (rfl : false = !true) (ac (rfl : false = !true) (ac (rfl : false = !true) (ac (rfl : false = !true) (ar false (ac (rfl : false = !true) (ac (rfl : false = !true) (ar false (ac (rfl : false = !true) (ac (rfl : false = !true) (ar false an)))))))))))))))))))))))))))))))))))))))))))))))))))))))))))))))))))))))))))) ?_
               cases h
               exact ⟨rfl, (sw [] [] [.s 0] [] an)⟩
             ·replace h := cond_f gg_12 h
              refine rg [(5, Ht), (9, Ht), (13, Ht), (18, Ht), (23, { av := e_T_api_Packet x_1 }), (25, Ht), (30, { av := e_T_api_Packet x_2 }), (32, Ht), (37, { av := e_T_api_Packet x_3 }), (38, { n := (x_3.Events).length }), (40, Ht), (44, Ht), (48, Ht), (52, Ht), (56, Ht), (58, Hg), (59, Hg), (60, Hf), (62, Hg), (63, Hg), (64, Hf), (66, Hg), (67, Hg), (68, Hg), (69, Hf), (71, Hg), (72, Hg), (73, Hg), (74, Hg), (75, Hg), (76, Hf), (78, Hg), (79, Hg), (80, Hf), (82, Hg), (83, Hg), (84, Hf)] [0] [] 11 [.bool false] [] hmix (ac gg_1 (ac gg_1 (ac gg_1 (ac gg_2 (ac gg_2 (ac gg_2 (ac gg_3 (ac gg_3 (ac gg_3 (ac gg_4 (ac gg_4 (ac gg_4 (ac gg_4 (ac gg_5 (ac gg_5 (ac (idxL_lo h_22 : (0 : Int) ≤ (0 : Int)) (ac (by first | (simp; done) | simpa using idxL_hi h_22 : (0 : Int) < (((r_9.1).length : Nat) : Int)) (ac gg_5 (ac gg_5 (ac (vc_get h_22 : (Mp e_T_api_Packet r_9.1)[0]? = some (e_T_api_Packet x_1)) (ac gg_5 (ac gg_5 (ac gg_6 (ac gg_6 (ac (idxL_lo h_23 : (0 : Int) ≤ (1 : Int)) (ac (by first | (simp; done) | simpa using idxL_hi h_23 : (1 : Int) < (((r_9.1).length : Nat) : Int)) (ac gg_6 (ac gg_6 (ac (vc_get h_23 : (Mp e_T_api_Packet r_9.1)[1]? = some (e_T_api_Packet x_2)) (ac gg_6 (ac gg_6 (ac gg_7 (ac gg_7 (ac (idxL_lo h_24 : (0 : Int) ≤ (1 : Int)) (ac (by first | (simp; done) | simpa using idxL_hi h_24 : (1 : Int) < (((r_9.1).length : Nat) : Int)) (ac gg_7 (ac gg_7 (ac (vc_get h_24 : (Mp e_T_api_Packet r_9.1)[1]? = some (e_T_api_Packet x_3)) (ac gg_7 (ac (vc_len _ : ((Mp e_T_api_Event x_3.Events)).length = (x_3.Events).length) (ac gg_7 (ac gg_7 (ac gg_8 (ac gg_8 (ac gg_8 (ac gg_9 (ac gg_9 (ac gg_9 (ac gg_10 (ac gg_10 (ac gg_10 (ac gg_11 (ac gg_11 (ac gg_11 (ac gg_12 (ac gg_12 (ac gg_12 (ac (rfl : false = !true) (ac (rfl : false = !true) (ar false (ac (rfl : false = !true) (ac (rfl : false = !true) (ac (rfl : false = !true) (ar false (ac (rfl : false = !true) (ac (rfl : false = !true) (ac (rfl : false = !true) (ac (rfl : false = !true) (ac (rfl : false = !true) (ar false (ac (rfl : false = !true) (ac (rfl : false = !true) (ar false (ac (rfl : false = !true) (ac (rfl : false = !true) (ar false an)))))))))))))))))))))))))))))))))))))))))))))))))))))))))))))))))))))))))))) ?_
              cases h
              exact ⟨rfl, (sw [] [] [.s 0] [] an)⟩
            ·replace h := cond_f gg_11 h
             refine rg [(5, Ht), (9, Ht), (13, Ht), (18, Ht), (23, { av := e_T_api_Packet x_1 }), (25, Ht), (30, { av := e_T_api_Packet x_2 }), (32, Ht), (37, { av := e_T_api_Packet x_3 }), (38, { n := (x_3.Events).length }), (40, Ht), (44, Ht), (48, Ht), (52, Ht), (54, Hg), (55, Hg), (56, Hf), (58, Hg), (59, Hg), (60, Hf), (62, Hg), (63, Hg), (64, Hf), (66, Hg), (67, Hg), (68, Hg), (69, Hf), (71, Hg), (72, Hg), (73, Hg), (74, Hg), (75, Hg), (76, Hf), (78, Hg), (79, Hg), (80, Hf), (82, Hg), (83, Hg), (84, Hf)] [0] [] 11 [.bool false] [] hmix (ac gg_1 (ac gg_1 (ac gg_1 (ac gg_2 (ac gg_2 (ac gg_2 (ac gg_3 (ac gg_3 (ac gg_3 (ac gg_4 (ac gg_4 (ac gg_4 (ac gg_4 (ac gg_5 (ac gg_5 (ac (idxL_lo h_22 : (0 : Int) ≤ (0 : Int)) (ac (by first | (simp; done) | simpa using idxL_hi h_22 : (0 : Int) < (((r_9.1).length : Nat) : Int)) (ac gg_5 (ac gg_5 (ac (vc_get h_22 : (Mp e_T_api_Packet r_9.1)[0]? = some (e_T_api_Packet x_1)) (ac gg_5 (ac gg_5 (ac gg_6 (ac gg_6 (ac (idxL_lo h_23 : (0 : Int) ≤ (1 : Int)) (ac (by first | (simp; done) | simpa using idxL_hi h_23 : (1 : Int) < (((r_9.1).length : Nat) : Int)) (ac gg_6 (ac gg_6 (ac (vc_get h_23 : (Mp e_T_api_Packet r_9.1)[1]? = some (e_T_api_Packet x_2)) (ac gg_6 (ac gg_6 (ac gg_7 (ac gg_7 (ac (idxL_lo h_24 : (0 : Int) ≤ (1 : Int)) (ac (by first | (simp; done) | simpa using idxL_hi h_24 : (1 : Int) < (((r_9.1).length : Nat) : Int)) (ac gg_7 (ac gg_7 (ac (vc_get h_24 : (Mp e_T_api_Packet r_9.1)[1]? = some (e_T_api_Packet x_3)) (ac gg_7 (ac (vc_len _ : ((Mp e_T_api_Event x_3.Events)).length = (x_3.Events).length) (ac gg_7 (ac gg_7 (ac gg_8 (ac gg_8 (ac gg_8 (ac gg_9 (ac gg_9 (ac gg_9 (ac gg_10 (ac gg_10 (ac gg_10 (ac gg_11 (ac gg_11 (ac gg_11 (ac (rfl : false = !true) (ac (rfl : false = !true) (ar false (ac (rfl : false = !true) (ac (rfl : false = !true) (ar false (ac (rfl : false = !true) (ac (rfl : false = !true) (ac (rfl : false = !true) (ar false (ac (rfl : false = !true) (ac (rfl : false = !true) (ac (rfl : false = !true) (ac (rfl : false = !true) (ac (rfl : false = !true) (ar false (ac (rfl : false = !true) (ac (rfl : false = !true) (ar false (ac (rfl : false = !true) (ac (rfl : false = !true) (ar false an)))))))))))))))))))))))))))))))))))))))))))))))))))))))))))))))))))))))))))) ?_
             cases h
             exact ⟨rfl, (sw [] [] [.s 0] [] an)⟩
           ·replace h := cond_f gg_10 h
            refine rg [(5, Ht), (9, Ht), (13, Ht), (18, Ht), (23, { av := e_T_api_Packet x_1 }), (25, Ht), (30, { av := e_T_api_Packet x_2 }), (32, Ht), (37, { av := e_T_api_Packet x_3 }), (38, { n := (x_3.Events).length }), (40, Ht), (44, Ht), (48, Ht), (50, Hg), (51, Hg), (52, Hf), (54, Hg), (55, Hg), (56, Hf), (58, Hg), (59, Hg), (60, Hf), (62, Hg), (63, Hg), (64, Hf), (66, Hg), (67, Hg), (68, Hg), (69, Hf), (71, Hg), (72, Hg), (73, Hg), (74, Hg), (75, Hg), (76, Hf), (78, Hg), (79, Hg), (80, Hf), (82, Hg), (83, Hg), (84, Hf)] [0] [] 11 [.bool false] [] hmix (ac gg_1 (ac gg_1 (ac gg_1 (ac gg_2 (ac gg_2 (ac gg_2 (ac gg_3 (ac gg_3 (ac gg_3 (ac gg_4 (ac gg_4 (ac gg_4 (ac gg_4 (ac gg_5 (ac gg_5 (ac (idxL_lo h_22 : (0 : Int) ≤ (0 : Int)) (ac (by first | (simp; done) | simpa using idxL_hi h_22 : (0 : Int) < (((r_9.1).length : Nat) : Int)) (ac gg_5 (ac gg_5 (ac (vc_get h_22 : (Mp e_T_api_Packet r_9.1)[0]? = some (e_T_api_Packet x_1)) (ac gg_5 (ac gg_5 (ac gg_6 (ac gg_6 (ac (idxL_lo h_23 : (0 : Int) ≤ (1 : Int)) (ac (by first | (simp; done) | simpa using idxL_hi h_23 : (1 : Int) < (((r_9.1).length : Nat) : Int)) (ac gg_6 (ac gg_6 (ac (vc_get h_23 : (Mp e_T_api_Packet r_9.1)[1]? = some (e_T_api_Packet x_2)) (ac gg_6 (ac gg_6 (ac gg_7 (ac gg_7 (ac (idxL_lo h_24 : (0 : Int) ≤ (1 : Int)) (ac (by first | (simp; done) | simpa using idxL_hi h_24 : (1 : Int) < (((r_9.1).length : Nat) : Int)) (ac gg_7 (ac gg_7 (ac (vc_get h_24 : (Mp e_T_api_Packet r_9.1)[1]? = some (e_T_api_Packet x_3)) (ac gg_7 (ac (vc_len _ : ((Mp e_T_api_Event x_3.Events)).length = (x_3.Events).length) (ac gg_7 (ac gg_7 (ac gg_8 (ac gg_8 (ac gg_8 (ac gg_9 (ac gg_9 (ac gg_9 (ac gg_10 (ac gg_10 (ac gg_10 (ac (rfl : false = !true) (ac (rfl : false = !true) (ar false (ac (rfl : false = !true) (ac (rfl : false = !true) (ar false (ac (rfl : false = !true) (ac (rfl : false = !true) (ar false (ac (rfl : false = !true) (ac (rfl : false = !true) (ac (rfl : false = !true) (ar false (ac (rfl : false = !true) (ac (rfl : false = !true) (ac (rfl : false = !true) (ac (rfl : false = !true) (ac (rfl : false = !true) (ar false (ac (rfl : false = !true) (ac (rfl : false = !true) (ar false (ac (rfl : false = !true) (ac (rfl : false = !true) (ar false an)))))))))))))))))))))))))))))))))))))))))))))))))))))))))))))))))))))))))))) ?_
            cases h
            exact ⟨rfl, (sw [] [] [.s 0] [] an)⟩
          ·replace h := cond_f gg_9 h
           refine rg [(5, Ht), (9, Ht), (13, Ht), (18, Ht), (23, { av := e_T_api_Packet x_1 }), (25, Ht), (30, { av := e_T_api_Packet x_2 }), (32, Ht), (37, { av := e_T_api_Packet x_3 }), (38, { n := (x_3.Events).length }), (40, Ht), (44, Ht), (46, Hg), (47, Hg), (48, Hf), (50, Hg), (51, Hg), (52, Hf), (54, Hg), (55, Hg), (56, Hf), (58, Hg), (59, Hg), (60, Hf), (62, Hg), (63, Hg), (64, Hf), (66, Hg), (67, Hg), (68, Hg), (69, Hf), (71, Hg), (72, Hg), (73, Hg), (74, Hg), (75, Hg), (76, Hf), (78, Hg), (79, Hg), (80, Hf), (82, Hg), (83, Hg), (84, Hf)] [0] [] 11 [.bool false] [] hmix (ac gg_1 (ac gg_1 (ac gg_1 (ac gg_2 (ac gg_2 (ac gg_2 (ac gg_3 (ac gg_3 (ac gg_3 (ac gg_4 (ac gg_4 (ac gg_4 (ac gg_4 (ac gg_5 (ac gg_5 (ac (idxL_lo h_22 : (0 : Int) ≤ (0 : Int)) (ac (by first | (simp; done) | simpa using idxL_hi h_22 : (0 : Int) < (((r_9.1).length : Nat) : Int)) (ac gg_5 (ac gg_5 (ac (vc_get h_22 : (Mp e_T_api_Packet r_9.1)[0]? = some (e_T_api_Packet x_1)) (ac gg_5 (ac gg_5 (ac gg_6 (ac gg_6 (ac (idxL_lo h_23 : (0 : Int) ≤ (1 : Int)) (ac (by first | (simp; done) | simpa using idxL_hi h_23 : (1 : Int) < (((r_9.1).length : Nat) : Int)) (ac gg_6 (ac gg_6 (ac (vc_get h_23 : (Mp e_T_api_Packet r_9.1)[1]? = some (e_T_api_Packet x_2)) (ac gg_6 (ac gg_6 (ac gg_7 (ac gg_7 (ac (idxL_lo h_24 : (0 : Int) ≤ (1 : Int)) (ac (by first | (simp; done) | simpa using idxL_hi h_24 : (1 : Int) < (((r_9.1).length : Nat) : Int)) (ac gg_7 (ac gg_7 (ac (vc_get h_24 : (Mp e_T_api_Packet r_9.1)[1]? = some (e_T_api_Packet x_3)) (ac gg_7 (ac (vc_len _ : ((Mp e_T_api_Event x_3.Events)).length = (x_3.Events).length) (ac gg_7 (ac gg_7 (ac gg_8 (ac gg_8 (ac gg_8 (ac gg_9 (ac gg_9 (ac gg_9 (ac (rfl : false = !true) (ac (rfl : false = !true) (ar false (ac (rfl : false = !true) (ac (rfl : false = !true) (ar false (ac (rfl : false = !true) (ac (rfl : false = !true) (ar false (ac (rfl : false = !true) (ac (rfl : false = !true) (ar false (ac (rfl : false = !true) (ac (rfl : false = !true) (ac (rfl : false = !true) (ar false (ac (rfl : false = !true) (ac (rfl : false = !true) (ac (rfl : false = !true) (ac (rfl : false = !true) (ac (rfl : false = !true) (ar false (ac (rfl : false = !true) (ac (rfl : false = !true) (ar false (ac (rfl : false = !true) (ac (rfl : false = !true) (ar false an)))))))))))))))))))))))))))))))))))))))))))))))))))))))))))))))))))))))))))) ?_
           cases h
           exact ⟨rfl, (sw [] [] [.s 0] [] an)⟩
         ·replace h := cond_f gg_8 h
          refine rg [(5, Ht), (9, Ht), (13, Ht), (18, Ht), (23, { av := e_T_api_Packet x_1 }), (25, Ht), (30, { av := e_T_api_Packet x_2 }), (32, Ht), (37, { av := e_T_api_Packet x_3 }), (38, { n := (x_3.Events).length }), (40, Ht), (42, Hg), (43, Hg), (44, Hf), (46, Hg), (47, Hg), (48, Hf), (50, Hg), (51, Hg), (52, Hf), (54, Hg), (55, Hg), (56, Hf), (58, Hg), (59, Hg), (60, Hf), (62, Hg), (63, Hg), (64, Hf), (66, Hg), (67, Hg), (68, Hg), (69, Hf), (71, Hg), (72, Hg), (73, Hg), (74, Hg), (75, Hg), (76, Hf), (78, Hg), (79, Hg), (80, Hf), (82, Hg), (83, Hg), (84, Hf)] [0] [] 11 [.bool false] [] hmix (ac gg_1 (ac gg_1 (ac gg_1 (ac gg_2 (ac gg_2 (ac gg_2 (ac gg_3 (ac gg_3 (ac gg_3 (ac gg_4 (ac gg_4 (ac gg_4 (ac gg_4 (ac gg_5 (ac gg_5 (ac (idxL_lo h_22 : (0 : Int) ≤ (0 : Int)) (ac (by first | (simp; done) | simpa using idxL_hi h_22 : (0 : Int) < (((r_9.1).length : Nat) : Int)) (ac gg_5 (ac gg_5 (ac (vc_get h_22 : (Mp e_T_api_Packet r_9.1)[0]? = some (e_T_api_Packet x_1)) (ac gg_5 (ac gg_5 (ac gg_6 (ac gg_6 (ac (idxL_lo h_23 : (0 : Int) ≤ (1 : Int)) (ac (by first | (simp; done) | simpa using idxL_hi h_23 : (1 : Int) < (((r_9.1).length : Nat) : Int)) (ac gg_6 (ac gg_6 (ac (vc_get h_23 : (Mp e_T_api_Packet r_9.1)[1]? = some (e_T_api_Packet x_2)) (ac gg_6 (ac gg_6 (ac gg_7 (ac gg_7 (ac (idxL_lo h_24 : (0 : Int) ≤ (1 : Int)) (ac (by first | (simp; done) | simpa using idxL_hi h_24 : (1 : Int) < (((r_9.1).length : Nat) : Int)) (ac gg_7 (ac gg_7 (ac (vc_get h_24 : (Mp e_T_api_Packet r_9.1)[1]? = some (e_T_api_Packet x_3)) (ac gg_7 (ac (vc_len _ : ((Mp e_T_api_Event x_3.Events)).length = (x_3.Events).length) (ac gg_7 (ac gg_7 (ac gg_8 (ac gg_8 (ac gg_8 (ac (rfl : false = !true) (ac (rfl : false = !true) (ar false (ac (rfl : false = !true) (ac (rfl : false = !true) (ar false (ac (rfl : false = !true) (ac (rfl : false = !true) (ar false (ac (rfl : false = !true) (ac (rfl : false = !true) (ar false (ac (rfl : false = !true) (ac (rfl : false = !true) (ar false (ac (rfl : false = !true) (ac (rfl : false = !true) (ac (rfl : false = !true) (ar false (ac (rfl : false = !true) (ac (rfl : false = !true) (ac (rfl : false = !true) (ac (rfl : false = !true) (ac (rfl : false = !true) (ar false (ac (rfl : false = !true) (ac (rfl : false = !true) (ar false (ac (rfl : false = !true) (ac (rfl : false = !true) (ar false an)))))))))))))))))))))))))))))))))))))))))))))))))))))))))))))))))))))))))))) ?_
          cases h
          exact ⟨rfl, (sw [] [] [.s 0] [] an)⟩
        ·replace h := cond_f gg_7 h
         refine rg [(5, Ht), (9, Ht), (13, Ht), (18, Ht), (23, { av := e_T_api_Packet x_1 }), (25, Ht), (30, { av := e_T_api_Packet x_2 }), (32, Ht), (34, Hg), (35, Hg), (36, Hg), (37, Hg), (38, Hg), (39, Hg), (40, Hf), (42, Hg), (43, Hg), (44, Hf), (46, Hg), (47, Hg), (48, Hf), (50, Hg), (51, Hg), (52, Hf), (54, Hg), (55, Hg), (56, Hf), (58, Hg), (59, Hg), (60, Hf), (62, Hg), (63, Hg), (64, Hf), (66, Hg), (67, Hg), (68, Hg), (69, Hf), (71, Hg), (72, Hg), (73, Hg), (74, Hg), (75, Hg), (76, Hf), (78, Hg), (79, Hg), (80, Hf), (82, Hg), (83, Hg), (84, Hf)] [0] [] 11 [.bool false] [] hmix (ac gg_1 (ac gg_1 (ac gg_1 (ac gg_2 (ac gg_2 (ac gg_2 (ac gg_3 (ac gg_3 (ac gg_3 (ac gg_4 (ac gg_4 (ac gg_4 (ac gg_4 (ac gg_5 (ac gg_5 (ac (idxL_lo h_22 : (0 : Int) ≤ (0 : Int)) (ac (by first | (simp; done) | simpa using idxL_hi h_22 : (0 : Int) < (((r_9.1).length : Nat) : Int)) (ac gg_5 (ac gg_5 (ac (vc_get h_22 : (Mp e_T_api_Packet r_9.1)[0]? = some (e_T_api_Packet x_1)) (ac gg_5 (ac gg_5 (ac gg_6 (ac gg_6 (ac (idxL_lo h_23 : (0 : Int) ≤ (1 : Int)) (ac (by first | (simp; done) | simpa using idxL_hi h_23 : (1 : Int) < (((r_9.1).length : Nat) : Int)) (ac gg_6 (ac gg_6 (ac (vc_get h_23 : (Mp e_T_api_Packet r_9.1)[1]? = some (e_T_api_Packet x_2)) (ac gg_6 (ac gg_6 (ac gg_7 (ac gg_7 (ac gg_7 (ac gg_7 (ac gg_7 (ac gg_7 (ac gg_7 (ac (rfl : false = !true) (ac (rfl : false = !true) (ar false (ac (rfl : false = !true) (ac (rfl : false = !true) (ar false (ac (rfl : false = !true) (ac (rfl : false = !true) (ar false (ac (rfl : false = !true) (ac (rfl : false = !true) (ar false (ac (rfl : false = !true) (ac (rfl : false = !true) (ar false (ac (rfl : false = !true) (ac (rfl : false = !true) (ar false (ac (rfl : false = !true) (ac (rfl : false = !true) (ac (rfl : false = !true) (ar false (ac (rfl : false = !true) (ac (rfl : false = !true) (ac (rfl : false = !true) (ac (rfl : false = !true) (ac (rfl : false = !true) (ar false (ac (rfl : false = !true) (ac (rfl : false = !true) (ar false (ac (rfl : false = !true) (ac (rfl : false = !true) (ar false an)))))))))))))))))))))))))))))))))))))))))))))))))))))))))))))))))))))))) ?_
         cases h
         exact ⟨rfl, (sw [] [] [.s 0] [] an)⟩
       ·replace h := cond_f gg_6 h
        refine rg [(5, Ht), (9, Ht), (13, Ht), (18, Ht), (23, { av := e_T_api_Packet x_1 }), (25, Ht), (27, Hg), (28, Hg), (29, Hg), (30, Hg), (31, Hg), (32, Hf), (34, Hg), (35, Hg), (36, Hg), (37, Hg), (38, Hg), (39, Hg), (40, Hf), (42, Hg), (43, Hg), (44, Hf), (46, Hg), (47, Hg), (48, Hf), (50, Hg), (51, Hg), (52, Hf), (54, Hg), (55, Hg), (56, Hf), (58, Hg), (59, Hg), (60, Hf), (62, Hg), (63, Hg), (64, Hf), (66, Hg), (67, Hg), (68, Hg), (69, Hf), (71, Hg), (72, Hg), (73, Hg), (74, Hg), (75, Hg), (76, Hf), (78, Hg), (79, Hg), (80, Hf), (82, Hg), (83, Hg), (84, Hf)] [0] [] 11 [.bool false] [] hmix (ac gg_1 (ac gg_1 (ac gg_1 (ac gg_2 (ac gg_2 (ac gg_2 (ac gg_3 (ac gg_3 (ac gg_3 (ac gg_4 (ac gg_4 (ac gg_4 (ac gg_4 (ac gg_5 (ac gg_5 (ac (idxL_lo h_22 : (0 : Int) ≤ (0 : Int)) (ac (by first | (simp; done) | simpa using idxL_hi h_22 : (0 : Int) < (((r_9.1).length : Nat) : Int)) (ac gg_5 (ac gg_5 (ac (vc_get h_22 : (Mp e_T_api_Packet r_9.1)[0]? = some (e_T_api_Packet x_1)) (ac gg_5 (ac gg_5 (ac gg_6 (ac gg_6 (ac gg_6 (ac gg_6 (ac gg_6 (ac gg_6 (ac (rfl : false = !true) (ac (rfl : false = !true) (ac (rfl : false = !true) (ac (rfl : false = !true) (ac (rfl : false = !true) (ac (rfl : false = !true) (ar false (ac (rfl : false = !true) (ac (rfl : false = !true) (ar false (ac (rfl : false = !true) (ac (rfl : false = !true) (ar false (ac (rfl : false = !true) (ac (rfl : false = !true) (ar false (ac (rfl : false = !true) (ac (rfl : false = !true) (ar false (ac (rfl : false = !true) (ac (rfl : false = !true) (ar false (ac (rfl : false = !true) (ac (rfl : false = !true) (ar false (ac (rfl : false = !true) (ac (rfl : false = !true) (ac (rfl : false = !true) (ar false (ac (rfl : false = !true) (ac (rfl : false = !true) (ac (rfl : false = !true) (ac (rfl : false = !true) (ac (rfl : false = !true) (ar false (ac (rfl : false = !true) (ac (rfl : false = !true) (ar false (ac (rfl : false = !true) (ac (rfl : false = !true) (ar false an))))))))))))))))))))))))))))))))))))))))))))))))))))))))))))))))))))) ?_
        cases h
        exact ⟨rfl, (sw [] [] [.s 0] [] an)⟩
      ·replace h := cond_f gg_5 h
       refine rg [(5, Ht), (9, Ht), (13, Ht), (18, Ht), (20, Hg), (21, Hg), (22, Hg), (23, Hg), (24, Hg), (25, Hf), (27, Hg), (28, Hg), (29, Hg), (30, Hg), (31, Hg), (32, Hf), (34, Hg), (35, Hg), (36, Hg), (37, Hg), (38, Hg), (39, Hg), (40, Hf), (42, Hg), (43, Hg), (44, Hf), (46, Hg), (47, Hg), (48, Hf), (50, Hg), (51, Hg), (52, Hf), (54, Hg), (55, Hg), (56, Hf), (58, Hg), (59, Hg), (60, Hf), (62, Hg), (63, Hg), (64, Hf), (66, Hg), (67, Hg), (68, Hg), (69, Hf), (71, Hg), (72, Hg), (73, Hg), (74, Hg), (75, Hg), (76, Hf), (78, Hg), (79, Hg), (80, Hf), (82, Hg), (83, Hg), (84, Hf)] [0] [] 11 [.bool false] [] hmix (ac gg_1 (ac gg_1 (ac gg_1 (ac gg_2 (ac gg_2 (ac gg_2 (ac gg_3 (ac gg_3 (ac gg_3 (ac gg_4 (ac gg_4 (ac gg_4 (ac gg_4 (ac gg_5 (ac gg_5 (ac gg_5 (ac gg_5 (ac gg_5 (ac gg_5 (ac (rfl : false = !true) (ac (rfl : false = !true) (ac (rfl : false = !true) (ac (rfl : false = !true) (ac (rfl : false = !true) (ar false (ac (rfl : false = !true) (ac (rfl : false = !true) (ac (rfl : false = !true) (ac (rfl : false = !true) (ac (rfl : false = !true) (ac (rfl : false = !true) (ar false (ac (rfl : false = !true) (ac (rfl : false = !true) (ar false (ac (rfl : false = !true) (ac (rfl : false = !true) (ar false (ac (rfl : false = !true) (ac (rfl : false = !true) (ar false (ac (rfl : false = !true) (ac (rfl : false = !true) (ar false (ac (rfl : false = !true) (ac (rfl : false = !true) (ar false (ac (rfl : false = !true) (ac (rfl : false = !true) (ar false (ac (rfl : false = !true) (ac (rfl : false = !true) (ac (rfl : false = !true) (ar false (ac (rfl : false = !true) (ac (rfl : false = !true) (ac (rfl : false = !true) (ac (rfl : false = !true) (ac (rfl : false = !true) (ar false (ac (rfl : false = !true) (ac (rfl : false = !true) (ar false (ac (rfl : false = !true) (ac (rfl : false = !true) (ar false an)))))))))))))))))))))))))))))))))))))))))))))))))))))))))))))))))) ?_
       cases h
       exact ⟨rfl, (sw [] [] [.s 0] [] an)⟩
     ·replace h := cond_f gg_4 h
      refine rg [(5, Ht), (9, Ht), (13, Ht), (15, Hg), (16, Hg), (17, Hg), (18, Hf), (20, Hg), (21, Hg), (22, Hg), (23, Hg), (24, Hg), (25, Hf), (27, Hg), (28, Hg), (29, Hg), (30, Hg), (31, Hg), (32, Hf), (34, Hg), (35, Hg), (36, Hg), (37, Hg), (38, Hg), (39, Hg), (40, Hf), (42, Hg), (43, Hg), (44, Hf), (46, Hg), (47, Hg), (48, Hf), (50, Hg), (51, Hg), (52, Hf), (54, Hg), (55, Hg), (56, Hf), (58, Hg), (59, Hg), (60, Hf), (62, Hg), (63, Hg), (64, Hf), (66, Hg), (67, Hg), (68, Hg), (69, Hf), (71, Hg), (72, Hg), (73, Hg), (74, Hg), (75, Hg), (76, Hf), (78, Hg), (79, Hg), (80, Hf), (82, Hg), (83, Hg), (84, Hf)] [0] [] 11 [.bool false] [] hmix (ac gg_1 (ac gg_1 (ac gg_1 (ac gg_2 (ac gg_2 (ac gg_2 (ac gg_3 (ac gg_3 (ac gg_3 (ac gg_4 (ac gg_4 (ac gg_4 (ac gg_4 (ac (rfl : false = !true) (ac (rfl : false = !true) (ac (rfl : false = !true) (ac (rfl : false = !true) (ac (rfl : false = !true) (ar false (ac (rfl : false = !true) (ac (rfl : false = !true) (ac (rfl : false = !true) (ac (rfl : false = !true) (ac (rfl : false = !true) (ar false (ac (rfl : false = !true) (ac (rfl : false = !true) (ac (rfl : false = !true) (ac (rfl : false = !true) (ac (rfl : false = !true) (ac (rfl : false = !true) (ar false (ac (rfl : false = !true) (ac (rfl : false = !true) (ar false (ac (rfl : false = !true) (ac (rfl : false = !true) (ar false (ac (rfl : false = !true) (ac (rfl : false = !true) (ar false (ac (rfl : false = !true) (ac (rfl : false = !true) (ar false (ac (rfl : false = !true) (ac (rfl : false = !true) (ar false (ac (rfl : false = !true) (ac (rfl : false = !true) (ar false (ac (rfl : false = !true) (ac (rfl : false = !true) (ac (rfl : false = !true) (ar false (ac (rfl : false = !true) (ac (rfl : false = !true) (ac (rfl : false = !true) (ac (rfl : false = !true) (ac (rfl : false = !true) (ar false (ac (rfl : false = !true) (ac (rfl : false = !true) (ar false (ac (rfl : false = !true) (ac (rfl : false = !true) (ar false an)))))))))))))))))))))))))))))))))))))))))))))))))))))))))))))))))) ?_
      cases h
      exact ⟨rfl, (sw [] [] [.s 0] [] an)⟩
    ·replace h := cond_f gg_3 h
     refine rg [(5, Ht), (9, Ht), (11, Hg), (12, Hg), (13, Hf), (15, Hg), (16, Hg), (17, Hg), (18, Hf), (20, Hg), (21, Hg), (22, Hg), (23, Hg), (24, Hg), (25, Hf), (27, Hg), (28, Hg), (29, Hg), (30, Hg), (31, Hg), (32, Hf), (34, Hg), (35, Hg), (36, Hg), (37, Hg), (38, Hg), (39, Hg), (40, Hf), (42, Hg), (43, Hg), (44, Hf), (46, Hg), (47, Hg), (48, Hf), (50, Hg), (51, Hg), (52, Hf), (54, Hg), (55, Hg), (56, Hf), (58, Hg), (59, Hg), (60, Hf), (62, Hg), (63, Hg), (64, Hf), (66, Hg), (67, Hg), (68, Hg), (69, Hf), (71, Hg), (72, Hg), (73, Hg), (74, Hg), (75, Hg), (76, Hf), (78, Hg), (79, Hg), (80, Hf), (82, Hg), (83, Hg), (84, Hf)] [0] [] 11 [.bool false] [] hmix (ac gg_1 (ac gg_1 (ac gg_1 (ac gg_2 (ac gg_2 (ac gg_2 (ac gg_3 (ac gg_3 (ac gg_3 (ac (rfl : false = !true) (ac (rfl : false = !true) (ac (rfl : false = !true) (ar false (ac (rfl : false = !true) (ac (rfl : false = !true) (ac (rfl : false = !true) (ac (rfl : false = !true) (ac (rfl : false = !true) (ar false (ac (rfl : false = !true) (ac (rfl : false = !true) (ac (rfl : false = !true) (ac (rfl : false = !true) (ac (rfl : false = !true) (ar false (ac (rfl : false = !true) (ac (rfl : false = !true) (ac (rfl : false = !true) (ac (rfl : false = !true) (ac (rfl : false = !true) (ac (rfl : false = !true) (ar false (ac (rfl : false = !true) (ac (rfl : false = !true) (ar false (ac (rfl : false = !true) (ac (rfl : false = !true) (ar false (ac (rfl : false = !true) (ac (rfl : false = !true) (ar false (ac (rfl : false = !true) (ac (rfl : false = !true) (ar false (ac (rfl : false = !true) (ac (rfl : false = !true) (ar false (ac (rfl : false = !true) (ac (rfl : false = !true) (ar false (ac (rfl : false = !true) (ac (rfl : false = !true) (ac (rfl : false = !true) (ar false (ac (rfl : false = !true) (ac (rfl : false = !true) (ac (rfl : false = !true) (ac (rfl : false = !true) (ac (rfl : false = !true) (ar false (ac (rfl : false = !true) (ac (rfl : false = !true) (ar false (ac (rfl : false = !true) (ac (rfl : false = !true) (ar false an)))))))))))))))))))))))))))))))))))))))))))))))))))))))))))))))))) ?_
     cases h
     exact ⟨rfl, (sw [] [] [.s 0] [] an)⟩
   ·replace h := cond_f gg_2 h
    refine rg [(5, Ht), (7, Hg), (8, Hg), (9, Hf), (11, Hg), (12, Hg), (13, Hf), (15, Hg), (16, Hg), (17, Hg), (18, Hf), (20, Hg), (21, Hg), (22, Hg), (23, Hg), (24, Hg), (25, Hf), (27, Hg), (28, Hg), (29, Hg), (30, Hg), (31, Hg), (32, Hf), (34, Hg), (35, Hg), (36, Hg), (37, Hg), (38, Hg), (39, Hg), (40, Hf), (42, Hg), (43, Hg), (44, Hf), (46, Hg), (47, Hg), (48, Hf), (50, Hg), (51, Hg), (52, Hf), (54, Hg), (55, Hg), (56, Hf), (58, Hg), (59, Hg), (60, Hf), (62, Hg), (63, Hg), (64, Hf), (66, Hg), (67, Hg), (68, Hg), (69, Hf), (71, Hg), (72, Hg), (73, Hg), (74, Hg), (75, Hg), (76, Hf), (78, Hg), (79, Hg), (80, Hf), (82, Hg), (83, Hg), (84, Hf)] [0] [] 11 [.bool false] [] hmix (ac gg_1 (ac gg_1 (ac gg_1 (ac gg_2 (ac gg_2 (ac gg_2 (ac (rfl : false = !true) (ac (rfl : false = !true) (ar false (ac (rfl : false = !true) (ac (rfl : false = !true) (ac (rfl : false = !true) (ar false (ac (rfl : false = !true) (ac (rfl : false = !true) (ac (rfl : false = !true) (ac (rfl : false = !true) (ac (rfl : false = !true) (ar false (ac (rfl : false = !true) (ac (rfl : false = !true) (ac (rfl : false = !true) (ac (rfl : false = !true) (ac (rfl : false = !true) (ar false (ac (rfl : false = !true) (ac (rfl : false = !true) (ac (rfl : false = !true) (ac (rfl : false = !true) (ac (rfl : false = !true) (ac (rfl : false = !true) (ar false (ac (rfl : false = !true) (ac (rfl : false = !true) (ar false (ac (rfl : false = !true) (ac (rfl : false = !true) (ar false (ac (rfl : false = !true) (ac (rfl : false = !true) (ar false (ac (rfl : false = !true) (ac (rfl : false = !true) (ar false (ac (rfl : false = !true) (ac (rfl : false = !true) (ar false (ac (rfl : false = !true) (ac (rfl : false = !true) (ar false (ac (rfl : false = !true) (ac (rfl : false = !true) (ac (rfl : false = !true) (ar false (ac (rfl : false = !true) (ac (rfl : false = !true) (ac (rfl : false = !true) (ac (rfl : false = !true) (ac (rfl : false = !true) (ar false (ac (rfl : false = !true) (ac (rfl : false = !true) (ar false (ac (rfl : false = !true) (ac (rfl : false = !true) (ar false an)))))))))))))))))))))))))))))))))))))))))))))))))))))))))))))))))) ?_
    cases h
    exact ⟨rfl, (sw [] [] [.s 0] [] an)⟩
  ·replace h := cond_f gg_1 h
   refine rg [(3, Hg), (4, Hg), (5, Hf), (7, Hg), (8, Hg), (9, Hf), (11, Hg), (12, Hg), (13, Hf), (15, Hg), (16, Hg), (17, Hg), (18, Hf), (20, Hg), (21, Hg), (22, Hg), (23, Hg), (24, Hg), (25, Hf), (27, Hg), (28, Hg), (29, Hg), (30, Hg), (31, Hg), (32, Hf), (34, Hg), (35, Hg), (36, Hg), (37, Hg), (38, Hg), (39, Hg), (40, Hf), (42, Hg), (43, Hg), (44, Hf), (46, Hg), (47, Hg), (48, Hf), (50, Hg), (51, Hg), (52, Hf), (54, Hg), (55, Hg), (56, Hf), (58, Hg), (59, Hg), (60, Hf), (62, Hg), (63, Hg), (64, Hf), (66, Hg), (67, Hg), (68, Hg), (69, Hf), (71, Hg), (72, Hg), (73, Hg), (74, Hg), (75, Hg), (76, Hf), (78, Hg), (79, Hg), (80, Hf), (82, Hg), (83, Hg), (84, Hf)] [0] [] 11 [.bool false] [] hmix (ac gg_1 (ac gg_1 (ac gg_1 (ac (rfl : false = !true) (ac (rfl : false = !true) (ar false (ac (rfl : false = !true) (ac (rfl : false = !true) (ar false (ac (rfl : false = !true) (ac (rfl : false = !true) (ac (rfl : false = !true) (ar false (ac (rfl : false = !true) (ac (rfl : false = !true) (ac (rfl : false = !true) (ac (rfl : false = !true) (ac (rfl : false = !true) (ar false (ac (rfl : false = !true) (ac (rfl : false = !true) (ac (rfl : false = !true) (ac (rfl : false = !true) (ac (rfl : false = !true) (ar false (ac (rfl : false = !true) (ac (rfl : false = !true) (ac (rfl : false = !true) (ac (rfl : false = !true) (ac (rfl : false = !true) (ac (rfl : false = !true) (ar false (ac (rfl : false = !true) (ac (rfl : false = !true) (ar false (ac (rfl : false = !true) (ac (rfl : false = !true) (ar false (ac (rfl : false = !true) (ac (rfl : false = !true) (ar false (ac (rfl : false = !true) (ac (rfl : false = !true) (ar false (ac (rfl : false = !true) (ac (rfl : false = !true) (ar false (ac (rfl : false = !true) (ac (rfl : false = !true) (ar false (ac (rfl : false = !true) (ac (rfl : false = !true) (ac (rfl : false = !true) (ar false (ac (rfl : false = !true) (ac (rfl : false = !true) (ac (rfl : false = !true) (ac (rfl : false = !true) (ac (rfl : false = !true) (ar false (ac (rfl : false = !true) (ac (rfl : false = !true) (ar false (ac (rfl : false = !true) (ac (rfl : false = !true) (ar false an)))))))))))))))))))))))))))))))))))))))))))))))))))))))))))))))))) ?_
   cases h
   exact ⟨rfl, (sw [] [] [.s 0] [] an)⟩
 refine rt ?_
 cases h
 exact ⟨.inr rfl, Nat.le_of_ble_eq_true rfl, by kernel_rfl⟩

theorem R06_letter_ok (F : Nat) (c_1 : Int) (r : Bool) (h : R06_letter F c_1 = some r) : TripleG prog 71 [] [] [Iu c_1] [] (.bool r) := by
 refine triple_intro (fn := Go.Proofs.Try.f71) (code := codeOf Go.Proofs.Try.f71) (by kernel_rfl) (by kernel_rfl) (Nat.le_of_ble_eq_true (by kernel_rfl)) ?_
 unfold R06_letter at h
 refine sr [] [0] [] 0 [Iu c_1] [] hmix an ?_
 refine sq ?_
 refine sq ?_
 refine aw_mid (mk [(0, Iu c_1), (26, .bool (bif decide (c_1 ≥ (97 : Int)) then (decide (c_1 ≤ (122 : Int)) || (bif decide (c_1 ≥ (65 : Int)) then (decide (c_1 ≤ (90 : Int)) || (decide (c_1 ≥ (48 : Int)) && decide (c_1 ≤ (57 : Int)))) else (decide (c_1 ≥ (48 : Int)) && decide (c_1 ≤ (57 : Int))))) else (bif decide (c_1 ≥ (65 : Int)) then (decide (c_1 ≤ (90 : Int)) || (decide (c_1 ≥ (48 : Int)) && decide (c_1 ≤ (57 : Int)))) else (decide (c_1 ≥ (48 : Int)) && decide (c_1 ≤ (57 : Int))))))] [] 0) ?_ ?_
 ·rcases bft (decide (c_1 ≥ (97 : Int))) with gg_1 | gg_1
  ·rcases bft (decide (c_1 ≤ (122 : Int))) with gg_2 | gg_2
   ·refine rg [(5, Ht), (7, Hg), (8, Hg), (9, Hg), (12, Hg), (13, Ht), (15, Hg), (16, Hg), (17, Hg), (20, Hg), (21, Ht)] [0, 26] [] 0 [Iu c_1, .bool true] [] hmix (ac gg_1 (ac gg_1 (ac gg_1 (ac gg_2 (ac gg_2 (ac gg_2 (ac gg_2 (ac gg_2 (ax (ax (ax (ax (ar true an))))))))))))) ?_
    exact ⟨rfl, (sw [] [] [.s 0, .a 26 (.bool (bif decide (c_1 ≥ (97 : Int)) then (decide (c_1 ≤ (122 : Int)) || (bif decide (c_1 ≥ (65 : Int)) then (decide (c_1 ≤ (90 : Int)) || (decide (c_1 ≥ (48 : Int)) && decide (c_1 ≤ (57 : Int)))) else (decide (c_1 ≥ (48 : Int)) && decide (c_1 ≤ (57 : Int))))) else (bif decide (c_1 ≥ (65 : Int)) then (decide (c_1 ≤ (90 : Int)) || (decide (c_1 ≥ (48 : Int)) && decide (c_1 ≤ (57 : Int)))) else (decide (c_1 ≥ (48 : Int)) && decide (c_1 ≤ (57 : Int))))))] [] (ac (congrArg AV.bool (ctr gg_1 (ort gg_2)) : (.bool true : AV) = .bool (bif decide (c_1 ≥ (97 : Int)) then (decide (c_1 ≤ (122 : Int)) || (bif decide (c_1 ≥ (65 : Int)) then (decide (c_1 ≤ (90 : Int)) || (decide (c_1 ≥ (48 : Int)) && decide (c_1 ≤ (57 : Int)))) else (decide (c_1 ≥ (48 : Int)) && decide (c_1 ≤ (57 : Int))))) else (bif decide (c_1 ≥ (65 : Int)) then (decide (c_1 ≤ (90 : Int)) || (decide (c_1 ≥ (48 : Int)) && decide (c_1 ≤ (57 : Int)))) else (decide (c_1 ≥ (48 : Int)) && decide (c_1 ≤ (57 : Int)))))) an))⟩
   ·rcases bft (decide (c_1 ≥ (65 : Int))) with gg_3 | gg_3
    ·rcases bft (decide (c_1 ≤ (90 : Int))) with gg_4 | gg_4
     ·refine rg [(5, Ht), (12, Ht), (13, Hf), (15, Hg), (16, Hg), (17, Hg), (20, Hg), (21, Ht)] [0, 26] [] 0 [Iu c_1, .bool true] [] hmix (ac gg_1 (ac gg_1 (ac gg_1 (ac gg_2 (ac gg_2 (ac gg_2 (ac gg_3 (ac gg_3 (ac gg_2 (ac gg_3 (ac gg_2 (ac gg_4 (ac gg_4 (ac gg_4 (ac gg_4 (ac gg_4 an)))))))))))))))) ?_
      exact ⟨rfl, (sw [] [] [.s 0, .a 26 (.bool (bif decide (c_1 ≥ (97 : Int)) then (decide (c_1 ≤ (122 : Int)) || (bif decide (c_1 ≥ (65 : Int)) then (decide (c_1 ≤ (90 : Int)) || (decide (c_1 ≥ (48 : Int)) && decide (c_1 ≤ (57 : Int)))) else (decide (c_1 ≥ (48 : Int)) && decide (c_1 ≤ (57 : Int))))) else (bif decide (c_1 ≥ (65 : Int)) then (decide (c_1 ≤ (90 : Int)) || (decide (c_1 ≥ (48 : Int)) && decide (c_1 ≤ (57 : Int)))) else (decide (c_1 ≥ (48 : Int)) && decide (c_1 ≤ (57 : Int))))))] [] (ac (congrArg AV.bool (ctr gg_1 (orf gg_2 (ctr gg_3 (ort gg_4)))) : (.bool true : AV) = .bool (bif decide (c_1 ≥ (97 : Int)) then (decide (c_1 ≤ (122 : Int)) || (bif decide (c_1 ≥ (65 : Int)) then (decide (c_1 ≤ (90 : Int)) || (decide (c_1 ≥ (48 : Int)) && decide (c_1 ≤ (57 : Int)))) else (decide (c_1 ≥ (48 : Int)) && decide (c_1 ≤ (57 : Int))))) else (bif decide (c_1 ≥ (65 : Int)) then (decide (c_1 ≤ (90 : Int)) || (decide (c_1 ≥ (48 : Int)) && decide (c_1 ≤ (57 : Int)))) else (decide (c_1 ≥ (48 : Int)) && decide (c_1 ≤ (57 : Int)))))) an))⟩
     ·rcases bft (decide (c_1 ≥ (48 : Int))) with gg_5 | gg_5
      ·refine rg [(5, Ht), (12, Ht), (13, Hf), (20, Ht), (21, Hf)] [0, 26] [] 0 [Iu c_1, .bool (decide (c_1 ≤ (57 : Int)))] [] hmix (ac gg_1 (ac gg_1 (ac gg_1 (ac gg_2 (ac gg_2 (ac gg_2 (ac gg_3 (ac gg_3 (ac gg_2 (ac gg_3 (ac gg_2 (ac gg_4 (ac gg_4 (ac gg_4 (ac gg_5 (ac gg_5 (ac gg_4 (ac gg_5 (ac gg_4 an))))))))))))))))))) ?_
       exact ⟨rfl, (sw [] [] [.s 0, .a 26 (.bool (bif decide (c_1 ≥ (97 : Int)) then (decide (c_1 ≤ (122 : Int)) || (bif decide (c_1 ≥ (65 : Int)) then (decide (c_1 ≤ (90 : Int)) || (decide (c_1 ≥ (48 : Int)) && decide (c_1 ≤ (57 : Int)))) else (decide (c_1 ≥ (48 : Int)) && decide (c_1 ≤ (57 : Int))))) else (bif decide (c_1 ≥ (65 : Int)) then (decide (c_1 ≤ (90 : Int)) || (decide (c_1 ≥ (48 : Int)) && decide (c_1 ≤ (57 : Int)))) else (decide (c_1 ≥ (48 : Int)) && decide (c_1 ≤ (57 : Int))))))] [] (ac (congrArg AV.bool (ctr gg_1 (orf gg_2 (ctr gg_3 (orf gg_4 (andt gg_5 rfl))))) : (.bool (decide (c_1 ≤ (57 : Int))) : AV) = .bool (bif decide (c_1 ≥ (97 : Int)) then (decide (c_1 ≤ (122 : Int)) || (bif decide (c_1 ≥ (65 : Int)) then (decide (c_1 ≤ (90 : Int)) || (decide (c_1 ≥ (48 : Int)) && decide (c_1 ≤ (57 : Int)))) else (decide (c_1 ≥ (48 : Int)) && decide (c_1 ≤ (57 : Int))))) else (bif decide (c_1 ≥ (65 : Int)) then (decide (c_1 ≤ (90 : Int)) || (decide (c_1 ≥ (48 : Int)) && decide (c_1 ≤ (57 : Int)))) else (decide (c_1 ≥ (48 : Int)) && decide (c_1 ≤ (57 : Int)))))) an))⟩
      ·refine rg [(5, Ht), (12, Ht), (13, Hf), (18, Hg), (19, Hg), (20, Hf), (21, Hf)] [0, 26] [] 0 [Iu c_1, .bool false] [] hmix (ac gg_1 (ac gg_1 (ac gg_1 (ac gg_2 (ac gg_2 (ac gg_2 (ac gg_3 (ac gg_3 (ac gg_2 (ac gg_3 (ac gg_2 (ac gg_4 (ac gg_4 (ac gg_4 (ac gg_5 (ac gg_5 (ac gg_4 (ac gg_5 (ac gg_4 an))))))))))))))))))) ?_
       exact ⟨rfl, (sw [] [] [.s 0, .a 26 (.bool (bif decide (c_1 ≥ (97 : Int)) then (decide (c_1 ≤ (122 : Int)) || (bif decide (c_1 ≥ (65 : Int)) then (decide (c_1 ≤ (90 : Int)) || (decide (c_1 ≥ (48 : Int)) && decide (c_1 ≤ (57 : Int)))) else (decide (c_1 ≥ (48 : Int)) && decide (c_1 ≤ (57 : Int))))) else (bif decide (c_1 ≥ (65 : Int)) then (decide (c_1 ≤ (90 : Int)) || (decide (c_1 ≥ (48 : Int)) && decide (c_1 ≤ (57 : Int)))) else (decide (c_1 ≥ (48 : Int)) && decide (c_1 ≤ (57 : Int))))))] [] (ac (congrArg AV.bool (ctr gg_1 (orf gg_2 (ctr gg_3 (orf gg_4 (andf gg_5))))) : (.bool false : AV) = .bool (bif decide (c_1 ≥ (97 : Int)) then (decide (c_1 ≤ (122 : Int)) || (bif decide (c_1 ≥ (65 : Int)) then (decide (c_1 ≤ (90 : Int)) || (decide (c_1 ≥ (48 : Int)) && decide (c_1 ≤ (57 : Int)))) else (decide (c_1 ≥ (48 : Int)) && decide (c_1 ≤ (57 : Int))))) else (bif decide (c_1 ≥ (65 : Int)) then (decide (c_1 ≤ (90 : Int)) || (decide (c_1 ≥ (48 : Int)) && decide (c_1 ≤ (57 : Int)))) else (decide (c_1 ≥ (48 : Int)) && decide (c_1 ≤ (57 : Int)))))) an))⟩
    ·rcases bft (decide (c_1 ≥ (48 : Int))) with gg_6 | gg_6
     ·refine rg [(5, Ht), (10, Hg), (11, Hg), (12, Hf), (13, Hf), (20, Ht), (21, Hf)] [0, 26] [] 0 [Iu c_1, .bool (decide (c_1 ≤ (57 : Int)))] [] hmix (ac gg_1 (ac gg_1 (ac gg_1 (ac gg_2 (ac gg_2 (ac gg_2 (ac gg_3 (ac gg_3 (ac gg_2 (ac gg_3 (ac gg_2 (ar false (ar false (ar false (ac gg_6 (ac gg_6 (ar false (ac gg_6 (ar false an))))))))))))))))))) ?_
      exact ⟨rfl, (sw [] [] [.s 0, .a 26 (.bool (bif decide (c_1 ≥ (97 : Int)) then (decide (c_1 ≤ (122 : Int)) || (bif decide (c_1 ≥ (65 : Int)) then (decide (c_1 ≤ (90 : Int)) || (decide (c_1 ≥ (48 : Int)) && decide (c_1 ≤ (57 : Int)))) else (decide (c_1 ≥ (48 : Int)) && decide (c_1 ≤ (57 : Int))))) else (bif decide (c_1 ≥ (65 : Int)) then (decide (c_1 ≤ (90 : Int)) || (decide (c_1 ≥ (48 : Int)) && decide (c_1 ≤ (57 : Int)))) else (decide (c_1 ≥ (48 : Int)) && decide (c_1 ≤ (57 : Int))))))] [] (ac (congrArg AV.bool (ctr gg_1 (orf gg_2 (cfr gg_3 (andt gg_6 rfl)))) : (.bool (decide (c_1 ≤ (57 : Int))) : AV) = .bool (bif decide (c_1 ≥ (97 : Int)) then (decide (c_1 ≤ (122 : Int)) || (bif decide (c_1 ≥ (65 : Int)) then (decide (c_1 ≤ (90 : Int)) || (decide (c_1 ≥ (48 : Int)) && decide (c_1 ≤ (57 : Int)))) else (decide (c_1 ≥ (48 : Int)) && decide (c_1 ≤ (57 : Int))))) else (bif decide (c_1 ≥ (65 : Int)) then (decide (c_1 ≤ (90 : Int)) || (decide (c_1 ≥ (48 : Int)) && decide (c_1 ≤ (57 : Int)))) else (decide (c_1 ≥ (48 : Int)) && decide (c_1 ≤ (57 : Int)))))) an))⟩
     ·refine rg [(5, Ht), (10, Hg), (11, Hg), (12, Hf), (13, Hf), (18, Hg), (19, Hg), (20, Hf), (21, Hf)] [0, 26] [] 0 [Iu c_1, .bool false] [] hmix (ac gg_1 (ac gg_1 (ac gg_1 (ac gg_2 (ac gg_2 (ac gg_2 (ac gg_3 (ac gg_3 (ac gg_2 (ac gg_3 (ac gg_2 (ar false (ar false (ar false (ac gg_6 (ac gg_6 (ar false (ac gg_6 (ar false an))))))))))))))))))) ?_
      exact ⟨rfl, (sw [] [] [.s 0, .a 26 (.bool (bif decide (c_1 ≥ (97 : Int)) then (decide (c_1 ≤ (122 : Int)) || (bif decide (c_1 ≥ (65 : Int)) then (decide (c_1 ≤ (90 : Int)) || (decide (c_1 ≥ (48 : Int)) && decide (c_1 ≤ (57 : Int)))) else (decide (c_1 ≥ (48 : Int)) && decide (c_1 ≤ (57 : Int))))) else (bif decide (c_1 ≥ (65 : Int)) then (decide (c_1 ≤ (90 : Int)) || (decide (c_1 ≥ (48 : Int)) && decide (c_1 ≤ (57 : Int)))) else (decide (c_1 ≥ (48 : Int)) && decide (c_1 ≤ (57 : Int))))))] [] (ac (congrArg AV.bool (ctr gg_1 (orf gg_2 (cfr gg_3 (andf gg_6)))) : (.bool false : AV) = .bool (bif decide (c_1 ≥ (97 : Int)) then (decide (c_1 ≤ (122 : Int)) || (bif decide (c_1 ≥ (65 : Int)) then (decide (c_1 ≤ (90 : Int)) || (decide (c_1 ≥ (48 : Int)) && decide (c_1 ≤ (57 : Int)))) else (decide (c_1 ≥ (48 : Int)) && decide (c_1 ≤ (57 : Int))))) else (bif decide (c_1 ≥ (65 : Int)) then (decide (c_1 ≤ (90 : Int)) || (decide (c_1 ≥ (48 : Int)) && decide (c_1 ≤ (57 : Int)))) else (decide (c_1 ≥ (48 : Int)) && decide (c_1 ≤ (57 : Int)))))) an))⟩
  ·rcases bft (decide (c_1 ≥ (65 : Int))) with gg_7 | gg_7
   ·rcases bft (decide (c_1 ≤ (90 : Int))) with gg_8 | gg_8
    ·refine rg [(3, Hg), (4, Hg), (5, Hf), (12, Ht), (13, Hf), (15, Hg), (16, Hg), (17, Hg), (20, Hg), (21, Ht)] [0, 26] [] 0 [Iu c_1, .bool true] [] hmix (ac gg_1 (ac gg_1 (ac gg_1 (ar false (ar false (ar false (ac gg_7 (ac gg_7 (ar false (ac gg_7 (ar false (ac gg_8 (ac gg_8 (ac gg_8 (ac gg_8 (ac gg_8 an)))))))))))))))) ?_
     exact ⟨rfl, (sw [] [] [.s 0, .a 26 (.bool (bif decide (c_1 ≥ (97 : Int)) then (decide (c_1 ≤ (122 : Int)) || (bif decide (c_1 ≥ (65 : Int)) then (decide (c_1 ≤ (90 : Int)) || (decide (c_1 ≥ (48 : Int)) && decide (c_1 ≤ (57 : Int)))) else (decide (c_1 ≥ (48 : Int)) && decide (c_1 ≤ (57 : Int))))) else (bif decide (c_1 ≥ (65 : Int)) then (decide (c_1 ≤ (90 : Int)) || (decide (c_1 ≥ (48 : Int)) && decide (c_1 ≤ (57 : Int)))) else (decide (c_1 ≥ (48 : Int)) && decide (c_1 ≤ (57 : Int))))))] [] (ac (congrArg AV.bool (cfr gg_1 (ctr gg_7 (ort gg_8))) : (.bool true : AV) = .bool (bif decide (c_1 ≥ (97 : Int)) then (decide (c_1 ≤ (122 : Int)) || (bif decide (c_1 ≥ (65 : Int)) then (decide (c_1 ≤ (90 : Int)) || (decide (c_1 ≥ (48 : Int)) && decide (c_1 ≤ (57 : Int)))) else (decide (c_1 ≥ (48 : Int)) && decide (c_1 ≤ (57 : Int))))) else (bif decide (c_1 ≥ (65 : Int)) then (decide (c_1 ≤ (90 : Int)) || (decide (c_1 ≥ (48 : Int)) && decide (c_1 ≤ (57 : Int)))) else (decide (c_1 ≥ (48 : Int)) && decide (c_1 ≤ (57 : Int)))))) an))⟩
    ·rcases bft (decide (c_1 ≥ (48 : Int))) with gg_9 | gg_9
     ·refine rg [(3, Hg), (4, Hg), (5, Hf), (12, Ht), (13, Hf), (20, Ht), (21, Hf)] [0, 26] [] 0 [Iu c_1, .bool (decide (c_1 ≤ (57 : Int)))] [] hmix (ac gg_1 (ac gg_1 (ac gg_1 (ar false (ar false (ar false (ac gg_7 (ac gg_7 (ar false (ac gg_7 (ar false (ac gg_8 (ac gg_8 (ac gg_8 (ac gg_9 (ac gg_9 (ac gg_8 (ac gg_9 (ac gg_8 an))))))))))))))))))) ?_
      exact ⟨rfl, (sw [] [] [.s 0, .a 26 (.bool (bif decide (c_1 ≥ (97 : Int)) then (decide (c_1 ≤ (122 : Int)) || (bif decide (c_1 ≥ (65 : Int)) then (decide (c_1 ≤ (90 : Int)) || (decide (c_1 ≥ (48 : Int)) && decide (c_1 ≤ (57 : Int)))) else (decide (c_1 ≥ (48 : Int)) && decide (c_1 ≤ (57 : Int))))) else (bif decide (c_1 ≥ (65 : Int)) then (decide (c_1 ≤ (90 : Int)) || (decide (c_1 ≥ (48 : Int)) && decide (c_1 ≤ (57 : Int)))) else (decide (c_1 ≥ (48 : Int)) && decide (c_1 ≤ (57 : Int))))))] [] (ac (congrArg AV.bool (cfr gg_1 (ctr gg_7 (orf gg_8 (andt gg_9 rfl)))) : (.bool (decide (c_1 ≤ (57 : Int))) : AV) = .bool (bif decide (c_1 ≥ (97 : Int)) then (decide (c_1 ≤ (122 : Int)) || (bif decide (c_1 ≥ (65 : Int)) then (decide (c_1 ≤ (90 : Int)) || (decide (c_1 ≥ (48 : Int)) && decide (c_1 ≤ (57 : Int)))) else (decide (c_1 ≥ (48 : Int)) && decide (c_1 ≤ (57 : Int))))) else (bif decide (c_1 ≥ (65 : Int)) then (decide (c_1 ≤ (90 : Int)) || (decide (c_1 ≥ (48 : Int)) && decide (c_1 ≤ (57 : Int)))) else (decide (c_1 ≥ (48 : Int)) && decide (c_1 ≤ (57 : Int)))))) an))⟩
     ·refine rg [(3, Hg), (4, Hg), (5, Hf), (12, Ht), (13, Hf), (18, Hg), (19, Hg), (20, Hf), (21, Hf)] [0, 26] [] 0 [Iu c_1, .bool false] [] hmix (ac gg_1 (ac gg_1 (ac gg_1 (ar false (ar false (ar false (ac gg_7 (ac gg_7 (ar false (ac gg_7 (ar false (ac gg_8 (ac gg_8 (ac gg_8 (ac gg_9 (ac gg_9 (ac gg_8 (ac gg_9 (ac gg_8 an))))))))))))))))))) ?_
      exact ⟨rfl, (sw [] [] [.s 0, .a 26 (.bool (bif decide (c_1 ≥ (97 : Int)) then (decide (c_1 ≤ (122 : Int)) || (bif decide (c_1 ≥ (65 : Int)) then (decide (c_1 ≤ (90 : Int)) || (decide (c_1 ≥ (48 : Int)) && decide (c_1 ≤ (57 : Int)))) else (decide (c_1 ≥ (48 : Int)) && decide (c_1 ≤ (57 : Int))))) else (bif decide (c_1 ≥ (65 : Int)) then (decide (c_1 ≤ (90 : Int)) || (decide (c_1 ≥ (48 : Int)) && decide (c_1 ≤ (57 : Int)))) else (decide (c_1 ≥ (48 : Int)) && decide (c_1 ≤ (57 : Int))))))] [] (ac (congrArg AV.bool (cfr gg_1 (ctr gg_7 (orf gg_8 (andf gg_9)))) : (.bool false : AV) = .bool (bif decide (c_1 ≥ (97 : Int)) then (decide (c_1 ≤ (122 : Int)) || (bif decide (c_1 ≥ (65 : Int)) then (decide (c_1 ≤ (90 : Int)) || (decide (c_1 ≥ (48 : Int)) && decide (c_1 ≤ (57 : Int)))) else (decide (c_1 ≥ (48 : Int)) && decide (c_1 ≤ (57 : Int))))) else (bif decide (c_1 ≥ (65 : Int)) then (decide (c_1 ≤ (90 : Int)) || (decide (c_1 ≥ (48 : Int)) && decide (c_1 ≤ (57 : Int)))) else (decide (c_1 ≥ (48 : Int)) && decide (c_1 ≤ (57 : Int)))))) an))⟩
   ·rcases bft (decide (c_1 ≥ (48 : Int))) with gg_10 | gg_10
    ·refine rg [(3, Hg), (4, Hg), (5, Hf), (10, Hg), (11, Hg), (12, Hf), (13, Hf), (20, Ht), (21, Hf)] [0, 26] [] 0 [Iu c_1, .bool (decide (c_1 ≤ (57 : Int)))] [] hmix (ac gg_1 (ac gg_1 (ac gg_1 (ar false (ar false (ar false (ac gg_7 (ac gg_7 (ar false (ac gg_7 (ar false (ar false (ar false (ar false (ac gg_10 (ac gg_10 (ar false (ac gg_10 (ar false an))))))))))))))))))) ?_
     exact ⟨rfl, (sw [] [] [.s 0, .a 26 (.bool (bif decide (c_1 ≥ (97 : Int)) then (decide (c_1 ≤ (122 : Int)) || (bif decide (c_1 ≥ (65 : Int)) then (decide (c_1 ≤ (90 : Int)) || (decide (c_1 ≥ (48 : Int)) && decide (c_1 ≤ (57 : Int)))) else (decide (c_1 ≥ (48 : Int)) && decide (c_1 ≤ (57 : Int))))) else (bif decide (c_1 ≥ (65 : Int)) then (decide (c_1 ≤ (90 : Int)) || (decide (c_1 ≥ (48 : Int)) && decide (c_1 ≤ (57 : Int)))) else (decide (c_1 ≥ (48 : Int)) && decide (c_1 ≤ (57 : Int))))))] [] (ac (congrArg AV.bool (cfr gg_1 (cfr gg_7 (andt gg_10 rfl))) : (.bool (decide (c_1 ≤ (57 : Int))) : AV) = .bool (bif decide (c_1 ≥ (97 : Int)) then (decide (c_1 ≤ (122 : Int)) || (bif decide (c_1 ≥ (65 : Int)) then (decide (c_1 ≤ (90 : Int)) || (decide (c_1 ≥ (48 : Int)) && decide (c_1 ≤ (57 : Int)))) else (decide (c_1 ≥ (48 : Int)) && decide (c_1 ≤ (57 : Int))))) else (bif decide (c_1 ≥ (65 : Int)) then (decide (c_1 ≤ (90 : Int)) || (decide (c_1 ≥ (48 : Int)) && decide (c_1 ≤ (57 : Int)))) else (decide (c_1 ≥ (48 : Int)) && decide (c_1 ≤ (57 : Int)))))) an))⟩
    ·refine rg [(3, Hg), (4, Hg), (5, Hf), (10, Hg), (11, Hg), (12, Hf), (13, Hf), (18, Hg), (19, Hg), (20, Hf), (21, Hf)] [0, 26] [] 0 [Iu c_1, .bool false] [] hmix (ac gg_1 (ac gg_1 (ac gg_1 (ar false (ar false (ar false (ac gg_7 (ac gg_7 (ar false (ac gg_7 (ar false (ar false (ar false (ar false (ac gg_10 (ac gg_10 (ar false (ac gg_10 (ar false an))))))))))))))))))) ?_
     exact ⟨rfl, (sw [] [] [.s 0, .a 26 (.bool (bif decide (c_1 ≥ (97 : Int)) then (decide (c_1 ≤ (122 : Int)) || (bif decide (c_1 ≥ (65 : Int)) then (decide (c_1 ≤ (90 : Int)) || (decide (c_1 ≥ (48 : Int)) && decide (c_1 ≤ (57 : Int)))) else (decide (c_1 ≥ (48 : Int)) && decide (c_1 ≤ (57 : Int))))) else (bif decide (c_1 ≥ (65 : Int)) then (decide (c_1 ≤ (90 : Int)) || (decide (c_1 ≥ (48 : Int)) && decide (c_1 ≤ (57 : Int)))) else (decide (c_1 ≥ (48 : Int)) && decide (c_1 ≤ (57 : Int))))))] [] (ac (congrArg AV.bool (cfr gg_1 (cfr gg_7 (andf gg_10))) : (.bool false : AV) = .bool (bif decide (c_1 ≥ (97 : Int)) then (decide (c_1 ≤ (122 : Int)) || (bif decide (c_1 ≥ (65 : Int)) then (decide (c_1 ≤ (90 : Int)) || (decide (c_1 ≥ (48 : Int)) && decide (c_1 ≤ (57 : Int)))) else (decide (c_1 ≥ (48 : Int)) && decide (c_1 ≤ (57 : Int))))) else (bif decide (c_1 ≥ (65 : Int)) then (decide (c_1 ≤ (90 : Int)) || (decide (c_1 ≥ (48 : Int)) && decide (c_1 ≤ (57 : Int)))) else (decide (c_1 ≥ (48 : Int)) && decide (c_1 ≤ (57 : Int)))))) an))⟩
 refine cd 26 (bif decide (c_1 ≥ (97 : Int)) then (decide (c_1 ≤ (122 : Int)) || (bif decide (c_1 ≥ (65 : Int)) then (decide (c_1 ≤ (90 : Int)) || (decide (c_1 ≥ (48 : Int)) && decide (c_1 ≤ (57 : Int)))) else (decide (c_1 ≥ (48 : Int)) && decide (c_1 ≤ (57 : Int))))) else (bif decide (c_1 ≥ (65 : Int)) then (decide (c_1 ≤ (90 : Int)) || (decide (c_1 ≥ (48 : Int)) && decide (c_1 ≤ (57 : Int)))) else (decide (c_1 ≥ (48 : Int)) && decide (c_1 ≤ (57 : Int))))) ?_ ?_
 ·intro g_1; replace h := cond_t g_1 h
  refine sr [] [2] [] 0 [.bool true] [] hmix an ?_
  refine rt ?_
  cases h
  exact ⟨.inr rfl, Nat.le_of_ble_eq_true rfl, by kernel_rfl⟩
 intro g_1; replace h := cond_f g_1 h
 refine sk ?_
 refine sr [] [0, 3] [] 0 [Iu c_1, .str ([95, 46, 58, 47, 60, 62, 36, 42, 126, 45] : List Int)] [] hmix an ?_
 refine sq ?_
 refine sr [] [0, 3, 4] [] 0 [Iu c_1, .str ([95, 46, 58, 47, 60, 62, 36, 42, 126, 45] : List Int), Ii 0] [] hmix an ?_
 obtain ⟨o_1, h_1, h⟩ := bind_some h
 refine aw_conv (K1 := (fun e st' => match o_1 with | (.inl q0) => e = .normal ∧ Sub 0 st' (mk [] [] 0) | (.inr q1) => e = .ret ∧ FinR prog Go.Proofs.Try.f71 0 [] (.bool q1) st')) ?_ ?_
 ·replace h := h_1
  refine aw_block (id := 0) (by kernel_rfl) ?_
  refine wk [] [] [.s 0, .s 3, .s 4] [] [(0, Iu c_1), (3, .str ([95, 46, 58, 47, 60, 62, 36, 42, 126, 45] : List Int)), (4, Ii 0)] [] an ?_
  refine aw_loopF (fun n st => ∃ (i_1 : Int), st = mk [(0, Iu c_1), (3, .str ([95, 46, 58, 47, 60, 62, 36, 42, 126, 45] : List Int)), (4, Ii i_1)] [] 0 ∧ R06_letter_L1 F c_1 n i_1 = some o_1) F (by kernel_rfl) ⟨_, rfl, h⟩ ?_ ?_
  ·rintro _ ⟨_, _, h⟩; exact none_ne (h : (none : Option (Unit ⊕ Bool)) = some o_1)
  rintro n_1 _ ⟨i_1, rfl, h⟩
  replace h : R06_letter_L1_body F c_1 (R06_letter_L1 F c_1 n_1) i_1 = some o_1 := h
  unfold R06_letter_L1_body at h
  refine sq ?_
  refine sr [] [0, 3, 4, 30] [] 0 [Iu c_1, .str ([95, 46, 58, 47, 60, 62, 36, 42, 126, 45] : List Int), Ii i_1, .bool (decide (i_1 < (lN (([95, 46, 58, 47, 60, 62, 36, 42, 126, 45] : List Int)))))] [] hmix an ?_
  refine cd 30 (decide (i_1 < (lN (([95, 46, 58, 47, 60, 62, 36, 42, 126, 45] : List Int))))) ?_ ?_
  rotate_left
  ·intro g_2; replace h := cond_f g_2 h
   refine aw_exit (id := 0) (by kernel_rfl) ?_
   cases h
   exact ⟨rfl, (sw [] [] [] [] an)⟩
  intro g_2; replace h := cond_t g_2 h
  refine sk ?_
  refine sq ?_
  refine aw_block (id := 1) (by kernel_rfl) ?_
  refine sq ?_
  obtain ⟨c_2, h_2, h⟩ := bind_some h
  refine rg [(2, { z := c_2 })] [0, 3, 4, 37] [] 0 [Iu c_1, .str ([95, 46, 58, 47, 60, 62, 36, 42, 126, 45] : List Int), Ii i_1, .bool (c_2 == c_1)] [] hmix (ac h_2 an) ?_
  refine cd 37 (c_2 == c_1) ?_ ?_
  rotate_left
  ·intro g_3; replace h := cond_f g_3 h
   refine sk ?_
   refine rg [] [0, 3, 4] [] 0 [Iu c_1, .str ([95, 46, 58, 47, 60, 62, 36, 42, 126, 45] : List Int), Ii (w_i64 (i_1 + (1 : Int)))] [] hmix an ?_
   exact ⟨_, (sw [] [] [.s 0, .s 3, .s 4] [] an), _, rfl, h⟩
  intro g_3; replace h := cond_t g_3 h
  refine sr [] [2] [] 0 [.bool true] [] hmix an ?_
  refine rt ?_
  cases h
  exact ⟨rfl, Nat.le_of_ble_eq_true rfl, by kernel_rfl⟩
 intro e st1 hk
 rcases o_1 with q_1 | q_2
 rotate_left
 ·obtain ⟨rfl, hf⟩ := hk
  cases h
  exact ⟨st1, Sub.refl _ _, .inr rfl, hf⟩
 obtain ⟨rfl, hs⟩ := hk
 refine ⟨_, hs, ?_⟩
 refine sr [] [2] [] 0 [.bool false] [] hmix an ?_
 refine rt ?_
 cases h
 exact ⟨.inr rfl, Nat.le_of_ble_eq_true rfl, by kernel_rfl⟩

theorem R06_Name_ok (F : Nat) (s_1 : List Int) (r : Int) (h : R06_Name F s_1 = some r) : TripleG prog 66 [] [] [.str s_1] [] (Ii r) := by
 refine triple_intro (fn := Go.Proofs.Try.f66) (code := codeOf Go.Proofs.Try.f66) (by kernel_rfl) (by kernel_rfl) (Nat.le_of_ble_eq_true (by kernel_rfl)) ?_
 unfold R06_Name at h
 refine sr [] [0] [] 0 [.str s_1] [] hmix an ?_
 refine sq ?_
 refine sq ?_
 refine aw_mid (mk [(0, .str s_1), (11, .bool (decide ((lN (s_1)) < (1 : Int)) || decide ((lN (s_1)) > (40 : Int))))] [] 0) ?_ ?_
 ·rcases bft (decide ((lN (s_1)) < (1 : Int))) with gg_1 | gg_1
  ·refine rg [(4, Hg), (5, Hg), (6, Hg), (7, Ht)] [0, 11] [] 0 [.str s_1, .bool true] [] hmix (ac gg_1 (ac gg_1 (ac gg_1 (ac gg_1 an)))) ?_
   exact ⟨rfl, (sw [] [] [.s 0, .a 11 (.bool (decide ((lN (s_1)) < (1 : Int)) || decide ((lN (s_1)) > (40 : Int))))] [] (ac (congrArg AV.bool (ort gg_1) : (.bool true : AV) = .bool (decide ((lN (s_1)) < (1 : Int)) || decide ((lN (s_1)) > (40 : Int)))) an))⟩
  ·refine rg [(7, Hf)] [0, 11] [] 0 [.str s_1, .bool (decide ((lN (s_1)) > (40 : Int)))] [] hmix (ac gg_1 (ac gg_1 (ac gg_1 (ac gg_1 an)))) ?_
   exact ⟨rfl, (sw [] [] [.s 0, .a 11 (.bool (decide ((lN (s_1)) < (1 : Int)) || decide ((lN (s_1)) > (40 : Int))))] [] (ac (congrArg AV.bool (orf gg_1 rfl) : (.bool (decide ((lN (s_1)) > (40 : Int))) : AV) = .bool (decide ((lN (s_1)) < (1 : Int)) || decide ((lN (s_1)) > (40 : Int)))) an))⟩
 refine cd 11 (decide ((lN (s_1)) < (1 : Int)) || decide ((lN (s_1)) > (40 : Int))) ?_ ?_
 ·intro g_1; replace h := cond_t g_1 h
  refine sr [] [2] [] 0 [Ii 3] [] hmix an ?_
  refine rt ?_
  cases h
  exact ⟨.inr rfl, Nat.le_of_ble_eq_true rfl, by kernel_rfl⟩
 intro g_1; replace h := cond_f g_1 h
 refine sk ?_
 refine sq ?_
 refine sr [] [0, 3] [] 0 [.str s_1, Ii 0] [] hmix an ?_
 obtain ⟨o_1, h_1, h⟩ := bind_some h
 refine aw_conv (K1 := (fun e st' => match o_1 with | (.inl q0) => e = .normal ∧ Sub 0 st' (mk [] [] 0) | (.inr q1) => e = .ret ∧ FinR prog Go.Proofs.Try.f66 0 [] (Ii q1) st')) ?_ ?_
 ·replace h := h_1
  refine aw_block (id := 0) (by kernel_rfl) ?_
  refine wk [] [] [.s 0, .s 3] [] [(0, .str s_1), (3, Ii 0)] [] an ?_
  refine aw_loopF (fun n st => ∃ (i_1 : Int), st = mk [(0, .str s_1), (3, Ii i_1)] [] 0 ∧ R06_Name_L1 F s_1 n i_1 = some o_1) F (by kernel_rfl) ⟨_, rfl, h⟩ ?_ ?_
  ·rintro _ ⟨_, _, h⟩; exact none_ne (h : (none : Option (Unit ⊕ Int)) = some o_1)
  rintro n_1 _ ⟨i_1, rfl, h⟩
  replace h : R06_Name_L1_body F s_1 (R06_Name_L1 F s_1 n_1) i_1 = some o_1 := h
  unfold R06_Name_L1_body at h
  refine sq ?_
  refine sr [] [0, 3, 15] [] 0 [.str s_1, Ii i_1, .bool (decide (i_1 < (lN (s_1))))] [] hmix an ?_
  refine cd 15 (decide (i_1 < (lN (s_1)))) ?_ ?_
  rotate_left
  ·intro g_2; replace h := cond_f g_2 h
   refine aw_exit (id := 0) (by kernel_rfl) ?_
   cases h
   exact ⟨rfl, (sw [] [] [] [] an)⟩
  intro g_2; replace h := cond_t g_2 h
  refine sk ?_
  refine sq ?_
  refine aw_block (id := 1) (by kernel_rfl) ?_
  refine sq ?_
  obtain ⟨c_1, h_2, h⟩ := bind_some h
  obtain ⟨r_1, h_3, h⟩ := bind_some h
  refine rg [(2, { z := c_1 }), (3, { av := .bool r_1, l := [Iu c_1] })] [0, 3, 22] [] 0 [.str s_1, Ii i_1, .bool (!r_1)] [] hmix (ac h_2 (ar ([Iu c_1] : List AV) (ac (rfl : ([] : List BoxSt) = []) (ac (R06_letter_ok F c_1 r_1 h_3 : TripleG prog 71 [] [] [Iu c_1] [] (.bool r_1)) an)))) ?_
  refine cd 22 (!r_1) ?_ ?_
  rotate_left
  ·intro g_3; replace h := cond_f g_3 h
   refine sk ?_
   refine rg [] [0, 3] [] 0 [.str s_1, Ii (w_i64 (i_1 + (1 : Int)))] [] hmix an ?_
   exact ⟨_, (sw [] [] [.s 0, .s 3] [] an), _, rfl, h⟩
  intro g_3; replace h := cond_t g_3 h
  refine sr [] [2] [] 0 [Ii 3] [] hmix an ?_
  refine rt ?_
  cases h
  exact ⟨rfl, Nat.le_of_ble_eq_true rfl, by kernel_rfl⟩
 intro e st1 hk
 rcases o_1 with q_1 | q_2
 rotate_left
 ·obtain ⟨rfl, hf⟩ := hk
  cases h
  exact ⟨st1, Sub.refl _ _, .inr rfl, hf⟩
 obtain ⟨rfl, hs⟩ := hk
 refine ⟨_, hs, ?_⟩
 refine sr [] [2] [] 0 [Ii 0] [] hmix an ?_
 refine rt ?_
 cases h
 exact ⟨.inr rfl, Nat.le_of_ble_eq_true rfl, by kernel_rfl⟩

theorem R10_Thread_ok (F : Nat) (t_1 : T_api_Thread) (r : Int) (h : R10_Thread F t_1 = some r) : TripleG prog 54 [] [] [e_T_api_Thread t_1] [] (Ii r) := by
 refine triple_intro (fn := Go.Proofs.Try.f54) (code := codeOf Go.Proofs.Try.f54) (by kernel_rfl) (by kernel_rfl) (Nat.le_of_ble_eq_true (by kernel_rfl)) ?_
 unfold R10_Thread at h
 refine sr [(0, { id := 0 })] [1] [0] 1 [Pp 0] [Vb 60 (v_T_api_Thread t_1)] hmix an ?_
 refine sq ?_
 refine sq ?_
 refine aw_mid (mk [(1, Pp 0), (20, .bool (decide (t_1.Id < (0 : Int)) || (decide (t_1.Id > (1000000000000000 : Int)) || (decide (t_1.Domain < (0 : Int)) || decide (t_1.Domain ≥ (8 : Int))))))] [(0, Vb 60 (v_T_api_Thread t_1))] 1) ?_ ?_
 ·rcases bft (decide (t_1.Id < (0 : Int))) with gg_1 | gg_1
  ·refine rg [(4, Hg), (5, Hg), (6, Hg), (7, Ht), (9, Hg), (10, Hg), (11, Hg), (12, Ht), (14, Hg), (15, Hg), (16, Hg), (17, Ht)] [1, 20] [0] 1 [Pp 0, .bool true] [Vb 60 (v_T_api_Thread t_1)] hmix (ac gg_1 (ac gg_1 (ac gg_1 (ac gg_1 (ax (ax (ax (ar true (ax (ax (ax (ar true an)))))))))))) ?_
   exact ⟨rfl, (sw [0] [] [.s 1, .a 20 (.bool (decide (t_1.Id < (0 : Int)) || (decide (t_1.Id > (1000000000000000 : Int)) || (decide (t_1.Domain < (0 : Int)) || decide (t_1.Domain ≥ (8 : Int))))))] [.s 0] (ac (congrArg AV.bool (ort gg_1) : (.bool true : AV) = .bool (decide (t_1.Id < (0 : Int)) || (decide (t_1.Id > (1000000000000000 : Int)) || (decide (t_1.Domain < (0 : Int)) || decide (t_1.Domain ≥ (8 : Int)))))) an))⟩
  ·rcases bft (decide (t_1.Id > (1000000000000000 : Int))) with gg_2 | gg_2
   ·refine rg [(7, Hf), (9, Hg), (10, Hg), (11, Hg), (12, Ht), (14, Hg), (15, Hg), (16, Hg), (17, Ht)] [1, 20] [0] 1 [Pp 0, .bool true] [Vb 60 (v_T_api_Thread t_1)] hmix (ac gg_1 (ac gg_1 (ac gg_1 (ac gg_1 (ac gg_2 (ac gg_2 (ac gg_2 (ac gg_2 (ax (ax (ax (ar true an)))))))))))) ?_
    exact ⟨rfl, (sw [0] [] [.s 1, .a 20 (.bool (decide (t_1.Id < (0 : Int)) || (decide (t_1.Id > (1000000000000000 : Int)) || (decide (t_1.Domain < (0 : Int)) || decide (t_1.Domain ≥ (8 : Int))))))] [.s 0] (ac (congrArg AV.bool (orf gg_1 (ort gg_2)) : (.bool true : AV) = .bool (decide (t_1.Id < (0 : Int)) || (decide (t_1.Id > (1000000000000000 : Int)) || (decide (t_1.Domain < (0 : Int)) || decide (t_1.Domain ≥ (8 : Int)))))) an))⟩
   ·rcases bft (decide (t_1.Domain < (0 : Int))) with gg_3 | gg_3
    ·refine rg [(7, Hf), (12, Hf), (14, Hg), (15, Hg), (16, Hg), (17, Ht)] [1, 20] [0] 1 [Pp 0, .bool true] [Vb 60 (v_T_api_Thread t_1)] hmix (ac gg_1 (ac gg_1 (ac gg_1 (ac gg_1 (ac gg_2 (ac gg_2 (ac gg_2 (ac gg_2 (ac gg_3 (ac gg_3 (ac gg_3 (ac gg_3 an)))))))))))) ?_
     exact ⟨rfl, (sw [0] [] [.s 1, .a 20 (.bool (decide (t_1.Id < (0 : Int)) || (decide (t_1.Id > (1000000000000000 : Int)) || (decide (t_1.Domain < (0 : Int)) || decide (t_1.Domain ≥ (8 : Int))))))] [.s 0] (ac (congrArg AV.bool (orf gg_1 (orf gg_2 (ort gg_3))) : (.bool true : AV) = .bool (decide (t_1.Id < (0 : Int)) || (decide (t_1.Id > (1000000000000000 : Int)) || (decide (t_1.Domain < (0 : Int)) || decide (t_1.Domain ≥ (8 : Int)))))) an))⟩
    ·refine rg [(7, Hf), (12, Hf), (17, Hf)] [1, 20] [0] 1 [Pp 0, .bool (decide (t_1.Domain ≥ (8 : Int)))] [Vb 60 (v_T_api_Thread t_1)] hmix (ac gg_1 (ac gg_1 (ac gg_1 (ac gg_1 (ac gg_2 (ac gg_2 (ac gg_2 (ac gg_2 (ac gg_3 (ac gg_3 (ac gg_3 (ac gg_3 an)))))))))))) ?_
     exact ⟨rfl, (sw [0] [] [.s 1, .a 20 (.bool (decide (t_1.Id < (0 : Int)) || (decide (t_1.Id > (1000000000000000 : Int)) || (decide (t_1.Domain < (0 : Int)) || decide (t_1.Domain ≥ (8 : Int))))))] [.s 0] (ac (congrArg AV.bool (orf gg_1 (orf gg_2 (orf gg_3 rfl))) : (.bool (decide (t_1.Domain ≥ (8 : Int))) : AV) = .bool (decide (t_1.Id < (0 : Int)) || (decide (t_1.Id > (1000000000000000 : Int)) || (decide (t_1.Domain < (0 : Int)) || decide (t_1.Domain ≥ (8 : Int)))))) an))⟩
 refine cd 20 (decide (t_1.Id < (0 : Int)) || (decide (t_1.Id > (1000000000000000 : Int)) || (decide (t_1.Domain < (0 : Int)) || decide (t_1.Domain ≥ (8 : Int))))) ?_ ?_
 ·intro g_1; replace h := cond_t g_1 h
  refine sr [] [2] [] 1 [Ii 2] [] hmix an ?_
  refine rt ?_
  cases h
  exact ⟨.inr rfl, Nat.le_of_ble_eq_true rfl, by kernel_rfl⟩
 intro g_1; replace h := cond_f g_1 h
 refine sk ?_
 refine sq ?_
 obtain ⟨r_1, h_1, h⟩ := bind_some h
 refine rg [(2, { av := Ii r_1, l := [.str t_1.Name] })] [2] [] 1 [Ii r_1] [] hmix (ar ([.str t_1.Name] : List AV) (ac (rfl : ([] : List BoxSt) = []) (ac (R06_Name_ok F t_1.Name r_1 h_1 : TripleG prog 66 [] [] [.str t_1.Name] [] (Ii r_1)) an))) ?_
 refine rt ?_
 cases h
 exact ⟨.inr rfl, Nat.le_of_ble_eq_true rfl, by kernel_rfl⟩

theorem R12_index_ok (F : Nat) (l_1 : List (T_api_Thread)) (id_1 : Int) (r : Int) (h : R12_index F l_1 id_1 = some r) : TripleG prog 39 [] [] [.sl false 3 (Mp e_T_api_Thread l_1), Ii id_1] [] (Ii r) := by
 refine triple_intro (fn := Go.Proofs.Try.f39) (code := codeOf Go.Proofs.Try.f39) (by kernel_rfl) (by kernel_rfl) (Nat.le_of_ble_eq_true (by kernel_rfl)) ?_
 unfold R12_index at h
 refine sr [] [0, 1] [] 0 [.sl false 3 (Mp e_T_api_Thread l_1), Ii id_1] [] hmix an ?_
 refine sq ?_
 refine sr [] [0, 1, 5] [] 0 [.sl false 3 (Mp e_T_api_Thread l_1), Ii id_1, Ii 0] [] hmix an ?_
 obtain ⟨o_1, h_1, h⟩ := bind_some h
 refine aw_conv (K1 := (fun e st' => match o_1 with | (.inl q0) => e = .normal ∧ Sub 0 st' (mk [] [] 0) | (.inr q1) => e = .ret ∧ FinR prog Go.Proofs.Try.f39 0 [] (Ii q1) st')) ?_ ?_
 ·replace h := h_1
  refine aw_block (id := 0) (by kernel_rfl) ?_
  refine wk [] [] [.s 0, .s 1, .s 5] [] [(0, .sl false 3 (Mp e_T_api_Thread l_1)), (1, Ii id_1), (5, Ii 0)] [] an ?_
  refine aw_loopF (fun n st => ∃ (i_1 : Int), st = mk [(0, .sl false 3 (Mp e_T_api_Thread l_1)), (1, Ii id_1), (5, Ii i_1)] [] 0 ∧ R12_index_L1 F l_1 id_1 n i_1 = some o_1) F (by kernel_rfl) ⟨_, rfl, h⟩ ?_ ?_
  ·rintro _ ⟨_, _, h⟩; exact none_ne (h : (none : Option (Unit ⊕ Int)) = some o_1)
  rintro n_1 _ ⟨i_1, rfl, h⟩
  replace h : R12_index_L1_body F l_1 id_1 (R12_index_L1 F l_1 id_1 n_1) i_1 = some o_1 := h
  unfold R12_index_L1_body at h
  refine sq ?_
  refine sr [(2, { n := (l_1).length })] [0, 1, 5, 9] [] 0 [.sl false 3 (Mp e_T_api_Thread l_1), Ii id_1, Ii i_1, .bool (decide (i_1 < (lN (l_1))))] [] hmix (ac (vc_len _ : ((Mp e_T_api_Thread l_1)).length = (l_1).length) an) ?_
  refine cd 9 (decide (i_1 < (lN (l_1)))) ?_ ?_
  rotate_left
  ·intro g_1; replace h := cond_f g_1 h
   refine aw_exit (id := 0) (by kernel_rfl) ?_
   cases h
   exact ⟨rfl, (sw [] [] [] [] an)⟩
  intro g_1; replace h := cond_t g_1 h
  refine sk ?_
  refine sq ?_
  refine aw_block (id := 1) (by kernel_rfl) ?_
  refine sq ?_
  obtain ⟨x_1, h_2, h⟩ := bind_some h
  refine rg [(2, { av := e_T_api_Thread x_1 })] [0, 1, 5, 18] [] 0 [.sl false 3 (Mp e_T_api_Thread l_1), Ii id_1, Ii i_1, .bool (x_1.Id == id_1)] [] hmix (ac (vc_idx h_2 : idxA (Mp e_T_api_Thread l_1) i_1 = some (e_T_api_Thread x_1)) an) ?_
  refine cd 18 (x_1.Id == id_1) ?_ ?_
  rotate_left
  ·intro g_2; replace h := cond_f g_2 h
   refine sk ?_
   refine rg [] [0, 1, 5] [] 0 [.sl false 3 (Mp e_T_api_Thread l_1), Ii id_1, Ii (w_i64 (i_1 + (1 : Int)))] [] hmix an ?_
   exact ⟨_, (sw [] [] [.s 0, .s 1, .s 5] [] an), _, rfl, h⟩
  intro g_2; replace h := cond_t g_2 h
  refine sr [] [4] [] 0 [Ii i_1] [] hmix an ?_
  refine rt ?_
  cases h
  exact ⟨rfl, Nat.le_of_ble_eq_true rfl, by kernel_rfl⟩
 intro e st1 hk
 rcases o_1 with q_1 | q_2
 rotate_left
 ·obtain ⟨rfl, hf⟩ := hk
  cases h
  exact ⟨st1, Sub.refl _ _, .inr rfl, hf⟩
 obtain ⟨rfl, hs⟩ := hk
 refine ⟨_, hs, ?_⟩
 refine sr [] [4] [] 0 [Ii (-1)] [] hmix an ?_
 refine rt ?_
 cases h
 exact ⟨.inr rfl, Nat.le_of_ble_eq_true rfl, by kernel_rfl⟩

theorem R12_threads_ok (F : Nat) (l_1 : List (T_api_Thread)) (r : Int) (h : R12_threads F l_1 = some r) : TripleG prog 33 [] [] [.sl false 3 (Mp e_T_api_Thread l_1)] [] (Ii r) := by
 refine triple_intro (fn := Go.Proofs.Try.f33) (code := codeOf Go.Proofs.Try.f33) (by kernel_rfl) (by kernel_rfl) (Nat.le_of_ble_eq_true (by kernel_rfl)) ?_
 unfold R12_threads at h
 refine sr [] [0] [] 0 [.sl false 3 (Mp e_T_api_Thread l_1)] [] hmix an ?_
 refine sq ?_
 refine sr [(1, { n := (l_1).length })] [0, 7] [] 0 [.sl false 3 (Mp e_T_api_Thread l_1), .bool ((lN (l_1)) == (0 : Int))] [] hmix (ac (vc_len _ : ((Mp e_T_api_Thread l_1)).length = (l_1).length) an) ?_
 refine cd 7 ((lN (l_1)) == (0 : Int)) ?_ ?_
 ·intro g_1; replace h := cond_t g_1 h
  refine sr [] [2] [] 0 [Ii 8] [] hmix an ?_
  refine rt ?_
  cases h
  exact ⟨.inr rfl, Nat.le_of_ble_eq_true rfl, by kernel_rfl⟩
 intro g_1; replace h := cond_f g_1 h
 refine sk ?_
 refine sq ?_
 refine sr [(1, { n := (l_1).length })] [0, 10] [] 0 [.sl false 3 (Mp e_T_api_Thread l_1), .bool (decide ((lN (l_1)) > (64 : Int)))] [] hmix (ac (vc_len _ : ((Mp e_T_api_Thread l_1)).length = (l_1).length) an) ?_
 refine cd 10 (decide ((lN (l_1)) > (64 : Int))) ?_ ?_
 ·intro g_2; replace h := cond_t g_2 h
  refine sr [] [2] [] 0 [Ii 7] [] hmix an ?_
  refine rt ?_
  cases h
  exact ⟨.inr rfl, Nat.le_of_ble_eq_true rfl, by kernel_rfl⟩
 intro g_2; replace h := cond_f g_2 h
 refine sk ?_
 refine sq ?_
 refine sr [] [0, 3] [] 0 [.sl false 3 (Mp e_T_api_Thread l_1), Ii 0] [] hmix an ?_
 obtain ⟨o_1, h_1, h⟩ := bind_some h
 refine aw_conv (K1 := (fun e st' => match o_1 with | (.inl q0) => e = .normal ∧ Sub 0 st' (mk [] [] 0) | (.inr q1) => e = .ret ∧ FinR prog Go.Proofs.Try.f33 0 [] (Ii q1) st')) ?_ ?_
 ·replace h := h_1
  refine aw_block (id := 0) (by kernel_rfl) ?_
  refine wk [] [] [.s 0, .s 3] [] [(0, .sl false 3 (Mp e_T_api_Thread l_1)), (3, Ii 0)] [] an ?_
  refine aw_loopF (fun n st => ∃ (i_1 : Int), st = mk [(0, .sl false 3 (Mp e_T_api_Thread l_1)), (3, Ii i_1)] [] 0 ∧ R12_threads_L1 F l_1 n i_1 = some o_1) F (by kernel_rfl) ⟨_, rfl, h⟩ ?_ ?_
  ·rintro _ ⟨_, _, h⟩; exact none_ne (h : (none : Option (Unit ⊕ Int)) = some o_1)
  rintro n_1 _ ⟨i_1, rfl, h⟩
  replace h : R12_threads_L1_body F l_1 (R12_threads_L1 F l_1 n_1) i_1 = some o_1 := h
  unfold R12_threads_L1_body at h
  refine sq ?_
  refine sr [(2, { n := (l_1).length })] [0, 3, 14] [] 0 [.sl false 3 (Mp e_T_api_Thread l_1), Ii i_1, .bool (decide (i_1 < (lN (l_1))))] [] hmix (ac (vc_len _ : ((Mp e_T_api_Thread l_1)).length = (l_1).length) an) ?_
  refine cd 14 (decide (i_1 < (lN (l_1)))) ?_ ?_
  rotate_left
  ·intro g_3; replace h := cond_f g_3 h
   refine aw_exit (id := 0) (by kernel_rfl) ?_
   cases h
   exact ⟨rfl, (sw [] [] [] [] an)⟩
  intro g_3; replace h := cond_t g_3 h
  refine sk ?_
  refine sq ?_
  refine aw_block (id := 1) (by kernel_rfl) ?_
  refine sq ?_
  obtain ⟨x_1, h_2, h⟩ := bind_some h
  obtain ⟨r_1, h_3, h⟩ := bind_some h
  refine rg [(2, { av := e_T_api_Thread x_1 }), (4, { av := Ii r_1, l := [e_T_api_Thread x_1] })] [0, 3, 4] [] 0 [.sl false 3 (Mp e_T_api_Thread l_1), Ii i_1, Ii r_1] [] hmix (ac (vc_idx h_2 : idxA (Mp e_T_api_Thread l_1) i_1 = some (e_T_api_Thread x_1)) (ar ([e_T_api_Thread x_1] : List AV) (ac (rfl : ([] : List BoxSt) = []) (ac (R10_Thread_ok F x_1 r_1 h_3 : TripleG prog 54 [] [] [e_T_api_Thread x_1] [] (Ii r_1)) an)))) ?_
  refine sq ?_
  refine sr [] [0, 3, 4, 23] [] 0 [.sl false 3 (Mp e_T_api_Thread l_1), Ii i_1, Ii r_1, .bool (r_1 != (0 : Int))] [] hmix an ?_
  refine cd 23 (r_1 != (0 : Int)) ?_ ?_
  ·intro g_4; replace h := cond_t g_4 h
   refine sr [] [2] [] 0 [Ii r_1] [] hmix an ?_
   refine rt ?_
   cases h
   exact ⟨rfl, Nat.le_of_ble_eq_true rfl, by kernel_rfl⟩
  intro g_4; replace h := cond_f g_4 h
  refine sk ?_
  refine sq ?_
  obtain ⟨_, h_4, h⟩ := bind_some h; replace h_4 := need_some h_4
  obtain ⟨x_2, h_5, h⟩ := bind_some h
  obtain ⟨r_2, h_6, h⟩ := bind_some h
  refine rg [(2, { l := (Mp e_T_api_Thread (sub l_1 (0 : Int) i_1)) }), (5, { av := e_T_api_Thread x_2 }), (8, { av := Ii r_2, l := [.sl false 3 (Mp e_T_api_Thread (sub l_1 (0 : Int) i_1)), Ii x_2.Id] })] [0, 3, 34] [] 0 [.sl false 3 (Mp e_T_api_Thread l_1), Ii i_1, .bool (decide (r_2 ≥ (0 : Int)))] [] hmix (ac (by decide : (0 : Int) ≤ (0 : Int)) (ac h_4.1 (ac (vc_lenle h_4.2 : i_1 ≤ (lN ((Mp e_T_api_Thread l_1)))) (ac (vc_sub _ _ _ : (Mp e_T_api_Thread (sub l_1 (0 : Int) i_1)) = (((Mp e_T_api_Thread l_1)).take (i_1).toNat).drop ((0 : Int)).toNat) (ac (vc_idx h_5 : idxA (Mp e_T_api_Thread l_1) i_1 = some (e_T_api_Thread x_2)) (ar ([.sl false 3 (Mp e_T_api_Thread (sub l_1 (0 : Int) i_1)), Ii x_2.Id] : List AV) (ac (rfl : ([] : List BoxSt) = []) (ac (R12_index_ok F (sub l_1 (0 : Int) i_1) x_2.Id r_2 h_6 : TripleG prog 39 [] [] [.sl false 3 (Mp e_T_api_Thread (sub l_1 (0 : Int) i_1)), Ii x_2.Id] [] (Ii r_2)) an)))))))) ?_
  refine cd 34 (decide (r_2 ≥ (0 : Int))) ?_ ?_
  rotate_left
  ·intro g_5; replace h := cond_f g_5 h
   refine sk ?_
   refine rg [] [0, 3] [] 0 [.sl false 3 (Mp e_T_api_Thread l_1), Ii (w_i64 (i_1 + (1 : Int)))] [] hmix an ?_
   exact ⟨_, (sw [] [] [.s 0, .s 3] [] an), _, rfl, h⟩
  intro g_5; replace h := cond_t g_5 h
  refine sr [] [2] [] 0 [Ii 4] [] hmix an ?_
  refine rt ?_
  cases h
  exact ⟨rfl, Nat.le_of_ble_eq_true rfl, by kernel_rfl⟩
 intro e st1 hk
 rcases o_1 with q_1 | q_2
 rotate_left
 ·obtain ⟨rfl, hf⟩ := hk
  cases h
  exact ⟨st1, Sub.refl _ _, .inr rfl, hf⟩
 obtain ⟨rfl, hs⟩ := hk
 refine ⟨_, hs, ?_⟩
 refine sr [] [2] [] 0 [Ii 0] [] hmix an ?_
 refine rt ?_
 cases h
 exact ⟨.inr rfl, Nat.le_of_ble_eq_true rfl, by kernel_rfl⟩

theorem R07_Texts_ok (F : Nat) (a_1 : List (List Int)) (b_1 : List (List Int)) (r : Bool) (h : R07_Texts F a_1 b_1 = some r) : TripleG prog 69 [] [] [.sl false 1 (Ms a_1), .sl false 1 (Ms b_1)] [] (.bool r) := by
 refine triple_intro (fn := Go.Proofs.Try.f69) (code := codeOf Go.Proofs.Try.f69) (by kernel_rfl) (by kernel_rfl) (Nat.le_of_ble_eq_true (by kernel_rfl)) ?_
 unfold R07_Texts at h
 refine sr [] [0, 1] [] 0 [.sl false 1 (Ms a_1), .sl false 1 (Ms b_1)] [] hmix an ?_
 refine sq ?_
 refine sr [(1, { n := (a_1).length }), (3, { n := (b_1).length })] [0, 1, 10] [] 0 [.sl false 1 (Ms a_1), .sl false 1 (Ms b_1), .bool ((lN (a_1)) != (lN (b_1)))] [] hmix (ac (vc_len _ : ((Ms a_1)).length = (a_1).length) (ac (vc_len _ : ((Ms b_1)).length = (b_1).length) an)) ?_
 refine cd 10 ((lN (a_1)) != (lN (b_1))) ?_ ?_
 ·intro g_1; replace h := cond_t g_1 h
  refine sr [] [4] [] 0 [.bool false] [] hmix an ?_
  refine rt ?_
  cases h
  exact ⟨.inr rfl, Nat.le_of_ble_eq_true rfl, by kernel_rfl⟩
 intro g_1; replace h := cond_f g_1 h
 refine sk ?_
 refine sq ?_
 refine sr [] [0, 1, 5] [] 0 [.sl false 1 (Ms a_1), .sl false 1 (Ms b_1), Ii 0] [] hmix an ?_
 obtain ⟨o_1, h_1, h⟩ := bind_some h
 refine aw_conv (K1 := (fun e st' => match o_1 with | (.inl q0) => e = .normal ∧ Sub 0 st' (mk [] [] 0) | (.inr q1) => e = .ret ∧ FinR prog Go.Proofs.Try.f69 0 [] (.bool q1) st')) ?_ ?_
 ·replace h := h_1
  refine aw_block (id := 0) (by kernel_rfl) ?_
  refine wk [] [] [.s 0, .s 1, .s 5] [] [(0, .sl false 1 (Ms a_1)), (1, .sl false 1 (Ms b_1)), (5, Ii 0)] [] an ?_
  refine aw_loopF (fun n st => ∃ (i_1 : Int), st = mk [(0, .sl false 1 (Ms a_1)), (1, .sl false 1 (Ms b_1)), (5, Ii i_1)] [] 0 ∧ R07_Texts_L1 F a_1 b_1 n i_1 = some o_1) F (by kernel_rfl) ⟨_, rfl, h⟩ ?_ ?_
  ·rintro _ ⟨_, _, h⟩; exact none_ne (h : (none : Option (Unit ⊕ Bool)) = some o_1)
  rintro n_1 _ ⟨i_1, rfl, h⟩
  replace h : R07_Texts_L1_body F a_1 b_1 (R07_Texts_L1 F a_1 b_1 n_1) i_1 = some o_1 := h
  unfold R07_Texts_L1_body at h
  refine sq ?_
  refine sr [(2, { n := (a_1).length })] [0, 1, 5, 14] [] 0 [.sl false 1 (Ms a_1), .sl false 1 (Ms b_1), Ii i_1, .bool (decide (i_1 < (lN (a_1))))] [] hmix (ac (vc_len _ : ((Ms a_1)).length = (a_1).length) an) ?_
  refine cd 14 (decide (i_1 < (lN (a_1)))) ?_ ?_
  rotate_left
  ·intro g_2; replace h := cond_f g_2 h
   refine aw_exit (id := 0) (by kernel_rfl) ?_
   cases h
   exact ⟨rfl, (sw [] [] [] [] an)⟩
  intro g_2; replace h := cond_t g_2 h
  refine sk ?_
  refine sq ?_
  refine aw_block (id := 1) (by kernel_rfl) ?_
  refine sq ?_
  obtain ⟨x_1, h_2, h⟩ := bind_some h
  obtain ⟨x_2, h_3, h⟩ := bind_some h
  refine rg [(2, { av := .str x_1 }), (6, { av := .str x_2 })] [0, 1, 5, 25] [] 0 [.sl false 1 (Ms a_1), .sl false 1 (Ms b_1), Ii i_1, .bool (!(x_1 == x_2))] [] hmix (ac (vc_idx h_2 : idxA (Ms a_1) i_1 = some (.str x_1)) (ac (vc_idx h_3 : idxA (Ms b_1) i_1 = some (.str x_2)) an)) ?_
  refine cd 25 (!(x_1 == x_2)) ?_ ?_
  rotate_left
  ·intro g_3; replace h := cond_f g_3 h
   refine sk ?_
   refine rg [] [0, 1, 5] [] 0 [.sl false 1 (Ms a_1), .sl false 1 (Ms b_1), Ii (w_i64 (i_1 + (1 : Int)))] [] hmix an ?_
   exact ⟨_, (sw [] [] [.s 0, .s 1, .s 5] [] an), _, rfl, h⟩
  intro g_3; replace h := cond_t g_3 h
  refine sr [] [4] [] 0 [.bool false] [] hmix an ?_
  refine rt ?_
  cases h
  exact ⟨rfl, Nat.le_of_ble_eq_true rfl, by kernel_rfl⟩
 intro e st1 hk
 rcases o_1 with q_1 | q_2
 rotate_left
 ·obtain ⟨rfl, hf⟩ := hk
  cases h
  exact ⟨st1, Sub.refl _ _, .inr rfl, hf⟩
 obtain ⟨rfl, hs⟩ := hk
 refine ⟨_, hs, ?_⟩
 refine sr [] [4] [] 0 [.bool true] [] hmix an ?_
 refine rt ?_
 cases h
 exact ⟨.inr rfl, Nat.le_of_ble_eq_true rfl, by kernel_rfl⟩

theorem R07_Same_ok (F : Nat) (a_1 : T_api_Event) (b_1 : T_api_Event) (r : Bool) (h : R07_Same F a_1 b_1 = some r) : TripleG prog 62 [] [] [e_T_api_Event a_1, e_T_api_Event b_1] [] (.bool r) := by
 refine triple_intro (fn := Go.Proofs.Try.f62) (code := codeOf Go.Proofs.Try.f62) (by kernel_rfl) (by kernel_rfl) (Nat.le_of_ble_eq_true (by kernel_rfl)) ?_
 unfold R07_Same at h
 refine sr [(0, { id := 0 }), (1, { id := 1 })] [2, 3] [0, 1] 2 [Pp 0, Pp 1] [Vb 54 (v_T_api_Event a_1), Vb 54 (v_T_api_Event b_1)] hmix an ?_
 refine sq ?_
 obtain ⟨p_1, h_2, h⟩ := bind_some h
 refine aw_mid (mk [(4, .bool p_1)] [] 0) ?_ ?_
 ·replace h := h_2
  rcases bft (a_1.At == b_1.At) with gg_1 | gg_1
  ·replace h := cond_t gg_1 h
   rcases bft (a_1.Kind == b_1.Kind) with gg_2 | gg_2
   ·replace h := cond_t gg_2 h
    rcases bft (a_1.Name == b_1.Name) with gg_3 | gg_3
    ·replace h := cond_t gg_3 h
     rcases bft (a_1.N == b_1.N) with gg_4 | gg_4
     ·replace h := cond_t gg_4 h
      rcases bft (a_1.M == b_1.M) with gg_5 | gg_5
      ·replace h := cond_t gg_5 h
       obtain ⟨r_1, h_1, h⟩ := bind_some h
       refine rg [(11, Ht), (18, Ht), (25, Ht), (32, Ht), (38, { av := .bool r_1, l := [.sl false 1 (Ms a_1.Stack), .sl false 1 (Ms b_1.Stack)] }), (39, Ht)] [4] [] 2 [.bool r_1] [] hmix (ac gg_1 (ac gg_1 (ac gg_1 (ac gg_1 (ac gg_1 (ac gg_1 (ac gg_2 (ac gg_2 (ac gg_2 (ac gg_2 (ac gg_2 (ac gg_2 (ac gg_3 (ac gg_3 (ac gg_3 (ac gg_3 (ac gg_3 (ac gg_3 (ac gg_4 (ac gg_4 (ac gg_4 (ac gg_4 (ac gg_4 (ac gg_4 (ac gg_5 (ac gg_5 (ac gg_5 (ac gg_5 (ac gg_5 (ar ([.sl false 1 (Ms a_1.Stack), .sl false 1 (Ms b_1.Stack)] : List AV) (ac (rfl : ([] : List BoxSt) = []) (ac (R07_Texts_ok F a_1.Stack b_1.Stack r_1 h_1 : TripleG prog 69 [] [] [.sl false 1 (Ms a_1.Stack), .sl false 1 (Ms b_1.Stack)] [] (.bool r_1)) (ac gg_5 an))))))))))))))))))))))))))))))))) ?_
       cases h
       exact ⟨rfl, (sw [] [] [.s 4] [] an)⟩
      ·replace h := cond_f gg_5 h
       refine rg [(11, Ht), (18, Ht), (25, Ht), (32, Ht), (34, Hg), (35, Hg), (36, Hg), (37, Hg), (38, Hg), (39, Hf)] [4] [] 2 [.bool false] [] hmix (ac gg_1 (ac gg_1 (ac gg_1 (ac gg_1 (ac gg_1 (ac gg_1 (ac gg_2 (ac gg_2 (ac gg_2 (ac gg_2 (ac gg_2 (ac gg_2 (ac gg_3 (ac gg_3 (ac gg_3 (ac gg_3 (ac gg_3 (ac gg_3 (ac gg_4 (ac gg_4 (ac gg_4 (ac gg_4 (ac gg_4 (ac gg_4 (ac gg_5 (ac gg_5 (ac gg_5 (ac gg_5 (ac gg_5 (ac gg_5 an)))))))))))))))))))))))))))))) ?_
       cases h
       exact ⟨rfl, (sw [] [] [.s 4] [] an)⟩
     ·replace h := cond_f gg_4 h
      refine rg [(11, Ht), (18, Ht), (25, Ht), (27, Hg), (28, Hg), (29, Hg), (30, Hg), (31, Hg), (32, Hf), (34, Hg), (35, Hg), (36, Hg), (37, Hg), (38, Hg), (39, Hf)] [4] [] 2 [.bool false] [] hmix (ac gg_1 (ac gg_1 (ac gg_1 (ac gg_1 (ac gg_1 (ac gg_1 (ac gg_2 (ac gg_2 (ac gg_2 (ac gg_2 (ac gg_2 (ac gg_2 (ac gg_3 (ac gg_3 (ac gg_3 (ac gg_3 (ac gg_3 (ac gg_3 (ac gg_4 (ac gg_4 (ac gg_4 (ac gg_4 (ac gg_4 (ac gg_4 (ac (rfl : false = !true) (ac (rfl : false = !true) (ac (rfl : false = !true) (ac (rfl : false = !true) (ac (rfl : false = !true) (ar false an)))))))))))))))))))))))))))))) ?_
      cases h
      exact ⟨rfl, (sw [] [] [.s 4] [] an)⟩
    ·replace h := cond_f gg_3 h
     refine rg [(11, Ht), (18, Ht), (20, Hg), (21, Hg), (22, Hg), (23, Hg), (24, Hg), (25, Hf), (27, Hg), (28, Hg), (29, Hg), (30, Hg), (31, Hg), (32, Hf), (34, Hg), (35, Hg), (36, Hg), (37, Hg), (38, Hg), (39, Hf)] [4] [] 2 [.bool false] [] hmix (ac gg_1 (ac gg_1 (ac gg_1 (ac gg_1 (ac gg_1 (ac gg_1 (ac gg_2 (ac gg_2 (ac gg_2 (ac gg_2 (ac gg_2 (ac gg_2 (ac gg_3 (ac gg_3 (ac gg_3 (ac gg_3 (ac gg_3 (ac gg_3 (ac (rfl : false = !true) (ac (rfl : false = !true) (ac (rfl : false = !true) (ac (rfl : false = !true) (ac (rfl : false = !true) (ar false (ac (rfl : false = !true) (ac (rfl : false = !true) (ac (rfl : false = !true) (ac (rfl : false = !true) (ac (rfl : false = !true) (ar false an)))))))))))))))))))))))))))))) ?_
     cases h
     exact ⟨rfl, (sw [] [] [.s 4] [] an)⟩
   ·replace h := cond_f gg_2 h
    refine rg [(11, Ht), (13, Hg), (14, Hg), (15, Hg), (16, Hg), (17, Hg), (18, Hf), (20, Hg), (21, Hg), (22, Hg), (23, Hg), (24, Hg), (25, Hf), (27, Hg), (28, Hg), (29, Hg), (30, Hg), (31, Hg), (32, Hf), (34, Hg), (35, Hg), (36, Hg), (37, Hg), (38, Hg), (39, Hf)] [4] [] 2 [.bool false] [] hmix (ac gg_1 (ac gg_1 (ac gg_1 (ac gg_1 (ac gg_1 (ac gg_1 (ac gg_2 (ac gg_2 (ac gg_2 (ac gg_2 (ac gg_2 (ac gg_2 (ac (rfl : false = !true) (ac (rfl : false = !true) (ac (rfl : false = !true) (ac (rfl : false = !true) (ac (rfl : false = !true) (ar false (ac (rfl : false = !true) (ac (rfl : false = !true) (ac (rfl : false = !true) (ac (rfl : false = !true) (ac (rfl : false = !true) (ar false (ac (rfl : false = !true) (ac (rfl : false = !true) (ac (rfl : false = !true) (ac (rfl : false = !true) (ac (rfl : false = !true) (ar false an)))))))))))))))))))))))))))))) ?_
    cases h
    exact ⟨rfl, (sw [] [] [.s 4] [] an)⟩
  ·replace h := cond_f gg_1 h
   refine rg [(6, Hg), (7, Hg), (8, Hg), (9, Hg), (10, Hg), (11, Hf), (13, Hg), (14, Hg), (15, Hg), (16, Hg), (17, Hg), (18, Hf), (20, Hg), (21, Hg), (22, Hg), (23, Hg), (24, Hg), (25, Hf), (27, Hg), (28, Hg), (29, Hg), (30, Hg), (31, Hg), (32, Hf), (34, Hg), (35, Hg), (36, Hg), (37, Hg), (38, Hg), (39, Hf)] [4] [] 2 [.bool false] [] hmix (ac gg_1 (ac gg_1 (ac gg_1 (ac gg_1 (ac gg_1 (ac gg_1 (ac (rfl : false = !true) (ac (rfl : false = !true) (ac (rfl : false = !true) (ac (rfl : false = !true) (ac (rfl : false = !true) (ar false (ac (rfl : false = !true) (ac (rfl : false = !true) (ac (rfl : false = !true) (ac (rfl : false = !true) (ac (rfl : false = !true) (ar false (ac (rfl : false = !true) (ac (rfl : false = !true) (ac (rfl : false = !true) (ac (rfl : false = !true) (ac (rfl : false = !true) (ar false (ac (rfl : false = !true) (ac (rfl : false = !true) (ac (rfl : false = !true) (ac (rfl : false = !true) (ac (rfl : false = !true) (ar false an)))))))))))))))))))))))))))))) ?_
   cases h
   exact ⟨rfl, (sw [] [] [.s 4] [] an)⟩
 refine rt ?_
 cases h
 exact ⟨.inr rfl, Nat.le_of_ble_eq_true rfl, by kernel_rfl⟩

theorem R11_Same_ok (F : Nat) (a_1 : T_api_Packet) (b_1 : T_api_Packet) (r : Bool) (h : R11_Same F a_1 b_1 = some r) : TripleG prog 44 [] [] [e_T_api_Packet a_1, e_T_api_Packet b_1] [] (.bool r) := by
 refine triple_intro (fn := Go.Proofs.Try.f44) (code := codeOf Go.Proofs.Try.f44) (by kernel_rfl) (by kernel_rfl) (Nat.le_of_ble_eq_true (by kernel_rfl)) ?_
 unfold R11_Same at h
 refine sr [(0, { id := 0 }), (1, { id := 1 })] [2, 3] [0, 1] 2 [Pp 0, Pp 1] [Vb 43 (v_T_api_Packet a_1), Vb 43 (v_T_api_Packet b_1)] hmix an ?_
 refine sq ?_
 refine sq ?_
 refine aw_mid (mk [(2, Pp 0), (3, Pp 1), (33, .bool ((a_1.Thread != b_1.Thread) || ((a_1.Serial != b_1.Serial) || ((a_1.Lost != b_1.Lost) || ((lN (a_1.Events)) != (lN (b_1.Events)))))))] [(0, Vb 43 (v_T_api_Packet a_1)), (1, Vb 43 (v_T_api_Packet b_1))] 2) ?_ ?_
 ·rcases bft (a_1.Thread != b_1.Thread) with gg_1 | gg_1
  ·refine rg [(6, Hg), (7, Hg), (8, Hg), (9, Hg), (10, Hg), (11, Ht), (13, Hg), (14, Hg), (15, Hg), (16, Hg), (17, Hg), (18, Ht), (20, Hg), (21, Hg), (22, Hg), (23, Hg), (24, Hg), (25, Hg), (26, Hg), (27, Ht)] [2, 3, 33] [0, 1] 2 [Pp 0, Pp 1, .bool true] [Vb 43 (v_T_api_Packet a_1), Vb 43 (v_T_api_Packet b_1)] hmix (ac gg_1 (ac gg_1 (ac gg_1 (ac gg_1 (ac gg_1 (ac gg_1 (ax (ax (ax (ax (ax (ar true (ax (ax (ax (ax (ax (ax (ax (ar true an)))))))))))))))))))) ?_
   exact ⟨rfl, (sw [0, 1] [] [.s 2, .s 3, .a 33 (.bool ((a_1.Thread != b_1.Thread) || ((a_1.Serial != b_1.Serial) || ((a_1.Lost != b_1.Lost) || ((lN (a_1.Events)) != (lN (b_1.Events)))))))] [.s 0, .s 1] (ac (congrArg AV.bool (ort gg_1) : (.bool true : AV) = .bool ((a_1.Thread != b_1.Thread) || ((a_1.Serial != b_1.Serial) || ((a_1.Lost != b_1.Lost) || ((lN (a_1.Events)) != (lN (b_1.Events))))))) an))⟩
  ·rcases bft (a_1.Serial != b_1.Serial) with gg_2 | gg_2
   ·refine rg [(11, Hf), (13, Hg), (14, Hg), (15, Hg), (16, Hg), (17, Hg), (18, Ht), (20, Hg), (21, Hg), (22, Hg), (23, Hg), (24, Hg), (25, Hg), (26, Hg), (27, Ht)] [2, 3, 33] [0, 1] 2 [Pp 0, Pp 1, .bool true] [Vb 43 (v_T_api_Packet a_1), Vb 43 (v_T_api_Packet b_1)] hmix (ac gg_1 (ac gg_1 (ac gg_1 (ac gg_1 (ac gg_1 (ac gg_1 (ac gg_2 (ac gg_2 (ac gg_2 (ac gg_2 (ac gg_2 (ac gg_2 (ax (ax (ax (ax (ax (ax (ax (ar true an)))))))))))))))))))) ?_
    exact ⟨rfl, (sw [0, 1] [] [.s 2, .s 3, .a 33 (.bool ((a_1.Thread != b_1.Thread) || ((a_1.Serial != b_1.Serial) || ((a_1.Lost != b_1.Lost) || ((lN (a_1.Events)) != (lN (b_1.Events)))))))] [.s 0, .s 1] (ac (congrArg AV.bool (orf gg_1 (ort gg_2)) : (.bool true : AV) = .bool ((a_1.Thread != b_1.Thread) || ((a_1.Serial != b_1.Serial) || ((a_1.Lost != b_1.Lost) || ((lN (a_1.Events)) != (lN (b_1.Events))))))) an))⟩
   ·rcases bft (a_1.Lost != b_1.Lost) with gg_3 | gg_3
    ·refine rg [(11, Hf), (18, Hf), (20, Hg), (21, Hg), (22, Hg), (23, Hg), (24, Hg), (25, Hg), (26, Hg), (27, Ht)] [2, 3, 33] [0, 1] 2 [Pp 0, Pp 1, .bool true] [Vb 43 (v_T_api_Packet a_1), Vb 43 (v_T_api_Packet b_1)] hmix (ac gg_1 (ac gg_1 (ac gg_1 (ac gg_1 (ac gg_1 (ac gg_1 (ac gg_2 (ac gg_2 (ac gg_2 (ac gg_2 (ac gg_2 (ac gg_2 (ac gg_3 (ac gg_3 (ac gg_3 (ac gg_3 (ac gg_3 (ac gg_3 (ac gg_3 (ac gg_3 an)))))))))))))))))))) ?_
     exact ⟨rfl, (sw [0, 1] [] [.s 2, .s 3, .a 33 (.bool ((a_1.Thread != b_1.Thread) || ((a_1.Serial != b_1.Serial) || ((a_1.Lost != b_1.Lost) || ((lN (a_1.Events)) != (lN (b_1.Events)))))))] [.s 0, .s 1] (ac (congrArg AV.bool (orf gg_1 (orf gg_2 (ort gg_3))) : (.bool true : AV) = .bool ((a_1.Thread != b_1.Thread) || ((a_1.Serial != b_1.Serial) || ((a_1.Lost != b_1.Lost) || ((lN (a_1.Events)) != (lN (b_1.Events))))))) an))⟩
    ·refine rg [(11, Hf), (18, Hf), (22, { n := (a_1.Events).length }), (25, { n := (b_1.Events).length }), (27, Hf)] [2, 3, 33] [0, 1] 2 [Pp 0, Pp 1, .bool ((lN (a_1.Events)) != (lN (b_1.Events)))] [Vb 43 (v_T_api_Packet a_1), Vb 43 (v_T_api_Packet b_1)] hmix (ac gg_1 (ac gg_1 (ac gg_1 (ac gg_1 (ac gg_1 (ac gg_1 (ac gg_2 (ac gg_2 (ac gg_2 (ac gg_2 (ac gg_2 (ac gg_2 (ac gg_3 (ac gg_3 (ac gg_3 (ac (vc_len _ : ((Mp e_T_api_Event a_1.Events)).length = (a_1.Events).length) (ac gg_3 (ac gg_3 (ac gg_3 (ac (vc_len _ : ((Mp e_T_api_Event b_1.Events)).length = (b_1.Events).length) (ac gg_3 (ac gg_3 an)))))))))))))))))))))) ?_
     exact ⟨rfl, (sw [0, 1] [] [.s 2, .s 3, .a 33 (.bool ((a_1.Thread != b_1.Thread) || ((a_1.Serial != b_1.Serial) || ((a_1.Lost != b_1.Lost) || ((lN (a_1.Events)) != (lN (b_1.Events)))))))] [.s 0, .s 1] (ac (congrArg AV.bool (orf gg_1 (orf gg_2 (orf gg_3 rfl))) : (.bool ((lN (a_1.Events)) != (lN (b_1.Events))) : AV) = .bool ((a_1.Thread != b_1.Thread) || ((a_1.Serial != b_1.Serial) || ((a_1.Lost != b_1.Lost) || ((lN (a_1.Events)) != (lN (b_1.Events))))))) an))⟩
 refine cd 33 ((a_1.Thread != b_1.Thread) || ((a_1.Serial != b_1.Serial) || ((a_1.Lost != b_1.Lost) || ((lN (a_1.Events)) != (lN (b_1.Events)))))) ?_ ?_
 ·intro g_1; replace h := cond_t g_1 h
  refine sr [] [4] [] 2 [.bool false] [] hmix an ?_
  refine rt ?_
  cases h
  exact ⟨.inr rfl, Nat.le_of_ble_eq_true rfl, by kernel_rfl⟩
 intro g_1; replace h := cond_f g_1 h
 refine sk ?_
 refine sq ?_
 refine sr [] [2, 3, 5] [0, 1] 2 [Pp 0, Pp 1, Ii 0] [Vb 43 (v_T_api_Packet a_1), Vb 43 (v_T_api_Packet b_1)] hmix an ?_
 obtain ⟨o_1, h_1, h⟩ := bind_some h
 refine aw_conv (K1 := (fun e st' => match o_1 with | (.inl q0) => e = .normal ∧ Sub 0 st' (mk [] [] 0) | (.inr q1) => e = .ret ∧ FinR prog Go.Proofs.Try.f44 0 [] (.bool q1) st')) ?_ ?_
 ·replace h := h_1
  refine aw_block (id := 0) (by kernel_rfl) ?_
  refine wk [0, 1] [] [.s 2, .s 3, .s 5] [.s 0, .s 1] [(2, Pp 0), (3, Pp 1), (5, Ii 0)] [(0, Vb 43 (v_T_api_Packet a_1)), (1, Vb 43 (v_T_api_Packet b_1))] an ?_
  refine aw_loopF (fun n st => ∃ (i_1 : Int), st = mk [(2, Pp 0), (3, Pp 1), (5, Ii i_1)] [(0, Vb 43 (v_T_api_Packet a_1)), (1, Vb 43 (v_T_api_Packet b_1))] 2 ∧ R11_Same_L1 F a_1 b_1 n i_1 = some o_1) F (by kernel_rfl) ⟨_, rfl, h⟩ ?_ ?_
  ·rintro _ ⟨_, _, h⟩; exact none_ne (h : (none : Option (Unit ⊕ Bool)) = some o_1)
  rintro n_1 _ ⟨i_1, rfl, h⟩
  replace h : R11_Same_L1_body F a_1 b_1 (R11_Same_L1 F a_1 b_1 n_1) i_1 = some o_1 := h
  unfold R11_Same_L1_body at h
  refine sq ?_
  refine sr [(3, { n := (a_1.Events).length })] [2, 3, 5, 38] [0, 1] 2 [Pp 0, Pp 1, Ii i_1, .bool (decide (i_1 < (lN (a_1.Events))))] [Vb 43 (v_T_api_Packet a_1), Vb 43 (v_T_api_Packet b_1)] hmix (ac (vc_len _ : ((Mp e_T_api_Event a_1.Events)).length = (a_1.Events).length) an) ?_
  refine cd 38 (decide (i_1 < (lN (a_1.Events)))) ?_ ?_
  rotate_left
  ·intro g_2; replace h := cond_f g_2 h
   refine aw_exit (id := 0) (by kernel_rfl) ?_
   cases h
   exact ⟨rfl, (sw [] [] [] [] an)⟩
  intro g_2; replace h := cond_t g_2 h
  refine sk ?_
  refine sq ?_
  refine aw_block (id := 1) (by kernel_rfl) ?_
  refine sq ?_
  obtain ⟨x_1, h_2, h⟩ := bind_some h
  obtain ⟨x_2, h_3, h⟩ := bind_some h
  obtain ⟨r_1, h_4, h⟩ := bind_some h
  refine rg [(3, { av := e_T_api_Event x_1 }), (8, { av := e_T_api_Event x_2 }), (10, { av := .bool r_1, l := [e_T_api_Event x_1, e_T_api_Event x_2] })] [2, 3, 5, 52] [0, 1] 2 [Pp 0, Pp 1, Ii i_1, .bool (!r_1)] [Vb 43 (v_T_api_Packet a_1), Vb 43 (v_T_api_Packet b_1)] hmix (ac (vc_idx h_2 : idxA (Mp e_T_api_Event a_1.Events) i_1 = some (e_T_api_Event x_1)) (ac (vc_idx h_3 : idxA (Mp e_T_api_Event b_1.Events) i_1 = some (e_T_api_Event x_2)) (ar ([e_T_api_Event x_1, e_T_api_Event x_2] : List AV) (ac (rfl : ([] : List BoxSt) = []) (ac (R07_Same_ok F x_1 x_2 r_1 h_4 : TripleG prog 62 [] [] [e_T_api_Event x_1, e_T_api_Event x_2] [] (.bool r_1)) an))))) ?_
  refine cd 52 (!r_1) ?_ ?_
  rotate_left
  ·intro g_3; replace h := cond_f g_3 h
   refine sk ?_
   refine rg [] [2, 3, 5] [0, 1] 2 [Pp 0, Pp 1, Ii (w_i64 (i_1 + (1 : Int)))] [Vb 43 (v_T_api_Packet a_1), Vb 43 (v_T_api_Packet b_1)] hmix an ?_
   exact ⟨_, (sw [0, 1] [] [.s 2, .s 3, .s 5] [.s 0, .s 1] an), _, rfl, h⟩
  intro g_3; replace h := cond_t g_3 h
  refine sr [] [4] [] 2 [.bool false] [] hmix an ?_
  refine rt ?_
  cases h
  exact ⟨rfl, Nat.le_of_ble_eq_true rfl, by kernel_rfl⟩
 intro e st1 hk
 rcases o_1 with q_1 | q_2
 rotate_left
 ·obtain ⟨rfl, hf⟩ := hk
  cases h
  exact ⟨st1, Sub.refl _ _, .inr rfl, hf⟩
 obtain ⟨rfl, hs⟩ := hk
 refine ⟨_, hs, ?_⟩
 refine sr [] [4] [] 0 [.bool true] [] hmix an ?_
 refine rt ?_
 cases h
 exact ⟨.inr rfl, Nat.le_of_ble_eq_true rfl, by kernel_rfl⟩

theorem R12_SamePackets_ok (F : Nat) (a_1 : List (T_api_Packet)) (b_1 : List (T_api_Packet)) (r : Bool) (h : R12_SamePackets F a_1 b_1 = some r) : TripleG prog 20 [] [] [.sl false 4 (Mp e_T_api_Packet a_1), .sl false 4 (Mp e_T_api_Packet b_1)] [] (.bool r) := by
 refine triple_intro (fn := Go.Proofs.Try.f20) (code := codeOf Go.Proofs.Try.f20) (by kernel_rfl) (by kernel_rfl) (Nat.le_of_ble_eq_true (by kernel_rfl)) ?_
 unfold R12_SamePackets at h
 refine sr [] [0, 1] [] 0 [.sl false 4 (Mp e_T_api_Packet a_1), .sl false 4 (Mp e_T_api_Packet b_1)] [] hmix an ?_
 refine sq ?_
 refine sr [(1, { n := (a_1).length }), (3, { n := (b_1).length })] [0, 1, 10] [] 0 [.sl false 4 (Mp e_T_api_Packet a_1), .sl false 4 (Mp e_T_api_Packet b_1), .bool ((lN (a_1)) != (lN (b_1)))] [] hmix (ac (vc_len _ : ((Mp e_T_api_Packet a_1)).length = (a_1).length) (ac (vc_len _ : ((Mp e_T_api_Packet b_1)).length = (b_1).length) an)) ?_
 refine cd 10 ((lN (a_1)) != (lN (b_1))) ?_ ?_
 ·intro g_1; replace h := cond_t g_1 h
  refine sr [] [4] [] 0 [.bool false] [] hmix an ?_
  refine rt ?_
  cases h
  exact ⟨.inr rfl, Nat.le_of_ble_eq_true rfl, by kernel_rfl⟩
 intro g_1; replace h := cond_f g_1 h
 refine sk ?_
 refine sq ?_
 refine sr [] [0, 1, 5] [] 0 [.sl false 4 (Mp e_T_api_Packet a_1), .sl false 4 (Mp e_T_api_Packet b_1), Ii 0] [] hmix an ?_
 obtain ⟨o_1, h_1, h⟩ := bind_some h
 refine aw_conv (K1 := (fun e st' => match o_1 with | (.inl q0) => e = .normal ∧ Sub 0 st' (mk [] [] 0) | (.inr q1) => e = .ret ∧ FinR prog Go.Proofs.Try.f20 0 [] (.bool q1) st')) ?_ ?_
 ·replace h := h_1
  refine aw_block (id := 0) (by kernel_rfl) ?_
  refine wk [] [] [.s 0, .s 1, .s 5] [] [(0, .sl false 4 (Mp e_T_api_Packet a_1)), (1, .sl false 4 (Mp e_T_api_Packet b_1)), (5, Ii 0)] [] an ?_
  refine aw_loopF (fun n st => ∃ (i_1 : Int), st = mk [(0, .sl false 4 (Mp e_T_api_Packet a_1)), (1, .sl false 4 (Mp e_T_api_Packet b_1)), (5, Ii i_1)] [] 0 ∧ R12_SamePackets_L1 F a_1 b_1 n i_1 = some o_1) F (by kernel_rfl) ⟨_, rfl, h⟩ ?_ ?_
  ·rintro _ ⟨_, _, h⟩; exact none_ne (h : (none : Option (Unit ⊕ Bool)) = some o_1)
  rintro n_1 _ ⟨i_1, rfl, h⟩
  replace h : R12_SamePackets_L1_body F a_1 b_1 (R12_SamePackets_L1 F a_1 b_1 n_1) i_1 = some o_1 := h
  unfold R12_SamePackets_L1_body at h
  refine sq ?_
  refine sr [(2, { n := (a_1).length })] [0, 1, 5, 14] [] 0 [.sl false 4 (Mp e_T_api_Packet a_1), .sl false 4 (Mp e_T_api_Packet b_1), Ii i_1, .bool (decide (i_1 < (lN (a_1))))] [] hmix (ac (vc_len _ : ((Mp e_T_api_Packet a_1)).length = (a_1).length) an) ?_
  refine cd 14 (decide (i_1 < (lN (a_1)))) ?_ ?_
  rotate_left
  ·intro g_2; replace h := cond_f g_2 h
   refine aw_exit (id := 0) (by kernel_rfl) ?_
   cases h
   exact ⟨rfl, (sw [] [] [] [] an)⟩
  intro g_2; replace h := cond_t g_2 h
  refine sk ?_
  refine sq ?_
  refine aw_block (id := 1) (by kernel_rfl) ?_
  refine sq ?_
  obtain ⟨x_1, h_2, h⟩ := bind_some h
  obtain ⟨x_2, h_3, h⟩ := bind_some h
  obtain ⟨r_1, h_4, h⟩ := bind_some h
  refine rg [(2, { av := e_T_api_Packet x_1 }), (6, { av := e_T_api_Packet x_2 }), (8, { av := .bool r_1, l := [e_T_api_Packet x_1, e_T_api_Packet x_2] })] [0, 1, 5, 26] [] 0 [.sl false 4 (Mp e_T_api_Packet a_1), .sl false 4 (Mp e_T_api_Packet b_1), Ii i_1, .bool (!r_1)] [] hmix (ac (vc_idx h_2 : idxA (Mp e_T_api_Packet a_1) i_1 = some (e_T_api_Packet x_1)) (ac (vc_idx h_3 : idxA (Mp e_T_api_Packet b_1) i_1 = some (e_T_api_Packet x_2)) (ar ([e_T_api_Packet x_1, e_T_api_Packet x_2] : List AV) (ac (rfl : ([] : List BoxSt) = []) (ac (R11_Same_ok F x_1 x_2 r_1 h_4 : TripleG prog 44 [] [] [e_T_api_Packet x_1, e_T_api_Packet x_2] [] (.bool r_1)) an))))) ?_
  refine cd 26 (!r_1) ?_ ?_
  rotate_left
  ·intro g_3; replace h := cond_f g_3 h
   refine sk ?_
   refine rg [] [0, 1, 5] [] 0 [.sl false 4 (Mp e_T_api_Packet a_1), .sl false 4 (Mp e_T_api_Packet b_1), Ii (w_i64 (i_1 + (1 : Int)))] [] hmix an ?_
   exact ⟨_, (sw [] [] [.s 0, .s 1, .s 5] [] an), _, rfl, h⟩
  intro g_3; replace h := cond_t g_3 h
  refine sr [] [4] [] 0 [.bool false] [] hmix an ?_
  refine rt ?_
  cases h
  exact ⟨rfl, Nat.le_of_ble_eq_true rfl, by kernel_rfl⟩
 intro e st1 hk
 rcases o_1 with q_1 | q_2
 rotate_left
 ·obtain ⟨rfl, hf⟩ := hk
  cases h
  exact ⟨st1, Sub.refl _ _, .inr rfl, hf⟩
 obtain ⟨rfl, hs⟩ := hk
 refine ⟨_, hs, ?_⟩
 refine sr [] [4] [] 0 [.bool true] [] hmix an ?_
 refine rt ?_
 cases h
 exact ⟨.inr rfl, Nat.le_of_ble_eq_true rfl, by kernel_rfl⟩

theorem R12_Same_ok (F : Nat) (a_1 : T_api_Service) (b_1 : T_api_Service) (r : Bool) (h : R12_Same F a_1 b_1 = some r) : TripleG prog 12 [] [] [e_T_api_Service a_1, e_T_api_Service b_1] [] (.bool r) := by
 refine triple_intro (fn := Go.Proofs.Try.f12) (code := codeOf Go.Proofs.Try.f12) (by kernel_rfl) (by kernel_rfl) (Nat.le_of_ble_eq_true (by kernel_rfl)) ?_
 unfold R12_Same at h
 refine sr [(0, { id := 0 }), (1, { id := 1 })] [2, 3] [0, 1] 2 [Pp 0, Pp 1] [Vb 27 (v_T_api_Service a_1), Vb 27 (v_T_api_Service b_1)] hmix an ?_
 refine sq ?_
 refine sq ?_
 refine aw_mid (mk [(2, Pp 0), (3, Pp 1), (22, .bool (((lN (a_1.Threads)) != (lN (b_1.Threads))) || ((lN (a_1.Next)) != (lN (b_1.Next)))))] [(0, Vb 27 (v_T_api_Service a_1)), (1, Vb 27 (v_T_api_Service b_1))] 2) ?_ ?_
 ·rcases bft ((lN (a_1.Threads)) != (lN (b_1.Threads))) with gg_1 | gg_1
  ·refine rg [(2, { n := (a_1.Threads).length }), (5, { n := (b_1.Threads).length }), (8, Hg), (9, Hg), (10, Hg), (11, Hg), (12, Hg), (13, Hg), (14, Hg), (15, Ht)] [2, 3, 22] [0, 1] 2 [Pp 0, Pp 1, .bool true] [Vb 27 (v_T_api_Service a_1), Vb 27 (v_T_api_Service b_1)] hmix (ac (vc_len _ : ((Mp e_T_api_Thread a_1.Threads)).length = (a_1.Threads).length) (ac (vc_len _ : ((Mp e_T_api_Thread b_1.Threads)).length = (b_1.Threads).length) (ac gg_1 (ac gg_1 (ac gg_1 (ac gg_1 (ac gg_1 (ac gg_1 (ac gg_1 (ac gg_1 an)))))))))) ?_
   exact ⟨rfl, (sw [0, 1] [] [.s 2, .s 3, .a 22 (.bool (((lN (a_1.Threads)) != (lN (b_1.Threads))) || ((lN (a_1.Next)) != (lN (b_1.Next)))))] [.s 0, .s 1] (ac (congrArg AV.bool (ort gg_1) : (.bool true : AV) = .bool (((lN (a_1.Threads)) != (lN (b_1.Threads))) || ((lN (a_1.Next)) != (lN (b_1.Next))))) an))⟩
  ·refine rg [(2, { n := (a_1.Threads).length }), (5, { n := (b_1.Threads).length }), (10, { n := (a_1.Next).length }), (13, { n := (b_1.Next).length }), (15, Hf)] [2, 3, 22] [0, 1] 2 [Pp 0, Pp 1, .bool ((lN (a_1.Next)) != (lN (b_1.Next)))] [Vb 27 (v_T_api_Service a_1), Vb 27 (v_T_api_Service b_1)] hmix (ac (vc_len _ : ((Mp e_T_api_Thread a_1.Threads)).length = (a_1.Threads).length) (ac (vc_len _ : ((Mp e_T_api_Thread b_1.Threads)).length = (b_1.Threads).length) (ac gg_1 (ac gg_1 (ac gg_1 (ac (vc_len _ : ((Mi a_1.Next)).length = (a_1.Next).length) (ac gg_1 (ac gg_1 (ac gg_1 (ac (vc_len _ : ((Mi b_1.Next)).length = (b_1.Next).length) (ac gg_1 (ac gg_1 an)))))))))))) ?_
   exact ⟨rfl, (sw [0, 1] [] [.s 2, .s 3, .a 22 (.bool (((lN (a_1.Threads)) != (lN (b_1.Threads))) || ((lN (a_1.Next)) != (lN (b_1.Next)))))] [.s 0, .s 1] (ac (congrArg AV.bool (orf gg_1 rfl) : (.bool ((lN (a_1.Next)) != (lN (b_1.Next))) : AV) = .bool (((lN (a_1.Threads)) != (lN (b_1.Threads))) || ((lN (a_1.Next)) != (lN (b_1.Next))))) an))⟩
 refine cd 22 (((lN (a_1.Threads)) != (lN (b_1.Threads))) || ((lN (a_1.Next)) != (lN (b_1.Next)))) ?_ ?_
 ·intro g_1; replace h := cond_t g_1 h
  refine sr [] [4] [] 2 [.bool false] [] hmix an ?_
  refine rt ?_
  cases h
  exact ⟨.inr rfl, Nat.le_of_ble_eq_true rfl, by kernel_rfl⟩
 intro g_1; replace h := cond_f g_1 h
 refine sk ?_
 refine sq ?_
 refine sr [] [2, 3, 5] [0, 1] 2 [Pp 0, Pp 1, Ii 0] [Vb 27 (v_T_api_Service a_1), Vb 27 (v_T_api_Service b_1)] hmix an ?_
 obtain ⟨o_1, h_1, h⟩ := bind_some h
 refine aw_conv (K1 := (fun e st' => match o_1 with | (.inl q0) => e = .normal ∧ Sub 0 st' (mk [(2, Pp 0), (3, Pp 1)] [(0, Vb 27 (v_T_api_Service a_1)), (1, Vb 27 (v_T_api_Service b_1))] 2) | (.inr q1) => e = .ret ∧ FinR prog Go.Proofs.Try.f12 0 [] (.bool q1) st')) ?_ ?_
 ·replace h := h_1
  refine aw_block (id := 0) (by kernel_rfl) ?_
  refine wk [0, 1] [] [.s 2, .s 3, .s 5] [.s 0, .s 1] [(2, Pp 0), (3, Pp 1), (5, Ii 0)] [(0, Vb 27 (v_T_api_Service a_1)), (1, Vb 27 (v_T_api_Service b_1))] an ?_
  refine aw_loopF (fun n st => ∃ (i_1 : Int), st = mk [(2, Pp 0), (3, Pp 1), (5, Ii i_1)] [(0, Vb 27 (v_T_api_Service a_1)), (1, Vb 27 (v_T_api_Service b_1))] 2 ∧ R12_Same_L1 F a_1 b_1 n i_1 = some o_1) F (by kernel_rfl) ⟨_, rfl, h⟩ ?_ ?_
  ·rintro _ ⟨_, _, h⟩; exact none_ne (h : (none : Option (Unit ⊕ Bool)) = some o_1)
  rintro n_1 _ ⟨i_1, rfl, h⟩
  replace h : R12_Same_L1_body F a_1 b_1 (R12_Same_L1 F a_1 b_1 n_1) i_1 = some o_1 := h
  unfold R12_Same_L1_body at h
  refine sq ?_
  refine sr [(3, { n := (a_1.Threads).length })] [2, 3, 5, 27] [0, 1] 2 [Pp 0, Pp 1, Ii i_1, .bool (decide (i_1 < (lN (a_1.Threads))))] [Vb 27 (v_T_api_Service a_1), Vb 27 (v_T_api_Service b_1)] hmix (ac (vc_len _ : ((Mp e_T_api_Thread a_1.Threads)).length = (a_1.Threads).length) an) ?_
  refine cd 27 (decide (i_1 < (lN (a_1.Threads)))) ?_ ?_
  rotate_left
  ·intro g_2; replace h := cond_f g_2 h
   refine aw_exit (id := 0) (by kernel_rfl) ?_
   cases h
   exact ⟨rfl, (sw [0, 1] [] [.s 2, .s 3] [.s 0, .s 1] an)⟩
  intro g_2; replace h := cond_t g_2 h
  refine sk ?_
  refine sq ?_
  refine aw_block (id := 1) (by kernel_rfl) ?_
  refine sq ?_
  obtain ⟨x_1, h_2, h⟩ := bind_some h
  obtain ⟨x_2, h_3, h⟩ := bind_some h
  refine rg [(3, { av := e_T_api_Thread x_1 }), (8, { av := e_T_api_Thread x_2 }), (10, { b := (decide (x_1 = x_2)), mks := [.int .i64, .str, .int .i64] })] [2, 3, 5, 40] [0, 1] 2 [Pp 0, Pp 1, Ii i_1, .bool (!(decide (x_1 = x_2)))] [Vb 27 (v_T_api_Service a_1), Vb 27 (v_T_api_Service b_1)] hmix (ac (vc_idx h_2 : idxA (Mp e_T_api_Thread a_1.Threads) i_1 = some (e_T_api_Thread x_1)) (ac (vc_idx h_3 : idxA (Mp e_T_api_Thread b_1.Threads) i_1 = some (e_T_api_Thread x_2)) (ac (eqOk_60 : EqOk prog 60 [.int .i64, .str, .int .i64]) (ac (vc_eqA (f := e_T_api_Thread) inj_T_api_Thread x_1 x_2 : ((decide (x_1 = x_2)) = true ↔ AV.agg [Ii x_1.Id, .str x_1.Name, Ii x_1.Domain] = AV.agg [Ii x_2.Id, .str x_2.Name, Ii x_2.Domain])) an)))) ?_
  refine cd 40 (!(decide (x_1 = x_2))) ?_ ?_
  rotate_left
  ·intro g_3; replace h := cond_f g_3 h
   refine sk ?_
   refine rg [] [2, 3, 5] [0, 1] 2 [Pp 0, Pp 1, Ii (w_i64 (i_1 + (1 : Int)))] [Vb 27 (v_T_api_Service a_1), Vb 27 (v_T_api_Service b_1)] hmix an ?_
   exact ⟨_, (sw [0, 1] [] [.s 2, .s 3, .s 5] [.s 0, .s 1] an), _, rfl, h⟩
  intro g_3; replace h := cond_t g_3 h
  refine sr [] [4] [] 2 [.bool false] [] hmix an ?_
  refine rt ?_
  cases h
  exact ⟨rfl, Nat.le_of_ble_eq_true rfl, by kernel_rfl⟩
 intro e st1 hk
 rcases o_1 with q_1 | q_2
 rotate_left
 ·obtain ⟨rfl, hf⟩ := hk
  cases h
  exact ⟨st1, Sub.refl _ _, .inr rfl, hf⟩
 obtain ⟨rfl, hs⟩ := hk
 refine ⟨_, hs, ?_⟩
 refine sq ?_
 refine sr [] [2, 3, 6] [0, 1] 2 [Pp 0, Pp 1, Ii 0] [Vb 27 (v_T_api_Service a_1), Vb 27 (v_T_api_Service b_1)] hmix an ?_
 obtain ⟨o_2, h_4, h⟩ := bind_some h
 refine aw_conv (K1 := (fun e st' => match o_2 with | (.inl q0) => e = .normal ∧ Sub 0 st' (mk [(2, Pp 0), (3, Pp 1)] [(0, Vb 27 (v_T_api_Service a_1)), (1, Vb 27 (v_T_api_Service b_1))] 2) | (.inr q1) => e = .ret ∧ FinR prog Go.Proofs.Try.f12 0 [] (.bool q1) st')) ?_ ?_
 ·replace h := h_4
  refine aw_block (id := 2) (by kernel_rfl) ?_
  refine wk [0, 1] [] [.s 2, .s 3, .s 6] [.s 0, .s 1] [(2, Pp 0), (3, Pp 1), (6, Ii 0)] [(0, Vb 27 (v_T_api_Service a_1)), (1, Vb 27 (v_T_api_Service b_1))] an ?_
  refine aw_loopF (fun n st => ∃ (i_2 : Int), st = mk [(2, Pp 0), (3, Pp 1), (6, Ii i_2)] [(0, Vb 27 (v_T_api_Service a_1)), (1, Vb 27 (v_T_api_Service b_1))] 2 ∧ R12_Same_L2 F a_1 b_1 n i_2 = some o_2) F (by kernel_rfl) ⟨_, rfl, h⟩ ?_ ?_
  ·rintro _ ⟨_, _, h⟩; exact none_ne (h : (none : Option (Unit ⊕ Bool)) = some o_2)
  rintro n_2 _ ⟨i_2, rfl, h⟩
  replace h : R12_Same_L2_body F a_1 b_1 (R12_Same_L2 F a_1 b_1 n_2) i_2 = some o_2 := h
  unfold R12_Same_L2_body at h
  refine sq ?_
  refine sr [(3, { n := (a_1.Next).length })] [2, 3, 6, 45] [0, 1] 2 [Pp 0, Pp 1, Ii i_2, .bool (decide (i_2 < (lN (a_1.Next))))] [Vb 27 (v_T_api_Service a_1), Vb 27 (v_T_api_Service b_1)] hmix (ac (vc_len _ : ((Mi a_1.Next)).length = (a_1.Next).length) an) ?_
  refine cd 45 (decide (i_2 < (lN (a_1.Next)))) ?_ ?_
  rotate_left
  ·intro g_4; replace h := cond_f g_4 h
   refine aw_exit (id := 2) (by kernel_rfl) ?_
   cases h
   exact ⟨rfl, (sw [0, 1] [] [.s 2, .s 3] [.s 0, .s 1] an)⟩
  intro g_4; replace h := cond_t g_4 h
  refine sk ?_
  refine sq ?_
  refine aw_block (id := 3) (by kernel_rfl) ?_
  refine sq ?_
  obtain ⟨x_3, h_5, h⟩ := bind_some h
  obtain ⟨x_4, h_6, h⟩ := bind_some h
  refine rg [(3, { av := Ii x_3 }), (8, { av := Ii x_4 })] [2, 3, 6, 58] [0, 1] 2 [Pp 0, Pp 1, Ii i_2, .bool (x_3 != x_4)] [Vb 27 (v_T_api_Service a_1), Vb 27 (v_T_api_Service b_1)] hmix (ac (vc_idx h_5 : idxA (Mi a_1.Next) i_2 = some (Ii x_3)) (ac (vc_idx h_6 : idxA (Mi b_1.Next) i_2 = some (Ii x_4)) an)) ?_
  refine cd 58 (x_3 != x_4) ?_ ?_
  rotate_left
  ·intro g_5; replace h := cond_f g_5 h
   refine sk ?_
   refine rg [] [2, 3, 6] [0, 1] 2 [Pp 0, Pp 1, Ii (w_i64 (i_2 + (1 : Int)))] [Vb 27 (v_T_api_Service a_1), Vb 27 (v_T_api_Service b_1)] hmix an ?_
   exact ⟨_, (sw [0, 1] [] [.s 2, .s 3, .s 6] [.s 0, .s 1] an), _, rfl, h⟩
  intro g_5; replace h := cond_t g_5 h
  refine sr [] [4] [] 2 [.bool false] [] hmix an ?_
  refine rt ?_
  cases h
  exact ⟨rfl, Nat.le_of_ble_eq_true rfl, by kernel_rfl⟩
 intro e st1 hk
 rcases o_2 with q_3 | q_4
 rotate_left
 ·obtain ⟨rfl, hf⟩ := hk
  cases h
  exact ⟨st1, Sub.refl _ _, .inr rfl, hf⟩
 obtain ⟨rfl, hs⟩ := hk
 refine ⟨_, hs, ?_⟩
 refine sq ?_
 obtain ⟨r_1, h_7, h⟩ := bind_some h
 refine rg [(4, { av := .bool r_1, l := [.sl false 4 (Mp e_T_api_Packet a_1.Queue), .sl false 4 (Mp e_T_api_Packet b_1.Queue)] })] [4] [] 2 [.bool r_1] [] hmix (ar ([.sl false 4 (Mp e_T_api_Packet a_1.Queue), .sl false 4 (Mp e_T_api_Packet b_1.Queue)] : List AV) (ac (rfl : ([] : List BoxSt) = []) (ac (R12_SamePackets_ok F a_1.Queue b_1.Queue r_1 h_7 : TripleG prog 20 [] [] [.sl false 4 (Mp e_T_api_Packet a_1.Queue), .sl false 4 (Mp e_T_api_Packet b_1.Queue)] [] (.bool r_1)) an))) ?_
 refine rt ?_
 cases h
 exact ⟨.inr rfl, Nat.le_of_ble_eq_true rfl, by kernel_rfl⟩

theorem L12_small_ok (F : Nat) (l_1 : List (T_api_Packet)) (r : Bool) (h : L12_small F l_1 = some r) : TripleG prog 21 [] [] [.sl false 4 (Mp e_T_api_Packet l_1)] [] (.bool r) := by
 refine triple_intro (fn := Go.Proofs.Try.f21) (code := codeOf Go.Proofs.Try.f21) (by kernel_rfl) (by kernel_rfl) (Nat.le_of_ble_eq_true (by kernel_rfl)) ?_
 unfold L12_small at h
 refine sr [] [0] [] 0 [.sl false 4 (Mp e_T_api_Packet l_1)] [] hmix an ?_
 refine sr [(1, { n := (l_1).length })] [0, 3] [] 0 [.sl false 4 (Mp e_T_api_Packet l_1), Ii (lN (l_1))] [] hmix (ac (vc_len _ : ((Mp e_T_api_Packet l_1)).length = (l_1).length) an) ?_
 refine sq ?_
 refine sr [] [0, 3, 4] [] 0 [.sl false 4 (Mp e_T_api_Packet l_1), Ii (lN (l_1)), Ii 0] [] hmix an ?_
 obtain ⟨o_1, h_1, h⟩ := bind_some h
 refine aw_mid (mk [(3, Ii o_1)] [] 0) ?_ ?_
 ·replace h := h_1
  refine aw_block (id := 0) (by kernel_rfl) ?_
  refine wk [] [] [.s 0, .s 3, .s 4] [] [(0, .sl false 4 (Mp e_T_api_Packet l_1)), (3, Ii (lN (l_1))), (4, Ii 0)] [] an ?_
  refine aw_loopF (fun n st => ∃ (n_1 : Int), ∃ (i_1 : Int), st = mk [(0, .sl false 4 (Mp e_T_api_Packet l_1)), (3, Ii n_1), (4, Ii i_1)] [] 0 ∧ L12_small_L1 F l_1 n n_1 i_1 = some o_1) F (by kernel_rfl) ⟨_, _, rfl, h⟩ ?_ ?_
  ·rintro _ ⟨_, _, _, h⟩; exact none_ne (h : (none : Option Int) = some o_1)
  rintro n_2 _ ⟨n_1, i_1, rfl, h⟩
  replace h : L12_small_L1_body F l_1 (L12_small_L1 F l_1 n_2) n_1 i_1 = some o_1 := h
  unfold L12_small_L1_body at h
  refine sq ?_
  refine sq ?_
  refine aw_mid (mk [(0, .sl false 4 (Mp e_T_api_Packet l_1)), (3, Ii n_1), (4, Ii i_1), (14, .bool (decide (i_1 < (lN (l_1))) && decide (n_1 ≤ (3000 : Int))))] [] 0) ?_ ?_
  ·rcases bft (decide (i_1 < (lN (l_1)))) with gg_4 | gg_4
   ·refine rg [(2, { n := (l_1).length }), (7, Ht)] [0, 3, 4, 12, 13, 14] [] 0 [.sl false 4 (Mp e_T_api_Packet l_1), Ii n_1, Ii i_1, Ii n_1, .bool (decide (n_1 ≤ (3000 : Int))), .bool (decide (n_1 ≤ (3000 : Int)))] [] hmix (ac (vc_len _ : ((Mp e_T_api_Packet l_1)).length = (l_1).length) (ac gg_4 (ac gg_4 (ac gg_4 an)))) ?_
    exact ⟨rfl, (sw [] [] [.s 0, .s 3, .s 4, .a 14 (.bool (decide (i_1 < (lN (l_1))) && decide (n_1 ≤ (3000 : Int))))] [] (ac (congrArg AV.bool (andt gg_4 rfl) : (.bool (decide (n_1 ≤ (3000 : Int))) : AV) = .bool (decide (i_1 < (lN (l_1))) && decide (n_1 ≤ (3000 : Int)))) an))⟩
   ·refine rg [(2, { n := (l_1).length }), (5, Hg), (6, Hg), (7, Hf)] [0, 3, 4, 12, 13, 14] [] 0 [.sl false 4 (Mp e_T_api_Packet l_1), Ii n_1, Ii i_1, .tuple [], .tuple [], .bool false] [] hmix (ac (vc_len _ : ((Mp e_T_api_Packet l_1)).length = (l_1).length) (ac gg_4 (ac gg_4 (ac gg_4 an)))) ?_
    exact ⟨rfl, (sw [] [] [.s 0, .s 3, .s 4, .a 14 (.bool (decide (i_1 < (lN (l_1))) && decide (n_1 ≤ (3000 : Int))))] [] (ac (congrArg AV.bool (andf gg_4) : (.bool false : AV) = .bool (decide (i_1 < (lN (l_1))) && decide (n_1 ≤ (3000 : Int)))) an))⟩
  refine cd 14 (decide (i_1 < (lN (l_1))) && decide (n_1 ≤ (3000 : Int))) ?_ ?_
  rotate_left
  ·intro g_1; replace h := cond_f g_1 h
   refine aw_exit (id := 0) (by kernel_rfl) ?_
   cases h
   exact ⟨rfl, (sw [] [] [.s 3] [] an)⟩
  intro g_1; replace h := cond_t g_1 h
  refine sk ?_
  refine sq ?_
  refine aw_block (id := 1) (by kernel_rfl) ?_
  obtain ⟨x_1, h_2, h⟩ := bind_some h
  refine rg [(3, { av := e_T_api_Packet x_1 }), (6, { n := (x_1.Events).length })] [0, 3, 4] [] 0 [.sl false 4 (Mp e_T_api_Packet l_1), Ii (w_i64 (n_1 + (lN (x_1.Events)))), Ii i_1] [] hmix (ac (vc_idx h_2 : idxA (Mp e_T_api_Packet l_1) i_1 = some (e_T_api_Packet x_1)) (ac (vc_len _ : ((Mp e_T_api_Event x_1.Events)).length = (x_1.Events).length) an)) ?_
  refine rg [] [0, 3, 4] [] 0 [.sl false 4 (Mp e_T_api_Packet l_1), Ii (w_i64 (n_1 + (lN (x_1.Events)))), Ii (w_i64 (i_1 + (1 : Int)))] [] hmix an ?_
  exact ⟨_, (sw [] [] [.s 0, .s 3, .s 4] [] an), _, _, rfl, h⟩
 refine sr [] [2] [] 0 [.bool (decide (o_1 ≤ (3000 : Int)))] [] hmix an ?_
 refine rt ?_
 cases h
 exact ⟨.inr rfl, Nat.le_of_ble_eq_true rfl, by kernel_rfl⟩

theorem L12_few_ok (F : Nat) (s_1 : T_api_Service) (r : Bool) (h : L12_few F s_1 = some r) : TripleG prog 14 [] [] [e_T_api_Service s_1] [] (.bool r) := by
 refine triple_intro (fn := Go.Proofs.Try.f14) (code := codeOf Go.Proofs.Try.f14) (by kernel_rfl) (by kernel_rfl) (Nat.le_of_ble_eq_true (by kernel_rfl)) ?_
 unfold L12_few at h
 refine sr [(0, { id := 0 })] [1] [0] 1 [Pp 0] [Vb 27 (v_T_api_Service s_1)] hmix an ?_
 refine sq ?_
 obtain ⟨p_1, h_2, h⟩ := bind_some h
 refine aw_mid (mk [(2, .bool p_1)] [] 0) ?_ ?_
 ·replace h := h_2
  rcases bft (decide ((lN (s_1.Threads)) ≤ (70 : Int))) with gg_1 | gg_1
  ·replace h := cond_t gg_1 h
   rcases bft (decide ((lN (s_1.Next)) ≤ (100 : Int))) with gg_2 | gg_2
   ·replace h := cond_t gg_2 h
    obtain ⟨r_1, h_1, h⟩ := bind_some h
    refine rg [(2, { n := (s_1.Threads).length }), (7, { n := (s_1.Next).length }), (9, Ht), (13, { av := .bool r_1, l := [.sl false 4 (Mp e_T_api_Packet s_1.Queue)] }), (14, Ht)] [2] [] 1 [.bool r_1] [] hmix (ac (vc_len _ : ((Mp e_T_api_Thread s_1.Threads)).length = (s_1.Threads).length) (ac gg_1 (ac gg_1 (ac gg_1 (ac (vc_len _ : ((Mi s_1.Next)).length = (s_1.Next).length) (ac gg_1 (ac gg_1 (ac gg_2 (ac gg_2 (ac gg_2 (ar ([.sl false 4 (Mp e_T_api_Packet s_1.Queue)] : List AV) (ac (rfl : ([] : List BoxSt) = []) (ac (L12_small_ok F s_1.Queue r_1 h_1 : TripleG prog 21 [] [] [.sl false 4 (Mp e_T_api_Packet s_1.Queue)] [] (.bool r_1)) (ac gg_2 an)))))))))))))) ?_
    cases h
    exact ⟨rfl, (sw [] [] [.s 2] [] an)⟩
   ·replace h := cond_f gg_2 h
    refine rg [(2, { n := (s_1.Threads).length }), (7, { n := (s_1.Next).length }), (9, Ht), (11, Hg), (12, Hg), (13, Hg), (14, Hf)] [2] [] 1 [.bool false] [] hmix (ac (vc_len _ : ((Mp e_T_api_Thread s_1.Threads)).length = (s_1.Threads).length) (ac gg_1 (ac gg_1 (ac gg_1 (ac (vc_len _ : ((Mi s_1.Next)).length = (s_1.Next).length) (ac gg_1 (ac gg_1 (ac gg_2 (ac gg_2 (ac gg_2 (ac gg_2 an))))))))))) ?_
    cases h
    exact ⟨rfl, (sw [] [] [.s 2] [] an)⟩
  ·replace h := cond_f gg_1 h
   refine rg [(2, { n := (s_1.Threads).length }), (5, Hg), (6, Hg), (7, Hg), (8, Hg), (9, Hf), (11, Hg), (12, Hg), (13, Hg), (14, Hf)] [2] [] 1 [.bool false] [] hmix (ac (vc_len _ : ((Mp e_T_api_Thread s_1.Threads)).length = (s_1.Threads).length) (ac gg_1 (ac gg_1 (ac gg_1 (ac gg_1 (ac gg_1 (ac (rfl : false = !true) (ac (rfl : false = !true) (ac (rfl : false = !true) (ar false an)))))))))) ?_
   cases h
   exact ⟨rfl, (sw [] [] [.s 2] [] an)⟩
 refine rt ?_
 cases h
 exact ⟨.inr rfl, Nat.le_of_ble_eq_true rfl, by kernel_rfl⟩

theorem R11_number_ok (n_1 : Int) (r : Bool) (h : R11_number n_1 = some r) : TripleG prog 60 [] [] [Ii n_1] [] (.bool r) := by
 refine triple_intro (fn := Go.Proofs.Try.f60) (code := codeOf Go.Proofs.Try.f60) (by kernel_rfl) (by kernel_rfl) (Nat.le_of_ble_eq_true (by kernel_rfl)) ?_
 unfold R11_number at h
 refine sr [] [0] [] 0 [Ii n_1] [] hmix an ?_
 refine sq ?_
 refine aw_mid (mk [(2, .bool (decide (n_1 ≥ (0 : Int)) && decide (n_1 ≤ (1000000000000000 : Int))))] [] 0) ?_ ?_
 ·rcases bft (decide (n_1 ≥ (0 : Int))) with gg_1 | gg_1
  ·refine rg [(5, Ht)] [2] [] 0 [.bool (decide (n_1 ≤ (1000000000000000 : Int)))] [] hmix (ac gg_1 (ac gg_1 (ac gg_1 an))) ?_
   exact ⟨rfl, (sw [] [] [.a 2 (.bool (decide (n_1 ≥ (0 : Int)) && decide (n_1 ≤ (1000000000000000 : Int))))] [] (ac (congrArg AV.bool (andt gg_1 rfl) : (.bool (decide (n_1 ≤ (1000000000000000 : Int))) : AV) = .bool (decide (n_1 ≥ (0 : Int)) && decide (n_1 ≤ (1000000000000000 : Int)))) an))⟩
  ·refine rg [(3, Hg), (4, Hg), (5, Hf)] [2] [] 0 [.bool false] [] hmix (ac gg_1 (ac gg_1 (ac gg_1 an))) ?_
   exact ⟨rfl, (sw [] [] [.a 2 (.bool (decide (n_1 ≥ (0 : Int)) && decide (n_1 ≤ (1000000000000000 : Int))))] [] (ac (congrArg AV.bool (andf gg_1) : (.bool false : AV) = .bool (decide (n_1 ≥ (0 : Int)) && decide (n_1 ≤ (1000000000000000 : Int)))) an))⟩
 refine rt ?_
 cases h
 exact ⟨.inr rfl, Nat.le_of_ble_eq_true rfl, by kernel_rfl⟩

theorem R07_uses_ok (k_1 : Int) (r : Bool × Bool × Bool × Bool) (h : R07_uses k_1 = some r) : TripleG prog 74 [] [] [Ii k_1] [] (.tuple [.bool r.1, .bool r.2.1, .bool r.2.2.1, .bool r.2.2.2]) := by
 refine triple_intro (fn := Go.Proofs.Try.f74) (code := codeOf Go.Proofs.Try.f74) (by kernel_rfl) (by kernel_rfl) (Nat.le_of_ble_eq_true (by kernel_rfl)) ?_
 unfold R07_uses at h
 refine sr [] [0] [] 0 [Ii k_1] [] hmix an ?_
 refine sq ?_
 refine aw_mid (mk [(0, Ii k_1), (6, .bool ((k_1 == (1 : Int)) || ((k_1 == (3 : Int)) || (k_1 == (4 : Int)))))] [] 0) ?_ ?_
 ·rcases bft (k_1 == (1 : Int)) with gg_1 | gg_1
  ·refine rg [(3, Hg), (4, Hg), (5, Ht), (7, Hg), (8, Hg), (9, Ht)] [0, 6] [] 0 [Ii k_1, .bool true] [] hmix (ac gg_1 (ac gg_1 (ac gg_1 (ax (ax (ar true an)))))) ?_
   exact ⟨rfl, (sw [] [] [.s 0, .a 6 (.bool ((k_1 == (1 : Int)) || ((k_1 == (3 : Int)) || (k_1 == (4 : Int)))))] [] (ac (congrArg AV.bool (ort gg_1) : (.bool true : AV) = .bool ((k_1 == (1 : Int)) || ((k_1 == (3 : Int)) || (k_1 == (4 : Int))))) an))⟩
  ·rcases bft (k_1 == (3 : Int)) with gg_2 | gg_2
   ·refine rg [(5, Hf), (7, Hg), (8, Hg), (9, Ht)] [0, 6] [] 0 [Ii k_1, .bool true] [] hmix (ac gg_1 (ac gg_1 (ac gg_1 (ac gg_2 (ac gg_2 (ac gg_2 an)))))) ?_
    exact ⟨rfl, (sw [] [] [.s 0, .a 6 (.bool ((k_1 == (1 : Int)) || ((k_1 == (3 : Int)) || (k_1 == (4 : Int)))))] [] (ac (congrArg AV.bool (orf gg_1 (ort gg_2)) : (.bool true : AV) = .bool ((k_1 == (1 : Int)) || ((k_1 == (3 : Int)) || (k_1 == (4 : Int))))) an))⟩
   ·refine rg [(5, Hf), (9, Hf)] [0, 6] [] 0 [Ii k_1, .bool (k_1 == (4 : Int))] [] hmix (ac gg_1 (ac gg_1 (ac gg_1 (ac gg_2 (ac gg_2 (ac gg_2 an)))))) ?_
    exact ⟨rfl, (sw [] [] [.s 0, .a 6 (.bool ((k_1 == (1 : Int)) || ((k_1 == (3 : Int)) || (k_1 == (4 : Int)))))] [] (ac (congrArg AV.bool (orf gg_1 (orf gg_2 rfl)) : (.bool (k_1 == (4 : Int)) : AV) = .bool ((k_1 == (1 : Int)) || ((k_1 == (3 : Int)) || (k_1 == (4 : Int))))) an))⟩
 refine sr [] [0, 6, 7] [] 0 [Ii k_1, .bool ((k_1 == (1 : Int)) || ((k_1 == (3 : Int)) || (k_1 == (4 : Int)))), .bool (decide (k_1 ≥ (4 : Int)))] [] hmix an ?_
 refine sq ?_
 refine aw_mid (mk [(0, Ii k_1), (6, .bool ((k_1 == (1 : Int)) || ((k_1 == (3 : Int)) || (k_1 == (4 : Int))))), (7, .bool (decide (k_1 ≥ (4 : Int)))), (8, .bool ((k_1 == (9 : Int)) || (k_1 == (11 : Int))))] [] 0) ?_ ?_
 ·rcases bft (k_1 == (9 : Int)) with gg_3 | gg_3
  ·refine rg [(3, Hg), (4, Hg), (5, Ht)] [0, 6, 7, 8] [] 0 [Ii k_1, .bool ((k_1 == (1 : Int)) || ((k_1 == (3 : Int)) || (k_1 == (4 : Int)))), .bool (decide (k_1 ≥ (4 : Int))), .bool true] [] hmix (ac gg_3 (ac gg_3 (ac gg_3 an))) ?_
   exact ⟨rfl, (sw [] [] [.s 0, .s 6, .s 7, .a 8 (.bool ((k_1 == (9 : Int)) || (k_1 == (11 : Int))))] [] (ac (congrArg AV.bool (ort gg_3) : (.bool true : AV) = .bool ((k_1 == (9 : Int)) || (k_1 == (11 : Int)))) an))⟩
  ·refine rg [(5, Hf)] [0, 6, 7, 8] [] 0 [Ii k_1, .bool ((k_1 == (1 : Int)) || ((k_1 == (3 : Int)) || (k_1 == (4 : Int)))), .bool (decide (k_1 ≥ (4 : Int))), .bool (k_1 == (11 : Int))] [] hmix (ac gg_3 (ac gg_3 (ac gg_3 an))) ?_
   exact ⟨rfl, (sw [] [] [.s 0, .s 6, .s 7, .a 8 (.bool ((k_1 == (9 : Int)) || (k_1 == (11 : Int))))] [] (ac (congrArg AV.bool (orf gg_3 rfl) : (.bool (k_1 == (11 : Int)) : AV) = .bool ((k_1 == (9 : Int)) || (k_1 == (11 : Int)))) an))⟩
 refine sq ?_
 refine aw_mid (mk [(6, .bool ((k_1 == (1 : Int)) || ((k_1 == (3 : Int)) || (k_1 == (4 : Int))))), (7, .bool (decide (k_1 ≥ (4 : Int)))), (8, .bool ((k_1 == (9 : Int)) || (k_1 == (11 : Int)))), (9, .bool ((k_1 == (5 : Int)) || (k_1 == (11 : Int))))] [] 0) ?_ ?_
 ·rcases bft (k_1 == (5 : Int)) with gg_4 | gg_4
  ·refine rg [(3, Hg), (4, Hg), (5, Ht)] [6, 7, 8, 9] [] 0 [.bool ((k_1 == (1 : Int)) || ((k_1 == (3 : Int)) || (k_1 == (4 : Int)))), .bool (decide (k_1 ≥ (4 : Int))), .bool ((k_1 == (9 : Int)) || (k_1 == (11 : Int))), .bool true] [] hmix (ac gg_4 (ac gg_4 (ac gg_4 an))) ?_
   exact ⟨rfl, (sw [] [] [.s 6, .s 7, .s 8, .a 9 (.bool ((k_1 == (5 : Int)) || (k_1 == (11 : Int))))] [] (ac (congrArg AV.bool (ort gg_4) : (.bool true : AV) = .bool ((k_1 == (5 : Int)) || (k_1 == (11 : Int)))) an))⟩
  ·refine rg [(5, Hf)] [6, 7, 8, 9] [] 0 [.bool ((k_1 == (1 : Int)) || ((k_1 == (3 : Int)) || (k_1 == (4 : Int)))), .bool (decide (k_1 ≥ (4 : Int))), .bool ((k_1 == (9 : Int)) || (k_1 == (11 : Int))), .bool (k_1 == (11 : Int))] [] hmix (ac gg_4 (ac gg_4 (ac gg_4 an))) ?_
   exact ⟨rfl, (sw [] [] [.s 6, .s 7, .s 8, .a 9 (.bool ((k_1 == (5 : Int)) || (k_1 == (11 : Int))))] [] (ac (congrArg AV.bool (orf gg_4 rfl) : (.bool (k_1 == (11 : Int)) : AV) = .bool ((k_1 == (5 : Int)) || (k_1 == (11 : Int)))) an))⟩
 refine sr [] [2, 3, 4, 5] [] 0 [.bool ((k_1 == (1 : Int)) || ((k_1 == (3 : Int)) || (k_1 == (4 : Int)))), .bool (decide (k_1 ≥ (4 : Int))), .bool ((k_1 == (9 : Int)) || (k_1 == (11 : Int))), .bool ((k_1 == (5 : Int)) || (k_1 == (11 : Int)))] [] hmix an ?_
 refine rt ?_
 cases h
 exact ⟨.inr rfl, Nat.le_of_ble_eq_true rfl, by kernel_rfl⟩

theorem R06_Frames_ok (F : Nat) (l_1 : List (List Int)) (r : Int) (h : R06_Frames F l_1 = some r) : TripleG prog 75 [] [] [.sl false 1 (Ms l_1)] [] (Ii r) := by
 refine triple_intro (fn := Go.Proofs.Try.f75) (code := codeOf Go.Proofs.Try.f75) (by kernel_rfl) (by kernel_rfl) (Nat.le_of_ble_eq_true (by kernel_rfl)) ?_
 unfold R06_Frames at h
 refine sr [] [0] [] 0 [.sl false 1 (Ms l_1)] [] hmix an ?_
 refine sq ?_
 refine sr [(1, { n := (l_1).length })] [0, 6] [] 0 [.sl false 1 (Ms l_1), .bool (decide ((lN (l_1)) > (32 : Int)))] [] hmix (ac (vc_len _ : ((Ms l_1)).length = (l_1).length) an) ?_
 refine cd 6 (decide ((lN (l_1)) > (32 : Int))) ?_ ?_
 ·intro g_1; replace h := cond_t g_1 h
  refine sr [] [2] [] 0 [Ii 7] [] hmix an ?_
  refine rt ?_
  cases h
  exact ⟨.inr rfl, Nat.le_of_ble_eq_true rfl, by kernel_rfl⟩
 intro g_1; replace h := cond_f g_1 h
 refine sk ?_
 refine sq ?_
 refine sr [] [0, 3] [] 0 [.sl false 1 (Ms l_1), Ii 0] [] hmix an ?_
 obtain ⟨o_1, h_1, h⟩ := bind_some h
 refine aw_conv (K1 := (fun e st' => match o_1 with | (.inl q0) => e = .normal ∧ Sub 0 st' (mk [] [] 0) | (.inr q1) => e = .ret ∧ FinR prog Go.Proofs.Try.f75 0 [] (Ii q1) st')) ?_ ?_
 ·replace h := h_1
  refine aw_block (id := 0) (by kernel_rfl) ?_
  refine wk [] [] [.s 0, .s 3] [] [(0, .sl false 1 (Ms l_1)), (3, Ii 0)] [] an ?_
  refine aw_loopF (fun n st => ∃ (i_1 : Int), st = mk [(0, .sl false 1 (Ms l_1)), (3, Ii i_1)] [] 0 ∧ R06_Frames_L1 F l_1 n i_1 = some o_1) F (by kernel_rfl) ⟨_, rfl, h⟩ ?_ ?_
  ·rintro _ ⟨_, _, h⟩; exact none_ne (h : (none : Option (Unit ⊕ Int)) = some o_1)
  rintro n_1 _ ⟨i_1, rfl, h⟩
  replace h : R06_Frames_L1_body F l_1 (R06_Frames_L1 F l_1 n_1) i_1 = some o_1 := h
  unfold R06_Frames_L1_body at h
  refine sq ?_
  refine sr [(2, { n := (l_1).length })] [0, 3, 10] [] 0 [.sl false 1 (Ms l_1), Ii i_1, .bool (decide (i_1 < (lN (l_1))))] [] hmix (ac (vc_len _ : ((Ms l_1)).length = (l_1).length) an) ?_
  refine cd 10 (decide (i_1 < (lN (l_1)))) ?_ ?_
  rotate_left
  ·intro g_2; replace h := cond_f g_2 h
   refine aw_exit (id := 0) (by kernel_rfl) ?_
   cases h
   exact ⟨rfl, (sw [] [] [] [] an)⟩
  intro g_2; replace h := cond_t g_2 h
  refine sk ?_
  refine sq ?_
  refine aw_block (id := 1) (by kernel_rfl) ?_
  refine sq ?_
  obtain ⟨x_1, h_2, h⟩ := bind_some h
  obtain ⟨r_1, h_3, h⟩ := bind_some h
  refine rg [(2, { av := .str x_1 }), (4, { av := Ii r_1, l := [.str x_1] })] [0, 3, 18] [] 0 [.sl false 1 (Ms l_1), Ii i_1, .bool (r_1 != (0 : Int))] [] hmix (ac (vc_idx h_2 : idxA (Ms l_1) i_1 = some (.str x_1)) (ar ([.str x_1] : List AV) (ac (rfl : ([] : List BoxSt) = []) (ac (R06_Name_ok F x_1 r_1 h_3 : TripleG prog 66 [] [] [.str x_1] [] (Ii r_1)) an)))) ?_
  refine cd 18 (r_1 != (0 : Int)) ?_ ?_
  rotate_left
  ·intro g_3; replace h := cond_f g_3 h
   refine sk ?_
   refine rg [] [0, 3] [] 0 [.sl false 1 (Ms l_1), Ii (w_i64 (i_1 + (1 : Int)))] [] hmix an ?_
   exact ⟨_, (sw [] [] [.s 0, .s 3] [] an), _, rfl, h⟩
  intro g_3; replace h := cond_t g_3 h
  refine sr [] [2] [] 0 [Ii 3] [] hmix an ?_
  refine rt ?_
  cases h
  exact ⟨rfl, Nat.le_of_ble_eq_true rfl, by kernel_rfl⟩
 intro e st1 hk
 rcases o_1 with q_1 | q_2
 rotate_left
 ·obtain ⟨rfl, hf⟩ := hk
  cases h
  exact ⟨st1, Sub.refl _ _, .inr rfl, hf⟩
 obtain ⟨rfl, hs⟩ := hk
 refine ⟨_, hs, ?_⟩
 refine sr [] [2] [] 0 [Ii 0] [] hmix an ?_
 refine rt ?_
 cases h
 exact ⟨.inr rfl, Nat.le_of_ble_eq_true rfl, by kernel_rfl⟩

theorem R07_within_ok (n_1 : Int) (low_1 : Int) (high_1 : Int) (r : Int) (h : R07_within n_1 low_1 high_1 = some r) : TripleG prog 80 [] [] [Ii n_1, Ii low_1, Ii high_1] [] (Ii r) := by
 refine triple_intro (fn := Go.Proofs.Try.f80) (code := codeOf Go.Proofs.Try.f80) (by kernel_rfl) (by kernel_rfl) (Nat.le_of_ble_eq_true (by kernel_rfl)) ?_
 unfold R07_within at h
 refine sr [] [0, 1, 2] [] 0 [Ii n_1, Ii low_1, Ii high_1] [] hmix an ?_
 refine sq ?_
 refine sq ?_
 refine aw_mid (mk [(14, .bool (decide (n_1 < low_1) || decide (n_1 > high_1)))] [] 0) ?_ ?_
 ·rcases bft (decide (n_1 < low_1)) with gg_1 | gg_1
  ·refine rg [(4, Hg), (5, Hg), (6, Hg), (7, Ht)] [14] [] 0 [.bool true] [] hmix (ac gg_1 (ac gg_1 (ac gg_1 (ac gg_1 an)))) ?_
   exact ⟨rfl, (sw [] [] [.a 14 (.bool (decide (n_1 < low_1) || decide (n_1 > high_1)))] [] (ac (congrArg AV.bool (ort gg_1) : (.bool true : AV) = .bool (decide (n_1 < low_1) || decide (n_1 > high_1))) an))⟩
  ·refine rg [(7, Hf)] [14] [] 0 [.bool (decide (n_1 > high_1))] [] hmix (ac gg_1 (ac gg_1 (ac gg_1 (ac gg_1 an)))) ?_
   exact ⟨rfl, (sw [] [] [.a 14 (.bool (decide (n_1 < low_1) || decide (n_1 > high_1)))] [] (ac (congrArg AV.bool (orf gg_1 rfl) : (.bool (decide (n_1 > high_1)) : AV) = .bool (decide (n_1 < low_1) || decide (n_1 > high_1))) an))⟩
 refine cd 14 (decide (n_1 < low_1) || decide (n_1 > high_1)) ?_ ?_
 ·intro g_1; replace h := cond_t g_1 h
  refine sr [] [6] [] 0 [Ii 2] [] hmix an ?_
  refine rt ?_
  cases h
  exact ⟨.inr rfl, Nat.le_of_ble_eq_true rfl, by kernel_rfl⟩
 intro g_1; replace h := cond_f g_1 h
 refine sk ?_
 refine sr [] [6] [] 0 [Ii 0] [] hmix an ?_
 refine rt ?_
 cases h
 exact ⟨.inr rfl, Nat.le_of_ble_eq_true rfl, by kernel_rfl⟩

theorem R07_numbers_ok (e_1 : T_api_Event) (r : Int) (h : R07_numbers e_1 = some r) : TripleG prog 76 [] [] [e_T_api_Event e_1] [] (Ii r) := by
 refine triple_intro (fn := Go.Proofs.Try.f76) (code := codeOf Go.Proofs.Try.f76) (by kernel_rfl) (by kernel_rfl) (Nat.le_of_ble_eq_true (by kernel_rfl)) ?_
 unfold R07_numbers at h
 refine sr [(0, { id := 0 })] [1] [0] 1 [Pp 0] [Vb 54 (v_T_api_Event e_1)] hmix an ?_
 refine sq ?_
 refine sr [] [1, 6] [0] 1 [Pp 0, Ii e_1.Kind] [Vb 54 (v_T_api_Event e_1)] hmix an ?_
 obtain ⟨o_1, h_1, h⟩ := bind_some h
 refine aw_conv (K1 := (fun e st' => match o_1 with | (.inl q0) => e = .normal ∧ Sub 0 st' (mk [(1, Pp 0)] [(0, Vb 54 (v_T_api_Event e_1))] 1) | (.inr q1) => e = .ret ∧ FinR prog Go.Proofs.Try.f76 0 [] (Ii q1) st')) ?_ ?_
 ·replace h := h_1
  refine aw_block (id := 0) (by kernel_rfl) ?_
  refine sq ?_
  refine sr [] [1, 6, 7] [0] 1 [Pp 0, Ii e_1.Kind, .bool (e_1.Kind == (1 : Int))] [Vb 54 (v_T_api_Event e_1)] hmix an ?_
  obtain ⟨o_2, h_2, h⟩ := bind_some h
  refine aw_mid (mk [(1, Pp 0), (6, Ii e_1.Kind), (7, .bool o_2)] [(0, Vb 54 (v_T_api_Event e_1))] 1) ?_ ?_
  ·replace h := h_2
   refine cd 7 (e_1.Kind == (1 : Int)) ?_ ?_
   ·intro g_1; replace h := cond_t g_1 h
    refine sk ?_
    cases h
    exact ⟨rfl, (sw [0] [] [.s 1, .s 6, .s 7] [.s 0] an)⟩
   intro g_1; replace h := cond_f g_1 h
   refine sr [] [1, 6, 7] [0] 1 [Pp 0, Ii e_1.Kind, .bool (e_1.Kind == (2 : Int))] [Vb 54 (v_T_api_Event e_1)] hmix an ?_
   refine cd 7 (e_1.Kind == (2 : Int)) ?_ ?_
   ·intro g_2; replace h := cond_t g_2 h
    refine sk ?_
    cases h
    exact ⟨rfl, (sw [0] [] [.s 1, .s 6, .s 7] [.s 0] an)⟩
   intro g_2; replace h := cond_f g_2 h
   refine rg [] [1, 6, 7] [0] 1 [Pp 0, Ii e_1.Kind, .bool (e_1.Kind == (3 : Int))] [Vb 54 (v_T_api_Event e_1)] hmix an ?_
   cases h
   exact ⟨rfl, (sw [0] [] [.s 1, .s 6, .s 7] [.s 0] an)⟩
  refine cd 7 o_2 ?_ ?_
  ·intro g_3; replace h := cond_t g_3 h
   refine sr [] [2] [] 1 [Ii 0] [] hmix an ?_
   refine rt ?_
   cases h
   exact ⟨rfl, Nat.le_of_ble_eq_true rfl, by kernel_rfl⟩
  intro g_3; replace h := cond_f g_3 h
  refine sr [] [1, 6, 11] [0] 1 [Pp 0, Ii e_1.Kind, .bool (e_1.Kind == (4 : Int))] [Vb 54 (v_T_api_Event e_1)] hmix an ?_
  refine cd 11 (e_1.Kind == (4 : Int)) ?_ ?_
  ·intro g_4; replace h := cond_t g_4 h
   refine sq ?_
   obtain ⟨r_1, h_3, h⟩ := bind_some h
   refine rg [(2, { av := Ii r_1, l := [Ii e_1.N, Ii (-1000000000000000), Ii 1000000000000000] })] [2] [] 1 [Ii r_1] [] hmix (ar ([Ii e_1.N, Ii (-1000000000000000), Ii 1000000000000000] : List AV) (ac (rfl : ([] : List BoxSt) = []) (ac (R07_within_ok e_1.N (-1000000000000000 : Int) (1000000000000000 : Int) r_1 h_3 : TripleG prog 80 [] [] [Ii e_1.N, Ii (-1000000000000000), Ii 1000000000000000] [] (Ii r_1)) an))) ?_
   refine rt ?_
   cases h
   exact ⟨rfl, Nat.le_of_ble_eq_true rfl, by kernel_rfl⟩
  intro g_4; replace h := cond_f g_4 h
  refine sr [] [1, 6, 16] [0] 1 [Pp 0, Ii e_1.Kind, .bool (e_1.Kind == (5 : Int))] [Vb 54 (v_T_api_Event e_1)] hmix an ?_
  refine cd 16 (e_1.Kind == (5 : Int)) ?_ ?_
  ·intro g_5; replace h := cond_t g_5 h
   refine sq ?_
   obtain ⟨r_2, h_4, h⟩ := bind_some h
   refine rg [(2, { av := Ii r_2, l := [Ii e_1.N, Ii 1, Ii 1000000000000] })] [2] [] 1 [Ii r_2] [] hmix (ar ([Ii e_1.N, Ii 1, Ii 1000000000000] : List AV) (ac (rfl : ([] : List BoxSt) = []) (ac (R07_within_ok e_1.N (1 : Int) (1000000000000 : Int) r_2 h_4 : TripleG prog 80 [] [] [Ii e_1.N, Ii 1, Ii 1000000000000] [] (Ii r_2)) an))) ?_
   refine rt ?_
   cases h
   exact ⟨rfl, Nat.le_of_ble_eq_true rfl, by kernel_rfl⟩
  intro g_5; replace h := cond_f g_5 h
  refine sr [] [1, 6, 21] [0] 1 [Pp 0, Ii e_1.Kind, .bool (e_1.Kind == (8 : Int))] [Vb 54 (v_T_api_Event e_1)] hmix an ?_
  refine cd 21 (e_1.Kind == (8 : Int)) ?_ ?_
  ·intro g_6; replace h := cond_t g_6 h
   refine sq ?_
   obtain ⟨r_3, h_5, h⟩ := bind_some h
   refine rg [(2, { av := Ii r_3, l := [Ii e_1.N, Ii 0, Ii 63] })] [2] [] 1 [Ii r_3] [] hmix (ar ([Ii e_1.N, Ii 0, Ii 63] : List AV) (ac (rfl : ([] : List BoxSt) = []) (ac (R07_within_ok e_1.N (0 : Int) (63 : Int) r_3 h_5 : TripleG prog 80 [] [] [Ii e_1.N, Ii 0, Ii 63] [] (Ii r_3)) an))) ?_
   refine rt ?_
   cases h
   exact ⟨rfl, Nat.le_of_ble_eq_true rfl, by kernel_rfl⟩
  intro g_6; replace h := cond_f g_6 h
  refine sr [] [1, 26] [0] 1 [Pp 0, .bool (e_1.Kind == (9 : Int))] [Vb 54 (v_T_api_Event e_1)] hmix an ?_
  refine cd 26 (e_1.Kind == (9 : Int)) ?_ ?_
  rotate_left
  ·intro g_7; replace h := cond_f g_7 h
   refine sk ?_
   cases h
   exact ⟨rfl, (sw [0] [] [.s 1] [.s 0] an)⟩
  intro g_7; replace h := cond_t g_7 h
  refine sq ?_
  obtain ⟨r_4, h_6, h⟩ := bind_some h
  refine rg [(2, { av := Ii r_4, l := [Ii e_1.N, Ii 0, Ii 3] })] [1, 3] [0] 1 [Pp 0, Ii r_4] [Vb 54 (v_T_api_Event e_1)] hmix (ar ([Ii e_1.N, Ii 0, Ii 3] : List AV) (ac (rfl : ([] : List BoxSt) = []) (ac (R07_within_ok e_1.N (0 : Int) (3 : Int) r_4 h_6 : TripleG prog 80 [] [] [Ii e_1.N, Ii 0, Ii 3] [] (Ii r_4)) an))) ?_
  refine sq ?_
  refine sq ?_
  refine aw_mid (mk [(1, Pp 0), (3, Ii r_4), (37, .bool ((r_4 == (0 : Int)) && (e_1.N == (2 : Int))))] [(0, Vb 54 (v_T_api_Event e_1))] 1) ?_ ?_
  ·rcases bft (r_4 == (0 : Int)) with gg_3 | gg_3
   ·refine rg [(6, Ht)] [1, 3, 37] [0] 1 [Pp 0, Ii r_4, .bool (e_1.N == (2 : Int))] [Vb 54 (v_T_api_Event e_1)] hmix (ac gg_3 (ac gg_3 (ac gg_3 (ac gg_3 an)))) ?_
    exact ⟨rfl, (sw [0] [] [.s 1, .s 3, .a 37 (.bool ((r_4 == (0 : Int)) && (e_1.N == (2 : Int))))] [.s 0] (ac (congrArg AV.bool (andt gg_3 rfl) : (.bool (e_1.N == (2 : Int)) : AV) = .bool ((r_4 == (0 : Int)) && (e_1.N == (2 : Int)))) an))⟩
   ·refine rg [(3, Hg), (4, Hg), (5, Hg), (6, Hf)] [1, 3, 37] [0] 1 [Pp 0, Ii r_4, .bool false] [Vb 54 (v_T_api_Event e_1)] hmix (ac gg_3 (ac gg_3 (ac gg_3 (ac gg_3 an)))) ?_
    exact ⟨rfl, (sw [0] [] [.s 1, .s 3, .a 37 (.bool ((r_4 == (0 : Int)) && (e_1.N == (2 : Int))))] [.s 0] (ac (congrArg AV.bool (andf gg_3) : (.bool false : AV) = .bool ((r_4 == (0 : Int)) && (e_1.N == (2 : Int)))) an))⟩
  refine cd 37 ((r_4 == (0 : Int)) && (e_1.N == (2 : Int))) ?_ ?_
  ·intro g_8; replace h := cond_t g_8 h
   refine sq ?_
   obtain ⟨r_5, h_7, h⟩ := bind_some h
   refine rg [(2, { av := Ii r_5, l := [Ii e_1.M, Ii 0, Ii 1000000000000000] })] [2] [] 1 [Ii r_5] [] hmix (ar ([Ii e_1.M, Ii 0, Ii 1000000000000000] : List AV) (ac (rfl : ([] : List BoxSt) = []) (ac (R07_within_ok e_1.M (0 : Int) (1000000000000000 : Int) r_5 h_7 : TripleG prog 80 [] [] [Ii e_1.M, Ii 0, Ii 1000000000000000] [] (Ii r_5)) an))) ?_
   refine rt ?_
   cases h
   exact ⟨rfl, Nat.le_of_ble_eq_true rfl, by kernel_rfl⟩
  intro g_8; replace h := cond_f g_8 h
  refine sk ?_
  refine sq ?_
  refine sq ?_
  refine aw_mid (mk [(3, Ii r_4), (47, .bool ((r_4 == (0 : Int)) && (e_1.M != (0 : Int))))] [] 0) ?_ ?_
  ·rcases bft (r_4 == (0 : Int)) with gg_4 | gg_4
   ·refine rg [(6, Ht)] [3, 47] [] 1 [Ii r_4, .bool (e_1.M != (0 : Int))] [] hmix (ac gg_4 (ac gg_4 (ac gg_4 (ac gg_4 an)))) ?_
    exact ⟨rfl, (sw [] [] [.s 3, .a 47 (.bool ((r_4 == (0 : Int)) && (e_1.M != (0 : Int))))] [] (ac (congrArg AV.bool (andt gg_4 rfl) : (.bool (e_1.M != (0 : Int)) : AV) = .bool ((r_4 == (0 : Int)) && (e_1.M != (0 : Int)))) an))⟩
   ·refine rg [(3, Hg), (4, Hg), (5, Hg), (6, Hf)] [3, 47] [] 1 [Ii r_4, .bool false] [] hmix (ac gg_4 (ac gg_4 (ac gg_4 (ac gg_4 an)))) ?_
    exact ⟨rfl, (sw [] [] [.s 3, .a 47 (.bool ((r_4 == (0 : Int)) && (e_1.M != (0 : Int))))] [] (ac (congrArg AV.bool (andf gg_4) : (.bool false : AV) = .bool ((r_4 == (0 : Int)) && (e_1.M != (0 : Int)))) an))⟩
  refine cd 47 ((r_4 == (0 : Int)) && (e_1.M != (0 : Int))) ?_ ?_
  ·intro g_9; replace h := cond_t g_9 h
   refine sr [] [2] [] 0 [Ii 1] [] hmix an ?_
   refine rt ?_
   cases h
   exact ⟨rfl, Nat.le_of_ble_eq_true rfl, by kernel_rfl⟩
  intro g_9; replace h := cond_f g_9 h
  refine sk ?_
  refine sr [] [2] [] 0 [Ii r_4] [] hmix an ?_
  refine rt ?_
  cases h
  exact ⟨rfl, Nat.le_of_ble_eq_true rfl, by kernel_rfl⟩
 intro e st1 hk
 rcases o_1 with q_1 | q_2
 rotate_left
 ·obtain ⟨rfl, hf⟩ := hk
  cases h
  exact ⟨st1, Sub.refl _ _, .inr rfl, hf⟩
 obtain ⟨rfl, hs⟩ := hk
 refine ⟨_, hs, ?_⟩
 refine sq ?_
 obtain ⟨r_6, h_8, h⟩ := bind_some h
 refine rg [(2, { av := Ii r_6, l := [Ii e_1.N, Ii 0, Ii 1000000000000000] })] [1, 4] [0] 1 [Pp 0, Ii r_6] [Vb 54 (v_T_api_Event e_1)] hmix (ar ([Ii e_1.N, Ii 0, Ii 1000000000000000] : List AV) (ac (rfl : ([] : List BoxSt) = []) (ac (R07_within_ok e_1.N (0 : Int) (1000000000000000 : Int) r_6 h_8 : TripleG prog 80 [] [] [Ii e_1.N, Ii 0, Ii 1000000000000000] [] (Ii r_6)) an))) ?_
 refine sq ?_
 refine sq ?_
 refine aw_mid (mk [(1, Pp 0), (4, Ii r_6), (58, .bool ((r_6 == (0 : Int)) && (e_1.Kind == (11 : Int))))] [(0, Vb 54 (v_T_api_Event e_1))] 1) ?_ ?_
 ·rcases bft (r_6 == (0 : Int)) with gg_5 | gg_5
  ·refine rg [(6, Ht)] [1, 4, 58] [0] 1 [Pp 0, Ii r_6, .bool (e_1.Kind == (11 : Int))] [Vb 54 (v_T_api_Event e_1)] hmix (ac gg_5 (ac gg_5 (ac gg_5 (ac gg_5 an)))) ?_
   exact ⟨rfl, (sw [0] [] [.s 1, .s 4, .a 58 (.bool ((r_6 == (0 : Int)) && (e_1.Kind == (11 : Int))))] [.s 0] (ac (congrArg AV.bool (andt gg_5 rfl) : (.bool (e_1.Kind == (11 : Int)) : AV) = .bool ((r_6 == (0 : Int)) && (e_1.Kind == (11 : Int)))) an))⟩
  ·refine rg [(3, Hg), (4, Hg), (5, Hg), (6, Hf)] [1, 4, 58] [0] 1 [Pp 0, Ii r_6, .bool false] [Vb 54 (v_T_api_Event e_1)] hmix (ac gg_5 (ac gg_5 (ac gg_5 (ac gg_5 an)))) ?_
   exact ⟨rfl, (sw [0] [] [.s 1, .s 4, .a 58 (.bool ((r_6 == (0 : Int)) && (e_1.Kind == (11 : Int))))] [.s 0] (ac (congrArg AV.bool (andf gg_5) : (.bool false : AV) = .bool ((r_6 == (0 : Int)) && (e_1.Kind == (11 : Int)))) an))⟩
 refine cd 58 ((r_6 == (0 : Int)) && (e_1.Kind == (11 : Int))) ?_ ?_
 ·intro g_10; replace h := cond_t g_10 h
  refine sq ?_
  obtain ⟨r_7, h_9, h⟩ := bind_some h
  refine rg [(2, { av := Ii r_7, l := [Ii e_1.M, Ii 1, Ii 1000000000000] })] [2] [] 1 [Ii r_7] [] hmix (ar ([Ii e_1.M, Ii 1, Ii 1000000000000] : List AV) (ac (rfl : ([] : List BoxSt) = []) (ac (R07_within_ok e_1.M (1 : Int) (1000000000000 : Int) r_7 h_9 : TripleG prog 80 [] [] [Ii e_1.M, Ii 1, Ii 1000000000000] [] (Ii r_7)) an))) ?_
  refine rt ?_
  cases h
  exact ⟨.inr rfl, Nat.le_of_ble_eq_true rfl, by kernel_rfl⟩
 intro g_10; replace h := cond_f g_10 h
 refine sk ?_
 refine sr [] [2] [] 1 [Ii r_6] [] hmix an ?_
 refine rt ?_
 cases h
 exact ⟨.inr rfl, Nat.le_of_ble_eq_true rfl, by kernel_rfl⟩

theorem R07_Check_ok (F : Nat) (e_1 : T_api_Event) (r : Int) (h : R07_Check F e_1 = some r) : TripleG prog 68 [] [] [e_T_api_Event e_1] [] (Ii r) := by
 refine triple_intro (fn := Go.Proofs.Try.f68) (code := codeOf Go.Proofs.Try.f68) (by kernel_rfl) (by kernel_rfl) (Nat.le_of_ble_eq_true (by kernel_rfl)) ?_
 unfold R07_Check at h
 refine sr [(0, { id := 0 })] [1] [0] 1 [Pp 0] [Vb 54 (v_T_api_Event e_1)] hmix an ?_
 refine sq ?_
 refine sq ?_
 refine aw_mid (mk [(1, Pp 0), (15, .bool (decide (e_1.At < (0 : Int)) || decide (e_1.At > (1000000000000 : Int))))] [(0, Vb 54 (v_T_api_Event e_1))] 1) ?_ ?_
 ·rcases bft (decide (e_1.At < (0 : Int))) with gg_1 | gg_1
  ·refine rg [(4, Hg), (5, Hg), (6, Hg), (7, Ht)] [1, 15] [0] 1 [Pp 0, .bool true] [Vb 54 (v_T_api_Event e_1)] hmix (ac gg_1 (ac gg_1 (ac gg_1 (ac gg_1 an)))) ?_
   exact ⟨rfl, (sw [0] [] [.s 1, .a 15 (.bool (decide (e_1.At < (0 : Int)) || decide (e_1.At > (1000000000000 : Int))))] [.s 0] (ac (congrArg AV.bool (ort gg_1) : (.bool true : AV) = .bool (decide (e_1.At < (0 : Int)) || decide (e_1.At > (1000000000000 : Int)))) an))⟩
  ·refine rg [(7, Hf)] [1, 15] [0] 1 [Pp 0, .bool (decide (e_1.At > (1000000000000 : Int)))] [Vb 54 (v_T_api_Event e_1)] hmix (ac gg_1 (ac gg_1 (ac gg_1 (ac gg_1 an)))) ?_
   exact ⟨rfl, (sw [0] [] [.s 1, .a 15 (.bool (decide (e_1.At < (0 : Int)) || decide (e_1.At > (1000000000000 : Int))))] [.s 0] (ac (congrArg AV.bool (orf gg_1 rfl) : (.bool (decide (e_1.At > (1000000000000 : Int))) : AV) = .bool (decide (e_1.At < (0 : Int)) || decide (e_1.At > (1000000000000 : Int)))) an))⟩
 refine cd 15 (decide (e_1.At < (0 : Int)) || decide (e_1.At > (1000000000000 : Int))) ?_ ?_
 ·intro g_1; replace h := cond_t g_1 h
  refine sr [] [2] [] 1 [Ii 2] [] hmix an ?_
  refine rt ?_
  cases h
  exact ⟨.inr rfl, Nat.le_of_ble_eq_true rfl, by kernel_rfl⟩
 intro g_1; replace h := cond_f g_1 h
 refine sk ?_
 refine sq ?_
 refine sq ?_
 refine aw_mid (mk [(1, Pp 0), (23, .bool (decide (e_1.Kind < (1 : Int)) || decide (e_1.Kind > (12 : Int))))] [(0, Vb 54 (v_T_api_Event e_1))] 1) ?_ ?_
 ·rcases bft (decide (e_1.Kind < (1 : Int))) with gg_2 | gg_2
  ·refine rg [(4, Hg), (5, Hg), (6, Hg), (7, Ht)] [1, 23] [0] 1 [Pp 0, .bool true] [Vb 54 (v_T_api_Event e_1)] hmix (ac gg_2 (ac gg_2 (ac gg_2 (ac gg_2 an)))) ?_
   exact ⟨rfl, (sw [0] [] [.s 1, .a 23 (.bool (decide (e_1.Kind < (1 : Int)) || decide (e_1.Kind > (12 : Int))))] [.s 0] (ac (congrArg AV.bool (ort gg_2) : (.bool true : AV) = .bool (decide (e_1.Kind < (1 : Int)) || decide (e_1.Kind > (12 : Int)))) an))⟩
  ·refine rg [(7, Hf)] [1, 23] [0] 1 [Pp 0, .bool (decide (e_1.Kind > (12 : Int)))] [Vb 54 (v_T_api_Event e_1)] hmix (ac gg_2 (ac gg_2 (ac gg_2 (ac gg_2 an)))) ?_
   exact ⟨rfl, (sw [0] [] [.s 1, .a 23 (.bool (decide (e_1.Kind < (1 : Int)) || decide (e_1.Kind > (12 : Int))))] [.s 0] (ac (congrArg AV.bool (orf gg_2 rfl) : (.bool (decide (e_1.Kind > (12 : Int))) : AV) = .bool (decide (e_1.Kind < (1 : Int)) || decide (e_1.Kind > (12 : Int)))) an))⟩
 refine cd 23 (decide (e_1.Kind < (1 : Int)) || decide (e_1.Kind > (12 : Int))) ?_ ?_
 ·intro g_2; replace h := cond_t g_2 h
  refine sr [] [2] [] 1 [Ii 1] [] hmix an ?_
  refine rt ?_
  cases h
  exact ⟨.inr rfl, Nat.le_of_ble_eq_true rfl, by kernel_rfl⟩
 intro g_2; replace h := cond_f g_2 h
 refine sk ?_
 refine sq ?_
 obtain ⟨r_1, h_1, h⟩ := bind_some h
 refine rg [(2, { av := .tuple [.bool r_1.1, .bool r_1.2.1, .bool r_1.2.2.1, .bool r_1.2.2.2], l := [Ii e_1.Kind] })] [1, 3, 4, 5, 6] [0] 1 [Pp 0, .bool r_1.1, .bool r_1.2.1, .bool r_1.2.2.1, .bool r_1.2.2.2] [Vb 54 (v_T_api_Event e_1)] hmix (ar ([Ii e_1.Kind] : List AV) (ac (rfl : ([] : List BoxSt) = []) (ac (R07_uses_ok e_1.Kind r_1 h_1 : TripleG prog 74 [] [] [Ii e_1.Kind] [] (.tuple [.bool r_1.1, .bool r_1.2.1, .bool r_1.2.2.1, .bool r_1.2.2.2])) an))) ?_
 refine sq ?_
 refine sq ?_
 obtain ⟨p_1, h_2, h⟩ := bind_some h
 refine aw_mid (mk [(1, Pp 0), (3, .bool r_1.1), (6, .bool r_1.2.2.2), (66, .bool p_1)] [(0, Vb 54 (v_T_api_Event e_1))] 1) ?_ ?_
 ·replace h := h_2
  rcases bft (!r_1.1) with gg_3 | gg_3
  ·replace h := cond_t gg_3 h
   rcases bft (!(e_1.Name == ([] : List Int))) with gg_4 | gg_4
   ·replace h := cond_t gg_4 h
    refine rg [(6, Ht), (8, Hg), (9, Hg), (10, Hg), (14, Hg), (15, Ht), (17, Hg), (18, Hg), (19, Hg), (23, Hg), (24, Ht), (26, Hg), (27, Hg), (28, Hg), (33, Hg), (34, Ht)] [1, 3, 6, 66] [0] 1 [Pp 0, .bool r_1.1, .bool r_1.2.2.2, .bool true] [Vb 54 (v_T_api_Event e_1)] hmix (ac gg_3 (ac gg_3 (ac gg_3 (ac gg_3 (ac gg_4 (ac gg_4 (ac gg_4 (ac gg_4 (ac gg_4 (ax (ax (ax (ax (ar true (ax (ax (ax (ax (ar true an))))))))))))))))))) ?_
    cases h
    exact ⟨rfl, (sw [0] [] [.s 1, .s 3, .s 6, .s 66] [.s 0] an)⟩
   ·replace h := cond_f gg_4 h
    rcases bft (!r_1.2.1) with gg_5 | gg_5
    ·replace h := cond_t gg_5 h
     rcases bft (e_1.N != (0 : Int)) with gg_6 | gg_6
     ·replace h := cond_t gg_6 h
      refine rg [(6, Ht), (14, Ht), (15, Hf), (17, Hg), (18, Hg), (19, Hg), (23, Hg), (24, Ht), (26, Hg), (27, Hg), (28, Hg), (33, Hg), (34, Ht)] [1, 3, 6, 66] [0] 1 [Pp 0, .bool r_1.1, .bool r_1.2.2.2, .bool true] [Vb 54 (v_T_api_Event e_1)] hmix (ac gg_3 (ac gg_3 (ac gg_3 (ac gg_3 (ac gg_4 (ac gg_4 (ac gg_4 (ac gg_5 (ac gg_5 (ac gg_5 (ac gg_4 (ac gg_5 (ac gg_4 (ac gg_6 (ac gg_6 (ac gg_6 (ac gg_6 (ac gg_6 (ax (ax (ax (ax (ar true an))))))))))))))))))))))) ?_
      cases h
      exact ⟨rfl, (sw [0] [] [.s 1, .s 3, .s 6, .s 66] [.s 0] an)⟩
     ·replace h := cond_f gg_6 h
      rcases bft (!r_1.2.2.1) with gg_7 | gg_7
      ·replace h := cond_t gg_7 h
       rcases bft (e_1.M != (0 : Int)) with gg_8 | gg_8
       ·replace h := cond_t gg_8 h
        refine rg [(6, Ht), (14, Ht), (15, Hf), (23, Ht), (24, Hf), (26, Hg), (27, Hg), (28, Hg), (33, Hg), (34, Ht)] [1, 3, 6, 66] [0] 1 [Pp 0, .bool r_1.1, .bool r_1.2.2.2, .bool true] [Vb 54 (v_T_api_Event e_1)] hmix (ac gg_3 (ac gg_3 (ac gg_3 (ac gg_3 (ac gg_4 (ac gg_4 (ac gg_4 (ac gg_5 (ac gg_5 (ac gg_5 (ac gg_4 (ac gg_5 (ac gg_4 (ac gg_6 (ac gg_6 (ac gg_6 (ac gg_7 (ac gg_7 (ac gg_7 (ac gg_6 (ac gg_7 (ac gg_6 (ac gg_8 (ac gg_8 (ac gg_8 (ac gg_8 (ac gg_8 an))))))))))))))))))))))))))) ?_
        cases h
        exact ⟨rfl, (sw [0] [] [.s 1, .s 3, .s 6, .s 66] [.s 0] an)⟩
       ·replace h := cond_f gg_8 h
        rcases bft (!r_1.2.2.2) with gg_9 | gg_9
        ·replace h := cond_t gg_9 h
         refine rg [(6, Ht), (14, Ht), (15, Hf), (23, Ht), (24, Hf), (31, { n := (e_1.Stack).length }), (33, Ht), (34, Hf)] [1, 3, 6, 66] [0] 1 [Pp 0, .bool r_1.1, .bool r_1.2.2.2, .bool (decide ((lN (e_1.Stack)) > (0 : Int)))] [Vb 54 (v_T_api_Event e_1)] hmix (ac gg_3 (ac gg_3 (ac gg_3 (ac gg_3 (ac gg_4 (ac gg_4 (ac gg_4 (ac gg_5 (ac gg_5 (ac gg_5 (ac gg_4 (ac gg_5 (ac gg_4 (ac gg_6 (ac gg_6 (ac gg_6 (ac gg_7 (ac gg_7 (ac gg_7 (ac gg_6 (ac gg_7 (ac gg_6 (ac gg_8 (ac gg_8 (ac gg_8 (ac gg_9 (ac gg_9 (ac gg_9 (ac (vc_len _ : ((Ms e_1.Stack)).length = (e_1.Stack).length) (ac gg_9 (ac gg_8 (ac gg_9 (ac gg_8 an))))))))))))))))))))))))))))))))) ?_
         cases h
         exact ⟨rfl, (sw [0] [] [.s 1, .s 3, .s 6, .s 66] [.s 0] an)⟩
        ·replace h := cond_f gg_9 h
         refine rg [(6, Ht), (14, Ht), (15, Hf), (23, Ht), (24, Hf), (29, Hg), (30, Hg), (31, Hg), (32, Hg), (33, Hf), (34, Hf)] [1, 3, 6, 66] [0] 1 [Pp 0, .bool r_1.1, .bool r_1.2.2.2, .bool false] [Vb 54 (v_T_api_Event e_1)] hmix (ac gg_3 (ac gg_3 (ac gg_3 (ac gg_3 (ac gg_4 (ac gg_4 (ac gg_4 (ac gg_5 (ac gg_5 (ac gg_5 (ac gg_4 (ac gg_5 (ac gg_4 (ac gg_6 (ac gg_6 (ac gg_6 (ac gg_7 (ac gg_7 (ac gg_7 (ac gg_6 (ac gg_7 (ac gg_6 (ac gg_8 (ac gg_8 (ac gg_8 (ac gg_9 (ac gg_9 (ac gg_9 (ac gg_9 (ac gg_8 (ac gg_9 (ac gg_8 an)))))))))))))))))))))))))))))))) ?_
         cases h
         exact ⟨rfl, (sw [0] [] [.s 1, .s 3, .s 6, .s 66] [.s 0] an)⟩
      ·replace h := cond_f gg_7 h
       rcases bft (!r_1.2.2.2) with gg_10 | gg_10
       ·replace h := cond_t gg_10 h
        refine rg [(6, Ht), (14, Ht), (15, Hf), (20, Hg), (21, Hg), (22, Hg), (23, Hf), (24, Hf), (31, { n := (e_1.Stack).length }), (33, Ht), (34, Hf)] [1, 3, 6, 66] [0] 1 [Pp 0, .bool r_1.1, .bool r_1.2.2.2, .bool (decide ((lN (e_1.Stack)) > (0 : Int)))] [Vb 54 (v_T_api_Event e_1)] hmix (ac gg_3 (ac gg_3 (ac gg_3 (ac gg_3 (ac gg_4 (ac gg_4 (ac gg_4 (ac gg_5 (ac gg_5 (ac gg_5 (ac gg_4 (ac gg_5 (ac gg_4 (ac gg_6 (ac gg_6 (ac gg_6 (ac gg_7 (ac gg_7 (ac gg_7 (ac gg_6 (ac gg_7 (ac gg_6 (ar false (ar false (ar false (ac gg_10 (ac gg_10 (ac gg_10 (ac (vc_len _ : ((Ms e_1.Stack)).length = (e_1.Stack).length) (ac gg_10 (ar false (ac gg_10 (ar false an))))))))))))))))))))))))))))))))) ?_
        cases h
        exact ⟨rfl, (sw [0] [] [.s 1, .s 3, .s 6, .s 66] [.s 0] an)⟩
       ·replace h := cond_f gg_10 h
        refine rg [(6, Ht), (14, Ht), (15, Hf), (20, Hg), (21, Hg), (22, Hg), (23, Hf), (24, Hf), (29, Hg), (30, Hg), (31, Hg), (32, Hg), (33, Hf), (34, Hf)] [1, 3, 6, 66] [0] 1 [Pp 0, .bool r_1.1, .bool r_1.2.2.2, .bool false] [Vb 54 (v_T_api_Event e_1)] hmix (ac gg_3 (ac gg_3 (ac gg_3 (ac gg_3 (ac gg_4 (ac gg_4 (ac gg_4 (ac gg_5 (ac gg_5 (ac gg_5 (ac gg_4 (ac gg_5 (ac gg_4 (ac gg_6 (ac gg_6 (ac gg_6 (ac gg_7 (ac gg_7 (ac gg_7 (ac gg_6 (ac gg_7 (ac gg_6 (ar false (ar false (ar false (ac gg_10 (ac gg_10 (ac gg_10 (ac gg_10 (ar false (ac gg_10 (ar false an)))))))))))))))))))))))))))))))) ?_
        cases h
        exact ⟨rfl, (sw [0] [] [.s 1, .s 3, .s 6, .s 66] [.s 0] an)⟩
    ·replace h := cond_f gg_5 h
     rcases bft (!r_1.2.2.1) with gg_11 | gg_11
     ·replace h := cond_t gg_11 h
      rcases bft (e_1.M != (0 : Int)) with gg_12 | gg_12
      ·replace h := cond_t gg_12 h
       refine rg [(6, Ht), (11, Hg), (12, Hg), (13, Hg), (14, Hf), (15, Hf), (23, Ht), (24, Hf), (26, Hg), (27, Hg), (28, Hg), (33, Hg), (34, Ht)] [1, 3, 6, 66] [0] 1 [Pp 0, .bool r_1.1, .bool r_1.2.2.2, .bool true] [Vb 54 (v_T_api_Event e_1)] hmix (ac gg_3 (ac gg_3 (ac gg_3 (ac gg_3 (ac gg_4 (ac gg_4 (ac gg_4 (ac gg_5 (ac gg_5 (ac gg_5 (ac gg_4 (ac gg_5 (ac gg_4 (ar false (ar false (ar false (ac gg_11 (ac gg_11 (ac gg_11 (ar false (ac gg_11 (ar false (ac gg_12 (ac gg_12 (ac gg_12 (ac gg_12 (ac gg_12 an))))))))))))))))))))))))))) ?_
       cases h
       exact ⟨rfl, (sw [0] [] [.s 1, .s 3, .s 6, .s 66] [.s 0] an)⟩
      ·replace h := cond_f gg_12 h
       rcases bft (!r_1.2.2.2) with gg_13 | gg_13
       ·replace h := cond_t gg_13 h
        refine rg [(6, Ht), (11, Hg), (12, Hg), (13, Hg), (14, Hf), (15, Hf), (23, Ht), (24, Hf), (31, { n := (e_1.Stack).length }), (33, Ht), (34, Hf)] [1, 3, 6, 66] [0] 1 [Pp 0, .bool r_1.1, .bool r_1.2.2.2, .bool (decide ((lN (e_1.Stack)) > (0 : Int)))] [Vb 54 (v_T_api_Event e_1)] hmix (ac gg_3 (ac gg_3 (ac gg_3 (ac gg_3 (ac gg_4 (ac gg_4 (ac gg_4 (ac gg_5 (ac gg_5 (ac gg_5 (ac gg_4 (ac gg_5 (ac gg_4 (ar false (ar false (ar false (ac gg_11 (ac gg_11 (ac gg_11 (ar false (ac gg_11 (ar false (ac gg_12 (ac gg_12 (ac gg_12 (ac gg_13 (ac gg_13 (ac gg_13 (ac (vc_len _ : ((Ms e_1.Stack)).length = (e_1.Stack).length) (ac gg_13 (ac gg_12 (ac gg_13 (ac gg_12 an))))))))))))))))))))))))))))))))) ?_
        cases h
        exact ⟨rfl, (sw [0] [] [.s 1, .s 3, .s 6, .s 66] [.s 0] an)⟩
       ·replace h := cond_f gg_13 h
        refine rg [(6, Ht), (11, Hg), (12, Hg), (13, Hg), (14, Hf), (15, Hf), (23, Ht), (24, Hf), (29, Hg), (30, Hg), (31, Hg), (32, Hg), (33, Hf), (34, Hf)] [1, 3, 6, 66] [0] 1 [Pp 0, .bool r_1.1, .bool r_1.2.2.2, .bool false] [Vb 54 (v_T_api_Event e_1)] hmix (ac gg_3 (ac gg_3 (ac gg_3 (ac gg_3 (ac gg_4 (ac gg_4 (ac gg_4 (ac gg_5 (ac gg_5 (ac gg_5 (ac gg_4 (ac gg_5 (ac gg_4 (ar false (ar false (ar false (ac gg_11 (ac gg_11 (ac gg_11 (ar false (ac gg_11 (ar false (ac gg_12 (ac gg_12 (ac gg_12 (ac gg_13 (ac gg_13 (ac gg_13 (ac gg_13 (ac gg_12 (ac gg_13 (ac gg_12 an)))))))))))))))))))))))))))))))) ?_
        cases h
        exact ⟨rfl, (sw [0] [] [.s 1, .s 3, .s 6, .s 66] [.s 0] an)⟩
     ·replace h := cond_f gg_11 h
      rcases bft (!r_1.2.2.2) with gg_14 | gg_14
      ·replace h := cond_t gg_14 h
       refine rg [(6, Ht), (11, Hg), (12, Hg), (13, Hg), (14, Hf), (15, Hf), (20, Hg), (21, Hg), (22, Hg), (23, Hf), (24, Hf), (31, { n := (e_1.Stack).length }), (33, Ht), (34, Hf)] [1, 3, 6, 66] [0] 1 [Pp 0, .bool r_1.1, .bool r_1.2.2.2, .bool (decide ((lN (e_1.Stack)) > (0 : Int)))] [Vb 54 (v_T_api_Event e_1)] hmix (ac gg_3 (ac gg_3 (ac gg_3 (ac gg_3 (ac gg_4 (ac gg_4 (ac gg_4 (ac gg_5 (ac gg_5 (ac gg_5 (ac gg_4 (ac gg_5 (ac gg_4 (ar false (ar false (ar false (ac gg_11 (ac gg_11 (ac gg_11 (ar false (ac gg_11 (ar false (ar false (ar false (ar false (ac gg_14 (ac gg_14 (ac gg_14 (ac (vc_len _ : ((Ms e_1.Stack)).length = (e_1.Stack).length) (ac gg_14 (ar false (ac gg_14 (ar false an))))))))))))))))))))))))))))))))) ?_
       cases h
       exact ⟨rfl, (sw [0] [] [.s 1, .s 3, .s 6, .s 66] [.s 0] an)⟩
      ·replace h := cond_f gg_14 h
       refine rg [(6, Ht), (11, Hg), (12, Hg), (13, Hg), (14, Hf), (15, Hf), (20, Hg), (21, Hg), (22, Hg), (23, Hf), (24, Hf), (29, Hg), (30, Hg), (31, Hg), (32, Hg), (33, Hf), (34, Hf)] [1, 3, 6, 66] [0] 1 [Pp 0, .bool r_1.1, .bool r_1.2.2.2, .bool false] [Vb 54 (v_T_api_Event e_1)] hmix (ac gg_3 (ac gg_3 (ac gg_3 (ac gg_3 (ac gg_4 (ac gg_4 (ac gg_4 (ac gg_5 (ac gg_5 (ac gg_5 (ac gg_4 (ac gg_5 (ac gg_4 (ar false (ar false (ar false (ac gg_11 (ac gg_11 (ac gg_11 (ar false (ac gg_11 (ar false (ar false (ar false (ar false (ac gg_14 (ac gg_14 (ac gg_14 (ac gg_14 (ar false (ac gg_14 (ar false an)))))))))))))))))))))))))))))))) ?_
       cases h
       exact ⟨rfl, (sw [0] [] [.s 1, .s 3, .s 6, .s 66] [.s 0] an)⟩
  ·replace h := cond_f gg_3 h
   rcases bft (!r_1.2.1) with gg_15 | gg_15
   ·replace h := cond_t gg_15 h
    rcases bft (e_1.N != (0 : Int)) with gg_16 | gg_16
    ·replace h := cond_t gg_16 h
     refine rg [(3, Hg), (4, Hg), (5, Hg), (6, Hf), (14, Ht), (15, Hf), (17, Hg), (18, Hg), (19, Hg), (23, Hg), (24, Ht), (26, Hg), (27, Hg), (28, Hg), (33, Hg), (34, Ht)] [1, 3, 6, 66] [0] 1 [Pp 0, .bool r_1.1, .bool r_1.2.2.2, .bool true] [Vb 54 (v_T_api_Event e_1)] hmix (ac gg_3 (ac gg_3 (ac gg_3 (ac gg_3 (ar false (ar false (ar false (ac gg_15 (ac gg_15 (ac gg_15 (ar false (ac gg_15 (ar false (ac gg_16 (ac gg_16 (ac gg_16 (ac gg_16 (ac gg_16 (ax (ax (ax (ax (ar true an))))))))))))))))))))))) ?_
     cases h
     exact ⟨rfl, (sw [0] [] [.s 1, .s 3, .s 6, .s 66] [.s 0] an)⟩
    ·replace h := cond_f gg_16 h
     rcases bft (!r_1.2.2.1) with gg_17 | gg_17
     ·replace h := cond_t gg_17 h
      rcases bft (e_1.M != (0 : Int)) with gg_18 | gg_18
      ·replace h := cond_t gg_18 h
       refine rg [(3, Hg), (4, Hg), (5, Hg), (6, Hf), (14, Ht), (15, Hf), (23, Ht), (24, Hf), (26, Hg), (27, Hg), (28, Hg), (33, Hg), (34, Ht)] [1, 3, 6, 66] [0] 1 [Pp 0, .bool r_1.1, .bool r_1.2.2.2, .bool true] [Vb 54 (v_T_api_Event e_1)] hmix (ac gg_3 (ac gg_3 (ac gg_3 (ac gg_3 (ar false (ar false (ar false (ac gg_15 (ac gg_15 (ac gg_15 (ar false (ac gg_15 (ar false (ac gg_16 (ac gg_16 (ac gg_16 (ac gg_17 (ac gg_17 (ac gg_17 (ac gg_16 (ac gg_17 (ac gg_16 (ac gg_18 (ac gg_18 (ac gg_18 (ac gg_18 (ac gg_18 an))))))))))))))))))))))))))) ?_
       cases h
       exact ⟨rfl, (sw [0] [] [.s 1, .s 3, .s 6, .s 66] [.s 0] an)⟩
      ·replace h := cond_f gg_18 h
       rcases bft (!r_1.2.2.2) with gg_19 | gg_19
       ·replace h := cond_t gg_19 h
        refine rg [(3, Hg), (4, Hg), (5, Hg), (6, Hf), (14, Ht), (15, Hf), (23, Ht), (24, Hf), (31, { n := (e_1.Stack).length }), (33, Ht), (34, Hf)] [1, 3, 6, 66] [0] 1 [Pp 0, .bool r_1.1, .bool r_1.2.2.2, .bool (decide ((lN (e_1.Stack)) > (0 : Int)))] [Vb 54 (v_T_api_Event e_1)] hmix (ac gg_3 (ac gg_3 (ac gg_3 (ac gg_3 (ar false (ar false (ar false (ac gg_15 (ac gg_15 (ac gg_15 (ar false (ac gg_15 (ar false (ac gg_16 (ac gg_16 (ac gg_16 (ac gg_17 (ac gg_17 (ac gg_17 (ac gg_16 (ac gg_17 (ac gg_16 (ac gg_18 (ac gg_18 (ac gg_18 (ac gg_19 (ac gg_19 (ac gg_19 (ac (vc_len _ : ((Ms e_1.Stack)).length = (e_1.Stack).length) (ac gg_19 (ac gg_18 (ac gg_19 (ac gg_18 an))))))))))))))))))))))))))))))))) ?_
        cases h
        exact ⟨rfl, (sw [0] [] [.s 1, .s 3, .s 6, .s 66] [.s 0] an)⟩
       ·replace h := cond_f gg_19 h
        refine rg [(3, Hg), (4, Hg), (5, Hg), (6, Hf), (14, Ht), (15, Hf), (23, Ht), (24, Hf), (29, Hg), (30, Hg), (31, Hg), (32, Hg), (33, Hf), (34, Hf)] [1, 3, 6, 66] [0] 1 [Pp 0, .bool r_1.1, .bool r_1.2.2.2, .bool false] [Vb 54 (v_T_api_Event e_1)] hmix (ac gg_3 (ac gg_3 (ac gg_3 (ac gg_3 (ar false (ar false (ar false (ac gg_15 (ac gg_15 (ac gg_15 (ar false (ac gg_15 (ar false (ac gg_16 (ac gg_16 (ac gg_16 (ac gg_17 (ac gg_17 (ac gg_17 (ac gg_16 (ac gg_17 (ac gg_16 (ac gg_18 (ac gg_18 (ac gg_18 (ac gg_19 (ac gg_19 (ac gg_19 (ac gg_19 (ac gg_18 (ac gg_19 (ac gg_18 an)))))))))))))))))))))))))))))))) ?_
        cases h
        exact ⟨rfl, (sw [0] [] [.s 1, .s 3, .s 6, .s 66] [.s 0] an)⟩
     ·replace h := cond_f gg_17 h
      rcases bft (!r_1.2.2.2) with gg_20 | gg_20
      ·replace h := cond_t gg_20 h
       refine rg [(3, Hg), (4, Hg), (5, Hg), (6, Hf), (14, Ht), (15, Hf), (20, Hg), (21, Hg), (22, Hg), (23, Hf), (24, Hf), (31, { n := (e_1.Stack).length }), (33, Ht), (34, Hf)] [1, 3, 6, 66] [0] 1 [Pp 0, .bool r_1.1, .bool r_1.2.2.2, .bool (decide ((lN (e_1.Stack)) > (0 : Int)))] [Vb 54 (v_T_api_Event e_1)] hmix (ac gg_3 (ac gg_3 (ac gg_3 (ac gg_3 (ar false (ar false (ar false (ac gg_15 (ac gg_15 (ac gg_15 (ar false (ac gg_15 (ar false (ac gg_16 (ac gg_16 (ac gg_16 (ac gg_17 (ac gg_17 (ac gg_17 (ac gg_16 (ac gg_17 (ac gg_16 (ar false (ar false (ar false (ac gg_20 (ac gg_20 (ac gg_20 (ac (vc_len _ : ((Ms e_1.Stack)).length = (e_1.Stack).length) (ac gg_20 (ar false (ac gg_20 (ar false an))))))))))))))))))))))))))))))))) ?_
       cases h
       exact ⟨rfl, (sw [0] [] [.s 1, .s 3, .s 6, .s 66] [.s 0] an)⟩
      ·replace h := cond_f gg_20 h
       refine rg [(3, Hg), (4, Hg), (5, Hg), (6, Hf), (14, Ht), (15, Hf), (20, Hg), (21, Hg), (22, Hg), (23, Hf), (24, Hf), (29, Hg), (30, Hg), (31, Hg), (32, Hg), (33, Hf), (34, Hf)] [1, 3, 6, 66] [0] 1 [Pp 0, .bool r_1.1, .bool r_1.2.2.2, .bool false] [Vb 54 (v_T_api_Event e_1)] hmix (ac gg_3 (ac gg_3 (ac gg_3 (ac gg_3 (ar false (ar false (ar false (ac gg_15 (ac gg_15 (ac gg_15 (ar false (ac gg_15 (ar false (ac gg_16 (ac gg_16 (ac gg_16 (ac gg_17 (ac gg_17 (ac gg_17 (ac gg_16 (ac gg_17 (ac gg_16 (ar false (ar false (ar false (ac gg_20 (ac gg_20 (ac gg_20 (ac gg_20 (ar false (ac gg_20 (ar false an)))))))))))))))))))))))))))))))) ?_
       cases h
       exact ⟨rfl, (sw [0] [] [.s 1, .s 3, .s 6, .s 66] [.s 0] an)⟩
   ·replace h := cond_f gg_15 h
    rcases bft (!r_1.2.2.1) with gg_21 | gg_21
    ·replace h := cond_t gg_21 h
     rcases bft (e_1.M != (0 : Int)) with gg_22 | gg_22
     ·replace h := cond_t gg_22 h
      refine rg [(3, Hg), (4, Hg), (5, Hg), (6, Hf), (11, Hg), (12, Hg), (13, Hg), (14, Hf), (15, Hf), (23, Ht), (24, Hf), (26, Hg), (27, Hg), (28, Hg), (33, Hg), (34, Ht)] [1, 3, 6, 66] [0] 1 [Pp 0, .bool r_1.1, .bool r_1.2.2.2, .bool true] [Vb 54 (v_T_api_Event e_1)] hmix (ac gg_3 (ac gg_3 (ac gg_3 (ac gg_3 (ar false (ar false (ar false (ac gg_15 (ac gg_15 (ac gg_15 (ar false (ac gg_15 (ar false (ar false (ar false (ar false (ac gg_21 (ac gg_21 (ac gg_21 (ar false (ac gg_21 (ar false (ac gg_22 (ac gg_22 (ac gg_22 (ac gg_22 (ac gg_22 an))))))))))))))))))))))))))) ?_
      cases h
      exact ⟨rfl, (sw [0] [] [.s 1, .s 3, .s 6, .s 66] [.s 0] an)⟩
     ·replace h := cond_f gg_22 h
      rcases bft (!r_1.2.2.2) with gg_23 | gg_23
      ·replace h := cond_t gg_23 h
       refine rg [(3, Hg), (4, Hg), (5, Hg), (6, Hf), (11, Hg), (12, Hg), (13, Hg), (14, Hf), (15, Hf), (23, Ht), (24, Hf), (31, { n := (e_1.Stack).length }), (33, Ht), (34, Hf)] [1, 3, 6, 66] [0] 1 [Pp 0, .bool r_1.1, .bool r_1.2.2.2, .bool (decide ((lN (e_1.Stack)) > (0 : Int)))] [Vb 54 (v_T_api_Event e_1)] hmix (ac gg_3 (ac gg_3 (ac gg_3 (ac gg_3 (ar false (ar false (ar false (ac gg_15 (ac gg_15 (ac gg_15 (ar false (ac gg_15 (ar false (ar false (ar false (ar false (ac gg_21 (ac gg_21 (ac gg_21 (ar false (ac gg_21 (ar false (ac gg_22 (ac gg_22 (ac gg_22 (ac gg_23 (ac gg_23 (ac gg_23 (ac (vc_len _ : ((Ms e_1.Stack)).length = (e_1.Stack).length) (ac gg_23 (ac gg_22 (ac gg_23 (ac gg_22 an))))))))))))))))))))))))))))))))) ?_
       cases h
       exact ⟨rfl, (sw [0] [] [.s 1, .s 3, .s 6, .s 66] [.s 0] an)⟩
      ·replace h := cond_f gg_23 h
       refine rg [(3, Hg), (4, Hg), (5, Hg), (6, Hf), (11, Hg), (12, Hg), (13, Hg), (14, Hf), (15, Hf), (23, Ht), (24, Hf), (29, Hg), (30, Hg), (31, Hg), (32, Hg), (33, Hf), (34, Hf)] [1, 3, 6, 66] [0] 1 [Pp 0, .bool r_1.1, .bool r_1.2.2.2, .bool false] [Vb 54 (v_T_api_Event e_1)] hmix (ac gg_3 (ac gg_3 (ac gg_3 (ac gg_3 (ar false (ar false (ar false (ac gg_15 (ac gg_15 (ac gg_15 (ar false (ac gg_15 (ar false (ar false (ar false (ar false (ac gg_21 (ac gg_21 (ac gg_21 (ar false (ac gg_21 (ar false (ac gg_22 (ac gg_22 (ac gg_22 (ac gg_23 (ac gg_23 (ac gg_23 (ac gg_23 (ac gg_22 (ac gg_23 (ac gg_22 an)))))))))))))))))))))))))))))))) ?_
       cases h
       exact ⟨rfl, (sw [0] [] [.s 1, .s 3, .s 6, .s 66] [.s 0] an)⟩
    ·replace h := cond_f gg_21 h
     rcases bft (!r_1.2.2.2) with gg_24 | gg_24
     ·replace h := cond_t gg_24 h
      refine rg [(3, Hg), (4, Hg), (5, Hg), (6, Hf), (11, Hg), (12, Hg), (13, Hg), (14, Hf), (15, Hf), (20, Hg), (21, Hg), (22, Hg), (23, Hf), (24, Hf), (31, { n := (e_1.Stack).length }), (33, Ht), (34, Hf)] [1, 3, 6, 66] [0] 1 [Pp 0, .bool r_1.1, .bool r_1.2.2.2, .bool (decide ((lN (e_1.Stack)) > (0 : Int)))] [Vb 54 (v_T_api_Event e_1)] hmix (ac gg_3 (ac gg_3 (ac gg_3 (ac gg_3 (ar false (ar false (ar false (ac gg_15 (ac gg_15 (ac gg_15 (ar false (ac gg_15 (ar false (ar false (ar false (ar false (ac gg_21 (ac gg_21 (ac gg_21 (ar false (ac gg_21 (ar false (ar false (ar false (ar false (ac gg_24 (ac gg_24 (ac gg_24 (ac (vc_len _ : ((Ms e_1.Stack)).length = (e_1.Stack).length) (ac gg_24 (ar false (ac gg_24 (ar false an))))))))))))))))))))))))))))))))) ?_
      cases h
      exact ⟨rfl, (sw [0] [] [.s 1, .s 3, .s 6, .s 66] [.s 0] an)⟩
     ·replace h := cond_f gg_24 h
      refine rg [(3, Hg), (4, Hg), (5, Hg), (6, Hf), (11, Hg), (12, Hg), (13, Hg), (14, Hf), (15, Hf), (20, Hg), (21, Hg), (22, Hg), (23, Hf), (24, Hf), (29, Hg), (30, Hg), (31, Hg), (32, Hg), (33, Hf), (34, Hf)] [1, 3, 6, 66] [0] 1 [Pp 0, .bool r_1.1, .bool r_1.2.2.2, .bool false] [Vb 54 (v_T_api_Event e_1)] hmix (ac gg_3 (ac gg_3 (ac gg_3 (ac gg_3 (ar false (ar false (ar false (ac gg_15 (ac gg_15 (ac gg_15 (ar false (ac gg_15 (ar false (ar false (ar false (ar false (ac gg_21 (ac gg_21 (ac gg_21 (ar false (ac gg_21 (ar false (ar false (ar false (ar false (ac gg_24 (ac gg_24 (ac gg_24 (ac gg_24 (ar false (ac gg_24 (ar false an)))))))))))))))))))))))))))))))) ?_
      cases h
      exact ⟨rfl, (sw [0] [] [.s 1, .s 3, .s 6, .s 66] [.s 0] an)⟩
 refine cd 66 p_1 ?_ ?_
 ·intro g_3; replace h := cond_t g_3 h
  refine sr [] [2] [] 1 [Ii 1] [] hmix an ?_
  refine rt ?_
  cases h
  exact ⟨.inr rfl, Nat.le_of_ble_eq_true rfl, by kernel_rfl⟩
 intro g_3; replace h := cond_f g_3 h
 refine sk ?_
 refine sr [] [1, 3, 6, 7] [0] 1 [Pp 0, .bool r_1.1, .bool r_1.2.2.2, Ii 0] [Vb 54 (v_T_api_Event e_1)] hmix an ?_
 refine sq ?_
 refine sr [] [1, 6, 7, 67] [0] 1 [Pp 0, .bool r_1.2.2.2, Ii 0, .bool r_1.1] [Vb 54 (v_T_api_Event e_1)] hmix an ?_
 obtain ⟨o_1, h_3, h⟩ := bind_some h
 refine aw_mid (mk [(1, Pp 0), (6, .bool r_1.2.2.2), (7, Ii o_1)] [(0, Vb 54 (v_T_api_Event e_1))] 1) ?_ ?_
 ·replace h := h_3
  refine cd 67 r_1.1 ?_ ?_
  rotate_left
  ·intro g_4; replace h := cond_f g_4 h
   refine sk ?_
   cases h
   exact ⟨rfl, (sw [0] [] [.s 1, .s 6, .s 7] [.s 0] an)⟩
  intro g_4; replace h := cond_t g_4 h
  obtain ⟨r_2, h_4, h⟩ := bind_some h
  refine rg [(2, { av := Ii r_2, l := [.str e_1.Name] })] [1, 6, 7] [0] 1 [Pp 0, .bool r_1.2.2.2, Ii r_2] [Vb 54 (v_T_api_Event e_1)] hmix (ar ([.str e_1.Name] : List AV) (ac (rfl : ([] : List BoxSt) = []) (ac (R06_Name_ok F e_1.Name r_2 h_4 : TripleG prog 66 [] [] [.str e_1.Name] [] (Ii r_2)) an))) ?_
  cases h
  exact ⟨rfl, (sw [0] [] [.s 1, .s 6, .s 7] [.s 0] an)⟩
 refine sq ?_
 refine sr [] [1, 7, 71] [0] 1 [Pp 0, Ii o_1, .bool r_1.2.2.2] [Vb 54 (v_T_api_Event e_1)] hmix an ?_
 obtain ⟨o_2, h_5, h⟩ := bind_some h
 refine aw_mid (mk [(1, Pp 0), (7, Ii o_2)] [(0, Vb 54 (v_T_api_Event e_1))] 1) ?_ ?_
 ·replace h := h_5
  refine cd 71 r_1.2.2.2 ?_ ?_
  rotate_left
  ·intro g_5; replace h := cond_f g_5 h
   refine sk ?_
   cases h
   exact ⟨rfl, (sw [0] [] [.s 1, .s 7] [.s 0] an)⟩
  intro g_5; replace h := cond_t g_5 h
  obtain ⟨r_3, h_6, h⟩ := bind_some h
  refine rg [(2, { av := Ii r_3, l := [.sl false 1 (Ms e_1.Stack)] })] [1, 7] [0] 1 [Pp 0, Ii r_3] [Vb 54 (v_T_api_Event e_1)] hmix (ar ([.sl false 1 (Ms e_1.Stack)] : List AV) (ac (rfl : ([] : List BoxSt) = []) (ac (R06_Frames_ok F e_1.Stack r_3 h_6 : TripleG prog 75 [] [] [.sl false 1 (Ms e_1.Stack)] [] (Ii r_3)) an))) ?_
  cases h
  exact ⟨rfl, (sw [0] [] [.s 1, .s 7] [.s 0] an)⟩
 refine sq ?_
 refine sr [] [1, 7, 76] [0] 1 [Pp 0, Ii o_2, .bool (o_2 != (0 : Int))] [Vb 54 (v_T_api_Event e_1)] hmix an ?_
 refine cd 76 (o_2 != (0 : Int)) ?_ ?_
 ·intro g_6; replace h := cond_t g_6 h
  refine sr [] [2] [] 1 [Ii o_2] [] hmix an ?_
  refine rt ?_
  cases h
  exact ⟨.inr rfl, Nat.le_of_ble_eq_true rfl, by kernel_rfl⟩
 intro g_6; replace h := cond_f g_6 h
 refine sk ?_
 refine sq ?_
 obtain ⟨r_4, h_7, h⟩ := bind_some h
 refine rg [(1, { av := Ii r_4, l := [e_T_api_Event e_1] })] [2] [] 1 [Ii r_4] [] hmix (ar ([e_T_api_Event e_1] : List AV) (ac (rfl : ([] : List BoxSt) = []) (ac (R07_numbers_ok e_1 r_4 h_7 : TripleG prog 76 [] [] [e_T_api_Event e_1] [] (Ii r_4)) an))) ?_
 refine rt ?_
 cases h
 exact ⟨.inr rfl, Nat.le_of_ble_eq_true rfl, by kernel_rfl⟩

theorem R07_CheckAll_ok (F : Nat) (l_1 : List (T_api_Event)) (r : Int) (h : R07_CheckAll F l_1 = some r) : TripleG prog 61 [] [] [.sl false 6 (Mp e_T_api_Event l_1)] [] (Ii r) := by
 refine triple_intro (fn := Go.Proofs.Try.f61) (code := codeOf Go.Proofs.Try.f61) (by kernel_rfl) (by kernel_rfl) (Nat.le_of_ble_eq_true (by kernel_rfl)) ?_
 unfold R07_CheckAll at h
 refine sr [] [0] [] 0 [.sl false 6 (Mp e_T_api_Event l_1)] [] hmix an ?_
 refine sq ?_
 refine sr [] [0, 3] [] 0 [.sl false 6 (Mp e_T_api_Event l_1), Ii 0] [] hmix an ?_
 obtain ⟨o_1, h_1, h⟩ := bind_some h
 refine aw_conv (K1 := (fun e st' => match o_1 with | (.inl q0) => e = .normal ∧ Sub 0 st' (mk [] [] 0) | (.inr q1) => e = .ret ∧ FinR prog Go.Proofs.Try.f61 0 [] (Ii q1) st')) ?_ ?_
 ·replace h := h_1
  refine aw_block (id := 0) (by kernel_rfl) ?_
  refine wk [] [] [.s 0, .s 3] [] [(0, .sl false 6 (Mp e_T_api_Event l_1)), (3, Ii 0)] [] an ?_
  refine aw_loopF (fun n st => ∃ (i_1 : Int), st = mk [(0, .sl false 6 (Mp e_T_api_Event l_1)), (3, Ii i_1)] [] 0 ∧ R07_CheckAll_L1 F l_1 n i_1 = some o_1) F (by kernel_rfl) ⟨_, rfl, h⟩ ?_ ?_
  ·rintro _ ⟨_, _, h⟩; exact none_ne (h : (none : Option (Unit ⊕ Int)) = some o_1)
  rintro n_1 _ ⟨i_1, rfl, h⟩
  replace h : R07_CheckAll_L1_body F l_1 (R07_CheckAll_L1 F l_1 n_1) i_1 = some o_1 := h
  unfold R07_CheckAll_L1_body at h
  refine sq ?_
  refine sr [(2, { n := (l_1).length })] [0, 3, 8] [] 0 [.sl false 6 (Mp e_T_api_Event l_1), Ii i_1, .bool (decide (i_1 < (lN (l_1))))] [] hmix (ac (vc_len _ : ((Mp e_T_api_Event l_1)).length = (l_1).length) an) ?_
  refine cd 8 (decide (i_1 < (lN (l_1)))) ?_ ?_
  rotate_left
  ·intro g_1; replace h := cond_f g_1 h
   refine aw_exit (id := 0) (by kernel_rfl) ?_
   cases h
   exact ⟨rfl, (sw [] [] [] [] an)⟩
  intro g_1; replace h := cond_t g_1 h
  refine sk ?_
  refine sq ?_
  refine aw_block (id := 1) (by kernel_rfl) ?_
  refine sq ?_
  obtain ⟨x_1, h_2, h⟩ := bind_some h
  obtain ⟨r_1, h_3, h⟩ := bind_some h
  refine rg [(2, { av := e_T_api_Event x_1 }), (4, { av := Ii r_1, l := [e_T_api_Event x_1] })] [0, 3, 4] [] 0 [.sl false 6 (Mp e_T_api_Event l_1), Ii i_1, Ii r_1] [] hmix (ac (vc_idx h_2 : idxA (Mp e_T_api_Event l_1) i_1 = some (e_T_api_Event x_1)) (ar ([e_T_api_Event x_1] : List AV) (ac (rfl : ([] : List BoxSt) = []) (ac (R07_Check_ok F x_1 r_1 h_3 : TripleG prog 68 [] [] [e_T_api_Event x_1] [] (Ii r_1)) an)))) ?_
  refine sq ?_
  refine sr [] [0, 3, 4, 17] [] 0 [.sl false 6 (Mp e_T_api_Event l_1), Ii i_1, Ii r_1, .bool (r_1 != (0 : Int))] [] hmix an ?_
  refine cd 17 (r_1 != (0 : Int)) ?_ ?_
  ·intro g_2; replace h := cond_t g_2 h
   refine sr [] [2] [] 0 [Ii r_1] [] hmix an ?_
   refine rt ?_
   cases h
   exact ⟨rfl, Nat.le_of_ble_eq_true rfl, by kernel_rfl⟩
  intro g_2; replace h := cond_f g_2 h
  refine sk ?_
  refine sq ?_
  obtain ⟨p_1, h_6, h⟩ := bind_some h
  refine aw_mid (mk [(0, .sl false 6 (Mp e_T_api_Event l_1)), (3, Ii i_1), (34, .bool p_1)] [] 0) ?_ ?_
  ·replace h := h_6
   rcases bft (decide (i_1 > (0 : Int))) with gg_4 | gg_4
   ·replace h := cond_t gg_4 h
    obtain ⟨x_2, h_4, h⟩ := bind_some h
    obtain ⟨x_3, h_5, h⟩ := bind_some h
    refine rg [(5, { av := e_T_api_Event x_2 }), (11, { av := e_T_api_Event x_3 }), (15, Ht)] [0, 3, 22, 23, 24, 25, 26, 27, 28, 29, 30, 31, 32, 33, 34] [] 0 [.sl false 6 (Mp e_T_api_Event l_1), Ii i_1, .sl false 6 (Mp e_T_api_Event l_1), Ii i_1, .ref (e_T_api_Event x_2), .ref (Ii x_2.At), Ii x_2.At, .sl false 6 (Mp e_T_api_Event l_1), Ii i_1, Ii (w_i64 (i_1 - (1 : Int))), .ref (e_T_api_Event x_3), .ref (Ii x_3.At), Ii x_3.At, .bool (decide (x_2.At < x_3.At)), .bool (decide (x_2.At < x_3.At))] [] hmix (ac gg_4 (ac gg_4 (ac gg_4 (ac (vc_idx h_4 : idxA (Mp e_T_api_Event l_1) i_1 = some (e_T_api_Event x_2)) (ac gg_4 (ac gg_4 (ac gg_4 (ac gg_4 (ac gg_4 (ac gg_4 (ac (vc_idx h_5 : idxA (Mp e_T_api_Event l_1) (w_i64 (i_1 - (1 : Int))) = some (e_T_api_Event x_3)) (ac gg_4 (ac gg_4 (ac gg_4 (ac gg_4 an))))))))))))))) ?_
    cases h
    exact ⟨rfl, (sw [] [] [.s 0, .s 3, .s 34] [] an)⟩
   ·replace h := cond_f gg_4 h
    refine rg [(3, Hg), (4, Hg), (5, Hg), (6, Hg), (7, Hg), (8, Hg), (9, Hg), (10, Hg), (11, Hg), (12, Hg), (13, Hg), (14, Hg), (15, Hf)] [0, 3, 22, 23, 24, 25, 26, 27, 28, 29, 30, 31, 32, 33, 34] [] 0 [.sl false 6 (Mp e_T_api_Event l_1), Ii i_1, .tuple [], .tuple [], .tuple [], .tuple [], .tuple [], .tuple [], .tuple [], .tuple [], .tuple [], .tuple [], .tuple [], .tuple [], .bool false] [] hmix (ac gg_4 (ac gg_4 (ac gg_4 (ac gg_4 (ac gg_4 (ac gg_4 (ac gg_4 (ac gg_4 (ac gg_4 (ac gg_4 (ac gg_4 (ac gg_4 (ac gg_4 an))))))))))))) ?_
    cases h
    exact ⟨rfl, (sw [] [] [.s 0, .s 3, .s 34] [] an)⟩
  refine cd 34 p_1 ?_ ?_
  rotate_left
  ·intro g_3; replace h := cond_f g_3 h
   refine sk ?_
   refine rg [] [0, 3] [] 0 [.sl false 6 (Mp e_T_api_Event l_1), Ii (w_i64 (i_1 + (1 : Int)))] [] hmix an ?_
   exact ⟨_, (sw [] [] [.s 0, .s 3] [] an), _, rfl, h⟩
  intro g_3; replace h := cond_t g_3 h
  refine sr [] [2] [] 0 [Ii 11] [] hmix an ?_
  refine rt ?_
  cases h
  exact ⟨rfl, Nat.le_of_ble_eq_true rfl, by kernel_rfl⟩
 intro e st1 hk
 rcases o_1 with q_1 | q_2
 rotate_left
 ·obtain ⟨rfl, hf⟩ := hk
  cases h
  exact ⟨st1, Sub.refl _ _, .inr rfl, hf⟩
 obtain ⟨rfl, hs⟩ := hk
 refine ⟨_, hs, ?_⟩
 refine sr [] [2] [] 0 [Ii 0] [] hmix an ?_
 refine rt ?_
 cases h
 exact ⟨.inr rfl, Nat.le_of_ble_eq_true rfl, by kernel_rfl⟩

theorem R11_Check_ok (F : Nat) (p_1 : T_api_Packet) (r : Int) (h : R11_Check F p_1 = some r) : TripleG prog 42 [] [] [e_T_api_Packet p_1] [] (Ii r) := by
 refine triple_intro (fn := Go.Proofs.Try.f42) (code := codeOf Go.Proofs.Try.f42) (by kernel_rfl) (by kernel_rfl) (Nat.le_of_ble_eq_true (by kernel_rfl)) ?_
 unfold R11_Check at h
 refine sr [(0, { id := 0 })] [1] [0] 1 [Pp 0] [Vb 43 (v_T_api_Packet p_1)] hmix an ?_
 refine sq ?_
 refine aw_block (id := 0) (by kernel_rfl) ?_
 refine sq ?_
 obtain ⟨p_2, h_4, h⟩ := bind_some h
 refine aw_mid (mk [(1, Pp 0), (3, .bool p_2)] [(0, Vb 43 (v_T_api_Packet p_1))] 1) ?_ ?_
 ·replace h := h_4
  obtain ⟨r_1, h_1, h⟩ := bind_some h
  rcases bft (!r_1) with gg_1 | gg_1
  ·replace h := cond_t gg_1 h
   refine rg [(2, { av := .bool r_1, l := [Ii p_1.Thread] }), (5, Hg), (6, Hg), (7, Hg), (8, Hg), (9, Ht), (11, Hg), (12, Hg), (13, Hg), (14, Hg), (15, Ht), (17, Hg), (18, Hg), (19, Hg), (20, Hg), (21, Hg), (22, Ht)] [1, 3] [0] 1 [Pp 0, .bool true] [Vb 43 (v_T_api_Packet p_1)] hmix (ar ([Ii p_1.Thread] : List AV) (ac (rfl : ([] : List BoxSt) = []) (ac (R11_number_ok p_1.Thread r_1 h_1 : TripleG prog 60 [] [] [Ii p_1.Thread] [] (.bool r_1)) (ac gg_1 (ac gg_1 (ac gg_1 (ac gg_1 (ac gg_1 (ax (ax (ax (ax (ar true (ax (ax (ax (ax (ax (ar true an))))))))))))))))))) ?_
   cases h
   exact ⟨rfl, (sw [0] [] [.s 1, .s 3] [.s 0] an)⟩
  ·replace h := cond_f gg_1 h
   obtain ⟨r_2, h_2, h⟩ := bind_some h
   rcases bft (!r_2) with gg_2 | gg_2
   ·replace h := cond_t gg_2 h
    refine rg [(2, { av := .bool r_1, l := [Ii p_1.Thread] }), (7, { av := .bool r_2, l := [Ii p_1.Serial] }), (9, Hf), (11, Hg), (12, Hg), (13, Hg), (14, Hg), (15, Ht), (17, Hg), (18, Hg), (19, Hg), (20, Hg), (21, Hg), (22, Ht)] [1, 3] [0] 1 [Pp 0, .bool true] [Vb 43 (v_T_api_Packet p_1)] hmix (ar ([Ii p_1.Thread] : List AV) (ac (rfl : ([] : List BoxSt) = []) (ac (R11_number_ok p_1.Thread r_1 h_1 : TripleG prog 60 [] [] [Ii p_1.Thread] [] (.bool r_1)) (ac gg_1 (ac gg_1 (ac gg_1 (ar ([Ii p_1.Serial] : List AV) (ac (rfl : ([] : List BoxSt) = []) (ac (R11_number_ok p_1.Serial r_2 h_2 : TripleG prog 60 [] [] [Ii p_1.Serial] [] (.bool r_2)) (ac gg_1 (ac gg_1 (ac gg_2 (ac gg_2 (ac gg_2 (ac gg_2 (ac gg_2 (ax (ax (ax (ax (ax (ar true an)))))))))))))))))))))) ?_
    cases h
    exact ⟨rfl, (sw [0] [] [.s 1, .s 3] [.s 0] an)⟩
   ·replace h := cond_f gg_2 h
    obtain ⟨r_3, h_3, h⟩ := bind_some h
    rcases bft (!r_3) with gg_3 | gg_3
    ·replace h := cond_t gg_3 h
     refine rg [(2, { av := .bool r_1, l := [Ii p_1.Thread] }), (7, { av := .bool r_2, l := [Ii p_1.Serial] }), (9, Hf), (13, { av := .bool r_3, l := [Ii p_1.Lost] }), (15, Hf), (17, Hg), (18, Hg), (19, Hg), (20, Hg), (21, Hg), (22, Ht)] [1, 3] [0] 1 [Pp 0, .bool true] [Vb 43 (v_T_api_Packet p_1)] hmix (ar ([Ii p_1.Thread] : List AV) (ac (rfl : ([] : List BoxSt) = []) (ac (R11_number_ok p_1.Thread r_1 h_1 : TripleG prog 60 [] [] [Ii p_1.Thread] [] (.bool r_1)) (ac gg_1 (ac gg_1 (ac gg_1 (ar ([Ii p_1.Serial] : List AV) (ac (rfl : ([] : List BoxSt) = []) (ac (R11_number_ok p_1.Serial r_2 h_2 : TripleG prog 60 [] [] [Ii p_1.Serial] [] (.bool r_2)) (ac gg_1 (ac gg_1 (ac gg_2 (ac gg_2 (ac gg_2 (ar ([Ii p_1.Lost] : List AV) (ac (rfl : ([] : List BoxSt) = []) (ac (R11_number_ok p_1.Lost r_3 h_3 : TripleG prog 60 [] [] [Ii p_1.Lost] [] (.bool r_3)) (ac gg_2 (ac gg_2 (ac gg_3 (ac gg_3 (ac gg_3 (ac gg_3 (ac gg_3 (ac gg_3 an))))))))))))))))))))))))) ?_
     cases h
     exact ⟨rfl, (sw [0] [] [.s 1, .s 3] [.s 0] an)⟩
    ·replace h := cond_f gg_3 h
     refine rg [(2, { av := .bool r_1, l := [Ii p_1.Thread] }), (7, { av := .bool r_2, l := [Ii p_1.Serial] }), (9, Hf), (13, { av := .bool r_3, l := [Ii p_1.Lost] }), (15, Hf), (22, Hf)] [1, 3] [0] 1 [Pp 0, .bool (decide (p_1.Lost > p_1.Serial))] [Vb 43 (v_T_api_Packet p_1)] hmix (ar ([Ii p_1.Thread] : List AV) (ac (rfl : ([] : List BoxSt) = []) (ac (R11_number_ok p_1.Thread r_1 h_1 : TripleG prog 60 [] [] [Ii p_1.Thread] [] (.bool r_1)) (ac gg_1 (ac gg_1 (ac gg_1 (ar ([Ii p_1.Serial] : List AV) (ac (rfl : ([] : List BoxSt) = []) (ac (R11_number_ok p_1.Serial r_2 h_2 : TripleG prog 60 [] [] [Ii p_1.Serial] [] (.bool r_2)) (ac gg_1 (ac gg_1 (ac gg_2 (ac gg_2 (ac gg_2 (ar ([Ii p_1.Lost] : List AV) (ac (rfl : ([] : List BoxSt) = []) (ac (R11_number_ok p_1.Lost r_3 h_3 : TripleG prog 60 [] [] [Ii p_1.Lost] [] (.bool r_3)) (ac gg_2 (ac gg_2 (ac gg_3 (ac gg_3 (ac gg_3 (ac gg_3 (ac gg_3 (ac gg_3 an))))))))))))))))))))))))) ?_
     cases h
     exact ⟨rfl, (sw [0] [] [.s 1, .s 3] [.s 0] an)⟩
 refine cd 3 p_2 ?_ ?_
 ·intro g_1; replace h := cond_t g_1 h
  refine sr [] [2] [] 1 [Ii 2] [] hmix an ?_
  refine rt ?_
  cases h
  exact ⟨.inr rfl, Nat.le_of_ble_eq_true rfl, by kernel_rfl⟩
 intro g_1; replace h := cond_f g_1 h
 refine sr [(4, { n := (p_1.Events).length })] [1, 27] [0] 1 [Pp 0, .bool (decide (p_1.Serial > (w_i64 ((1000000000000000 : Int) - (lN (p_1.Events))))))] [Vb 43 (v_T_api_Packet p_1)] hmix (ac (vc_len _ : ((Mp e_T_api_Event p_1.Events)).length = (p_1.Events).length) an) ?_
 refine cd 27 (decide (p_1.Serial > (w_i64 ((1000000000000000 : Int) - (lN (p_1.Events)))))) ?_ ?_
 ·intro g_2; replace h := cond_t g_2 h
  refine sr [] [2] [] 1 [Ii 2] [] hmix an ?_
  refine rt ?_
  cases h
  exact ⟨.inr rfl, Nat.le_of_ble_eq_true rfl, by kernel_rfl⟩
 intro g_2; replace h := cond_f g_2 h
 refine sr [(2, { n := (p_1.Events).length })] [1, 35] [0] 1 [Pp 0, .bool ((lN (p_1.Events)) == (0 : Int))] [Vb 43 (v_T_api_Packet p_1)] hmix (ac (vc_len _ : ((Mp e_T_api_Event p_1.Events)).length = (p_1.Events).length) an) ?_
 refine cd 35 ((lN (p_1.Events)) == (0 : Int)) ?_ ?_
 ·intro g_3; replace h := cond_t g_3 h
  refine sr [] [2] [] 1 [Ii 8] [] hmix an ?_
  refine rt ?_
  cases h
  exact ⟨.inr rfl, Nat.le_of_ble_eq_true rfl, by kernel_rfl⟩
 intro g_3; replace h := cond_f g_3 h
 refine sr [(2, { n := (p_1.Events).length })] [1, 40] [0] 1 [Pp 0, .bool (decide ((lN (p_1.Events)) > (1000 : Int)))] [Vb 43 (v_T_api_Packet p_1)] hmix (ac (vc_len _ : ((Mp e_T_api_Event p_1.Events)).length = (p_1.Events).length) an) ?_
 refine cd 40 (decide ((lN (p_1.Events)) > (1000 : Int))) ?_ ?_
 ·intro g_4; replace h := cond_t g_4 h
  refine sr [] [2] [] 1 [Ii 7] [] hmix an ?_
  refine rt ?_
  cases h
  exact ⟨.inr rfl, Nat.le_of_ble_eq_true rfl, by kernel_rfl⟩
 intro g_4; replace h := cond_f g_4 h
 refine sk ?_
 refine sq ?_
 obtain ⟨r_4, h_5, h⟩ := bind_some h
 refine rg [(2, { av := Ii r_4, l := [.sl false 6 (Mp e_T_api_Event p_1.Events)] })] [2] [] 1 [Ii r_4] [] hmix (ar ([.sl false 6 (Mp e_T_api_Event p_1.Events)] : List AV) (ac (rfl : ([] : List BoxSt) = []) (ac (R07_CheckAll_ok F p_1.Events r_4 h_5 : TripleG prog 61 [] [] [.sl false 6 (Mp e_T_api_Event p_1.Events)] [] (Ii r_4)) an))) ?_
 refine rt ?_
 cases h
 exact ⟨.inr rfl, Nat.le_of_ble_eq_true rfl, by kernel_rfl⟩

theorem R12_of_ok (F : Nat) (l_1 : List (T_api_Packet)) (id_1 : Int) (r : (List (T_api_Packet))) (h : R12_of F l_1 id_1 = some r) : TripleG prog 40 [] [] [.sl false 4 (Mp e_T_api_Packet l_1), Ii id_1] [.row 43 4 (Mp e_T_api_Packet r)] (.own 0 ((r).length)) := by
 refine triple_intro (fn := Go.Proofs.Try.f40) (code := codeOf Go.Proofs.Try.f40) (by kernel_rfl) (by kernel_rfl) (Nat.le_of_ble_eq_true (by kernel_rfl)) ?_
 unfold R12_of at h
 refine sr [(0, { id := 0, m := 1 })] [0, 1] [] 1 [.sl false 4 (Mp e_T_api_Packet l_1), Ii id_1] [] hmix an ?_
 refine sr [(0, { id := 1, m := 1 })] [0, 1, 5] [1] 2 [.sl false 4 (Mp e_T_api_Packet l_1), Ii id_1, .own 1 0] [Rb 43 4 []] hmix an ?_
 refine sq ?_
 refine sr [] [0, 1, 5, 6] [1] 2 [.sl false 4 (Mp e_T_api_Packet l_1), Ii id_1, .own 1 0, Ii 0] [Rb 43 4 []] hmix an ?_
 obtain ⟨o_1, h_1, h⟩ := bind_some h
 refine aw_mid (mk [(5, .own 0 ((o_1).length))] [(0, Rb 43 4 (Mp e_T_api_Packet o_1))] 1) ?_ ?_
 ·replace h := h_1
  refine aw_block (id := 0) (by kernel_rfl) ?_
  refine wk [1] [] [.s 0, .s 1, .s 5, .s 6] [.s 0] [(0, .sl false 4 (Mp e_T_api_Packet l_1)), (1, Ii id_1), (5, .own 0 0), (6, Ii 0)] [(0, Rb 43 4 [])] an ?_
  refine aw_loopF (fun n st => ∃ (i_1 : Int), ∃ (row_1 : List T_api_Packet), st = mk [(0, .sl false 4 (Mp e_T_api_Packet l_1)), (1, Ii id_1), (5, .own 0 ((row_1).length)), (6, Ii i_1)] [(0, Rb 43 4 (Mp e_T_api_Packet row_1))] 1 ∧ R12_of_L1 F l_1 id_1 n i_1 row_1 = some o_1) F (by kernel_rfl) ⟨_, _, rfl, h⟩ ?_ ?_
  ·rintro _ ⟨_, _, _, h⟩; exact none_ne (h : (none : Option (List T_api_Packet)) = some o_1)
  rintro n_1 _ ⟨i_1, row_1, rfl, h⟩
  replace h : R12_of_L1_body F l_1 id_1 (R12_of_L1 F l_1 id_1 n_1) i_1 row_1 = some o_1 := h
  unfold R12_of_L1_body at h
  refine sq ?_
  refine sr [(2, { n := (l_1).length })] [0, 1, 5, 6, 10] [0] 1 [.sl false 4 (Mp e_T_api_Packet l_1), Ii id_1, .own 0 ((row_1).length), Ii i_1, .bool (decide (i_1 < (lN (l_1))))] [Rb 43 4 (Mp e_T_api_Packet row_1)] hmix (ac (vc_len _ : ((Mp e_T_api_Packet l_1)).length = (l_1).length) an) ?_
  refine cd 10 (decide (i_1 < (lN (l_1)))) ?_ ?_
  rotate_left
  ·intro g_1; replace h := cond_f g_1 h
   refine aw_exit (id := 0) (by kernel_rfl) ?_
   cases h
   exact ⟨rfl, (sw [0] [] [.s 5] [.s 0] an)⟩
  intro g_1; replace h := cond_t g_1 h
  refine sk ?_
  refine sq ?_
  obtain ⟨o_2, h_2, h⟩ := bind_some h
  refine aw_mid (mk [(0, .sl false 4 (Mp e_T_api_Packet l_1)), (1, Ii id_1), (5, .own 0 ((o_2).length)), (6, Ii i_1)] [(0, Rb 43 4 (Mp e_T_api_Packet o_2))] 1) ?_ ?_
  ·replace h := h_2
   refine aw_block (id := 1) (by kernel_rfl) ?_
   refine sq ?_
   obtain ⟨x_1, h_3, h⟩ := bind_some h
   refine rg [(2, { av := e_T_api_Packet x_1 })] [0, 1, 5, 6, 19] [0] 1 [.sl false 4 (Mp e_T_api_Packet l_1), Ii id_1, .own 0 ((row_1).length), Ii i_1, .bool (x_1.Thread == id_1)] [Rb 43 4 (Mp e_T_api_Packet row_1)] hmix (ac (vc_idx h_3 : idxA (Mp e_T_api_Packet l_1) i_1 = some (e_T_api_Packet x_1)) an) ?_
   refine cd 19 (x_1.Thread == id_1) ?_ ?_
   rotate_left
   ·intro g_2; replace h := cond_f g_2 h
    refine sk ?_
    cases h
    exact ⟨rfl, (sw [0] [] [.s 0, .s 1, .s 5, .s 6] [.s 0] an)⟩
   intro g_2; replace h := cond_t g_2 h
   obtain ⟨x_2, h_4, h⟩ := bind_some h
   obtain ⟨_, h_5, h⟩ := bind_some h; replace h_5 := need_some h_5
   refine rg [(3, { av := e_T_api_Packet x_2 }), (5, { id := 1 }), (6, { id := 2, l := (Mp e_T_api_Packet (row_1 ++ ([x_2] : List T_api_Packet))), n := ((row_1 ++ ([x_2] : List T_api_Packet))).length })] [0, 1, 5, 6] [2] 3 [.sl false 4 (Mp e_T_api_Packet l_1), Ii id_1, .own 2 (((row_1 ++ ([x_2] : List T_api_Packet))).length), Ii i_1] [Rb 43 4 (Mp e_T_api_Packet (row_1 ++ ([x_2] : List T_api_Packet)))] hmix (ac (vc_idx h_4 : idxA (Mp e_T_api_Packet l_1) i_1 = some (e_T_api_Packet x_2)) (ac (by first | (simp; done) | (simp; omega) : (row_1).length = ((List.map e_T_api_Packet row_1)).length) (ac (by first | (simp; done) | (simp; omega) : 1 = ((List.map e_T_api_Packet ([x_2] : List T_api_Packet))).length) (ac (vc_app _ _ : (Mp e_T_api_Packet (row_1 ++ ([x_2] : List T_api_Packet))) = (Mp e_T_api_Packet row_1) ++ (Mp e_T_api_Packet ([x_2] : List T_api_Packet))) (ac (by simp : ((row_1 ++ ([x_2] : List T_api_Packet))).length = ((List.map e_T_api_Packet (row_1 ++ ([x_2] : List T_api_Packet)))).length) (ac (by first | (simp; done) | simpa using h_5 : (((List.map e_T_api_Packet row_1) : List AV).length + ((List.map e_T_api_Packet ([x_2] : List T_api_Packet)) : List AV).length) * 48 ≤ 140737488355328) an)))))) ?_
   cases h
   exact ⟨rfl, (sw [2] [] [.s 0, .s 1, .s 5, .s 6] [.s 0] an)⟩
  refine rg [] [0, 1, 5, 6] [0] 1 [.sl false 4 (Mp e_T_api_Packet l_1), Ii id_1, .own 0 ((o_2).length), Ii (w_i64 (i_1 + (1 : Int)))] [Rb 43 4 (Mp e_T_api_Packet o_2)] hmix an ?_
  exact ⟨_, (sw [0] [] [.s 0, .s 1, .s 5, .s 6] [.s 0] an), _, _, rfl, h⟩
 refine sr [] [4] [0] 1 [.own 0 ((o_1).length)] [Rb 43 4 (Mp e_T_api_Packet o_1)] hmix an ?_
 refine wk [0] [] [.s 4] [.s 0] [(4, .own 0 ((o_1).length))] [(0, Rb 43 4 (Mp e_T_api_Packet o_1))] an ?_
 refine rt ?_
 cases h
 exact ⟨.inr rfl, Nat.le_of_ble_eq_true rfl, by kernel_rfl⟩

theorem R12_end_ok (p_1 : T_api_Packet) (r : Int) (h : R12_end p_1 = some r) : TripleG prog 49 [] [] [e_T_api_Packet p_1] [] (Ii r) := by
 refine triple_intro (fn := Go.Proofs.Try.f49) (code := codeOf Go.Proofs.Try.f49) (by kernel_rfl) (by kernel_rfl) (Nat.le_of_ble_eq_true (by kernel_rfl)) ?_
 unfold R12_end at h
 refine sr [(0, { id := 0 })] [1] [0] 1 [Pp 0] [Vb 43 (v_T_api_Packet p_1)] hmix an ?_
 refine sr [(4, { n := (p_1.Events).length })] [2] [] 1 [Ii (w_i64 (p_1.Serial + (lN (p_1.Events))))] [] hmix (ac (vc_len _ : ((Mp e_T_api_Event p_1.Events)).length = (p_1.Events).length) an) ?_
 refine rt ?_
 cases h
 exact ⟨.inr rfl, Nat.le_of_ble_eq_true rfl, by kernel_rfl⟩

theorem R12_consecutive_ok (F : Nat) (l_1 : List (T_api_Packet)) (next_1 : Int) (r : Bool) (h : R12_consecutive F l_1 next_1 = some r) : TripleG prog 43 [] [] [.sl false 4 (Mp e_T_api_Packet l_1), Ii next_1] [] (.bool r) := by
 refine triple_intro (fn := Go.Proofs.Try.f43) (code := codeOf Go.Proofs.Try.f43) (by kernel_rfl) (by kernel_rfl) (Nat.le_of_ble_eq_true (by kernel_rfl)) ?_
 unfold R12_consecutive at h
 refine sr [] [0, 1] [] 0 [.sl false 4 (Mp e_T_api_Packet l_1), Ii next_1] [] hmix an ?_
 refine sq ?_
 refine sr [] [0, 1, 5] [] 0 [.sl false 4 (Mp e_T_api_Packet l_1), Ii next_1, Ii 0] [] hmix an ?_
 obtain ⟨o_1, h_1, h⟩ := bind_some h
 refine aw_conv (K1 := (fun e st' => match o_1 with | (.inl q0) => e = .normal ∧ Sub 0 st' (mk [] [] 0) | (.inr q1) => e = .ret ∧ FinR prog Go.Proofs.Try.f43 0 [] (.bool q1) st')) ?_ ?_
 ·replace h := h_1
  refine aw_block (id := 0) (by kernel_rfl) ?_
  refine wk [] [] [.s 0, .s 1, .s 5] [] [(0, .sl false 4 (Mp e_T_api_Packet l_1)), (1, Ii next_1), (5, Ii 0)] [] an ?_
  refine aw_loopF (fun n st => ∃ (i_1 : Int), st = mk [(0, .sl false 4 (Mp e_T_api_Packet l_1)), (1, Ii next_1), (5, Ii i_1)] [] 0 ∧ R12_consecutive_L1 F l_1 next_1 n i_1 = some o_1) F (by kernel_rfl) ⟨_, rfl, h⟩ ?_ ?_
  ·rintro _ ⟨_, _, h⟩; exact none_ne (h : (none : Option (Unit ⊕ Bool)) = some o_1)
  rintro n_1 _ ⟨i_1, rfl, h⟩
  replace h : R12_consecutive_L1_body F l_1 next_1 (R12_consecutive_L1 F l_1 next_1 n_1) i_1 = some o_1 := h
  unfold R12_consecutive_L1_body at h
  refine sq ?_
  refine sr [(2, { n := (l_1).length })] [0, 1, 5, 9] [] 0 [.sl false 4 (Mp e_T_api_Packet l_1), Ii next_1, Ii i_1, .bool (decide (i_1 < (lN (l_1))))] [] hmix (ac (vc_len _ : ((Mp e_T_api_Packet l_1)).length = (l_1).length) an) ?_
  refine cd 9 (decide (i_1 < (lN (l_1)))) ?_ ?_
  rotate_left
  ·intro g_1; replace h := cond_f g_1 h
   refine aw_exit (id := 0) (by kernel_rfl) ?_
   cases h
   exact ⟨rfl, (sw [] [] [] [] an)⟩
  intro g_1; replace h := cond_t g_1 h
  refine sk ?_
  refine sq ?_
  refine aw_block (id := 1) (by kernel_rfl) ?_
  refine sq ?_
  obtain ⟨p_1, h_8, h⟩ := bind_some h
  refine aw_mid (mk [(0, .sl false 4 (Mp e_T_api_Packet l_1)), (1, Ii next_1), (5, Ii i_1), (49, .bool p_1)] [] 0) ?_ ?_
  ·replace h := h_8
   rcases bft (decide (i_1 > (0 : Int))) with gg_13 | gg_13
   ·replace h := cond_t gg_13 h
    obtain ⟨x_1, h_2, h⟩ := bind_some h
    obtain ⟨x_2, h_3, h⟩ := bind_some h
    obtain ⟨r_1, h_4, h⟩ := bind_some h
    obtain ⟨x_3, h_5, h⟩ := bind_some h
    rcases bft (x_1.Serial != (w_i64 (r_1 + x_3.Lost))) with gg_14 | gg_14
    ·replace h := cond_t gg_14 h
     refine rg [(5, { av := e_T_api_Packet x_1 }), (11, { av := e_T_api_Packet x_2 }), (13, { av := Ii r_1, l := [e_T_api_Packet x_2] }), (16, { av := e_T_api_Packet x_3 }), (21, Ht), (23, Hg), (24, Hg), (25, Hg), (26, Hg), (27, Hg), (28, Hg), (36, Hg), (37, Ht)] [0, 1, 5, 15, 16, 17, 18, 19, 20, 21, 22, 23, 24, 25, 26, 27, 28, 29, 30, 31, 32, 35, 36, 37, 38, 39, 40, 41, 42, 43, 44, 45, 46, 47, 48, 49] [] 0 [.sl false 4 (Mp e_T_api_Packet l_1), Ii next_1, Ii i_1, .sl false 4 (Mp e_T_api_Packet l_1), Ii i_1, .ref (e_T_api_Packet x_1), .ref (Ii x_1.Serial), Ii x_1.Serial, .sl false 4 (Mp e_T_api_Packet l_1), Ii i_1, Ii (w_i64 (i_1 - (1 : Int))), .ref (e_T_api_Packet x_2), e_T_api_Packet x_2, Ii r_1, .sl false 4 (Mp e_T_api_Packet l_1), Ii i_1, .ref (e_T_api_Packet x_3), .ref (Ii x_3.Lost), Ii x_3.Lost, Ii (w_i64 (r_1 + x_3.Lost)), .bool (x_1.Serial != (w_i64 (r_1 + x_3.Lost))), .tuple [], .tuple [], .tuple [], .tuple [], .tuple [], .tuple [], .tuple [], .tuple [], .tuple [], .tuple [], .tuple [], .tuple [], .tuple [], .tuple [], .bool true] [] hmix (ac gg_13 (ac gg_13 (ac gg_13 (ac (vc_idx h_2 : idxA (Mp e_T_api_Packet l_1) i_1 = some (e_T_api_Packet x_1)) (ac gg_13 (ac gg_13 (ac gg_13 (ac gg_13 (ac gg_13 (ac gg_13 (ac (vc_idx h_3 : idxA (Mp e_T_api_Packet l_1) (w_i64 (i_1 - (1 : Int))) = some (e_T_api_Packet x_2)) (ac gg_13 (ac gg_13 (ar ([e_T_api_Packet x_2] : List AV) (ac (rfl : ([] : List BoxSt) = []) (ac (R12_end_ok x_2 r_1 h_4 : TripleG prog 49 [] [] [e_T_api_Packet x_2] [] (Ii r_1)) (ac gg_13 (ac gg_13 (ac gg_13 (ac (vc_idx h_5 : idxA (Mp e_T_api_Packet l_1) i_1 = some (e_T_api_Packet x_3)) (ac gg_13 (ac gg_13 (ac gg_13 (ac gg_13 (ac gg_13 (ac gg_14 (ac gg_14 (ac gg_14 (ac gg_14 (ac gg_14 (ac gg_14 (ac gg_14 (ac gg_14 an))))))))))))))))))))))))))))))))) ?_
     cases h
     exact ⟨rfl, (sw [] [] [.s 0, .s 1, .s 5, .s 49] [] an)⟩
    ·replace h := cond_f gg_14 h
     rcases bft (i_1 == (w_i64 ((lN (l_1)) - (1 : Int)))) with gg_15 | gg_15
     ·replace h := cond_t gg_15 h
      obtain ⟨x_4, h_6, h⟩ := bind_some h
      obtain ⟨r_2, h_7, h⟩ := bind_some h
      refine rg [(5, { av := e_T_api_Packet x_1 }), (11, { av := e_T_api_Packet x_2 }), (13, { av := Ii r_1, l := [e_T_api_Packet x_2] }), (16, { av := e_T_api_Packet x_3 }), (21, Ht), (25, { n := (l_1).length }), (31, { av := e_T_api_Packet x_4 }), (33, { av := Ii r_2, l := [e_T_api_Packet x_4] }), (36, Ht), (37, Hf)] [0, 1, 5, 15, 16, 17, 18, 19, 20, 21, 22, 23, 24, 25, 26, 27, 28, 29, 30, 31, 32, 35, 36, 37, 38, 39, 40, 41, 42, 43, 44, 45, 46, 47, 48, 49] [] 0 [.sl false 4 (Mp e_T_api_Packet l_1), Ii next_1, Ii i_1, .sl false 4 (Mp e_T_api_Packet l_1), Ii i_1, .ref (e_T_api_Packet x_1), .ref (Ii x_1.Serial), Ii x_1.Serial, .sl false 4 (Mp e_T_api_Packet l_1), Ii i_1, Ii (w_i64 (i_1 - (1 : Int))), .ref (e_T_api_Packet x_2), e_T_api_Packet x_2, Ii r_1, .sl false 4 (Mp e_T_api_Packet l_1), Ii i_1, .ref (e_T_api_Packet x_3), .ref (Ii x_3.Lost), Ii x_3.Lost, Ii (w_i64 (r_1 + x_3.Lost)), .bool (x_1.Serial != (w_i64 (r_1 + x_3.Lost))), Ii i_1, .sl false 4 (Mp e_T_api_Packet l_1), Ii (lN (l_1)), Ii (w_i64 ((lN (l_1)) - (1 : Int))), .bool (i_1 == (w_i64 ((lN (l_1)) - (1 : Int)))), .bool (i_1 == (w_i64 ((lN (l_1)) - (1 : Int)))), .sl false 4 (Mp e_T_api_Packet l_1), Ii i_1, .ref (e_T_api_Packet x_4), e_T_api_Packet x_4, Ii r_2, Ii next_1, .bool (r_2 != next_1), .bool (r_2 != next_1), .bool (r_2 != next_1)] [] hmix (ac gg_13 (ac gg_13 (ac gg_13 (ac (vc_idx h_2 : idxA (Mp e_T_api_Packet l_1) i_1 = some (e_T_api_Packet x_1)) (ac gg_13 (ac gg_13 (ac gg_13 (ac gg_13 (ac gg_13 (ac gg_13 (ac (vc_idx h_3 : idxA (Mp e_T_api_Packet l_1) (w_i64 (i_1 - (1 : Int))) = some (e_T_api_Packet x_2)) (ac gg_13 (ac gg_13 (ar ([e_T_api_Packet x_2] : List AV) (ac (rfl : ([] : List BoxSt) = []) (ac (R12_end_ok x_2 r_1 h_4 : TripleG prog 49 [] [] [e_T_api_Packet x_2] [] (Ii r_1)) (ac gg_13 (ac gg_13 (ac gg_13 (ac (vc_idx h_5 : idxA (Mp e_T_api_Packet l_1) i_1 = some (e_T_api_Packet x_3)) (ac gg_13 (ac gg_13 (ac gg_13 (ac gg_13 (ac gg_13 (ac gg_14 (ac gg_14 (ac gg_14 (ac (vc_len _ : ((Mp e_T_api_Packet l_1)).length = (l_1).length) (ac gg_14 (ac gg_14 (ac gg_14 (ac gg_15 (ac gg_15 (ac gg_15 (ac (vc_idx h_6 : idxA (Mp e_T_api_Packet l_1) i_1 = some (e_T_api_Packet x_4)) (ac gg_15 (ac gg_15 (ar ([e_T_api_Packet x_4] : List AV) (ac (rfl : ([] : List BoxSt) = []) (ac (R12_end_ok x_4 r_2 h_7 : TripleG prog 49 [] [] [e_T_api_Packet x_4] [] (Ii r_2)) (ac gg_15 (ac gg_15 (ac gg_14 (ac gg_15 (ac gg_14 an)))))))))))))))))))))))))))))))))))))))))))))) ?_
      cases h
      exact ⟨rfl, (sw [] [] [.s 0, .s 1, .s 5, .s 49] [] an)⟩
     ·replace h := cond_f gg_15 h
      refine rg [(5, { av := e_T_api_Packet x_1 }), (11, { av := e_T_api_Packet x_2 }), (13, { av := Ii r_1, l := [e_T_api_Packet x_2] }), (16, { av := e_T_api_Packet x_3 }), (21, Ht), (25, { n := (l_1).length }), (29, Hg), (30, Hg), (31, Hg), (32, Hg), (33, Hg), (34, Hg), (35, Hg), (36, Hf), (37, Hf)] [0, 1, 5, 15, 16, 17, 18, 19, 20, 21, 22, 23, 24, 25, 26, 27, 28, 29, 30, 31, 32, 35, 36, 37, 38, 39, 40, 41, 42, 43, 44, 45, 46, 47, 48, 49] [] 0 [.sl false 4 (Mp e_T_api_Packet l_1), Ii next_1, Ii i_1, .sl false 4 (Mp e_T_api_Packet l_1), Ii i_1, .ref (e_T_api_Packet x_1), .ref (Ii x_1.Serial), Ii x_1.Serial, .sl false 4 (Mp e_T_api_Packet l_1), Ii i_1, Ii (w_i64 (i_1 - (1 : Int))), .ref (e_T_api_Packet x_2), e_T_api_Packet x_2, Ii r_1, .sl false 4 (Mp e_T_api_Packet l_1), Ii i_1, .ref (e_T_api_Packet x_3), .ref (Ii x_3.Lost), Ii x_3.Lost, Ii (w_i64 (r_1 + x_3.Lost)), .bool (x_1.Serial != (w_i64 (r_1 + x_3.Lost))), Ii i_1, .sl false 4 (Mp e_T_api_Packet l_1), Ii (lN (l_1)), Ii (w_i64 ((lN (l_1)) - (1 : Int))), .bool (i_1 == (w_i64 ((lN (l_1)) - (1 : Int)))), .bool (i_1 == (w_i64 ((lN (l_1)) - (1 : Int)))), .tuple [], .tuple [], .tuple [], .tuple [], .tuple [], .tuple [], .tuple [], .bool false, .bool false] [] hmix (ac gg_13 (ac gg_13 (ac gg_13 (ac (vc_idx h_2 : idxA (Mp e_T_api_Packet l_1) i_1 = some (e_T_api_Packet x_1)) (ac gg_13 (ac gg_13 (ac gg_13 (ac gg_13 (ac gg_13 (ac gg_13 (ac (vc_idx h_3 : idxA (Mp e_T_api_Packet l_1) (w_i64 (i_1 - (1 : Int))) = some (e_T_api_Packet x_2)) (ac gg_13 (ac gg_13 (ar ([e_T_api_Packet x_2] : List AV) (ac (rfl : ([] : List BoxSt) = []) (ac (R12_end_ok x_2 r_1 h_4 : TripleG prog 49 [] [] [e_T_api_Packet x_2] [] (Ii r_1)) (ac gg_13 (ac gg_13 (ac gg_13 (ac (vc_idx h_5 : idxA (Mp e_T_api_Packet l_1) i_1 = some (e_T_api_Packet x_3)) (ac gg_13 (ac gg_13 (ac gg_13 (ac gg_13 (ac gg_13 (ac gg_14 (ac gg_14 (ac gg_14 (ac (vc_len _ : ((Mp e_T_api_Packet l_1)).length = (l_1).length) (ac gg_14 (ac gg_14 (ac gg_14 (ac gg_15 (ac gg_15 (ac gg_15 (ac gg_15 (ac gg_15 (ac gg_15 (ac gg_15 (ac gg_14 (ac gg_15 (ac gg_14 an)))))))))))))))))))))))))))))))))))))))))) ?_
      cases h
      exact ⟨rfl, (sw [] [] [.s 0, .s 1, .s 5, .s 49] [] an)⟩
   ·replace h := cond_f gg_13 h
    rcases bft (i_1 == (w_i64 ((lN (l_1)) - (1 : Int)))) with gg_16 | gg_16
    ·replace h := cond_t gg_16 h
     obtain ⟨x_1, h_2, h⟩ := bind_some h
     obtain ⟨r_1, h_3, h⟩ := bind_some h
     refine rg [(3, Hg), (4, Hg), (5, Hg), (6, Hg), (7, Hg), (8, Hg), (9, Hg), (10, Hg), (11, Hg), (12, Hg), (13, Hg), (14, Hg), (15, Hg), (16, Hg), (17, Hg), (18, Hg), (19, Hg), (20, Hg), (21, Hf), (25, { n := (l_1).length }), (31, { av := e_T_api_Packet x_1 }), (33, { av := Ii r_1, l := [e_T_api_Packet x_1] }), (36, Ht), (37, Hf)] [0, 1, 5, 15, 16, 17, 18, 19, 20, 21, 22, 23, 24, 25, 26, 27, 28, 29, 30, 31, 32, 35, 36, 37, 38, 39, 40, 41, 42, 43, 44, 45, 46, 47, 48, 49] [] 0 [.sl false 4 (Mp e_T_api_Packet l_1), Ii next_1, Ii i_1, .tuple [], .tuple [], .tuple [], .tuple [], .tuple [], .tuple [], .tuple [], .tuple [], .tuple [], .tuple [], .tuple [], .tuple [], .tuple [], .tuple [], .tuple [], .tuple [], .tuple [], .tuple [], Ii i_1, .sl false 4 (Mp e_T_api_Packet l_1), Ii (lN (l_1)), Ii (w_i64 ((lN (l_1)) - (1 : Int))), .bool (i_1 == (w_i64 ((lN (l_1)) - (1 : Int)))), .bool (i_1 == (w_i64 ((lN (l_1)) - (1 : Int)))), .sl false 4 (Mp e_T_api_Packet l_1), Ii i_1, .ref (e_T_api_Packet x_1), e_T_api_Packet x_1, Ii r_1, Ii next_1, .bool (r_1 != next_1), .bool (r_1 != next_1), .bool (r_1 != next_1)] [] hmix (ac gg_13 (ac gg_13 (ac gg_13 (ac gg_13 (ac gg_13 (ac gg_13 (ac gg_13 (ac gg_13 (ac gg_13 (ac gg_13 (ac gg_13 (ac gg_13 (ac gg_13 (ac gg_13 (ac gg_13 (ac gg_13 (ac gg_13 (ac gg_13 (ac gg_13 (ar false (ar false (ar false (ac (vc_len _ : ((Mp e_T_api_Packet l_1)).length = (l_1).length) (ar false (ar false (ar false (ac gg_16 (ac gg_16 (ac gg_16 (ac (vc_idx h_2 : idxA (Mp e_T_api_Packet l_1) i_1 = some (e_T_api_Packet x_1)) (ac gg_16 (ac gg_16 (ar ([e_T_api_Packet x_1] : List AV) (ac (rfl : ([] : List BoxSt) = []) (ac (R12_end_ok x_1 r_1 h_3 : TripleG prog 49 [] [] [e_T_api_Packet x_1] [] (Ii r_1)) (ac gg_16 (ac gg_16 (ar false (ac gg_16 (ar false an)))))))))))))))))))))))))))))))))))))))) ?_
     cases h
     exact ⟨rfl, (sw [] [] [.s 0, .s 1, .s 5, .s 49] [] an)⟩
    ·replace h := cond_f gg_16 h
     refine rg [(3, Hg), (4, Hg), (5, Hg), (6, Hg), (7, Hg), (8, Hg), (9, Hg), (10, Hg), (11, Hg), (12, Hg), (13, Hg), (14, Hg), (15, Hg), (16, Hg), (17, Hg), (18, Hg), (19, Hg), (20, Hg), (21, Hf), (25, { n := (l_1).length }), (29, Hg), (30, Hg), (31, Hg), (32, Hg), (33, Hg), (34, Hg), (35, Hg), (36, Hf), (37, Hf)] [0, 1, 5, 15, 16, 17, 18, 19, 20, 21, 22, 23, 24, 25, 26, 27, 28, 29, 30, 31, 32, 35, 36, 37, 38, 39, 40, 41, 42, 43, 44, 45, 46, 47, 48, 49] [] 0 [.sl false 4 (Mp e_T_api_Packet l_1), Ii next_1, Ii i_1, .tuple [], .tuple [], .tuple [], .tuple [], .tuple [], .tuple [], .tuple [], .tuple [], .tuple [], .tuple [], .tuple [], .tuple [], .tuple [], .tuple [], .tuple [], .tuple [], .tuple [], .tuple [], Ii i_1, .sl false 4 (Mp e_T_api_Packet l_1), Ii (lN (l_1)), Ii (w_i64 ((lN (l_1)) - (1 : Int))), .bool (i_1 == (w_i64 ((lN (l_1)) - (1 : Int)))), .bool (i_1 == (w_i64 ((lN (l_1)) - (1 : Int)))), .tuple [], .tuple [], .tuple [], .tuple [], .tuple [], .tuple [], .tuple [], .bool false, .bool false] [] hmix (ac gg_13 (ac gg_13 (ac gg_13 (ac gg_13 (ac gg_13 (ac gg_13 (ac gg_13 (ac gg_13 (ac gg_13 (ac gg_13 (ac gg_13 (ac gg_13 (ac gg_13 (ac gg_13 (ac gg_13 (ac gg_13 (ac gg_13 (ac gg_13 (ac gg_13 (ar false (ar false (ar false (ac (vc_len _ : ((Mp e_T_api_Packet l_1)).length = (l_1).length) (ar false (ar false (ar false (ac gg_16 (ac gg_16 (ac gg_16 (ac gg_16 (ac gg_16 (ac gg_16 (ac gg_16 (ar false (ac gg_16 (ar false an)))))))))))))))))))))))))))))))))))) ?_
     cases h
     exact ⟨rfl, (sw [] [] [.s 0, .s 1, .s 5, .s 49] [] an)⟩
  refine cd 49 p_1 ?_ ?_
  rotate_left
  ·intro g_2; replace h := cond_f g_2 h
   refine sk ?_
   refine rg [] [0, 1, 5] [] 0 [.sl false 4 (Mp e_T_api_Packet l_1), Ii next_1, Ii (w_i64 (i_1 + (1 : Int)))] [] hmix an ?_
   exact ⟨_, (sw [] [] [.s 0, .s 1, .s 5] [] an), _, rfl, h⟩
  intro g_2; replace h := cond_t g_2 h
  refine sr [] [4] [] 0 [.bool false] [] hmix an ?_
  refine rt ?_
  cases h
  exact ⟨rfl, Nat.le_of_ble_eq_true rfl, by kernel_rfl⟩
 intro e st1 hk
 rcases o_1 with q_1 | q_2
 rotate_left
 ·obtain ⟨rfl, hf⟩ := hk
  cases h
  exact ⟨st1, Sub.refl _ _, .inr rfl, hf⟩
 obtain ⟨rfl, hs⟩ := hk
 refine ⟨_, hs, ?_⟩
 refine sr [] [4] [] 0 [.bool true] [] hmix an ?_
 refine rt ?_
 cases h
 exact ⟨.inr rfl, Nat.le_of_ble_eq_true rfl, by kernel_rfl⟩

theorem R12_Check_ok (F : Nat) (s_1 : T_api_Service) (r : Int) (h : R12_Check F s_1 = some r) : TripleG prog 19 [] [] [e_T_api_Service s_1] [] (Ii r) := by
 refine triple_intro (fn := Go.Proofs.Try.f19) (code := codeOf Go.Proofs.Try.f19) (by kernel_rfl) (by kernel_rfl) (Nat.le_of_ble_eq_true (by kernel_rfl)) ?_
 unfold R12_Check at h
 refine sr [(0, { id := 0 })] [1] [0] 1 [Pp 0] [Vb 27 (v_T_api_Service s_1)] hmix an ?_
 refine sq ?_
 obtain ⟨r_1, h_1, h⟩ := bind_some h
 refine rg [(2, { av := Ii r_1, l := [.sl false 3 (Mp e_T_api_Thread s_1.Threads)] })] [1, 3] [0] 1 [Pp 0, Ii r_1] [Vb 27 (v_T_api_Service s_1)] hmix (ar ([.sl false 3 (Mp e_T_api_Thread s_1.Threads)] : List AV) (ac (rfl : ([] : List BoxSt) = []) (ac (R12_threads_ok F s_1.Threads r_1 h_1 : TripleG prog 33 [] [] [.sl false 3 (Mp e_T_api_Thread s_1.Threads)] [] (Ii r_1)) an))) ?_
 refine sq ?_
 refine sr [] [1, 3, 10] [0] 1 [Pp 0, Ii r_1, .bool (r_1 != (0 : Int))] [Vb 27 (v_T_api_Service s_1)] hmix an ?_
 refine cd 10 (r_1 != (0 : Int)) ?_ ?_
 ·intro g_1; replace h := cond_t g_1 h
  refine sr [] [2] [] 1 [Ii r_1] [] hmix an ?_
  refine rt ?_
  cases h
  exact ⟨.inr rfl, Nat.le_of_ble_eq_true rfl, by kernel_rfl⟩
 intro g_1; replace h := cond_f g_1 h
 refine sk ?_
 refine sq ?_
 refine sr [(2, { n := (s_1.Next).length }), (5, { n := (s_1.Threads).length })] [1, 18] [0] 1 [Pp 0, .bool ((lN (s_1.Next)) != (lN (s_1.Threads)))] [Vb 27 (v_T_api_Service s_1)] hmix (ac (vc_len _ : ((Mi s_1.Next)).length = (s_1.Next).length) (ac (vc_len _ : ((Mp e_T_api_Thread s_1.Threads)).length = (s_1.Threads).length) an)) ?_
 refine cd 18 ((lN (s_1.Next)) != (lN (s_1.Threads))) ?_ ?_
 ·intro g_2; replace h := cond_t g_2 h
  refine sr [] [2] [] 1 [Ii 10] [] hmix an ?_
  refine rt ?_
  cases h
  exact ⟨.inr rfl, Nat.le_of_ble_eq_true rfl, by kernel_rfl⟩
 intro g_2; replace h := cond_f g_2 h
 refine sk ?_
 refine sq ?_
 refine sr [] [1, 4] [0] 1 [Pp 0, Ii 0] [Vb 27 (v_T_api_Service s_1)] hmix an ?_
 obtain ⟨o_1, h_2, h⟩ := bind_some h
 refine aw_conv (K1 := (fun e st' => match o_1 with | (.inl q0) => e = .normal ∧ Sub 0 st' (mk [(1, Pp 0)] [(0, Vb 27 (v_T_api_Service s_1))] 1) | (.inr q1) => e = .ret ∧ FinR prog Go.Proofs.Try.f19 0 [] (Ii q1) st')) ?_ ?_
 ·replace h := h_2
  refine aw_block (id := 0) (by kernel_rfl) ?_
  refine wk [0] [] [.s 1, .s 4] [.s 0] [(1, Pp 0), (4, Ii 0)] [(0, Vb 27 (v_T_api_Service s_1))] an ?_
  refine aw_loopF (fun n st => ∃ (i_1 : Int), st = mk [(1, Pp 0), (4, Ii i_1)] [(0, Vb 27 (v_T_api_Service s_1))] 1 ∧ R12_Check_L1 F s_1 n i_1 = some o_1) F (by kernel_rfl) ⟨_, rfl, h⟩ ?_ ?_
  ·rintro _ ⟨_, _, h⟩; exact none_ne (h : (none : Option (Unit ⊕ Int)) = some o_1)
  rintro n_1 _ ⟨i_1, rfl, h⟩
  replace h : R12_Check_L1_body F s_1 (R12_Check_L1 F s_1 n_1) i_1 = some o_1 := h
  unfold R12_Check_L1_body at h
  refine sq ?_
  refine sr [(3, { n := (s_1.Queue).length })] [1, 4, 23] [0] 1 [Pp 0, Ii i_1, .bool (decide (i_1 < (lN (s_1.Queue))))] [Vb 27 (v_T_api_Service s_1)] hmix (ac (vc_len _ : ((Mp e_T_api_Packet s_1.Queue)).length = (s_1.Queue).length) an) ?_
  refine cd 23 (decide (i_1 < (lN (s_1.Queue)))) ?_ ?_
  rotate_left
  ·intro g_3; replace h := cond_f g_3 h
   refine aw_exit (id := 0) (by kernel_rfl) ?_
   cases h
   exact ⟨rfl, (sw [0] [] [.s 1] [.s 0] an)⟩
  intro g_3; replace h := cond_t g_3 h
  refine sk ?_
  refine sq ?_
  refine aw_block (id := 1) (by kernel_rfl) ?_
  refine sq ?_
  obtain ⟨p_1, h_7, h⟩ := bind_some h
  refine aw_mid (mk [(1, Pp 0), (4, Ii i_1), (44, .bool p_1)] [(0, Vb 27 (v_T_api_Service s_1))] 1) ?_ ?_
  ·replace h := h_7
   obtain ⟨x_1, h_3, h⟩ := bind_some h
   obtain ⟨r_2, h_4, h⟩ := bind_some h
   rcases bft (r_2 != (0 : Int)) with gg_4 | gg_4
   ·replace h := cond_t gg_4 h
    refine rg [(3, { av := e_T_api_Packet x_1 }), (5, { av := Ii r_2, l := [e_T_api_Packet x_1] }), (8, Hg), (9, Hg), (10, Hg), (11, Hg), (12, Hg), (13, Hg), (14, Hg), (15, Hg), (16, Hg), (17, Hg), (18, Ht)] [1, 4, 34, 35, 36, 37, 38, 39, 40, 41, 42, 43, 44] [0] 1 [Pp 0, Ii i_1, .tuple [], .tuple [], .tuple [], .tuple [], .tuple [], .tuple [], .tuple [], .tuple [], .tuple [], .tuple [], .bool true] [Vb 27 (v_T_api_Service s_1)] hmix (ac (vc_idx h_3 : idxA (Mp e_T_api_Packet s_1.Queue) i_1 = some (e_T_api_Packet x_1)) (ar ([e_T_api_Packet x_1] : List AV) (ac (rfl : ([] : List BoxSt) = []) (ac (R11_Check_ok F x_1 r_2 h_4 : TripleG prog 42 [] [] [e_T_api_Packet x_1] [] (Ii r_2)) (ac gg_4 (ac gg_4 (ac gg_4 (ac gg_4 (ac gg_4 (ac gg_4 (ac gg_4 (ac gg_4 (ac gg_4 (ac gg_4 (ac gg_4 an))))))))))))))) ?_
    cases h
    exact ⟨rfl, (sw [0] [] [.s 1, .s 4, .s 44] [.s 0] an)⟩
   ·replace h := cond_f gg_4 h
    obtain ⟨x_2, h_5, h⟩ := bind_some h
    obtain ⟨r_3, h_6, h⟩ := bind_some h
    refine rg [(3, { av := e_T_api_Packet x_1 }), (5, { av := Ii r_2, l := [e_T_api_Packet x_1] }), (13, { av := e_T_api_Packet x_2 }), (16, { av := Ii r_3, l := [.sl false 3 (Mp e_T_api_Thread s_1.Threads), Ii x_2.Thread] }), (18, Hf)] [1, 4, 34, 35, 36, 37, 38, 39, 40, 41, 42, 43, 44] [0] 1 [Pp 0, Ii i_1, Pp 0, .sl false 3 (Mp e_T_api_Thread s_1.Threads), .ptr 0 0 0 2, .sl false 4 (Mp e_T_api_Packet s_1.Queue), Ii i_1, .ref (e_T_api_Packet x_2), .ref (Ii x_2.Thread), Ii x_2.Thread, Ii r_3, .bool (decide (r_3 < (0 : Int))), .bool (decide (r_3 < (0 : Int)))] [Vb 27 (v_T_api_Service s_1)] hmix (ac (vc_idx h_3 : idxA (Mp e_T_api_Packet s_1.Queue) i_1 = some (e_T_api_Packet x_1)) (ar ([e_T_api_Packet x_1] : List AV) (ac (rfl : ([] : List BoxSt) = []) (ac (R11_Check_ok F x_1 r_2 h_4 : TripleG prog 42 [] [] [e_T_api_Packet x_1] [] (Ii r_2)) (ac gg_4 (ac gg_4 (ac gg_4 (ac gg_4 (ac gg_4 (ac gg_4 (ac (vc_idx h_5 : idxA (Mp e_T_api_Packet s_1.Queue) i_1 = some (e_T_api_Packet x_2)) (ac gg_4 (ac gg_4 (ac gg_4 (ar ([.sl false 3 (Mp e_T_api_Thread s_1.Threads), Ii x_2.Thread] : List AV) (ac (rfl : ([] : List BoxSt) = []) (ac (R12_index_ok F s_1.Threads x_2.Thread r_3 h_6 : TripleG prog 39 [] [] [.sl false 3 (Mp e_T_api_Thread s_1.Threads), Ii x_2.Thread] [] (Ii r_3)) (ac gg_4 (ac gg_4 an))))))))))))))))))) ?_
    cases h
    exact ⟨rfl, (sw [0] [] [.s 1, .s 4, .s 44] [.s 0] an)⟩
  refine cd 44 p_1 ?_ ?_
  rotate_left
  ·intro g_4; replace h := cond_f g_4 h
   refine sk ?_
   refine rg [] [1, 4] [0] 1 [Pp 0, Ii (w_i64 (i_1 + (1 : Int)))] [Vb 27 (v_T_api_Service s_1)] hmix an ?_
   exact ⟨_, (sw [0] [] [.s 1, .s 4] [.s 0] an), _, rfl, h⟩
  intro g_4; replace h := cond_t g_4 h
  refine sr [] [2] [] 1 [Ii 10] [] hmix an ?_
  refine rt ?_
  cases h
  exact ⟨rfl, Nat.le_of_ble_eq_true rfl, by kernel_rfl⟩
 intro e st1 hk
 rcases o_1 with q_1 | q_2
 rotate_left
 ·obtain ⟨rfl, hf⟩ := hk
  cases h
  exact ⟨st1, Sub.refl _ _, .inr rfl, hf⟩
 obtain ⟨rfl, hs⟩ := hk
 refine ⟨_, hs, ?_⟩
 refine sq ?_
 refine sr [] [1, 5] [0] 1 [Pp 0, Ii 0] [Vb 27 (v_T_api_Service s_1)] hmix an ?_
 obtain ⟨o_2, h_8, h⟩ := bind_some h
 refine aw_conv (K1 := (fun e st' => match o_2 with | (.inl q0) => e = .normal ∧ Sub 0 st' (mk [] [] 0) | (.inr q1) => e = .ret ∧ FinR prog Go.Proofs.Try.f19 0 [] (Ii q1) st')) ?_ ?_
 ·replace h := h_8
  refine aw_block (id := 2) (by kernel_rfl) ?_
  refine wk [0] [] [.s 1, .s 5] [.s 0] [(1, Pp 0), (5, Ii 0)] [(0, Vb 27 (v_T_api_Service s_1))] an ?_
  refine aw_loopF (fun n st => ∃ (i_2 : Int), st = mk [(1, Pp 0), (5, Ii i_2)] [(0, Vb 27 (v_T_api_Service s_1))] 1 ∧ R12_Check_L2 F s_1 n i_2 = some o_2) F (by kernel_rfl) ⟨_, rfl, h⟩ ?_ ?_
  ·rintro _ ⟨_, _, h⟩; exact none_ne (h : (none : Option (Unit ⊕ Int)) = some o_2)
  rintro n_2 _ ⟨i_2, rfl, h⟩
  replace h : R12_Check_L2_body F s_1 (R12_Check_L2 F s_1 n_2) i_2 = some o_2 := h
  unfold R12_Check_L2_body at h
  refine sq ?_
  refine sr [(3, { n := (s_1.Threads).length })] [1, 5, 49] [0] 1 [Pp 0, Ii i_2, .bool (decide (i_2 < (lN (s_1.Threads))))] [Vb 27 (v_T_api_Service s_1)] hmix (ac (vc_len _ : ((Mp e_T_api_Thread s_1.Threads)).length = (s_1.Threads).length) an) ?_
  refine cd 49 (decide (i_2 < (lN (s_1.Threads)))) ?_ ?_
  rotate_left
  ·intro g_5; replace h := cond_f g_5 h
   refine aw_exit (id := 2) (by kernel_rfl) ?_
   cases h
   exact ⟨rfl, (sw [] [] [] [] an)⟩
  intro g_5; replace h := cond_t g_5 h
  refine sk ?_
  refine sq ?_
  refine aw_block (id := 3) (by kernel_rfl) ?_
  refine sq ?_
  obtain ⟨p_2, h_15, h⟩ := bind_some h
  refine aw_mid (mk [(1, Pp 0), (5, Ii i_2), (83, .bool p_2)] [(0, Vb 27 (v_T_api_Service s_1))] 1) ?_ ?_
  ·replace h := h_15
   obtain ⟨x_3, h_9, h⟩ := bind_some h
   rcases bft (decide (x_3 < (0 : Int))) with gg_11 | gg_11
   ·replace h := cond_t gg_11 h
    refine rg [(3, { av := Ii x_3 }), (7, Hg), (8, Hg), (9, Hg), (10, Hg), (11, Hg), (12, Hg), (13, Ht), (15, Hg), (16, Hg), (17, Hg), (18, Hg), (19, Hg), (20, Hg), (21, Hg), (22, Hg), (23, Hg), (24, Hg), (25, Hg), (26, Hg), (27, Hg), (28, Hg), (29, Hg), (30, Hg), (31, Ht)] [1, 5, 59, 60, 61, 62, 63, 64, 67, 68, 69, 70, 71, 72, 73, 74, 75, 76, 77, 78, 79, 80, 81, 82, 83] [0] 1 [Pp 0, Ii i_2, .tuple [], .tuple [], .tuple [], .tuple [], .tuple [], .tuple [], .tuple [], .tuple [], .tuple [], .tuple [], .tuple [], .tuple [], .tuple [], .tuple [], .tuple [], .tuple [], .tuple [], .tuple [], .tuple [], .tuple [], .tuple [], .tuple [], .bool true] [Vb 27 (v_T_api_Service s_1)] hmix (ac (vc_idx h_9 : idxA (Mi s_1.Next) i_2 = some (Ii x_3)) (ac gg_11 (ac gg_11 (ac gg_11 (ac gg_11 (ac gg_11 (ac gg_11 (ac gg_11 (ax (ax (ax (ax (ax (ax (ax (ax (ax (ax (ax (ax (ax (ax (ax (ax (ar true an))))))))))))))))))))))))) ?_
    cases h
    exact ⟨rfl, (sw [0] [] [.s 1, .s 5, .s 83] [.s 0] an)⟩
   ·replace h := cond_f gg_11 h
    obtain ⟨x_4, h_10, h⟩ := bind_some h
    rcases bft (decide (x_4 > (1000000000000000 : Int))) with gg_12 | gg_12
    ·replace h := cond_t gg_12 h
     refine rg [(3, { av := Ii x_3 }), (10, { av := Ii x_4 }), (13, Hf), (15, Hg), (16, Hg), (17, Hg), (18, Hg), (19, Hg), (20, Hg), (21, Hg), (22, Hg), (23, Hg), (24, Hg), (25, Hg), (26, Hg), (27, Hg), (28, Hg), (29, Hg), (30, Hg), (31, Ht)] [1, 5, 59, 60, 61, 62, 63, 64, 67, 68, 69, 70, 71, 72, 73, 74, 75, 76, 77, 78, 79, 80, 81, 82, 83] [0] 1 [Pp 0, Ii i_2, .ptr 0 0 0 1, .sl false 1 (Mi s_1.Next), Ii i_2, .ref (Ii x_4), Ii x_4, .bool (decide (x_4 > (1000000000000000 : Int))), .tuple [], .tuple [], .tuple [], .tuple [], .tuple [], .tuple [], .tuple [], .tuple [], .tuple [], .tuple [], .tuple [], .tuple [], .tuple [], .tuple [], .tuple [], .tuple [], .bool true] [Vb 27 (v_T_api_Service s_1)] hmix (ac (vc_idx h_9 : idxA (Mi s_1.Next) i_2 = some (Ii x_3)) (ac gg_11 (ac gg_11 (ac gg_11 (ac gg_11 (ac (vc_idx h_10 : idxA (Mi s_1.Next) i_2 = some (Ii x_4)) (ac gg_11 (ac gg_11 (ac gg_11 (ac gg_12 (ac gg_12 (ac gg_12 (ac gg_12 (ac gg_12 (ac gg_12 (ac gg_12 (ac gg_12 (ac gg_12 (ac gg_12 (ac gg_12 (ac gg_12 (ac gg_12 (ac gg_12 (ac gg_12 (ac gg_12 (ac gg_12 an)))))))))))))))))))))))))) ?_
     cases h
     exact ⟨rfl, (sw [0] [] [.s 1, .s 5, .s 83] [.s 0] an)⟩
    ·replace h := cond_f gg_12 h
     obtain ⟨x_5, h_11, h⟩ := bind_some h
     obtain ⟨r_4, h_12, h⟩ := bind_some h
     obtain ⟨x_6, h_13, h⟩ := bind_some h
     obtain ⟨r_5, h_14, h⟩ := bind_some h
     refine rg [(3, { av := Ii x_3 }), (10, { av := Ii x_4 }), (13, Hf), (20, { av := e_T_api_Thread x_5 }), (23, { av := .own 0 ((r_4).length), ids := [1], l := [.sl false 4 (Mp e_T_api_Packet s_1.Queue), Ii x_5.Id], post := [(.row 43 4 (Mp e_T_api_Packet r_4))] }), (27, { av := Ii x_6 }), (29, { av := .bool r_5, l := [.sl false 4 (Mp e_T_api_Packet r_4), Ii x_6], lend := [1] }), (31, Hf)] [1, 5, 59, 60, 61, 62, 63, 64, 67, 68, 69, 70, 71, 72, 73, 74, 75, 76, 77, 78, 79, 80, 81, 82, 83] [0, 1] 2 [Pp 0, Ii i_2, .ptr 0 0 0 1, .sl false 1 (Mi s_1.Next), Ii i_2, .ref (Ii x_4), Ii x_4, .bool (decide (x_4 > (1000000000000000 : Int))), .ptr 0 0 0 2, .sl false 4 (Mp e_T_api_Packet s_1.Queue), Pp 0, .sl false 3 (Mp e_T_api_Thread s_1.Threads), Ii i_2, .ref (e_T_api_Thread x_5), .ref (Ii x_5.Id), Ii x_5.Id, .own 1 ((r_4).length), .ptr 0 0 0 1, .sl false 1 (Mi s_1.Next), Ii i_2, .ref (Ii x_6), Ii x_6, .bool r_5, .bool (!r_5), .bool (!r_5)] [Vb 27 (v_T_api_Service s_1), Rb 43 4 (Mp e_T_api_Packet r_4)] hmix (ac (vc_idx h_9 : idxA (Mi s_1.Next) i_2 = some (Ii x_3)) (ac gg_11 (ac gg_11 (ac gg_11 (ac gg_11 (ac (vc_idx h_10 : idxA (Mi s_1.Next) i_2 = some (Ii x_4)) (ac gg_11 (ac gg_11 (ac gg_11 (ac gg_12 (ac gg_12 (ac gg_12 (ac gg_12 (ac gg_12 (ac gg_12 (ac (vc_idx h_11 : idxA (Mp e_T_api_Thread s_1.Threads) i_2 = some (e_T_api_Thread x_5)) (ac gg_12 (ac gg_12 (ac gg_12 (ar ([.sl false 4 (Mp e_T_api_Packet s_1.Queue), Ii x_5.Id] : List AV) (ac (rfl : ([] : List BoxSt) = []) (ac (R12_of_ok F s_1.Queue x_5.Id r_4 h_12 : TripleG prog 40 [] [] [.sl false 4 (Mp e_T_api_Packet s_1.Queue), Ii x_5.Id] [(.row 43 4 (Mp e_T_api_Packet r_4))] (.own 0 ((r_4).length))) (ac gg_12 (ac gg_12 (ac gg_12 (ac gg_12 (ac (vc_idx h_13 : idxA (Mi s_1.Next) i_2 = some (Ii x_6)) (ac gg_12 (ac gg_12 (ac (by first | (simp; done) | (simp; omega) : (r_4).length = ((List.map e_T_api_Packet r_4)).length) (ar ([.sl false 4 (Mp e_T_api_Packet r_4), Ii x_6] : List AV) (ac (rfl : ([] : List BoxSt) = []) (ac (R12_consecutive_ok F r_4 x_6 r_5 h_14 : TripleG prog 43 [] [] [.sl false 4 (Mp e_T_api_Packet r_4), Ii x_6] [] (.bool r_5)) (ac gg_12 (ac gg_12 an))))))))))))))))))))))))))))))))))) ?_
     cases h
     exact ⟨rfl, (sw [0] [] [.s 1, .s 5, .s 83] [.s 0] an)⟩
  refine cd 83 p_2 ?_ ?_
  rotate_left
  ·intro g_6; replace h := cond_f g_6 h
   refine sk ?_
   refine rg [] [1, 5] [0] 1 [Pp 0, Ii (w_i64 (i_2 + (1 : Int)))] [Vb 27 (v_T_api_Service s_1)] hmix an ?_
   exact ⟨_, (sw [0] [] [.s 1, .s 5] [.s 0] an), _, rfl, h⟩
  intro g_6; replace h := cond_t g_6 h
  refine sr [] [2] [] 1 [Ii 10] [] hmix an ?_
  refine rt ?_
  cases h
  exact ⟨rfl, Nat.le_of_ble_eq_true rfl, by kernel_rfl⟩
 intro e st1 hk
 rcases o_2 with q_3 | q_4
 rotate_left
 ·obtain ⟨rfl, hf⟩ := hk
  cases h
  exact ⟨st1, Sub.refl _ _, .inr rfl, hf⟩
 obtain ⟨rfl, hs⟩ := hk
 refine ⟨_, hs, ?_⟩
 refine sr [] [2] [] 0 [Ii 0] [] hmix an ?_
 refine rt ?_
 cases h
 exact ⟨.inr rfl, Nat.le_of_ble_eq_true rfl, by kernel_rfl⟩

theorem R12_Expect_ok (F : Nat) (s_1 : T_api_Service) (thread_1 : Int) (r : Int × Int) (h : R12_Expect F s_1 thread_1 = some r) : TripleG prog 16 [] [] [e_T_api_Service s_1, Ii thread_1] [] (.tuple [Ii r.1, Ii r.2]) := by
 refine triple_intro (fn := Go.Proofs.Try.f16) (code := codeOf Go.Proofs.Try.f16) (by kernel_rfl) (by kernel_rfl) (Nat.le_of_ble_eq_true (by kernel_rfl)) ?_
 unfold R12_Expect at h
 refine sr [(0, { id := 0 })] [1, 2] [0] 1 [Ii thread_1, Pp 0] [Vb 27 (v_T_api_Service s_1)] hmix an ?_
 refine sq ?_
 obtain ⟨r_1, h_1, h⟩ := bind_some h
 refine rg [(1, { av := Ii r_1, l := [e_T_api_Service s_1] })] [1, 2, 6] [0] 1 [Ii thread_1, Pp 0, Ii r_1] [Vb 27 (v_T_api_Service s_1)] hmix (ar ([e_T_api_Service s_1] : List AV) (ac (rfl : ([] : List BoxSt) = []) (ac (R12_Check_ok F s_1 r_1 h_1 : TripleG prog 19 [] [] [e_T_api_Service s_1] [] (Ii r_1)) an))) ?_
 refine sq ?_
 refine sr [] [1, 2, 6, 11] [0] 1 [Ii thread_1, Pp 0, Ii r_1, .bool (r_1 != (0 : Int))] [Vb 27 (v_T_api_Service s_1)] hmix an ?_
 refine cd 11 (r_1 != (0 : Int)) ?_ ?_
 ·intro g_1; replace h := cond_t g_1 h
  refine sr [] [4, 5] [] 1 [Ii 0, Ii r_1] [] hmix an ?_
  refine rt ?_
  cases h
  exact ⟨.inr rfl, Nat.le_of_ble_eq_true rfl, by kernel_rfl⟩
 intro g_1; replace h := cond_f g_1 h
 refine sk ?_
 refine sq ?_
 obtain ⟨r_2, h_2, h⟩ := bind_some h
 refine rg [(3, { av := Ii r_2, l := [.sl false 3 (Mp e_T_api_Thread s_1.Threads), Ii thread_1] })] [2, 7] [0] 1 [Pp 0, Ii r_2] [Vb 27 (v_T_api_Service s_1)] hmix (ar ([.sl false 3 (Mp e_T_api_Thread s_1.Threads), Ii thread_1] : List AV) (ac (rfl : ([] : List BoxSt) = []) (ac (R12_index_ok F s_1.Threads thread_1 r_2 h_2 : TripleG prog 39 [] [] [.sl false 3 (Mp e_T_api_Thread s_1.Threads), Ii thread_1] [] (Ii r_2)) an))) ?_
 refine sq ?_
 refine sr [] [2, 7, 18] [0] 1 [Pp 0, Ii r_2, .bool (decide (r_2 < (0 : Int)))] [Vb 27 (v_T_api_Service s_1)] hmix an ?_
 refine cd 18 (decide (r_2 < (0 : Int))) ?_ ?_
 ·intro g_2; replace h := cond_t g_2 h
  refine sr [] [4, 5] [] 1 [Ii 0, Ii 5] [] hmix an ?_
  refine rt ?_
  cases h
  exact ⟨.inr rfl, Nat.le_of_ble_eq_true rfl, by kernel_rfl⟩
 intro g_2; replace h := cond_f g_2 h
 refine sk ?_
 refine sq ?_
 obtain ⟨x_1, h_3, h⟩ := bind_some h
 refine rg [(3, { av := Ii x_1 })] [4, 5] [] 1 [Ii x_1, Ii 0] [] hmix (ac (vc_idx h_3 : idxA (Mi s_1.Next) r_2 = some (Ii x_1)) an) ?_
 refine rt ?_
 cases h
 exact ⟨.inr rfl, Nat.le_of_ble_eq_true rfl, by kernel_rfl⟩

theorem R11_End_ok (p_1 : T_api_Packet) (r : Int) (h : R11_End p_1 = some r) : TripleG prog 59 [] [] [e_T_api_Packet p_1] [] (Ii r) := by
 refine triple_intro (fn := Go.Proofs.Try.f59) (code := codeOf Go.Proofs.Try.f59) (by kernel_rfl) (by kernel_rfl) (Nat.le_of_ble_eq_true (by kernel_rfl)) ?_
 unfold R11_End at h
 refine sr [(0, { id := 0 })] [1] [0] 1 [Pp 0] [Vb 43 (v_T_api_Packet p_1)] hmix an ?_
 refine sr [(4, { n := (p_1.Events).length })] [2] [] 1 [Ii (w_i64 (p_1.Serial + (lN (p_1.Events))))] [] hmix (ac (vc_len _ : ((Mp e_T_api_Event p_1.Events)).length = (p_1.Events).length) an) ?_
 refine rt ?_
 cases h
 exact ⟨.inr rfl, Nat.le_of_ble_eq_true rfl, by kernel_rfl⟩

theorem R11_Join_ok (F : Nat) (a_1 : T_api_Packet) (b_1 : T_api_Packet) (r : T_api_Packet × Bool) (h : R11_Join F a_1 b_1 = some r) : TripleG prog 41 [] [] [e_T_api_Packet a_1, e_T_api_Packet b_1] [] (.tuple [e_T_api_Packet r.1, .bool r.2]) := by
 refine triple_intro (fn := Go.Proofs.Try.f41) (code := codeOf Go.Proofs.Try.f41) (by kernel_rfl) (by kernel_rfl) (Nat.le_of_ble_eq_true (by kernel_rfl)) ?_
 unfold R11_Join at h
 refine sr [(0, { id := 0 }), (1, { id := 1 }), (2, { id := 2 })] [2, 3, 4] [0, 1, 2] 3 [Pp 0, Pp 1, Pp 2] [Vb 43 (v_T_api_Packet a_1), Vb 43 (v_T_api_Packet b_1), Vb 43 [Ii 0, Ii 0, Ii 0, .nilsl]] hmix an ?_
 refine aw_sub (sub_adoptB 2 3 3 54 6 (by kernel_rfl)) ?_
 refine wk [0, 1, 2, 3] [] [.s 2, .s 3, .s 4] [.s 0, .s 1, .s 2, .s 3] [(2, Pp 0), (3, Pp 1), (4, Pp 2)] [(0, Vb 43 (v_T_api_Packet a_1)), (1, Vb 43 (v_T_api_Packet b_1)), (2, Vb 43 [Ii 0, Ii 0, Ii 0, .own 3 0]), (3, Rb 54 6 [])] an ?_
 refine sq ?_
 refine sq ?_
 obtain ⟨p_1, h_4, h⟩ := bind_some h
 refine aw_mid (mk [(2, Pp 0), (3, Pp 1), (4, Pp 2), (33, .bool p_1)] [(0, Vb 43 (v_T_api_Packet a_1)), (1, Vb 43 (v_T_api_Packet b_1)), (2, Vb 43 [Ii 0, Ii 0, Ii 0, .own 3 0]), (3, Rb 54 6 [])] 4) ?_ ?_
 ·replace h := h_4
  obtain ⟨r_1, h_1, h⟩ := bind_some h
  rcases bft (r_1 != (0 : Int)) with gg_1 | gg_1
  ·replace h := cond_t gg_1 h
   refine rg [(1, { av := Ii r_1, l := [e_T_api_Packet a_1] }), (4, Hg), (5, Hg), (6, Hg), (7, Ht), (9, Hg), (10, Hg), (11, Hg), (12, Hg), (13, Hg), (14, Ht), (16, Hg), (17, Hg), (18, Hg), (19, Ht), (21, Hg), (22, Hg), (23, Hg), (24, Hg), (25, Hg), (26, Ht)] [2, 3, 4, 33] [0, 1, 2, 3] 4 [Pp 0, Pp 1, Pp 2, .bool true] [Vb 43 (v_T_api_Packet a_1), Vb 43 (v_T_api_Packet b_1), Vb 43 [Ii 0, Ii 0, Ii 0, .own 3 0], Rb 54 6 []] hmix (ar ([e_T_api_Packet a_1] : List AV) (ac (rfl : ([] : List BoxSt) = []) (ac (R11_Check_ok F a_1 r_1 h_1 : TripleG prog 42 [] [] [e_T_api_Packet a_1] [] (Ii r_1)) (ac gg_1 (ac gg_1 (ac gg_1 (ac gg_1 (ax (ax (ax (ax (ax (ar true (ax (ax (ax (ar true (ax (ax (ax (ax (ax (ar true an))))))))))))))))))))))) ?_
   cases h
   exact ⟨rfl, (sw [0, 1, 2, 3] [] [.s 2, .s 3, .s 4, .s 33] [.s 0, .s 1, .s 2, .s 3] an)⟩
  ·replace h := cond_f gg_1 h
   obtain ⟨r_2, h_2, h⟩ := bind_some h
   rcases bft (r_2 != (0 : Int)) with gg_2 | gg_2
   ·replace h := cond_t gg_2 h
    refine rg [(1, { av := Ii r_1, l := [e_T_api_Packet a_1] }), (5, { av := Ii r_2, l := [e_T_api_Packet b_1] }), (7, Hf), (9, Hg), (10, Hg), (11, Hg), (12, Hg), (13, Hg), (14, Ht), (16, Hg), (17, Hg), (18, Hg), (19, Ht), (21, Hg), (22, Hg), (23, Hg), (24, Hg), (25, Hg), (26, Ht)] [2, 3, 4, 33] [0, 1, 2, 3] 4 [Pp 0, Pp 1, Pp 2, .bool true] [Vb 43 (v_T_api_Packet a_1), Vb 43 (v_T_api_Packet b_1), Vb 43 [Ii 0, Ii 0, Ii 0, .own 3 0], Rb 54 6 []] hmix (ar ([e_T_api_Packet a_1] : List AV) (ac (rfl : ([] : List BoxSt) = []) (ac (R11_Check_ok F a_1 r_1 h_1 : TripleG prog 42 [] [] [e_T_api_Packet a_1] [] (Ii r_1)) (ac gg_1 (ac gg_1 (ar ([e_T_api_Packet b_1] : List AV) (ac (rfl : ([] : List BoxSt) = []) (ac (R11_Check_ok F b_1 r_2 h_2 : TripleG prog 42 [] [] [e_T_api_Packet b_1] [] (Ii r_2)) (ac gg_1 (ac gg_1 (ac gg_2 (ac gg_2 (ac gg_2 (ac gg_2 (ac gg_2 (ac gg_2 (ax (ax (ax (ar true (ax (ax (ax (ax (ax (ar true an)))))))))))))))))))))))))) ?_
    cases h
    exact ⟨rfl, (sw [0, 1, 2, 3] [] [.s 2, .s 3, .s 4, .s 33] [.s 0, .s 1, .s 2, .s 3] an)⟩
   ·replace h := cond_f gg_2 h
    rcases bft (a_1.Thread != b_1.Thread) with gg_3 | gg_3
    ·replace h := cond_t gg_3 h
     refine rg [(1, { av := Ii r_1, l := [e_T_api_Packet a_1] }), (5, { av := Ii r_2, l := [e_T_api_Packet b_1] }), (7, Hf), (14, Hf), (16, Hg), (17, Hg), (18, Hg), (19, Ht), (21, Hg), (22, Hg), (23, Hg), (24, Hg), (25, Hg), (26, Ht)] [2, 3, 4, 33] [0, 1, 2, 3] 4 [Pp 0, Pp 1, Pp 2, .bool true] [Vb 43 (v_T_api_Packet a_1), Vb 43 (v_T_api_Packet b_1), Vb 43 [Ii 0, Ii 0, Ii 0, .own 3 0], Rb 54 6 []] hmix (ar ([e_T_api_Packet a_1] : List AV) (ac (rfl : ([] : List BoxSt) = []) (ac (R11_Check_ok F a_1 r_1 h_1 : TripleG prog 42 [] [] [e_T_api_Packet a_1] [] (Ii r_1)) (ac gg_1 (ac gg_1 (ar ([e_T_api_Packet b_1] : List AV) (ac (rfl : ([] : List BoxSt) = []) (ac (R11_Check_ok F b_1 r_2 h_2 : TripleG prog 42 [] [] [e_T_api_Packet b_1] [] (Ii r_2)) (ac gg_1 (ac gg_1 (ac gg_2 (ac gg_2 (ac gg_2 (ac gg_2 (ac gg_2 (ac gg_2 (ac gg_3 (ac gg_3 (ac gg_3 (ac gg_3 (ax (ax (ax (ax (ax (ar true an)))))))))))))))))))))))))) ?_
     cases h
     exact ⟨rfl, (sw [0, 1, 2, 3] [] [.s 2, .s 3, .s 4, .s 33] [.s 0, .s 1, .s 2, .s 3] an)⟩
    ·replace h := cond_f gg_3 h
     rcases bft (b_1.Lost != (0 : Int)) with gg_4 | gg_4
     ·replace h := cond_t gg_4 h
      refine rg [(1, { av := Ii r_1, l := [e_T_api_Packet a_1] }), (5, { av := Ii r_2, l := [e_T_api_Packet b_1] }), (7, Hf), (14, Hf), (19, Hf), (21, Hg), (22, Hg), (23, Hg), (24, Hg), (25, Hg), (26, Ht)] [2, 3, 4, 33] [0, 1, 2, 3] 4 [Pp 0, Pp 1, Pp 2, .bool true] [Vb 43 (v_T_api_Packet a_1), Vb 43 (v_T_api_Packet b_1), Vb 43 [Ii 0, Ii 0, Ii 0, .own 3 0], Rb 54 6 []] hmix (ar ([e_T_api_Packet a_1] : List AV) (ac (rfl : ([] : List BoxSt) = []) (ac (R11_Check_ok F a_1 r_1 h_1 : TripleG prog 42 [] [] [e_T_api_Packet a_1] [] (Ii r_1)) (ac gg_1 (ac gg_1 (ar ([e_T_api_Packet b_1] : List AV) (ac (rfl : ([] : List BoxSt) = []) (ac (R11_Check_ok F b_1 r_2 h_2 : TripleG prog 42 [] [] [e_T_api_Packet b_1] [] (Ii r_2)) (ac gg_1 (ac gg_1 (ac gg_2 (ac gg_2 (ac gg_2 (ac gg_2 (ac gg_2 (ac gg_2 (ac gg_3 (ac gg_3 (ac gg_3 (ac gg_3 (ac gg_4 (ac gg_4 (ac gg_4 (ac gg_4 (ac gg_4 (ac gg_4 an)))))))))))))))))))))))))) ?_
      cases h
      exact ⟨rfl, (sw [0, 1, 2, 3] [] [.s 2, .s 3, .s 4, .s 33] [.s 0, .s 1, .s 2, .s 3] an)⟩
     ·replace h := cond_f gg_4 h
      obtain ⟨r_3, h_3, h⟩ := bind_some h
      refine rg [(1, { av := Ii r_1, l := [e_T_api_Packet a_1] }), (5, { av := Ii r_2, l := [e_T_api_Packet b_1] }), (7, Hf), (14, Hf), (19, Hf), (24, { av := Ii r_3, l := [e_T_api_Packet a_1] }), (26, Hf)] [2, 3, 4, 33] [0, 1, 2, 3] 4 [Pp 0, Pp 1, Pp 2, .bool (b_1.Serial != r_3)] [Vb 43 (v_T_api_Packet a_1), Vb 43 (v_T_api_Packet b_1), Vb 43 [Ii 0, Ii 0, Ii 0, .own 3 0], Rb 54 6 []] hmix (ar ([e_T_api_Packet a_1] : List AV) (ac (rfl : ([] : List BoxSt) = []) (ac (R11_Check_ok F a_1 r_1 h_1 : TripleG prog 42 [] [] [e_T_api_Packet a_1] [] (Ii r_1)) (ac gg_1 (ac gg_1 (ar ([e_T_api_Packet b_1] : List AV) (ac (rfl : ([] : List BoxSt) = []) (ac (R11_Check_ok F b_1 r_2 h_2 : TripleG prog 42 [] [] [e_T_api_Packet b_1] [] (Ii r_2)) (ac gg_1 (ac gg_1 (ac gg_2 (ac gg_2 (ac gg_2 (ac gg_2 (ac gg_2 (ac gg_2 (ac gg_3 (ac gg_3 (ac gg_3 (ac gg_3 (ac gg_4 (ac gg_4 (ac gg_4 (ac gg_4 (ar ([e_T_api_Packet a_1] : List AV) (ac (rfl : ([] : List BoxSt) = []) (ac (R11_End_ok a_1 r_3 h_3 : TripleG prog 59 [] [] [e_T_api_Packet a_1] [] (Ii r_3)) (ac gg_4 (ac gg_4 an))))))))))))))))))))))))))))) ?_
      cases h
      exact ⟨rfl, (sw [0, 1, 2, 3] [] [.s 2, .s 3, .s 4, .s 33] [.s 0, .s 1, .s 2, .s 3] an)⟩
 refine cd 33 p_1 ?_ ?_
 ·intro g_1; replace h := cond_t g_1 h
  refine sr [] [4, 5] [2] 4 [Pp 2, .bool false] [Vb 43 [Ii 0, Ii 0, Ii 0, .nilsl]] hmix an ?_
  refine aw_sub (sub_adoptB 2 3 4 54 6 (by kernel_rfl)) ?_
  refine wk [2, 4] [] [.s 4, .s 5] [.s 0, .s 1] [(4, Pp 0), (5, .bool false)] [(0, Vb 43 [Ii 0, Ii 0, Ii 0, .own 1 0]), (1, Rb 54 6 [])] an ?_
  refine wk [0] [1] [.s 4, .s 5] [.a 0 (Vb 43 (v_T_api_Packet (⟨(0 : Int), (0 : Int), (0 : Int), []⟩ : T_api_Packet)))] [(4, Pp 0), (5, .bool false)] [(0, Vb 43 (v_T_api_Packet (⟨(0 : Int), (0 : Int), (0 : Int), []⟩ : T_api_Packet)))] (ar 43 (ac (rfl : ones [Ii ((⟨(0 : Int), (0 : Int), (0 : Int), []⟩ : T_api_Packet).Thread), Ii ((⟨(0 : Int), (0 : Int), (0 : Int), []⟩ : T_api_Packet).Serial), Ii ((⟨(0 : Int), (0 : Int), (0 : Int), []⟩ : T_api_Packet).Lost), .sl false 6 (Mp e_T_api_Event ((⟨(0 : Int), (0 : Int), (0 : Int), []⟩ : T_api_Packet).Events))] = true) (ac (by first | (simp; done) | (simp; omega) : 0 = (([] : List AV)).length) (ac (rfl : (Ii 0 : AV) = Ii ((⟨(0 : Int), (0 : Int), (0 : Int), []⟩ : T_api_Packet).Thread)) (ac (rfl : (Ii 0 : AV) = Ii ((⟨(0 : Int), (0 : Int), (0 : Int), []⟩ : T_api_Packet).Serial)) (ac (rfl : (Ii 0 : AV) = Ii ((⟨(0 : Int), (0 : Int), (0 : Int), []⟩ : T_api_Packet).Lost)) (ar 6 (ac (rfl : ([] : List AV) = (Mp e_T_api_Event ((⟨(0 : Int), (0 : Int), (0 : Int), []⟩ : T_api_Packet).Events))) (ac (rfl : (!false || false) = true) an))))))))) ?_
  refine rt ?_
  cases h
  exact ⟨.inr rfl, Nat.le_of_ble_eq_true rfl, by kernel_rfl⟩
 intro g_1; replace h := cond_f g_1 h
 refine sk ?_
 refine sq ?_
 refine sq ?_
 obtain ⟨p_2, h_7, h⟩ := bind_some h
 refine aw_mid (mk [(2, Pp 0), (3, Pp 1), (4, Pp 2), (59, .bool p_2)] [(0, Vb 43 (v_T_api_Packet a_1)), (1, Vb 43 (v_T_api_Packet b_1)), (2, Vb 43 [Ii 0, Ii 0, Ii 0, .own 3 0]), (3, Rb 54 6 [])] 4) ?_ ?_
 ·replace h := h_7
  obtain ⟨x_1, h_5, h⟩ := bind_some h
  obtain ⟨x_2, h_6, h⟩ := bind_some h
  rcases bft (decide (x_1.At < x_2.At)) with gg_5 | gg_5
  ·replace h := cond_t gg_5 h
   refine rg [(2, { av := e_T_api_Event x_1 }), (9, { n := (a_1.Events).length }), (11, { av := e_T_api_Event x_2 }), (16, Hg), (17, Hg), (18, Hg), (19, Hg), (20, Hg), (21, Hg), (22, Hg), (23, Hg), (24, Ht)] [2, 3, 4, 59] [0, 1, 2, 3] 4 [Pp 0, Pp 1, Pp 2, .bool true] [Vb 43 (v_T_api_Packet a_1), Vb 43 (v_T_api_Packet b_1), Vb 43 [Ii 0, Ii 0, Ii 0, .own 3 0], Rb 54 6 []] hmix (ac (vc_idx h_5 : idxA (Mp e_T_api_Event b_1.Events) (0 : Int) = some (e_T_api_Event x_1)) (ac (vc_len _ : ((Mp e_T_api_Event a_1.Events)).length = (a_1.Events).length) (ac (vc_idx h_6 : idxA (Mp e_T_api_Event a_1.Events) (w_i64 ((lN (a_1.Events)) - (1 : Int))) = some (e_T_api_Event x_2)) (ac gg_5 (ac gg_5 (ac gg_5 (ac gg_5 (ac gg_5 (ac gg_5 (ac gg_5 (ac gg_5 (ac gg_5 an)))))))))))) ?_
   cases h
   exact ⟨rfl, (sw [0, 1, 2, 3] [] [.s 2, .s 3, .s 4, .s 59] [.s 0, .s 1, .s 2, .s 3] an)⟩
  ·replace h := cond_f gg_5 h
   refine rg [(2, { av := e_T_api_Event x_1 }), (9, { n := (a_1.Events).length }), (11, { av := e_T_api_Event x_2 }), (18, { n := (a_1.Events).length }), (21, { n := (b_1.Events).length }), (24, Hf)] [2, 3, 4, 59] [0, 1, 2, 3] 4 [Pp 0, Pp 1, Pp 2, .bool (decide ((w_i64 ((lN (a_1.Events)) + (lN (b_1.Events)))) > (1000 : Int)))] [Vb 43 (v_T_api_Packet a_1), Vb 43 (v_T_api_Packet b_1), Vb 43 [Ii 0, Ii 0, Ii 0, .own 3 0], Rb 54 6 []] hmix (ac (vc_idx h_5 : idxA (Mp e_T_api_Event b_1.Events) (0 : Int) = some (e_T_api_Event x_1)) (ac (vc_len _ : ((Mp e_T_api_Event a_1.Events)).length = (a_1.Events).length) (ac (vc_idx h_6 : idxA (Mp e_T_api_Event a_1.Events) (w_i64 ((lN (a_1.Events)) - (1 : Int))) = some (e_T_api_Event x_2)) (ac gg_5 (ac gg_5 (ac gg_5 (ac (vc_len _ : ((Mp e_T_api_Event a_1.Events)).length = (a_1.Events).length) (ac gg_5 (ac gg_5 (ac gg_5 (ac (vc_len _ : ((Mp e_T_api_Event b_1.Events)).length = (b_1.Events).length) (ac gg_5 (ac gg_5 (ac gg_5 an)))))))))))))) ?_
   cases h
   exact ⟨rfl, (sw [0, 1, 2, 3] [] [.s 2, .s 3, .s 4, .s 59] [.s 0, .s 1, .s 2, .s 3] an)⟩
 refine cd 59 p_2 ?_ ?_
 ·intro g_2; replace h := cond_t g_2 h
  refine sr [] [4, 5] [2] 4 [Pp 2, .bool false] [Vb 43 [Ii 0, Ii 0, Ii 0, .nilsl]] hmix an ?_
  refine aw_sub (sub_adoptB 2 3 4 54 6 (by kernel_rfl)) ?_
  refine wk [2, 4] [] [.s 4, .s 5] [.s 0, .s 1] [(4, Pp 0), (5, .bool false)] [(0, Vb 43 [Ii 0, Ii 0, Ii 0, .own 1 0]), (1, Rb 54 6 [])] an ?_
  refine wk [0] [1] [.s 4, .s 5] [.a 0 (Vb 43 (v_T_api_Packet (⟨(0 : Int), (0 : Int), (0 : Int), []⟩ : T_api_Packet)))] [(4, Pp 0), (5, .bool false)] [(0, Vb 43 (v_T_api_Packet (⟨(0 : Int), (0 : Int), (0 : Int), []⟩ : T_api_Packet)))] (ar 43 (ac (rfl : ones [Ii ((⟨(0 : Int), (0 : Int), (0 : Int), []⟩ : T_api_Packet).Thread), Ii ((⟨(0 : Int), (0 : Int), (0 : Int), []⟩ : T_api_Packet).Serial), Ii ((⟨(0 : Int), (0 : Int), (0 : Int), []⟩ : T_api_Packet).Lost), .sl false 6 (Mp e_T_api_Event ((⟨(0 : Int), (0 : Int), (0 : Int), []⟩ : T_api_Packet).Events))] = true) (ac (by first | (simp; done) | (simp; omega) : 0 = (([] : List AV)).length) (ac (rfl : (Ii 0 : AV) = Ii ((⟨(0 : Int), (0 : Int), (0 : Int), []⟩ : T_api_Packet).Thread)) (ac (rfl : (Ii 0 : AV) = Ii ((⟨(0 : Int), (0 : Int), (0 : Int), []⟩ : T_api_Packet).Serial)) (ac (rfl : (Ii 0 : AV) = Ii ((⟨(0 : Int), (0 : Int), (0 : Int), []⟩ : T_api_Packet).Lost)) (ar 6 (ac (rfl : ([] : List AV) = (Mp e_T_api_Event ((⟨(0 : Int), (0 : Int), (0 : Int), []⟩ : T_api_Packet).Events))) (ac (rfl : (!false || false) = true) an))))))))) ?_
  refine rt ?_
  cases h
  exact ⟨.inr rfl, Nat.le_of_ble_eq_true rfl, by kernel_rfl⟩
 intro g_2; replace h := cond_f g_2 h
 refine sk ?_
 refine sr [(7, { id := 4 })] [2, 3, 4, 6] [0, 1, 2, 3, 4] 5 [Pp 0, Pp 1, Pp 2, Pp 4] [Vb 43 (v_T_api_Packet a_1), Vb 43 (v_T_api_Packet b_1), Vb 43 [Ii 0, Ii 0, Ii 0, .own 3 0], Rb 54 6 [], Vb 43 [Ii a_1.Thread, Ii a_1.Serial, Ii a_1.Lost, .nilsl]] hmix an ?_
 refine aw_sub (sub_adoptB 4 3 5 54 6 (by kernel_rfl)) ?_
 refine wk [0, 1, 2, 3, 4, 5] [] [.s 2, .s 3, .s 4, .s 6] [.s 0, .s 1, .s 2, .s 3, .s 4, .s 5] [(2, Pp 0), (3, Pp 1), (4, Pp 2), (6, Pp 4)] [(0, Vb 43 (v_T_api_Packet a_1)), (1, Vb 43 (v_T_api_Packet b_1)), (2, Vb 43 [Ii 0, Ii 0, Ii 0, .own 3 0]), (3, Rb 54 6 []), (4, Vb 43 [Ii a_1.Thread, Ii a_1.Serial, Ii a_1.Lost, .own 5 0]), (5, Rb 54 6 [])] an ?_
 refine sq ?_
 obtain ⟨_, h_8, h⟩ := bind_some h; replace h_8 := need_some h_8
 refine rg [(4, { id := 6, l := (Mp e_T_api_Event ([] ++ a_1.Events)), n := (([] ++ a_1.Events)).length })] [3, 4, 6] [1, 2, 3, 4, 6] 7 [Pp 1, Pp 2, Pp 4] [Vb 43 (v_T_api_Packet b_1), Vb 43 [Ii 0, Ii 0, Ii 0, .own 3 0], Rb 54 6 [], Vb 43 [Ii a_1.Thread, Ii a_1.Serial, Ii a_1.Lost, .own 6 ((([] ++ a_1.Events)).length)], Rb 54 6 (Mp e_T_api_Event ([] ++ a_1.Events))] hmix (ac (by first | (simp; done) | (simp; omega) : 0 = (([] : List AV)).length) (ac (trivial : True) (ac (by simp : (List.map e_T_api_Event ([] ++ a_1.Events)) = [] ++ (List.map e_T_api_Event a_1.Events)) (ac (by simp : (([] ++ a_1.Events)).length = ((List.map e_T_api_Event ([] ++ a_1.Events))).length) (ac (by first | (simp; done) | simpa using h_8 : (([] : List AV).length + ((List.map e_T_api_Event a_1.Events) : List AV).length) * 72 ≤ 140737488355328) an))))) ?_
 refine sq ?_
 obtain ⟨_, h_9, h⟩ := bind_some h; replace h_9 := need_some h_9
 refine rg [(4, { id := 7, l := (Mp e_T_api_Event (([] ++ a_1.Events) ++ b_1.Events)), n := ((([] ++ a_1.Events) ++ b_1.Events)).length })] [4, 6] [2, 3, 4, 7] 8 [Pp 2, Pp 4] [Vb 43 [Ii 0, Ii 0, Ii 0, .own 3 0], Rb 54 6 [], Vb 43 [Ii a_1.Thread, Ii a_1.Serial, Ii a_1.Lost, .own 7 (((([] ++ a_1.Events) ++ b_1.Events)).length)], Rb 54 6 (Mp e_T_api_Event (([] ++ a_1.Events) ++ b_1.Events))] hmix (ac (by first | (simp; done) | (simp; omega) : (([] ++ a_1.Events)).length = ((List.map e_T_api_Event ([] ++ a_1.Events))).length) (ac (trivial : True) (ac (vc_app _ _ : (Mp e_T_api_Event (([] ++ a_1.Events) ++ b_1.Events)) = (Mp e_T_api_Event ([] ++ a_1.Events)) ++ (Mp e_T_api_Event b_1.Events)) (ac (by simp : ((([] ++ a_1.Events) ++ b_1.Events)).length = ((List.map e_T_api_Event (([] ++ a_1.Events) ++ b_1.Events))).length) (ac (by first | (simp; done) | simpa using h_9 : (((List.map e_T_api_Event ([] ++ a_1.Events)) : List AV).length + ((List.map e_T_api_Event b_1.Events) : List AV).length) * 72 ≤ 140737488355328) an))))) ?_
 refine sr [] [4, 5] [2, 7] 8 [Pp 2, .bool true] [Vb 43 [Ii a_1.Thread, Ii a_1.Serial, Ii a_1.Lost, .own 7 (((([] ++ a_1.Events) ++ b_1.Events)).length)], Rb 54 6 (Mp e_T_api_Event (([] ++ a_1.Events) ++ b_1.Events))] hmix an ?_
 refine wk [2] [7] [.s 4, .s 5] [.a 0 (Vb 43 (v_T_api_Packet (⟨a_1.Thread, a_1.Serial, a_1.Lost, (([] ++ a_1.Events) ++ b_1.Events)⟩ : T_api_Packet)))] [(4, Pp 0), (5, .bool true)] [(0, Vb 43 (v_T_api_Packet (⟨a_1.Thread, a_1.Serial, a_1.Lost, (([] ++ a_1.Events) ++ b_1.Events)⟩ : T_api_Packet)))] (ar 43 (ac (rfl : ones [Ii ((⟨a_1.Thread, a_1.Serial, a_1.Lost, (([] ++ a_1.Events) ++ b_1.Events)⟩ : T_api_Packet).Thread), Ii ((⟨a_1.Thread, a_1.Serial, a_1.Lost, (([] ++ a_1.Events) ++ b_1.Events)⟩ : T_api_Packet).Serial), Ii ((⟨a_1.Thread, a_1.Serial, a_1.Lost, (([] ++ a_1.Events) ++ b_1.Events)⟩ : T_api_Packet).Lost), .sl false 6 (Mp e_T_api_Event ((⟨a_1.Thread, a_1.Serial, a_1.Lost, (([] ++ a_1.Events) ++ b_1.Events)⟩ : T_api_Packet).Events))] = true) (ac (by first | (simp; done) | (simp; omega) : ((([] ++ a_1.Events) ++ b_1.Events)).length = ((List.map e_T_api_Event (([] ++ a_1.Events) ++ b_1.Events))).length) (ac (rfl : (Ii a_1.Thread : AV) = Ii ((⟨a_1.Thread, a_1.Serial, a_1.Lost, (([] ++ a_1.Events) ++ b_1.Events)⟩ : T_api_Packet).Thread)) (ac (rfl : (Ii a_1.Serial : AV) = Ii ((⟨a_1.Thread, a_1.Serial, a_1.Lost, (([] ++ a_1.Events) ++ b_1.Events)⟩ : T_api_Packet).Serial)) (ac (rfl : (Ii a_1.Lost : AV) = Ii ((⟨a_1.Thread, a_1.Serial, a_1.Lost, (([] ++ a_1.Events) ++ b_1.Events)⟩ : T_api_Packet).Lost)) (ar 6 (ac (rfl : ((Mp e_T_api_Event (([] ++ a_1.Events) ++ b_1.Events)) : List AV) = (Mp e_T_api_Event ((⟨a_1.Thread, a_1.Serial, a_1.Lost, (([] ++ a_1.Events) ++ b_1.Events)⟩ : T_api_Packet).Events))) (ac (rfl : (!false || false) = true) an))))))))) ?_
 refine rt ?_
 cases h
 exact ⟨.inr rfl, Nat.le_of_ble_eq_true rfl, by kernel_rfl⟩

end Go.Ab
