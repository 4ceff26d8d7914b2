/- Printed: the typed Lean functions of the Go functions, or the proofs that the Go functions meet them. No conditions but those that the theorems name. -/
import Derived.Test.YtpdbjocgoheapaaP12x1
namespace Go.Ab
open Go
set_option linter.unusedVariables false
theorem L12_awake_ok (F : Nat) (r : Bool) (h : L12_awake F = some r) : TripleG prog 9 [] [] [] [] (.bool r) := by
 refine triple_intro (fn := Go.Proofs.Try.f9) (code := codeOf Go.Proofs.Try.f9) (by kernel_rfl) (by kernel_rfl) (Nat.le_of_ble_eq_true (by kernel_rfl)) ?_
 unfold L12_awake at h
 refine sr [] [] [] 0 [] [] hmix an ?_
 refine sq ?_
 obtain ⟨r_1, h_1, h⟩ := bind_some h
 obtain ⟨r_2, h_2, h⟩ := bind_some h
 refine rg [(0, { av := .own 0 ((r_1).length), ids := [0], l := [], post := [(.row 60 3 (Mp e_T_api_Thread r_1))] }), (1, { av := .tuple [e_T_api_Service r_2.1, Ii r_2.2], frz := [0], l := [.sl false 3 (Mp e_T_api_Thread r_1)] }), (5, { id := 1 })] [1, 2] [1] 2 [Pp 1, Ii r_2.2] [Vb 27 (v_T_api_Service r_2.1)] hmix (ar ([] : List AV) (ac (rfl : ([] : List BoxSt) = []) (ac (L12_two_ok r_1 h_1 : TripleG prog 24 [] [] [] [(.row 60 3 (Mp e_T_api_Thread r_1))] (.own 0 ((r_1).length))) (ac (by first | (simp; done) | (simp; omega) : (r_1).length = ((List.map e_T_api_Thread r_1)).length) (ar ([.sl false 3 (Mp e_T_api_Thread r_1)] : List AV) (ac (rfl : ([] : List BoxSt) = []) (ac (drain_New_ok F r_1 r_2 h_2 : TripleG prog 10 [] [] [.sl false 3 (Mp e_T_api_Thread r_1)] [] (.tuple [e_T_api_Service r_2.1, Ii r_2.2])) an))))))) ?_
 refine sq ?_
 obtain ⟨r_3, h_3, h⟩ := bind_some h
 obtain ⟨r_4, h_4, h⟩ := bind_some h
 refine rg [(1, { av := e_T_api_Packet r_3, l := [Ii 2, Ii 0, Ii 0, Ii 2] }), (2, { av := .tuple [e_T_api_Service r_4.1, Ii r_4.2], l := [e_T_api_Service r_2.1, e_T_api_Packet r_3] })] [1, 2, 3] [1] 2 [Pp 1, Ii r_2.2, Ii r_4.2] [Vb 27 (v_T_api_Service r_4.1)] hmix (ar ([Ii 2, Ii 0, Ii 0, Ii 2] : List AV) (ac (rfl : ([] : List BoxSt) = []) (ac (L12_some_ok F (2 : Int) (0 : Int) (0 : Int) (2 : Int) r_3 h_3 : TripleG prog 30 [] [] [Ii 2, Ii 0, Ii 0, Ii 2] [] (e_T_api_Packet r_3)) (ar ([e_T_api_Service r_2.1, e_T_api_Packet r_3] : List AV) (ac (rfl : ([] : List BoxSt) = []) (ac (drain_Collect_ok F r_2.1 r_3 r_4 h_4 : TripleG prog 22 [] [] [e_T_api_Service r_2.1, e_T_api_Packet r_3] [] (.tuple [e_T_api_Service r_4.1, Ii r_4.2])) an)))))) ?_
 refine sq ?_
 obtain ⟨r_5, h_5, h⟩ := bind_some h
 obtain ⟨r_6, h_6, h⟩ := bind_some h
 refine rg [(1, { av := e_T_api_Packet r_5, l := [Ii 1, Ii 0, Ii 0, Ii 1] }), (2, { av := .tuple [e_T_api_Service r_6.1, Ii r_6.2], l := [e_T_api_Service r_4.1, e_T_api_Packet r_5] })] [1, 2, 3, 4] [1] 2 [Pp 1, Ii r_2.2, Ii r_4.2, Ii r_6.2] [Vb 27 (v_T_api_Service r_6.1)] hmix (ar ([Ii 1, Ii 0, Ii 0, Ii 1] : List AV) (ac (rfl : ([] : List BoxSt) = []) (ac (L12_some_ok F (1 : Int) (0 : Int) (0 : Int) (1 : Int) r_5 h_5 : TripleG prog 30 [] [] [Ii 1, Ii 0, Ii 0, Ii 1] [] (e_T_api_Packet r_5)) (ar ([e_T_api_Service r_4.1, e_T_api_Packet r_5] : List AV) (ac (rfl : ([] : List BoxSt) = []) (ac (drain_Collect_ok F r_4.1 r_5 r_6 h_6 : TripleG prog 22 [] [] [e_T_api_Service r_4.1, e_T_api_Packet r_5] [] (.tuple [e_T_api_Service r_6.1, Ii r_6.2])) an)))))) ?_
 refine sq ?_
 obtain ⟨r_7, h_7, h⟩ := bind_some h
 obtain ⟨r_8, h_8, h⟩ := bind_some h
 refine rg [(1, { av := e_T_api_Packet r_7, l := [Ii 2, Ii 2, Ii 0, Ii 1] }), (2, { av := .tuple [e_T_api_Service r_8.1, Ii r_8.2], l := [e_T_api_Service r_6.1, e_T_api_Packet r_7] })] [1, 2, 3, 4, 5] [1] 2 [Pp 1, Ii r_2.2, Ii r_4.2, Ii r_6.2, Ii r_8.2] [Vb 27 (v_T_api_Service r_8.1)] hmix (ar ([Ii 2, Ii 2, Ii 0, Ii 1] : List AV) (ac (rfl : ([] : List BoxSt) = []) (ac (L12_some_ok F (2 : Int) (2 : Int) (0 : Int) (1 : Int) r_7 h_7 : TripleG prog 30 [] [] [Ii 2, Ii 2, Ii 0, Ii 1] [] (e_T_api_Packet r_7)) (ar ([e_T_api_Service r_6.1, e_T_api_Packet r_7] : List AV) (ac (rfl : ([] : List BoxSt) = []) (ac (drain_Collect_ok F r_6.1 r_7 r_8 h_8 : TripleG prog 22 [] [] [e_T_api_Service r_6.1, e_T_api_Packet r_7] [] (.tuple [e_T_api_Service r_8.1, Ii r_8.2])) an)))))) ?_
 refine sq ?_
 obtain ⟨r_9, h_9, h⟩ := bind_some h
 refine rg [(1, { av := .tuple [.own 0 ((r_9.1).length), e_T_api_Service r_9.2], ids := [2], l := [e_T_api_Service r_8.1], post := [(.row 43 4 (Mp e_T_api_Packet r_9.1))] })] [1, 2, 3, 4, 5, 6] [1, 2] 3 [Pp 1, Ii r_2.2, Ii r_4.2, Ii r_6.2, Ii r_8.2, .own 2 ((r_9.1).length)] [Vb 27 (v_T_api_Service r_9.2), Rb 43 4 (Mp e_T_api_Packet r_9.1)] hmix (ar ([e_T_api_Service r_8.1] : List AV) (ac (rfl : ([] : List BoxSt) = []) (ac (drain_Flush_ok F r_8.1 r_9 h_9 : TripleG prog 17 [] [] [e_T_api_Service r_8.1] [(.row 43 4 (Mp e_T_api_Packet r_9.1))] (.tuple [.own 0 ((r_9.1).length), e_T_api_Service r_9.2])) an))) ?_
 refine sq ?_
 obtain ⟨r_10, h_10, h⟩ := bind_some h
 refine rg [(1, { av := .tuple [Ii r_10.1, Ii r_10.2], l := [e_T_api_Service r_9.2, Ii 2] })] [1, 2, 3, 4, 5, 6, 7, 8] [1, 2] 3 [Pp 1, Ii r_2.2, Ii r_4.2, Ii r_6.2, Ii r_8.2, .own 2 ((r_9.1).length), Ii r_10.1, Ii r_10.2] [Vb 27 (v_T_api_Service r_9.2), Rb 43 4 (Mp e_T_api_Packet r_9.1)] hmix (ar ([e_T_api_Service r_9.2, Ii 2] : List AV) (ac (rfl : ([] : List BoxSt) = []) (ac (drain_Expect_ok F r_9.2 (2 : Int) r_10 h_10 : TripleG prog 15 [] [] [e_T_api_Service r_9.2, Ii 2] [] (.tuple [Ii r_10.1, Ii r_10.2])) an))) ?_
 refine sq ?_
 obtain ⟨r_11, h_11, h⟩ := bind_some h
 obtain ⟨r_12, h_12, h⟩ := bind_some h
 refine rg [(1, { av := e_T_api_Packet r_11, l := [Ii 2, Ii 2, Ii 0, Ii 1] }), (2, { av := .tuple [e_T_api_Service r_12.1, Ii r_12.2], l := [e_T_api_Service r_9.2, e_T_api_Packet r_11] }), (6, { id := 3 })] [1, 2, 3, 4, 5, 6, 7, 8, 10] [1, 2] 4 [Pp 1, Ii r_2.2, Ii r_4.2, Ii r_6.2, Ii r_8.2, .own 2 ((r_9.1).length), Ii r_10.1, Ii r_10.2, Ii r_12.2] [Vb 27 (v_T_api_Service r_9.2), Rb 43 4 (Mp e_T_api_Packet r_9.1)] hmix (ar ([Ii 2, Ii 2, Ii 0, Ii 1] : List AV) (ac (rfl : ([] : List BoxSt) = []) (ac (L12_some_ok F (2 : Int) (2 : Int) (0 : Int) (1 : Int) r_11 h_11 : TripleG prog 30 [] [] [Ii 2, Ii 2, Ii 0, Ii 1] [] (e_T_api_Packet r_11)) (ar ([e_T_api_Service r_9.2, e_T_api_Packet r_11] : List AV) (ac (rfl : ([] : List BoxSt) = []) (ac (drain_Collect_ok F r_9.2 r_11 r_12 h_12 : TripleG prog 22 [] [] [e_T_api_Service r_9.2, e_T_api_Packet r_11] [] (.tuple [e_T_api_Service r_12.1, Ii r_12.2])) an)))))) ?_
 refine sq ?_
 obtain ⟨r_13, h_13, h⟩ := bind_some h
 obtain ⟨r_14, h_14, h⟩ := bind_some h
 refine rg [(1, { av := e_T_api_Packet r_13, l := [Ii 2, Ii 5, Ii 1, Ii 1] }), (2, { av := .tuple [e_T_api_Service r_14.1, Ii r_14.2], l := [e_T_api_Service r_9.2, e_T_api_Packet r_13] }), (6, { id := 4 })] [1, 2, 3, 4, 5, 6, 7, 8, 10, 12] [1, 2] 5 [Pp 1, Ii r_2.2, Ii r_4.2, Ii r_6.2, Ii r_8.2, .own 2 ((r_9.1).length), Ii r_10.1, Ii r_10.2, Ii r_12.2, Ii r_14.2] [Vb 27 (v_T_api_Service r_9.2), Rb 43 4 (Mp e_T_api_Packet r_9.1)] hmix (ar ([Ii 2, Ii 5, Ii 1, Ii 1] : List AV) (ac (rfl : ([] : List BoxSt) = []) (ac (L12_some_ok F (2 : Int) (5 : Int) (1 : Int) (1 : Int) r_13 h_13 : TripleG prog 30 [] [] [Ii 2, Ii 5, Ii 1, Ii 1] [] (e_T_api_Packet r_13)) (ar ([e_T_api_Service r_9.2, e_T_api_Packet r_13] : List AV) (ac (rfl : ([] : List BoxSt) = []) (ac (drain_Collect_ok F r_9.2 r_13 r_14 h_14 : TripleG prog 22 [] [] [e_T_api_Service r_9.2, e_T_api_Packet r_13] [] (.tuple [e_T_api_Service r_14.1, Ii r_14.2])) an)))))) ?_
 refine sq ?_
 obtain ⟨r_15, h_15, h⟩ := bind_some h
 obtain ⟨r_16, h_16, h⟩ := bind_some h
 refine rg [(1, { av := e_T_api_Packet r_15, l := [Ii 3, Ii 0, Ii 0, Ii 1] }), (2, { av := .tuple [e_T_api_Service r_16.1, Ii r_16.2], l := [e_T_api_Service r_9.2, e_T_api_Packet r_15] }), (6, { id := 5 })] [1, 2, 3, 4, 5, 6, 7, 8, 10, 12, 14] [1, 2] 6 [Pp 1, Ii r_2.2, Ii r_4.2, Ii r_6.2, Ii r_8.2, .own 2 ((r_9.1).length), Ii r_10.1, Ii r_10.2, Ii r_12.2, Ii r_14.2, Ii r_16.2] [Vb 27 (v_T_api_Service r_9.2), Rb 43 4 (Mp e_T_api_Packet r_9.1)] hmix (ar ([Ii 3, Ii 0, Ii 0, Ii 1] : List AV) (ac (rfl : ([] : List BoxSt) = []) (ac (L12_some_ok F (3 : Int) (0 : Int) (0 : Int) (1 : Int) r_15 h_15 : TripleG prog 30 [] [] [Ii 3, Ii 0, Ii 0, Ii 1] [] (e_T_api_Packet r_15)) (ar ([e_T_api_Service r_9.2, e_T_api_Packet r_15] : List AV) (ac (rfl : ([] : List BoxSt) = []) (ac (drain_Collect_ok F r_9.2 r_15 r_16 h_16 : TripleG prog 22 [] [] [e_T_api_Service r_9.2, e_T_api_Packet r_15] [] (.tuple [e_T_api_Service r_16.1, Ii r_16.2])) an)))))) ?_
 refine sq ?_
 obtain ⟨r_17, h_17, h⟩ := bind_some h
 obtain ⟨r_18, h_18, h⟩ := bind_some h
 refine rg [(1, { av := e_T_api_Packet r_17, l := [Ii 2, Ii 5, Ii 2, Ii 1] }), (2, { av := .tuple [e_T_api_Service r_18.1, Ii r_18.2], l := [e_T_api_Service r_9.2, e_T_api_Packet r_17] })] [1, 2, 3, 4, 5, 6, 7, 8, 10, 12, 14, 15] [1, 2] 6 [Pp 1, Ii r_2.2, Ii r_4.2, Ii r_6.2, Ii r_8.2, .own 2 ((r_9.1).length), Ii r_10.1, Ii r_10.2, Ii r_12.2, Ii r_14.2, Ii r_16.2, Ii r_18.2] [Vb 27 (v_T_api_Service r_18.1), Rb 43 4 (Mp e_T_api_Packet r_9.1)] hmix (ar ([Ii 2, Ii 5, Ii 2, Ii 1] : List AV) (ac (rfl : ([] : List BoxSt) = []) (ac (L12_some_ok F (2 : Int) (5 : Int) (2 : Int) (1 : Int) r_17 h_17 : TripleG prog 30 [] [] [Ii 2, Ii 5, Ii 2, Ii 1] [] (e_T_api_Packet r_17)) (ar ([e_T_api_Service r_9.2, e_T_api_Packet r_17] : List AV) (ac (rfl : ([] : List BoxSt) = []) (ac (drain_Collect_ok F r_9.2 r_17 r_18 h_18 : TripleG prog 22 [] [] [e_T_api_Service r_9.2, e_T_api_Packet r_17] [] (.tuple [e_T_api_Service r_18.1, Ii r_18.2])) an)))))) ?_
 refine sq ?_
 obtain ⟨r_19, h_19, h⟩ := bind_some h
 refine rg [(1, { av := .tuple [.own 0 ((r_19.1).length), e_T_api_Service r_19.2], ids := [6], l := [e_T_api_Service r_18.1], post := [(.row 43 4 (Mp e_T_api_Packet r_19.1))] }), (5, { id := 7 })] [2, 3, 4, 5, 6, 7, 8, 10, 12, 14, 15, 16] [2, 6] 8 [Ii r_2.2, Ii r_4.2, Ii r_6.2, Ii r_8.2, .own 2 ((r_9.1).length), Ii r_10.1, Ii r_10.2, Ii r_12.2, Ii r_14.2, Ii r_16.2, Ii r_18.2, .own 6 ((r_19.1).length)] [Rb 43 4 (Mp e_T_api_Packet r_9.1), Rb 43 4 (Mp e_T_api_Packet r_19.1)] hmix (ar ([e_T_api_Service r_18.1] : List AV) (ac (rfl : ([] : List BoxSt) = []) (ac (drain_Flush_ok F r_18.1 r_19 h_19 : TripleG prog 17 [] [] [e_T_api_Service r_18.1] [(.row 43 4 (Mp e_T_api_Packet r_19.1))] (.tuple [.own 0 ((r_19.1).length), e_T_api_Service r_19.2])) an))) ?_
 refine sq ?_
 obtain ⟨r_20, h_20, h⟩ := bind_some h
 refine rg [(0, { av := .tuple [e_T_api_Service r_20.1, Ii r_20.2], l := [.nilsl] }), (4, { id := 8 })] [2, 3, 4, 5, 6, 7, 8, 10, 12, 14, 15, 16, 19] [2, 6] 9 [Ii r_2.2, Ii r_4.2, Ii r_6.2, Ii r_8.2, .own 2 ((r_9.1).length), Ii r_10.1, Ii r_10.2, Ii r_12.2, Ii r_14.2, Ii r_16.2, Ii r_18.2, .own 6 ((r_19.1).length), Ii r_20.2] [Rb 43 4 (Mp e_T_api_Packet r_9.1), Rb 43 4 (Mp e_T_api_Packet r_19.1)] hmix (ar ([.nilsl] : List AV) (ac (rfl : ([] : List BoxSt) = []) (ac (triple_lo (args' := [.sl false 3 []]) (drain_New_ok F [] r_20 h_20) rfl ⟨rfl, trivial⟩ : TripleG prog 10 [] [] [.nilsl] [] (.tuple [e_T_api_Service r_20.1, Ii r_20.2])) an))) ?_
 refine sq ?_
 obtain ⟨r_21, h_21, h⟩ := bind_some h
 refine rg [(2, { id := 9 }), (3, { av := .tuple [e_T_api_Service r_21.1, Ii r_21.2], frz := [9], l := [.sl false 3 (Mp e_T_api_Thread ([(⟨(1 : Int), ([120] : List Int), (0 : Int)⟩ : T_api_Thread), (⟨(1 : Int), ([121] : List Int), (0 : Int)⟩ : T_api_Thread)] : List T_api_Thread))] }), (7, { id := 10 })] [2, 3, 4, 5, 6, 7, 8, 10, 12, 14, 15, 16, 19, 21] [2, 6] 11 [Ii r_2.2, Ii r_4.2, Ii r_6.2, Ii r_8.2, .own 2 ((r_9.1).length), Ii r_10.1, Ii r_10.2, Ii r_12.2, Ii r_14.2, Ii r_16.2, Ii r_18.2, .own 6 ((r_19.1).length), Ii r_20.2, Ii r_21.2] [Rb 43 4 (Mp e_T_api_Packet r_9.1), Rb 43 4 (Mp e_T_api_Packet r_19.1)] hmix (ac (by first | (simp; done) | (simp; omega) : 2 = ((List.map e_T_api_Thread ([(⟨(1 : Int), ([120] : List Int), (0 : Int)⟩ : T_api_Thread), (⟨(1 : Int), ([121] : List Int), (0 : Int)⟩ : T_api_Thread)] : List T_api_Thread))).length) (ar ([.sl false 3 (Mp e_T_api_Thread ([(⟨(1 : Int), ([120] : List Int), (0 : Int)⟩ : T_api_Thread), (⟨(1 : Int), ([121] : List Int), (0 : Int)⟩ : T_api_Thread)] : List T_api_Thread))] : List AV) (ac (rfl : ([] : List BoxSt) = []) (ac (drain_New_ok F ([(⟨(1 : Int), ([120] : List Int), (0 : Int)⟩ : T_api_Thread), (⟨(1 : Int), ([121] : List Int), (0 : Int)⟩ : T_api_Thread)] : List T_api_Thread) r_21 h_21 : TripleG prog 10 [] [] [.sl false 3 (Mp e_T_api_Thread ([(⟨(1 : Int), ([120] : List Int), (0 : Int)⟩ : T_api_Thread), (⟨(1 : Int), ([121] : List Int), (0 : Int)⟩ : T_api_Thread)] : List T_api_Thread))] [] (.tuple [e_T_api_Service r_21.1, Ii r_21.2])) an)))) ?_
 refine sq ?_
 obtain ⟨p_1, h_26, h⟩ := bind_some h
 refine aw_mid (mk [(0, .bool p_1)] [] 0) ?_ ?_
 ·replace h := h_26
  rcases bft (r_2.2 == (0 : Int)) with gg_1 | gg_1
  ·replace h := cond_t gg_1 h
   rcases bft (r_4.2 == (0 : Int)) with gg_2 | gg_2
   ·replace h := cond_t gg_2 h
    rcases bft (r_6.2 == (0 : Int)) with gg_3 | gg_3
    ·replace h := cond_t gg_3 h
     rcases bft (r_8.2 == (0 : Int)) with gg_4 | gg_4
     ·replace h := cond_t gg_4 h
      rcases bft ((lN (r_9.1)) == (2 : Int)) with gg_5 | gg_5
      ·replace h := cond_t gg_5 h
       obtain ⟨x_1, h_22, h⟩ := bind_some h
       rcases bft (x_1.Thread == (1 : Int)) with gg_6 | gg_6
       ·replace h := cond_t gg_6 h
        obtain ⟨x_2, h_23, h⟩ := bind_some h
        rcases bft (x_2.Thread == (2 : Int)) with gg_7 | gg_7
        ·replace h := cond_t gg_7 h
         obtain ⟨x_3, h_24, h⟩ := bind_some h
         rcases bft ((lN (x_3.Events)) == (3 : Int)) with gg_8 | gg_8
         ·replace h := cond_t gg_8 h
          rcases bft (r_10.1 == (3 : Int)) with gg_9 | gg_9
          ·replace h := cond_t gg_9 h
           rcases bft (r_10.2 == (0 : Int)) with gg_10 | gg_10
           ·replace h := cond_t gg_10 h
            rcases bft (r_12.2 == (4 : Int)) with gg_11 | gg_11
            ·replace h := cond_t gg_11 h
             rcases bft (r_14.2 == (11 : Int)) with gg_12 | gg_12
             ·replace h := cond_t gg_12 h
              rcases bft (r_16.2 == (5 : Int)) with gg_13 | gg_13
              ·replace h := cond_t gg_13 h
               rcases bft (r_18.2 == (0 : Int)) with gg_14 | gg_14
               ·replace h := cond_t gg_14 h
                rcases bft ((lN (r_19.1)) == (1 : Int)) with gg_15 | gg_15
                ·replace h := cond_t gg_15 h
                 obtain ⟨x_4, h_25, h⟩ := bind_some h
                 rcases bft (x_4.Lost == (2 : Int)) with gg_16 | gg_16
                 ·replace h := cond_t gg_16 h
                  rcases bft (r_20.2 == (8 : Int)) with gg_17 | gg_17
                  ·replace h := cond_t gg_17 h
                   refine rg [(5, Ht), (9, Ht), (13, Ht), (18, Ht), (23, { av := e_T_api_Packet x_1 }), (25, Ht), (30, { av := e_T_api_Packet x_2 }), (32, Ht), (37, { av := e_T_api_Packet x_3 }), (38, { n := (x_3.Events).length }), (40, Ht), (44, Ht), (48, Ht), (52, Ht), (56, Ht), (60, Ht), (64, Ht), (69, Ht), (74, { av := e_T_api_Packet x_4 }), (76, Ht), (80, Ht), (84, Ht)] [0] [] 11 [.bool (r_21.2 == (4 : Int))] [] hmix (ac gg_1 (ac gg_1 (ac gg_1 (ac gg_2 (ac gg_2 (ac gg_2 (ac gg_3 (ac gg_3 (ac gg_3 (ac gg_4 (ac gg_4 (ac gg_4 (ac gg_4 (ac gg_5 (ac gg_5 (ac (idxL_lo h_22 : (0 : Int) ≤ (0 : Int)) (ac (by first | (simp; done) | simpa using idxL_hi h_22 : (0 : Int) < (((r_9.1).length : Nat) : Int)) (ac gg_5 (ac gg_5 (ac (vc_get h_22 : (Mp e_T_api_Packet r_9.1)[0]? = some (e_T_api_Packet x_1)) (ac gg_5 (ac gg_5 (ac gg_6 (ac gg_6 (ac (idxL_lo h_23 : (0 : Int) ≤ (1 : Int)) (ac (by first | (simp; done) | simpa using idxL_hi h_23 : (1 : Int) < (((r_9.1).length : Nat) : Int)) (ac gg_6 (ac gg_6 (ac (vc_get h_23 : (Mp e_T_api_Packet r_9.1)[1]? = some (e_T_api_Packet x_2)) (ac gg_6 (ac gg_6 (ac gg_7 (ac gg_7 (ac (idxL_lo h_24 : (0 : Int) ≤ (1 : Int)) (ac (by first | (simp; done) | simpa using idxL_hi h_24 : (1 : Int) < (((r_9.1).length : Nat) : Int)) (ac gg_7 (ac gg_7 (ac (vc_get h_24 : (Mp e_T_api_Packet r_9.1)[1]? = some (e_T_api_Packet x_3)) (ac gg_7 (ac (vc_len _ : ((Mp e_T_api_Event x_3.Events)).length = (x_3.Events).length) (ac gg_7 (ac gg_7 (ac gg_8 (ac gg_8 (ac gg_8 (ac gg_9 (ac gg_9 (ac gg_9 (ac gg_10 (ac gg_10 (ac gg_10 (ac gg_11 (ac gg_11 (ac gg_11 (ac gg_12 (ac gg_12 (ac gg_12 (ac gg_13 (ac gg_13 (ac gg_13 (ac gg_14 (ac gg_14 (ac gg_14 (ac gg_14 (ac gg_15 (ac gg_15 (ac (idxL_lo h_25 : (0 : Int) ≤ (0 : Int)) (ac (by first | (simp; done) | simpa using idxL_hi h_25 : (0 : Int) < (((r_19.1).length : Nat) : Int)) (ac gg_15 (ac gg_15 (ac (vc_get h_25 : (Mp e_T_api_Packet r_19.1)[0]? = some (e_T_api_Packet x_4)) (ac gg_15 (ac gg_15 (ac gg_16 (ac gg_16 (ac gg_16 (ac gg_17 (ac gg_17 (ac gg_17 an))))))))))))))))))))))))))))))))))))))))))))))))))))))))))))))))))))))))))))))) ?_
                   cases h
                   exact ⟨rfl, (sw [] [] [.s 0] [] an)⟩
                  ·replace h := cond_f gg_17 h
                   refine rg [(5, Ht), (9, Ht), (13, Ht), (18, Ht), (23, { av := e_T_api_Packet x_1 }), (25, Ht), (30, { av := e_T_api_Packet x_2 }), (32, Ht), (37, { av := e_T_api_Packet x_3 }), (38, { n := (x_3.Events).length }), (40, Ht), (44, Ht), (48, Ht), (52, Ht), (56, Ht), (60, Ht), (64, Ht), (69, Ht), (74, { av := e_T_api_Packet x_4 }), (76, Ht), (80, Ht), (82, Hg), (83, Hg), (84, Hf)] [0] [] 11 [.bool false] [] hmix (ac gg_1 (ac gg_1 (ac gg_1 (ac gg_2 (ac gg_2 (ac gg_2 (ac gg_3 (ac gg_3 (ac gg_3 (ac gg_4 (ac gg_4 (ac gg_4 (ac gg_4 (ac gg_5 (ac gg_5 (ac (idxL_lo h_22 : (0 : Int) ≤ (0 : Int)) (ac (by first | (simp; done) | simpa using idxL_hi h_22 : (0 : Int) < (((r_9.1).length : Nat) : Int)) (ac gg_5 (ac gg_5 (ac (vc_get h_22 : (Mp e_T_api_Packet r_9.1)[0]? = some (e_T_api_Packet x_1)) (ac gg_5 (ac gg_5 (ac gg_6 (ac gg_6 (ac (idxL_lo h_23 : (0 : Int) ≤ (1 : Int)) (ac (by first | (simp; done) | simpa using idxL_hi h_23 : (1 : Int) < (((r_9.1).length : Nat) : Int)) (ac gg_6 (ac gg_6 (ac (vc_get h_23 : (Mp e_T_api_Packet r_9.1)[1]? = some (e_T_api_Packet x_2)) (ac gg_6 (ac gg_6 (ac gg_7 (ac gg_7 (ac (idxL_lo h_24 : (0 : Int) ≤ (1 : Int)) (ac (by first | (simp; done) | simpa using idxL_hi h_24 : (1 : Int) < (((r_9.1).length : Nat) : Int)) (ac gg_7 (ac gg_7 (ac (vc_get h_24 : (Mp e_T_api_Packet r_9.1)[1]? = some (e_T_api_Packet x_3)) (ac gg_7 (ac (vc_len _ : ((Mp e_T_api_Event x_3.Events)).length = (x_3.Events).length) (ac gg_7 (ac gg_7 (ac gg_8 (ac gg_8 (ac gg_8 (ac gg_9 (ac gg_9 (ac gg_9 (ac gg_10 (ac gg_10 (ac gg_10 (ac gg_11 (ac gg_11 (ac gg_11 (ac gg_12 (ac gg_12 (ac gg_12 (ac gg_13 (ac gg_13 (ac gg_13 (ac gg_14 (ac gg_14 (ac gg_14 (ac gg_14 (ac gg_15 (ac gg_15 (ac (idxL_lo h_25 : (0 : Int) ≤ (0 : Int)) (ac (by first | (simp; done) | simpa using idxL_hi h_25 : (0 : Int) < (((r_19.1).length : Nat) : Int)) (ac gg_15 (ac gg_15 (ac (vc_get h_25 : (Mp e_T_api_Packet r_19.1)[0]? = some (e_T_api_Packet x_4)) (ac gg_15 (ac gg_15 (ac gg_16 (ac gg_16 (ac gg_16 (ac gg_17 (ac gg_17 (ac gg_17 an))))))))))))))))))))))))))))))))))))))))))))))))))))))))))))))))))))))))))))))) ?_
                   cases h
                   exact ⟨rfl, (sw [] [] [.s 0] [] an)⟩
                 ·replace h := cond_f gg_16 h
                  refine rg [(5, Ht), (9, Ht), (13, Ht), (18, Ht), (23, { av := e_T_api_Packet x_1 }), (25, Ht), (30, { av := e_T_api_Packet x_2 }), (32, Ht), (37, { av := e_T_api_Packet x_3 }), (38, { n := (x_3.Events).length }), (40, Ht), (44, Ht), (48, Ht), (52, Ht), (56, Ht), (60, Ht), (64, Ht), (69, Ht), (74, { av := e_T_api_Packet x_4 }), (76, Ht), (78, Hg), (79, Hg), (80, Hf), (82, Hg), (83, Hg), (84, Hf)] [0] [] 11 [.bool false] [] hmix (ac gg_1 (ac gg_1 (ac gg_1 (ac gg_2 (ac gg_2 (ac gg_2 (ac gg_3 (ac gg_3 (ac gg_3 (ac gg_4 (ac gg_4 (ac gg_4 (ac gg_4 (ac gg_5 (ac gg_5 (ac (idxL_lo h_22 : (0 : Int) ≤ (0 : Int)) (ac (by first | (simp; done) | simpa using idxL_hi h_22 : (0 : Int) < (((r_9.1).length : Nat) : Int)) (ac gg_5 (ac gg_5 (ac (vc_get h_22 : (Mp e_T_api_Packet r_9.1)[0]? = some (e_T_api_Packet x_1)) (ac gg_5 (ac gg_5 (ac gg_6 (ac gg_6 (ac (idxL_lo h_23 : (0 : Int) ≤ (1 : Int)) (ac (by first | (simp; done) | simpa using idxL_hi h_23 : (1 : Int) < (((r_9.1).length : Nat) : Int)) (ac gg_6 (ac gg_6 (ac (vc_get h_23 : (Mp e_T_api_Packet r_9.1)[1]? = some (e_T_api_Packet x_2)) (ac gg_6 (ac gg_6 (ac gg_7 (ac gg_7 (ac (idxL_lo h_24 : (0 : Int) ≤ (1 : Int)) (ac (by first | (simp; done) | simpa using idxL_hi h_24 : (1 : Int) < (((r_9.1).length : Nat) : Int)) (ac gg_7 (ac gg_7 (ac (vc_get h_24 : (Mp e_T_api_Packet r_9.1)[1]? = some (e_T_api_Packet x_3)) (ac gg_7 (ac (vc_len _ : ((Mp e_T_api_Event x_3.Events)).length = (x_3.Events).length) (ac gg_7 (ac gg_7 (ac gg_8 (ac gg_8 (ac gg_8 (ac gg_9 (ac gg_9 (ac gg_9 (ac gg_10 (ac gg_10 (ac gg_10 (ac gg_11 (ac gg_11 (ac gg_11 (ac gg_12 (ac gg_12 (ac gg_12 (ac gg_13 (ac gg_13 (ac gg_13 (ac gg_14 (ac gg_14 (ac gg_14 (ac gg_14 (ac gg_15 (ac gg_15 (ac (idxL_lo h_25 : (0 : Int) ≤ (0 : Int)) (ac (by first | (simp; done) | simpa using idxL_hi h_25 : (0 : Int) < (((r_19.1).length : Nat) : Int)) (ac gg_15 (ac gg_15 (ac (vc_get h_25 : (Mp e_T_api_Packet r_19.1)[0]? = some (e_T_api_Packet x_4)) (ac gg_15 (ac gg_15 (ac gg_16 (ac gg_16 (ac gg_16 (ac (rfl : false = !true) (ac (rfl : false = !true) (ar false an))))))))))))))))))))))))))))))))))))))))))))))))))))))))))))))))))))))))))))))) ?_
                  cases h
                  exact ⟨rfl, (sw [] [] [.s 0] [] an)⟩
                ·replace h := cond_f gg_15 h
                 refine rg [(5, Ht), (9, Ht), (13, Ht), (18, Ht), (23, { av := e_T_api_Packet x_1 }), (25, Ht), (30, { av := e_T_api_Packet x_2 }), (32, Ht), (37, { av := e_T_api_Packet x_3 }), (38, { n := (x_3.Events).length }), (40, Ht), (44, Ht), (48, Ht), (52, Ht), (56, Ht), (60, Ht), (64, Ht), (69, Ht), (71, Hg), (72, Hg), (73, Hg), (74, Hg), (75, Hg), (76, Hf), (78, Hg), (79, Hg), (80, Hf), (82, Hg), (83, Hg), (84, Hf)] [0] [] 11 [.bool false] [] hmix (ac gg_1 (ac gg_1 (ac gg_1 (ac gg_2 (ac gg_2 (ac gg_2 (ac gg_3 (ac gg_3 (ac gg_3 (ac gg_4 (ac gg_4 (ac gg_4 (ac gg_4 (ac gg_5 (ac gg_5 (ac (idxL_lo h_22 : (0 : Int) ≤ (0 : Int)) (ac (by first | (simp; done) | simpa using idxL_hi h_22 : (0 : Int) < (((r_9.1).length : Nat) : Int)) (ac gg_5 (ac gg_5 (ac (vc_get h_22 : (Mp e_T_api_Packet r_9.1)[0]? = some (e_T_api_Packet x_1)) (ac gg_5 (ac gg_5 (ac gg_6 (ac gg_6 (ac (idxL_lo h_23 : (0 : Int) ≤ (1 : Int)) (ac (by first | (simp; done) | simpa using idxL_hi h_23 : (1 : Int) < (((r_9.1).length : Nat) : Int)) (ac gg_6 (ac gg_6 (ac (vc_get h_23 : (Mp e_T_api_Packet r_9.1)[1]? = some (e_T_api_Packet x_2)) (ac gg_6 (ac gg_6 (ac gg_7 (ac gg_7 (ac (idxL_lo h_24 : (0 : Int) ≤ (1 : Int)) (ac (by first | (simp; done) | simpa using idxL_hi h_24 : (1 : Int) < (((r_9.1).length : Nat) : Int)) (ac gg_7 (ac gg_7 (ac (vc_get h_24 : (Mp e_T_api_Packet r_9.1)[1]? = some (e_T_api_Packet x_3)) (ac gg_7 (ac (vc_len _ : ((Mp e_T_api_Event x_3.Events)).length = (x_3.Events).length) (ac gg_7 (ac gg_7 (ac gg_8 (ac gg_8 (ac gg_8 (ac gg_9 (ac gg_9 (ac gg_9 (ac gg_10 (ac gg_10 (ac gg_10 (ac gg_11 (ac gg_11 (ac gg_11 (ac gg_12 (ac gg_12 (ac gg_12 (ac gg_13 (ac gg_13 (ac gg_13 (ac gg_14 (ac gg_14 (ac gg_14 (ac gg_14 (ac gg_15 (ac gg_15 (ac gg_15 (ac gg_15 (ac gg_15 (ac gg_15 (ac (rfl : false = !true) (ac (rfl : false = !true) (ar false (ac (rfl : false = !true) (ac (rfl : false = !true) (ar false an)))))))))))))))))))))))))))))))))))))))))))))))))))))))))))))))))))))))))))) ?_
                 cases h
                 exact ⟨rfl, (sw [] [] [.s 0] [] an)⟩
               ·replace h := cond_f gg_14 h
                refine rg [(5, Ht), (9, Ht), (13, Ht), (18, Ht), (23, { av := e_T_api_Packet x_1 }), (25, Ht), (30, { av := e_T_api_Packet x_2 }), (32, Ht), (37, { av := e_T_api_Packet x_3 }), (38, { n := (x_3.Events).length }), (40, Ht), (44, Ht), (48, Ht), (52, Ht), (56, Ht), (60, Ht), (64, Ht), (66, Hg), (67, Hg), (68, Hg), (69, Hf), (71, Hg), (72, Hg), (73, Hg), (74, Hg), (75, Hg), (76, Hf), (78, Hg), (79, Hg), (80, Hf), (82, Hg), (83, Hg), (84, Hf)] [0] [] 11 [.bool false] [] hmix (ac gg_1 (ac gg_1 (ac gg_1 (ac gg_2 (ac gg_2 (ac gg_2 (ac gg_3 (ac gg_3 (ac gg_3 (ac gg_4 (ac gg_4 (ac gg_4 (ac gg_4 (ac gg_5 (ac gg_5 (ac (idxL_lo h_22 : (0 : Int) ≤ (0 : Int)) (ac (by first | (simp; done) | simpa using idxL_hi h_22 : (0 : Int) < (((r_9.1).length : Nat) : Int)) (ac gg_5 (ac gg_5 (ac (vc_get h_22 : (Mp e_T_api_Packet r_9.1)[0]? = some (e_T_api_Packet x_1)) (ac gg_5 (ac gg_5 (ac gg_6 (ac gg_6 (ac (idxL_lo h_23 : (0 : Int) ≤ (1 : Int)) (ac (by first | (simp; done) | simpa using idxL_hi h_23 : (1 : Int) < (((r_9.1).length : Nat) : Int)) (ac gg_6 (ac gg_6 (ac (vc_get h_23 : (Mp e_T_api_Packet r_9.1)[1]? = some (e_T_api_Packet x_2)) (ac gg_6 (ac gg_6 (ac gg_7 (ac gg_7 (ac (idxL_lo h_24 : (0 : Int) ≤ (1 : Int)) (ac (by first | (simp; done) | simpa using idxL_hi h_24 : (1 : Int) < (((r_9.1).length : Nat) : Int)) (ac gg_7 (ac gg_7 (ac (vc_get h_24 : (Mp e_T_api_Packet r_9.1)[1]? = some (e_T_api_Packet x_3)) (ac gg_7 (ac (vc_len _ : ((Mp e_T_api_Event x_3.Events)).length = (x_3.Events).length) (ac gg_7 (ac gg_7 (ac gg_8 (ac gg_8 (ac gg_8 (ac gg_9 (ac gg_9 (ac gg_9 (ac gg_10 (ac gg_10 (ac gg_10 (ac gg_11 (ac gg_11 (ac gg_11 (ac gg_12 (ac gg_12 (ac gg_12 (ac gg_13 (ac gg_13 (ac gg_13 (ac gg_14 (ac gg_14 (ac gg_14 (ac gg_14 (ac (rfl : false = !true) (ac (rfl : false = !true) (ac (rfl : false = !true) (ac (rfl : false = !true) (ac (rfl : false = !true) (ar false (ac (rfl : false = !true) (ac (rfl : false = !true) (ar false (ac (rfl : false = !true) (ac (rfl : false = !true) (ar false an)))))))))))))))))))))))))))))))))))))))))))))))))))))))))))))))))))))))))))) ?_
                cases h
                exact ⟨rfl, (sw [] [] [.s 0] [] an)⟩
              ·replace h := cond_f gg_13 h
               refine rg [(5, Ht), (9, Ht), (13, Ht), (18, Ht), (23, { av := e_T_api_Packet x_1 }), (25, Ht), (30, { av := e_T_api_Packet x_2 }), (32, Ht), (37, { av := e_T_api_Packet x_3 }), (38, { n := (x_3.Events).length }), (40, Ht), (44, Ht), (48, Ht), (52, Ht), (56, Ht), (60, Ht), (62, Hg), (63, Hg), (64, Hf), (66, Hg), (67, Hg), (68, Hg), (69, Hf), (71, Hg), (72, Hg), (73, Hg), (74, Hg), (75, Hg), (76, Hf), (78, Hg), (79, Hg), (80, Hf), (82, Hg), (83, Hg), (84, Hf)] [0] [] 11 [.bool false] [] hmix (ac gg_1 (ac gg_1 (ac gg_1 (ac gg_2 (ac gg_2 (ac gg_2 (ac gg_3 (ac gg_3 (ac gg_3 (ac gg_4 (ac gg_4 (ac gg_4 (ac gg_4 (ac gg_5 (ac gg_5 (ac (idxL_lo h_22 : (0 : Int) ≤ (0 : Int)) (ac (by first | (simp; done) | simpa using idxL_hi h_22 : (0 : Int) < (((r_9.1).length : Nat) : Int)) (ac gg_5 (ac gg_5 (ac (vc_get h_22 : (Mp e_T_api_Packet r_9.1)[0]? = some (e_T_api_Packet x_1)) (ac gg_5 (ac gg_5 (ac gg_6 (ac gg_6 (ac (idxL_lo h_23 : (0 : Int) ≤ (1 : Int)) (ac (by first | (simp; done) | simpa using idxL_hi h_23 : (1 : Int) < (((r_9.1).length : Nat) : Int)) (ac gg_6 (ac gg_6 (ac (vc_get h_23 : (Mp e_T_api_Packet r_9.1)[1]? = some (e_T_api_Packet x_2)) (ac gg_6 (ac gg_6 (ac gg_7 (ac gg_7 (ac (idxL_lo h_24 : (0 : Int) ≤ (1 : Int)) (ac (by first | (simp; done) | simpa using idxL_hi h_24 : (1 : Int) < (((r_9.1).length : Nat) : Int)) (ac gg_7 (ac gg_7 (ac (vc_get h_24 : (Mp e_T_api_Packet r_9.1)[1]? = some (e_T_api_Packet x_3)) (ac gg_7 (ac (vc_len _ : ((Mp e_T_api_Event x_3.Events)).length = (x_3.Events).length) (ac gg_7 (ac gg_7 (ac gg_8 (ac gg_8 (ac gg_8 (ac gg_9 (ac gg_9 (ac gg_9 (ac gg_10 (ac gg_10 (ac gg_10 (ac gg_11 (ac gg_11 (ac gg_11 (ac gg_12 (ac gg_12 (ac gg_12 (ac gg_13 (ac gg_13 (ac gg_13 (ac (rfl : false = !true) (ac (rfl : false = !true) (ac (rfl : false = !true) (ar false (ac (rfl : false = !true) (ac (rfl : false = !true) (ac (rfl : false = !true) (ac (rfl : false = !true) (ac (rfl : false = !true) (ar false (ac (rfl : false = !true) (ac (rfl : false = !true) (ar false (ac (rfl : false = !true) (ac (rfl : false = !true) (ar false an)))))))))))))))))))))))))))))))))))))))))))))))))))))))))))))))))))))))))))) ?_
               cases h
               exact ⟨rfl, (sw [] [] [.s 0] [] an)⟩
             ·replace h := cond_f gg_12 h
              refine rg [(5, Ht), (9, Ht), (13, Ht), (18, Ht), (23, { av := e_T_api_Packet x_1 }), (25, Ht), (30, { av := e_T_api_Packet x_2 }), (32, Ht), (37, { av := e_T_api_Packet x_3 }), (38, { n := (x_3.Events).length }), (40, Ht), (44, Ht), (48, Ht), (52, Ht), (56, Ht), (58, Hg), (59, Hg), (60, Hf), (62, Hg), (63, Hg), (64, Hf), (66, Hg), (67, Hg), (68, Hg), (69, Hf), (71, Hg), (72, Hg), (73, Hg), (74, Hg), (75, Hg), (76, Hf), (78, Hg), (79, Hg), (80, Hf), (82, Hg), (83, Hg), (84, Hf)] [0] [] 11 [.bool false] [] hmix (ac gg_1 (ac gg_1 (ac gg_1 (ac gg_2 (ac gg_2 (ac gg_2 (ac gg_3 (ac gg_3 (ac gg_3 (ac gg_4 (ac gg_4 (ac gg_4 (ac gg_4 (ac gg_5 (ac gg_5 (ac (idxL_lo h_22 : (0 : Int) ≤ (0 : Int)) (ac (by first | (simp; done) | simpa using idxL_hi h_22 : (0 : Int) < (((r_9.1).length : Nat) : Int)) (ac gg_5 (ac gg_5 (ac (vc_get h_22 : (Mp e_T_api_Packet r_9.1)[0]? = some (e_T_api_Packet x_1)) (ac gg_5 (ac gg_5 (ac gg_6 (ac gg_6 (ac (idxL_lo h_23 : (0 : Int) ≤ (1 : Int)) (ac (by first | (simp; done) | simpa using idxL_hi h_23 : (1 : Int) < (((r_9.1).length : Nat) : Int)) (ac gg_6 (ac gg_6 (ac (vc_get h_23 : (Mp e_T_api_Packet r_9.1)[1]? = some (e_T_api_Packet x_2)) (ac gg_6 (ac gg_6 (ac gg_7 (ac gg_7 (ac (idxL_lo h_24 : (0 : Int) ≤ (1 : Int)) (ac (by first | (simp; done) | simpa using idxL_hi h_24 : (1 : Int) < (((r_9.1).length : Nat) : Int)) (ac gg_7 (ac gg_7 (ac (vc_get h_24 : (Mp e_T_api_Packet r_9.1)[1]? = some (e_T_api_Packet x_3)) (ac gg_7 (ac (vc_len _ : ((Mp e_T_api_Event x_3.Events)).length = (x_3.Events).length) (ac gg_7 (ac gg_7 (ac gg_8 (ac gg_8 (ac gg_8 (ac gg_9 (ac gg_9 (ac gg_9 (ac gg_10 (ac gg_10 (ac gg_10 (ac gg_11 (ac gg_11 (ac gg_11 (ac gg_12 (ac gg_12 (ac gg_12 (ac (rfl : false = !true) (ac (rfl : false = !true) (ar false (ac (rfl : false = !true) (ac (rfl : false = !true) (ac (rfl : false = !true) (ar false (ac (rfl : false = !true) (ac (rfl : false = !true) (ac (rfl : false = !true) (ac (rfl : false = !true) (ac (rfl : false = !true) (ar false (ac (rfl : false = !true) (ac (rfl : false = !true) (ar false (ac (rfl : false = !true) (ac (rfl : false = !true) (ar false an)))))))))))))))))))))))))))))))))))))))))))))))))))))))))))))))))))))))))))) ?_
              cases h
              exact ⟨rfl, (sw [] [] [.s 0] [] an)⟩
            ·replace h := cond_f gg_11 h
             refine rg [(5, Ht), (9, Ht), (13, Ht), (18, Ht), (23, { av := e_T_api_Packet x_1 }), (25, Ht), (30, { av := e_T_api_Packet x_2 }), (32, Ht), (37, { av := e_T_api_Packet x_3 }), (38, { n := (x_3.Events).length }), (40, Ht), (44, Ht), (48, Ht), (52, Ht), (54, Hg), (55, Hg), (56, Hf), (58, Hg), (59, Hg), (60, Hf), (62, Hg), (63, Hg), (64, Hf), (66, Hg), (67, Hg), (68, Hg), (69, Hf), (71, Hg), (72, Hg), (73, Hg), (74, Hg), (75, Hg), (76, Hf), (78, Hg), (79, Hg), (80, Hf), (82, Hg), (83, Hg), (84, Hf)] [0] [] 11 [.bool false] [] hmix (ac gg_1 (ac gg_1 (ac gg_1 (ac gg_2 (ac gg_2 (ac gg_2 (ac gg_3 (ac gg_3 (ac gg_3 (ac gg_4 (ac gg_4 (ac gg_4 (ac gg_4 (ac gg_5 (ac gg_5 (ac (idxL_lo h_22 : (0 : Int) ≤ (0 : Int)) (ac (by first | (simp; done) | simpa using idxL_hi h_22 : (0 : Int) < (((r_9.1).length : Nat) : Int)) (ac gg_5 (ac gg_5 (ac (vc_get h_22 : (Mp e_T_api_Packet r_9.1)[0]? = some (e_T_api_Packet x_1)) (ac gg_5 (ac gg_5 (ac gg_6 (ac gg_6 (ac (idxL_lo h_23 : (0 : Int) ≤ (1 : Int)) (ac (by first | (simp; done) | simpa using idxL_hi h_23 : (1 : Int) < (((r_9.1).length : Nat) : Int)) (ac gg_6 (ac gg_6 (ac (vc_get h_23 : (Mp e_T_api_Packet r_9.1)[1]? = some (e_T_api_Packet x_2)) (ac gg_6 (ac gg_6 (ac gg_7 (ac gg_7 (ac (idxL_lo h_24 : (0 : Int) ≤ (1 : Int)) (ac (by first | (simp; done) | simpa using idxL_hi h_24 : (1 : Int) < (((r_9.1).length : Nat) : Int)) (ac gg_7 (ac gg_7 (ac (vc_get h_24 : (Mp e_T_api_Packet r_9.1)[1]? = some (e_T_api_Packet x_3)) (ac gg_7 (ac (vc_len _ : ((Mp e_T_api_Event x_3.Events)).length = (x_3.Events).length) (ac gg_7 (ac gg_7 (ac gg_8 (ac gg_8 (ac gg_8 (ac gg_9 (ac gg_9 (ac gg_9 (ac gg_10 (ac gg_10 (ac gg_10 (ac gg_11 (ac gg_11 (ac gg_11 (ac (rfl : false = !true) (ac (rfl : false = !true) (ar false (ac (rfl : false = !true) (ac (rfl : false = !true) (ar false (ac (rfl : false = !true) (ac (rfl : false = !true) (ac (rfl : false = !true) (ar false (ac (rfl : false = !true) (ac (rfl : false = !true) (ac (rfl : false = !true) (ac (rfl : false = !true) (ac (rfl : false = !true) (ar false (ac (rfl : false = !true) (ac (rfl : false = !true) (ar false (ac (rfl : false = !true) (ac (rfl : false = !true) (ar false an)))))))))))))))))))))))))))))))))))))))))))))))))))))))))))))))))))))))))))) ?_
             cases h
             exact ⟨rfl, (sw [] [] [.s 0] [] an)⟩
           ·replace h := cond_f gg_10 h
            refine rg [(5, Ht), (9, Ht), (13, Ht), (18, Ht), (23, { av := e_T_api_Packet x_1 }), (25, Ht), (30, { av := e_T_api_Packet x_2 }), (32, Ht), (37, { av := e_T_api_Packet x_3 }), (38, { n := (x_3.Events).length }), (40, Ht), (44, Ht), (48, Ht), (50, Hg), (51, Hg), (52, Hf), (54, Hg), (55, Hg), (56, Hf), (58, Hg), (59, Hg), (60, Hf), (62, Hg), (63, Hg), (64, Hf), (66, Hg), (67, Hg), (68, Hg), (69, Hf), (71, Hg), (72, Hg), (73, Hg), (74, Hg), (75, Hg), (76, Hf), (78, Hg), (79, Hg), (80, Hf), (82, Hg), (83, Hg), (84, Hf)] [0] [] 11 [.bool false] [] hmix (ac gg_1 (ac gg_1 (ac gg_1 (ac gg_2 (ac gg_2 (ac gg_2 (ac gg_3 (ac gg_3 (ac gg_3 (ac gg_4 (ac gg_4 (ac gg_4 (ac gg_4 (ac gg_5 (ac gg_5 (ac (idxL_lo h_22 : (0 : Int) ≤ (0 : Int)) (ac (by first | (simp; done) | simpa using idxL_hi h_22 : (0 : Int) < (((r_9.1).length : Nat) : Int)) (ac gg_5 (ac gg_5 (ac (vc_get h_22 : (Mp e_T_api_Packet r_9.1)[0]? = some (e_T_api_Packet x_1)) (ac gg_5 (ac gg_5 (ac gg_6 (ac gg_6 (ac (idxL_lo h_23 : (0 : Int) ≤ (1 : Int)) (ac (by first | (simp; done) | simpa using idxL_hi h_23 : (1 : Int) < (((r_9.1).length : Nat) : Int)) (ac gg_6 (ac gg_6 (ac (vc_get h_23 : (Mp e_T_api_Packet r_9.1)[1]? = some (e_T_api_Packet x_2)) (ac gg_6 (ac gg_6 (ac gg_7 (ac gg_7 (ac (idxL_lo h_24 : (0 : Int) ≤ (1 : Int)) (ac (by first | (simp; done) | simpa using idxL_hi h_24 : (1 : Int) < (((r_9.1).length : Nat) : Int)) (ac gg_7 (ac gg_7 (ac (vc_get h_24 : (Mp e_T_api_Packet r_9.1)[1]? = some (e_T_api_Packet x_3)) (ac gg_7 (ac (vc_len _ : ((Mp e_T_api_Event x_3.Events)).length = (x_3.Events).length) (ac gg_7 (ac gg_7 (ac gg_8 (ac gg_8 (ac gg_8 (ac gg_9 (ac gg_9 (ac gg_9 (ac gg_10 (ac gg_10 (ac gg_10 (ac (rfl : false = !true) (ac (rfl : false = !true) (ar false (ac (rfl : false = !true) (ac (rfl : false = !true) (ar false (ac (rfl : false = !true) (ac (rfl : false = !true) (ar false (ac (rfl : false = !true) (ac (rfl : false = !true) (ac (rfl : false = !true) (ar false (ac (rfl : false = !true) (ac (rfl : false = !true) (ac (rfl : false = !true) (ac (rfl : false = !true) (ac (rfl : false = !true) (ar false (ac (rfl : false = !true) (ac (rfl : false = !true) (ar false (ac (rfl : false = !true) (ac (rfl : false = !true) (ar false an)))))))))))))))))))))))))))))))))))))))))))))))))))))))))))))))))))))))))))) ?_
            cases h
            exact ⟨rfl, (sw [] [] [.s 0] [] an)⟩
          ·replace h := cond_f gg_9 h
           refine rg [(5, Ht), (9, Ht), (13, Ht), (18, Ht), (23, { av := e_T_api_Packet x_1 }), (25, Ht), (30, { av := e_T_api_Packet x_2 }), (32, Ht), (37, { av := e_T_api_Packet x_3 }), (38, { n := (x_3.Events).length }), (40, Ht), (44, Ht), (46, Hg), (47, Hg), (48, Hf), (50, Hg), (51, Hg), (52, Hf), (54, Hg), (55, Hg), (56, Hf), (58, Hg), (59, Hg), (60, Hf), (62, Hg), (63, Hg), (64, Hf), (66, Hg), (67, Hg), (68, Hg), (69, Hf), (71, Hg), (72, Hg), (73, Hg), (74, Hg), (75, Hg), (76, Hf), (78, Hg), (79, Hg), (80, Hf), (82, Hg), (83, Hg), (84, Hf)] [0] [] 11 [.bool false] [] hmix (ac gg_1 (ac gg_1 (ac gg_1 (ac gg_2 (ac gg_2 (ac gg_2 (ac gg_3 (ac gg_3 (ac gg_3 (ac gg_4 (ac gg_4 (ac gg_4 (ac gg_4 (ac gg_5 (ac gg_5 (ac (idxL_lo h_22 : (0 : Int) ≤ (0 : Int)) (ac (by first | (simp; done) | simpa using idxL_hi h_22 : (0 : Int) < (((r_9.1).length : Nat) : Int)) (ac gg_5 (ac gg_5 (ac (vc_get h_22 : (Mp e_T_api_Packet r_9.1)[0]? = some (e_T_api_Packet x_1)) (ac gg_5 (ac gg_5 (ac gg_6 (ac gg_6 (ac (idxL_lo h_23 : (0 : Int) ≤ (1 : Int)) (ac (by first | (simp; done) | simpa using idxL_hi h_23 : (1 : Int) < (((r_9.1).length : Nat) : Int)) (ac gg_6 (ac gg_6 (ac (vc_get h_23 : (Mp e_T_api_Packet r_9.1)[1]? = some (e_T_api_Packet x_2)) (ac gg_6 (ac gg_6 (ac gg_7 (ac gg_7 (ac (idxL_lo h_24 : (0 : Int) ≤ (1 : Int)) (ac (by first | (simp; done) | simpa using idxL_hi h_24 : (1 : Int) < (((r_9.1).length : Nat) : Int)) (ac gg_7 (ac gg_7 (ac (vc_get h_24 : (Mp e_T_api_Packet r_9.1)[1]? = some (e_T_api_Packet x_3)) (ac gg_7 (ac (vc_len _ : ((Mp e_T_api_Event x_3.Events)).length = (x_3.Events).length) (ac gg_7 (ac gg_7 (ac gg_8 (ac gg_8 (ac gg_8 (ac gg_9 (ac gg_9 (ac gg_9 (ac (rfl : false = !true) (ac (rfl : false = !true) (ar false (ac (rfl : false = !true) (ac (rfl : false = !true) (ar false (ac (rfl : false = !true) (ac (rfl : false = !true) (ar false (ac (rfl : false = !true) (ac (rfl : false = !true) (ar false (ac (rfl : false = !true) (ac (rfl : false = !true) (ac (rfl : false = !true) (ar false (ac (rfl : false = !true) (ac (rfl : false = !true) (ac (rfl : false = !true) (ac (rfl : false = !true) (ac (rfl : false = !true) (ar false (ac (rfl : false = !true) (ac (rfl : false = !true) (ar false (ac (rfl : false = !true) (ac (rfl : false = !true) (ar false an)))))))))))))))))))))))))))))))))))))))))))))))))))))))))))))))))))))))))))) ?_
           cases h
           exact ⟨rfl, (sw [] [] [.s 0] [] an)⟩
         ·replace h := cond_f gg_8 h
          refine rg [(5, Ht), (9, Ht), (13, Ht), (18, Ht), (23, { av := e_T_api_Packet x_1 }), (25, Ht), (30, { av := e_T_api_Packet x_2 }), (32, Ht), (37, { av := e_T_api_Packet x_3 }), (38, { n := (x_3.Events).length }), (40, Ht), (42, Hg), (43, Hg), (44, Hf), (46, Hg), (47, Hg), (48, Hf), (50, Hg), (51, Hg), (52, Hf), (54, Hg), (55, Hg), (56, Hf), (58, Hg), (59, Hg), (60, Hf), (62, Hg), (63, Hg), (64, Hf), (66, Hg), (67, Hg), (68, Hg), (69, Hf), (71, Hg), (72, Hg), (73, Hg), (74, Hg), (75, Hg), (76, Hf), (78, Hg), (79, Hg), (80, Hf), (82, Hg), (83, Hg), (84, Hf)] [0] [] 11 [.bool false] [] hmix (ac gg_1 (ac gg_1 (ac gg_1 (ac gg_2 (ac gg_2 (ac gg_2 (ac gg_3 (ac gg_3 (ac gg_3 (ac gg_4 (ac gg_4 (ac gg_4 (ac gg_4 (ac gg_5 (ac gg_5 (ac (idxL_lo h_22 : (0 : Int) ≤ (0 : Int)) (ac (by first | (simp; done) | simpa using idxL_hi h_22 : (0 : Int) < (((r_9.1).length : Nat) : Int)) (ac gg_5 (ac gg_5 (ac (vc_get h_22 : (Mp e_T_api_Packet r_9.1)[0]? = some (e_T_api_Packet x_1)) (ac gg_5 (ac gg_5 (ac gg_6 (ac gg_6 (ac (idxL_lo h_23 : (0 : Int) ≤ (1 : Int)) (ac (by first | (simp; done) | simpa using idxL_hi h_23 : (1 : Int) < (((r_9.1).length : Nat) : Int)) (ac gg_6 (ac gg_6 (ac (vc_get h_23 : (Mp e_T_api_Packet r_9.1)[1]? = some (e_T_api_Packet x_2)) (ac gg_6 (ac gg_6 (ac gg_7 (ac gg_7 (ac (idxL_lo h_24 : (0 : Int) ≤ (1 : Int)) (ac (by first | (simp; done) | simpa using idxL_hi h_24 : (1 : Int) < (((r_9.1).length : Nat) : Int)) (ac gg_7 (ac gg_7 (ac (vc_get h_24 : (Mp e_T_api_Packet r_9.1)[1]? = some (e_T_api_Packet x_3)) (ac gg_7 (ac (vc_len _ : ((Mp e_T_api_Event x_3.Events)).length = (x_3.Events).length) (ac gg_7 (ac gg_7 (ac gg_8 (ac gg_8 (ac gg_8 (ac (rfl : false = !true) (ac (rfl : false = !true) (ar false (ac (rfl : false = !true) (ac (rfl : false = !true) (ar false (ac (rfl : false = !true) (ac (rfl : false = !true) (ar false (ac (rfl : false = !true) (ac (rfl : false = !true) (ar false (ac (rfl : false = !true) (ac (rfl : false = !true) (ar false (ac (rfl : false = !true) (ac (rfl : false = !true) (ac (rfl : false = !true) (ar false (ac (rfl : false = !true) (ac (rfl : false = !true) (ac (rfl : false = !true) (ac (rfl : false = !true) (ac (rfl : false = !true) (ar false (ac (rfl : false = !true) (ac (rfl : false = !true) (ar false (ac (rfl : false = !true) (ac (rfl : false = !true) (ar false an)))))))))))))))))))))))))))))))))))))))))))))))))))))))))))))))))))))))))))) ?_
          cases h
          exact ⟨rfl, (sw [] [] [.s 0] [] an)⟩
        ·replace h := cond_f gg_7 h
         refine rg [(5, Ht), (9, Ht), (13, Ht), (18, Ht), (23, { av := e_T_api_Packet x_1 }), (25, Ht), (30, { av := e_T_api_Packet x_2 }), (32, Ht), (34, Hg), (35, Hg), (36, Hg), (37, Hg), (38, Hg), (39, Hg), (40, Hf), (42, Hg), (43, Hg), (44, Hf), (46, Hg), (47, Hg), (48, Hf), (50, Hg), (51, Hg), (52, Hf), (54, Hg), (55, Hg), (56, Hf), (58, Hg), (59, Hg), (60, Hf), (62, Hg), (63, Hg), (64, Hf), (66, Hg), (67, Hg), (68, Hg), (69, Hf), (71, Hg), (72, Hg), (73, Hg), (74, Hg), (75, Hg), (76, Hf), (78, Hg), (79, Hg), (80, Hf), (82, Hg), (83, Hg), (84, Hf)] [0] [] 11 [.bool false] [] hmix (ac gg_1 (ac gg_1 (ac gg_1 (ac gg_2 (ac gg_2 (ac gg_2 (ac gg_3 (ac gg_3 (ac gg_3 (ac gg_4 (ac gg_4 (ac gg_4 (ac gg_4 (ac gg_5 (ac gg_5 (ac (idxL_lo h_22 : (0 : Int) ≤ (0 : Int)) (ac (by first | (simp; done) | simpa using idxL_hi h_22 : (0 : Int) < (((r_9.1).length : Nat) : Int)) (ac gg_5 (ac gg_5 (ac (vc_get h_22 : (Mp e_T_api_Packet r_9.1)[0]? = some (e_T_api_Packet x_1)) (ac gg_5 (ac gg_5 (ac gg_6 (ac gg_6 (ac (idxL_lo h_23 : (0 : Int) ≤ (1 : Int)) (ac (by first | (simp; done) | simpa using idxL_hi h_23 : (1 : Int) < (((r_9.1).length : Nat) : Int)) (ac gg_6 (ac gg_6 (ac (vc_get h_23 : (Mp e_T_api_Packet r_9.1)[1]? = some (e_T_api_Packet x_2)) (ac gg_6 (ac gg_6 (ac gg_7 (ac gg_7 (ac gg_7 (ac gg_7 (ac gg_7 (ac gg_7 (ac gg_7 (ac (rfl : false = !true) (ac (rfl : false = !true) (ar false (ac (rfl : false = !true) (ac (rfl : false = !true) (ar false (ac (rfl : false = !true) (ac (rfl : false = !true) (ar false (ac (rfl : false = !true) (ac (rfl : false = !true) (ar false (ac (rfl : false = !true) (ac (rfl : false = !true) (ar false (ac (rfl : false = !true) (ac (rfl : false = !true) (ar false (ac (rfl : false = !true) (ac (rfl : false = !true) (ac (rfl : false = !true) (ar false (ac (rfl : false = !true) (ac (rfl : false = !true) (ac (rfl : false = !true) (ac (rfl : false = !true) (ac (rfl : false = !true) (ar false (ac (rfl : false = !true) (ac (rfl : false = !true) (ar false (ac (rfl : false = !true) (ac (rfl : false = !true) (ar false an)))))))))))))))))))))))))))))))))))))))))))))))))))))))))))))))))))))))) ?_
         cases h
         exact ⟨rfl, (sw [] [] [.s 0] [] an)⟩
       ·replace h := cond_f gg_6 h
        refine rg [(5, Ht), (9, Ht), (13, Ht), (18, Ht), (23, { av := e_T_api_Packet x_1 }), (25, Ht), (27, Hg), (28, Hg), (29, Hg), (30, Hg), (31, Hg), (32, Hf), (34, Hg), (35, Hg), (36, Hg), (37, Hg), (38, Hg), (39, Hg), (40, Hf), (42, Hg), (43, Hg), (44, Hf), (46, Hg), (47, Hg), (48, Hf), (50, Hg), (51, Hg), (52, Hf), (54, Hg), (55, Hg), (56, Hf), (58, Hg), (59, Hg), (60, Hf), (62, Hg), (63, Hg), (64, Hf), (66, Hg), (67, Hg), (68, Hg), (69, Hf), (71, Hg), (72, Hg), (73, Hg), (74, Hg), (75, Hg), (76, Hf), (78, Hg), (79, Hg), (80, Hf), (82, Hg), (83, Hg), (84, Hf)] [0] [] 11 [.bool false] [] hmix (ac gg_1 (ac gg_1 (ac gg_1 (ac gg_2 (ac gg_2 (ac gg_2 (ac gg_3 (ac gg_3 (ac gg_3 (ac gg_4 (ac gg_4 (ac gg_4 (ac gg_4 (ac gg_5 (ac gg_5 (ac (idxL_lo h_22 : (0 : Int) ≤ (0 : Int)) (ac (by first | (simp; done) | simpa using idxL_hi h_22 : (0 : Int) < (((r_9.1).length : Nat) : Int)) (ac gg_5 (ac gg_5 (ac (vc_get h_22 : (Mp e_T_api_Packet r_9.1)[0]? = some (e_T_api_Packet x_1)) (ac gg_5 (ac gg_5 (ac gg_6 (ac gg_6 (ac gg_6 (ac gg_6 (ac gg_6 (ac gg_6 (ac (rfl : false = !true) (ac (rfl : false = !true) (ac (rfl : false = !true) (ac (rfl : false = !true) (ac (rfl : false = !true) (ac (rfl : false = !true) (ar false (ac (rfl : false = !true) (ac (rfl : false = !true) (ar false (ac (rfl : false = !true) (ac (rfl : false = !true) (ar false (ac (rfl : false = !true) (ac (rfl : false = !true) (ar false (ac (rfl : false = !true) (ac (rfl : false = !true) (ar false (ac (rfl : false = !true) (ac (rfl : false = !true) (ar false (ac (rfl : false = !true) (ac (rfl : false = !true) (ar false (ac (rfl : false = !true) (ac (rfl : false = !true) (ac (rfl : false = !true) (ar false (ac (rfl : false = !true) (ac (rfl : false = !true) (ac (rfl : false = !true) (ac (rfl : false = !true) (ac (rfl : false = !true) (ar false (ac (rfl : false = !true) (ac (rfl : false = !true) (ar false (ac (rfl : false = !true) (ac (rfl : false = !true) (ar false an))))))))))))))))))))))))))))))))))))))))))))))))))))))))))))))))))))) ?_
        cases h
        exact ⟨rfl, (sw [] [] [.s 0] [] an)⟩
      ·replace h := cond_f gg_5 h
       refine rg [(5, Ht), (9, Ht), (13, Ht), (18, Ht), (20, Hg), (21, Hg), (22, Hg), (23, Hg), (24, Hg), (25, Hf), (27, Hg), (28, Hg), (29, Hg), (30, Hg), (31, Hg), (32, Hf), (34, Hg), (35, Hg), (36, Hg), (37, Hg), (38, Hg), (39, Hg), (40, Hf), (42, Hg), (43, Hg), (44, Hf), (46, Hg), (47, Hg), (48, Hf), (50, Hg), (51, Hg), (52, Hf), (54, Hg), (55, Hg), (56, Hf), (58, Hg), (59, Hg), (60, Hf), (62, Hg), (63, Hg), (64, Hf), (66, Hg), (67, Hg), (68, Hg), (69, Hf), (71, Hg), (72, Hg), (73, Hg), (74, Hg), (75, Hg), (76, Hf), (78, Hg), (79, Hg), (80, Hf), (82, Hg), (83, Hg), (84, Hf)] [0] [] 11 [.bool false] [] hmix (ac gg_1 (ac gg_1 (ac gg_1 (ac gg_2 (ac gg_2 (ac gg_2 (ac gg_3 (ac gg_3 (ac gg_3 (ac gg_4 (ac gg_4 (ac gg_4 (ac gg_4 (ac gg_5 (ac gg_5 (ac gg_5 (ac gg_5 (ac gg_5 (ac gg_5 (ac (rfl : false = !true) (ac (rfl : false = !true) (ac (rfl : false = !true) (ac (rfl : false = !true) (ac (rfl : false = !true) (ar false (ac (rfl : false = !true) (ac (rfl : false = !true) (ac (rfl : false = !true) (ac (rfl : false = !true) (ac (rfl : false = !true) (ac (rfl : false = !true) (ar false (ac (rfl : false = !true) (ac (rfl : false = !true) (ar false (ac (rfl : false = !true) (ac (rfl : false = !true) (ar false (ac (rfl : false = !true) (ac (rfl : false = !true) (ar false (ac (rfl : false = !true) (ac (rfl : false = !true) (ar false (ac (rfl : false = !true) (ac (rfl : false = !true) (ar false (ac (rfl : false = !true) (ac (rfl : false = !true) (ar false (ac (rfl : false = !true) (ac (rfl : false = !true) (ac (rfl : false = !true) (ar false (ac (rfl : false = !true) (ac (rfl : false = !true) (ac (rfl : false = !true) (ac (rfl : false = !true) (ac (rfl : false = !true) (ar false (ac (rfl : false = !true) (ac (rfl : false = !true) (ar false (ac (rfl : false = !true) (ac (rfl : false = !true) (ar false an)))))))))))))))))))))))))))))))))))))))))))))))))))))))))))))))))) ?_
       cases h
       exact ⟨rfl, (sw [] [] [.s 0] [] an)⟩
     ·replace h := cond_f gg_4 h
      refine rg [(5, Ht), (9, Ht), (13, Ht), (15, Hg), (16, Hg), (17, Hg), (18, Hf), (20, Hg), (21, Hg), (22, Hg), (23, Hg), (24, Hg), (25, Hf), (27, Hg), (28, Hg), (29, Hg), (30, Hg), (31, Hg), (32, Hf), (34, Hg), (35, Hg), (36, Hg), (37, Hg), (38, Hg), (39, Hg), (40, Hf), (42, Hg), (43, Hg), (44, Hf), (46, Hg), (47, Hg), (48, Hf), (50, Hg), (51, Hg), (52, Hf), (54, Hg), (55, Hg), (56, Hf), (58, Hg), (59, Hg), (60, Hf), (62, Hg), (63, Hg), (64, Hf), (66, Hg), (67, Hg), (68, Hg), (69, Hf), (71, Hg), (72, Hg), (73, Hg), (74, Hg), (75, Hg), (76, Hf), (78, Hg), (79, Hg), (80, Hf), (82, Hg), (83, Hg), (84, Hf)] [0] [] 11 [.bool false] [] hmix (ac gg_1 (ac gg_1 (ac gg_1 (ac gg_2 (ac gg_2 (ac gg_2 (ac gg_3 (ac gg_3 (ac gg_3 (ac gg_4 (ac gg_4 (ac gg_4 (ac gg_4 (ac (rfl : false = !true) (ac (rfl : false = !true) (ac (rfl : false = !true) (ac (rfl : false = !true) (ac (rfl : false = !true) (ar false (ac (rfl : false = !true) (ac (rfl : false = !true) (ac (rfl : false = !true) (ac (rfl : false = !true) (ac (rfl : false = !true) (ar false (ac (rfl : false = !true) (ac (rfl : false = !true) (ac (rfl : false = !true) (ac (rfl : false = !true) (ac (rfl : false = !true) (ac (rfl : false = !true) (ar false (ac (rfl : false = !true) (ac (rfl : false = !true) (ar false (ac (rfl : false = !true) (ac (rfl : false = !true) (ar false (ac (rfl : false = !true) (ac (rfl : false = !true) (ar false (ac (rfl : false = !true) (ac (rfl : false = !true) (ar false (ac (rfl : false = !true) (ac (rfl : false = !true) (ar false (ac (rfl : false = !true) (ac (rfl : false = !true) (ar false (ac (rfl : false = !true) (ac (rfl : false = !true) (ac (rfl : false = !true) (ar false (ac (rfl : false = !true) (ac (rfl : false = !true) (ac (rfl : false = !true) (ac (rfl : false = !true) (ac (rfl : false = !true) (ar false (ac (rfl : false = !true) (ac (rfl : false = !true) (ar false (ac (rfl : false = !true) (ac (rfl : false = !true) (ar false an)))))))))))))))))))))))))))))))))))))))))))))))))))))))))))))))))) ?_
      cases h
      exact ⟨rfl, (sw [] [] [.s 0] [] an)⟩
    ·replace h := cond_f gg_3 h
     refine rg [(5, Ht), (9, Ht), (11, Hg), (12, Hg), (13, Hf), (15, Hg), (16, Hg), (17, Hg), (18, Hf), (20, Hg), (21, Hg), (22, Hg), (23, Hg), (24, Hg), (25, Hf), (27, Hg), (28, Hg), (29, Hg), (30, Hg), (31, Hg), (32, Hf), (34, Hg), (35, Hg), (36, Hg), (37, Hg), (38, Hg), (39, Hg), (40, Hf), (42, Hg), (43, Hg), (44, Hf), (46, Hg), (47, Hg), (48, Hf), (50, Hg), (51, Hg), (52, Hf), (54, Hg), (55, Hg), (56, Hf), (58, Hg), (59, Hg), (60, Hf), (62, Hg), (63, Hg), (64, Hf), (66, Hg), (67, Hg), (68, Hg), (69, Hf), (71, Hg), (72, Hg), (73, Hg), (74, Hg), (75, Hg), (76, Hf), (78, Hg), (79, Hg), (80, Hf), (82, Hg), (83, Hg), (84, Hf)] [0] [] 11 [.bool false] [] hmix (ac gg_1 (ac gg_1 (ac gg_1 (ac gg_2 (ac gg_2 (ac gg_2 (ac gg_3 (ac gg_3 (ac gg_3 (ac (rfl : false = !true) (ac (rfl : false = !true) (ac (rfl : false = !true) (ar false (ac (rfl : false = !true) (ac (rfl : false = !true) (ac (rfl : false = !true) (ac (rfl : false = !true) (ac (rfl : false = !true) (ar false (ac (rfl : false = !true) (ac (rfl : false = !true) (ac (rfl : false = !true) (ac (rfl : false = !true) (ac (rfl : false = !true) (ar false (ac (rfl : false = !true) (ac (rfl : false = !true) (ac (rfl : false = !true) (ac (rfl : false = !true) (ac (rfl : false = !true) (ac (rfl : false = !true) (ar false (ac (rfl : false = !true) (ac (rfl : false = !true) (ar false (ac (rfl : false = !true) (ac (rfl : false = !true) (ar false (ac (rfl : false = !true) (ac (rfl : false = !true) (ar false (ac (rfl : false = !true) (ac (rfl : false = !true) (ar false (ac (rfl : false = !true) (ac (rfl : false = !true) (ar false (ac (rfl : false = !true) (ac (rfl : false = !true) (ar false (ac (rfl : false = !true) (ac (rfl : false = !true) (ac (rfl : false = !true) (ar false (ac (rfl : false = !true) (ac (rfl : false = !true) (ac (rfl : false = !true) (ac (rfl : false = !true) (ac (rfl : false = !true) (ar false (ac (rfl : false = !true) (ac (rfl : false = !true) (ar false (ac (rfl : false = !true) (ac (rfl : false = !true) (ar false an)))))))))))))))))))))))))))))))))))))))))))))))))))))))))))))))))) ?_
     cases h
     exact ⟨rfl, (sw [] [] [.s 0] [] an)⟩
   ·replace h := cond_f gg_2 h
    refine rg [(5, Ht), (7, Hg), (8, Hg), (9, Hf), (11, Hg), (12, Hg), (13, Hf), (15, Hg), (16, Hg), (17, Hg), (18, Hf), (20, Hg), (21, Hg), (22, Hg), (23, Hg), (24, Hg), (25, Hf), (27, Hg), (28, Hg), (29, Hg), (30, Hg), (31, Hg), (32, Hf), (34, Hg), (35, Hg), (36, Hg), (37, Hg), (38, Hg), (39, Hg), (40, Hf), (42, Hg), (43, Hg), (44, Hf), (46, Hg), (47, Hg), (48, Hf), (50, Hg), (51, Hg), (52, Hf), (54, Hg), (55, Hg), (56, Hf), (58, Hg), (59, Hg), (60, Hf), (62, Hg), (63, Hg), (64, Hf), (66, Hg), (67, Hg), (68, Hg), (69, Hf), (71, Hg), (72, Hg), (73, Hg), (74, Hg), (75, Hg), (76, Hf), (78, Hg), (79, Hg), (80, Hf), (82, Hg), (83, Hg), (84, Hf)] [0] [] 11 [.bool false] [] hmix (ac gg_1 (ac gg_1 (ac gg_1 (ac gg_2 (ac gg_2 (ac gg_2 (ac (rfl : false = !true) (ac (rfl : false = !true) (ar false (ac (rfl : false = !true) (ac (rfl : false = !true) (ac (rfl : false = !true) (ar false (ac (rfl : false = !true) (ac (rfl : false = !true) (ac (rfl : false = !true) (ac (rfl : false = !true) (ac (rfl : false = !true) (ar false (ac (rfl : false = !true) (ac (rfl : false = !true) (ac (rfl : false = !true) (ac (rfl : false = !true) (ac (rfl : false = !true) (ar false (ac (rfl : false = !true) (ac (rfl : false = !true) (ac (rfl : false = !true) (ac (rfl : false = !true) (ac (rfl : false = !true) (ac (rfl : false = !true) (ar false (ac (rfl : false = !true) (ac (rfl : false = !true) (ar false (ac (rfl : false = !true) (ac (rfl : false = !true) (ar false (ac (rfl : false = !true) (ac (rfl : false = !true) (ar false (ac (rfl : false = !true) (ac (rfl : false = !true) (ar false (ac (rfl : false = !true) (ac (rfl : false = !true) (ar false (ac (rfl : false = !true) (ac (rfl : false = !true) (ar false (ac (rfl : false = !true) (ac (rfl : false = !true) (ac (rfl : false = !true) (ar false (ac (rfl : false = !true) (ac (rfl : false = !true) (ac (rfl : false = !true) (ac (rfl : false = !true) (ac (rfl : false = !true) (ar false (ac (rfl : false = !true) (ac (rfl : false = !true) (ar false (ac (rfl : false = !true) (ac (rfl : false = !true) (ar false an)))))))))))))))))))))))))))))))))))))))))))))))))))))))))))))))))) ?_
    cases h
    exact ⟨rfl, (sw [] [] [.s 0] [] an)⟩
  ·replace h := cond_f gg_1 h
   refine rg [(3, Hg), (4, Hg), (5, Hf), (7, Hg), (8, Hg), (9, Hf), (11, Hg), (12, Hg), (13, Hf), (15, Hg), (16, Hg), (17, Hg), (18, Hf), (20, Hg), (21, Hg), (22, Hg), (23, Hg), (24, Hg), (25, Hf), (27, Hg), (28, Hg), (29, Hg), (30, Hg), (31, Hg), (32, Hf), (34, Hg), (35, Hg), (36, Hg), (37, Hg), (38, Hg), (39, Hg), (40, Hf), (42, Hg), (43, Hg), (44, Hf), (46, Hg), (47, Hg), (48, Hf), (50, Hg), (51, Hg), (52, Hf), (54, Hg), (55, Hg), (56, Hf), (58, Hg), (59, Hg), (60, Hf), (62, Hg), (63, Hg), (64, Hf), (66, Hg), (67, Hg), (68, Hg), (69, Hf), (71, Hg), (72, Hg), (73, Hg), (74, Hg), (75, Hg), (76, Hf), (78, Hg), (79, Hg), (80, Hf), (82, Hg), (83, Hg), (84, Hf)] [0] [] 11 [.bool false] [] hmix (ac gg_1 (ac gg_1 (ac gg_1 (ac (rfl : false = !true) (ac (rfl : false = !true) (ar false (ac (rfl : false = !true) (ac (rfl : false = !true) (ar false (ac (rfl : false = !true) (ac (rfl : false = !true) (ac (rfl : false = !true) (ar false (ac (rfl : false = !true) (ac (rfl : false = !true) (ac (rfl : false = !true) (ac (rfl : false = !true) (ac (rfl : false = !true) (ar false (ac (rfl : false = !true) (ac (rfl : false = !true) (ac (rfl : false = !true) (ac (rfl : false = !true) (ac (rfl : false = !true) (ar false (ac (rfl : false = !true) (ac (rfl : false = !true) (ac (rfl : false = !true) (ac (rfl : false = !true) (ac (rfl : false = !true) (ac (rfl : false = !true) (ar false (ac (rfl : false = !true) (ac (rfl : false = !true) (ar false (ac (rfl : false = !true) (ac (rfl : false = !true) (ar false (ac (rfl : false = !true) (ac (rfl : false = !true) (ar false (ac (rfl : false = !true) (ac (rfl : false = !true) (ar false (ac (rfl : false = !true) (ac (rfl : false = !true) (ar false (ac (rfl : false = !true) (ac (rfl : false = !true) (ar false (ac (rfl : false = !true) (ac (rfl : false = !true) (ac (rfl : false = !true) (ar false (ac (rfl : false = !true) (ac (rfl : false = !true) (ac (rfl : false = !true) (ac (rfl : false = !true) (ac (rfl : false = !true) (ar false (ac (rfl : false = !true) (ac (rfl : false = !true) (ar false (ac (rfl : false = !true) (ac (rfl : false = !true) (ar false an)))))))))))))))))))))))))))))))))))))))))))))))))))))))))))))))))) ?_
   cases h
   exact ⟨rfl, (sw [] [] [.s 0] [] an)⟩
 refine rt ?_
 cases h
 exact ⟨.inr rfl, Nat.le_of_ble_eq_true rfl, by kernel_rfl⟩

theorem R07_Texts_ok (F : Nat) (a_1 : List (List Int)) (b_1 : List (List Int)) (r : Bool) (h : R07_Texts F a_1 b_1 = some r) : TripleG prog 69 [] [] [.sl false 1 (Ms a_1), .sl false 1 (Ms b_1)] [] (.bool r) := by
 refine triple_intro (fn := Go.Proofs.Try.f69) (code := codeOf Go.Proofs.Try.f69) (by kernel_rfl) (by kernel_rfl) (Nat.le_of_ble_eq_true (by kernel_rfl)) ?_
 unfold R07_Texts at h
 refine sr [] [0, 1] [] 0 [.sl false 1 (Ms a_1), .sl false 1 (Ms b_1)] [] hmix an ?_
 refine sq ?_
 refine sr [(1, { n := (a_1).length }), (3, { n := (b_1).length })] [0, 1, 10] [] 0 [.sl false 1 (Ms a_1), .sl false 1 (Ms b_1), .bool ((lN (a_1)) != (lN (b_1)))] [] hmix (ac (vc_len _ : ((Ms a_1)).length = (a_1).length) (ac (vc_len _ : ((Ms b_1)).length = (b_1).length) an)) ?_
 refine cd 10 ((lN (a_1)) != (lN (b_1))) ?_ ?_
 ·intro g_1; replace h := cond_t g_1 h
  refine sr [] [4] [] 0 [.bool false] [] hmix an ?_
  refine rt ?_
  cases h
  exact ⟨.inr rfl, Nat.le_of_ble_eq_true rfl, by kernel_rfl⟩
 intro g_1; replace h := cond_f g_1 h
 refine sk ?_
 refine sq ?_
 refine sr [] [0, 1, 5] [] 0 [.sl false 1 (Ms a_1), .sl false 1 (Ms b_1), Ii 0] [] hmix an ?_
 obtain ⟨o_1, h_1, h⟩ := bind_some h
 refine aw_conv (K1 := (fun e st' => match o_1 with | (.inl q0) => e = .normal ∧ Sub 0 st' (mk [] [] 0) | (.inr q1) => e = .ret ∧ FinR prog Go.Proofs.Try.f69 0 [] (.bool q1) st')) ?_ ?_
 ·replace h := h_1
  refine aw_block (id := 0) (by kernel_rfl) ?_
  refine wk [] [] [.s 0, .s 1, .s 5] [] [(0, .sl false 1 (Ms a_1)), (1, .sl false 1 (Ms b_1)), (5, Ii 0)] [] an ?_
  refine aw_loopF (fun n st => ∃ (i_1 : Int), st = mk [(0, .sl false 1 (Ms a_1)), (1, .sl false 1 (Ms b_1)), (5, Ii i_1)] [] 0 ∧ R07_Texts_L1 F a_1 b_1 n i_1 = some o_1) F (by kernel_rfl) ⟨_, rfl, h⟩ ?_ ?_
  ·rintro _ ⟨_, _, h⟩; exact none_ne (h : (none : Option (Unit ⊕ Bool)) = some o_1)
  rintro n_1 _ ⟨i_1, rfl, h⟩
  replace h : R07_Texts_L1_body F a_1 b_1 (R07_Texts_L1 F a_1 b_1 n_1) i_1 = some o_1 := h
  unfold R07_Texts_L1_body at h
  refine sq ?_
  refine sr [(2, { n := (a_1).length })] [0, 1, 5, 14] [] 0 [.sl false 1 (Ms a_1), .sl false 1 (Ms b_1), Ii i_1, .bool (decide (i_1 < (lN (a_1))))] [] hmix (ac (vc_len _ : ((Ms a_1)).length = (a_1).length) an) ?_
  refine cd 14 (decide (i_1 < (lN (a_1)))) ?_ ?_
  rotate_left
  ·intro g_2; replace h := cond_f g_2 h
   refine aw_exit (id := 0) (by kernel_rfl) ?_
   cases h
   exact ⟨rfl, (sw [] [] [] [] an)⟩
  intro g_2; replace h := cond_t g_2 h
  refine sk ?_
  refine sq ?_
  refine aw_block (id := 1) (by kernel_rfl) ?_
  refine sq ?_
  obtain ⟨x_1, h_2, h⟩ := bind_some h
  obtain ⟨x_2, h_3, h⟩ := bind_some h
  refine rg [(2, { av := .str x_1 }), (6, { av := .str x_2 })] [0, 1, 5, 25] [] 0 [.sl false 1 (Ms a_1), .sl false 1 (Ms b_1), Ii i_1, .bool (!(x_1 == x_2))] [] hmix (ac (vc_idx h_2 : idxA (Ms a_1) i_1 = some (.str x_1)) (ac (vc_idx h_3 : idxA (Ms b_1) i_1 = some (.str x_2)) an)) ?_
  refine cd 25 (!(x_1 == x_2)) ?_ ?_
  rotate_left
  ·intro g_3; replace h := cond_f g_3 h
   refine sk ?_
   refine rg [] [0, 1, 5] [] 0 [.sl false 1 (Ms a_1), .sl false 1 (Ms b_1), Ii (w_i64 (i_1 + (1 : Int)))] [] hmix an ?_
   exact ⟨_, (sw [] [] [.s 0, .s 1, .s 5] [] an), _, rfl, h⟩
  intro g_3; replace h := cond_t g_3 h
  refine sr [] [4] [] 0 [.bool false] [] hmix an ?_
  refine rt ?_
  cases h
  exact ⟨rfl, Nat.le_of_ble_eq_true rfl, by kernel_rfl⟩
 intro e st1 hk
 rcases o_1 with q_1 | q_2
 rotate_left
 ·obtain ⟨rfl, hf⟩ := hk
  cases h
  exact ⟨st1, Sub.refl _ _, .inr rfl, hf⟩
 obtain ⟨rfl, hs⟩ := hk
 refine ⟨_, hs, ?_⟩
 refine sr [] [4] [] 0 [.bool true] [] hmix an ?_
 refine rt ?_
 cases h
 exact ⟨.inr rfl, Nat.le_of_ble_eq_true rfl, by kernel_rfl⟩

theorem R07_Same_ok (F : Nat) (a_1 : T_api_Event) (b_1 : T_api_Event) (r : Bool) (h : R07_Same F a_1 b_1 = some r) : TripleG prog 62 [] [] [e_T_api_Event a_1, e_T_api_Event b_1] [] (.bool r) := by
 refine triple_intro (fn := Go.Proofs.Try.f62) (code := codeOf Go.Proofs.Try.f62) (by kernel_rfl) (by kernel_rfl) (Nat.le_of_ble_eq_true (by kernel_rfl)) ?_
 unfold R07_Same at h
 refine sr [(0, { id := 0 }), (1, { id := 1 })] [2, 3] [0, 1] 2 [Pp 0, Pp 1] [Vb 54 (v_T_api_Event a_1), Vb 54 (v_T_api_Event b_1)] hmix an ?_
 refine sq ?_
 obtain ⟨p_1, h_2, h⟩ := bind_some h
 refine aw_mid (mk [(4, .bool p_1)] [] 0) ?_ ?_
 ·replace h := h_2
  rcases bft (a_1.At == b_1.At) with gg_1 | gg_1
  ·replace h := cond_t gg_1 h
   rcases bft (a_1.Kind == b_1.Kind) with gg_2 | gg_2
   ·replace h := cond_t gg_2 h
    rcases bft (a_1.Name == b_1.Name) with gg_3 | gg_3
    ·replace h := cond_t gg_3 h
     rcases bft (a_1.N == b_1.N) with gg_4 | gg_4
     ·replace h := cond_t gg_4 h
      rcases bft (a_1.M == b_1.M) with gg_5 | gg_5
      ·replace h := cond_t gg_5 h
       obtain ⟨r_1, h_1, h⟩ := bind_some h
       refine rg [(11, Ht), (18, Ht), (25, Ht), (32, Ht), (38, { av := .bool r_1, l := [.sl false 1 (Ms a_1.Stack), .sl false 1 (Ms b_1.Stack)] }), (39, Ht)] [4] [] 2 [.bool r_1] [] hmix (ac gg_1 (ac gg_1 (ac gg_1 (ac gg_1 (ac gg_1 (ac gg_1 (ac gg_2 (ac gg_2 (ac gg_2 (ac gg_2 (ac gg_2 (ac gg_2 (ac gg_3 (ac gg_3 (ac gg_3 (ac gg_3 (ac gg_3 (ac gg_3 (ac gg_4 (ac gg_4 (ac gg_4 (ac gg_4 (ac gg_4 (ac gg_4 (ac gg_5 (ac gg_5 (ac gg_5 (ac gg_5 (ac gg_5 (ar ([.sl false 1 (Ms a_1.Stack), .sl false 1 (Ms b_1.Stack)] : List AV) (ac (rfl : ([] : List BoxSt) = []) (ac (R07_Texts_ok F a_1.Stack b_1.Stack r_1 h_1 : TripleG prog 69 [] [] [.sl false 1 (Ms a_1.Stack), .sl false 1 (Ms b_1.Stack)] [] (.bool r_1)) (ac gg_5 an))))))))))))))))))))))))))))))))) ?_
       cases h
       exact ⟨rfl, (sw [] [] [.s 4] [] an)⟩
      ·replace h := cond_f gg_5 h
       refine rg [(11, Ht), (18, Ht), (25, Ht), (32, Ht), (34, Hg), (35, Hg), (36, Hg), (37, Hg), (38, Hg), (39, Hf)] [4] [] 2 [.bool false] [] hmix (ac gg_1 (ac gg_1 (ac gg_1 (ac gg_1 (ac gg_1 (ac gg_1 (ac gg_2 (ac gg_2 (ac gg_2 (ac gg_2 (ac gg_2 (ac gg_2 (ac gg_3 (ac gg_3 (ac gg_3 (ac gg_3 (ac gg_3 (ac gg_3 (ac gg_4 (ac gg_4 (ac gg_4 (ac gg_4 (ac gg_4 (ac gg_4 (ac gg_5 (ac gg_5 (ac gg_5 (ac gg_5 (ac gg_5 (ac gg_5 an)))))))))))))))))))))))))))))) ?_
       cases h
       exact ⟨rfl, (sw [] [] [.s 4] [] an)⟩
     ·replace h := cond_f gg_4 h
      refine rg [(11, Ht), (18, Ht), (25, Ht), (27, Hg), (28, Hg), (29, Hg), (30, Hg), (31, Hg), (32, Hf), (34, Hg), (35, Hg), (36, Hg), (37, Hg), (38, Hg), (39, Hf)] [4] [] 2 [.bool false] [] hmix (ac gg_1 (ac gg_1 (ac gg_1 (ac gg_1 (ac gg_1 (ac gg_1 (ac gg_2 (ac gg_2 (ac gg_2 (ac gg_2 (ac gg_2 (ac gg_2 (ac gg_3 (ac gg_3 (ac gg_3 (ac gg_3 (ac gg_3 (ac gg_3 (ac gg_4 (ac gg_4 (ac gg_4 (ac gg_4 (ac gg_4 (ac gg_4 (ac (rfl : false = !true) (ac (rfl : false = !true) (ac (rfl : false = !true) (ac (rfl : false = !true) (ac (rfl : false = !true) (ar false an)))))))))))))))))))))))))))))) ?_
      cases h
      exact ⟨rfl, (sw [] [] [.s 4] [] an)⟩
    ·replace h := cond_f gg_3 h
     refine rg [(11, Ht), (18, Ht), (20, Hg), (21, Hg), (22, Hg), (23, Hg), (24, Hg), (25, Hf), (27, Hg), (28, Hg), (29, Hg), (30, Hg), (31, Hg), (32, Hf), (34, Hg), (35, Hg), (36, Hg), (37, Hg), (38, Hg), (39, Hf)] [4] [] 2 [.bool false] [] hmix (ac gg_1 (ac gg_1 (ac gg_1 (ac gg_1 (ac gg_1 (ac gg_1 (ac gg_2 (ac gg_2 (ac gg_2 (ac gg_2 (ac gg_2 (ac gg_2 (ac gg_3 (ac gg_3 (ac gg_3 (ac gg_3 (ac gg_3 (ac gg_3 (ac (rfl : false = !true) (ac (rfl : false = !true) (ac (rfl : false = !true) (ac (rfl : false = !true) (ac (rfl : false = !true) (ar false (ac (rfl : false = !true) (ac (rfl : false = !true) (ac (rfl : false = !true) (ac (rfl : false = !true) (ac (rfl : false = !true) (ar false an)))))))))))))))))))))))))))))) ?_
     cases h
     exact ⟨rfl, (sw [] [] [.s 4] [] an)⟩
   ·replace h := cond_f gg_2 h
    refine rg [(11, Ht), (13, Hg), (14, Hg), (15, Hg), (16, Hg), (17, Hg), (18, Hf), (20, Hg), (21, Hg), (22, Hg), (23, Hg), (24, Hg), (25, Hf), (27, Hg), (28, Hg), (29, Hg), (30, Hg), (31, Hg), (32, Hf), (34, Hg), (35, Hg), (36, Hg), (37, Hg), (38, Hg), (39, Hf)] [4] [] 2 [.bool false] [] hmix (ac gg_1 (ac gg_1 (ac gg_1 (ac gg_1 (ac gg_1 (ac gg_1 (ac gg_2 (ac gg_2 (ac gg_2 (ac gg_2 (ac gg_2 (ac gg_2 (ac (rfl : false = !true) (ac (rfl : false = !true) (ac (rfl : false = !true) (ac (rfl : false = !true) (ac (rfl : false = !true) (ar false (ac (rfl : false = !true) (ac (rfl : false = !true) (ac (rfl : false = !true) (ac (rfl : false = !true) (ac (rfl : false = !true) (ar false (ac (rfl : false = !true) (ac (rfl : false = !true) (ac (rfl : false = !true) (ac (rfl : false = !true) (ac (rfl : false = !true) (ar false an)))))))))))))))))))))))))))))) ?_
    cases h
    exact ⟨rfl, (sw [] [] [.s 4] [] an)⟩
  ·replace h := cond_f gg_1 h
   refine rg [(6, Hg), (7, Hg), (8, Hg), (9, Hg), (10, Hg), (11, Hf), (13, Hg), (14, Hg), (15, Hg), (16, Hg), (17, Hg), (18, Hf), (20, Hg), (21, Hg), (22, Hg), (23, Hg), (24, Hg), (25, Hf), (27, Hg), (28, Hg), (29, Hg), (30, Hg), (31, Hg), (32, Hf), (34, Hg), (35, Hg), (36, Hg), (37, Hg), (38, Hg), (39, Hf)] [4] [] 2 [.bool false] [] hmix (ac gg_1 (ac gg_1 (ac gg_1 (ac gg_1 (ac gg_1 (ac gg_1 (ac (rfl : false = !true) (ac (rfl : false = !true) (ac (rfl : false = !true) (ac (rfl : false = !true) (ac (rfl : false = !true) (ar false (ac (rfl : false = !true) (ac (rfl : false = !true) (ac (rfl : false = !true) (ac (rfl : false = !true) (ac (rfl : false = !true) (ar false (ac (rfl : false = !true) (ac (rfl : false = !true) (ac (rfl : false = !true) (ac (rfl : false = !true) (ac (rfl : false = !true) (ar false (ac (rfl : false = !true) (ac (rfl : false = !true) (ac (rfl : false = !true) (ac (rfl : false = !true) (ac (rfl : false = !true) (ar false an)))))))))))))))))))))))))))))) ?_
   cases h
   exact ⟨rfl, (sw [] [] [.s 4] [] an)⟩
 refine rt ?_
 cases h
 exact ⟨.inr rfl, Nat.le_of_ble_eq_true rfl, by kernel_rfl⟩

theorem R11_Same_ok (F : Nat) (a_1 : T_api_Packet) (b_1 : T_api_Packet) (r : Bool) (h : R11_Same F a_1 b_1 = some r) : TripleG prog 44 [] [] [e_T_api_Packet a_1, e_T_api_Packet b_1] [] (.bool r) := by
 refine triple_intro (fn := Go.Proofs.Try.f44) (code := codeOf Go.Proofs.Try.f44) (by kernel_rfl) (by kernel_rfl) (Nat.le_of_ble_eq_true (by kernel_rfl)) ?_
 unfold R11_Same at h
 refine sr [(0, { id := 0 }), (1, { id := 1 })] [2, 3] [0, 1] 2 [Pp 0, Pp 1] [Vb 43 (v_T_api_Packet a_1), Vb 43 (v_T_api_Packet b_1)] hmix an ?_
 refine sq ?_
 refine sq ?_
 refine aw_mid (mk [(2, Pp 0), (3, Pp 1), (33, .bool ((a_1.Thread != b_1.Thread) || ((a_1.Serial != b_1.Serial) || ((a_1.Lost != b_1.Lost) || ((lN (a_1.Events)) != (lN (b_1.Events)))))))] [(0, Vb 43 (v_T_api_Packet a_1)), (1, Vb 43 (v_T_api_Packet b_1))] 2) ?_ ?_
 ·rcases bft (a_1.Thread != b_1.Thread) with gg_1 | gg_1
  ·refine rg [(6, Hg), (7, Hg), (8, Hg), (9, Hg), (10, Hg), (11, Ht), (13, Hg), (14, Hg), (15, Hg), (16, Hg), (17, Hg), (18, Ht), (20, Hg), (21, Hg), (22, Hg), (23, Hg), (24, Hg), (25, Hg), (26, Hg), (27, Ht)] [2, 3, 33] [0, 1] 2 [Pp 0, Pp 1, .bool true] [Vb 43 (v_T_api_Packet a_1), Vb 43 (v_T_api_Packet b_1)] hmix (ac gg_1 (ac gg_1 (ac gg_1 (ac gg_1 (ac gg_1 (ac gg_1 (ax (ax (ax (ax (ax (ar true (ax (ax (ax (ax (ax (ax (ax (ar true an)))))))))))))))))))) ?_
   exact ⟨rfl, (sw [0, 1] [] [.s 2, .s 3, .a 33 (.bool ((a_1.Thread != b_1.Thread) || ((a_1.Serial != b_1.Serial) || ((a_1.Lost != b_1.Lost) || ((lN (a_1.Events)) != (lN (b_1.Events)))))))] [.s 0, .s 1] (ac (congrArg AV.bool (ort gg_1) : (.bool true : AV) = .bool ((a_1.Thread != b_1.Thread) || ((a_1.Serial != b_1.Serial) || ((a_1.Lost != b_1.Lost) || ((lN (a_1.Events)) != (lN (b_1.Events))))))) an))⟩
  ·rcases bft (a_1.Serial != b_1.Serial) with gg_2 | gg_2
   ·refine rg [(11, Hf), (13, Hg), (14, Hg), (15, Hg), (16, Hg), (17, Hg), (18, Ht), (20, Hg), (21, Hg), (22, Hg), (23, Hg), (24, Hg), (25, Hg), (26, Hg), (27, Ht)] [2, 3, 33] [0, 1] 2 [Pp 0, Pp 1, .bool true] [Vb 43 (v_T_api_Packet a_1), Vb 43 (v_T_api_Packet b_1)] hmix (ac gg_1 (ac gg_1 (ac gg_1 (ac gg_1 (ac gg_1 (ac gg_1 (ac gg_2 (ac gg_2 (ac gg_2 (ac gg_2 (ac gg_2 (ac gg_2 (ax (ax (ax (ax (ax (ax (ax (ar true an)))))))))))))))))))) ?_
    exact ⟨rfl, (sw [0, 1] [] [.s 2, .s 3, .a 33 (.bool ((a_1.Thread != b_1.Thread) || ((a_1.Serial != b_1.Serial) || ((a_1.Lost != b_1.Lost) || ((lN (a_1.Events)) != (lN (b_1.Events)))))))] [.s 0, .s 1] (ac (congrArg AV.bool (orf gg_1 (ort gg_2)) : (.bool true : AV) = .bool ((a_1.Thread != b_1.Thread) || ((a_1.Serial != b_1.Serial) || ((a_1.Lost != b_1.Lost) || ((lN (a_1.Events)) != (lN (b_1.Events))))))) an))⟩
   ·rcases bft (a_1.Lost != b_1.Lost) with gg_3 | gg_3
    ·refine rg [(11, Hf), (18, Hf), (20, Hg), (21, Hg), (22, Hg), (23, Hg), (24, Hg), (25, Hg), (26, Hg), (27, Ht)] [2, 3, 33] [0, 1] 2 [Pp 0, Pp 1, .bool true] [Vb 43 (v_T_api_Packet a_1), Vb 43 (v_T_api_Packet b_1)] hmix (ac gg_1 (ac gg_1 (ac gg_1 (ac gg_1 (ac gg_1 (ac gg_1 (ac gg_2 (ac gg_2 (ac gg_2 (ac gg_2 (ac gg_2 (ac gg_2 (ac gg_3 (ac gg_3 (ac gg_3 (ac gg_3 (ac gg_3 (ac gg_3 (ac gg_3 (ac gg_3 an)))))))))))))))))))) ?_
     exact ⟨rfl, (sw [0, 1] [] [.s 2, .s 3, .a 33 (.bool ((a_1.Thread != b_1.Thread) || ((a_1.Serial != b_1.Serial) || ((a_1.Lost != b_1.Lost) || ((lN (a_1.Events)) != (lN (b_1.Events)))))))] [.s 0, .s 1] (ac (congrArg AV.bool (orf gg_1 (orf gg_2 (ort gg_3))) : (.bool true : AV) = .bool ((a_1.Thread != b_1.Thread) || ((a_1.Serial != b_1.Serial) || ((a_1.Lost != b_1.Lost) || ((lN (a_1.Events)) != (lN (b_1.Events))))))) an))⟩
    ·refine rg [(11, Hf), (18, Hf), (22, { n := (a_1.Events).length }), (25, { n := (b_1.Events).length }), (27, Hf)] [2, 3, 33] [0, 1] 2 [Pp 0, Pp 1, .bool ((lN (a_1.Events)) != (lN (b_1.Events)))] [Vb 43 (v_T_api_Packet a_1), Vb 43 (v_T_api_Packet b_1)] hmix (ac gg_1 (ac gg_1 (ac gg_1 (ac gg_1 (ac gg_1 (ac gg_1 (ac gg_2 (ac gg_2 (ac gg_2 (ac gg_2 (ac gg_2 (ac gg_2 (ac gg_3 (ac gg_3 (ac gg_3 (ac (vc_len _ : ((Mp e_T_api_Event a_1.Events)).length = (a_1.Events).length) (ac gg_3 (ac gg_3 (ac gg_3 (ac (vc_len _ : ((Mp e_T_api_Event b_1.Events)).length = (b_1.Events).length) (ac gg_3 (ac gg_3 an)))))))))))))))))))))) ?_
     exact ⟨rfl, (sw [0, 1] [] [.s 2, .s 3, .a 33 (.bool ((a_1.Thread != b_1.Thread) || ((a_1.Serial != b_1.Serial) || ((a_1.Lost != b_1.Lost) || ((lN (a_1.Events)) != (lN (b_1.Events)))))))] [.s 0, .s 1] (ac (congrArg AV.bool (orf gg_1 (orf gg_2 (orf gg_3 rfl))) : (.bool ((lN (a_1.Events)) != (lN (b_1.Events))) : AV) = .bool ((a_1.Thread != b_1.Thread) || ((a_1.Serial != b_1.Serial) || ((a_1.Lost != b_1.Lost) || ((lN (a_1.Events)) != (lN (b_1.Events))))))) an))⟩
 refine cd 33 ((a_1.Thread != b_1.Thread) || ((a_1.Serial != b_1.Serial) || ((a_1.Lost != b_1.Lost) || ((lN (a_1.Events)) != (lN (b_1.Events)))))) ?_ ?_
 ·intro g_1; replace h := cond_t g_1 h
  refine sr [] [4] [] 2 [.bool false] [] hmix an ?_
  refine rt ?_
  cases h
  exact ⟨.inr rfl, Nat.le_of_ble_eq_true rfl, by kernel_rfl⟩
 intro g_1; replace h := cond_f g_1 h
 refine sk ?_
 refine sq ?_
 refine sr [] [2, 3, 5] [0, 1] 2 [Pp 0, Pp 1, Ii 0] [Vb 43 (v_T_api_Packet a_1), Vb 43 (v_T_api_Packet b_1)] hmix an ?_
 obtain ⟨o_1, h_1, h⟩ := bind_some h
 refine aw_conv (K1 := (fun e st' => match o_1 with | (.inl q0) => e = .normal ∧ Sub 0 st' (mk [] [] 0) | (.inr q1) => e = .ret ∧ FinR prog Go.Proofs.Try.f44 0 [] (.bool q1) st')) ?_ ?_
 ·replace h := h_1
  refine aw_block (id := 0) (by kernel_rfl) ?_
  refine wk [0, 1] [] [.s 2, .s 3, .s 5] [.s 0, .s 1] [(2, Pp 0), (3, Pp 1), (5, Ii 0)] [(0, Vb 43 (v_T_api_Packet a_1)), (1, Vb 43 (v_T_api_Packet b_1))] an ?_
  refine aw_loopF (fun n st => ∃ (i_1 : Int), st = mk [(2, Pp 0), (3, Pp 1), (5, Ii i_1)] [(0, Vb 43 (v_T_api_Packet a_1)), (1, Vb 43 (v_T_api_Packet b_1))] 2 ∧ R11_Same_L1 F a_1 b_1 n i_1 = some o_1) F (by kernel_rfl) ⟨_, rfl, h⟩ ?_ ?_
  ·rintro _ ⟨_, _, h⟩; exact none_ne (h : (none : Option (Unit ⊕ Bool)) = some o_1)
  rintro n_1 _ ⟨i_1, rfl, h⟩
  replace h : R11_Same_L1_body F a_1 b_1 (R11_Same_L1 F a_1 b_1 n_1) i_1 = some o_1 := h
  unfold R11_Same_L1_body at h
  refine sq ?_
  refine sr [(3, { n := (a_1.Events).length })] [2, 3, 5, 38] [0, 1] 2 [Pp 0, Pp 1, Ii i_1, .bool (decide (i_1 < (lN (a_1.Events))))] [Vb 43 (v_T_api_Packet a_1), Vb 43 (v_T_api_Packet b_1)] hmix (ac (vc_len _ : ((Mp e_T_api_Event a_1.Events)).length = (a_1.Events).length) an) ?_
  refine cd 38 (decide (i_1 < (lN (a_1.Events)))) ?_ ?_
  rotate_left
  ·intro g_2; replace h := cond_f g_2 h
   refine aw_exit (id := 0) (by kernel_rfl) ?_
   cases h
   exact ⟨rfl, (sw [] [] [] [] an)⟩
  intro g_2; replace h := cond_t g_2 h
  refine sk ?_
  refine sq ?_
  refine aw_block (id := 1) (by kernel_rfl) ?_
  refine sq ?_
  obtain ⟨x_1, h_2, h⟩ := bind_some h
  obtain ⟨x_2, h_3, h⟩ := bind_some h
  obtain ⟨r_1, h_4, h⟩ := bind_some h
  refine rg [(3, { av := e_T_api_Event x_1 }), (8, { av := e_T_api_Event x_2 }), (10, { av := .bool r_1, l := [e_T_api_Event x_1, e_T_api_Event x_2] })] [2, 3, 5, 52] [0, 1] 2 [Pp 0, Pp 1, Ii i_1, .bool (!r_1)] [Vb 43 (v_T_api_Packet a_1), Vb 43 (v_T_api_Packet b_1)] hmix (ac (vc_idx h_2 : idxA (Mp e_T_api_Event a_1.Events) i_1 = some (e_T_api_Event x_1)) (ac (vc_idx h_3 : idxA (Mp e_T_api_Event b_1.Events) i_1 = some (e_T_api_Event x_2)) (ar ([e_T_api_Event x_1, e_T_api_Event x_2] : List AV) (ac (rfl : ([] : List BoxSt) = []) (ac (R07_Same_ok F x_1 x_2 r_1 h_4 : TripleG prog 62 [] [] [e_T_api_Event x_1, e_T_api_Event x_2] [] (.bool r_1)) an))))) ?_
  refine cd 52 (!r_1) ?_ ?_
  rotate_left
  ·intro g_3; replace h := cond_f g_3 h
   refine sk ?_
   refine rg [] [2, 3, 5] [0, 1] 2 [Pp 0, Pp 1, Ii (w_i64 (i_1 + (1 : Int)))] [Vb 43 (v_T_api_Packet a_1), Vb 43 (v_T_api_Packet b_1)] hmix an ?_
   exact ⟨_, (sw [0, 1] [] [.s 2, .s 3, .s 5] [.s 0, .s 1] an), _, rfl, h⟩
  intro g_3; replace h := cond_t g_3 h
  refine sr [] [4] [] 2 [.bool false] [] hmix an ?_
  refine rt ?_
  cases h
  exact ⟨rfl, Nat.le_of_ble_eq_true rfl, by kernel_rfl⟩
 intro e st1 hk
 rcases o_1 with q_1 | q_2
 rotate_left
 ·obtain ⟨rfl, hf⟩ := hk
  cases h
  exact ⟨st1, Sub.refl _ _, .inr rfl, hf⟩
 obtain ⟨rfl, hs⟩ := hk
 refine ⟨_, hs, ?_⟩
 refine sr [] [4] [] 0 [.bool true] [] hmix an ?_
 refine rt ?_
 cases h
 exact ⟨.inr rfl, Nat.le_of_ble_eq_true rfl, by kernel_rfl⟩

theorem R12_SamePackets_ok (F : Nat) (a_1 : List (T_api_Packet)) (b_1 : List (T_api_Packet)) (r : Bool) (h : R12_SamePackets F a_1 b_1 = some r) : TripleG prog 20 [] [] [.sl false 4 (Mp e_T_api_Packet a_1), .sl false 4 (Mp e_T_api_Packet b_1)] [] (.bool r) := by
 refine triple_intro (fn := Go.Proofs.Try.f20) (code := codeOf Go.Proofs.Try.f20) (by kernel_rfl) (by kernel_rfl) (Nat.le_of_ble_eq_true (by kernel_rfl)) ?_
 unfold R12_SamePackets at h
 refine sr [] [0, 1] [] 0 [.sl false 4 (Mp e_T_api_Packet a_1), .sl false 4 (Mp e_T_api_Packet b_1)] [] hmix an ?_
 refine sq ?_
 refine sr [(1, { n := (a_1).length }), (3, { n := (b_1).length })] [0, 1, 10] [] 0 [.sl false 4 (Mp e_T_api_Packet a_1), .sl false 4 (Mp e_T_api_Packet b_1), .bool ((lN (a_1)) != (lN (b_1)))] [] hmix (ac (vc_len _ : ((Mp e_T_api_Packet a_1)).length = (a_1).length) (ac (vc_len _ : ((Mp e_T_api_Packet b_1)).length = (b_1).length) an)) ?_
 refine cd 10 ((lN (a_1)) != (lN (b_1))) ?_ ?_
 ·intro g_1; replace h := cond_t g_1 h
  refine sr [] [4] [] 0 [.bool false] [] hmix an ?_
  refine rt ?_
  cases h
  exact ⟨.inr rfl, Nat.le_of_ble_eq_true rfl, by kernel_rfl⟩
 intro g_1; replace h := cond_f g_1 h
 refine sk ?_
 refine sq ?_
 refine sr [] [0, 1, 5] [] 0 [.sl false 4 (Mp e_T_api_Packet a_1), .sl false 4 (Mp e_T_api_Packet b_1), Ii 0] [] hmix an ?_
 obtain ⟨o_1, h_1, h⟩ := bind_some h
 refine aw_conv (K1 := (fun e st' => match o_1 with | (.inl q0) => e = .normal ∧ Sub 0 st' (mk [] [] 0) | (.inr q1) => e = .ret ∧ FinR prog Go.Proofs.Try.f20 0 [] (.bool q1) st')) ?_ ?_
 ·replace h := h_1
  refine aw_block (id := 0) (by kernel_rfl) ?_
  refine wk [] [] [.s 0, .s 1, .s 5] [] [(0, .sl false 4 (Mp e_T_api_Packet a_1)), (1, .sl false 4 (Mp e_T_api_Packet b_1)), (5, Ii 0)] [] an ?_
  refine aw_loopF (fun n st => ∃ (i_1 : Int), st = mk [(0, .sl false 4 (Mp e_T_api_Packet a_1)), (1, .sl false 4 (Mp e_T_api_Packet b_1)), (5, Ii i_1)] [] 0 ∧ R12_SamePackets_L1 F a_1 b_1 n i_1 = some o_1) F (by kernel_rfl) ⟨_, rfl, h⟩ ?_ ?_
  ·rintro _ ⟨_, _, h⟩; exact none_ne (h : (none : Option (Unit ⊕ Bool)) = some o_1)
  rintro n_1 _ ⟨i_1, rfl, h⟩
  replace h : R12_SamePackets_L1_body F a_1 b_1 (R12_SamePackets_L1 F a_1 b_1 n_1) i_1 = some o_1 := h
  unfold R12_SamePackets_L1_body at h
  refine sq ?_
  refine sr [(2, { n := (a_1).length })] [0, 1, 5, 14] [] 0 [.sl false 4 (Mp e_T_api_Packet a_1), .sl false 4 (Mp e_T_api_Packet b_1), Ii i_1, .bool (decide (i_1 < (lN (a_1))))] [] hmix (ac (vc_len _ : ((Mp e_T_api_Packet a_1)).length = (a_1).length) an) ?_
  refine cd 14 (decide (i_1 < (lN (a_1)))) ?_ ?_
  rotate_left
  ·intro g_2; replace h := cond_f g_2 h
   refine aw_exit (id := 0) (by kernel_rfl) ?_
   cases h
   exact ⟨rfl, (sw [] [] [] [] an)⟩
  intro g_2; replace h := cond_t g_2 h
  refine sk ?_
  refine sq ?_
  refine aw_block (id := 1) (by kernel_rfl) ?_
  refine sq ?_
  obtain ⟨x_1, h_2, h⟩ := bind_some h
  obtain ⟨x_2, h_3, h⟩ := bind_some h
  obtain ⟨r_1, h_4, h⟩ := bind_some h
  refine rg [(2, { av := e_T_api_Packet x_1 }), (6, { av := e_T_api_Packet x_2 }), (8, { av := .bool r_1, l := [e_T_api_Packet x_1, e_T_api_Packet x_2] })] [0, 1, 5, 26] [] 0 [.sl false 4 (Mp e_T_api_Packet a_1), .sl false 4 (Mp e_T_api_Packet b_1), Ii i_1, .bool (!r_1)] [] hmix (ac (vc_idx h_2 : idxA (Mp e_T_api_Packet a_1) i_1 = some (e_T_api_Packet x_1)) (ac (vc_idx h_3 : idxA (Mp e_T_api_Packet b_1) i_1 = some (e_T_api_Packet x_2)) (ar ([e_T_api_Packet x_1, e_T_api_Packet x_2] : List AV) (ac (rfl : ([] : List BoxSt) = []) (ac (R11_Same_ok F x_1 x_2 r_1 h_4 : TripleG prog 44 [] [] [e_T_api_Packet x_1, e_T_api_Packet x_2] [] (.bool r_1)) an))))) ?_
  refine cd 26 (!r_1) ?_ ?_
  rotate_left
  ·intro g_3; replace h := cond_f g_3 h
   refine sk ?_
   refine rg [] [0, 1, 5] [] 0 [.sl false 4 (Mp e_T_api_Packet a_1), .sl false 4 (Mp e_T_api_Packet b_1), Ii (w_i64 (i_1 + (1 : Int)))] [] hmix an ?_
   exact ⟨_, (sw [] [] [.s 0, .s 1, .s 5] [] an), _, rfl, h⟩
  intro g_3; replace h := cond_t g_3 h
  refine sr [] [4] [] 0 [.bool false] [] hmix an ?_
  refine rt ?_
  cases h
  exact ⟨rfl, Nat.le_of_ble_eq_true rfl, by kernel_rfl⟩
 intro e st1 hk
 rcases o_1 with q_1 | q_2
 rotate_left
 ·obtain ⟨rfl, hf⟩ := hk
  cases h
  exact ⟨st1, Sub.refl _ _, .inr rfl, hf⟩
 obtain ⟨rfl, hs⟩ := hk
 refine ⟨_, hs, ?_⟩
 refine sr [] [4] [] 0 [.bool true] [] hmix an ?_
 refine rt ?_
 cases h
 exact ⟨.inr rfl, Nat.le_of_ble_eq_true rfl, by kernel_rfl⟩

theorem R12_Same_ok (F : Nat) (a_1 : T_api_Service) (b_1 : T_api_Service) (r : Bool) (h : R12_Same F a_1 b_1 = some r) : TripleG prog 12 [] [] [e_T_api_Service a_1, e_T_api_Service b_1] [] (.bool r) := by
 refine triple_intro (fn := Go.Proofs.Try.f12) (code := codeOf Go.Proofs.Try.f12) (by kernel_rfl) (by kernel_rfl) (Nat.le_of_ble_eq_true (by kernel_rfl)) ?_
 unfold R12_Same at h
 refine sr [(0, { id := 0 }), (1, { id := 1 })] [2, 3] [0, 1] 2 [Pp 0, Pp 1] [Vb 27 (v_T_api_Service a_1), Vb 27 (v_T_api_Service b_1)] hmix an ?_
 refine sq ?_
 refine sq ?_
 refine aw_mid (mk [(2, Pp 0), (3, Pp 1), (22, .bool (((lN (a_1.Threads)) != (lN (b_1.Threads))) || ((lN (a_1.Next)) != (lN (b_1.Next)))))] [(0, Vb 27 (v_T_api_Service a_1)), (1, Vb 27 (v_T_api_Service b_1))] 2) ?_ ?_
 ·rcases bft ((lN (a_1.Threads)) != (lN (b_1.Threads))) with gg_1 | gg_1
  ·refine rg [(2, { n := (a_1.Threads).length }), (5, { n := (b_1.Threads).length }), (8, Hg), (9, Hg), (10, Hg), (11, Hg), (12, Hg), (13, Hg), (14, Hg), (15, Ht)] [2, 3, 22] [0, 1] 2 [Pp 0, Pp 1, .bool true] [Vb 27 (v_T_api_Service a_1), Vb 27 (v_T_api_Service b_1)] hmix (ac (vc_len _ : ((Mp e_T_api_Thread a_1.Threads)).length = (a_1.Threads).length) (ac (vc_len _ : ((Mp e_T_api_Thread b_1.Threads)).length = (b_1.Threads).length) (ac gg_1 (ac gg_1 (ac gg_1 (ac gg_1 (ac gg_1 (ac gg_1 (ac gg_1 (ac gg_1 an)))))))))) ?_
   exact ⟨rfl, (sw [0, 1] [] [.s 2, .s 3, .a 22 (.bool (((lN (a_1.Threads)) != (lN (b_1.Threads))) || ((lN (a_1.Next)) != (lN (b_1.Next)))))] [.s 0, .s 1] (ac (congrArg AV.bool (ort gg_1) : (.bool true : AV) = .bool (((lN (a_1.Threads)) != (lN (b_1.Threads))) || ((lN (a_1.Next)) != (lN (b_1.Next))))) an))⟩
  ·refine rg [(2, { n := (a_1.Threads).length }), (5, { n := (b_1.Threads).length }), (10, { n := (a_1.Next).length }), (13, { n := (b_1.Next).length }), (15, Hf)] [2, 3, 22] [0, 1] 2 [Pp 0, Pp 1, .bool ((lN (a_1.Next)) != (lN (b_1.Next)))] [Vb 27 (v_T_api_Service a_1), Vb 27 (v_T_api_Service b_1)] hmix (ac (vc_len _ : ((Mp e_T_api_Thread a_1.Threads)).length = (a_1.Threads).length) (ac (vc_len _ : ((Mp e_T_api_Thread b_1.Threads)).length = (b_1.Threads).length) (ac gg_1 (ac gg_1 (ac gg_1 (ac (vc_len _ : ((Mi a_1.Next)).length = (a_1.Next).length) (ac gg_1 (ac gg_1 (ac gg_1 (ac (vc_len _ : ((Mi b_1.Next)).length = (b_1.Next).length) (ac gg_1 (ac gg_1 an)))))))))))) ?_
   exact ⟨rfl, (sw [0, 1] [] [.s 2, .s 3, .a 22 (.bool (((lN (a_1.Threads)) != (lN (b_1.Threads))) || ((lN (a_1.Next)) != (lN (b_1.Next)))))] [.s 0, .s 1] (ac (congrArg AV.bool (orf gg_1 rfl) : (.bool ((lN (a_1.Next)) != (lN (b_1.Next))) : AV) = .bool (((lN (a_1.Threads)) != (lN (b_1.Threads))) || ((lN (a_1.Next)) != (lN (b_1.Next))))) an))⟩
 refine cd 22 (((lN (a_1.Threads)) != (lN (b_1.Threads))) || ((lN (a_1.Next)) != (lN (b_1.Next)))) ?_ ?_
 ·intro g_1; replace h := cond_t g_1 h
  refine sr [] [4] [] 2 [.bool false] [] hmix an ?_
  refine rt ?_
  cases h
  exact ⟨.inr rfl, Nat.le_of_ble_eq_true rfl, by kernel_rfl⟩
 intro g_1; replace h := cond_f g_1 h
 refine sk ?_
 refine sq ?_
 refine sr [] [2, 3, 5] [0, 1] 2 [Pp 0, Pp 1, Ii 0] [Vb 27 (v_T_api_Service a_1), Vb 27 (v_T_api_Service b_1)] hmix an ?_
 obtain ⟨o_1, h_1, h⟩ := bind_some h
 refine aw_conv (K1 := (fun e st' => match o_1 with | (.inl q0) => e = .normal ∧ Sub 0 st' (mk [(2, Pp 0), (3, Pp 1)] [(0, Vb 27 (v_T_api_Service a_1)), (1, Vb 27 (v_T_api_Service b_1))] 2) | (.inr q1) => e = .ret ∧ FinR prog Go.Proofs.Try.f12 0 [] (.bool q1) st')) ?_ ?_
 ·replace h := h_1
  refine aw_block (id := 0) (by kernel_rfl) ?_
  refine wk [0, 1] [] [.s 2, .s 3, .s 5] [.s 0, .s 1] [(2, Pp 0), (3, Pp 1), (5, Ii 0)] [(0, Vb 27 (v_T_api_Service a_1)), (1, Vb 27 (v_T_api_Service b_1))] an ?_
  refine aw_loopF (fun n st => ∃ (i_1 : Int), st = mk [(2, Pp 0), (3, Pp 1), (5, Ii i_1)] [(0, Vb 27 (v_T_api_Service a_1)), (1, Vb 27 (v_T_api_Service b_1))] 2 ∧ R12_Same_L1 F a_1 b_1 n i_1 = some o_1) F (by kernel_rfl) ⟨_, rfl, h⟩ ?_ ?_
  ·rintro _ ⟨_, _, h⟩; exact none_ne (h : (none : Option (Unit ⊕ Bool)) = some o_1)
  rintro n_1 _ ⟨i_1, rfl, h⟩
  replace h : R12_Same_L1_body F a_1 b_1 (R12_Same_L1 F a_1 b_1 n_1) i_1 = some o_1 := h
  unfold R12_Same_L1_body at h
  refine sq ?_
  refine sr [(3, { n := (a_1.Threads).length })] [2, 3, 5, 27] [0, 1] 2 [Pp 0, Pp 1, Ii i_1, .bool (decide (i_1 < (lN (a_1.Threads))))] [Vb 27 (v_T_api_Service a_1), Vb 27 (v_T_api_Service b_1)] hmix (ac (vc_len _ : ((Mp e_T_api_Thread a_1.Threads)).length = (a_1.Threads).length) an) ?_
  refine cd 27 (decide (i_1 < (lN (a_1.Threads)))) ?_ ?_
  rotate_left
  ·intro g_2; replace h := cond_f g_2 h
   refine aw_exit (id := 0) (by kernel_rfl) ?_
   cases h
   exact ⟨rfl, (sw [0, 1] [] [.s 2, .s 3] [.s 0, .s 1] an)⟩
  intro g_2; replace h := cond_t g_2 h
  refine sk ?_
  refine sq ?_
  refine aw_block (id := 1) (by kernel_rfl) ?_
  refine sq ?_
  obtain ⟨x_1, h_2, h⟩ := bind_some h
  obtain ⟨x_2, h_3, h⟩ := bind_some h
  refine rg [(3, { av := e_T_api_Thread x_1 }), (8, { av := e_T_api_Thread x_2 }), (10, { b := (decide (x_1 = x_2)), mks := [.int .i64, .str, .int .i64] })] [2, 3, 5, 40] [0, 1] 2 [Pp 0, Pp 1, Ii i_1, .bool (!(decide (x_1 = x_2)))] [Vb 27 (v_T_api_Service a_1), Vb 27 (v_T_api_Service b_1)] hmix (ac (vc_idx h_2 : idxA (Mp e_T_api_Thread a_1.Threads) i_1 = some (e_T_api_Thread x_1)) (ac (vc_idx h_3 : idxA (Mp e_T_api_Thread b_1.Threads) i_1 = some (e_T_api_Thread x_2)) (ac (eqOk_60 : EqOk prog 60 [.int .i64, .str, .int .i64]) (ac (vc_eqA (f := e_T_api_Thread) inj_T_api_Thread x_1 x_2 : ((decide (x_1 = x_2)) = true ↔ AV.agg [Ii x_1.Id, .str x_1.Name, Ii x_1.Domain] = AV.agg [Ii x_2.Id, .str x_2.Name, Ii x_2.Domain])) an)))) ?_
  refine cd 40 (!(decide (x_1 = x_2))) ?_ ?_
  rotate_left
  ·intro g_3; replace h := cond_f g_3 h
   refine sk ?_
   refine rg [] [2, 3, 5] [0, 1] 2 [Pp 0, Pp 1, Ii (w_i64 (i_1 + (1 : Int)))] [Vb 27 (v_T_api_Service a_1), Vb 27 (v_T_api_Service b_1)] hmix an ?_
   exact ⟨_, (sw [0, 1] [] [.s 2, .s 3, .s 5] [.s 0, .s 1] an), _, rfl, h⟩
  intro g_3; replace h := cond_t g_3 h
  refine sr [] [4] [] 2 [.bool false] [] hmix an ?_
  refine rt ?_
  cases h
  exact ⟨rfl, Nat.le_of_ble_eq_true rfl, by kernel_rfl⟩
 intro e st1 hk
 rcases o_1 with q_1 | q_2
 rotate_left
 ·obtain ⟨rfl, hf⟩ := hk
  cases h
  exact ⟨st1, Sub.refl _ _, .inr rfl, hf⟩
 obtain ⟨rfl, hs⟩ := hk
 refine ⟨_, hs, ?_⟩
 refine sq ?_
 refine sr [] [2, 3, 6] [0, 1] 2 [Pp 0, Pp 1, Ii 0] [Vb 27 (v_T_api_Service a_1), Vb 27 (v_T_api_Service b_1)] hmix an ?_
 obtain ⟨o_2, h_4, h⟩ := bind_some h
 refine aw_conv (K1 := (fun e st' => match o_2 with | (.inl q0) => e = .normal ∧ Sub 0 st' (mk [(2, Pp 0), (3, Pp 1)] [(0, Vb 27 (v_T_api_Service a_1)), (1, Vb 27 (v_T_api_Service b_1))] 2) | (.inr q1) => e = .ret ∧ FinR prog Go.Proofs.Try.f12 0 [] (.bool q1) st')) ?_ ?_
 ·replace h := h_4
  refine aw_block (id := 2) (by kernel_rfl) ?_
  refine wk [0, 1] [] [.s 2, .s 3, .s 6] [.s 0, .s 1] [(2, Pp 0), (3, Pp 1), (6, Ii 0)] [(0, Vb 27 (v_T_api_Service a_1)), (1, Vb 27 (v_T_api_Service b_1))] an ?_
  refine aw_loopF (fun n st => ∃ (i_2 : Int), st = mk [(2, Pp 0), (3, Pp 1), (6, Ii i_2)] [(0, Vb 27 (v_T_api_Service a_1)), (1, Vb 27 (v_T_api_Service b_1))] 2 ∧ R12_Same_L2 F a_1 b_1 n i_2 = some o_2) F (by kernel_rfl) ⟨_, rfl, h⟩ ?_ ?_
  ·rintro _ ⟨_, _, h⟩; exact none_ne (h : (none : Option (Unit ⊕ Bool)) = some o_2)
  rintro n_2 _ ⟨i_2, rfl, h⟩
  replace h : R12_Same_L2_body F a_1 b_1 (R12_Same_L2 F a_1 b_1 n_2) i_2 = some o_2 := h
  unfold R12_Same_L2_body at h
  refine sq ?_
  refine sr [(3, { n := (a_1.Next).length })] [2, 3, 6, 45] [0, 1] 2 [Pp 0, Pp 1, Ii i_2, .bool (decide (i_2 < (lN (a_1.Next))))] [Vb 27 (v_T_api_Service a_1), Vb 27 (v_T_api_Service b_1)] hmix (ac (vc_len _ : ((Mi a_1.Next)).length = (a_1.Next).length) an) ?_
  refine cd 45 (decide (i_2 < (lN (a_1.Next)))) ?_ ?_
  rotate_left
  ·intro g_4; replace h := cond_f g_4 h
   refine aw_exit (id := 2) (by kernel_rfl) ?_
   cases h
   exact ⟨rfl, (sw [0, 1] [] [.s 2, .s 3] [.s 0, .s 1] an)⟩
  intro g_4; replace h := cond_t g_4 h
  refine sk ?_
  refine sq ?_
  refine aw_block (id := 3) (by kernel_rfl) ?_
  refine sq ?_
  obtain ⟨x_3, h_5, h⟩ := bind_some h
  obtain ⟨x_4, h_6, h⟩ := bind_some h
  refine rg [(3, { av := Ii x_3 }), (8, { av := Ii x_4 })] [2, 3, 6, 58] [0, 1] 2 [Pp 0, Pp 1, Ii i_2, .bool (x_3 != x_4)] [Vb 27 (v_T_api_Service a_1), Vb 27 (v_T_api_Service b_1)] hmix (ac (vc_idx h_5 : idxA (Mi a_1.Next) i_2 = some (Ii x_3)) (ac (vc_idx h_6 : idxA (Mi b_1.Next) i_2 = some (Ii x_4)) an)) ?_
  refine cd 58 (x_3 != x_4) ?_ ?_
  rotate_left
  ·intro g_5; replace h := cond_f g_5 h
   refine sk ?_
   refine rg [] [2, 3, 6] [0, 1] 2 [Pp 0, Pp 1, Ii (w_i64 (i_2 + (1 : Int)))] [Vb 27 (v_T_api_Service a_1), Vb 27 (v_T_api_Service b_1)] hmix an ?_
   exact ⟨_, (sw [0, 1] [] [.s 2, .s 3, .s 6] [.s 0, .s 1] an), _, rfl, h⟩
  intro g_5; replace h := cond_t g_5 h
  refine sr [] [4] [] 2 [.bool false] [] hmix an ?_
  refine rt ?_
  cases h
  exact ⟨rfl, Nat.le_of_ble_eq_true rfl, by kernel_rfl⟩
 intro e st1 hk
 rcases o_2 with q_3 | q_4
 rotate_left
 ·obtain ⟨rfl, hf⟩ := hk
  cases h
  exact ⟨st1, Sub.refl _ _, .inr rfl, hf⟩
 obtain ⟨rfl, hs⟩ := hk
 refine ⟨_, hs, ?_⟩
 refine sq ?_
 obtain ⟨r_1, h_7, h⟩ := bind_some h
 refine rg [(4, { av := .bool r_1, l := [.sl false 4 (Mp e_T_api_Packet a_1.Queue), .sl false 4 (Mp e_T_api_Packet b_1.Queue)] })] [4] [] 2 [.bool r_1] [] hmix (ar ([.sl false 4 (Mp e_T_api_Packet a_1.Queue), .sl false 4 (Mp e_T_api_Packet b_1.Queue)] : List AV) (ac (rfl : ([] : List BoxSt) = []) (ac (R12_SamePackets_ok F a_1.Queue b_1.Queue r_1 h_7 : TripleG prog 20 [] [] [.sl false 4 (Mp e_T_api_Packet a_1.Queue), .sl false 4 (Mp e_T_api_Packet b_1.Queue)] [] (.bool r_1)) an))) ?_
 refine rt ?_
 cases h
 exact ⟨.inr rfl, Nat.le_of_ble_eq_true rfl, by kernel_rfl⟩

theorem L12_small_ok (F : Nat) (l_1 : List (T_api_Packet)) (r : Bool) (h : L12_small F l_1 = some r) : TripleG prog 21 [] [] [.sl false 4 (Mp e_T_api_Packet l_1)] [] (.bool r) := by
 refine triple_intro (fn := Go.Proofs.Try.f21) (code := codeOf Go.Proofs.Try.f21) (by kernel_rfl) (by kernel_rfl) (Nat.le_of_ble_eq_true (by kernel_rfl)) ?_
 unfold L12_small at h
 refine sr [] [0] [] 0 [.sl false 4 (Mp e_T_api_Packet l_1)] [] hmix an ?_
 refine sr [(1, { n := (l_1).length })] [0, 3] [] 0 [.sl false 4 (Mp e_T_api_Packet l_1), Ii (lN (l_1))] [] hmix (ac (vc_len _ : ((Mp e_T_api_Packet l_1)).length = (l_1).length) an) ?_
 refine sq ?_
 refine sr [] [0, 3, 4] [] 0 [.sl false 4 (Mp e_T_api_Packet l_1), Ii (lN (l_1)), Ii 0] [] hmix an ?_
 obtain ⟨o_1, h_1, h⟩ := bind_some h
 refine aw_mid (mk [(3, Ii o_1)] [] 0) ?_ ?_
 ·replace h := h_1
  refine aw_block (id := 0) (by kernel_rfl) ?_
  refine wk [] [] [.s 0, .s 3, .s 4] [] [(0, .sl false 4 (Mp e_T_api_Packet l_1)), (3, Ii (lN (l_1))), (4, Ii 0)] [] an ?_
  refine aw_loopF (fun n st => ∃ (n_1 : Int), ∃ (i_1 : Int), st = mk [(0, .sl false 4 (Mp e_T_api_Packet l_1)), (3, Ii n_1), (4, Ii i_1)] [] 0 ∧ L12_small_L1 F l_1 n n_1 i_1 = some o_1) F (by kernel_rfl) ⟨_, _, rfl, h⟩ ?_ ?_
  ·rintro _ ⟨_, _, _, h⟩; exact none_ne (h : (none : Option Int) = some o_1)
  rintro n_2 _ ⟨n_1, i_1, rfl, h⟩
  replace h : L12_small_L1_body F l_1 (L12_small_L1 F l_1 n_2) n_1 i_1 = some o_1 := h
  unfold L12_small_L1_body at h
  refine sq ?_
  refine sq ?_
  refine aw_mid (mk [(0, .sl false 4 (Mp e_T_api_Packet l_1)), (3, Ii n_1), (4, Ii i_1), (14, .bool (decide (i_1 < (lN (l_1))) && decide (n_1 ≤ (3000 : Int))))] [] 0) ?_ ?_
  ·rcases bft (decide (i_1 < (lN (l_1)))) with gg_4 | gg_4
   ·refine rg [(2, { n := (l_1).length }), (7, Ht)] [0, 3, 4, 12, 13, 14] [] 0 [.sl false 4 (Mp e_T_api_Packet l_1), Ii n_1, Ii i_1, Ii n_1, .bool (decide (n_1 ≤ (3000 : Int))), .bool (decide (n_1 ≤ (3000 : Int)))] [] hmix (ac (vc_len _ : ((Mp e_T_api_Packet l_1)).length = (l_1).length) (ac gg_4 (ac gg_4 (ac gg_4 an)))) ?_
    exact ⟨rfl, (sw [] [] [.s 0, .s 3, .s 4, .a 14 (.bool (decide (i_1 < (lN (l_1))) && decide (n_1 ≤ (3000 : Int))))] [] (ac (congrArg AV.bool (andt gg_4 rfl) : (.bool (decide (n_1 ≤ (3000 : Int))) : AV) = .bool (decide (i_1 < (lN (l_1))) && decide (n_1 ≤ (3000 : Int)))) an))⟩
   ·refine rg [(2, { n := (l_1).length }), (5, Hg), (6, Hg), (7, Hf)] [0, 3, 4, 12, 13, 14] [] 0 [.sl false 4 (Mp e_T_api_Packet l_1), Ii n_1, Ii i_1, .tuple [], .tuple [], .bool false] [] hmix (ac (vc_len _ : ((Mp e_T_api_Packet l_1)).length = (l_1).length) (ac gg_4 (ac gg_4 (ac gg_4 an)))) ?_
    exact ⟨rfl, (sw [] [] [.s 0, .s 3, .s 4, .a 14 (.bool (decide (i_1 < (lN (l_1))) && decide (n_1 ≤ (3000 : Int))))] [] (ac (congrArg AV.bool (andf gg_4) : (.bool false : AV) = .bool (decide (i_1 < (lN (l_1))) && decide (n_1 ≤ (3000 : Int)))) an))⟩
  refine cd 14 (decide (i_1 < (lN (l_1))) && decide (n_1 ≤ (3000 : Int))) ?_ ?_
  rotate_left
  ·intro g_1; replace h := cond_f g_1 h
   refine aw_exit (id := 0) (by kernel_rfl) ?_
   cases h
   exact ⟨rfl, (sw [] [] [.s 3] [] an)⟩
  intro g_1; replace h := cond_t g_1 h
  refine sk ?_
  refine sq ?_
  refine aw_block (id := 1) (by kernel_rfl) ?_
  obtain ⟨x_1, h_2, h⟩ := bind_some h
  refine rg [(3, { av := e_T_api_Packet x_1 }), (6, { n := (x_1.Events).length })] [0, 3, 4] [] 0 [.sl false 4 (Mp e_T_api_Packet l_1), Ii (w_i64 (n_1 + (lN (x_1.Events)))), Ii i_1] [] hmix (ac (vc_idx h_2 : idxA (Mp e_T_api_Packet l_1) i_1 = some (e_T_api_Packet x_1)) (ac (vc_len _ : ((Mp e_T_api_Event x_1.Events)).length = (x_1.Events).length) an)) ?_
  refine rg [] [0, 3, 4] [] 0 [.sl false 4 (Mp e_T_api_Packet l_1), Ii (w_i64 (n_1 + (lN (x_1.Events)))), Ii (w_i64 (i_1 + (1 : Int)))] [] hmix an ?_
  exact ⟨_, (sw [] [] [.s 0, .s 3, .s 4] [] an), _, _, rfl, h⟩
 refine sr [] [2] [] 0 [.bool (decide (o_1 ≤ (3000 : Int)))] [] hmix an ?_
 refine rt ?_
 cases h
 exact ⟨.inr rfl, Nat.le_of_ble_eq_true rfl, by kernel_rfl⟩

theorem L12_few_ok (F : Nat) (s_1 : T_api_Service) (r : Bool) (h : L12_few F s_1 = some r) : TripleG prog 14 [] [] [e_T_api_Service s_1] [] (.bool r) := by
 refine triple_intro (fn := Go.Proofs.Try.f14) (code := codeOf Go.Proofs.Try.f14) (by kernel_rfl) (by kernel_rfl) (Nat.le_of_ble_eq_true (by kernel_rfl)) ?_
 unfold L12_few at h
 refine sr [(0, { id := 0 })] [1] [0] 1 [Pp 0] [Vb 27 (v_T_api_Service s_1)] hmix an ?_
 refine sq ?_
 obtain ⟨p_1, h_2, h⟩ := bind_some h
 refine aw_mid (mk [(2, .bool p_1)] [] 0) ?_ ?_
 ·replace h := h_2
  rcases bft (decide ((lN (s_1.Threads)) ≤ (70 : Int))) with gg_1 | gg_1
  ·replace h := cond_t gg_1 h
   rcases bft (decide ((lN (s_1.Next)) ≤ (100 : Int))) with gg_2 | gg_2
   ·replace h := cond_t gg_2 h
    obtain ⟨r_1, h_1, h⟩ := bind_some h
    refine rg [(2, { n := (s_1.Threads).length }), (7, { n := (s_1.Next).length }), (9, Ht), (13, { av := .bool r_1, l := [.sl false 4 (Mp e_T_api_Packet s_1.Queue)] }), (14, Ht)] [2] [] 1 [.bool r_1] [] hmix (ac (vc_len _ : ((Mp e_T_api_Thread s_1.Threads)).length = (s_1.Threads).length) (ac gg_1 (ac gg_1 (ac gg_1 (ac (vc_len _ : ((Mi s_1.Next)).length = (s_1.Next).length) (ac gg_1 (ac gg_1 (ac gg_2 (ac gg_2 (ac gg_2 (ar ([.sl false 4 (Mp e_T_api_Packet s_1.Queue)] : List AV) (ac (rfl : ([] : List BoxSt) = []) (ac (L12_small_ok F s_1.Queue r_1 h_1 : TripleG prog 21 [] [] [.sl false 4 (Mp e_T_api_Packet s_1.Queue)] [] (.bool r_1)) (ac gg_2 an)))))))))))))) ?_
    cases h
    exact ⟨rfl, (sw [] [] [.s 2] [] an)⟩
   ·replace h := cond_f gg_2 h
    refine rg [(2, { n := (s_1.Threads).length }), (7, { n := (s_1.Next).length }), (9, Ht), (11, Hg), (12, Hg), (13, Hg), (14, Hf)] [2] [] 1 [.bool false] [] hmix (ac (vc_len _ : ((Mp e_T_api_Thread s_1.Threads)).length = (s_1.Threads).length) (ac gg_1 (ac gg_1 (ac gg_1 (ac (vc_len _ : ((Mi s_1.Next)).length = (s_1.Next).length) (ac gg_1 (ac gg_1 (ac gg_2 (ac gg_2 (ac gg_2 (ac gg_2 an))))))))))) ?_
    cases h
    exact ⟨rfl, (sw [] [] [.s 2] [] an)⟩
  ·replace h := cond_f gg_1 h
   refine rg [(2, { n := (s_1.Threads).length }), (5, Hg), (6, Hg), (7, Hg), (8, Hg), (9, Hf), (11, Hg), (12, Hg), (13, Hg), (14, Hf)] [2] [] 1 [.bool false] [] hmix (ac (vc_len _ : ((Mp e_T_api_Thread s_1.Threads)).length = (s_1.Threads).length) (ac gg_1 (ac gg_1 (ac gg_1 (ac gg_1 (ac gg_1 (ac (rfl : false = !true) (ac (rfl : false = !true) (ac (rfl : false = !true) (ar false an)))))))))) ?_
   cases h
   exact ⟨rfl, (sw [] [] [.s 2] [] an)⟩
 refine rt ?_
 cases h
 exact ⟨.inr rfl, Nat.le_of_ble_eq_true rfl, by kernel_rfl⟩

end Go.Ab
