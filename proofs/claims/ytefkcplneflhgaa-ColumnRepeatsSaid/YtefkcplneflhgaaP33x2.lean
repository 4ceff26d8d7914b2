/- Printed: the typed Lean functions of the Go functions, or the proofs that the Go functions meet them. No conditions but those that the theorems name. -/
import Derived.Test.YtefkcplneflhgaaP33x1
namespace Go.Ab
open Go
set_option linter.unusedVariables false
theorem L33_awake_ok (F : Nat) (r : Bool) (h : L33_awake F = some r) : TripleG prog 10 [] [] [] [] (.bool r) := by
 refine triple_intro (fn := Go.Proofs.Try.f10) (code := codeOf Go.Proofs.Try.f10) (by kernel_rfl) (by kernel_rfl) (Nat.le_of_ble_eq_true (by kernel_rfl)) ?_
 unfold L33_awake at h
 refine sr [] [] [] 0 [] [] hmix an ?_
 refine sq ?_
 obtain ⟨r_1, h_1, h⟩ := bind_some h
 obtain ⟨r_2, h_2, h⟩ := bind_some h
 obtain ⟨r_3, h_3, h⟩ := bind_some h
 obtain ⟨r_4, h_4, h⟩ := bind_some h
 refine rg [(0, { av := e_T_api_Value r_1, l := [Ii 5] }), (1, { av := e_T_api_Value r_2, l := [Ii 5] }), (2, { av := e_T_api_Value r_3, l := [Ii 5] }), (3, { id := 0 }), (4, { av := .tuple [e_T_api_Packed r_4.1, Ii r_4.2], frz := [0], l := [Ii 2, .sl false 3 (Mp e_T_api_Value ([r_1, r_2, r_3] : List T_api_Value))] }), (8, { id := 1 })] [1, 2] [1] 2 [Pp 1, Ii r_4.2] [Vb 33 (v_T_api_Packed r_4.1)] hmix (ar ([Ii 5] : List AV) (ac (rfl : ([] : List BoxSt) = []) (ac (L33_num_ok (5 : Int) r_1 h_1 : TripleG prog 21 [] [] [Ii 5] [] (e_T_api_Value r_1)) (ar ([Ii 5] : List AV) (ac (rfl : ([] : List BoxSt) = []) (ac (L33_num_ok (5 : Int) r_2 h_2 : TripleG prog 21 [] [] [Ii 5] [] (e_T_api_Value r_2)) (ar ([Ii 5] : List AV) (ac (rfl : ([] : List BoxSt) = []) (ac (L33_num_ok (5 : Int) r_3 h_3 : TripleG prog 21 [] [] [Ii 5] [] (e_T_api_Value r_3)) (ac (by first | (simp; done) | (simp; omega) : 3 = ((List.map e_T_api_Value ([r_1, r_2, r_3] : List T_api_Value))).length) (ar ([Ii 2, .sl false 3 (Mp e_T_api_Value ([r_1, r_2, r_3] : List T_api_Value))] : List AV) (ac (rfl : ([] : List BoxSt) = []) (ac (column_Encode_ok F (2 : Int) ([r_1, r_2, r_3] : List T_api_Value) r_4 h_4 : TripleG prog 12 [] [] [Ii 2, .sl false 3 (Mp e_T_api_Value ([r_1, r_2, r_3] : List T_api_Value))] [] (.tuple [e_T_api_Packed r_4.1, Ii r_4.2])) an))))))))))))) ?_
 refine sq ?_
 obtain ⟨r_5, h_5, h⟩ := bind_some h
 obtain ⟨r_6, h_6, h⟩ := bind_some h
 obtain ⟨r_7, h_7, h⟩ := bind_some h
 obtain ⟨r_8, h_8, h⟩ := bind_some h
 refine rg [(0, { av := e_T_api_Value r_5, l := [Ii 1] }), (1, { av := e_T_api_Value r_6, l := [Ii 2] }), (2, { av := e_T_api_Value r_7, l := [Ii 3] }), (3, { id := 2 }), (4, { av := .tuple [e_T_api_Packed r_8.1, Ii r_8.2], frz := [2], l := [Ii 2, .sl false 3 (Mp e_T_api_Value ([r_5, r_6, r_7] : List T_api_Value))] }), (8, { id := 3 })] [1, 2, 3, 4] [1, 3] 4 [Pp 1, Ii r_4.2, Pp 3, Ii r_8.2] [Vb 33 (v_T_api_Packed r_4.1), Vb 33 (v_T_api_Packed r_8.1)] hmix (ar ([Ii 1] : List AV) (ac (rfl : ([] : List BoxSt) = []) (ac (L33_num_ok (1 : Int) r_5 h_5 : TripleG prog 21 [] [] [Ii 1] [] (e_T_api_Value r_5)) (ar ([Ii 2] : List AV) (ac (rfl : ([] : List BoxSt) = []) (ac (L33_num_ok (2 : Int) r_6 h_6 : TripleG prog 21 [] [] [Ii 2] [] (e_T_api_Value r_6)) (ar ([Ii 3] : List AV) (ac (rfl : ([] : List BoxSt) = []) (ac (L33_num_ok (3 : Int) r_7 h_7 : TripleG prog 21 [] [] [Ii 3] [] (e_T_api_Value r_7)) (ac (by first | (simp; done) | (simp; omega) : 3 = ((List.map e_T_api_Value ([r_5, r_6, r_7] : List T_api_Value))).length) (ar ([Ii 2, .sl false 3 (Mp e_T_api_Value ([r_5, r_6, r_7] : List T_api_Value))] : List AV) (ac (rfl : ([] : List BoxSt) = []) (ac (column_Encode_ok F (2 : Int) ([r_5, r_6, r_7] : List T_api_Value) r_8 h_8 : TripleG prog 12 [] [] [Ii 2, .sl false 3 (Mp e_T_api_Value ([r_5, r_6, r_7] : List T_api_Value))] [] (.tuple [e_T_api_Packed r_8.1, Ii r_8.2])) an))))))))))))) ?_
 refine sq ?_
 obtain ⟨r_9, h_9, h⟩ := bind_some h
 refine rg [(0, { av := .tuple [e_T_api_Packed r_9.1, Ii r_9.2], l := [Ii 3, .nilsl] }), (4, { id := 4 })] [1, 2, 3, 4, 5, 6] [1, 3, 4] 5 [Pp 1, Ii r_4.2, Pp 3, Ii r_8.2, Pp 4, Ii r_9.2] [Vb 33 (v_T_api_Packed r_4.1), Vb 33 (v_T_api_Packed r_8.1), Vb 33 (v_T_api_Packed r_9.1)] hmix (ar ([Ii 3, .nilsl] : List AV) (ac (rfl : ([] : List BoxSt) = []) (ac (triple_lo (args' := [Ii 3, .sl false 3 []]) (column_Encode_ok F (3 : Int) [] r_9 h_9) rfl ⟨rfl, rfl, trivial⟩ : TripleG prog 12 [] [] [Ii 3, .nilsl] [] (.tuple [e_T_api_Packed r_9.1, Ii r_9.2])) an))) ?_
 refine sq ?_
 obtain ⟨r_10, h_10, h⟩ := bind_some h
 refine rg [(0, { id := 5 }), (2, { av := .tuple [.sl false 3 (Mp e_T_api_Value r_10.1), Ii r_10.2], frz := [5], l := [.agg [Ii 2, Ii 3, .sl false 1 (Mb ([(1 : Int), (6 : Int), (2 : Int), (10 : Int)] : List Int))]] })] [1, 2, 3, 4, 5, 6, 7, 8] [1, 3, 4] 6 [Pp 1, Ii r_4.2, Pp 3, Ii r_8.2, Pp 4, Ii r_9.2, .sl false 3 (Mp e_T_api_Value r_10.1), Ii r_10.2] [Vb 33 (v_T_api_Packed r_4.1), Vb 33 (v_T_api_Packed r_8.1), Vb 33 (v_T_api_Packed r_9.1)] hmix (ac (by first | (simp; done) | (simp; omega) : 4 = ((List.map (AV.int .u8) ([(1 : Int), (6 : Int), (2 : Int), (10 : Int)] : List Int))).length) (ar ([.agg [Ii 2, Ii 3, .sl false 1 (Mb ([(1 : Int), (6 : Int), (2 : Int), (10 : Int)] : List Int))]] : List AV) (ac (rfl : ([] : List BoxSt) = []) (ac (triple_lo (args' := [e_T_api_Packed (⟨(2 : Int), (3 : Int), ([(1 : Int), (6 : Int), (2 : Int), (10 : Int)] : List Int)⟩ : T_api_Packed)]) (column_Decode_ok F (⟨(2 : Int), (3 : Int), ([(1 : Int), (6 : Int), (2 : Int), (10 : Int)] : List Int)⟩ : T_api_Packed) r_10 h_10) rfl ⟨rfl, rfl, rfl, rfl, rfl, trivial⟩ : TripleG prog 14 [] [] [.agg [Ii 2, Ii 3, .sl false 1 (Mb ([(1 : Int), (6 : Int), (2 : Int), (10 : Int)] : List Int))]] [] (.tuple [.sl false 3 (Mp e_T_api_Value r_10.1), Ii r_10.2])) an)))) ?_
 refine sq ?_
 obtain ⟨r_11, h_11, h⟩ := bind_some h
 refine rg [(1, { av := .tuple [Ii r_11.1, Ii r_11.2], l := [e_T_api_Packed r_8.1] })] [1, 2, 3, 4, 5, 6, 7, 8, 9, 10] [1, 3, 4] 6 [Pp 1, Ii r_4.2, Pp 3, Ii r_8.2, Pp 4, Ii r_9.2, .sl false 3 (Mp e_T_api_Value r_10.1), Ii r_10.2, Ii r_11.1, Ii r_11.2] [Vb 33 (v_T_api_Packed r_4.1), Vb 33 (v_T_api_Packed r_8.1), Vb 33 (v_T_api_Packed r_9.1)] hmix (ar ([e_T_api_Packed r_8.1] : List AV) (ac (rfl : ([] : List BoxSt) = []) (ac (column_Coding_ok F r_8.1 r_11 h_11 : TripleG prog 15 [] [] [e_T_api_Packed r_8.1] [] (.tuple [Ii r_11.1, Ii r_11.2])) an))) ?_
 refine sq ?_
 obtain ⟨p_1, h_17, h⟩ := bind_some h
 refine aw_mid (mk [(0, .bool p_1)] [] 0) ?_ ?_
 ·replace h := h_17
  rcases bft (r_4.2 == (0 : Int)) with gg_1 | gg_1
  ·replace h := cond_t gg_1 h
   rcases bft (r_4.1.N == (3 : Int)) with gg_2 | gg_2
   ·replace h := cond_t gg_2 h
    rcases bft (r_4.1.Bytes == ([1, 6, 2, 10] : List Int)) with gg_3 | gg_3
    ·replace h := cond_t gg_3 h
     rcases bft (r_8.2 == (0 : Int)) with gg_4 | gg_4
     ·replace h := cond_t gg_4 h
      rcases bft (r_8.1.Bytes == ([2, 2, 2, 2] : List Int)) with gg_5 | gg_5
      ·replace h := cond_t gg_5 h
       rcases bft (r_9.2 == (0 : Int)) with gg_6 | gg_6
       ·replace h := cond_t gg_6 h
        rcases bft (r_9.1.Bytes == ([0] : List Int)) with gg_7 | gg_7
        ·replace h := cond_t gg_7 h
         rcases bft (r_10.2 == (0 : Int)) with gg_8 | gg_8
         ·replace h := cond_t gg_8 h
          rcases bft ((lN (r_10.1)) == (3 : Int)) with gg_9 | gg_9
          ·replace h := cond_t gg_9 h
           obtain ⟨x_1, h_12, h⟩ := bind_some h
           obtain ⟨r_12, h_13, h⟩ := bind_some h
           rcases bft (decide (x_1 = r_12)) with gg_10 | gg_10
           ·replace h := cond_t gg_10 h
            rcases bft (r_11.1 == (2 : Int)) with gg_11 | gg_11
            ·replace h := cond_t gg_11 h
             rcases bft (r_11.2 == (0 : Int)) with gg_12 | gg_12
             ·replace h := cond_t gg_12 h
              obtain ⟨r_13, h_14, h⟩ := bind_some h
              rcases bft (r_13 == (0 : Int)) with gg_13 | gg_13
              ·replace h := cond_t gg_13 h
               obtain ⟨r_14, h_15, h⟩ := bind_some h
               obtain ⟨r_15, h_16, h⟩ := bind_some h
               refine rg [(6, Ht), (10, { s := r_4.1.Bytes }), (12, Ht), (16, Ht), (20, { s := r_8.1.Bytes }), (22, Ht), (26, Ht), (30, { s := r_9.1.Bytes }), (32, Ht), (36, Ht), (39, { n := (r_10.1).length }), (41, Ht), (44, { av := e_T_api_Value x_1 }), (46, { av := e_T_api_Value r_12, l := [Ii 5] }), (47, { b := (decide (x_1 = r_12)), mks := [.int .i64, .int .i64, .str] }), (48, Ht), (52, Ht), (56, Ht), (59, { av := Ii r_13, l := [Ii 2, .agg [Ii 0, Ii 0, .str ([] : List Int)]] }), (61, Ht), (63, { av := e_T_api_Value r_14, l := [Ii 1] }), (64, { av := Ii r_15, l := [Ii 1, e_T_api_Value r_14] }), (66, Ht)] [0] [] 6 [.bool (r_15 == (14 : Int))] [] hmix (ac gg_1 (ac gg_1 (ac gg_1 (ac gg_1 (ac gg_2 (ac gg_2 (ac gg_2 (ac (rfl : (Mb r_4.1.Bytes) = List.map (AV.int .u8) r_4.1.Bytes) (ac gg_2 (ac gg_2 (ac gg_3 (ac gg_3 (ac gg_3 (ac gg_4 (ac gg_4 (ac gg_4 (ac (rfl : (Mb r_8.1.Bytes) = List.map (AV.int .u8) r_8.1.Bytes) (ac gg_4 (ac gg_4 (ac gg_5 (ac gg_5 (ac gg_5 (ac gg_6 (ac gg_6 (ac gg_6 (ac (rfl : (Mb r_9.1.Bytes) = List.map (AV.int .u8) r_9.1.Bytes) (ac gg_6 (ac gg_6 (ac gg_7 (ac gg_7 (ac gg_7 (ac gg_8 (ac gg_8 (ac (vc_len _ : ((Mp e_T_api_Value r_10.1)).length = (r_10.1).length) (ac gg_8 (ac gg_8 (ac gg_9 (ac gg_9 (ac (vc_idx h_12 : idxA (Mp e_T_api_Value r_10.1) (2 : Int) = some (e_T_api_Value x_1)) (ac gg_9 (ac gg_9 (ar ([Ii 5] : List AV) (ac (rfl : ([] : List BoxSt) = []) (ac (L33_num_ok (5 : Int) r_12 h_13 : TripleG prog 21 [] [] [Ii 5] [] (e_T_api_Value r_12)) (ac gg_9 (ac (eqOk_24 : EqOk prog 24 [.int .i64, .int .i64, .str]) (ac (vc_eqA (f := e_T_api_Value) inj_T_api_Value x_1 r_12 : ((decide (x_1 = r_12)) = true ↔ AV.agg [Ii x_1.Kind, Ii x_1.N, .str x_1.S] = AV.agg [Ii r_12.Kind, Ii r_12.N, .str r_12.S])) (ac gg_9 (ac gg_10 (ac gg_10 (ac gg_10 (ac gg_11 (ac gg_11 (ac gg_11 (ac gg_12 (ac gg_12 (ar ([Ii 2, .agg [Ii 0, Ii 0, .str ([] : List Int)]] : List AV) (ac (rfl : ([] : List BoxSt) = []) (ac (triple_lo (args' := [Ii 2, e_T_api_Value (⟨(0 : Int), (0 : Int), ([] : List Int)⟩ : T_api_Value)]) (column_Value_ok (2 : Int) (⟨(0 : Int), (0 : Int), ([] : List Int)⟩ : T_api_Value) r_13 h_14) rfl ⟨rfl, rfl, rfl, rfl, trivial⟩ : TripleG prog 8 [] [] [Ii 2, .agg [Ii 0, Ii 0, .str ([] : List Int)]] [] (Ii r_13)) (ac gg_12 (ac gg_12 (ac gg_13 (ar ([Ii 1] : List AV) (ac (rfl : ([] : List BoxSt) = []) (ac (L33_num_ok (1 : Int) r_14 h_15 : TripleG prog 21 [] [] [Ii 1] [] (e_T_api_Value r_14)) (ac gg_13 (ar ([Ii 1, e_T_api_Value r_14] : List AV) (ac (rfl : ([] : List BoxSt) = []) (ac (column_Value_ok (1 : Int) r_14 r_15 h_16 : TripleG prog 8 [] [] [Ii 1, e_T_api_Value r_14] [] (Ii r_15)) (ac gg_13 (ac gg_13 an))))))))))))))))))))))))))))))))))))))))))))))))))))))))))))))))))))))) ?_
               cases h
               exact ⟨rfl, (sw [] [] [.s 0] [] an)⟩
              ·replace h := cond_f gg_13 h
               refine rg [(6, Ht), (10, { s := r_4.1.Bytes }), (12, Ht), (16, Ht), (20, { s := r_8.1.Bytes }), (22, Ht), (26, Ht), (30, { s := r_9.1.Bytes }), (32, Ht), (36, Ht), (39, { n := (r_10.1).length }), (41, Ht), (44, { av := e_T_api_Value x_1 }), (46, { av := e_T_api_Value r_12, l := [Ii 5] }), (47, { b := (decide (x_1 = r_12)), mks := [.int .i64, .int .i64, .str] }), (48, Ht), (52, Ht), (56, Ht), (59, { av := Ii r_13, l := [Ii 2, .agg [Ii 0, Ii 0, .str ([] : List Int)]] }), (61, Ht), (63, Hg), (64, Hg), (65, Hg), (66, Hf)] [0] [] 6 [.bool false] [] hmix (ac gg_1 (ac gg_1 (ac gg_1 (ac gg_1 (ac gg_2 (ac gg_2 (ac gg_2 (ac (rfl : (Mb r_4.1.Bytes) = List.map (AV.int .u8) r_4.1.Bytes) (ac gg_2 (ac gg_2 (ac gg_3 (ac gg_3 (ac gg_3 (ac gg_4 (ac gg_4 (ac gg_4 (ac (rfl : (Mb r_8.1.Bytes) = List.map (AV.int .u8) r_8.1.Bytes) (ac gg_4 (ac gg_4 (ac gg_5 (ac gg_5 (ac gg_5 (ac gg_6 (ac gg_6 (ac gg_6 (ac (rfl : (Mb r_9.1.Bytes) = List.map (AV.int .u8) r_9.1.Bytes) (ac gg_6 (ac gg_6 (ac gg_7 (ac gg_7 (ac gg_7 (ac gg_8 (ac gg_8 (ac (vc_len _ : ((Mp e_T_api_Value r_10.1)).length = (r_10.1).length) (ac gg_8 (ac gg_8 (ac gg_9 (ac gg_9 (ac (vc_idx h_12 : idxA (Mp e_T_api_Value r_10.1) (2 : Int) = some (e_T_api_Value x_1)) (ac gg_9 (ac gg_9 (ar ([Ii 5] : List AV) (ac (rfl : ([] : List BoxSt) = []) (ac (L33_num_ok (5 : Int) r_12 h_13 : TripleG prog 21 [] [] [Ii 5] [] (e_T_api_Value r_12)) (ac gg_9 (ac (eqOk_24 : EqOk prog 24 [.int .i64, .int .i64, .str]) (ac (vc_eqA (f := e_T_api_Value) inj_T_api_Value x_1 r_12 : ((decide (x_1 = r_12)) = true ↔ AV.agg [Ii x_1.Kind, Ii x_1.N, .str x_1.S] = AV.agg [Ii r_12.Kind, Ii r_12.N, .str r_12.S])) (ac gg_9 (ac gg_10 (ac gg_10 (ac gg_10 (ac gg_11 (ac gg_11 (ac gg_11 (ac gg_12 (ac gg_12 (ar ([Ii 2, .agg [Ii 0, Ii 0, .str ([] : List Int)]] : List AV) (ac (rfl : ([] : List BoxSt) = []) (ac (triple_lo (args' := [Ii 2, e_T_api_Value (⟨(0 : Int), (0 : Int), ([] : List Int)⟩ : T_api_Value)]) (column_Value_ok (2 : Int) (⟨(0 : Int), (0 : Int), ([] : List Int)⟩ : T_api_Value) r_13 h_14) rfl ⟨rfl, rfl, rfl, rfl, trivial⟩ : TripleG prog 8 [] [] [Ii 2, .agg [Ii 0, Ii 0, .str ([] : List Int)]] [] (Ii r_13)) (ac gg_12 (ac gg_12 (ac gg_13 (ac gg_13 (ac gg_13 (ac gg_13 an))))))))))))))))))))))))))))))))))))))))))))))))))))))))))))))))) ?_
               cases h
               exact ⟨rfl, (sw [] [] [.s 0] [] an)⟩
             ·replace h := cond_f gg_12 h
              refine rg [(6, Ht), (10, { s := r_4.1.Bytes }), (12, Ht), (16, Ht), (20, { s := r_8.1.Bytes }), (22, Ht), (26, Ht), (30, { s := r_9.1.Bytes }), (32, Ht), (36, Ht), (39, { n := (r_10.1).length }), (41, Ht), (44, { av := e_T_api_Value x_1 }), (46, { av := e_T_api_Value r_12, l := [Ii 5] }), (47, { b := (decide (x_1 = r_12)), mks := [.int .i64, .int .i64, .str] }), (48, Ht), (52, Ht), (56, Ht), (58, Hg), (59, Hg), (60, Hg), (61, Hf), (63, Hg), (64, Hg), (65, Hg), (66, Hf)] [0] [] 6 [.bool false] [] hmix (ac gg_1 (ac gg_1 (ac gg_1 (ac gg_1 (ac gg_2 (ac gg_2 (ac gg_2 (ac (rfl : (Mb r_4.1.Bytes) = List.map (AV.int .u8) r_4.1.Bytes) (ac gg_2 (ac gg_2 (ac gg_3 (ac gg_3 (ac gg_3 (ac gg_4 (ac gg_4 (ac gg_4 (ac (rfl : (Mb r_8.1.Bytes) = List.map (AV.int .u8) r_8.1.Bytes) (ac gg_4 (ac gg_4 (ac gg_5 (ac gg_5 (ac gg_5 (ac gg_6 (ac gg_6 (ac gg_6 (ac (rfl : (Mb r_9.1.Bytes) = List.map (AV.int .u8) r_9.1.Bytes) (ac gg_6 (ac gg_6 (ac gg_7 (ac gg_7 (ac gg_7 (ac gg_8 (ac gg_8 (ac (vc_len _ : ((Mp e_T_api_Value r_10.1)).length = (r_10.1).length) (ac gg_8 (ac gg_8 (ac gg_9 (ac gg_9 (ac (vc_idx h_12 : idxA (Mp e_T_api_Value r_10.1) (2 : Int) = some (e_T_api_Value x_1)) (ac gg_9 (ac gg_9 (ar ([Ii 5] : List AV) (ac (rfl : ([] : List BoxSt) = []) (ac (L33_num_ok (5 : Int) r_12 h_13 : TripleG prog 21 [] [] [Ii 5] [] (e_T_api_Value r_12)) (ac gg_9 (ac (eqOk_24 : EqOk prog 24 [.int .i64, .int .i64, .str]) (ac (vc_eqA (f := e_T_api_Value) inj_T_api_Value x_1 r_12 : ((decide (x_1 = r_12)) = true ↔ AV.agg [Ii x_1.Kind, Ii x_1.N, .str x_1.S] = AV.agg [Ii r_12.Kind, Ii r_12.N, .str r_12.S])) (ac gg_9 (ac gg_10 (ac gg_10 (ac gg_10 (ac gg_11 (ac gg_11 (ac gg_11 (ac gg_12 (ac gg_12 (ac gg_12 (ac gg_12 (ac (rfl : false = !true) (ac (rfl : false = !true) (ac (rfl : false = !true) (ar false an)))))))))))))))))))))))))))))))))))))))))))))))))))))))))))))) ?_
              cases h
              exact ⟨rfl, (sw [] [] [.s 0] [] an)⟩
            ·replace h := cond_f gg_11 h
             refine rg [(6, Ht), (10, { s := r_4.1.Bytes }), (12, Ht), (16, Ht), (20, { s := r_8.1.Bytes }), (22, Ht), (26, Ht), (30, { s := r_9.1.Bytes }), (32, Ht), (36, Ht), (39, { n := (r_10.1).length }), (41, Ht), (44, { av := e_T_api_Value x_1 }), (46, { av := e_T_api_Value r_12, l := [Ii 5] }), (47, { b := (decide (x_1 = r_12)), mks := [.int .i64, .int .i64, .str] }), (48, Ht), (52, Ht), (54, Hg), (55, Hg), (56, Hf), (58, Hg), (59, Hg), (60, Hg), (61, Hf), (63, Hg), (64, Hg), (65, Hg), (66, Hf)] [0] [] 6 [.bool false] [] hmix (ac gg_1 (ac gg_1 (ac gg_1 (ac gg_1 (ac gg_2 (ac gg_2 (ac gg_2 (ac (rfl : (Mb r_4.1.Bytes) = List.map (AV.int .u8) r_4.1.Bytes) (ac gg_2 (ac gg_2 (ac gg_3 (ac gg_3 (ac gg_3 (ac gg_4 (ac gg_4 (ac gg_4 (ac (rfl : (Mb r_8.1.Bytes) = List.map (AV.int .u8) r_8.1.Bytes) (ac gg_4 (ac gg_4 (ac gg_5 (ac gg_5 (ac gg_5 (ac gg_6 (ac gg_6 (ac gg_6 (ac (rfl : (Mb r_9.1.Bytes) = List.map (AV.int .u8) r_9.1.Bytes) (ac gg_6 (ac gg_6 (ac gg_7 (ac gg_7 (ac gg_7 (ac gg_8 (ac gg_8 (ac (vc_len _ : ((Mp e_T_api_Value r_10.1)).length = (r_10.1).length) (ac gg_8 (ac gg_8 (ac gg_9 (ac gg_9 (ac (vc_idx h_12 : idxA (Mp e_T_api_Value r_10.1) (2 : Int) = some (e_T_api_Value x_1)) (ac gg_9 (ac gg_9 (ar ([Ii 5] : List AV) (ac (rfl : ([] : List BoxSt) = []) (ac (L33_num_ok (5 : Int) r_12 h_13 : TripleG prog 21 [] [] [Ii 5] [] (e_T_api_Value r_12)) (ac gg_9 (ac (eqOk_24 : EqOk prog 24 [.int .i64, .int .i64, .str]) (ac (vc_eqA (f := e_T_api_Value) inj_T_api_Value x_1 r_12 : ((decide (x_1 = r_12)) = true ↔ AV.agg [Ii x_1.Kind, Ii x_1.N, .str x_1.S] = AV.agg [Ii r_12.Kind, Ii r_12.N, .str r_12.S])) (ac gg_9 (ac gg_10 (ac gg_10 (ac gg_10 (ac gg_11 (ac gg_11 (ac gg_11 (ac (rfl : false = !true) (ac (rfl : false = !true) (ac (rfl : false = !true) (ar false (ac (rfl : false = !true) (ac (rfl : false = !true) (ac (rfl : false = !true) (ar false an)))))))))))))))))))))))))))))))))))))))))))))))))))))))))))))) ?_
             cases h
             exact ⟨rfl, (sw [] [] [.s 0] [] an)⟩
           ·replace h := cond_f gg_10 h
            refine rg [(6, Ht), (10, { s := r_4.1.Bytes }), (12, Ht), (16, Ht), (20, { s := r_8.1.Bytes }), (22, Ht), (26, Ht), (30, { s := r_9.1.Bytes }), (32, Ht), (36, Ht), (39, { n := (r_10.1).length }), (41, Ht), (44, { av := e_T_api_Value x_1 }), (46, { av := e_T_api_Value r_12, l := [Ii 5] }), (47, { b := (decide (x_1 = r_12)), mks := [.int .i64, .int .i64, .str] }), (48, Ht), (50, Hg), (51, Hg), (52, Hf), (54, Hg), (55, Hg), (56, Hf), (58, Hg), (59, Hg), (60, Hg), (61, Hf), (63, Hg), (64, Hg), (65, Hg), (66, Hf)] [0] [] 6 [.bool false] [] hmix (ac gg_1 (ac gg_1 (ac gg_1 (ac gg_1 (ac gg_2 (ac gg_2 (ac gg_2 (ac (rfl : (Mb r_4.1.Bytes) = List.map (AV.int .u8) r_4.1.Bytes) (ac gg_2 (ac gg_2 (ac gg_3 (ac gg_3 (ac gg_3 (ac gg_4 (ac gg_4 (ac gg_4 (ac (rfl : (Mb r_8.1.Bytes) = List.map (AV.int .u8) r_8.1.Bytes) (ac gg_4 (ac gg_4 (ac gg_5 (ac gg_5 (ac gg_5 (ac gg_6 (ac gg_6 (ac gg_6 (ac (rfl : (Mb r_9.1.Bytes) = List.map (AV.int .u8) r_9.1.Bytes) (ac gg_6 (ac gg_6 (ac gg_7 (ac gg_7 (ac gg_7 (ac gg_8 (ac gg_8 (ac (vc_len _ : ((Mp e_T_api_Value r_10.1)).length = (r_10.1).length) (ac gg_8 (ac gg_8 (ac gg_9 (ac gg_9 (ac (vc_idx h_12 : idxA (Mp e_T_api_Value r_10.1) (2 : Int) = some (e_T_api_Value x_1)) (ac gg_9 (ac gg_9 (ar ([Ii 5] : List AV) (ac (rfl : ([] : List BoxSt) = []) (ac (L33_num_ok (5 : Int) r_12 h_13 : TripleG prog 21 [] [] [Ii 5] [] (e_T_api_Value r_12)) (ac gg_9 (ac (eqOk_24 : EqOk prog 24 [.int .i64, .int .i64, .str]) (ac (vc_eqA (f := e_T_api_Value) inj_T_api_Value x_1 r_12 : ((decide (x_1 = r_12)) = true ↔ AV.agg [Ii x_1.Kind, Ii x_1.N, .str x_1.S] = AV.agg [Ii r_12.Kind, Ii r_12.N, .str r_12.S])) (ac gg_9 (ac gg_10 (ac gg_10 (ac gg_10 (ac (rfl : false = !true) (ac (rfl : false = !true) (ar false (ac (rfl : false = !true) (ac (rfl : false = !true) (ac (rfl : false = !true) (ar false (ac (rfl : false = !true) (ac (rfl : false = !true) (ac (rfl : false = !true) (ar false an)))))))))))))))))))))))))))))))))))))))))))))))))))))))))))))) ?_
            cases h
            exact ⟨rfl, (sw [] [] [.s 0] [] an)⟩
          ·replace h := cond_f gg_9 h
           refine rg [(6, Ht), (10, { s := r_4.1.Bytes }), (12, Ht), (16, Ht), (20, { s := r_8.1.Bytes }), (22, Ht), (26, Ht), (30, { s := r_9.1.Bytes }), (32, Ht), (36, Ht), (39, { n := (r_10.1).length }), (41, Ht), (43, Hg), (44, Hg), (45, Hg), (46, Hg), (47, Hg), (48, Hf), (50, Hg), (51, Hg), (52, Hf), (54, Hg), (55, Hg), (56, Hf), (58, Hg), (59, Hg), (60, Hg), (61, Hf), (63, Hg), (64, Hg), (65, Hg), (66, Hf)] [0] [] 6 [.bool false] [] hmix (ac gg_1 (ac gg_1 (ac gg_1 (ac gg_1 (ac gg_2 (ac gg_2 (ac gg_2 (ac (rfl : (Mb r_4.1.Bytes) = List.map (AV.int .u8) r_4.1.Bytes) (ac gg_2 (ac gg_2 (ac gg_3 (ac gg_3 (ac gg_3 (ac gg_4 (ac gg_4 (ac gg_4 (ac (rfl : (Mb r_8.1.Bytes) = List.map (AV.int .u8) r_8.1.Bytes) (ac gg_4 (ac gg_4 (ac gg_5 (ac gg_5 (ac gg_5 (ac gg_6 (ac gg_6 (ac gg_6 (ac (rfl : (Mb r_9.1.Bytes) = List.map (AV.int .u8) r_9.1.Bytes) (ac gg_6 (ac gg_6 (ac gg_7 (ac gg_7 (ac gg_7 (ac gg_8 (ac gg_8 (ac (vc_len _ : ((Mp e_T_api_Value r_10.1)).length = (r_10.1).length) (ac gg_8 (ac gg_8 (ac gg_9 (ac gg_9 (ac gg_9 (ac gg_9 (ac gg_9 (ac gg_9 (ac (rfl : false = !true) (ac (rfl : false = !true) (ar false (ac (rfl : false = !true) (ac (rfl : false = !true) (ar false (ac (rfl : false = !true) (ac (rfl : false = !true) (ac (rfl : false = !true) (ar false (ac (rfl : false = !true) (ac (rfl : false = !true) (ac (rfl : false = !true) (ar false an)))))))))))))))))))))))))))))))))))))))))))))))))))))))) ?_
           cases h
           exact ⟨rfl, (sw [] [] [.s 0] [] an)⟩
         ·replace h := cond_f gg_8 h
          refine rg [(6, Ht), (10, { s := r_4.1.Bytes }), (12, Ht), (16, Ht), (20, { s := r_8.1.Bytes }), (22, Ht), (26, Ht), (30, { s := r_9.1.Bytes }), (32, Ht), (36, Ht), (38, Hg), (39, Hg), (40, Hg), (41, Hf), (43, Hg), (44, Hg), (45, Hg), (46, Hg), (47, Hg), (48, Hf), (50, Hg), (51, Hg), (52, Hf), (54, Hg), (55, Hg), (56, Hf), (58, Hg), (59, Hg), (60, Hg), (61, Hf), (63, Hg), (64, Hg), (65, Hg), (66, Hf)] [0] [] 6 [.bool false] [] hmix (ac gg_1 (ac gg_1 (ac gg_1 (ac gg_1 (ac gg_2 (ac gg_2 (ac gg_2 (ac (rfl : (Mb r_4.1.Bytes) = List.map (AV.int .u8) r_4.1.Bytes) (ac gg_2 (ac gg_2 (ac gg_3 (ac gg_3 (ac gg_3 (ac gg_4 (ac gg_4 (ac gg_4 (ac (rfl : (Mb r_8.1.Bytes) = List.map (AV.int .u8) r_8.1.Bytes) (ac gg_4 (ac gg_4 (ac gg_5 (ac gg_5 (ac gg_5 (ac gg_6 (ac gg_6 (ac gg_6 (ac (rfl : (Mb r_9.1.Bytes) = List.map (AV.int .u8) r_9.1.Bytes) (ac gg_6 (ac gg_6 (ac gg_7 (ac gg_7 (ac gg_7 (ac gg_8 (ac gg_8 (ac gg_8 (ac gg_8 (ac (rfl : false = !true) (ac (rfl : false = !true) (ac (rfl : false = !true) (ac (rfl : false = !true) (ac (rfl : false = !true) (ar false (ac (rfl : false = !true) (ac (rfl : false = !true) (ar false (ac (rfl : false = !true) (ac (rfl : false = !true) (ar false (ac (rfl : false = !true) (ac (rfl : false = !true) (ac (rfl : false = !true) (ar false (ac (rfl : false = !true) (ac (rfl : false = !true) (ac (rfl : false = !true) (ar false an))))))))))))))))))))))))))))))))))))))))))))))))))))))) ?_
          cases h
          exact ⟨rfl, (sw [] [] [.s 0] [] an)⟩
        ·replace h := cond_f gg_7 h
         refine rg [(6, Ht), (10, { s := r_4.1.Bytes }), (12, Ht), (16, Ht), (20, { s := r_8.1.Bytes }), (22, Ht), (26, Ht), (30, { s := r_9.1.Bytes }), (32, Ht), (34, Hg), (35, Hg), (36, Hf), (38, Hg), (39, Hg), (40, Hg), (41, Hf), (43, Hg), (44, Hg), (45, Hg), (46, Hg), (47, Hg), (48, Hf), (50, Hg), (51, Hg), (52, Hf), (54, Hg), (55, Hg), (56, Hf), (58, Hg), (59, Hg), (60, Hg), (61, Hf), (63, Hg), (64, Hg), (65, Hg), (66, Hf)] [0] [] 6 [.bool false] [] hmix (ac gg_1 (ac gg_1 (ac gg_1 (ac gg_1 (ac gg_2 (ac gg_2 (ac gg_2 (ac (rfl : (Mb r_4.1.Bytes) = List.map (AV.int .u8) r_4.1.Bytes) (ac gg_2 (ac gg_2 (ac gg_3 (ac gg_3 (ac gg_3 (ac gg_4 (ac gg_4 (ac gg_4 (ac (rfl : (Mb r_8.1.Bytes) = List.map (AV.int .u8) r_8.1.Bytes) (ac gg_4 (ac gg_4 (ac gg_5 (ac gg_5 (ac gg_5 (ac gg_6 (ac gg_6 (ac gg_6 (ac (rfl : (Mb r_9.1.Bytes) = List.map (AV.int .u8) r_9.1.Bytes) (ac gg_6 (ac gg_6 (ac gg_7 (ac gg_7 (ac gg_7 (ac (rfl : false = !true) (ac (rfl : false = !true) (ac (rfl : false = !true) (ar false (ac (rfl : false = !true) (ac (rfl : false = !true) (ac (rfl : false = !true) (ac (rfl : false = !true) (ac (rfl : false = !true) (ar false (ac (rfl : false = !true) (ac (rfl : false = !true) (ar false (ac (rfl : false = !true) (ac (rfl : false = !true) (ar false (ac (rfl : false = !true) (ac (rfl : false = !true) (ac (rfl : false = !true) (ar false (ac (rfl : false = !true) (ac (rfl : false = !true) (ac (rfl : false = !true) (ar false an))))))))))))))))))))))))))))))))))))))))))))))))))))))) ?_
         cases h
         exact ⟨rfl, (sw [] [] [.s 0] [] an)⟩
       ·replace h := cond_f gg_6 h
        refine rg [(6, Ht), (10, { s := r_4.1.Bytes }), (12, Ht), (16, Ht), (20, { s := r_8.1.Bytes }), (22, Ht), (26, Ht), (28, Hg), (29, Hg), (30, Hg), (31, Hg), (32, Hf), (34, Hg), (35, Hg), (36, Hf), (38, Hg), (39, Hg), (40, Hg), (41, Hf), (43, Hg), (44, Hg), (45, Hg), (46, Hg), (47, Hg), (48, Hf), (50, Hg), (51, Hg), (52, Hf), (54, Hg), (55, Hg), (56, Hf), (58, Hg), (59, Hg), (60, Hg), (61, Hf), (63, Hg), (64, Hg), (65, Hg), (66, Hf)] [0] [] 6 [.bool false] [] hmix (ac gg_1 (ac gg_1 (ac gg_1 (ac gg_1 (ac gg_2 (ac gg_2 (ac gg_2 (ac (rfl : (Mb r_4.1.Bytes) = List.map (AV.int .u8) r_4.1.Bytes) (ac gg_2 (ac gg_2 (ac gg_3 (ac gg_3 (ac gg_3 (ac gg_4 (ac gg_4 (ac gg_4 (ac (rfl : (Mb r_8.1.Bytes) = List.map (AV.int .u8) r_8.1.Bytes) (ac gg_4 (ac gg_4 (ac gg_5 (ac gg_5 (ac gg_5 (ac gg_6 (ac gg_6 (ac gg_6 (ac gg_6 (ac gg_6 (ac (rfl : false = !true) (ac (rfl : false = !true) (ar false (ac (rfl : false = !true) (ac (rfl : false = !true) (ac (rfl : false = !true) (ar false (ac (rfl : false = !true) (ac (rfl : false = !true) (ac (rfl : false = !true) (ac (rfl : false = !true) (ac (rfl : false = !true) (ar false (ac (rfl : false = !true) (ac (rfl : false = !true) (ar false (ac (rfl : false = !true) (ac (rfl : false = !true) (ar false (ac (rfl : false = !true) (ac (rfl : false = !true) (ac (rfl : false = !true) (ar false (ac (rfl : false = !true) (ac (rfl : false = !true) (ac (rfl : false = !true) (ar false an)))))))))))))))))))))))))))))))))))))))))))))))))))))) ?_
        cases h
        exact ⟨rfl, (sw [] [] [.s 0] [] an)⟩
      ·replace h := cond_f gg_5 h
       refine rg [(6, Ht), (10, { s := r_4.1.Bytes }), (12, Ht), (16, Ht), (20, { s := r_8.1.Bytes }), (22, Ht), (24, Hg), (25, Hg), (26, Hf), (28, Hg), (29, Hg), (30, Hg), (31, Hg), (32, Hf), (34, Hg), (35, Hg), (36, Hf), (38, Hg), (39, Hg), (40, Hg), (41, Hf), (43, Hg), (44, Hg), (45, Hg), (46, Hg), (47, Hg), (48, Hf), (50, Hg), (51, Hg), (52, Hf), (54, Hg), (55, Hg), (56, Hf), (58, Hg), (59, Hg), (60, Hg), (61, Hf), (63, Hg), (64, Hg), (65, Hg), (66, Hf)] [0] [] 6 [.bool false] [] hmix (ac gg_1 (ac gg_1 (ac gg_1 (ac gg_1 (ac gg_2 (ac gg_2 (ac gg_2 (ac (rfl : (Mb r_4.1.Bytes) = List.map (AV.int .u8) r_4.1.Bytes) (ac gg_2 (ac gg_2 (ac gg_3 (ac gg_3 (ac gg_3 (ac gg_4 (ac gg_4 (ac gg_4 (ac (rfl : (Mb r_8.1.Bytes) = List.map (AV.int .u8) r_8.1.Bytes) (ac gg_4 (ac gg_4 (ac gg_5 (ac gg_5 (ac gg_5 (ac (rfl : false = !true) (ac (rfl : false = !true) (ac (rfl : false = !true) (ac (rfl : false = !true) (ar false (ac (rfl : false = !true) (ac (rfl : false = !true) (ar false (ac (rfl : false = !true) (ac (rfl : false = !true) (ac (rfl : false = !true) (ar false (ac (rfl : false = !true) (ac (rfl : false = !true) (ac (rfl : false = !true) (ac (rfl : false = !true) (ac (rfl : false = !true) (ar false (ac (rfl : false = !true) (ac (rfl : false = !true) (ar false (ac (rfl : false = !true) (ac (rfl : false = !true) (ar false (ac (rfl : false = !true) (ac (rfl : false = !true) (ac (rfl : false = !true) (ar false (ac (rfl : false = !true) (ac (rfl : false = !true) (ac (rfl : false = !true) (ar false an)))))))))))))))))))))))))))))))))))))))))))))))))))))) ?_
       cases h
       exact ⟨rfl, (sw [] [] [.s 0] [] an)⟩
     ·replace h := cond_f gg_4 h
      refine rg [(6, Ht), (10, { s := r_4.1.Bytes }), (12, Ht), (16, Ht), (18, Hg), (19, Hg), (20, Hg), (21, Hg), (22, Hf), (24, Hg), (25, Hg), (26, Hf), (28, Hg), (29, Hg), (30, Hg), (31, Hg), (32, Hf), (34, Hg), (35, Hg), (36, Hf), (38, Hg), (39, Hg), (40, Hg), (41, Hf), (43, Hg), (44, Hg), (45, Hg), (46, Hg), (47, Hg), (48, Hf), (50, Hg), (51, Hg), (52, Hf), (54, Hg), (55, Hg), (56, Hf), (58, Hg), (59, Hg), (60, Hg), (61, Hf), (63, Hg), (64, Hg), (65, Hg), (66, Hf)] [0] [] 6 [.bool false] [] hmix (ac gg_1 (ac gg_1 (ac gg_1 (ac gg_1 (ac gg_2 (ac gg_2 (ac gg_2 (ac (rfl : (Mb r_4.1.Bytes) = List.map (AV.int .u8) r_4.1.Bytes) (ac gg_2 (ac gg_2 (ac gg_3 (ac gg_3 (ac gg_3 (ac gg_4 (ac gg_4 (ac gg_4 (ac gg_4 (ac gg_4 (ac (rfl : false = !true) (ac (rfl : false = !true) (ar false (ac (rfl : false = !true) (ac (rfl : false = !true) (ac (rfl : false = !true) (ac (rfl : false = !true) (ar false (ac (rfl : false = !true) (ac (rfl : false = !true) (ar false (ac (rfl : false = !true) (ac (rfl : false = !true) (ac (rfl : false = !true) (ar false (ac (rfl : false = !true) (ac (rfl : false = !true) (ac (rfl : false = !true) (ac (rfl : false = !true) (ac (rfl : false = !true) (ar false (ac (rfl : false = !true) (ac (rfl : false = !true) (ar false (ac (rfl : false = !true) (ac (rfl : false = !true) (ar false (ac (rfl : false = !true) (ac (rfl : false = !true) (ac (rfl : false = !true) (ar false (ac (rfl : false = !true) (ac (rfl : false = !true) (ac (rfl : false = !true) (ar false an))))))))))))))))))))))))))))))))))))))))))))))))))))) ?_
      cases h
      exact ⟨rfl, (sw [] [] [.s 0] [] an)⟩
    ·replace h := cond_f gg_3 h
     refine rg [(6, Ht), (10, { s := r_4.1.Bytes }), (12, Ht), (14, Hg), (15, Hg), (16, Hf), (18, Hg), (19, Hg), (20, Hg), (21, Hg), (22, Hf), (24, Hg), (25, Hg), (26, Hf), (28, Hg), (29, Hg), (30, Hg), (31, Hg), (32, Hf), (34, Hg), (35, Hg), (36, Hf), (38, Hg), (39, Hg), (40, Hg), (41, Hf), (43, Hg), (44, Hg), (45, Hg), (46, Hg), (47, Hg), (48, Hf), (50, Hg), (51, Hg), (52, Hf), (54, Hg), (55, Hg), (56, Hf), (58, Hg), (59, Hg), (60, Hg), (61, Hf), (63, Hg), (64, Hg), (65, Hg), (66, Hf)] [0] [] 6 [.bool false] [] hmix (ac gg_1 (ac gg_1 (ac gg_1 (ac gg_1 (ac gg_2 (ac gg_2 (ac gg_2 (ac (rfl : (Mb r_4.1.Bytes) = List.map (AV.int .u8) r_4.1.Bytes) (ac gg_2 (ac gg_2 (ac gg_3 (ac gg_3 (ac gg_3 (ac (rfl : false = !true) (ac (rfl : false = !true) (ac (rfl : false = !true) (ac (rfl : false = !true) (ar false (ac (rfl : false = !true) (ac (rfl : false = !true) (ar false (ac (rfl : false = !true) (ac (rfl : false = !true) (ac (rfl : false = !true) (ac (rfl : false = !true) (ar false (ac (rfl : false = !true) (ac (rfl : false = !true) (ar false (ac (rfl : false = !true) (ac (rfl : false = !true) (ac (rfl : false = !true) (ar false (ac (rfl : false = !true) (ac (rfl : false = !true) (ac (rfl : false = !true) (ac (rfl : false = !true) (ac (rfl : false = !true) (ar false (ac (rfl : false = !true) (ac (rfl : false = !true) (ar false (ac (rfl : false = !true) (ac (rfl : false = !true) (ar false (ac (rfl : false = !true) (ac (rfl : false = !true) (ac (rfl : false = !true) (ar false (ac (rfl : false = !true) (ac (rfl : false = !true) (ac (rfl : false = !true) (ar false an))))))))))))))))))))))))))))))))))))))))))))))))))))) ?_
     cases h
     exact ⟨rfl, (sw [] [] [.s 0] [] an)⟩
   ·replace h := cond_f gg_2 h
    refine rg [(6, Ht), (8, Hg), (9, Hg), (10, Hg), (11, Hg), (12, Hf), (14, Hg), (15, Hg), (16, Hf), (18, Hg), (19, Hg), (20, Hg), (21, Hg), (22, Hf), (24, Hg), (25, Hg), (26, Hf), (28, Hg), (29, Hg), (30, Hg), (31, Hg), (32, Hf), (34, Hg), (35, Hg), (36, Hf), (38, Hg), (39, Hg), (40, Hg), (41, Hf), (43, Hg), (44, Hg), (45, Hg), (46, Hg), (47, Hg), (48, Hf), (50, Hg), (51, Hg), (52, Hf), (54, Hg), (55, Hg), (56, Hf), (58, Hg), (59, Hg), (60, Hg), (61, Hf), (63, Hg), (64, Hg), (65, Hg), (66, Hf)] [0] [] 6 [.bool false] [] hmix (ac gg_1 (ac gg_1 (ac gg_1 (ac gg_1 (ac gg_2 (ac gg_2 (ac gg_2 (ac gg_2 (ac gg_2 (ac (rfl : false = !true) (ac (rfl : false = !true) (ar false (ac (rfl : false = !true) (ac (rfl : false = !true) (ac (rfl : false = !true) (ac (rfl : false = !true) (ar false (ac (rfl : false = !true) (ac (rfl : false = !true) (ar false (ac (rfl : false = !true) (ac (rfl : false = !true) (ac (rfl : false = !true) (ac (rfl : false = !true) (ar false (ac (rfl : false = !true) (ac (rfl : false = !true) (ar false (ac (rfl : false = !true) (ac (rfl : false = !true) (ac (rfl : false = !true) (ar false (ac (rfl : false = !true) (ac (rfl : false = !true) (ac (rfl : false = !true) (ac (rfl : false = !true) (ac (rfl : false = !true) (ar false (ac (rfl : false = !true) (ac (rfl : false = !true) (ar false (ac (rfl : false = !true) (ac (rfl : false = !true) (ar false (ac (rfl : false = !true) (ac (rfl : false = !true) (ac (rfl : false = !true) (ar false (ac (rfl : false = !true) (ac (rfl : false = !true) (ac (rfl : false = !true) (ar false an)))))))))))))))))))))))))))))))))))))))))))))))))))) ?_
    cases h
    exact ⟨rfl, (sw [] [] [.s 0] [] an)⟩
  ·replace h := cond_f gg_1 h
   refine rg [(3, Hg), (4, Hg), (5, Hg), (6, Hf), (8, Hg), (9, Hg), (10, Hg), (11, Hg), (12, Hf), (14, Hg), (15, Hg), (16, Hf), (18, Hg), (19, Hg), (20, Hg), (21, Hg), (22, Hf), (24, Hg), (25, Hg), (26, Hf), (28, Hg), (29, Hg), (30, Hg), (31, Hg), (32, Hf), (34, Hg), (35, Hg), (36, Hf), (38, Hg), (39, Hg), (40, Hg), (41, Hf), (43, Hg), (44, Hg), (45, Hg), (46, Hg), (47, Hg), (48, Hf), (50, Hg), (51, Hg), (52, Hf), (54, Hg), (55, Hg), (56, Hf), (58, Hg), (59, Hg), (60, Hg), (61, Hf), (63, Hg), (64, Hg), (65, Hg), (66, Hf)] [0] [] 6 [.bool false] [] hmix (ac gg_1 (ac gg_1 (ac gg_1 (ac gg_1 (ac (rfl : false = !true) (ac (rfl : false = !true) (ac (rfl : false = !true) (ac (rfl : false = !true) (ar false (ac (rfl : false = !true) (ac (rfl : false = !true) (ar false (ac (rfl : false = !true) (ac (rfl : false = !true) (ac (rfl : false = !true) (ac (rfl : false = !true) (ar false (ac (rfl : false = !true) (ac (rfl : false = !true) (ar false (ac (rfl : false = !true) (ac (rfl : false = !true) (ac (rfl : false = !true) (ac (rfl : false = !true) (ar false (ac (rfl : false = !true) (ac (rfl : false = !true) (ar false (ac (rfl : false = !true) (ac (rfl : false = !true) (ac (rfl : false = !true) (ar false (ac (rfl : false = !true) (ac (rfl : false = !true) (ac (rfl : false = !true) (ac (rfl : false = !true) (ac (rfl : false = !true) (ar false (ac (rfl : false = !true) (ac (rfl : false = !true) (ar false (ac (rfl : false = !true) (ac (rfl : false = !true) (ar false (ac (rfl : false = !true) (ac (rfl : false = !true) (ac (rfl : false = !true) (ar false (ac (rfl : false = !true) (ac (rfl : false = !true) (ac (rfl : false = !true) (ar false an)))))))))))))))))))))))))))))))))))))))))))))))))))) ?_
   cases h
   exact ⟨rfl, (sw [] [] [.s 0] [] an)⟩
 refine rt ?_
 cases h
 exact ⟨.inr rfl, Nat.le_of_ble_eq_true rfl, by kernel_rfl⟩

theorem L33_few_ok (F : Nat) (l_1 : List (T_api_Value)) (r : Bool) (h : L33_few F l_1 = some r) : TripleG prog 11 [] [] [.sl false 3 (Mp e_T_api_Value l_1)] [] (.bool r) := by
 refine triple_intro (fn := Go.Proofs.Try.f11) (code := codeOf Go.Proofs.Try.f11) (by kernel_rfl) (by kernel_rfl) (Nat.le_of_ble_eq_true (by kernel_rfl)) ?_
 unfold L33_few at h
 refine sr [] [0] [] 0 [.sl false 3 (Mp e_T_api_Value l_1)] [] hmix an ?_
 refine sq ?_
 refine sr [(1, { n := (l_1).length })] [0, 6] [] 0 [.sl false 3 (Mp e_T_api_Value l_1), .bool (decide ((lN (l_1)) > (60 : Int)))] [] hmix (ac (vc_len _ : ((Mp e_T_api_Value l_1)).length = (l_1).length) an) ?_
 refine cd 6 (decide ((lN (l_1)) > (60 : Int))) ?_ ?_
 ·intro g_1; replace h := cond_t g_1 h
  refine sr [] [2] [] 0 [.bool false] [] hmix an ?_
  refine rt ?_
  cases h
  exact ⟨.inr rfl, Nat.le_of_ble_eq_true rfl, by kernel_rfl⟩
 intro g_1; replace h := cond_f g_1 h
 refine sk ?_
 refine sq ?_
 refine sr [] [0, 3] [] 0 [.sl false 3 (Mp e_T_api_Value l_1), Ii 0] [] hmix an ?_
 obtain ⟨o_1, h_1, h⟩ := bind_some h
 refine aw_conv (K1 := (fun e st' => match o_1 with | (.inl q0) => e = .normal ∧ Sub 0 st' (mk [] [] 0) | (.inr q1) => e = .ret ∧ FinR prog Go.Proofs.Try.f11 0 [] (.bool q1) st')) ?_ ?_
 ·replace h := h_1
  refine aw_block (id := 0) (by kernel_rfl) ?_
  refine wk [] [] [.s 0, .s 3] [] [(0, .sl false 3 (Mp e_T_api_Value l_1)), (3, Ii 0)] [] an ?_
  refine aw_loopF (fun n st => ∃ (i_1 : Int), st = mk [(0, .sl false 3 (Mp e_T_api_Value l_1)), (3, Ii i_1)] [] 0 ∧ L33_few_L1 F l_1 n i_1 = some o_1) F (by kernel_rfl) ⟨_, rfl, h⟩ ?_ ?_
  ·rintro _ ⟨_, _, h⟩; exact none_ne (h : (none : Option (Unit ⊕ Bool)) = some o_1)
  rintro n_1 _ ⟨i_1, rfl, h⟩
  replace h : L33_few_L1_body F l_1 (L33_few_L1 F l_1 n_1) i_1 = some o_1 := h
  unfold L33_few_L1_body at h
  refine sq ?_
  refine sr [(2, { n := (l_1).length })] [0, 3, 10] [] 0 [.sl false 3 (Mp e_T_api_Value l_1), Ii i_1, .bool (decide (i_1 < (lN (l_1))))] [] hmix (ac (vc_len _ : ((Mp e_T_api_Value l_1)).length = (l_1).length) an) ?_
  refine cd 10 (decide (i_1 < (lN (l_1)))) ?_ ?_
  rotate_left
  ·intro g_2; replace h := cond_f g_2 h
   refine aw_exit (id := 0) (by kernel_rfl) ?_
   cases h
   exact ⟨rfl, (sw [] [] [] [] an)⟩
  intro g_2; replace h := cond_t g_2 h
  refine sk ?_
  refine sq ?_
  refine aw_block (id := 1) (by kernel_rfl) ?_
  refine sq ?_
  obtain ⟨x_1, h_2, h⟩ := bind_some h
  refine rg [(2, { av := e_T_api_Value x_1 })] [0, 3, 19] [] 0 [.sl false 3 (Mp e_T_api_Value l_1), Ii i_1, .bool (decide ((lN (x_1.S)) > (300 : Int)))] [] hmix (ac (vc_idx h_2 : idxA (Mp e_T_api_Value l_1) i_1 = some (e_T_api_Value x_1)) an) ?_
  refine cd 19 (decide ((lN (x_1.S)) > (300 : Int))) ?_ ?_
  rotate_left
  ·intro g_3; replace h := cond_f g_3 h
   refine sk ?_
   refine rg [] [0, 3] [] 0 [.sl false 3 (Mp e_T_api_Value l_1), Ii (w_i64 (i_1 + (1 : Int)))] [] hmix an ?_
   exact ⟨_, (sw [] [] [.s 0, .s 3] [] an), _, rfl, h⟩
  intro g_3; replace h := cond_t g_3 h
  refine sr [] [2] [] 0 [.bool false] [] hmix an ?_
  refine rt ?_
  cases h
  exact ⟨rfl, Nat.le_of_ble_eq_true rfl, by kernel_rfl⟩
 intro e st1 hk
 rcases o_1 with q_1 | q_2
 rotate_left
 ·obtain ⟨rfl, hf⟩ := hk
  cases h
  exact ⟨st1, Sub.refl _ _, .inr rfl, hf⟩
 obtain ⟨rfl, hs⟩ := hk
 refine ⟨_, hs, ?_⟩
 refine sr [] [2] [] 0 [.bool true] [] hmix an ?_
 refine rt ?_
 cases h
 exact ⟨.inr rfl, Nat.le_of_ble_eq_true rfl, by kernel_rfl⟩

theorem R05_number_ok (n_1 : Int) (r : Int) (h : R05_number n_1 = some r) : TripleG prog 49 [] [] [Ii n_1] [] (.int .u64 r) := by
 refine triple_intro (fn := Go.Proofs.Try.f49) (code := codeOf Go.Proofs.Try.f49) (by kernel_rfl) (by kernel_rfl) (Nat.le_of_ble_eq_true (by kernel_rfl)) ?_
 unfold R05_number at h
 refine sr [] [0] [] 0 [Ii n_1] [] hmix an ?_
 refine sq ?_
 refine sr [] [0, 4] [] 0 [Ii n_1, .bool (decide (n_1 < (0 : Int)))] [] hmix an ?_
 refine cd 4 (decide (n_1 < (0 : Int))) ?_ ?_
 ·intro g_1; replace h := cond_t g_1 h
  refine sr [] [2] [] 0 [.int .u64 (w_u64 ((w_u64 ((2 : Int) * (w_u64 (w_i64 (0 - (w_i64 (n_1 + (1 : Int)))))))) + (1 : Int)))] [] hmix an ?_
  refine rt ?_
  cases h
  exact ⟨.inr rfl, Nat.le_of_ble_eq_true rfl, by kernel_rfl⟩
 intro g_1; replace h := cond_f g_1 h
 refine sk ?_
 refine sr [] [2] [] 0 [.int .u64 (w_u64 ((2 : Int) * (w_u64 n_1)))] [] hmix an ?_
 refine rt ?_
 cases h
 exact ⟨.inr rfl, Nat.le_of_ble_eq_true rfl, by kernel_rfl⟩

theorem R05_PutInt_ok (F : Nat) (b_1 : List (Int)) (n_1 : Int) (r : (List (Int))) (h : R05_PutInt F b_1 n_1 = some r) : TripleG prog 38 [] [] [.sl false 1 (Mb b_1), Ii n_1] [.row 5 1 (Mb r)] (.own 0 ((r).length)) := by
 refine triple_intro (fn := Go.Proofs.Try.f38) (code := codeOf Go.Proofs.Try.f38) (by kernel_rfl) (by kernel_rfl) (Nat.le_of_ble_eq_true (by kernel_rfl)) ?_
 unfold R05_PutInt at h
 refine sr [(0, { id := 0, m := 1 })] [0, 1] [] 1 [.sl false 1 (Mb b_1), Ii n_1] [] hmix an ?_
 refine sq ?_
 obtain ⟨_, h_1, h⟩ := bind_some h; replace h_1 := need_some h_1
 refine rg [(0, { id := 1 }), (2, { id := 2, l := (Mb ([] ++ b_1)), n := (([] ++ b_1)).length })] [1, 5] [2] 3 [Ii n_1, .own 2 ((([] ++ b_1)).length)] [Rb 5 1 (Mb ([] ++ b_1))] hmix (ac (by first | (simp; done) | (simp; omega) : 0 = (([] : List AV)).length) (ac (trivial : True) (ac (by simp : (List.map (AV.int .u8) ([] ++ b_1)) = [] ++ (List.map (AV.int .u8) b_1)) (ac (by simp : (([] ++ b_1)).length = ((List.map (AV.int .u8) ([] ++ b_1))).length) (ac (by first | (simp; done) | simpa using h_1 : (([] : List AV).length + ((List.map (AV.int .u8) b_1) : List AV).length) * 1 ≤ 140737488355328) an))))) ?_
 refine sq ?_
 obtain ⟨r_1, h_2, h⟩ := bind_some h
 refine rg [(1, { av := .int .u64 r_1, l := [Ii n_1] })] [5, 6] [2] 3 [.own 2 ((([] ++ b_1)).length), .int .u64 r_1] [Rb 5 1 (Mb ([] ++ b_1))] hmix (ar ([Ii n_1] : List AV) (ac (rfl : ([] : List BoxSt) = []) (ac (R05_number_ok n_1 r_1 h_2 : TripleG prog 49 [] [] [Ii n_1] [] (.int .u64 r_1)) an))) ?_
 refine sq ?_
 obtain ⟨o_1, h_3, h⟩ := bind_some h
 refine aw_mid (mk [(5, .own 0 ((o_1.2).length)), (6, .int .u64 o_1.1)] [(0, Rb 5 1 (Mb o_1.2))] 1) ?_ ?_
 ·replace h := h_3
  refine aw_block (id := 0) (by kernel_rfl) ?_
  refine wk [2] [] [.s 5, .s 6] [.s 0] [(5, .own 0 ((([] ++ b_1)).length)), (6, .int .u64 r_1)] [(0, Rb 5 1 (Mb ([] ++ b_1)))] an ?_
  refine aw_loopF (fun n st => ∃ (u_1 : Int), ∃ (row_1 : List Int), st = mk [(5, .own 0 ((row_1).length)), (6, .int .u64 u_1)] [(0, Rb 5 1 (Mb row_1))] 1 ∧ R05_PutInt_L1 F n u_1 row_1 = some o_1) F (by kernel_rfl) ⟨_, _, rfl, h⟩ ?_ ?_
  ·rintro _ ⟨_, _, _, h⟩; exact none_ne (h : (none : Option (Int × (List Int))) = some o_1)
  rintro n_2 _ ⟨u_1, row_1, rfl, h⟩
  replace h : R05_PutInt_L1_body F (R05_PutInt_L1 F n_2) u_1 row_1 = some o_1 := h
  unfold R05_PutInt_L1_body at h
  refine sq ?_
  refine sr [] [5, 6, 13] [0] 1 [.own 0 ((row_1).length), .int .u64 u_1, .bool (decide (u_1 ≥ (128 : Int)))] [Rb 5 1 (Mb row_1)] hmix an ?_
  refine cd 13 (decide (u_1 ≥ (128 : Int))) ?_ ?_
  rotate_left
  ·intro g_1; replace h := cond_f g_1 h
   refine aw_exit (id := 0) (by kernel_rfl) ?_
   cases h
   exact ⟨rfl, (sw [0] [] [.s 5, .s 6] [.s 0] an)⟩
  intro g_1; replace h := cond_t g_1 h
  refine sk ?_
  refine aw_block (id := 1) (by kernel_rfl) ?_
  refine sq ?_
  obtain ⟨_, h_4, h⟩ := bind_some h; replace h_4 := need_some h_4
  refine rg [(5, { id := 1 }), (6, { id := 2, l := (Mb (row_1 ++ ([w_u8 ((w_u8 (irem u_1 (128 : Int))) + (128 : Int))] : List Int))), n := ((row_1 ++ ([w_u8 ((w_u8 (irem u_1 (128 : Int))) + (128 : Int))] : List Int))).length })] [5, 6] [2] 3 [.own 2 (((row_1 ++ ([w_u8 ((w_u8 (irem u_1 (128 : Int))) + (128 : Int))] : List Int))).length), .int .u64 u_1] [Rb 5 1 (Mb (row_1 ++ ([w_u8 ((w_u8 (irem u_1 (128 : Int))) + (128 : Int))] : List Int)))] hmix (ac (by decide : (128 : Int) ≠ (0 : Int)) (ac (by first | (simp; done) | (simp; omega) : (row_1).length = ((List.map (AV.int .u8) row_1)).length) (ac (by first | (simp; done) | (simp; omega) : 1 = ((List.map (AV.int .u8) ([w_u8 ((w_u8 (irem u_1 (128 : Int))) + (128 : Int))] : List Int))).length) (ac (vc_app _ _ : (Mb (row_1 ++ ([w_u8 ((w_u8 (irem u_1 (128 : Int))) + (128 : Int))] : List Int))) = (Mb row_1) ++ (Mb ([w_u8 ((w_u8 (irem u_1 (128 : Int))) + (128 : Int))] : List Int))) (ac (by simp : ((row_1 ++ ([w_u8 ((w_u8 (irem u_1 (128 : Int))) + (128 : Int))] : List Int))).length = ((List.map (AV.int .u8) (row_1 ++ ([w_u8 ((w_u8 (irem u_1 (128 : Int))) + (128 : Int))] : List Int)))).length) (ac (by first | (simp; done) | simpa using h_4 : (((List.map (AV.int .u8) row_1) : List AV).length + ((List.map (AV.int .u8) ([w_u8 ((w_u8 (irem u_1 (128 : Int))) + (128 : Int))] : List Int)) : List AV).length) * 1 ≤ 140737488355328) an)))))) ?_
  refine rg [] [5, 6] [2] 3 [.own 2 (((row_1 ++ ([w_u8 ((w_u8 (irem u_1 (128 : Int))) + (128 : Int))] : List Int))).length), .int .u64 (iquo .u64 u_1 (128 : Int))] [Rb 5 1 (Mb (row_1 ++ ([w_u8 ((w_u8 (irem u_1 (128 : Int))) + (128 : Int))] : List Int)))] hmix (ac (by decide : (128 : Int) ≠ (0 : Int)) an) ?_
  exact ⟨_, (sw [2] [] [.s 5, .s 6] [.s 0] an), _, _, rfl, h⟩
 refine sq ?_
 obtain ⟨_, h_5, h⟩ := bind_some h; replace h_5 := need_some h_5
 refine rg [(3, { id := 1 }), (4, { id := 2, l := (Mb (o_1.2 ++ ([w_u8 o_1.1] : List Int))), n := ((o_1.2 ++ ([w_u8 o_1.1] : List Int))).length })] [5] [2] 3 [.own 2 (((o_1.2 ++ ([w_u8 o_1.1] : List Int))).length)] [Rb 5 1 (Mb (o_1.2 ++ ([w_u8 o_1.1] : List Int)))] hmix (ac (by first | (simp; done) | (simp; omega) : (o_1.2).length = ((List.map (AV.int .u8) o_1.2)).length) (ac (by first | (simp; done) | (simp; omega) : 1 = ((List.map (AV.int .u8) ([w_u8 o_1.1] : List Int))).length) (ac (vc_app _ _ : (Mb (o_1.2 ++ ([w_u8 o_1.1] : List Int))) = (Mb o_1.2) ++ (Mb ([w_u8 o_1.1] : List Int))) (ac (by simp : ((o_1.2 ++ ([w_u8 o_1.1] : List Int))).length = ((List.map (AV.int .u8) (o_1.2 ++ ([w_u8 o_1.1] : List Int)))).length) (ac (by first | (simp; done) | simpa using h_5 : (((List.map (AV.int .u8) o_1.2) : List AV).length + ((List.map (AV.int .u8) ([w_u8 o_1.1] : List Int)) : List AV).length) * 1 ≤ 140737488355328) an))))) ?_
 refine sr [] [4] [2] 3 [.own 2 (((o_1.2 ++ ([w_u8 o_1.1] : List Int))).length)] [Rb 5 1 (Mb (o_1.2 ++ ([w_u8 o_1.1] : List Int)))] hmix an ?_
 refine wk [2] [] [.s 4] [.s 0] [(4, .own 0 (((o_1.2 ++ ([w_u8 o_1.1] : List Int))).length))] [(0, Rb 5 1 (Mb (o_1.2 ++ ([w_u8 o_1.1] : List Int))))] an ?_
 refine rt ?_
 cases h
 exact ⟨.inr rfl, Nat.le_of_ble_eq_true rfl, by kernel_rfl⟩

theorem R05_PutText_ok (F : Nat) (b_1 : List (Int)) (s_1 : List Int) (r : (List (Int))) (h : R05_PutText F b_1 s_1 = some r) : TripleG prog 48 [] [] [.sl false 1 (Mb b_1), .str s_1] [.row 5 1 (Mb r)] (.own 0 ((r).length)) := by
 refine triple_intro (fn := Go.Proofs.Try.f48) (code := codeOf Go.Proofs.Try.f48) (by kernel_rfl) (by kernel_rfl) (Nat.le_of_ble_eq_true (by kernel_rfl)) ?_
 unfold R05_PutText at h
 refine sr [(0, { id := 0, m := 1 })] [0, 1] [] 1 [.sl false 1 (Mb b_1), .str s_1] [] hmix an ?_
 refine sq ?_
 obtain ⟨r_1, h_1, h⟩ := bind_some h
 refine rg [(3, { av := .own 0 ((r_1).length), ids := [1], l := [.sl false 1 (Mb b_1), Ii (lN (s_1))], post := [(.row 5 1 (Mb r_1))] })] [1, 5] [1] 2 [.str s_1, .own 1 ((r_1).length)] [Rb 5 1 (Mb r_1)] hmix (ar ([.sl false 1 (Mb b_1), Ii (lN (s_1))] : List AV) (ac (rfl : ([] : List BoxSt) = []) (ac (R05_PutInt_ok F b_1 (lN (s_1)) r_1 h_1 : TripleG prog 38 [] [] [.sl false 1 (Mb b_1), Ii (lN (s_1))] [(.row 5 1 (Mb r_1))] (.own 0 ((r_1).length))) an))) ?_
 refine sq ?_
 refine sr [] [1, 5, 6] [1] 2 [.str s_1, .own 1 ((r_1).length), Ii 0] [Rb 5 1 (Mb r_1)] hmix an ?_
 obtain ⟨o_1, h_2, h⟩ := bind_some h
 refine aw_mid (mk [(5, .own 0 ((o_1).length))] [(0, Rb 5 1 (Mb o_1))] 1) ?_ ?_
 ·replace h := h_2
  refine aw_block (id := 0) (by kernel_rfl) ?_
  refine wk [1] [] [.s 1, .s 5, .s 6] [.s 0] [(1, .str s_1), (5, .own 0 ((r_1).length)), (6, Ii 0)] [(0, Rb 5 1 (Mb r_1))] an ?_
  refine aw_loopF (fun n st => ∃ (i_1 : Int), ∃ (row_1 : List Int), st = mk [(1, .str s_1), (5, .own 0 ((row_1).length)), (6, Ii i_1)] [(0, Rb 5 1 (Mb row_1))] 1 ∧ R05_PutText_L1 F s_1 n i_1 row_1 = some o_1) F (by kernel_rfl) ⟨_, _, rfl, h⟩ ?_ ?_
  ·rintro _ ⟨_, _, _, h⟩; exact none_ne (h : (none : Option (List Int)) = some o_1)
  rintro n_1 _ ⟨i_1, row_1, rfl, h⟩
  replace h : R05_PutText_L1_body F s_1 (R05_PutText_L1 F s_1 n_1) i_1 row_1 = some o_1 := h
  unfold R05_PutText_L1_body at h
  refine sq ?_
  refine sr [] [1, 5, 6, 14] [0] 1 [.str s_1, .own 0 ((row_1).length), Ii i_1, .bool (decide (i_1 < (lN (s_1))))] [Rb 5 1 (Mb row_1)] hmix an ?_
  refine cd 14 (decide (i_1 < (lN (s_1)))) ?_ ?_
  rotate_left
  ·intro g_1; replace h := cond_f g_1 h
   refine aw_exit (id := 0) (by kernel_rfl) ?_
   cases h
   exact ⟨rfl, (sw [0] [] [.s 5] [.s 0] an)⟩
  intro g_1; replace h := cond_t g_1 h
  refine sk ?_
  refine sq ?_
  refine aw_block (id := 1) (by kernel_rfl) ?_
  obtain ⟨c_1, h_3, h⟩ := bind_some h
  obtain ⟨_, h_4, h⟩ := bind_some h; replace h_4 := need_some h_4
  refine rg [(3, { z := c_1 }), (4, { id := 1 }), (5, { id := 2, l := (Mb (row_1 ++ ([c_1] : List Int))), n := ((row_1 ++ ([c_1] : List Int))).length })] [1, 5, 6] [2] 3 [.str s_1, .own 2 (((row_1 ++ ([c_1] : List Int))).length), Ii i_1] [Rb 5 1 (Mb (row_1 ++ ([c_1] : List Int)))] hmix (ac h_3 (ac (by first | (simp; done) | (simp; omega) : (row_1).length = ((List.map (AV.int .u8) row_1)).length) (ac (by first | (simp; done) | (simp; omega) : 1 = ((List.map (AV.int .u8) ([c_1] : List Int))).length) (ac (vc_app _ _ : (Mb (row_1 ++ ([c_1] : List Int))) = (Mb row_1) ++ (Mb ([c_1] : List Int))) (ac (by simp : ((row_1 ++ ([c_1] : List Int))).length = ((List.map (AV.int .u8) (row_1 ++ ([c_1] : List Int)))).length) (ac (by first | (simp; done) | simpa using h_4 : (((List.map (AV.int .u8) row_1) : List AV).length + ((List.map (AV.int .u8) ([c_1] : List Int)) : List AV).length) * 1 ≤ 140737488355328) an)))))) ?_
  refine rg [] [1, 5, 6] [2] 3 [.str s_1, .own 2 (((row_1 ++ ([c_1] : List Int))).length), Ii (w_i64 (i_1 + (1 : Int)))] [Rb 5 1 (Mb (row_1 ++ ([c_1] : List Int)))] hmix an ?_
  exact ⟨_, (sw [2] [] [.s 1, .s 5, .s 6] [.s 0] an), _, _, rfl, h⟩
 refine sr [] [4] [0] 1 [.own 0 ((o_1).length)] [Rb 5 1 (Mb o_1)] hmix an ?_
 refine wk [0] [] [.s 4] [.s 0] [(4, .own 0 ((o_1).length))] [(0, Rb 5 1 (Mb o_1))] an ?_
 refine rt ?_
 cases h
 exact ⟨.inr rfl, Nat.le_of_ble_eq_true rfl, by kernel_rfl⟩

theorem R33_one_ok (F : Nat) (b_1 : List (Int)) (a_1 : T_api_Value) (r : (List (Int))) (h : R33_one F b_1 a_1 = some r) : TripleG prog 37 [] [(.row 5 1 (Mb b_1))] [.own 0 ((b_1).length), e_T_api_Value a_1] [.row 5 1 (Mb r)] (.own 0 ((r).length)) := by
 refine triple_introG (fn := Go.Proofs.Try.f37) (code := codeOf Go.Proofs.Try.f37) (by kernel_rfl) (by kernel_rfl) (Nat.le_of_ble_eq_true (by kernel_rfl)) ?_
 unfold R33_one at h
 refine sr [(0, { id := 1 }), (1, { id := 2, m := 1 })] [0, 3] [0, 1] 3 [.own 0 ((b_1).length), Pp 1] [Rb 5 1 (Mb b_1), Vb 24 (v_T_api_Value a_1)] hmix an ?_
 refine sq ?_
 obtain ⟨_, h_1, h⟩ := bind_some h; replace h_1 := need_some h_1
 refine rg [(4, { id := 3 }), (5, { id := 4, l := (Mb (b_1 ++ ([w_u8 a_1.Kind] : List Int))), n := ((b_1 ++ ([w_u8 a_1.Kind] : List Int))).length })] [0, 3] [1, 4] 5 [.own 4 (((b_1 ++ ([w_u8 a_1.Kind] : List Int))).length), Pp 1] [Vb 24 (v_T_api_Value a_1), Rb 5 1 (Mb (b_1 ++ ([w_u8 a_1.Kind] : List Int)))] hmix (ac (by first | (simp; done) | (simp; omega) : (b_1).length = ((List.map (AV.int .u8) b_1)).length) (ac (by first | (simp; done) | (simp; omega) : 1 = ((List.map (AV.int .u8) ([w_u8 a_1.Kind] : List Int))).length) (ac (vc_app _ _ : (Mb (b_1 ++ ([w_u8 a_1.Kind] : List Int))) = (Mb b_1) ++ (Mb ([w_u8 a_1.Kind] : List Int))) (ac (by simp : ((b_1 ++ ([w_u8 a_1.Kind] : List Int))).length = ((List.map (AV.int .u8) (b_1 ++ ([w_u8 a_1.Kind] : List Int)))).length) (ac (by first | (simp; done) | simpa using h_1 : (((List.map (AV.int .u8) b_1) : List AV).length + ((List.map (AV.int .u8) ([w_u8 a_1.Kind] : List Int)) : List AV).length) * 1 ≤ 140737488355328) an))))) ?_
 refine sq ?_
 refine sq ?_
 refine aw_mid (mk [(0, .own 0 (((b_1 ++ ([w_u8 a_1.Kind] : List Int))).length)), (3, Pp 1), (18, .bool ((a_1.Kind == (1 : Int)) || (a_1.Kind == (2 : Int))))] [(0, Rb 5 1 (Mb (b_1 ++ ([w_u8 a_1.Kind] : List Int)))), (1, Vb 24 (v_T_api_Value a_1))] 2) ?_ ?_
 ·rcases bft (a_1.Kind == (1 : Int)) with gg_1 | gg_1
  ·refine rg [(4, Hg), (5, Hg), (6, Hg), (7, Ht)] [0, 3, 18] [1, 4] 5 [.own 4 (((b_1 ++ ([w_u8 a_1.Kind] : List Int))).length), Pp 1, .bool true] [Vb 24 (v_T_api_Value a_1), Rb 5 1 (Mb (b_1 ++ ([w_u8 a_1.Kind] : List Int)))] hmix (ac gg_1 (ac gg_1 (ac gg_1 (ac gg_1 an)))) ?_
   exact ⟨rfl, (sw [4, 1] [] [.s 0, .s 3, .a 18 (.bool ((a_1.Kind == (1 : Int)) || (a_1.Kind == (2 : Int))))] [.s 0, .s 1] (ac (congrArg AV.bool (ort gg_1) : (.bool true : AV) = .bool ((a_1.Kind == (1 : Int)) || (a_1.Kind == (2 : Int)))) an))⟩
  ·refine rg [(7, Hf)] [0, 3, 18] [1, 4] 5 [.own 4 (((b_1 ++ ([w_u8 a_1.Kind] : List Int))).length), Pp 1, .bool (a_1.Kind == (2 : Int))] [Vb 24 (v_T_api_Value a_1), Rb 5 1 (Mb (b_1 ++ ([w_u8 a_1.Kind] : List Int)))] hmix (ac gg_1 (ac gg_1 (ac gg_1 (ac gg_1 an)))) ?_
   exact ⟨rfl, (sw [4, 1] [] [.s 0, .s 3, .a 18 (.bool ((a_1.Kind == (1 : Int)) || (a_1.Kind == (2 : Int))))] [.s 0, .s 1] (ac (congrArg AV.bool (orf gg_1 rfl) : (.bool (a_1.Kind == (2 : Int)) : AV) = .bool ((a_1.Kind == (1 : Int)) || (a_1.Kind == (2 : Int)))) an))⟩
 refine cd 18 ((a_1.Kind == (1 : Int)) || (a_1.Kind == (2 : Int))) ?_ ?_
 ·intro g_1; replace h := cond_t g_1 h
  refine sq ?_
  obtain ⟨r_1, h_2, h⟩ := bind_some h
  refine rg [(3, { av := .own 0 ((r_1).length), frz := [0], ids := [2], l := [.sl false 1 (Mb (b_1 ++ ([w_u8 a_1.Kind] : List Int))), Ii a_1.N], post := [(.row 5 1 (Mb r_1))] })] [4] [2] 3 [.own 2 ((r_1).length)] [Rb 5 1 (Mb r_1)] hmix (ac (by first | (simp; done) | (simp; omega) : ((b_1 ++ ([w_u8 a_1.Kind] : List Int))).length = ((List.map (AV.int .u8) (b_1 ++ ([w_u8 a_1.Kind] : List Int)))).length) (ar ([.sl false 1 (Mb (b_1 ++ ([w_u8 a_1.Kind] : List Int))), Ii a_1.N] : List AV) (ac (rfl : ([] : List BoxSt) = []) (ac (R05_PutInt_ok F (b_1 ++ ([w_u8 a_1.Kind] : List Int)) a_1.N r_1 h_2 : TripleG prog 38 [] [] [.sl false 1 (Mb (b_1 ++ ([w_u8 a_1.Kind] : List Int))), Ii a_1.N] [(.row 5 1 (Mb r_1))] (.own 0 ((r_1).length))) an)))) ?_
  refine wk [2] [] [.s 4] [.s 0] [(4, .own 0 ((r_1).length))] [(0, Rb 5 1 (Mb r_1))] an ?_
  refine rt ?_
  cases h
  exact ⟨.inr rfl, Nat.le_of_ble_eq_true rfl, by kernel_rfl⟩
 intro g_1; replace h := cond_f g_1 h
 refine sk ?_
 refine sq ?_
 refine sr [] [0, 3, 25] [0, 1] 2 [.own 0 (((b_1 ++ ([w_u8 a_1.Kind] : List Int))).length), Pp 1, .bool (a_1.Kind == (3 : Int))] [Rb 5 1 (Mb (b_1 ++ ([w_u8 a_1.Kind] : List Int))), Vb 24 (v_T_api_Value a_1)] hmix an ?_
 refine cd 25 (a_1.Kind == (3 : Int)) ?_ ?_
 ·intro g_2; replace h := cond_t g_2 h
  refine sq ?_
  obtain ⟨r_2, h_3, h⟩ := bind_some h
  refine rg [(3, { av := .own 0 ((r_2).length), frz := [0], ids := [2], l := [.sl false 1 (Mb (b_1 ++ ([w_u8 a_1.Kind] : List Int))), .str a_1.S], post := [(.row 5 1 (Mb r_2))] })] [4] [2] 3 [.own 2 ((r_2).length)] [Rb 5 1 (Mb r_2)] hmix (ac (by first | (simp; done) | (simp; omega) : ((b_1 ++ ([w_u8 a_1.Kind] : List Int))).length = ((List.map (AV.int .u8) (b_1 ++ ([w_u8 a_1.Kind] : List Int)))).length) (ar ([.sl false 1 (Mb (b_1 ++ ([w_u8 a_1.Kind] : List Int))), .str a_1.S] : List AV) (ac (rfl : ([] : List BoxSt) = []) (ac (R05_PutText_ok F (b_1 ++ ([w_u8 a_1.Kind] : List Int)) a_1.S r_2 h_3 : TripleG prog 48 [] [] [.sl false 1 (Mb (b_1 ++ ([w_u8 a_1.Kind] : List Int))), .str a_1.S] [(.row 5 1 (Mb r_2))] (.own 0 ((r_2).length))) an)))) ?_
  refine wk [2] [] [.s 4] [.s 0] [(4, .own 0 ((r_2).length))] [(0, Rb 5 1 (Mb r_2))] an ?_
  refine rt ?_
  cases h
  exact ⟨.inr rfl, Nat.le_of_ble_eq_true rfl, by kernel_rfl⟩
 intro g_2; replace h := cond_f g_2 h
 refine sk ?_
 refine sr [] [4] [0] 2 [.own 0 (((b_1 ++ ([w_u8 a_1.Kind] : List Int))).length)] [Rb 5 1 (Mb (b_1 ++ ([w_u8 a_1.Kind] : List Int)))] hmix an ?_
 refine wk [0] [] [.s 4] [.s 0] [(4, .own 0 (((b_1 ++ ([w_u8 a_1.Kind] : List Int))).length))] [(0, Rb 5 1 (Mb (b_1 ++ ([w_u8 a_1.Kind] : List Int))))] an ?_
 refine rt ?_
 cases h
 exact ⟨.inr rfl, Nat.le_of_ble_eq_true rfl, by kernel_rfl⟩

theorem R33_plain_ok (F : Nat) (l_1 : List (T_api_Value)) (r : (List (Int))) (h : R33_plain F l_1 = some r) : TripleG prog 27 [] [] [.sl false 3 (Mp e_T_api_Value l_1)] [.row 5 1 (Mb r)] (.own 0 ((r).length)) := by
 refine triple_intro (fn := Go.Proofs.Try.f27) (code := codeOf Go.Proofs.Try.f27) (by kernel_rfl) (by kernel_rfl) (Nat.le_of_ble_eq_true (by kernel_rfl)) ?_
 unfold R33_plain at h
 refine sr [(0, { id := 0, m := 1 })] [0] [] 1 [.sl false 3 (Mp e_T_api_Value l_1)] [] hmix an ?_
 refine sr [(0, { id := 1, m := 1 })] [0, 3] [1] 2 [.sl false 3 (Mp e_T_api_Value l_1), .own 1 0] [Rb 5 1 []] hmix an ?_
 refine sq ?_
 refine sr [] [0, 3, 4] [1] 2 [.sl false 3 (Mp e_T_api_Value l_1), .own 1 0, Ii 0] [Rb 5 1 []] hmix an ?_
 obtain ⟨o_1, h_1, h⟩ := bind_some h
 refine aw_mid (mk [(3, .own 0 ((o_1).length))] [(0, Rb 5 1 (Mb o_1))] 1) ?_ ?_
 ·replace h := h_1
  refine aw_block (id := 0) (by kernel_rfl) ?_
  refine wk [1] [] [.s 0, .s 3, .s 4] [.s 0] [(0, .sl false 3 (Mp e_T_api_Value l_1)), (3, .own 0 0), (4, Ii 0)] [(0, Rb 5 1 [])] an ?_
  refine aw_loopF (fun n st => ∃ (i_1 : Int), ∃ (row_1 : List Int), st = mk [(0, .sl false 3 (Mp e_T_api_Value l_1)), (3, .own 0 ((row_1).length)), (4, Ii i_1)] [(0, Rb 5 1 (Mb row_1))] 1 ∧ R33_plain_L1 F l_1 n i_1 row_1 = some o_1) F (by kernel_rfl) ⟨_, _, rfl, h⟩ ?_ ?_
  ·rintro _ ⟨_, _, _, h⟩; exact none_ne (h : (none : Option (List Int)) = some o_1)
  rintro n_1 _ ⟨i_1, row_1, rfl, h⟩
  replace h : R33_plain_L1_body F l_1 (R33_plain_L1 F l_1 n_1) i_1 row_1 = some o_1 := h
  unfold R33_plain_L1_body at h
  refine sq ?_
  refine sr [(2, { n := (l_1).length })] [0, 3, 4, 8] [0] 1 [.sl false 3 (Mp e_T_api_Value l_1), .own 0 ((row_1).length), Ii i_1, .bool (decide (i_1 < (lN (l_1))))] [Rb 5 1 (Mb row_1)] hmix (ac (vc_len _ : ((Mp e_T_api_Value l_1)).length = (l_1).length) an) ?_
  refine cd 8 (decide (i_1 < (lN (l_1)))) ?_ ?_
  rotate_left
  ·intro g_1; replace h := cond_f g_1 h
   refine aw_exit (id := 0) (by kernel_rfl) ?_
   cases h
   exact ⟨rfl, (sw [0] [] [.s 3] [.s 0] an)⟩
  intro g_1; replace h := cond_t g_1 h
  refine sk ?_
  refine sq ?_
  refine aw_block (id := 1) (by kernel_rfl) ?_
  obtain ⟨x_1, h_2, h⟩ := bind_some h
  obtain ⟨r_1, h_3, h⟩ := bind_some h
  refine rg [(3, { av := e_T_api_Value x_1 }), (5, { av := .own 0 ((r_1).length), gids := [0], giv := [(.row 5 1 (Mb row_1))], ids := [1], l := [.own 0 ((row_1).length), e_T_api_Value x_1], post := [(.row 5 1 (Mb r_1))] })] [0, 3, 4] [1] 2 [.sl false 3 (Mp e_T_api_Value l_1), .own 1 ((r_1).length), Ii i_1] [Rb 5 1 (Mb r_1)] hmix (ac (vc_idx h_2 : idxA (Mp e_T_api_Value l_1) i_1 = some (e_T_api_Value x_1)) (ar ([.own 0 ((row_1).length), e_T_api_Value x_1] : List AV) (ac (rfl : ([Rb 5 1 (Mb row_1)] : List BoxSt) = [Rb 5 1 (Mb row_1)]) (ac (R33_one_ok F row_1 x_1 r_1 h_3 : TripleG prog 37 [] [(.row 5 1 (Mb row_1))] [.own 0 ((row_1).length), e_T_api_Value x_1] [(.row 5 1 (Mb r_1))] (.own 0 ((r_1).length))) an)))) ?_
  refine rg [] [0, 3, 4] [1] 2 [.sl false 3 (Mp e_T_api_Value l_1), .own 1 ((r_1).length), Ii (w_i64 (i_1 + (1 : Int)))] [Rb 5 1 (Mb r_1)] hmix an ?_
  exact ⟨_, (sw [1] [] [.s 0, .s 3, .s 4] [.s 0] an), _, _, rfl, h⟩
 refine sr [] [2] [0] 1 [.own 0 ((o_1).length)] [Rb 5 1 (Mb o_1)] hmix an ?_
 refine wk [0] [] [.s 2] [.s 0] [(2, .own 0 ((o_1).length))] [(0, Rb 5 1 (Mb o_1))] an ?_
 refine rt ?_
 cases h
 exact ⟨.inr rfl, Nat.le_of_ble_eq_true rfl, by kernel_rfl⟩

theorem R33_runs_ok (F : Nat) (l_1 : List (T_api_Value)) (r : (List (Int))) (h : R33_runs F l_1 = some r) : TripleG prog 28 [] [] [.sl false 3 (Mp e_T_api_Value l_1)] [] (.sl false 1 (Mb r)) := by
 refine triple_intro (fn := Go.Proofs.Try.f28) (code := codeOf Go.Proofs.Try.f28) (by kernel_rfl) (by kernel_rfl) (Nat.le_of_ble_eq_true (by kernel_rfl)) ?_
 unfold R33_runs at h
 refine sr [] [0] [] 0 [.sl false 3 (Mp e_T_api_Value l_1)] [] hmix an ?_
 refine sr [] [0, 3] [] 0 [.sl false 3 (Mp e_T_api_Value l_1), .nilsl] [] hmix an ?_
 refine sq ?_
 refine sr [] [0, 3, 4] [] 0 [.sl false 3 (Mp e_T_api_Value l_1), .nilsl, Ii 0] [] hmix an ?_
 obtain ⟨o_1, h_1, h⟩ := bind_some h
 refine aw_mid (mk [(3, .sl false 1 (Mb o_1))] [] 0) ?_ ?_
 ·replace h := h_1
  refine aw_block (id := 0) (by kernel_rfl) ?_
  refine wk [] [] [.s 0, .a 3 (.sl false 1 []), .s 4] [] [(0, .sl false 3 (Mp e_T_api_Value l_1)), (3, .sl false 1 []), (4, Ii 0)] [] (ar ([] : List AV) an) ?_
  refine aw_loopF (fun n st => ∃ (b_1 : List Int), ∃ (i_1 : Int), st = mk [(0, .sl false 3 (Mp e_T_api_Value l_1)), (3, .sl false 1 (Mb b_1)), (4, Ii i_1)] [] 0 ∧ R33_runs_L1 F l_1 n b_1 i_1 = some o_1) F (by kernel_rfl) ⟨_, _, rfl, h⟩ ?_ ?_
  ·rintro _ ⟨_, _, _, h⟩; exact none_ne (h : (none : Option (List Int)) = some o_1)
  rintro n_1 _ ⟨b_1, i_1, rfl, h⟩
  replace h : R33_runs_L1_body F l_1 (R33_runs_L1 F l_1 n_1) b_1 i_1 = some o_1 := h
  unfold R33_runs_L1_body at h
  refine sq ?_
  refine sr [(2, { n := (l_1).length })] [0, 3, 4, 9] [] 0 [.sl false 3 (Mp e_T_api_Value l_1), .sl false 1 (Mb b_1), Ii i_1, .bool (decide (i_1 < (lN (l_1))))] [] hmix (ac (vc_len _ : ((Mp e_T_api_Value l_1)).length = (l_1).length) an) ?_
  refine cd 9 (decide (i_1 < (lN (l_1)))) ?_ ?_
  rotate_left
  ·intro g_1; replace h := cond_f g_1 h
   refine aw_exit (id := 0) (by kernel_rfl) ?_
   cases h
   exact ⟨rfl, (sw [] [] [.s 3] [] an)⟩
  intro g_1; replace h := cond_t g_1 h
  refine sk ?_
  refine aw_block (id := 1) (by kernel_rfl) ?_
  refine sr [] [0, 3, 4, 5] [] 0 [.sl false 3 (Mp e_T_api_Value l_1), .sl false 1 (Mb b_1), Ii i_1, Ii 1] [] hmix an ?_
  refine sq ?_
  obtain ⟨o_2, h_2, h⟩ := bind_some h
  refine aw_mid (mk [(0, .sl false 3 (Mp e_T_api_Value l_1)), (3, .sl false 1 (Mb b_1)), (4, Ii i_1), (5, Ii o_2)] [] 0) ?_ ?_
  ·replace h := h_2
   refine aw_block (id := 2) (by kernel_rfl) ?_
   refine wk [] [] [.s 0, .s 3, .s 4, .s 5] [] [(0, .sl false 3 (Mp e_T_api_Value l_1)), (3, .sl false 1 (Mb b_1)), (4, Ii i_1), (5, Ii 1)] [] an ?_
   refine aw_loopF (fun n st => ∃ (n_2 : Int), st = mk [(0, .sl false 3 (Mp e_T_api_Value l_1)), (3, .sl false 1 (Mb b_1)), (4, Ii i_1), (5, Ii n_2)] [] 0 ∧ R33_runs_L2 F l_1 i_1 n n_2 = some o_2) F (by kernel_rfl) ⟨_, rfl, h⟩ ?_ ?_
   ·rintro _ ⟨_, _, h⟩; exact none_ne (h : (none : Option Int) = some o_2)
   rintro n_3 _ ⟨n_2, rfl, h⟩
   replace h : R33_runs_L2_body F l_1 i_1 (R33_runs_L2 F l_1 i_1 n_3) n_2 = some o_2 := h
   unfold R33_runs_L2_body at h
   refine sq ?_
   refine sq ?_
   obtain ⟨p_1, h_5, h⟩ := bind_some h
   refine aw_mid (mk [(0, .sl false 3 (Mp e_T_api_Value l_1)), (3, .sl false 1 (Mb b_1)), (4, Ii i_1), (5, Ii n_2), (28, .bool p_1)] [] 0) ?_ ?_
   ·replace h := h_5
    rcases bft (decide ((w_i64 (i_1 + n_2)) < (lN (l_1)))) with gg_40 | gg_40
    ·replace h := cond_t gg_40 h
     obtain ⟨x_1, h_3, h⟩ := bind_some h
     obtain ⟨x_2, h_4, h⟩ := bind_some h
     refine rg [(4, { n := (l_1).length }), (11, { av := e_T_api_Value x_1 }), (15, { av := e_T_api_Value x_2 }), (17, { b := (decide (x_1 = x_2)), mks := [.int .i64, .int .i64, .str] }), (18, Ht)] [0, 3, 4, 5, 17, 18, 19, 20, 21, 22, 23, 24, 25, 26, 27, 28] [] 0 [.sl false 3 (Mp e_T_api_Value l_1), .sl false 1 (Mb b_1), Ii i_1, Ii n_2, .sl false 3 (Mp e_T_api_Value l_1), Ii i_1, Ii n_2, Ii (w_i64 (i_1 + n_2)), .ref (e_T_api_Value x_1), e_T_api_Value x_1, .sl false 3 (Mp e_T_api_Value l_1), Ii i_1, .ref (e_T_api_Value x_2), e_T_api_Value x_2, .bool (decide (x_1 = x_2)), .bool (decide (x_1 = x_2))] [] hmix (ac (vc_len _ : ((Mp e_T_api_Value l_1)).length = (l_1).length) (ac gg_40 (ac gg_40 (ac gg_40 (ac gg_40 (ac gg_40 (ac (vc_idx h_3 : idxA (Mp e_T_api_Value l_1) (w_i64 (i_1 + n_2)) = some (e_T_api_Value x_1)) (ac gg_40 (ac gg_40 (ac gg_40 (ac gg_40 (ac (vc_idx h_4 : idxA (Mp e_T_api_Value l_1) i_1 = some (e_T_api_Value x_2)) (ac gg_40 (ac gg_40 (ac (eqOk_24 : EqOk prog 24 [.int .i64, .int .i64, .str]) (ac (vc_eqA (f := e_T_api_Value) inj_T_api_Value x_1 x_2 : ((decide (x_1 = x_2)) = true ↔ AV.agg [Ii x_1.Kind, Ii x_1.N, .str x_1.S] = AV.agg [Ii x_2.Kind, Ii x_2.N, .str x_2.S])) (ac gg_40 an))))))))))))))))) ?_
     cases h
     exact ⟨rfl, (sw [] [] [.s 0, .s 3, .s 4, .s 5, .s 28] [] an)⟩
    ·replace h := cond_f gg_40 h
     refine rg [(4, { n := (l_1).length }), (7, Hg), (8, Hg), (9, Hg), (10, Hg), (11, Hg), (12, Hg), (13, Hg), (14, Hg), (15, Hg), (16, Hg), (17, Hg), (18, Hf)] [0, 3, 4, 5, 17, 18, 19, 20, 21, 22, 23, 24, 25, 26, 27, 28] [] 0 [.sl false 3 (Mp e_T_api_Value l_1), .sl false 1 (Mb b_1), Ii i_1, Ii n_2, .tuple [], .tuple [], .tuple [], .tuple [], .tuple [], .tuple [], .tuple [], .tuple [], .tuple [], .tuple [], .tuple [], .bool false] [] hmix (ac (vc_len _ : ((Mp e_T_api_Value l_1)).length = (l_1).length) (ac gg_40 (ac gg_40 (ac gg_40 (ac gg_40 (ac gg_40 (ac gg_40 (ac gg_40 (ac gg_40 (ac gg_40 (ac gg_40 (ac gg_40 (ac gg_40 an))))))))))))) ?_
     cases h
     exact ⟨rfl, (sw [] [] [.s 0, .s 3, .s 4, .s 5, .s 28] [] an)⟩
   refine cd 28 p_1 ?_ ?_
   rotate_left
   ·intro g_2; replace h := cond_f g_2 h
    refine aw_exit (id := 2) (by kernel_rfl) ?_
    cases h
    exact ⟨rfl, (sw [] [] [.s 0, .s 3, .s 4, .s 5] [] an)⟩
   intro g_2; replace h := cond_t g_2 h
   refine sk ?_
   refine aw_block (id := 3) (by kernel_rfl) ?_
   refine rg [] [0, 3, 4, 5] [] 0 [.sl false 3 (Mp e_T_api_Value l_1), .sl false 1 (Mb b_1), Ii i_1, Ii (w_i64 (n_2 + (1 : Int)))] [] hmix an ?_
   exact ⟨_, (sw [] [] [.s 0, .s 3, .s 4, .s 5] [] an), _, rfl, h⟩
  refine sq ?_
  obtain ⟨r_1, h_6, h⟩ := bind_some h
  obtain ⟨x_3, h_7, h⟩ := bind_some h
  obtain ⟨r_2, h_8, h⟩ := bind_some h
  refine rg [(2, { av := .own 0 ((r_1).length), ids := [0], l := [.sl false 1 (Mb b_1), Ii o_2], post := [(.row 5 1 (Mb r_1))] }), (5, { av := e_T_api_Value x_3 }), (7, { av := .own 0 ((r_2).length), gids := [0], giv := [(.row 5 1 (Mb r_1))], ids := [1], l := [.own 0 ((r_1).length), e_T_api_Value x_3], post := [(.row 5 1 (Mb r_2))] })] [0, 3, 4, 5] [1] 2 [.sl false 3 (Mp e_T_api_Value l_1), .own 1 ((r_2).length), Ii i_1, Ii o_2] [Rb 5 1 (Mb r_2)] hmix (ar ([.sl false 1 (Mb b_1), Ii o_2] : List AV) (ac (rfl : ([] : List BoxSt) = []) (ac (R05_PutInt_ok F b_1 o_2 r_1 h_6 : TripleG prog 38 [] [] [.sl false 1 (Mb b_1), Ii o_2] [(.row 5 1 (Mb r_1))] (.own 0 ((r_1).length))) (ac (vc_idx h_7 : idxA (Mp e_T_api_Value l_1) i_1 = some (e_T_api_Value x_3)) (ar ([.own 0 ((r_1).length), e_T_api_Value x_3] : List AV) (ac (rfl : ([Rb 5 1 (Mb r_1)] : List BoxSt) = [Rb 5 1 (Mb r_1)]) (ac (R33_one_ok F r_1 x_3 r_2 h_8 : TripleG prog 37 [] [(.row 5 1 (Mb r_1))] [.own 0 ((r_1).length), e_T_api_Value x_3] [(.row 5 1 (Mb r_2))] (.own 0 ((r_2).length))) an))))))) ?_
  refine rg [] [0, 3, 4] [1] 2 [.sl false 3 (Mp e_T_api_Value l_1), .own 1 ((r_2).length), Ii (w_i64 (i_1 + o_2))] [Rb 5 1 (Mb r_2)] hmix an ?_
  exact ⟨_, (Sub.trans (sub_wkm [] [1] [.s 0, .a 3 (.sl false 1 (Mb r_2)), .s 4] [] (sl2 := [(0, .sl false 3 (Mp e_T_api_Value l_1)), (3, .sl false 1 (Mb r_2)), (4, Ii (w_i64 (i_1 + o_2)))]) (bx2 := []) (by kernel_rfl) (ac (by first | (simp; done) | (simp; omega) : (r_2).length = ((List.map (AV.int .u8) r_2)).length) (ar 1 (ar ((Mb r_2) : List AV) (ac (rfl : (!false || false) = true) an))))) (sw [] [] [.s 0, .s 3, .s 4] [] an)), _, _, rfl, h⟩
 refine sr [] [2] [] 0 [.sl false 1 (Mb o_1)] [] hmix an ?_
 refine rt ?_
 cases h
 exact ⟨.inr rfl, Nat.le_of_ble_eq_true rfl, by kernel_rfl⟩

theorem R33_differences_ok (F : Nat) (k_1 : Int) (l_1 : List (T_api_Value)) (r : (List (Int)) × Bool) (h : R33_differences F k_1 l_1 = some r) : TripleG prog 29 [] [] [Ii k_1, .sl false 3 (Mp e_T_api_Value l_1)] [] (.tuple [.sl false 1 (Mb r.1), .bool r.2]) := by
 refine triple_intro (fn := Go.Proofs.Try.f29) (code := codeOf Go.Proofs.Try.f29) (by kernel_rfl) (by kernel_rfl) (Nat.le_of_ble_eq_true (by kernel_rfl)) ?_
 unfold R33_differences at h
 refine sr [] [0, 1] [] 0 [Ii k_1, .sl false 3 (Mp e_T_api_Value l_1)] [] hmix an ?_
 refine sr [] [0, 1, 6] [] 0 [Ii k_1, .sl false 3 (Mp e_T_api_Value l_1), .nilsl] [] hmix an ?_
 refine sq ?_
 refine sr [] [0, 1, 6, 7] [] 0 [Ii k_1, .sl false 3 (Mp e_T_api_Value l_1), .nilsl, Ii 0] [] hmix an ?_
 obtain ⟨o_1, h_1, h⟩ := bind_some h
 refine aw_conv (K1 := (fun e st' => match o_1 with | (.inl q0) => e = .normal ∧ Sub 0 st' (mk [(0, Ii k_1), (6, .sl false 1 (Mb q0))] [] 0) | (.inr q1) => e = .ret ∧ FinR prog Go.Proofs.Try.f29 0 [] (.tuple [.sl false 1 (Mb q1.1), .bool q1.2]) st')) ?_ ?_
 ·replace h := h_1
  refine aw_block (id := 0) (by kernel_rfl) ?_
  refine wk [] [] [.s 0, .s 1, .a 6 (.sl false 1 []), .s 7] [] [(0, Ii k_1), (1, .sl false 3 (Mp e_T_api_Value l_1)), (6, .sl false 1 []), (7, Ii 0)] [] (ar ([] : List AV) an) ?_
  refine aw_loopF (fun n st => ∃ (b_1 : List Int), ∃ (i_1 : Int), st = mk [(0, Ii k_1), (1, .sl false 3 (Mp e_T_api_Value l_1)), (6, .sl false 1 (Mb b_1)), (7, Ii i_1)] [] 0 ∧ R33_differences_L1 F k_1 l_1 n b_1 i_1 = some o_1) F (by kernel_rfl) ⟨_, _, rfl, h⟩ ?_ ?_
  ·rintro _ ⟨_, _, _, h⟩; exact none_ne (h : (none : Option ((List Int) ⊕ ((List (Int)) × Bool))) = some o_1)
  rintro n_1 _ ⟨b_1, i_1, rfl, h⟩
  replace h : R33_differences_L1_body F k_1 l_1 (R33_differences_L1 F k_1 l_1 n_1) b_1 i_1 = some o_1 := h
  unfold R33_differences_L1_body at h
  refine sq ?_
  refine sr [(2, { n := (l_1).length })] [0, 1, 6, 7, 12] [] 0 [Ii k_1, .sl false 3 (Mp e_T_api_Value l_1), .sl false 1 (Mb b_1), Ii i_1, .bool (decide (i_1 < (lN (l_1))))] [] hmix (ac (vc_len _ : ((Mp e_T_api_Value l_1)).length = (l_1).length) an) ?_
  refine cd 12 (decide (i_1 < (lN (l_1)))) ?_ ?_
  rotate_left
  ·intro g_1; replace h := cond_f g_1 h
   refine aw_exit (id := 0) (by kernel_rfl) ?_
   cases h
   exact ⟨rfl, (sw [] [] [.s 0, .s 6] [] an)⟩
  intro g_1; replace h := cond_t g_1 h
  refine sk ?_
  refine sq ?_
  obtain ⟨o_2, h_2, h⟩ := bind_some h
  refine aw_conv (K1 := (fun e st' => match o_2 with | (.inl q0) => e = .normal ∧ Sub 0 st' (mk [(0, Ii k_1), (1, .sl false 3 (Mp e_T_api_Value l_1)), (6, .own 0 ((q0).length)), (7, Ii i_1)] [(0, Rb 5 1 (Mb q0))] 1) | (.inr q1) => e = .ret ∧ FinR prog Go.Proofs.Try.f29 0 [] (.tuple [.sl false 1 (Mb q1.1), .bool q1.2]) st')) ?_ ?_
  ·replace h := h_2
   refine aw_block (id := 1) (by kernel_rfl) ?_
   refine sq ?_
   refine sq ?_
   obtain ⟨p_1, h_4, h⟩ := bind_some h
   refine aw_mid (mk [(0, Ii k_1), (1, .sl false 3 (Mp e_T_api_Value l_1)), (6, .sl false 1 (Mb b_1)), (7, Ii i_1), (25, .bool p_1)] [] 0) ?_ ?_
   ·replace h := h_4
    obtain ⟨x_1, h_3, h⟩ := bind_some h
    rcases bft (x_1.Kind != k_1) with gg_12 | gg_12
    ·replace h := cond_t gg_12 h
     refine rg [(2, { av := e_T_api_Value x_1 }), (8, Hg), (9, Hg), (10, Ht)] [0, 1, 6, 7, 23, 24, 25] [] 0 [Ii k_1, .sl false 3 (Mp e_T_api_Value l_1), .sl false 1 (Mb b_1), Ii i_1, .tuple [], .tuple [], .bool true] [] hmix (ac (vc_idx h_3 : idxA (Mp e_T_api_Value l_1) i_1 = some (e_T_api_Value x_1)) (ac gg_12 (ac gg_12 (ac gg_12 an)))) ?_
     cases h
     exact ⟨rfl, (sw [] [] [.s 0, .s 1, .s 6, .s 7, .s 25] [] an)⟩
    ·replace h := cond_f gg_12 h
     refine rg [(2, { av := e_T_api_Value x_1 }), (10, Hf)] [0, 1, 6, 7, 23, 24, 25] [] 0 [Ii k_1, .sl false 3 (Mp e_T_api_Value l_1), .sl false 1 (Mb b_1), Ii i_1, Ii k_1, .bool (k_1 == (3 : Int)), .bool (k_1 == (3 : Int))] [] hmix (ac (vc_idx h_3 : idxA (Mp e_T_api_Value l_1) i_1 = some (e_T_api_Value x_1)) (ac gg_12 (ac gg_12 (ac gg_12 an)))) ?_
     cases h
     exact ⟨rfl, (sw [] [] [.s 0, .s 1, .s 6, .s 7, .s 25] [] an)⟩
   refine cd 25 p_1 ?_ ?_
   ·intro g_2; replace h := cond_t g_2 h
    refine sr [] [4, 5] [] 0 [.nilsl, .bool false] [] hmix an ?_
    refine wk [] [] [.a 4 (.sl false 1 []), .s 5] [] [(4, .sl false 1 []), (5, .bool false)] [] (ar ([] : List AV) an) ?_
    refine rt ?_
    cases h
    exact ⟨rfl, Nat.le_of_ble_eq_true rfl, by kernel_rfl⟩
   intro g_2; replace h := cond_f g_2 h
   refine sk ?_
   refine sq ?_
   obtain ⟨x_2, h_5, h⟩ := bind_some h
   refine rg [(2, { av := e_T_api_Value x_2 })] [0, 1, 6, 7, 8] [] 0 [Ii k_1, .sl false 3 (Mp e_T_api_Value l_1), .sl false 1 (Mb b_1), Ii i_1, Ii x_2.N] [] hmix (ac (vc_idx h_5 : idxA (Mp e_T_api_Value l_1) i_1 = some (e_T_api_Value x_2)) an) ?_
   refine sq ?_
   refine sr [] [0, 1, 6, 7, 8, 32] [] 0 [Ii k_1, .sl false 3 (Mp e_T_api_Value l_1), .sl false 1 (Mb b_1), Ii i_1, Ii x_2.N, .bool (decide (i_1 > (0 : Int)))] [] hmix an ?_
   refine cd 32 (decide (i_1 > (0 : Int))) ?_ ?_
   rotate_left
   ·intro g_3; replace h := cond_f g_3 h
    refine sk ?_
    obtain ⟨r_2, h_8, h⟩ := bind_some h
    refine rg [(2, { av := .own 0 ((r_2).length), ids := [0], l := [.sl false 1 (Mb b_1), Ii x_2.N], post := [(.row 5 1 (Mb r_2))] })] [0, 1, 6, 7] [0] 1 [Ii k_1, .sl false 3 (Mp e_T_api_Value l_1), .own 0 ((r_2).length), Ii i_1] [Rb 5 1 (Mb r_2)] hmix (ar ([.sl false 1 (Mb b_1), Ii x_2.N] : List AV) (ac (rfl : ([] : List BoxSt) = []) (ac (R05_PutInt_ok F b_1 x_2.N r_2 h_8 : TripleG prog 38 [] [] [.sl false 1 (Mb b_1), Ii x_2.N] [(.row 5 1 (Mb r_2))] (.own 0 ((r_2).length))) an))) ?_
    cases h
    exact ⟨rfl, (sw [0] [] [.s 0, .s 1, .s 6, .s 7] [.s 0] an)⟩
   intro g_3; replace h := cond_t g_3 h
   obtain ⟨x_3, h_6, h⟩ := bind_some h
   refine rg [(4, { av := e_T_api_Value x_3 })] [0, 1, 6, 7, 8] [] 0 [Ii k_1, .sl false 3 (Mp e_T_api_Value l_1), .sl false 1 (Mb b_1), Ii i_1, Ii (w_i64 (x_2.N - x_3.N))] [] hmix (ac (vc_idx h_6 : idxA (Mp e_T_api_Value l_1) (w_i64 (i_1 - (1 : Int))) = some (e_T_api_Value x_3)) an) ?_
   obtain ⟨r_1, h_7, h⟩ := bind_some h
   refine rg [(2, { av := .own 0 ((r_1).length), ids := [0], l := [.sl false 1 (Mb b_1), Ii (w_i64 (x_2.N - x_3.N))], post := [(.row 5 1 (Mb r_1))] })] [0, 1, 6, 7] [0] 1 [Ii k_1, .sl false 3 (Mp e_T_api_Value l_1), .own 0 ((r_1).length), Ii i_1] [Rb 5 1 (Mb r_1)] hmix (ar ([.sl false 1 (Mb b_1), Ii (w_i64 (x_2.N - x_3.N))] : List AV) (ac (rfl : ([] : List BoxSt) = []) (ac (R05_PutInt_ok F b_1 (w_i64 (x_2.N - x_3.N)) r_1 h_7 : TripleG prog 38 [] [] [.sl false 1 (Mb b_1), Ii (w_i64 (x_2.N - x_3.N))] [(.row 5 1 (Mb r_1))] (.own 0 ((r_1).length))) an))) ?_
   cases h
   exact ⟨rfl, (sw [0] [] [.s 0, .s 1, .s 6, .s 7] [.s 0] an)⟩
  intro e st1 hk
  rcases o_2 with q_1 | q_2
  rotate_left
  ·obtain ⟨rfl, hf⟩ := hk
   cases h
   exact ⟨_, Sub.refl _ _, rfl, hf⟩
  obtain ⟨rfl, hs⟩ := hk
  refine ⟨_, hs, ?_⟩
  refine rg [] [0, 1, 6, 7] [0] 1 [Ii k_1, .sl false 3 (Mp e_T_api_Value l_1), .own 0 ((q_1).length), Ii (w_i64 (i_1 + (1 : Int)))] [Rb 5 1 (Mb q_1)] hmix an ?_
  exact ⟨_, (Sub.trans (sub_wkm [] [0] [.s 0, .s 1, .a 6 (.sl false 1 (Mb q_1)), .s 7] [] (sl2 := [(0, Ii k_1), (1, .sl false 3 (Mp e_T_api_Value l_1)), (6, .sl false 1 (Mb q_1)), (7, Ii (w_i64 (i_1 + (1 : Int))))]) (bx2 := []) (by kernel_rfl) (ac (by first | (simp; done) | (simp; omega) : (q_1).length = ((List.map (AV.int .u8) q_1)).length) (ar 1 (ar ((Mb q_1) : List AV) (ac (rfl : (!false || false) = true) an))))) (sw [] [] [.s 0, .s 1, .s 6, .s 7] [] an)), _, _, rfl, h⟩
 intro e st1 hk
 rcases o_1 with q_3 | q_4
 rotate_left
 ·obtain ⟨rfl, hf⟩ := hk
  cases h
  exact ⟨st1, Sub.refl _ _, .inr rfl, hf⟩
 obtain ⟨rfl, hs⟩ := hk
 refine ⟨_, hs, ?_⟩
 refine sr [] [4, 5] [] 0 [.sl false 1 (Mb q_3), .bool (k_1 != (3 : Int))] [] hmix an ?_
 refine rt ?_
 cases h
 exact ⟨.inr rfl, Nat.le_of_ble_eq_true rfl, by kernel_rfl⟩

theorem R33_at_ok (F : Nat) (l_1 : List (T_api_Value)) (a_1 : T_api_Value) (r : Int) (h : R33_at F l_1 a_1 = some r) : TripleG prog 39 [] [] [.sl false 3 (Mp e_T_api_Value l_1), e_T_api_Value a_1] [] (Ii r) := by
 refine triple_intro (fn := Go.Proofs.Try.f39) (code := codeOf Go.Proofs.Try.f39) (by kernel_rfl) (by kernel_rfl) (Nat.le_of_ble_eq_true (by kernel_rfl)) ?_
 unfold R33_at at h
 refine sr [(0, { id := 0 })] [0, 3] [0] 1 [.sl false 3 (Mp e_T_api_Value l_1), Pp 0] [Vb 24 (v_T_api_Value a_1)] hmix an ?_
 refine sq ?_
 refine sr [] [0, 3, 5] [0] 1 [.sl false 3 (Mp e_T_api_Value l_1), Pp 0, Ii 0] [Vb 24 (v_T_api_Value a_1)] hmix an ?_
 obtain ⟨o_1, h_1, h⟩ := bind_some h
 refine aw_conv (K1 := (fun e st' => match o_1 with | (.inl q0) => e = .normal ∧ Sub 0 st' (mk [] [] 0) | (.inr q1) => e = .ret ∧ FinR prog Go.Proofs.Try.f39 0 [] (Ii q1) st')) ?_ ?_
 ·replace h := h_1
  refine aw_block (id := 0) (by kernel_rfl) ?_
  refine wk [0] [] [.s 0, .s 3, .s 5] [.s 0] [(0, .sl false 3 (Mp e_T_api_Value l_1)), (3, Pp 0), (5, Ii 0)] [(0, Vb 24 (v_T_api_Value a_1))] an ?_
  refine aw_loopF (fun n st => ∃ (i_1 : Int), st = mk [(0, .sl false 3 (Mp e_T_api_Value l_1)), (3, Pp 0), (5, Ii i_1)] [(0, Vb 24 (v_T_api_Value a_1))] 1 ∧ R33_at_L1 F l_1 a_1 n i_1 = some o_1) F (by kernel_rfl) ⟨_, rfl, h⟩ ?_ ?_
  ·rintro _ ⟨_, _, h⟩; exact none_ne (h : (none : Option (Unit ⊕ Int)) = some o_1)
  rintro n_1 _ ⟨i_1, rfl, h⟩
  replace h : R33_at_L1_body F l_1 a_1 (R33_at_L1 F l_1 a_1 n_1) i_1 = some o_1 := h
  unfold R33_at_L1_body at h
  refine sq ?_
  refine sr [(2, { n := (l_1).length })] [0, 3, 5, 9] [0] 1 [.sl false 3 (Mp e_T_api_Value l_1), Pp 0, Ii i_1, .bool (decide (i_1 < (lN (l_1))))] [Vb 24 (v_T_api_Value a_1)] hmix (ac (vc_len _ : ((Mp e_T_api_Value l_1)).length = (l_1).length) an) ?_
  refine cd 9 (decide (i_1 < (lN (l_1)))) ?_ ?_
  rotate_left
  ·intro g_1; replace h := cond_f g_1 h
   refine aw_exit (id := 0) (by kernel_rfl) ?_
   cases h
   exact ⟨rfl, (sw [] [] [] [] an)⟩
  intro g_1; replace h := cond_t g_1 h
  refine sk ?_
  refine sq ?_
  refine aw_block (id := 1) (by kernel_rfl) ?_
  refine sq ?_
  obtain ⟨x_1, h_2, h⟩ := bind_some h
  refine rg [(2, { av := e_T_api_Value x_1 }), (5, { b := (decide (x_1 = a_1)), mks := [.int .i64, .int .i64, .str] })] [0, 3, 5, 17] [0] 1 [.sl false 3 (Mp e_T_api_Value l_1), Pp 0, Ii i_1, .bool (decide (x_1 = a_1))] [Vb 24 (v_T_api_Value a_1)] hmix (ac (vc_idx h_2 : idxA (Mp e_T_api_Value l_1) i_1 = some (e_T_api_Value x_1)) (ac (eqOk_24 : EqOk prog 24 [.int .i64, .int .i64, .str]) (ac (vc_eqA (f := e_T_api_Value) inj_T_api_Value x_1 a_1 : ((decide (x_1 = a_1)) = true ↔ AV.agg [Ii x_1.Kind, Ii x_1.N, .str x_1.S] = AV.agg [Ii a_1.Kind, Ii a_1.N, .str a_1.S])) an))) ?_
  refine cd 17 (decide (x_1 = a_1)) ?_ ?_
  rotate_left
  ·intro g_2; replace h := cond_f g_2 h
   refine sk ?_
   refine rg [] [0, 3, 5] [0] 1 [.sl false 3 (Mp e_T_api_Value l_1), Pp 0, Ii (w_i64 (i_1 + (1 : Int)))] [Vb 24 (v_T_api_Value a_1)] hmix an ?_
   exact ⟨_, (sw [0] [] [.s 0, .s 3, .s 5] [.s 0] an), _, rfl, h⟩
  intro g_2; replace h := cond_t g_2 h
  refine sr [] [4] [] 1 [Ii i_1] [] hmix an ?_
  refine rt ?_
  cases h
  exact ⟨rfl, Nat.le_of_ble_eq_true rfl, by kernel_rfl⟩
 intro e st1 hk
 rcases o_1 with q_1 | q_2
 rotate_left
 ·obtain ⟨rfl, hf⟩ := hk
  cases h
  exact ⟨st1, Sub.refl _ _, .inr rfl, hf⟩
 obtain ⟨rfl, hs⟩ := hk
 refine ⟨_, hs, ?_⟩
 refine sr [] [4] [] 0 [Ii (-1)] [] hmix an ?_
 refine rt ?_
 cases h
 exact ⟨.inr rfl, Nat.le_of_ble_eq_true rfl, by kernel_rfl⟩

theorem R33_dictionary_ok (F : Nat) (l_1 : List (T_api_Value)) (r : (List (Int))) (h : R33_dictionary F l_1 = some r) : TripleG prog 30 [] [] [.sl false 3 (Mp e_T_api_Value l_1)] [.row 5 1 (Mb r)] (.own 0 ((r).length)) := by
 refine triple_intro (fn := Go.Proofs.Try.f30) (code := codeOf Go.Proofs.Try.f30) (by kernel_rfl) (by kernel_rfl) (Nat.le_of_ble_eq_true (by kernel_rfl)) ?_
 unfold R33_dictionary at h
 refine sr [(0, { id := 0, m := 1 })] [0] [] 1 [.sl false 3 (Mp e_T_api_Value l_1)] [] hmix an ?_
 refine sr [(0, { id := 1, m := 1 })] [0, 3] [1] 2 [.sl false 3 (Mp e_T_api_Value l_1), .own 1 0] [Rb 24 3 []] hmix an ?_
 refine sr [] [0, 3, 4] [1] 2 [.sl false 3 (Mp e_T_api_Value l_1), .own 1 0, .nilsl] [Rb 24 3 []] hmix an ?_
 refine sq ?_
 refine sr [] [0, 3, 4, 5] [1] 2 [.sl false 3 (Mp e_T_api_Value l_1), .own 1 0, .nilsl, Ii 0] [Rb 24 3 []] hmix an ?_
 obtain ⟨o_1, h_1, h⟩ := bind_some h
 refine aw_mid (mk [(3, .own 0 ((o_1.2).length)), (4, .sl false 1 (Mb o_1.1))] [(0, Rb 24 3 (Mp e_T_api_Value o_1.2))] 1) ?_ ?_
 ·replace h := h_1
  refine aw_block (id := 0) (by kernel_rfl) ?_
  refine wk [1] [] [.s 0, .s 3, .a 4 (.sl false 1 []), .s 5] [.s 0] [(0, .sl false 3 (Mp e_T_api_Value l_1)), (3, .own 0 0), (4, .sl false 1 []), (5, Ii 0)] [(0, Rb 24 3 [])] (ar ([] : List AV) an) ?_
  refine aw_loopF (fun n st => ∃ (tail_1 : List Int), ∃ (i_1 : Int), ∃ (row_1 : List T_api_Value), st = mk [(0, .sl false 3 (Mp e_T_api_Value l_1)), (3, .own 0 ((row_1).length)), (4, .sl false 1 (Mb tail_1)), (5, Ii i_1)] [(0, Rb 24 3 (Mp e_T_api_Value row_1))] 1 ∧ R33_dictionary_L1 F l_1 n tail_1 i_1 row_1 = some o_1) F (by kernel_rfl) ⟨_, _, _, rfl, h⟩ ?_ ?_
  ·rintro _ ⟨_, _, _, _, h⟩; exact none_ne (h : (none : Option ((List Int) × (List T_api_Value))) = some o_1)
  rintro n_1 _ ⟨tail_1, i_1, row_1, rfl, h⟩
  replace h : R33_dictionary_L1_body F l_1 (R33_dictionary_L1 F l_1 n_1) tail_1 i_1 row_1 = some o_1 := h
  unfold R33_dictionary_L1_body at h
  refine sq ?_
  refine sr [(2, { n := (l_1).length })] [0, 3, 4, 5, 10] [0] 1 [.sl false 3 (Mp e_T_api_Value l_1), .own 0 ((row_1).length), .sl false 1 (Mb tail_1), Ii i_1, .bool (decide (i_1 < (lN (l_1))))] [Rb 24 3 (Mp e_T_api_Value row_1)] hmix (ac (vc_len _ : ((Mp e_T_api_Value l_1)).length = (l_1).length) an) ?_
  refine cd 10 (decide (i_1 < (lN (l_1)))) ?_ ?_
  rotate_left
  ·intro g_1; replace h := cond_f g_1 h
   refine aw_exit (id := 0) (by kernel_rfl) ?_
   cases h
   exact ⟨rfl, (sw [0] [] [.s 3, .s 4] [.s 0] an)⟩
  intro g_1; replace h := cond_t g_1 h
  refine sk ?_
  refine sq ?_
  obtain ⟨o_2, h_2, h⟩ := bind_some h
  refine aw_mid (mk [(0, .sl false 3 (Mp e_T_api_Value l_1)), (3, .own 0 ((o_2.1).length)), (4, .own 1 ((o_2.2).length)), (5, Ii i_1)] [(0, Rb 24 3 (Mp e_T_api_Value o_2.1)), (1, Rb 5 1 (Mb o_2.2))] 2) ?_ ?_
  ·replace h := h_2
   refine aw_block (id := 1) (by kernel_rfl) ?_
   refine sq ?_
   refine sq ?_
   obtain ⟨x_1, h_3, h⟩ := bind_some h
   obtain ⟨r_1, h_4, h⟩ := bind_some h
   refine rg [(3, { av := e_T_api_Value x_1 }), (5, { av := Ii r_1, l := [.sl false 3 (Mp e_T_api_Value row_1), e_T_api_Value x_1], lend := [0] })] [0, 3, 4, 5, 19] [0] 1 [.sl false 3 (Mp e_T_api_Value l_1), .own 0 ((row_1).length), .sl false 1 (Mb tail_1), Ii i_1, .bool (decide (r_1 < (0 : Int)))] [Rb 24 3 (Mp e_T_api_Value row_1)] hmix (ac (vc_idx h_3 : idxA (Mp e_T_api_Value l_1) i_1 = some (e_T_api_Value x_1)) (ac (by first | (simp; done) | (simp; omega) : (row_1).length = ((List.map e_T_api_Value row_1)).length) (ar ([.sl false 3 (Mp e_T_api_Value row_1), e_T_api_Value x_1] : List AV) (ac (rfl : ([] : List BoxSt) = []) (ac (R33_at_ok F row_1 x_1 r_1 h_4 : TripleG prog 39 [] [] [.sl false 3 (Mp e_T_api_Value row_1), e_T_api_Value x_1] [] (Ii r_1)) an))))) ?_
   obtain ⟨o_3, h_5, h⟩ := bind_some h
   refine aw_mid (mk [(0, .sl false 3 (Mp e_T_api_Value l_1)), (3, .own 0 ((o_3).length)), (4, .sl false 1 (Mb tail_1)), (5, Ii i_1)] [(0, Rb 24 3 (Mp e_T_api_Value o_3))] 1) ?_ ?_
   ·replace h := h_5
    refine cd 19 (decide (r_1 < (0 : Int))) ?_ ?_
    rotate_left
    ·intro g_2; replace h := cond_f g_2 h
     refine sk ?_
     cases h
     exact ⟨rfl, (sw [0] [] [.s 0, .s 3, .s 4, .s 5] [.s 0] an)⟩
    intro g_2; replace h := cond_t g_2 h
    obtain ⟨x_2, h_6, h⟩ := bind_some h
    obtain ⟨_, h_7, h⟩ := bind_some h; replace h_7 := need_some h_7
    refine rg [(3, { av := e_T_api_Value x_2 }), (5, { id := 1 }), (6, { id := 2, l := (Mp e_T_api_Value (row_1 ++ ([x_2] : List T_api_Value))), n := ((row_1 ++ ([x_2] : List T_api_Value))).length })] [0, 3, 4, 5] [2] 3 [.sl false 3 (Mp e_T_api_Value l_1), .own 2 (((row_1 ++ ([x_2] : List T_api_Value))).length), .sl false 1 (Mb tail_1), Ii i_1] [Rb 24 3 (Mp e_T_api_Value (row_1 ++ ([x_2] : List T_api_Value)))] hmix (ac (vc_idx h_6 : idxA (Mp e_T_api_Value l_1) i_1 = some (e_T_api_Value x_2)) (ac (by first | (simp; done) | (simp; omega) : (row_1).length = ((List.map e_T_api_Value row_1)).length) (ac (by first | (simp; done) | (simp; omega) : 1 = ((List.map e_T_api_Value ([x_2] : List T_api_Value))).length) (ac (vc_app _ _ : (Mp e_T_api_Value (row_1 ++ ([x_2] : List T_api_Value))) = (Mp e_T_api_Value row_1) ++ (Mp e_T_api_Value ([x_2] : List T_api_Value))) (ac (by simp : ((row_1 ++ ([x_2] : List T_api_Value))).length = ((List.map e_T_api_Value (row_1 ++ ([x_2] : List T_api_Value)))).length) (ac (by first | (simp; done) | simpa using h_7 : (((List.map e_T_api_Value row_1) : List AV).length + ((List.map e_T_api_Value ([x_2] : List T_api_Value)) : List AV).length) * 32 ≤ 140737488355328) an)))))) ?_
    cases h
    exact ⟨rfl, (sw [2] [] [.s 0, .s 3, .s 4, .s 5] [.s 0] an)⟩
   obtain ⟨x_3, h_8, h⟩ := bind_some h
   obtain ⟨r_2, h_9, h⟩ := bind_some h
   obtain ⟨r_3, h_10, h⟩ := bind_some h
   refine rg [(4, { av := e_T_api_Value x_3 }), (6, { av := Ii r_2, l := [.sl false 3 (Mp e_T_api_Value o_3), e_T_api_Value x_3], lend := [0] }), (7, { av := .own 0 ((r_3).length), ids := [1], l := [.sl false 1 (Mb tail_1), Ii r_2], post := [(.row 5 1 (Mb r_3))] })] [0, 3, 4, 5] [0, 1] 2 [.sl false 3 (Mp e_T_api_Value l_1), .own 0 ((o_3).length), .own 1 ((r_3).length), Ii i_1] [Rb 24 3 (Mp e_T_api_Value o_3), Rb 5 1 (Mb r_3)] hmix (ac (vc_idx h_8 : idxA (Mp e_T_api_Value l_1) i_1 = some (e_T_api_Value x_3)) (ac (by first | (simp; done) | (simp; omega) : (o_3).length = ((List.map e_T_api_Value o_3)).length) (ar ([.sl false 3 (Mp e_T_api_Value o_3), e_T_api_Value x_3] : List AV) (ac (rfl : ([] : List BoxSt) = []) (ac (R33_at_ok F o_3 x_3 r_2 h_9 : TripleG prog 39 [] [] [.sl false 3 (Mp e_T_api_Value o_3), e_T_api_Value x_3] [] (Ii r_2)) (ar ([.sl false 1 (Mb tail_1), Ii r_2] : List AV) (ac (rfl : ([] : List BoxSt) = []) (ac (R05_PutInt_ok F tail_1 r_2 r_3 h_10 : TripleG prog 38 [] [] [.sl false 1 (Mb tail_1), Ii r_2] [(.row 5 1 (Mb r_3))] (.own 0 ((r_3).length))) an)))))))) ?_
   cases h
   exact ⟨rfl, (sw [0, 1] [] [.s 0, .s 3, .s 4, .s 5] [.s 0, .s 1] an)⟩
  refine rg [] [0, 3, 4, 5] [0, 1] 2 [.sl false 3 (Mp e_T_api_Value l_1), .own 0 ((o_2.1).length), .own 1 ((o_2.2).length), Ii (w_i64 (i_1 + (1 : Int)))] [Rb 24 3 (Mp e_T_api_Value o_2.1), Rb 5 1 (Mb o_2.2)] hmix an ?_
  exact ⟨_, (Sub.trans (sub_wkm [0] [1] [.s 0, .s 3, .a 4 (.sl false 1 (Mb o_2.2)), .s 5] [.s 0] (sl2 := [(0, .sl false 3 (Mp e_T_api_Value l_1)), (3, .own 0 ((o_2.1).length)), (4, .sl false 1 (Mb o_2.2)), (5, Ii (w_i64 (i_1 + (1 : Int))))]) (bx2 := [(0, Rb 24 3 (Mp e_T_api_Value o_2.1))]) (by kernel_rfl) (ac (by first | (simp; done) | (simp; omega) : (o_2.2).length = ((List.map (AV.int .u8) o_2.2)).length) (ar 1 (ar ((Mb o_2.2) : List AV) (ac (rfl : (!false || false) = true) an))))) (sw [0] [] [.s 0, .s 3, .s 4, .s 5] [.s 0] an)), _, _, _, rfl, h⟩
 refine sq ?_
 obtain ⟨r_4, h_11, h⟩ := bind_some h
 obtain ⟨r_5, h_12, h⟩ := bind_some h
 obtain ⟨_, h_13, h⟩ := bind_some h; replace h_13 := need_some h_13
 refine rg [(2, { av := .own 0 ((r_4).length), ids := [1], l := [.nilsl, Ii (lN (o_1.2))], post := [(.row 5 1 (Mb r_4))] }), (4, { av := .own 0 ((r_5).length), frz := [0], ids := [2], l := [.sl false 3 (Mp e_T_api_Value o_1.2)], post := [(.row 5 1 (Mb r_5))] }), (5, { id := 3, l := (Mb (r_4 ++ r_5)), n := ((r_4 ++ r_5)).length })] [4, 6] [3] 4 [.sl false 1 (Mb o_1.1), .own 3 (((r_4 ++ r_5)).length)] [Rb 5 1 (Mb (r_4 ++ r_5))] hmix (ar ([.nilsl, Ii (lN (o_1.2))] : List AV) (ac (rfl : ([] : List BoxSt) = []) (ac (triple_lo (args' := [.sl false 1 [], Ii (lN (o_1.2))]) (R05_PutInt_ok F [] (lN (o_1.2)) r_4 h_11) rfl ⟨rfl, rfl, trivial⟩ : TripleG prog 38 [] [] [.nilsl, Ii (lN (o_1.2))] [(.row 5 1 (Mb r_4))] (.own 0 ((r_4).length))) (ac (by first | (simp; done) | (simp; omega) : (o_1.2).length = ((List.map e_T_api_Value o_1.2)).length) (ar ([.sl false 3 (Mp e_T_api_Value o_1.2)] : List AV) (ac (rfl : ([] : List BoxSt) = []) (ac (R33_plain_ok F o_1.2 r_5 h_12 : TripleG prog 27 [] [] [.sl false 3 (Mp e_T_api_Value o_1.2)] [(.row 5 1 (Mb r_5))] (.own 0 ((r_5).length))) (ac (by first | (simp; done) | (simp; omega) : (r_4).length = ((List.map (AV.int .u8) r_4)).length) (ac (by first | (simp; done) | (simp; omega) : (r_5).length = ((List.map (AV.int .u8) r_5)).length) (ac (vc_app _ _ : (Mb (r_4 ++ r_5)) = (Mb r_4) ++ (Mb r_5)) (ac (by simp : ((r_4 ++ r_5)).length = ((List.map (AV.int .u8) (r_4 ++ r_5))).length) (ac (by first | (simp; done) | simpa using h_13 : (((List.map (AV.int .u8) r_4) : List AV).length + ((List.map (AV.int .u8) r_5) : List AV).length) * 1 ≤ 140737488355328) an)))))))))))) ?_
 refine sq ?_
 obtain ⟨_, h_14, h⟩ := bind_some h; replace h_14 := need_some h_14
 refine rg [(2, { id := 4, l := (Mb ((r_4 ++ r_5) ++ o_1.1)), n := (((r_4 ++ r_5) ++ o_1.1)).length })] [2] [4] 5 [.own 4 ((((r_4 ++ r_5) ++ o_1.1)).length)] [Rb 5 1 (Mb ((r_4 ++ r_5) ++ o_1.1))] hmix (ac (by first | (simp; done) | (simp; omega) : ((r_4 ++ r_5)).length = ((List.map (AV.int .u8) (r_4 ++ r_5))).length) (ac (trivial : True) (ac (vc_app _ _ : (Mb ((r_4 ++ r_5) ++ o_1.1)) = (Mb (r_4 ++ r_5)) ++ (Mb o_1.1)) (ac (by simp : (((r_4 ++ r_5) ++ o_1.1)).length = ((List.map (AV.int .u8) ((r_4 ++ r_5) ++ o_1.1))).length) (ac (by first | (simp; done) | simpa using h_14 : (((List.map (AV.int .u8) (r_4 ++ r_5)) : List AV).length + ((List.map (AV.int .u8) o_1.1) : List AV).length) * 1 ≤ 140737488355328) an))))) ?_
 refine wk [4] [] [.s 2] [.s 0] [(2, .own 0 ((((r_4 ++ r_5) ++ o_1.1)).length))] [(0, Rb 5 1 (Mb ((r_4 ++ r_5) ++ o_1.1)))] an ?_
 refine rt ?_
 cases h
 exact ⟨.inr rfl, Nat.le_of_ble_eq_true rfl, by kernel_rfl⟩

theorem R33_Encode_ok (F : Nat) (k_1 : Int) (l_1 : List (T_api_Value)) (r : T_api_Packed × Int) (h : R33_Encode F k_1 l_1 = some r) : TripleG prog 13 [] [] [Ii k_1, .sl false 3 (Mp e_T_api_Value l_1)] [] (.tuple [e_T_api_Packed r.1, Ii r.2]) := by
 refine triple_intro (fn := Go.Proofs.Try.f13) (code := codeOf Go.Proofs.Try.f13) (by kernel_rfl) (by kernel_rfl) (Nat.le_of_ble_eq_true (by kernel_rfl)) ?_
 unfold R33_Encode at h
 refine sr [(0, { id := 0 })] [0, 1, 4] [0] 1 [Ii k_1, .sl false 3 (Mp e_T_api_Value l_1), Pp 0] [Vb 33 [Ii 0, Ii 0, .nilsl]] hmix an ?_
 refine sq ?_
 refine sq ?_
 refine aw_mid (mk [(0, Ii k_1), (1, .sl false 3 (Mp e_T_api_Value l_1)), (4, Pp 0), (17, .bool (decide (k_1 < (1 : Int)) || decide (k_1 > (3 : Int))))] [(0, Vb 33 [Ii 0, Ii 0, .nilsl])] 1) ?_ ?_
 ·rcases bft (decide (k_1 < (1 : Int))) with gg_1 | gg_1
  ·refine rg [(3, Hg), (4, Hg), (5, Ht)] [0, 1, 4, 17] [0] 1 [Ii k_1, .sl false 3 (Mp e_T_api_Value l_1), Pp 0, .bool true] [Vb 33 [Ii 0, Ii 0, .nilsl]] hmix (ac gg_1 (ac gg_1 (ac gg_1 an))) ?_
   exact ⟨rfl, (sw [0] [] [.s 0, .s 1, .s 4, .a 17 (.bool (decide (k_1 < (1 : Int)) || decide (k_1 > (3 : Int))))] [.s 0] (ac (congrArg AV.bool (ort gg_1) : (.bool true : AV) = .bool (decide (k_1 < (1 : Int)) || decide (k_1 > (3 : Int)))) an))⟩
  ·refine rg [(5, Hf)] [0, 1, 4, 17] [0] 1 [Ii k_1, .sl false 3 (Mp e_T_api_Value l_1), Pp 0, .bool (decide (k_1 > (3 : Int)))] [Vb 33 [Ii 0, Ii 0, .nilsl]] hmix (ac gg_1 (ac gg_1 (ac gg_1 an))) ?_
   exact ⟨rfl, (sw [0] [] [.s 0, .s 1, .s 4, .a 17 (.bool (decide (k_1 < (1 : Int)) || decide (k_1 > (3 : Int))))] [.s 0] (ac (congrArg AV.bool (orf gg_1 rfl) : (.bool (decide (k_1 > (3 : Int))) : AV) = .bool (decide (k_1 < (1 : Int)) || decide (k_1 > (3 : Int)))) an))⟩
 refine cd 17 (decide (k_1 < (1 : Int)) || decide (k_1 > (3 : Int))) ?_ ?_
 ·intro g_1; replace h := cond_t g_1 h
  refine sr [] [4, 5] [0] 1 [Pp 0, Ii 1] [Vb 33 [Ii 0, Ii 0, .nilsl]] hmix an ?_
  refine wk [0] [] [.s 4, .s 5] [.a 0 (Vb 33 (v_T_api_Packed (⟨(0 : Int), (0 : Int), []⟩ : T_api_Packed)))] [(4, Pp 0), (5, Ii 1)] [(0, Vb 33 (v_T_api_Packed (⟨(0 : Int), (0 : Int), []⟩ : T_api_Packed)))] (ar 33 (ac (rfl : ones [Ii ((⟨(0 : Int), (0 : Int), []⟩ : T_api_Packed).Type_), Ii ((⟨(0 : Int), (0 : Int), []⟩ : T_api_Packed).N), .sl false 1 (Mb ((⟨(0 : Int), (0 : Int), []⟩ : T_api_Packed).Bytes))] = true) (ac (rfl : (Ii 0 : AV) = Ii ((⟨(0 : Int), (0 : Int), []⟩ : T_api_Packed).Type_)) (ac (rfl : (Ii 0 : AV) = Ii ((⟨(0 : Int), (0 : Int), []⟩ : T_api_Packed).N)) (ac (rfl : ((Mb ((⟨(0 : Int), (0 : Int), []⟩ : T_api_Packed).Bytes)) : List AV) = []) an))))) ?_
  refine rt ?_
  cases h
  exact ⟨.inr rfl, Nat.le_of_ble_eq_true rfl, by kernel_rfl⟩
 intro g_1; replace h := cond_f g_1 h
 refine sk ?_
 refine sq ?_
 refine sr [(1, { n := (l_1).length })] [0, 1, 4, 21] [0] 1 [Ii k_1, .sl false 3 (Mp e_T_api_Value l_1), Pp 0, .bool (decide ((lN (l_1)) > (20000 : Int)))] [Vb 33 [Ii 0, Ii 0, .nilsl]] hmix (ac (vc_len _ : ((Mp e_T_api_Value l_1)).length = (l_1).length) an) ?_
 refine cd 21 (decide ((lN (l_1)) > (20000 : Int))) ?_ ?_
 ·intro g_2; replace h := cond_t g_2 h
  refine sr [] [4, 5] [0] 1 [Pp 0, Ii 7] [Vb 33 [Ii 0, Ii 0, .nilsl]] hmix an ?_
  refine wk [0] [] [.s 4, .s 5] [.a 0 (Vb 33 (v_T_api_Packed (⟨(0 : Int), (0 : Int), []⟩ : T_api_Packed)))] [(4, Pp 0), (5, Ii 7)] [(0, Vb 33 (v_T_api_Packed (⟨(0 : Int), (0 : Int), []⟩ : T_api_Packed)))] (ar 33 (ac (rfl : ones [Ii ((⟨(0 : Int), (0 : Int), []⟩ : T_api_Packed).Type_), Ii ((⟨(0 : Int), (0 : Int), []⟩ : T_api_Packed).N), .sl false 1 (Mb ((⟨(0 : Int), (0 : Int), []⟩ : T_api_Packed).Bytes))] = true) (ac (rfl : (Ii 0 : AV) = Ii ((⟨(0 : Int), (0 : Int), []⟩ : T_api_Packed).Type_)) (ac (rfl : (Ii 0 : AV) = Ii ((⟨(0 : Int), (0 : Int), []⟩ : T_api_Packed).N)) (ac (rfl : ((Mb ((⟨(0 : Int), (0 : Int), []⟩ : T_api_Packed).Bytes)) : List AV) = []) an))))) ?_
  refine rt ?_
  cases h
  exact ⟨.inr rfl, Nat.le_of_ble_eq_true rfl, by kernel_rfl⟩
 intro g_2; replace h := cond_f g_2 h
 refine sk ?_
 refine sq ?_
 refine sr [] [0, 1, 4, 6] [0] 1 [Ii k_1, .sl false 3 (Mp e_T_api_Value l_1), Pp 0, Ii 0] [Vb 33 [Ii 0, Ii 0, .nilsl]] hmix an ?_
 obtain ⟨o_1, h_1, h⟩ := bind_some h
 refine aw_conv (K1 := (fun e st' => match o_1 with | (.inl q0) => e = .normal ∧ Sub 0 st' (mk [(0, Ii k_1), (1, .sl false 3 (Mp e_T_api_Value l_1)), (4, Pp 0)] [(0, Vb 33 [Ii 0, Ii 0, .nilsl])] 1) | (.inr q1) => e = .ret ∧ FinR prog Go.Proofs.Try.f13 0 [] (.tuple [e_T_api_Packed q1.1, Ii q1.2]) st')) ?_ ?_
 ·replace h := h_1
  refine aw_block (id := 0) (by kernel_rfl) ?_
  refine wk [0] [] [.s 0, .s 1, .s 4, .s 6] [.s 0] [(0, Ii k_1), (1, .sl false 3 (Mp e_T_api_Value l_1)), (4, Pp 0), (6, Ii 0)] [(0, Vb 33 [Ii 0, Ii 0, .nilsl])] an ?_
  refine aw_loopF (fun n st => ∃ (i_1 : Int), st = mk [(0, Ii k_1), (1, .sl false 3 (Mp e_T_api_Value l_1)), (4, Pp 0), (6, Ii i_1)] [(0, Vb 33 [Ii 0, Ii 0, .nilsl])] 1 ∧ R33_Encode_L1 F k_1 l_1 n i_1 = some o_1) F (by kernel_rfl) ⟨_, rfl, h⟩ ?_ ?_
  ·rintro _ ⟨_, _, h⟩; exact none_ne (h : (none : Option (Unit ⊕ (T_api_Packed × Int))) = some o_1)
  rintro n_1 _ ⟨i_1, rfl, h⟩
  replace h : R33_Encode_L1_body F k_1 l_1 (R33_Encode_L1 F k_1 l_1 n_1) i_1 = some o_1 := h
  unfold R33_Encode_L1_body at h
  refine sq ?_
  refine sr [(2, { n := (l_1).length })] [0, 1, 4, 6, 26] [0] 1 [Ii k_1, .sl false 3 (Mp e_T_api_Value l_1), Pp 0, Ii i_1, .bool (decide (i_1 < (lN (l_1))))] [Vb 33 [Ii 0, Ii 0, .nilsl]] hmix (ac (vc_len _ : ((Mp e_T_api_Value l_1)).length = (l_1).length) an) ?_
  refine cd 26 (decide (i_1 < (lN (l_1)))) ?_ ?_
  rotate_left
  ·intro g_3; replace h := cond_f g_3 h
   refine aw_exit (id := 0) (by kernel_rfl) ?_
   cases h
   exact ⟨rfl, (sw [0] [] [.s 0, .s 1, .s 4] [.s 0] an)⟩
  intro g_3; replace h := cond_t g_3 h
  refine sk ?_
  refine sq ?_
  refine aw_block (id := 1) (by kernel_rfl) ?_
  refine sq ?_
  obtain ⟨x_1, h_2, h⟩ := bind_some h
  obtain ⟨r_1, h_3, h⟩ := bind_some h
  refine rg [(3, { av := e_T_api_Value x_1 }), (5, { av := Ii r_1, l := [Ii k_1, e_T_api_Value x_1] })] [0, 1, 4, 6, 7] [0] 1 [Ii k_1, .sl false 3 (Mp e_T_api_Value l_1), Pp 0, Ii i_1, Ii r_1] [Vb 33 [Ii 0, Ii 0, .nilsl]] hmix (ac (vc_idx h_2 : idxA (Mp e_T_api_Value l_1) i_1 = some (e_T_api_Value x_1)) (ar ([Ii k_1, e_T_api_Value x_1] : List AV) (ac (rfl : ([] : List BoxSt) = []) (ac (R33_Value_ok k_1 x_1 r_1 h_3 : TripleG prog 9 [] [] [Ii k_1, e_T_api_Value x_1] [] (Ii r_1)) an)))) ?_
  refine sr [] [0, 1, 4, 6, 7, 36] [0] 1 [Ii k_1, .sl false 3 (Mp e_T_api_Value l_1), Pp 0, Ii i_1, Ii r_1, .bool (r_1 != (0 : Int))] [Vb 33 [Ii 0, Ii 0, .nilsl]] hmix an ?_
  refine cd 36 (r_1 != (0 : Int)) ?_ ?_
  rotate_left
  ·intro g_4; replace h := cond_f g_4 h
   refine sk ?_
   refine rg [] [0, 1, 4, 6] [0] 1 [Ii k_1, .sl false 3 (Mp e_T_api_Value l_1), Pp 0, Ii (w_i64 (i_1 + (1 : Int)))] [Vb 33 [Ii 0, Ii 0, .nilsl]] hmix an ?_
   exact ⟨_, (sw [0] [] [.s 0, .s 1, .s 4, .s 6] [.s 0] an), _, rfl, h⟩
  intro g_4; replace h := cond_t g_4 h
  refine sr [] [4, 5] [0] 1 [Pp 0, Ii r_1] [Vb 33 [Ii 0, Ii 0, .nilsl]] hmix an ?_
  refine wk [0] [] [.s 4, .s 5] [.a 0 (Vb 33 (v_T_api_Packed (⟨(0 : Int), (0 : Int), []⟩ : T_api_Packed)))] [(4, Pp 0), (5, Ii r_1)] [(0, Vb 33 (v_T_api_Packed (⟨(0 : Int), (0 : Int), []⟩ : T_api_Packed)))] (ar 33 (ac (rfl : ones [Ii ((⟨(0 : Int), (0 : Int), []⟩ : T_api_Packed).Type_), Ii ((⟨(0 : Int), (0 : Int), []⟩ : T_api_Packed).N), .sl false 1 (Mb ((⟨(0 : Int), (0 : Int), []⟩ : T_api_Packed).Bytes))] = true) (ac (rfl : (Ii 0 : AV) = Ii ((⟨(0 : Int), (0 : Int), []⟩ : T_api_Packed).Type_)) (ac (rfl : (Ii 0 : AV) = Ii ((⟨(0 : Int), (0 : Int), []⟩ : T_api_Packed).N)) (ac (rfl : ((Mb ((⟨(0 : Int), (0 : Int), []⟩ : T_api_Packed).Bytes)) : List AV) = []) an))))) ?_
  refine rt ?_
  cases h
  exact ⟨rfl, Nat.le_of_ble_eq_true rfl, by kernel_rfl⟩
 intro e st1 hk
 rcases o_1 with q_1 | q_2
 rotate_left
 ·obtain ⟨rfl, hf⟩ := hk
  cases h
  exact ⟨st1, Sub.refl _ _, .inr rfl, hf⟩
 obtain ⟨rfl, hs⟩ := hk
 refine ⟨_, hs, ?_⟩
 refine sq ?_
 obtain ⟨r_2, h_4, h⟩ := bind_some h
 obtain ⟨_, h_5, h⟩ := bind_some h; replace h_5 := need_some h_5
 refine rg [(0, { id := 1 }), (2, { av := .own 0 ((r_2).length), ids := [2], l := [.sl false 3 (Mp e_T_api_Value l_1)], post := [(.row 5 1 (Mb r_2))] }), (3, { id := 3, l := (Mb (([(0 : Int)] : List Int) ++ r_2)), n := ((([(0 : Int)] : List Int) ++ r_2)).length })] [0, 1, 4, 8] [0, 3] 4 [Ii k_1, .sl false 3 (Mp e_T_api_Value l_1), Pp 0, .own 3 (((([(0 : Int)] : List Int) ++ r_2)).length)] [Vb 33 [Ii 0, Ii 0, .nilsl], Rb 5 1 (Mb (([(0 : Int)] : List Int) ++ r_2))] hmix (ar ([.sl false 3 (Mp e_T_api_Value l_1)] : List AV) (ac (rfl : ([] : List BoxSt) = []) (ac (R33_plain_ok F l_1 r_2 h_4 : TripleG prog 27 [] [] [.sl false 3 (Mp e_T_api_Value l_1)] [(.row 5 1 (Mb r_2))] (.own 0 ((r_2).length))) (ac (by first | (simp; done) | (simp; omega) : 1 = ((List.map (AV.int .u8) ([(0 : Int)] : List Int))).length) (ac (by first | (simp; done) | (simp; omega) : (r_2).length = ((List.map (AV.int .u8) r_2)).length) (ac (vc_app _ _ : (Mb (([(0 : Int)] : List Int) ++ r_2)) = (Mb ([(0 : Int)] : List Int)) ++ (Mb r_2)) (ac (by simp : ((([(0 : Int)] : List Int) ++ r_2)).length = ((List.map (AV.int .u8) (([(0 : Int)] : List Int) ++ r_2))).length) (ac (by first | (simp; done) | simpa using h_5 : (((List.map (AV.int .u8) ([(0 : Int)] : List Int)) : List AV).length + ((List.map (AV.int .u8) r_2) : List AV).length) * 1 ≤ 140737488355328) an)))))))) ?_
 refine sq ?_
 obtain ⟨r_3, h_6, h⟩ := bind_some h
 obtain ⟨_, h_7, h⟩ := bind_some h; replace h_7 := need_some h_7
 refine rg [(0, { id := 4 }), (2, { av := .sl false 1 (Mb r_3), l := [.sl false 3 (Mp e_T_api_Value l_1)] }), (3, { id := 5, l := (Mb (([(1 : Int)] : List Int) ++ r_3)), n := ((([(1 : Int)] : List Int) ++ r_3)).length })] [0, 1, 4, 8, 9] [0, 3, 5] 6 [Ii k_1, .sl false 3 (Mp e_T_api_Value l_1), Pp 0, .own 3 (((([(0 : Int)] : List Int) ++ r_2)).length), .own 5 (((([(1 : Int)] : List Int) ++ r_3)).length)] [Vb 33 [Ii 0, Ii 0, .nilsl], Rb 5 1 (Mb (([(0 : Int)] : List Int) ++ r_2)), Rb 5 1 (Mb (([(1 : Int)] : List Int) ++ r_3))] hmix (ar ([.sl false 3 (Mp e_T_api_Value l_1)] : List AV) (ac (rfl : ([] : List BoxSt) = []) (ac (R33_runs_ok F l_1 r_3 h_6 : TripleG prog 28 [] [] [.sl false 3 (Mp e_T_api_Value l_1)] [] (.sl false 1 (Mb r_3))) (ac (by first | (simp; done) | (simp; omega) : 1 = ((List.map (AV.int .u8) ([(1 : Int)] : List Int))).length) (ac (trivial : True) (ac (vc_app _ _ : (Mb (([(1 : Int)] : List Int) ++ r_3)) = (Mb ([(1 : Int)] : List Int)) ++ (Mb r_3)) (ac (by simp : ((([(1 : Int)] : List Int) ++ r_3)).length = ((List.map (AV.int .u8) (([(1 : Int)] : List Int) ++ r_3))).length) (ac (by first | (simp; done) | simpa using h_7 : (((List.map (AV.int .u8) ([(1 : Int)] : List Int)) : List AV).length + ((List.map (AV.int .u8) r_3) : List AV).length) * 1 ≤ 140737488355328) an)))))))) ?_
 refine sq ?_
 refine sr [] [0, 1, 4, 8, 9, 51] [0, 3, 5] 6 [Ii k_1, .sl false 3 (Mp e_T_api_Value l_1), Pp 0, .own 3 (((([(0 : Int)] : List Int) ++ r_2)).length), .own 5 (((([(1 : Int)] : List Int) ++ r_3)).length), .bool (decide ((lN ((([(1 : Int)] : List Int) ++ r_3))) < (lN ((([(0 : Int)] : List Int) ++ r_2)))))] [Vb 33 [Ii 0, Ii 0, .nilsl], Rb 5 1 (Mb (([(0 : Int)] : List Int) ++ r_2)), Rb 5 1 (Mb (([(1 : Int)] : List Int) ++ r_3))] hmix an ?_
 obtain ⟨o_2, h_8, h⟩ := bind_some h
 refine aw_mid (mk [(0, Ii k_1), (1, .sl false 3 (Mp e_T_api_Value l_1)), (4, Pp 0), (8, .own 1 ((o_2).length))] [(0, Vb 33 [Ii 0, Ii 0, .nilsl]), (1, Rb 5 1 (Mb o_2))] 2) ?_ ?_
 ·replace h := h_8
  refine cd 51 (decide ((lN ((([(1 : Int)] : List Int) ++ r_3))) < (lN ((([(0 : Int)] : List Int) ++ r_2))))) ?_ ?_
  ·intro g_5; replace h := cond_t g_5 h
   refine rg [] [0, 1, 4, 8] [0, 5] 6 [Ii k_1, .sl false 3 (Mp e_T_api_Value l_1), Pp 0, .own 5 (((([(1 : Int)] : List Int) ++ r_3)).length)] [Vb 33 [Ii 0, Ii 0, .nilsl], Rb 5 1 (Mb (([(1 : Int)] : List Int) ++ r_3))] hmix an ?_
   cases h
   exact ⟨rfl, (sw [0, 5] [] [.s 0, .s 1, .s 4, .s 8] [.s 0, .s 1] an)⟩
  intro g_5; replace h := cond_f g_5 h
  refine sk ?_
  cases h
  exact ⟨rfl, (sw [0, 3] [] [.s 0, .s 1, .s 4, .s 8] [.s 0, .s 1] an)⟩
 refine sq ?_
 obtain ⟨r_4, h_9, h⟩ := bind_some h
 refine rg [(2, { av := .tuple [.sl false 1 (Mb r_4.1), .bool r_4.2], l := [Ii k_1, .sl false 3 (Mp e_T_api_Value l_1)] })] [0, 1, 4, 8, 10, 11] [0, 1] 2 [Ii k_1, .sl false 3 (Mp e_T_api_Value l_1), Pp 0, .own 1 ((o_2).length), .sl false 1 (Mb r_4.1), .bool r_4.2] [Vb 33 [Ii 0, Ii 0, .nilsl], Rb 5 1 (Mb o_2)] hmix (ar ([Ii k_1, .sl false 3 (Mp e_T_api_Value l_1)] : List AV) (ac (rfl : ([] : List BoxSt) = []) (ac (R33_differences_ok F k_1 l_1 r_4 h_9 : TripleG prog 29 [] [] [Ii k_1, .sl false 3 (Mp e_T_api_Value l_1)] [] (.tuple [.sl false 1 (Mb r_4.1), .bool r_4.2])) an))) ?_
 refine sq ?_
 refine sq ?_
 refine aw_mid (mk [(0, Ii k_1), (1, .sl false 3 (Mp e_T_api_Value l_1)), (4, Pp 0), (8, .own 1 ((o_2).length)), (10, .sl false 1 (Mb r_4.1)), (67, .bool (r_4.2 && decide ((w_i64 ((lN (r_4.1)) + (1 : Int))) < (lN (o_2)))))] [(0, Vb 33 [Ii 0, Ii 0, .nilsl]), (1, Rb 5 1 (Mb o_2))] 2) ?_ ?_
 ·rcases Bool.eq_false_or_eq_true r_4.2 with gg_2 | gg_2
  ·refine rg [(3, { n := (r_4.1).length }), (8, Ht)] [0, 1, 4, 8, 10, 67] [0, 1] 2 [Ii k_1, .sl false 3 (Mp e_T_api_Value l_1), Pp 0, .own 1 ((o_2).length), .sl false 1 (Mb r_4.1), .bool (decide ((w_i64 ((lN (r_4.1)) + (1 : Int))) < (lN (o_2))))] [Vb 33 [Ii 0, Ii 0, .nilsl], Rb 5 1 (Mb o_2)] hmix (ac gg_2 (ac gg_2 (ac (vc_len _ : ((Mb r_4.1)).length = (r_4.1).length) (ac gg_2 (ac gg_2 (ac gg_2 (ac gg_2 (ac gg_2 an)))))))) ?_
   exact ⟨rfl, (sw [0, 1] [] [.s 0, .s 1, .s 4, .s 8, .s 10, .a 67 (.bool (r_4.2 && decide ((w_i64 ((lN (r_4.1)) + (1 : Int))) < (lN (o_2)))))] [.s 0, .s 1] (ac (congrArg AV.bool (andt gg_2 rfl) : (.bool (decide ((w_i64 ((lN (r_4.1)) + (1 : Int))) < (lN (o_2)))) : AV) = .bool (r_4.2 && decide ((w_i64 ((lN (r_4.1)) + (1 : Int))) < (lN (o_2))))) an))⟩
  ·refine rg [(2, Hg), (3, Hg), (4, Hg), (5, Hg), (6, Hg), (7, Hg), (8, Hf)] [0, 1, 4, 8, 10, 67] [0, 1] 2 [Ii k_1, .sl false 3 (Mp e_T_api_Value l_1), Pp 0, .own 1 ((o_2).length), .sl false 1 (Mb r_4.1), .bool false] [Vb 33 [Ii 0, Ii 0, .nilsl], Rb 5 1 (Mb o_2)] hmix (ac gg_2 (ac gg_2 (ac gg_2 (ac gg_2 (ac gg_2 (ac gg_2 (ac gg_2 an))))))) ?_
   exact ⟨rfl, (sw [0, 1] [] [.s 0, .s 1, .s 4, .s 8, .s 10, .a 67 (.bool (r_4.2 && decide ((w_i64 ((lN (r_4.1)) + (1 : Int))) < (lN (o_2)))))] [.s 0, .s 1] (ac (congrArg AV.bool (andf gg_2) : (.bool false : AV) = .bool (r_4.2 && decide ((w_i64 ((lN (r_4.1)) + (1 : Int))) < (lN (o_2))))) an))⟩
 obtain ⟨o_3, h_10, h⟩ := bind_some h
 refine aw_mid (mk [(0, Ii k_1), (1, .sl false 3 (Mp e_T_api_Value l_1)), (4, Pp 0), (8, .own 1 ((o_3).length))] [(0, Vb 33 [Ii 0, Ii 0, .nilsl]), (1, Rb 5 1 (Mb o_3))] 2) ?_ ?_
 ·replace h := h_10
  refine cd 67 (r_4.2 && decide ((w_i64 ((lN (r_4.1)) + (1 : Int))) < (lN (o_2)))) ?_ ?_
  rotate_left
  ·intro g_6; replace h := cond_f g_6 h
   refine sk ?_
   cases h
   exact ⟨rfl, (sw [0, 1] [] [.s 0, .s 1, .s 4, .s 8] [.s 0, .s 1] an)⟩
  intro g_6; replace h := cond_t g_6 h
  obtain ⟨_, h_11, h⟩ := bind_some h; replace h_11 := need_some h_11
  refine rg [(0, { id := 2 }), (2, { id := 3, l := (Mb (([(2 : Int)] : List Int) ++ r_4.1)), n := ((([(2 : Int)] : List Int) ++ r_4.1)).length })] [0, 1, 4, 8] [0, 3] 4 [Ii k_1, .sl false 3 (Mp e_T_api_Value l_1), Pp 0, .own 3 (((([(2 : Int)] : List Int) ++ r_4.1)).length)] [Vb 33 [Ii 0, Ii 0, .nilsl], Rb 5 1 (Mb (([(2 : Int)] : List Int) ++ r_4.1))] hmix (ac (by first | (simp; done) | (simp; omega) : 1 = ((List.map (AV.int .u8) ([(2 : Int)] : List Int))).length) (ac (trivial : True) (ac (vc_app _ _ : (Mb (([(2 : Int)] : List Int) ++ r_4.1)) = (Mb ([(2 : Int)] : List Int)) ++ (Mb r_4.1)) (ac (by simp : ((([(2 : Int)] : List Int) ++ r_4.1)).length = ((List.map (AV.int .u8) (([(2 : Int)] : List Int) ++ r_4.1))).length) (ac (by first | (simp; done) | simpa using h_11 : (((List.map (AV.int .u8) ([(2 : Int)] : List Int)) : List AV).length + ((List.map (AV.int .u8) r_4.1) : List AV).length) * 1 ≤ 140737488355328) an))))) ?_
  cases h
  exact ⟨rfl, (sw [0, 3] [] [.s 0, .s 1, .s 4, .s 8] [.s 0, .s 1] an)⟩
 refine sq ?_
 obtain ⟨r_5, h_12, h⟩ := bind_some h
 obtain ⟨_, h_13, h⟩ := bind_some h; replace h_13 := need_some h_13
 refine rg [(0, { id := 2 }), (2, { av := .own 0 ((r_5).length), ids := [3], l := [.sl false 3 (Mp e_T_api_Value l_1)], post := [(.row 5 1 (Mb r_5))] }), (3, { id := 4, l := (Mb (([(3 : Int)] : List Int) ++ r_5)), n := ((([(3 : Int)] : List Int) ++ r_5)).length })] [0, 1, 4, 8, 9] [0, 1, 4] 5 [Ii k_1, .sl false 3 (Mp e_T_api_Value l_1), Pp 0, .own 1 ((o_3).length), .own 4 (((([(3 : Int)] : List Int) ++ r_5)).length)] [Vb 33 [Ii 0, Ii 0, .nilsl], Rb 5 1 (Mb o_3), Rb 5 1 (Mb (([(3 : Int)] : List Int) ++ r_5))] hmix (ar ([.sl false 3 (Mp e_T_api_Value l_1)] : List AV) (ac (rfl : ([] : List BoxSt) = []) (ac (R33_dictionary_ok F l_1 r_5 h_12 : TripleG prog 30 [] [] [.sl false 3 (Mp e_T_api_Value l_1)] [(.row 5 1 (Mb r_5))] (.own 0 ((r_5).length))) (ac (by first | (simp; done) | (simp; omega) : 1 = ((List.map (AV.int .u8) ([(3 : Int)] : List Int))).length) (ac (by first | (simp; done) | (simp; omega) : (r_5).length = ((List.map (AV.int .u8) r_5)).length) (ac (vc_app _ _ : (Mb (([(3 : Int)] : List Int) ++ r_5)) = (Mb ([(3 : Int)] : List Int)) ++ (Mb r_5)) (ac (by simp : ((([(3 : Int)] : List Int) ++ r_5)).length = ((List.map (AV.int .u8) (([(3 : Int)] : List Int) ++ r_5))).length) (ac (by first | (simp; done) | simpa using h_13 : (((List.map (AV.int .u8) ([(3 : Int)] : List Int)) : List AV).length + ((List.map (AV.int .u8) r_5) : List AV).length) * 1 ≤ 140737488355328) an)))))))) ?_
 refine sq ?_
 refine sr [] [0, 1, 4, 8, 9, 79] [0, 1, 4] 5 [Ii k_1, .sl false 3 (Mp e_T_api_Value l_1), Pp 0, .own 1 ((o_3).length), .own 4 (((([(3 : Int)] : List Int) ++ r_5)).length), .bool (decide ((lN ((([(3 : Int)] : List Int) ++ r_5))) < (lN (o_3))))] [Vb 33 [Ii 0, Ii 0, .nilsl], Rb 5 1 (Mb o_3), Rb 5 1 (Mb (([(3 : Int)] : List Int) ++ r_5))] hmix an ?_
 obtain ⟨o_4, h_14, h⟩ := bind_some h
 refine aw_mid (mk [(0, Ii k_1), (1, .sl false 3 (Mp e_T_api_Value l_1)), (4, Pp 0), (8, .own 1 ((o_4).length))] [(0, Vb 33 [Ii 0, Ii 0, .nilsl]), (1, Rb 5 1 (Mb o_4))] 2) ?_ ?_
 ·replace h := h_14
  refine cd 79 (decide ((lN ((([(3 : Int)] : List Int) ++ r_5))) < (lN (o_3)))) ?_ ?_
  ·intro g_7; replace h := cond_t g_7 h
   refine rg [] [0, 1, 4, 8] [0, 4] 5 [Ii k_1, .sl false 3 (Mp e_T_api_Value l_1), Pp 0, .own 4 (((([(3 : Int)] : List Int) ++ r_5)).length)] [Vb 33 [Ii 0, Ii 0, .nilsl], Rb 5 1 (Mb (([(3 : Int)] : List Int) ++ r_5))] hmix an ?_
   cases h
   exact ⟨rfl, (sw [0, 4] [] [.s 0, .s 1, .s 4, .s 8] [.s 0, .s 1] an)⟩
  intro g_7; replace h := cond_f g_7 h
  refine sk ?_
  cases h
  exact ⟨rfl, (sw [0, 1] [] [.s 0, .s 1, .s 4, .s 8] [.s 0, .s 1] an)⟩
 refine sr [(2, { n := (l_1).length })] [4, 5] [0, 1] 2 [Pp 0, Ii 0] [Vb 33 [Ii k_1, Ii (lN (l_1)), .own 1 ((o_4).length)], Rb 5 1 (Mb o_4)] hmix (ac (vc_len _ : ((Mp e_T_api_Value l_1)).length = (l_1).length) an) ?_
 refine wk [0] [1] [.s 4, .s 5] [.a 0 (Vb 33 (v_T_api_Packed (⟨k_1, (lN (l_1)), o_4⟩ : T_api_Packed)))] [(4, Pp 0), (5, Ii 0)] [(0, Vb 33 (v_T_api_Packed (⟨k_1, (lN (l_1)), o_4⟩ : T_api_Packed)))] (ar 33 (ac (rfl : ones [Ii ((⟨k_1, (lN (l_1)), o_4⟩ : T_api_Packed).Type_), Ii ((⟨k_1, (lN (l_1)), o_4⟩ : T_api_Packed).N), .sl false 1 (Mb ((⟨k_1, (lN (l_1)), o_4⟩ : T_api_Packed).Bytes))] = true) (ac (by first | (simp; done) | (simp; omega) : (o_4).length = ((List.map (AV.int .u8) o_4)).length) (ac (rfl : (Ii k_1 : AV) = Ii ((⟨k_1, (lN (l_1)), o_4⟩ : T_api_Packed).Type_)) (ac (rfl : (Ii (lN (l_1)) : AV) = Ii ((⟨k_1, (lN (l_1)), o_4⟩ : T_api_Packed).N)) (ar 1 (ac (rfl : ((Mb o_4) : List AV) = (Mb ((⟨k_1, (lN (l_1)), o_4⟩ : T_api_Packed).Bytes))) (ac (rfl : (!false || false) = true) an)))))))) ?_
 refine rt ?_
 cases h
 exact ⟨.inr rfl, Nat.le_of_ble_eq_true rfl, by kernel_rfl⟩

theorem R33_Same_ok (F : Nat) (a_1 : List (T_api_Value)) (b_1 : List (T_api_Value)) (r : Bool) (h : R33_Same F a_1 b_1 = some r) : TripleG prog 16 [] [] [.sl false 3 (Mp e_T_api_Value a_1), .sl false 3 (Mp e_T_api_Value b_1)] [] (.bool r) := by
 refine triple_intro (fn := Go.Proofs.Try.f16) (code := codeOf Go.Proofs.Try.f16) (by kernel_rfl) (by kernel_rfl) (Nat.le_of_ble_eq_true (by kernel_rfl)) ?_
 unfold R33_Same at h
 refine sr [] [0, 1] [] 0 [.sl false 3 (Mp e_T_api_Value a_1), .sl false 3 (Mp e_T_api_Value b_1)] [] hmix an ?_
 refine sq ?_
 refine sr [(1, { n := (a_1).length }), (3, { n := (b_1).length })] [0, 1, 10] [] 0 [.sl false 3 (Mp e_T_api_Value a_1), .sl false 3 (Mp e_T_api_Value b_1), .bool ((lN (a_1)) != (lN (b_1)))] [] hmix (ac (vc_len _ : ((Mp e_T_api_Value a_1)).length = (a_1).length) (ac (vc_len _ : ((Mp e_T_api_Value b_1)).length = (b_1).length) an)) ?_
 refine cd 10 ((lN (a_1)) != (lN (b_1))) ?_ ?_
 ·intro g_1; replace h := cond_t g_1 h
  refine sr [] [4] [] 0 [.bool false] [] hmix an ?_
  refine rt ?_
  cases h
  exact ⟨.inr rfl, Nat.le_of_ble_eq_true rfl, by kernel_rfl⟩
 intro g_1; replace h := cond_f g_1 h
 refine sk ?_
 refine sq ?_
 refine sr [] [0, 1, 5] [] 0 [.sl false 3 (Mp e_T_api_Value a_1), .sl false 3 (Mp e_T_api_Value b_1), Ii 0] [] hmix an ?_
 obtain ⟨o_1, h_1, h⟩ := bind_some h
 refine aw_conv (K1 := (fun e st' => match o_1 with | (.inl q0) => e = .normal ∧ Sub 0 st' (mk [] [] 0) | (.inr q1) => e = .ret ∧ FinR prog Go.Proofs.Try.f16 0 [] (.bool q1) st')) ?_ ?_
 ·replace h := h_1
  refine aw_block (id := 0) (by kernel_rfl) ?_
  refine wk [] [] [.s 0, .s 1, .s 5] [] [(0, .sl false 3 (Mp e_T_api_Value a_1)), (1, .sl false 3 (Mp e_T_api_Value b_1)), (5, Ii 0)] [] an ?_
  refine aw_loopF (fun n st => ∃ (i_1 : Int), st = mk [(0, .sl false 3 (Mp e_T_api_Value a_1)), (1, .sl false 3 (Mp e_T_api_Value b_1)), (5, Ii i_1)] [] 0 ∧ R33_Same_L1 F a_1 b_1 n i_1 = some o_1) F (by kernel_rfl) ⟨_, rfl, h⟩ ?_ ?_
  ·rintro _ ⟨_, _, h⟩; exact none_ne (h : (none : Option (Unit ⊕ Bool)) = some o_1)
  rintro n_1 _ ⟨i_1, rfl, h⟩
  replace h : R33_Same_L1_body F a_1 b_1 (R33_Same_L1 F a_1 b_1 n_1) i_1 = some o_1 := h
  unfold R33_Same_L1_body at h
  refine sq ?_
  refine sr [(2, { n := (a_1).length })] [0, 1, 5, 14] [] 0 [.sl false 3 (Mp e_T_api_Value a_1), .sl false 3 (Mp e_T_api_Value b_1), Ii i_1, .bool (decide (i_1 < (lN (a_1))))] [] hmix (ac (vc_len _ : ((Mp e_T_api_Value a_1)).length = (a_1).length) an) ?_
  refine cd 14 (decide (i_1 < (lN (a_1)))) ?_ ?_
  rotate_left
  ·intro g_2; replace h := cond_f g_2 h
   refine aw_exit (id := 0) (by kernel_rfl) ?_
   cases h
   exact ⟨rfl, (sw [] [] [] [] an)⟩
  intro g_2; replace h := cond_t g_2 h
  refine sk ?_
  refine sq ?_
  refine aw_block (id := 1) (by kernel_rfl) ?_
  refine sq ?_
  obtain ⟨x_1, h_2, h⟩ := bind_some h
  obtain ⟨x_2, h_3, h⟩ := bind_some h
  refine rg [(2, { av := e_T_api_Value x_1 }), (6, { av := e_T_api_Value x_2 }), (8, { b := (decide (x_1 = x_2)), mks := [.int .i64, .int .i64, .str] })] [0, 1, 5, 25] [] 0 [.sl false 3 (Mp e_T_api_Value a_1), .sl false 3 (Mp e_T_api_Value b_1), Ii i_1, .bool (!(decide (x_1 = x_2)))] [] hmix (ac (vc_idx h_2 : idxA (Mp e_T_api_Value a_1) i_1 = some (e_T_api_Value x_1)) (ac (vc_idx h_3 : idxA (Mp e_T_api_Value b_1) i_1 = some (e_T_api_Value x_2)) (ac (eqOk_24 : EqOk prog 24 [.int .i64, .int .i64, .str]) (ac (vc_eqA (f := e_T_api_Value) inj_T_api_Value x_1 x_2 : ((decide (x_1 = x_2)) = true ↔ AV.agg [Ii x_1.Kind, Ii x_1.N, .str x_1.S] = AV.agg [Ii x_2.Kind, Ii x_2.N, .str x_2.S])) an)))) ?_
  refine cd 25 (!(decide (x_1 = x_2))) ?_ ?_
  rotate_left
  ·intro g_3; replace h := cond_f g_3 h
   refine sk ?_
   refine rg [] [0, 1, 5] [] 0 [.sl false 3 (Mp e_T_api_Value a_1), .sl false 3 (Mp e_T_api_Value b_1), Ii (w_i64 (i_1 + (1 : Int)))] [] hmix an ?_
   exact ⟨_, (sw [] [] [.s 0, .s 1, .s 5] [] an), _, rfl, h⟩
  intro g_3; replace h := cond_t g_3 h
  refine sr [] [4] [] 0 [.bool false] [] hmix an ?_
  refine rt ?_
  cases h
  exact ⟨rfl, Nat.le_of_ble_eq_true rfl, by kernel_rfl⟩
 intro e st1 hk
 rcases o_1 with q_1 | q_2
 rotate_left
 ·obtain ⟨rfl, hf⟩ := hk
  cases h
  exact ⟨st1, Sub.refl _ _, .inr rfl, hf⟩
 obtain ⟨rfl, hs⟩ := hk
 refine ⟨_, hs, ?_⟩
 refine sr [] [4] [] 0 [.bool true] [] hmix an ?_
 refine rt ?_
 cases h
 exact ⟨.inr rfl, Nat.le_of_ble_eq_true rfl, by kernel_rfl⟩

theorem R05_integer_ok (u_1 : Int) (r : Int) (h : R05_integer u_1 = some r) : TripleG prog 53 [] [] [.int .u64 u_1] [] (Ii r) := by
 refine triple_intro (fn := Go.Proofs.Try.f53) (code := codeOf Go.Proofs.Try.f53) (by kernel_rfl) (by kernel_rfl) (Nat.le_of_ble_eq_true (by kernel_rfl)) ?_
 unfold R05_integer at h
 refine sr [] [0] [] 0 [.int .u64 u_1] [] hmix an ?_
 refine sq ?_
 refine sr [] [0, 5] [] 0 [.int .u64 u_1, .bool ((irem u_1 (2 : Int)) == (1 : Int))] [] hmix (ac (by decide : (2 : Int) ≠ (0 : Int)) an) ?_
 refine cd 5 ((irem u_1 (2 : Int)) == (1 : Int)) ?_ ?_
 ·intro g_1; replace h := cond_t g_1 h
  refine sr [] [2] [] 0 [Ii (w_i64 ((w_i64 (0 - (w_i64 (iquo .u64 u_1 (2 : Int))))) - (1 : Int)))] [] hmix (ac (by decide : (2 : Int) ≠ (0 : Int)) an) ?_
  refine rt ?_
  cases h
  exact ⟨.inr rfl, Nat.le_of_ble_eq_true rfl, by kernel_rfl⟩
 intro g_1; replace h := cond_f g_1 h
 refine sk ?_
 refine sr [] [2] [] 0 [Ii (w_i64 (iquo .u64 u_1 (2 : Int)))] [] hmix (ac (by decide : (2 : Int) ≠ (0 : Int)) an) ?_
 refine rt ?_
 cases h
 exact ⟨.inr rfl, Nat.le_of_ble_eq_true rfl, by kernel_rfl⟩

theorem R05_Int_ok (F : Nat) (b_1 : List (Int)) (r : Int × Int × Int) (h : R05_Int F b_1 = some r) : TripleG prog 43 [] [] [.sl false 1 (Mb b_1)] [] (.tuple [Ii r.1, Ii r.2.1, Ii r.2.2]) := by
 refine triple_intro (fn := Go.Proofs.Try.f43) (code := codeOf Go.Proofs.Try.f43) (by kernel_rfl) (by kernel_rfl) (Nat.le_of_ble_eq_true (by kernel_rfl)) ?_
 unfold R05_Int at h
 refine sr [] [0] [] 0 [.sl false 1 (Mb b_1)] [] hmix an ?_
 refine sr [] [0, 5] [] 0 [.sl false 1 (Mb b_1), .int .u64 (0 : Int)] [] hmix an ?_
 refine sr [] [0, 5, 6] [] 0 [.sl false 1 (Mb b_1), .int .u64 (0 : Int), .int .u64 (1 : Int)] [] hmix an ?_
 refine sq ?_
 refine sr [] [0, 5, 6, 7] [] 0 [.sl false 1 (Mb b_1), .int .u64 (0 : Int), .int .u64 (1 : Int), Ii 0] [] hmix an ?_
 obtain ⟨o_1, h_1, h⟩ := bind_some h
 refine aw_conv (K1 := (fun e st' => match o_1 with | (.inl q0) => e = .normal ∧ Sub 0 st' (mk [] [] 0) | (.inr q1) => e = .ret ∧ FinR prog Go.Proofs.Try.f43 0 [] (.tuple [Ii q1.1, Ii q1.2.1, Ii q1.2.2]) st')) ?_ ?_
 ·replace h := h_1
  refine aw_block (id := 0) (by kernel_rfl) ?_
  refine wk [] [] [.s 0, .s 5, .s 6, .s 7] [] [(0, .sl false 1 (Mb b_1)), (5, .int .u64 (0 : Int)), (6, .int .u64 (1 : Int)), (7, Ii 0)] [] an ?_
  refine aw_loopF (fun n st => ∃ (u_1 : Int), ∃ (unit_1 : Int), ∃ (i_1 : Int), st = mk [(0, .sl false 1 (Mb b_1)), (5, .int .u64 u_1), (6, .int .u64 unit_1), (7, Ii i_1)] [] 0 ∧ R05_Int_L1 F b_1 n u_1 unit_1 i_1 = some o_1) F (by kernel_rfl) ⟨_, _, _, rfl, h⟩ ?_ ?_
  ·rintro _ ⟨_, _, _, _, h⟩; exact none_ne (h : (none : Option (Unit ⊕ (Int × Int × Int))) = some o_1)
  rintro n_1 _ ⟨u_1, unit_1, i_1, rfl, h⟩
  replace h : R05_Int_L1_body F b_1 (R05_Int_L1 F b_1 n_1) u_1 unit_1 i_1 = some o_1 := h
  unfold R05_Int_L1_body at h
  refine sq ?_
  refine sr [] [0, 5, 6, 7, 10] [] 0 [.sl false 1 (Mb b_1), .int .u64 u_1, .int .u64 unit_1, Ii i_1, .bool (decide (i_1 < (10 : Int)))] [] hmix an ?_
  refine cd 10 (decide (i_1 < (10 : Int))) ?_ ?_
  rotate_left
  ·intro g_1; replace h := cond_f g_1 h
   refine aw_exit (id := 0) (by kernel_rfl) ?_
   cases h
   exact ⟨rfl, (sw [] [] [] [] an)⟩
  intro g_1; replace h := cond_t g_1 h
  refine sk ?_
  refine sq ?_
  refine aw_block (id := 1) (by kernel_rfl) ?_
  refine sq ?_
  refine sr [(2, { n := (b_1).length })] [0, 5, 6, 7, 16] [] 0 [.sl false 1 (Mb b_1), .int .u64 u_1, .int .u64 unit_1, Ii i_1, .bool (decide (i_1 ≥ (lN (b_1))))] [] hmix (ac (vc_len _ : ((Mb b_1)).length = (b_1).length) an) ?_
  refine cd 16 (decide (i_1 ≥ (lN (b_1)))) ?_ ?_
  ·intro g_2; replace h := cond_t g_2 h
   refine sr [] [2, 3, 4] [] 0 [Ii 0, Ii 0, Ii 8] [] hmix an ?_
   refine rt ?_
   cases h
   exact ⟨rfl, Nat.le_of_ble_eq_true rfl, by kernel_rfl⟩
  intro g_2; replace h := cond_f g_2 h
  refine sk ?_
  refine sq ?_
  obtain ⟨x_1, h_2, h⟩ := bind_some h
  refine rg [(2, { av := Iu x_1 })] [0, 5, 6, 7, 8] [] 0 [.sl false 1 (Mb b_1), .int .u64 u_1, .int .u64 unit_1, Ii i_1, .int .u64 (w_u64 x_1)] [] hmix (ac (vc_idx h_2 : idxA (Mb b_1) i_1 = some (Iu x_1)) an) ?_
  refine sq ?_
  refine sq ?_
  refine aw_mid (mk [(0, .sl false 1 (Mb b_1)), (5, .int .u64 u_1), (6, .int .u64 unit_1), (7, Ii i_1), (8, .int .u64 (w_u64 x_1)), (27, .bool ((i_1 == (9 : Int)) && decide ((w_u64 x_1) > (1 : Int))))] [] 0) ?_ ?_
  ·rcases bft (i_1 == (9 : Int)) with gg_10 | gg_10
   ·refine rg [(5, Ht)] [0, 5, 6, 7, 8, 25, 26, 27] [] 0 [.sl false 1 (Mb b_1), .int .u64 u_1, .int .u64 unit_1, Ii i_1, .int .u64 (w_u64 x_1), .int .u64 (w_u64 x_1), .bool (decide ((w_u64 x_1) > (1 : Int))), .bool (decide ((w_u64 x_1) > (1 : Int)))] [] hmix (ac gg_10 (ac gg_10 (ac gg_10 an))) ?_
    exact ⟨rfl, (sw [] [] [.s 0, .s 5, .s 6, .s 7, .s 8, .a 27 (.bool ((i_1 == (9 : Int)) && decide ((w_u64 x_1) > (1 : Int))))] [] (ac (congrArg AV.bool (andt gg_10 rfl) : (.bool (decide ((w_u64 x_1) > (1 : Int))) : AV) = .bool ((i_1 == (9 : Int)) && decide ((w_u64 x_1) > (1 : Int)))) an))⟩
   ·refine rg [(3, Hg), (4, Hg), (5, Hf)] [0, 5, 6, 7, 8, 25, 26, 27] [] 0 [.sl false 1 (Mb b_1), .int .u64 u_1, .int .u64 unit_1, Ii i_1, .int .u64 (w_u64 x_1), .tuple [], .tuple [], .bool false] [] hmix (ac gg_10 (ac gg_10 (ac gg_10 an))) ?_
    exact ⟨rfl, (sw [] [] [.s 0, .s 5, .s 6, .s 7, .s 8, .a 27 (.bool ((i_1 == (9 : Int)) && decide ((w_u64 x_1) > (1 : Int))))] [] (ac (congrArg AV.bool (andf gg_10) : (.bool false : AV) = .bool ((i_1 == (9 : Int)) && decide ((w_u64 x_1) > (1 : Int)))) an))⟩
  refine cd 27 ((i_1 == (9 : Int)) && decide ((w_u64 x_1) > (1 : Int))) ?_ ?_
  ·intro g_3; replace h := cond_t g_3 h
   refine sr [] [2, 3, 4] [] 0 [Ii 0, Ii 0, Ii 10] [] hmix an ?_
   refine rt ?_
   cases h
   exact ⟨rfl, Nat.le_of_ble_eq_true rfl, by kernel_rfl⟩
  intro g_3; replace h := cond_f g_3 h
  refine sk ?_
  refine sr [] [0, 5, 6, 7, 8] [] 0 [.sl false 1 (Mb b_1), .int .u64 (w_u64 (u_1 + (w_u64 ((irem (w_u64 x_1) (128 : Int)) * unit_1)))), .int .u64 unit_1, Ii i_1, .int .u64 (w_u64 x_1)] [] hmix (ac (by decide : (128 : Int) ≠ (0 : Int)) an) ?_
  refine sr [] [0, 5, 6, 7, 8] [] 0 [.sl false 1 (Mb b_1), .int .u64 (w_u64 (u_1 + (w_u64 ((irem (w_u64 x_1) (128 : Int)) * unit_1)))), .int .u64 (w_u64 (unit_1 * (128 : Int))), Ii i_1, .int .u64 (w_u64 x_1)] [] hmix an ?_
  refine sq ?_
  refine sq ?_
  refine aw_mid (mk [(0, .sl false 1 (Mb b_1)), (5, .int .u64 (w_u64 (u_1 + (w_u64 ((irem (w_u64 x_1) (128 : Int)) * unit_1))))), (6, .int .u64 (w_u64 (unit_1 * (128 : Int)))), (7, Ii i_1), (8, .int .u64 (w_u64 x_1)), (45, .bool (decide ((w_u64 x_1) < (128 : Int)) && (((w_u64 x_1) == (0 : Int)) && decide (i_1 > (0 : Int)))))] [] 0) ?_ ?_
  ·rcases bft (decide ((w_u64 x_1) < (128 : Int))) with gg_11 | gg_11
   ·rcases bft ((w_u64 x_1) == (0 : Int)) with gg_12 | gg_12
    ·refine rg [(5, Ht), (9, Ht)] [0, 5, 6, 7, 8, 39, 40, 43, 44, 45] [] 0 [.sl false 1 (Mb b_1), .int .u64 (w_u64 (u_1 + (w_u64 ((irem (w_u64 x_1) (128 : Int)) * unit_1)))), .int .u64 (w_u64 (unit_1 * (128 : Int))), Ii i_1, .int .u64 (w_u64 x_1), .int .u64 (w_u64 x_1), .bool ((w_u64 x_1) == (0 : Int)), Ii i_1, .bool (decide (i_1 > (0 : Int))), .bool (decide (i_1 > (0 : Int)))] [] hmix (ac gg_11 (ac gg_11 (ac gg_11 (ac gg_12 (ac gg_12 (ac gg_12 an)))))) ?_
     exact ⟨rfl, (sw [] [] [.s 0, .s 5, .s 6, .s 7, .s 8, .a 45 (.bool (decide ((w_u64 x_1) < (128 : Int)) && (((w_u64 x_1) == (0 : Int)) && decide (i_1 > (0 : Int)))))] [] (ac (congrArg AV.bool (andt gg_11 (andt gg_12 rfl)) : (.bool (decide (i_1 > (0 : Int))) : AV) = .bool (decide ((w_u64 x_1) < (128 : Int)) && (((w_u64 x_1) == (0 : Int)) && decide (i_1 > (0 : Int))))) an))⟩
    ·refine rg [(5, Ht), (7, Hg), (8, Hg), (9, Hf)] [0, 5, 6, 7, 8, 39, 40, 43, 44, 45] [] 0 [.sl false 1 (Mb b_1), .int .u64 (w_u64 (u_1 + (w_u64 ((irem (w_u64 x_1) (128 : Int)) * unit_1)))), .int .u64 (w_u64 (unit_1 * (128 : Int))), Ii i_1, .int .u64 (w_u64 x_1), .int .u64 (w_u64 x_1), .bool ((w_u64 x_1) == (0 : Int)), .tuple [], .tuple [], .bool false] [] hmix (ac gg_11 (ac gg_11 (ac gg_11 (ac gg_12 (ac gg_12 (ac gg_12 an)))))) ?_
     exact ⟨rfl, (sw [] [] [.s 0, .s 5, .s 6, .s 7, .s 8, .a 45 (.bool (decide ((w_u64 x_1) < (128 : Int)) && (((w_u64 x_1) == (0 : Int)) && decide (i_1 > (0 : Int)))))] [] (ac (congrArg AV.bool (andt gg_11 (andf gg_12)) : (.bool false : AV) = .bool (decide ((w_u64 x_1) < (128 : Int)) && (((w_u64 x_1) == (0 : Int)) && decide (i_1 > (0 : Int))))) an))⟩
   ·refine rg [(3, Hg), (4, Hg), (5, Hf), (7, Hg), (8, Hg), (9, Hf)] [0, 5, 6, 7, 8, 39, 40, 43, 44, 45] [] 0 [.sl false 1 (Mb b_1), .int .u64 (w_u64 (u_1 + (w_u64 ((irem (w_u64 x_1) (128 : Int)) * unit_1)))), .int .u64 (w_u64 (unit_1 * (128 : Int))), Ii i_1, .int .u64 (w_u64 x_1), .tuple [], .tuple [], .tuple [], .tuple [], .bool false] [] hmix (ac gg_11 (ac gg_11 (ac gg_11 (ac (rfl : false = !true) (ac (rfl : false = !true) (ar false an)))))) ?_
    exact ⟨rfl, (sw [] [] [.s 0, .s 5, .s 6, .s 7, .s 8, .a 45 (.bool (decide ((w_u64 x_1) < (128 : Int)) && (((w_u64 x_1) == (0 : Int)) && decide (i_1 > (0 : Int)))))] [] (ac (congrArg AV.bool (andf gg_11) : (.bool false : AV) = .bool (decide ((w_u64 x_1) < (128 : Int)) && (((w_u64 x_1) == (0 : Int)) && decide (i_1 > (0 : Int))))) an))⟩
  refine cd 45 (decide ((w_u64 x_1) < (128 : Int)) && (((w_u64 x_1) == (0 : Int)) && decide (i_1 > (0 : Int)))) ?_ ?_
  ·intro g_4; replace h := cond_t g_4 h
   refine sr [] [2, 3, 4] [] 0 [Ii 0, Ii 0, Ii 10] [] hmix an ?_
   refine rt ?_
   cases h
   exact ⟨rfl, Nat.le_of_ble_eq_true rfl, by kernel_rfl⟩
  intro g_4; replace h := cond_f g_4 h
  refine sk ?_
  refine sr [] [0, 5, 6, 7, 47] [] 0 [.sl false 1 (Mb b_1), .int .u64 (w_u64 (u_1 + (w_u64 ((irem (w_u64 x_1) (128 : Int)) * unit_1)))), .int .u64 (w_u64 (unit_1 * (128 : Int))), Ii i_1, .bool (decide ((w_u64 x_1) < (128 : Int)))] [] hmix an ?_
  refine cd 47 (decide ((w_u64 x_1) < (128 : Int))) ?_ ?_
  rotate_left
  ·intro g_5; replace h := cond_f g_5 h
   refine sk ?_
   refine rg [] [0, 5, 6, 7] [] 0 [.sl false 1 (Mb b_1), .int .u64 (w_u64 (u_1 + (w_u64 ((irem (w_u64 x_1) (128 : Int)) * unit_1)))), .int .u64 (w_u64 (unit_1 * (128 : Int))), Ii (w_i64 (i_1 + (1 : Int)))] [] hmix an ?_
   exact ⟨_, (sw [] [] [.s 0, .s 5, .s 6, .s 7] [] an), _, _, _, rfl, h⟩
  intro g_5; replace h := cond_t g_5 h
  refine sq ?_
  obtain ⟨r_1, h_3, h⟩ := bind_some h
  refine rg [(1, { av := Ii r_1, l := [.int .u64 (w_u64 (u_1 + (w_u64 ((irem (w_u64 x_1) (128 : Int)) * unit_1))))] })] [2, 3, 4] [] 0 [Ii r_1, Ii (w_i64 (i_1 + (1 : Int))), Ii 0] [] hmix (ar ([.int .u64 (w_u64 (u_1 + (w_u64 ((irem (w_u64 x_1) (128 : Int)) * unit_1))))] : List AV) (ac (rfl : ([] : List BoxSt) = []) (ac (R05_integer_ok (w_u64 (u_1 + (w_u64 ((irem (w_u64 x_1) (128 : Int)) * unit_1)))) r_1 h_3 : TripleG prog 53 [] [] [.int .u64 (w_u64 (u_1 + (w_u64 ((irem (w_u64 x_1) (128 : Int)) * unit_1))))] [] (Ii r_1)) an))) ?_
  refine rt ?_
  cases h
  exact ⟨rfl, Nat.le_of_ble_eq_true rfl, by kernel_rfl⟩
 intro e st1 hk
 rcases o_1 with q_1 | q_2
 rotate_left
 ·obtain ⟨rfl, hf⟩ := hk
  cases h
  exact ⟨st1, Sub.refl _ _, .inr rfl, hf⟩
 obtain ⟨rfl, hs⟩ := hk
 refine ⟨_, hs, ?_⟩
 refine sr [] [2, 3, 4] [] 0 [Ii 0, Ii 0, Ii 10] [] hmix an ?_
 refine rt ?_
 cases h
 exact ⟨.inr rfl, Nat.le_of_ble_eq_true rfl, by kernel_rfl⟩

theorem R05_Text_ok (F : Nat) (b_1 : List (Int)) (most_1 : Int) (r : (List Int) × Int × Int) (h : R05_Text F b_1 most_1 = some r) : TripleG prog 54 [] [] [.sl false 1 (Mb b_1), Ii most_1] [] (.tuple [.str r.1, Ii r.2.1, Ii r.2.2]) := by
 refine triple_intro (fn := Go.Proofs.Try.f54) (code := codeOf Go.Proofs.Try.f54) (by kernel_rfl) (by kernel_rfl) (Nat.le_of_ble_eq_true (by kernel_rfl)) ?_
 unfold R05_Text at h
 refine sr [] [0, 1] [] 0 [.sl false 1 (Mb b_1), Ii most_1] [] hmix an ?_
 refine sq ?_
 obtain ⟨r_1, h_1, h⟩ := bind_some h
 refine rg [(1, { av := .tuple [Ii r_1.1, Ii r_1.2.1, Ii r_1.2.2], l := [.sl false 1 (Mb b_1)] })] [0, 1, 7, 8, 9] [] 0 [.sl false 1 (Mb b_1), Ii most_1, Ii r_1.1, Ii r_1.2.1, Ii r_1.2.2] [] hmix (ar ([.sl false 1 (Mb b_1)] : List AV) (ac (rfl : ([] : List BoxSt) = []) (ac (R05_Int_ok F b_1 r_1 h_1 : TripleG prog 43 [] [] [.sl false 1 (Mb b_1)] [] (.tuple [Ii r_1.1, Ii r_1.2.1, Ii r_1.2.2])) an))) ?_
 refine sq ?_
 refine aw_block (id := 0) (by kernel_rfl) ?_
 refine sr [] [0, 1, 7, 8, 9, 16] [] 0 [.sl false 1 (Mb b_1), Ii most_1, Ii r_1.1, Ii r_1.2.1, Ii r_1.2.2, .bool (r_1.2.2 != (0 : Int))] [] hmix an ?_
 refine cd 16 (r_1.2.2 != (0 : Int)) ?_ ?_
 ·intro g_1; replace h := cond_t g_1 h
  refine sr [] [4, 5, 6] [] 0 [.str ([] : List Int), Ii 0, Ii r_1.2.2] [] hmix an ?_
  refine rt ?_
  cases h
  exact ⟨.inr rfl, Nat.le_of_ble_eq_true rfl, by kernel_rfl⟩
 intro g_1; replace h := cond_f g_1 h
 refine sr [] [0, 1, 7, 8, 20] [] 0 [.sl false 1 (Mb b_1), Ii most_1, Ii r_1.1, Ii r_1.2.1, .bool (decide (r_1.1 < (0 : Int)))] [] hmix an ?_
 refine cd 20 (decide (r_1.1 < (0 : Int))) ?_ ?_
 ·intro g_2; replace h := cond_t g_2 h
  refine sr [] [4, 5, 6] [] 0 [.str ([] : List Int), Ii 0, Ii 10] [] hmix an ?_
  refine rt ?_
  cases h
  exact ⟨.inr rfl, Nat.le_of_ble_eq_true rfl, by kernel_rfl⟩
 intro g_2; replace h := cond_f g_2 h
 refine sr [] [0, 7, 8, 23] [] 0 [.sl false 1 (Mb b_1), Ii r_1.1, Ii r_1.2.1, .bool (decide (r_1.1 > most_1))] [] hmix an ?_
 refine cd 23 (decide (r_1.1 > most_1)) ?_ ?_
 ·intro g_3; replace h := cond_t g_3 h
  refine sr [] [4, 5, 6] [] 0 [.str ([] : List Int), Ii 0, Ii 7] [] hmix an ?_
  refine rt ?_
  cases h
  exact ⟨.inr rfl, Nat.le_of_ble_eq_true rfl, by kernel_rfl⟩
 intro g_3; replace h := cond_f g_3 h
 refine sr [(2, { n := (b_1).length })] [0, 7, 8, 27] [] 0 [.sl false 1 (Mb b_1), Ii r_1.1, Ii r_1.2.1, .bool (decide (r_1.1 > (w_i64 ((lN (b_1)) - r_1.2.1))))] [] hmix (ac (vc_len _ : ((Mb b_1)).length = (b_1).length) an) ?_
 refine cd 27 (decide (r_1.1 > (w_i64 ((lN (b_1)) - r_1.2.1)))) ?_ ?_
 ·intro g_4; replace h := cond_t g_4 h
  refine sr [] [4, 5, 6] [] 0 [.str ([] : List Int), Ii 0, Ii 8] [] hmix an ?_
  refine rt ?_
  cases h
  exact ⟨.inr rfl, Nat.le_of_ble_eq_true rfl, by kernel_rfl⟩
 intro g_4; replace h := cond_f g_4 h
 refine sk ?_
 refine sq ?_
 obtain ⟨_, h_2, h⟩ := bind_some h; replace h_2 := need_some h_2
 refine rg [(5, { l := (Mb (sub b_1 r_1.2.1 (w_i64 (r_1.2.1 + r_1.1)))) }), (6, { s := sub b_1 r_1.2.1 (w_i64 (r_1.2.1 + r_1.1)) })] [4, 5, 6] [] 0 [.str (sub b_1 r_1.2.1 (w_i64 (r_1.2.1 + r_1.1))), Ii (w_i64 (r_1.2.1 + r_1.1)), Ii 0] [] hmix (ac h_2.1 (ac h_2.2.1 (ac (vc_lenle h_2.2.2 : (w_i64 (r_1.2.1 + r_1.1)) ≤ (lN ((Mb b_1)))) (ac (vc_sub _ _ _ : (Mb (sub b_1 r_1.2.1 (w_i64 (r_1.2.1 + r_1.1)))) = (((Mb b_1)).take (w_i64 (r_1.2.1 + r_1.1)).toNat).drop (r_1.2.1).toNat) (ac (rfl : (Mb (sub b_1 r_1.2.1 (w_i64 (r_1.2.1 + r_1.1)))) = List.map (AV.int .u8) (sub b_1 r_1.2.1 (w_i64 (r_1.2.1 + r_1.1)))) an))))) ?_
 refine rt ?_
 cases h
 exact ⟨.inr rfl, Nat.le_of_ble_eq_true rfl, by kernel_rfl⟩

theorem R33_value_ok (F : Nat) (b_1 : List (Int)) (r : T_api_Value × Int) (h : R33_value F b_1 = some r) : TripleG prog 44 [] [] [.sl false 1 (Mb b_1)] [] (.tuple [e_T_api_Value r.1, Ii r.2]) := by
 refine triple_intro (fn := Go.Proofs.Try.f44) (code := codeOf Go.Proofs.Try.f44) (by kernel_rfl) (by kernel_rfl) (Nat.le_of_ble_eq_true (by kernel_rfl)) ?_
 unfold R33_value at h
 refine sr [(0, { id := 0 })] [0, 2] [0] 1 [.sl false 1 (Mb b_1), Pp 0] [Vb 24 [Ii 0, Ii 0, .str ([] : List Int)]] hmix an ?_
 refine sq ?_
 refine sq ?_
 obtain ⟨p_1, h_2, h⟩ := bind_some h
 refine aw_mid (mk [(0, .sl false 1 (Mb b_1)), (2, Pp 0), (19, .bool p_1)] [(0, Vb 24 [Ii 0, Ii 0, .str ([] : List Int)])] 1) ?_ ?_
 ·replace h := h_2
  rcases bft ((lN (b_1)) == (0 : Int)) with gg_1 | gg_1
  ·replace h := cond_t gg_1 h
   refine rg [(1, { n := (b_1).length }), (4, Hg), (5, Hg), (6, Hg), (7, Hg), (8, Ht)] [0, 2, 19] [0] 1 [.sl false 1 (Mb b_1), Pp 0, .bool true] [Vb 24 [Ii 0, Ii 0, .str ([] : List Int)]] hmix (ac (vc_len _ : ((Mb b_1)).length = (b_1).length) (ac gg_1 (ac gg_1 (ac gg_1 (ac gg_1 (ac gg_1 an)))))) ?_
   cases h
   exact ⟨rfl, (sw [0] [] [.s 0, .s 2, .s 19] [.s 0] an)⟩
  ·replace h := cond_f gg_1 h
   obtain ⟨x_1, h_1, h⟩ := bind_some h
   refine rg [(1, { n := (b_1).length }), (5, { av := Iu x_1 }), (8, Hf)] [0, 2, 19] [0] 1 [.sl false 1 (Mb b_1), Pp 0, .bool (decide (x_1 > (3 : Int)))] [Vb 24 [Ii 0, Ii 0, .str ([] : List Int)]] hmix (ac (vc_len _ : ((Mb b_1)).length = (b_1).length) (ac gg_1 (ac gg_1 (ac (vc_idx h_1 : idxA (Mb b_1) (0 : Int) = some (Iu x_1)) (ac gg_1 (ac gg_1 (ac gg_1 an))))))) ?_
   cases h
   exact ⟨rfl, (sw [0] [] [.s 0, .s 2, .s 19] [.s 0] an)⟩
 refine cd 19 p_1 ?_ ?_
 ·intro g_1; replace h := cond_t g_1 h
  refine sr [] [2, 3] [0] 1 [Pp 0, Ii 0] [Vb 24 [Ii 0, Ii 0, .str ([] : List Int)]] hmix an ?_
  refine wk [0] [] [.s 2, .s 3] [.a 0 (Vb 24 (v_T_api_Value (⟨(0 : Int), (0 : Int), ([] : List Int)⟩ : T_api_Value)))] [(2, Pp 0), (3, Ii 0)] [(0, Vb 24 (v_T_api_Value (⟨(0 : Int), (0 : Int), ([] : List Int)⟩ : T_api_Value)))] (ar 24 (ac (rfl : ones [Ii ((⟨(0 : Int), (0 : Int), ([] : List Int)⟩ : T_api_Value).Kind), Ii ((⟨(0 : Int), (0 : Int), ([] : List Int)⟩ : T_api_Value).N), .str ((⟨(0 : Int), (0 : Int), ([] : List Int)⟩ : T_api_Value).S)] = true) (ac (rfl : (Ii 0 : AV) = Ii ((⟨(0 : Int), (0 : Int), ([] : List Int)⟩ : T_api_Value).Kind)) (ac (rfl : (Ii 0 : AV) = Ii ((⟨(0 : Int), (0 : Int), ([] : List Int)⟩ : T_api_Value).N)) (ac (rfl : (.str ([] : List Int) : AV) = .str ((⟨(0 : Int), (0 : Int), ([] : List Int)⟩ : T_api_Value).S)) an))))) ?_
  refine rt ?_
  cases h
  exact ⟨.inr rfl, Nat.le_of_ble_eq_true rfl, by kernel_rfl⟩
 intro g_1; replace h := cond_f g_1 h
 refine sk ?_
 refine sq ?_
 obtain ⟨x_2, h_3, h⟩ := bind_some h
 refine rg [(1, { av := Iu x_2 }), (5, { id := 1 })] [0, 2, 4] [0, 1] 2 [.sl false 1 (Mb b_1), Pp 0, Pp 1] [Vb 24 [Ii 0, Ii 0, .str ([] : List Int)], Vb 24 [Ii (w_i64 x_2), Ii 0, .str ([] : List Int)]] hmix (ac (vc_idx h_3 : idxA (Mb b_1) (0 : Int) = some (Iu x_2)) an) ?_
 refine sq ?_
 refine sr [] [0, 2, 4, 28] [0, 1] 2 [.sl false 1 (Mb b_1), Pp 0, Pp 1, .bool ((w_i64 x_2) == (0 : Int))] [Vb 24 [Ii 0, Ii 0, .str ([] : List Int)], Vb 24 [Ii (w_i64 x_2), Ii 0, .str ([] : List Int)]] hmix an ?_
 refine cd 28 ((w_i64 x_2) == (0 : Int)) ?_ ?_
 ·intro g_2; replace h := cond_t g_2 h
  refine sr [] [2, 3] [0] 2 [Pp 0, Ii 1] [Vb 24 [Ii (w_i64 x_2), Ii 0, .str ([] : List Int)]] hmix an ?_
  refine wk [0] [] [.s 2, .s 3] [.a 0 (Vb 24 (v_T_api_Value (⟨w_i64 x_2, (0 : Int), ([] : List Int)⟩ : T_api_Value)))] [(2, Pp 0), (3, Ii 1)] [(0, Vb 24 (v_T_api_Value (⟨w_i64 x_2, (0 : Int), ([] : List Int)⟩ : T_api_Value)))] (ar 24 (ac (rfl : ones [Ii ((⟨w_i64 x_2, (0 : Int), ([] : List Int)⟩ : T_api_Value).Kind), Ii ((⟨w_i64 x_2, (0 : Int), ([] : List Int)⟩ : T_api_Value).N), .str ((⟨w_i64 x_2, (0 : Int), ([] : List Int)⟩ : T_api_Value).S)] = true) (ac (rfl : (Ii (w_i64 x_2) : AV) = Ii ((⟨w_i64 x_2, (0 : Int), ([] : List Int)⟩ : T_api_Value).Kind)) (ac (rfl : (Ii 0 : AV) = Ii ((⟨w_i64 x_2, (0 : Int), ([] : List Int)⟩ : T_api_Value).N)) (ac (rfl : (.str ([] : List Int) : AV) = .str ((⟨w_i64 x_2, (0 : Int), ([] : List Int)⟩ : T_api_Value).S)) an))))) ?_
  refine rt ?_
  cases h
  exact ⟨.inr rfl, Nat.le_of_ble_eq_true rfl, by kernel_rfl⟩
 intro g_2; replace h := cond_f g_2 h
 refine sk ?_
 refine sq ?_
 refine sr [] [0, 2, 4, 32] [0, 1] 2 [.sl false 1 (Mb b_1), Pp 0, Pp 1, .bool ((w_i64 x_2) == (3 : Int))] [Vb 24 [Ii 0, Ii 0, .str ([] : List Int)], Vb 24 [Ii (w_i64 x_2), Ii 0, .str ([] : List Int)]] hmix an ?_
 refine cd 32 ((w_i64 x_2) == (3 : Int)) ?_ ?_
 ·intro g_3; replace h := cond_t g_3 h
  refine sq ?_
  obtain ⟨_, h_4, h⟩ := bind_some h; replace h_4 := need_some h_4
  obtain ⟨r_1, h_5, h⟩ := bind_some h
  refine rg [(1, { l := (Mb (sub b_1 (1 : Int) (lN (b_1)))) }), (2, { av := .tuple [.str r_1.1, Ii r_1.2.1, Ii r_1.2.2], l := [.sl false 1 (Mb (sub b_1 (1 : Int) (lN (b_1)))), Ii 200] })] [2, 4, 5, 6, 7] [0, 1] 2 [Pp 0, Pp 1, .str r_1.1, Ii r_1.2.1, Ii r_1.2.2] [Vb 24 [Ii 0, Ii 0, .str ([] : List Int)], Vb 24 [Ii (w_i64 x_2), Ii 0, .str ([] : List Int)]] hmix (ac (by decide : (0 : Int) ≤ (1 : Int)) (ac (vc_lenle h_4 : (1 : Int) ≤ (lN ((Mb b_1)))) (ac (Int.le_refl _ : (lN ((Mb b_1))) ≤ (lN ((Mb b_1)))) (ac (vc_subn _ _ : (Mb (sub b_1 (1 : Int) (lN (b_1)))) = (((Mb b_1)).take ((lN ((Mb b_1)))).toNat).drop ((1 : Int)).toNat) (ar ([.sl false 1 (Mb (sub b_1 (1 : Int) (lN (b_1)))), Ii 200] : List AV) (ac (rfl : ([] : List BoxSt) = []) (ac (R05_Text_ok F (sub b_1 (1 : Int) (lN (b_1))) (200 : Int) r_1 h_5 : TripleG prog 54 [] [] [.sl false 1 (Mb (sub b_1 (1 : Int) (lN (b_1)))), Ii 200] [] (.tuple [.str r_1.1, Ii r_1.2.1, Ii r_1.2.2])) an))))))) ?_
  refine sr [] [2, 4, 6, 7] [0, 1] 2 [Pp 0, Pp 1, Ii r_1.2.1, Ii r_1.2.2] [Vb 24 [Ii 0, Ii 0, .str ([] : List Int)], Vb 24 [Ii (w_i64 x_2), Ii 0, .str r_1.1]] hmix an ?_
  refine sq ?_
  refine sr [] [2, 4, 6, 43] [0, 1] 2 [Pp 0, Pp 1, Ii r_1.2.1, .bool (r_1.2.2 != (0 : Int))] [Vb 24 [Ii 0, Ii 0, .str ([] : List Int)], Vb 24 [Ii (w_i64 x_2), Ii 0, .str r_1.1]] hmix an ?_
  refine cd 43 (r_1.2.2 != (0 : Int)) ?_ ?_
  ·intro g_4; replace h := cond_t g_4 h
   refine sr [] [2, 3] [0] 2 [Pp 0, Ii 0] [Vb 24 [Ii 0, Ii 0, .str ([] : List Int)]] hmix an ?_
   refine wk [0] [] [.s 2, .s 3] [.a 0 (Vb 24 (v_T_api_Value (⟨(0 : Int), (0 : Int), ([] : List Int)⟩ : T_api_Value)))] [(2, Pp 0), (3, Ii 0)] [(0, Vb 24 (v_T_api_Value (⟨(0 : Int), (0 : Int), ([] : List Int)⟩ : T_api_Value)))] (ar 24 (ac (rfl : ones [Ii ((⟨(0 : Int), (0 : Int), ([] : List Int)⟩ : T_api_Value).Kind), Ii ((⟨(0 : Int), (0 : Int), ([] : List Int)⟩ : T_api_Value).N), .str ((⟨(0 : Int), (0 : Int), ([] : List Int)⟩ : T_api_Value).S)] = true) (ac (rfl : (Ii 0 : AV) = Ii ((⟨(0 : Int), (0 : Int), ([] : List Int)⟩ : T_api_Value).Kind)) (ac (rfl : (Ii 0 : AV) = Ii ((⟨(0 : Int), (0 : Int), ([] : List Int)⟩ : T_api_Value).N)) (ac (rfl : (.str ([] : List Int) : AV) = .str ((⟨(0 : Int), (0 : Int), ([] : List Int)⟩ : T_api_Value).S)) an))))) ?_
   refine rt ?_
   cases h
   exact ⟨.inr rfl, Nat.le_of_ble_eq_true rfl, by kernel_rfl⟩
  intro g_4; replace h := cond_f g_4 h
  refine sk ?_
  refine sr [] [2, 3] [0] 2 [Pp 0, Ii (w_i64 (r_1.2.1 + (1 : Int)))] [Vb 24 [Ii (w_i64 x_2), Ii 0, .str r_1.1]] hmix an ?_
  refine wk [0] [] [.s 2, .s 3] [.a 0 (Vb 24 (v_T_api_Value (⟨w_i64 x_2, (0 : Int), r_1.1⟩ : T_api_Value)))] [(2, Pp 0), (3, Ii (w_i64 (r_1.2.1 + (1 : Int))))] [(0, Vb 24 (v_T_api_Value (⟨w_i64 x_2, (0 : Int), r_1.1⟩ : T_api_Value)))] (ar 24 (ac (rfl : ones [Ii ((⟨w_i64 x_2, (0 : Int), r_1.1⟩ : T_api_Value).Kind), Ii ((⟨w_i64 x_2, (0 : Int), r_1.1⟩ : T_api_Value).N), .str ((⟨w_i64 x_2, (0 : Int), r_1.1⟩ : T_api_Value).S)] = true) (ac (rfl : (Ii (w_i64 x_2) : AV) = Ii ((⟨w_i64 x_2, (0 : Int), r_1.1⟩ : T_api_Value).Kind)) (ac (rfl : (Ii 0 : AV) = Ii ((⟨w_i64 x_2, (0 : Int), r_1.1⟩ : T_api_Value).N)) (ac (rfl : (.str r_1.1 : AV) = .str ((⟨w_i64 x_2, (0 : Int), r_1.1⟩ : T_api_Value).S)) an))))) ?_
  refine rt ?_
  cases h
  exact ⟨.inr rfl, Nat.le_of_ble_eq_true rfl, by kernel_rfl⟩
 intro g_3; replace h := cond_f g_3 h
 refine sk ?_
 refine sq ?_
 obtain ⟨_, h_6, h⟩ := bind_some h; replace h_6 := need_some h_6
 obtain ⟨r_2, h_7, h⟩ := bind_some h
 refine rg [(1, { l := (Mb (sub b_1 (1 : Int) (lN (b_1)))) }), (2, { av := .tuple [Ii r_2.1, Ii r_2.2.1, Ii r_2.2.2], l := [.sl false 1 (Mb (sub b_1 (1 : Int) (lN (b_1))))] })] [2, 4, 8, 9, 10] [0, 1] 2 [Pp 0, Pp 1, Ii r_2.1, Ii r_2.2.1, Ii r_2.2.2] [Vb 24 [Ii 0, Ii 0, .str ([] : List Int)], Vb 24 [Ii (w_i64 x_2), Ii 0, .str ([] : List Int)]] hmix (ac (by decide : (0 : Int) ≤ (1 : Int)) (ac (vc_lenle h_6 : (1 : Int) ≤ (lN ((Mb b_1)))) (ac (Int.le_refl _ : (lN ((Mb b_1))) ≤ (lN ((Mb b_1)))) (ac (vc_subn _ _ : (Mb (sub b_1 (1 : Int) (lN (b_1)))) = (((Mb b_1)).take ((lN ((Mb b_1)))).toNat).drop ((1 : Int)).toNat) (ar ([.sl false 1 (Mb (sub b_1 (1 : Int) (lN (b_1))))] : List AV) (ac (rfl : ([] : List BoxSt) = []) (ac (R05_Int_ok F (sub b_1 (1 : Int) (lN (b_1))) r_2 h_7 : TripleG prog 43 [] [] [.sl false 1 (Mb (sub b_1 (1 : Int) (lN (b_1))))] [] (.tuple [Ii r_2.1, Ii r_2.2.1, Ii r_2.2.2])) an))))))) ?_
 refine sr [] [2, 4, 9, 10] [0, 1] 2 [Pp 0, Pp 1, Ii r_2.2.1, Ii r_2.2.2] [Vb 24 [Ii 0, Ii 0, .str ([] : List Int)], Vb 24 [Ii (w_i64 x_2), Ii r_2.1, .str ([] : List Int)]] hmix an ?_
 refine sq ?_
 refine sr [] [2, 4, 9, 58] [0, 1] 2 [Pp 0, Pp 1, Ii r_2.2.1, .bool (r_2.2.2 != (0 : Int))] [Vb 24 [Ii 0, Ii 0, .str ([] : List Int)], Vb 24 [Ii (w_i64 x_2), Ii r_2.1, .str ([] : List Int)]] hmix an ?_
 refine cd 58 (r_2.2.2 != (0 : Int)) ?_ ?_
 ·intro g_5; replace h := cond_t g_5 h
  refine sr [] [2, 3] [0] 2 [Pp 0, Ii 0] [Vb 24 [Ii 0, Ii 0, .str ([] : List Int)]] hmix an ?_
  refine wk [0] [] [.s 2, .s 3] [.a 0 (Vb 24 (v_T_api_Value (⟨(0 : Int), (0 : Int), ([] : List Int)⟩ : T_api_Value)))] [(2, Pp 0), (3, Ii 0)] [(0, Vb 24 (v_T_api_Value (⟨(0 : Int), (0 : Int), ([] : List Int)⟩ : T_api_Value)))] (ar 24 (ac (rfl : ones [Ii ((⟨(0 : Int), (0 : Int), ([] : List Int)⟩ : T_api_Value).Kind), Ii ((⟨(0 : Int), (0 : Int), ([] : List Int)⟩ : T_api_Value).N), .str ((⟨(0 : Int), (0 : Int), ([] : List Int)⟩ : T_api_Value).S)] = true) (ac (rfl : (Ii 0 : AV) = Ii ((⟨(0 : Int), (0 : Int), ([] : List Int)⟩ : T_api_Value).Kind)) (ac (rfl : (Ii 0 : AV) = Ii ((⟨(0 : Int), (0 : Int), ([] : List Int)⟩ : T_api_Value).N)) (ac (rfl : (.str ([] : List Int) : AV) = .str ((⟨(0 : Int), (0 : Int), ([] : List Int)⟩ : T_api_Value).S)) an))))) ?_
  refine rt ?_
  cases h
  exact ⟨.inr rfl, Nat.le_of_ble_eq_true rfl, by kernel_rfl⟩
 intro g_5; replace h := cond_f g_5 h
 refine sk ?_
 refine sr [] [2, 3] [0] 2 [Pp 0, Ii (w_i64 (r_2.2.1 + (1 : Int)))] [Vb 24 [Ii (w_i64 x_2), Ii r_2.1, .str ([] : List Int)]] hmix an ?_
 refine wk [0] [] [.s 2, .s 3] [.a 0 (Vb 24 (v_T_api_Value (⟨w_i64 x_2, r_2.1, ([] : List Int)⟩ : T_api_Value)))] [(2, Pp 0), (3, Ii (w_i64 (r_2.2.1 + (1 : Int))))] [(0, Vb 24 (v_T_api_Value (⟨w_i64 x_2, r_2.1, ([] : List Int)⟩ : T_api_Value)))] (ar 24 (ac (rfl : ones [Ii ((⟨w_i64 x_2, r_2.1, ([] : List Int)⟩ : T_api_Value).Kind), Ii ((⟨w_i64 x_2, r_2.1, ([] : List Int)⟩ : T_api_Value).N), .str ((⟨w_i64 x_2, r_2.1, ([] : List Int)⟩ : T_api_Value).S)] = true) (ac (rfl : (Ii (w_i64 x_2) : AV) = Ii ((⟨w_i64 x_2, r_2.1, ([] : List Int)⟩ : T_api_Value).Kind)) (ac (rfl : (Ii r_2.1 : AV) = Ii ((⟨w_i64 x_2, r_2.1, ([] : List Int)⟩ : T_api_Value).N)) (ac (rfl : (.str ([] : List Int) : AV) = .str ((⟨w_i64 x_2, r_2.1, ([] : List Int)⟩ : T_api_Value).S)) an))))) ?_
 refine rt ?_
 cases h
 exact ⟨.inr rfl, Nat.le_of_ble_eq_true rfl, by kernel_rfl⟩

theorem R33_unpack_ok (F : Nat) (p_1 : T_api_Packed) (r : (List (T_api_Value))) (h : R33_unpack F p_1 = some r) : TripleG prog 33 [] [] [e_T_api_Packed p_1] [.row 24 3 (Mp e_T_api_Value r)] (.own 0 ((r).length)) := by
 refine triple_intro (fn := Go.Proofs.Try.f33) (code := codeOf Go.Proofs.Try.f33) (by kernel_rfl) (by kernel_rfl) (Nat.le_of_ble_eq_true (by kernel_rfl)) ?_
 unfold R33_unpack at h
 refine sr [(0, { id := 0 }), (1, { id := 1, m := 1 })] [1] [0] 2 [Pp 0] [Vb 33 (v_T_api_Packed p_1)] hmix an ?_
 refine sr [(0, { id := 2, m := 1 })] [1, 3] [0, 2] 3 [Pp 0, .own 2 0] [Vb 33 (v_T_api_Packed p_1), Rb 24 3 []] hmix an ?_
 refine sr [(0, { id := 3, m := 1 })] [1, 3, 4] [0, 2, 3] 4 [Pp 0, .own 2 0, .own 3 0] [Vb 33 (v_T_api_Packed p_1), Rb 24 3 [], Rb 24 3 []] hmix an ?_
 refine sq ?_
 refine sr [(2, { n := (p_1.Bytes).length })] [1, 3, 4, 24] [0, 2, 3] 4 [Pp 0, .own 2 0, .own 3 0, .bool ((lN (p_1.Bytes)) == (0 : Int))] [Vb 33 (v_T_api_Packed p_1), Rb 24 3 [], Rb 24 3 []] hmix (ac (vc_len _ : ((Mb p_1.Bytes)).length = (p_1.Bytes).length) an) ?_
 refine cd 24 ((lN (p_1.Bytes)) == (0 : Int)) ?_ ?_
 ·intro g_1; replace h := cond_t g_1 h
  refine sr [(0, { id := 4, m := 1 })] [2] [4] 5 [.own 4 0] [Rb 24 3 []] hmix an ?_
  refine wk [4] [] [.a 2 (.own 0 ((([] : List T_api_Value)).length))] [.s 0] [(2, .own 0 ((([] : List T_api_Value)).length))] [(0, Rb 24 3 [])] (ac (congrArg (AV.own _) (by first | (simp; done) | (simp; omega)) : (.own 4 0 : AV) = .own 4 ((([] : List T_api_Value)).length)) an) ?_
  refine rt ?_
  cases h
  exact ⟨.inr rfl, Nat.le_of_ble_eq_true rfl, by kernel_rfl⟩
 intro g_1; replace h := cond_f g_1 h
 refine sk ?_
 refine sq ?_
 obtain ⟨_, h_1, h⟩ := bind_some h; replace h_1 := need_some h_1
 refine rg [(2, { l := (Mb (sub p_1.Bytes (1 : Int) (lN (p_1.Bytes)))) })] [1, 3, 4, 5] [0, 2, 3] 4 [Pp 0, .own 2 0, .own 3 0, .sl false 1 (Mb (sub p_1.Bytes (1 : Int) (lN (p_1.Bytes))))] [Vb 33 (v_T_api_Packed p_1), Rb 24 3 [], Rb 24 3 []] hmix (ac (by decide : (0 : Int) ≤ (1 : Int)) (ac (vc_lenle h_1 : (1 : Int) ≤ (lN ((Mb p_1.Bytes)))) (ac (Int.le_refl _ : (lN ((Mb p_1.Bytes))) ≤ (lN ((Mb p_1.Bytes)))) (ac (vc_subn _ _ : (Mb (sub p_1.Bytes (1 : Int) (lN (p_1.Bytes)))) = (((Mb p_1.Bytes)).take ((lN ((Mb p_1.Bytes)))).toNat).drop ((1 : Int)).toNat) an)))) ?_
 refine sq ?_
 refine sq ?_
 obtain ⟨x_1, h_2, h⟩ := bind_some h
 refine rg [(2, { av := Iu x_1 })] [1, 3, 4, 5, 32] [0, 2, 3] 4 [Pp 0, .own 2 0, .own 3 0, .sl false 1 (Mb (sub p_1.Bytes (1 : Int) (lN (p_1.Bytes)))), .bool (x_1 == (3 : Int))] [Vb 33 (v_T_api_Packed p_1), Rb 24 3 [], Rb 24 3 []] hmix (ac (vc_idx h_2 : idxA (Mb p_1.Bytes) (0 : Int) = some (Iu x_1)) an) ?_
 obtain ⟨o_1, h_3, h⟩ := bind_some h
 refine aw_conv (K1 := (fun e st' => match o_1 with | (.inl q0) => e = .normal ∧ Sub 0 st' (mk [(1, Pp 0), (3, .own 1 0), (4, .own 2 ((q0.2).length)), (5, .sl false 1 (Mb q0.1))] [(0, Vb 33 (v_T_api_Packed p_1)), (1, Rb 24 3 []), (2, Rb 24 3 (Mp e_T_api_Value q0.2))] 3) | (.inr q1) => e = .ret ∧ FinR prog Go.Proofs.Try.f33 0 [.row 24 3 (Mp e_T_api_Value q1)] (.own 0 ((q1).length)) st')) ?_ ?_
 ·replace h := h_3
  refine cd 32 (x_1 == (3 : Int)) ?_ ?_
  rotate_left
  ·intro g_2; replace h := cond_f g_2 h
   refine sk ?_
   cases h
   exact ⟨rfl, (sw [0, 2, 3] [] [.s 1, .s 3, .s 4, .s 5] [.s 0, .s 1, .s 2] an)⟩
  intro g_2; replace h := cond_t g_2 h
  refine sq ?_
  obtain ⟨r_1, h_4, h⟩ := bind_some h
  refine rg [(1, { av := .tuple [Ii r_1.1, Ii r_1.2.1, Ii r_1.2.2], l := [.sl false 1 (Mb (sub p_1.Bytes (1 : Int) (lN (p_1.Bytes))))] })] [1, 3, 4, 5, 6, 7, 8] [0, 2, 3] 4 [Pp 0, .own 2 0, .own 3 0, .sl false 1 (Mb (sub p_1.Bytes (1 : Int) (lN (p_1.Bytes)))), Ii r_1.1, Ii r_1.2.1, Ii r_1.2.2] [Vb 33 (v_T_api_Packed p_1), Rb 24 3 [], Rb 24 3 []] hmix (ar ([.sl false 1 (Mb (sub p_1.Bytes (1 : Int) (lN (p_1.Bytes))))] : List AV) (ac (rfl : ([] : List BoxSt) = []) (ac (R05_Int_ok F (sub p_1.Bytes (1 : Int) (lN (p_1.Bytes))) r_1 h_4 : TripleG prog 43 [] [] [.sl false 1 (Mb (sub p_1.Bytes (1 : Int) (lN (p_1.Bytes))))] [] (.tuple [Ii r_1.1, Ii r_1.2.1, Ii r_1.2.2])) an))) ?_
  refine sq ?_
  refine sr [] [1, 3, 4, 5, 6, 7, 40] [0, 2, 3] 4 [Pp 0, .own 2 0, .own 3 0, .sl false 1 (Mb (sub p_1.Bytes (1 : Int) (lN (p_1.Bytes)))), Ii r_1.1, Ii r_1.2.1, .bool (r_1.2.2 != (0 : Int))] [Vb 33 (v_T_api_Packed p_1), Rb 24 3 [], Rb 24 3 []] hmix an ?_
  refine cd 40 (r_1.2.2 != (0 : Int)) ?_ ?_
  ·intro g_3; replace h := cond_t g_3 h
   refine sr [(0, { id := 4, m := 1 })] [2] [4] 5 [.own 4 0] [Rb 24 3 []] hmix an ?_
   refine wk [4] [] [.a 2 (.own 0 ((([] : List T_api_Value)).length))] [.s 0] [(2, .own 0 ((([] : List T_api_Value)).length))] [(0, Rb 24 3 [])] (ac (congrArg (AV.own _) (by first | (simp; done) | (simp; omega)) : (.own 4 0 : AV) = .own 4 ((([] : List T_api_Value)).length)) an) ?_
   refine rt ?_
   cases h
   exact ⟨rfl, Nat.le_of_ble_eq_true rfl, by kernel_rfl⟩
  intro g_3; replace h := cond_f g_3 h
  refine sk ?_
  refine sq ?_
  obtain ⟨_, h_5, h⟩ := bind_some h; replace h_5 := need_some h_5
  refine rg [(2, { l := (Mb (sub (sub p_1.Bytes (1 : Int) (lN (p_1.Bytes))) r_1.2.1 (lN (sub p_1.Bytes (1 : Int) (lN (p_1.Bytes)))))) })] [1, 3, 4, 5, 6] [0, 2, 3] 4 [Pp 0, .own 2 0, .own 3 0, .sl false 1 (Mb (sub (sub p_1.Bytes (1 : Int) (lN (p_1.Bytes))) r_1.2.1 (lN (sub p_1.Bytes (1 : Int) (lN (p_1.Bytes)))))), Ii r_1.1] [Vb 33 (v_T_api_Packed p_1), Rb 24 3 [], Rb 24 3 []] hmix (ac h_5.1 (ac (vc_lenle h_5.2 : r_1.2.1 ≤ (lN ((Mb (sub p_1.Bytes (1 : Int) (lN (p_1.Bytes))))))) (ac (Int.le_refl _ : (lN ((Mb (sub p_1.Bytes (1 : Int) (lN (p_1.Bytes)))))) ≤ (lN ((Mb (sub p_1.Bytes (1 : Int) (lN (p_1.Bytes))))))) (ac (vc_subn _ _ : (Mb (sub (sub p_1.Bytes (1 : Int) (lN (p_1.Bytes))) r_1.2.1 (lN (sub p_1.Bytes (1 : Int) (lN (p_1.Bytes)))))) = (((Mb (sub p_1.Bytes (1 : Int) (lN (p_1.Bytes))))).take ((lN ((Mb (sub p_1.Bytes (1 : Int) (lN (p_1.Bytes))))))).toNat).drop (r_1.2.1).toNat) an)))) ?_
  refine sr [] [1, 3, 4, 5, 6, 9] [0, 2, 3] 4 [Pp 0, .own 2 0, .own 3 0, .sl false 1 (Mb (sub (sub p_1.Bytes (1 : Int) (lN (p_1.Bytes))) r_1.2.1 (lN (sub p_1.Bytes (1 : Int) (lN (p_1.Bytes)))))), Ii r_1.1, Ii 0] [Vb 33 (v_T_api_Packed p_1), Rb 24 3 [], Rb 24 3 []] hmix an ?_
  obtain ⟨o_2, h_6, h⟩ := bind_some h
  refine aw_mid (mk [(1, Pp 0), (3, .own 1 0), (4, .own 2 ((o_2.2).length)), (5, .sl false 1 (Mb o_2.1))] [(0, Vb 33 (v_T_api_Packed p_1)), (1, Rb 24 3 []), (2, Rb 24 3 (Mp e_T_api_Value o_2.2))] 3) ?_ ?_
  ·replace h := h_6
   refine aw_block (id := 0) (by kernel_rfl) ?_
   refine wk [0, 2, 3] [] [.s 1, .s 3, .s 4, .s 5, .s 6, .s 9] [.s 0, .s 1, .s 2] [(1, Pp 0), (3, .own 1 0), (4, .own 2 0), (5, .sl false 1 (Mb (sub (sub p_1.Bytes (1 : Int) (lN (p_1.Bytes))) r_1.2.1 (lN (sub p_1.Bytes (1 : Int) (lN (p_1.Bytes))))))), (6, Ii r_1.1), (9, Ii 0)] [(0, Vb 33 (v_T_api_Packed p_1)), (1, Rb 24 3 []), (2, Rb 24 3 [])] an ?_
   refine aw_loopF (fun n st => ∃ (b_1 : List Int), ∃ (i_1 : Int), ∃ (row_1 : List T_api_Value), st = mk [(1, Pp 0), (3, .own 1 0), (4, .own 2 ((row_1).length)), (5, .sl false 1 (Mb b_1)), (6, Ii r_1.1), (9, Ii i_1)] [(0, Vb 33 (v_T_api_Packed p_1)), (1, Rb 24 3 []), (2, Rb 24 3 (Mp e_T_api_Value row_1))] 3 ∧ R33_unpack_L1 F p_1 r_1 n b_1 i_1 row_1 = some o_2) F (by kernel_rfl) ⟨_, _, _, rfl, h⟩ ?_ ?_
   ·rintro _ ⟨_, _, _, _, h⟩; exact none_ne (h : (none : Option ((List Int) × (List T_api_Value))) = some o_2)
   rintro n_1 _ ⟨b_1, i_1, row_1, rfl, h⟩
   replace h : R33_unpack_L1_body F p_1 r_1 (R33_unpack_L1 F p_1 r_1 n_1) b_1 i_1 row_1 = some o_2 := h
   unfold R33_unpack_L1_body at h
   refine sq ?_
   refine sq ?_
   refine aw_mid (mk [(1, Pp 0), (3, .own 1 0), (4, .own 2 ((row_1).length)), (5, .sl false 1 (Mb b_1)), (6, Ii r_1.1), (9, Ii i_1), (52, .bool (decide (i_1 < r_1.1) && decide (i_1 < p_1.N)))] [(0, Vb 33 (v_T_api_Packed p_1)), (1, Rb 24 3 []), (2, Rb 24 3 (Mp e_T_api_Value row_1))] 3) ?_ ?_
   ·rcases bft (decide (i_1 < r_1.1)) with gg_40 | gg_40
    ·refine rg [(8, Ht)] [1, 3, 4, 5, 6, 9, 48, 49, 50, 51, 52] [0, 1, 2] 3 [Pp 0, .own 1 0, .own 2 ((row_1).length), .sl false 1 (Mb b_1), Ii r_1.1, Ii i_1, Ii i_1, .ptr 0 0 0 1, Ii p_1.N, .bool (decide (i_1 < p_1.N)), .bool (decide (i_1 < p_1.N))] [Vb 33 (v_T_api_Packed p_1), Rb 24 3 [], Rb 24 3 (Mp e_T_api_Value row_1)] hmix (ac gg_40 (ac gg_40 (ac gg_40 (ac gg_40 (ac gg_40 an))))) ?_
     exact ⟨rfl, (sw [0, 1, 2] [] [.s 1, .s 3, .s 4, .s 5, .s 6, .s 9, .a 52 (.bool (decide (i_1 < r_1.1) && decide (i_1 < p_1.N)))] [.s 0, .s 1, .s 2] (ac (congrArg AV.bool (andt gg_40 rfl) : (.bool (decide (i_1 < p_1.N)) : AV) = .bool (decide (i_1 < r_1.1) && decide (i_1 < p_1.N))) an))⟩
    ·refine rg [(4, Hg), (5, Hg), (6, Hg), (7, Hg), (8, Hf)] [1, 3, 4, 5, 6, 9, 48, 49, 50, 51, 52] [0, 1, 2] 3 [Pp 0, .own 1 0, .own 2 ((row_1).length), .sl false 1 (Mb b_1), Ii r_1.1, Ii i_1, .tuple [], .tuple [], .tuple [], .tuple [], .bool false] [Vb 33 (v_T_api_Packed p_1), Rb 24 3 [], Rb 24 3 (Mp e_T_api_Value row_1)] hmix (ac gg_40 (ac gg_40 (ac gg_40 (ac gg_40 (ac gg_40 an))))) ?_
     exact ⟨rfl, (sw [0, 1, 2] [] [.s 1, .s 3, .s 4, .s 5, .s 6, .s 9, .a 52 (.bool (decide (i_1 < r_1.1) && decide (i_1 < p_1.N)))] [.s 0, .s 1, .s 2] (ac (congrArg AV.bool (andf gg_40) : (.bool false : AV) = .bool (decide (i_1 < r_1.1) && decide (i_1 < p_1.N))) an))⟩
   refine cd 52 (decide (i_1 < r_1.1) && decide (i_1 < p_1.N)) ?_ ?_
   rotate_left
   ·intro g_4; replace h := cond_f g_4 h
    refine aw_exit (id := 0) (by kernel_rfl) ?_
    cases h
    exact ⟨rfl, (sw [0, 1, 2] [] [.s 1, .s 3, .s 4, .s 5] [.s 0, .s 1, .s 2] an)⟩
   intro g_4; replace h := cond_t g_4 h
   refine sk ?_
   refine sq ?_
   refine aw_block (id := 1) (by kernel_rfl) ?_
   refine sq ?_
   obtain ⟨r_2, h_7, h⟩ := bind_some h
   refine rg [(1, { av := .tuple [e_T_api_Value r_2.1, Ii r_2.2], l := [.sl false 1 (Mb b_1)] }), (5, { id := 3 })] [1, 3, 4, 5, 6, 9, 10, 11] [0, 1, 2, 3] 4 [Pp 0, .own 1 0, .own 2 ((row_1).length), .sl false 1 (Mb b_1), Ii r_1.1, Ii i_1, Pp 3, Ii r_2.2] [Vb 33 (v_T_api_Packed p_1), Rb 24 3 [], Rb 24 3 (Mp e_T_api_Value row_1), Vb 24 (v_T_api_Value r_2.1)] hmix (ar ([.sl false 1 (Mb b_1)] : List AV) (ac (rfl : ([] : List BoxSt) = []) (ac (R33_value_ok F b_1 r_2 h_7 : TripleG prog 44 [] [] [.sl false 1 (Mb b_1)] [] (.tuple [e_T_api_Value r_2.1, Ii r_2.2])) an))) ?_
   refine sq ?_
   obtain ⟨_, h_8, h⟩ := bind_some h; replace h_8 := need_some h_8
   refine rg [(2, { id := 4 }), (3, { id := 5, l := (Mp e_T_api_Value (row_1 ++ ([r_2.1] : List T_api_Value))), n := ((row_1 ++ ([r_2.1] : List T_api_Value))).length })] [1, 3, 4, 5, 6, 9, 11] [0, 1, 5] 6 [Pp 0, .own 1 0, .own 5 (((row_1 ++ ([r_2.1] : List T_api_Value))).length), .sl false 1 (Mb b_1), Ii r_1.1, Ii i_1, Ii r_2.2] [Vb 33 (v_T_api_Packed p_1), Rb 24 3 [], Rb 24 3 (Mp e_T_api_Value (row_1 ++ ([r_2.1] : List T_api_Value)))] hmix (ac (by first | (simp; done) | (simp; omega) : (row_1).length = ((List.map e_T_api_Value row_1)).length) (ac (by first | (simp; done) | (simp; omega) : 1 = ((List.map e_T_api_Value ([r_2.1] : List T_api_Value))).length) (ac (vc_app _ _ : (Mp e_T_api_Value (row_1 ++ ([r_2.1] : List T_api_Value))) = (Mp e_T_api_Value row_1) ++ (Mp e_T_api_Value ([r_2.1] : List T_api_Value))) (ac (by simp : ((row_1 ++ ([r_2.1] : List T_api_Value))).length = ((List.map e_T_api_Value (row_1 ++ ([r_2.1] : List T_api_Value)))).length) (ac (by first | (simp; done) | simpa using h_8 : (((List.map e_T_api_Value row_1) : List AV).length + ((List.map e_T_api_Value ([r_2.1] : List T_api_Value)) : List AV).length) * 32 ≤ 140737488355328) an))))) ?_
   obtain ⟨_, h_9, h⟩ := bind_some h; replace h_9 := need_some h_9
   refine rg [(2, { l := (Mb (sub b_1 r_2.2 (lN (b_1)))) })] [1, 3, 4, 5, 6, 9] [0, 1, 5] 6 [Pp 0, .own 1 0, .own 5 (((row_1 ++ ([r_2.1] : List T_api_Value))).length), .sl false 1 (Mb (sub b_1 r_2.2 (lN (b_1)))), Ii r_1.1, Ii i_1] [Vb 33 (v_T_api_Packed p_1), Rb 24 3 [], Rb 24 3 (Mp e_T_api_Value (row_1 ++ ([r_2.1] : List T_api_Value)))] hmix (ac h_9.1 (ac (vc_lenle h_9.2 : r_2.2 ≤ (lN ((Mb b_1)))) (ac (Int.le_refl _ : (lN ((Mb b_1))) ≤ (lN ((Mb b_1)))) (ac (vc_subn _ _ : (Mb (sub b_1 r_2.2 (lN (b_1)))) = (((Mb b_1)).take ((lN ((Mb b_1)))).toNat).drop (r_2.2).toNat) an)))) ?_
   refine rg [] [1, 3, 4, 5, 6, 9] [0, 1, 5] 6 [Pp 0, .own 1 0, .own 5 (((row_1 ++ ([r_2.1] : List T_api_Value))).length), .sl false 1 (Mb (sub b_1 r_2.2 (lN (b_1)))), Ii r_1.1, Ii (w_i64 (i_1 + (1 : Int)))] [Vb 33 (v_T_api_Packed p_1), Rb 24 3 [], Rb 24 3 (Mp e_T_api_Value (row_1 ++ ([r_2.1] : List T_api_Value)))] hmix an ?_
   exact ⟨_, (sw [0, 1, 5] [] [.s 1, .s 3, .s 4, .s 5, .s 6, .s 9] [.s 0, .s 1, .s 2] an), _, _, _, rfl, h⟩
  cases h
  exact ⟨rfl, (sw [0, 1, 2] [] [.s 1, .s 3, .s 4, .s 5] [.s 0, .s 1, .s 2] an)⟩
 intro e st1 hk
 rcases o_1 with q_1 | q_2
 rotate_left
 ·obtain ⟨rfl, hf⟩ := hk
  cases h
  exact ⟨st1, Sub.refl _ _, .inr rfl, hf⟩
 obtain ⟨rfl, hs⟩ := hk
 refine ⟨_, hs, ?_⟩
 refine sq ?_
 obtain ⟨o_3, h_10, h⟩ := bind_some h
 refine aw_conv (K1 := (fun e st' => match o_3 with | (.inl q0) => e = .normal ∧ Sub 0 st' (mk [(3, .own 0 ((q0).length))] [(0, Rb 24 3 (Mp e_T_api_Value q0))] 1) | (.inr q1) => e = .ret ∧ FinR prog Go.Proofs.Try.f33 0 [.row 24 3 (Mp e_T_api_Value q1)] (.own 0 ((q1).length)) st')) ?_ ?_
 ·replace h := h_10
  refine aw_block (id := 2) (by kernel_rfl) ?_
  refine wk [0, 1, 2] [] [.s 1, .s 3, .s 4, .s 5] [.s 0, .s 1, .s 2] [(1, Pp 0), (3, .own 1 0), (4, .own 2 ((q_1.2).length)), (5, .sl false 1 (Mb q_1.1))] [(0, Vb 33 (v_T_api_Packed p_1)), (1, Rb 24 3 []), (2, Rb 24 3 (Mp e_T_api_Value q_1.2))] an ?_
  refine aw_loopF (fun n st => ∃ (b_2 : List Int), ∃ (row_2 : List T_api_Value), st = mk [(1, Pp 0), (3, .own 1 ((row_2).length)), (4, .own 2 ((q_1.2).length)), (5, .sl false 1 (Mb b_2))] [(0, Vb 33 (v_T_api_Packed p_1)), (1, Rb 24 3 (Mp e_T_api_Value row_2)), (2, Rb 24 3 (Mp e_T_api_Value q_1.2))] 3 ∧ R33_unpack_L2 F p_1 q_1 n b_2 row_2 = some o_3) F (by kernel_rfl) ⟨_, _, rfl, h⟩ ?_ ?_
  ·rintro _ ⟨_, _, _, h⟩; exact none_ne (h : (none : Option ((List T_api_Value) ⊕ (List (T_api_Value)))) = some o_3)
  rintro n_2 _ ⟨b_2, row_2, rfl, h⟩
  replace h : R33_unpack_L2_body F p_1 q_1 (R33_unpack_L2 F p_1 q_1 n_2) b_2 row_2 = some o_3 := h
  unfold R33_unpack_L2_body at h
  refine sq ?_
  refine sq ?_
  refine aw_mid (mk [(1, Pp 0), (3, .own 1 ((row_2).length)), (4, .own 2 ((q_1.2).length)), (5, .sl false 1 (Mb b_2)), (76, .bool (decide ((lN (row_2)) < p_1.N) && decide ((lN (b_2)) > (0 : Int))))] [(0, Vb 33 (v_T_api_Packed p_1)), (1, Rb 24 3 (Mp e_T_api_Value row_2)), (2, Rb 24 3 (Mp e_T_api_Value q_1.2))] 3) ?_ ?_
  ·rcases bft (decide ((lN (row_2)) < p_1.N)) with gg_59 | gg_59
   ·refine rg [(7, { n := (b_2).length }), (9, Ht)] [1, 3, 4, 5, 73, 74, 75, 76] [0, 1, 2] 3 [Pp 0, .own 1 ((row_2).length), .own 2 ((q_1.2).length), .sl false 1 (Mb b_2), .sl false 1 (Mb b_2), Ii (lN (b_2)), .bool (decide ((lN (b_2)) > (0 : Int))), .bool (decide ((lN (b_2)) > (0 : Int)))] [Vb 33 (v_T_api_Packed p_1), Rb 24 3 (Mp e_T_api_Value row_2), Rb 24 3 (Mp e_T_api_Value q_1.2)] hmix (ac gg_59 (ac gg_59 (ac (vc_len _ : ((Mb b_2)).length = (b_2).length) (ac gg_59 (ac gg_59 an))))) ?_
    exact ⟨rfl, (sw [0, 1, 2] [] [.s 1, .s 3, .s 4, .s 5, .a 76 (.bool (decide ((lN (row_2)) < p_1.N) && decide ((lN (b_2)) > (0 : Int))))] [.s 0, .s 1, .s 2] (ac (congrArg AV.bool (andt gg_59 rfl) : (.bool (decide ((lN (b_2)) > (0 : Int))) : AV) = .bool (decide ((lN (row_2)) < p_1.N) && decide ((lN (b_2)) > (0 : Int)))) an))⟩
   ·refine rg [(6, Hg), (7, Hg), (8, Hg), (9, Hf)] [1, 3, 4, 5, 73, 74, 75, 76] [0, 1, 2] 3 [Pp 0, .own 1 ((row_2).length), .own 2 ((q_1.2).length), .sl false 1 (Mb b_2), .tuple [], .tuple [], .tuple [], .bool false] [Vb 33 (v_T_api_Packed p_1), Rb 24 3 (Mp e_T_api_Value row_2), Rb 24 3 (Mp e_T_api_Value q_1.2)] hmix (ac gg_59 (ac gg_59 (ac gg_59 (ac gg_59 an)))) ?_
    exact ⟨rfl, (sw [0, 1, 2] [] [.s 1, .s 3, .s 4, .s 5, .a 76 (.bool (decide ((lN (row_2)) < p_1.N) && decide ((lN (b_2)) > (0 : Int))))] [.s 0, .s 1, .s 2] (ac (congrArg AV.bool (andf gg_59) : (.bool false : AV) = .bool (decide ((lN (row_2)) < p_1.N) && decide ((lN (b_2)) > (0 : Int)))) an))⟩
  refine cd 76 (decide ((lN (row_2)) < p_1.N) && decide ((lN (b_2)) > (0 : Int))) ?_ ?_
  rotate_left
  ·intro g_5; replace h := cond_f g_5 h
   refine aw_exit (id := 2) (by kernel_rfl) ?_
   cases h
   exact ⟨rfl, (sw [1] [] [.s 3] [.s 0] an)⟩
  intro g_5; replace h := cond_t g_5 h
  refine sk ?_
  refine aw_block (id := 3) (by kernel_rfl) ?_
  refine sq ?_
  refine sq ?_
  obtain ⟨x_2, h_11, h⟩ := bind_some h
  refine rg [(2, { av := Iu x_2 })] [1, 3, 4, 5, 81] [0, 1, 2] 3 [Pp 0, .own 1 ((row_2).length), .own 2 ((q_1.2).length), .sl false 1 (Mb b_2), .bool (x_2 == (0 : Int))] [Vb 33 (v_T_api_Packed p_1), Rb 24 3 (Mp e_T_api_Value row_2), Rb 24 3 (Mp e_T_api_Value q_1.2)] hmix (ac (vc_idx h_11 : idxA (Mb p_1.Bytes) (0 : Int) = some (Iu x_2)) an) ?_
  refine cd 81 (x_2 == (0 : Int)) ?_ ?_
  ·intro g_6; replace h := cond_t g_6 h
   refine sq ?_
   obtain ⟨r_3, h_12, h⟩ := bind_some h
   refine rg [(1, { av := .tuple [e_T_api_Value r_3.1, Ii r_3.2], l := [.sl false 1 (Mb b_2)] }), (5, { id := 3 })] [1, 3, 4, 5, 12, 13] [0, 1, 2, 3] 4 [Pp 0, .own 1 ((row_2).length), .own 2 ((q_1.2).length), .sl false 1 (Mb b_2), Pp 3, Ii r_3.2] [Vb 33 (v_T_api_Packed p_1), Rb 24 3 (Mp e_T_api_Value row_2), Rb 24 3 (Mp e_T_api_Value q_1.2), Vb 24 (v_T_api_Value r_3.1)] hmix (ar ([.sl false 1 (Mb b_2)] : List AV) (ac (rfl : ([] : List BoxSt) = []) (ac (R33_value_ok F b_2 r_3 h_12 : TripleG prog 44 [] [] [.sl false 1 (Mb b_2)] [] (.tuple [e_T_api_Value r_3.1, Ii r_3.2])) an))) ?_
   refine sq ?_
   refine sr [] [1, 3, 4, 5, 12, 13, 88] [0, 1, 2, 3] 4 [Pp 0, .own 1 ((row_2).length), .own 2 ((q_1.2).length), .sl false 1 (Mb b_2), Pp 3, Ii r_3.2, .bool (r_3.2 == (0 : Int))] [Vb 33 (v_T_api_Packed p_1), Rb 24 3 (Mp e_T_api_Value row_2), Rb 24 3 (Mp e_T_api_Value q_1.2), Vb 24 (v_T_api_Value r_3.1)] hmix an ?_
   refine cd 88 (r_3.2 == (0 : Int)) ?_ ?_
   ·intro g_7; replace h := cond_t g_7 h
    refine sr [(0, { id := 4, m := 1 })] [2] [4] 5 [.own 4 0] [Rb 24 3 []] hmix an ?_
    refine wk [4] [] [.a 2 (.own 0 ((([] : List T_api_Value)).length))] [.s 0] [(2, .own 0 ((([] : List T_api_Value)).length))] [(0, Rb 24 3 [])] (ac (congrArg (AV.own _) (by first | (simp; done) | (simp; omega)) : (.own 4 0 : AV) = .own 4 ((([] : List T_api_Value)).length)) an) ?_
    refine rt ?_
    cases h
    exact ⟨rfl, Nat.le_of_ble_eq_true rfl, by kernel_rfl⟩
   intro g_7; replace h := cond_f g_7 h
   refine sk ?_
   refine sq ?_
   obtain ⟨_, h_13, h⟩ := bind_some h; replace h_13 := need_some h_13
   refine rg [(2, { id := 4 }), (3, { id := 5, l := (Mp e_T_api_Value (row_2 ++ ([r_3.1] : List T_api_Value))), n := ((row_2 ++ ([r_3.1] : List T_api_Value))).length })] [1, 3, 4, 5, 13] [0, 2, 5] 6 [Pp 0, .own 5 (((row_2 ++ ([r_3.1] : List T_api_Value))).length), .own 2 ((q_1.2).length), .sl false 1 (Mb b_2), Ii r_3.2] [Vb 33 (v_T_api_Packed p_1), Rb 24 3 (Mp e_T_api_Value q_1.2), Rb 24 3 (Mp e_T_api_Value (row_2 ++ ([r_3.1] : List T_api_Value)))] hmix (ac (by first | (simp; done) | (simp; omega) : (row_2).length = ((List.map e_T_api_Value row_2)).length) (ac (by first | (simp; done) | (simp; omega) : 1 = ((List.map e_T_api_Value ([r_3.1] : List T_api_Value))).length) (ac (vc_app _ _ : (Mp e_T_api_Value (row_2 ++ ([r_3.1] : List T_api_Value))) = (Mp e_T_api_Value row_2) ++ (Mp e_T_api_Value ([r_3.1] : List T_api_Value))) (ac (by simp : ((row_2 ++ ([r_3.1] : List T_api_Value))).length = ((List.map e_T_api_Value (row_2 ++ ([r_3.1] : List T_api_Value)))).length) (ac (by first | (simp; done) | simpa using h_13 : (((List.map e_T_api_Value row_2) : List AV).length + ((List.map e_T_api_Value ([r_3.1] : List T_api_Value)) : List AV).length) * 32 ≤ 140737488355328) an))))) ?_
   refine sq ?_
   obtain ⟨_, h_14, h⟩ := bind_some h; replace h_14 := need_some h_14
   refine rg [(2, { l := (Mb (sub b_2 r_3.2 (lN (b_2)))) })] [1, 3, 4, 5] [0, 2, 5] 6 [Pp 0, .own 5 (((row_2 ++ ([r_3.1] : List T_api_Value))).length), .own 2 ((q_1.2).length), .sl false 1 (Mb (sub b_2 r_3.2 (lN (b_2))))] [Vb 33 (v_T_api_Packed p_1), Rb 24 3 (Mp e_T_api_Value q_1.2), Rb 24 3 (Mp e_T_api_Value (row_2 ++ ([r_3.1] : List T_api_Value)))] hmix (ac h_14.1 (ac (vc_lenle h_14.2 : r_3.2 ≤ (lN ((Mb b_2)))) (ac (Int.le_refl _ : (lN ((Mb b_2))) ≤ (lN ((Mb b_2)))) (ac (vc_subn _ _ : (Mb (sub b_2 r_3.2 (lN (b_2)))) = (((Mb b_2)).take ((lN ((Mb b_2)))).toNat).drop (r_3.2).toNat) an)))) ?_
   refine aw_exit (id := 3) (by kernel_rfl) ?_
   exact ⟨_, (sw [0, 5, 2] [] [.s 1, .s 3, .s 4, .s 5] [.s 0, .s 1, .s 2] an), _, _, rfl, h⟩
  intro g_6; replace h := cond_f g_6 h
  refine sk ?_
  refine sq ?_
  obtain ⟨r_4, h_15, h⟩ := bind_some h
  refine rg [(1, { av := .tuple [Ii r_4.1, Ii r_4.2.1, Ii r_4.2.2], l := [.sl false 1 (Mb b_2)] })] [1, 3, 4, 5, 14, 15, 16] [0, 1, 2] 3 [Pp 0, .own 1 ((row_2).length), .own 2 ((q_1.2).length), .sl false 1 (Mb b_2), Ii r_4.1, Ii r_4.2.1, Ii r_4.2.2] [Vb 33 (v_T_api_Packed p_1), Rb 24 3 (Mp e_T_api_Value row_2), Rb 24 3 (Mp e_T_api_Value q_1.2)] hmix (ar ([.sl false 1 (Mb b_2)] : List AV) (ac (rfl : ([] : List BoxSt) = []) (ac (R05_Int_ok F b_2 r_4 h_15 : TripleG prog 43 [] [] [.sl false 1 (Mb b_2)] [] (.tuple [Ii r_4.1, Ii r_4.2.1, Ii r_4.2.2])) an))) ?_
  refine sq ?_
  refine sr [] [1, 3, 4, 5, 14, 15, 103] [0, 1, 2] 3 [Pp 0, .own 1 ((row_2).length), .own 2 ((q_1.2).length), .sl false 1 (Mb b_2), Ii r_4.1, Ii r_4.2.1, .bool (r_4.2.2 != (0 : Int))] [Vb 33 (v_T_api_Packed p_1), Rb 24 3 (Mp e_T_api_Value row_2), Rb 24 3 (Mp e_T_api_Value q_1.2)] hmix an ?_
  refine cd 103 (r_4.2.2 != (0 : Int)) ?_ ?_
  ·intro g_8; replace h := cond_t g_8 h
   refine sr [(0, { id := 3, m := 1 })] [2] [3] 4 [.own 3 0] [Rb 24 3 []] hmix an ?_
   refine wk [3] [] [.a 2 (.own 0 ((([] : List T_api_Value)).length))] [.s 0] [(2, .own 0 ((([] : List T_api_Value)).length))] [(0, Rb 24 3 [])] (ac (congrArg (AV.own _) (by first | (simp; done) | (simp; omega)) : (.own 3 0 : AV) = .own 3 ((([] : List T_api_Value)).length)) an) ?_
   refine rt ?_
   cases h
   exact ⟨rfl, Nat.le_of_ble_eq_true rfl, by kernel_rfl⟩
  intro g_8; replace h := cond_f g_8 h
  refine sk ?_
  refine sq ?_
  obtain ⟨_, h_16, h⟩ := bind_some h; replace h_16 := need_some h_16
  refine rg [(2, { l := (Mb (sub b_2 r_4.2.1 (lN (b_2)))) })] [1, 3, 4, 5, 14] [0, 1, 2] 3 [Pp 0, .own 1 ((row_2).length), .own 2 ((q_1.2).length), .sl false 1 (Mb (sub b_2 r_4.2.1 (lN (b_2)))), Ii r_4.1] [Vb 33 (v_T_api_Packed p_1), Rb 24 3 (Mp e_T_api_Value row_2), Rb 24 3 (Mp e_T_api_Value q_1.2)] hmix (ac h_16.1 (ac (vc_lenle h_16.2 : r_4.2.1 ≤ (lN ((Mb b_2)))) (ac (Int.le_refl _ : (lN ((Mb b_2))) ≤ (lN ((Mb b_2)))) (ac (vc_subn _ _ : (Mb (sub b_2 r_4.2.1 (lN (b_2)))) = (((Mb b_2)).take ((lN ((Mb b_2)))).toNat).drop (r_4.2.1).toNat) an)))) ?_
  refine sq ?_
  refine sq ?_
  obtain ⟨x_3, h_17, h⟩ := bind_some h
  refine rg [(2, { av := Iu x_3 })] [1, 3, 4, 5, 14, 111] [0, 1, 2] 3 [Pp 0, .own 1 ((row_2).length), .own 2 ((q_1.2).length), .sl false 1 (Mb (sub b_2 r_4.2.1 (lN (b_2)))), Ii r_4.1, .bool (x_3 == (2 : Int))] [Vb 33 (v_T_api_Packed p_1), Rb 24 3 (Mp e_T_api_Value row_2), Rb 24 3 (Mp e_T_api_Value q_1.2)] hmix (ac (vc_idx h_17 : idxA (Mb p_1.Bytes) (0 : Int) = some (Iu x_3)) an) ?_
  refine cd 111 (x_3 == (2 : Int)) ?_ ?_
  ·intro g_9; replace h := cond_t g_9 h
   refine sr [(4, { id := 3 })] [1, 3, 4, 5, 17] [0, 1, 2, 3] 4 [Pp 0, .own 1 ((row_2).length), .own 2 ((q_1.2).length), .sl false 1 (Mb (sub b_2 r_4.2.1 (lN (b_2)))), Pp 3] [Vb 33 (v_T_api_Packed p_1), Rb 24 3 (Mp e_T_api_Value row_2), Rb 24 3 (Mp e_T_api_Value q_1.2), Vb 24 [Ii p_1.Type_, Ii r_4.1, .str ([] : List Int)]] hmix an ?_
   refine sq ?_
   refine sr [] [1, 3, 4, 5, 17, 118] [0, 1, 2, 3] 4 [Pp 0, .own 1 ((row_2).length), .own 2 ((q_1.2).length), .sl false 1 (Mb (sub b_2 r_4.2.1 (lN (b_2)))), Pp 3, .bool (decide ((lN (row_2)) > (0 : Int)))] [Vb 33 (v_T_api_Packed p_1), Rb 24 3 (Mp e_T_api_Value row_2), Rb 24 3 (Mp e_T_api_Value q_1.2), Vb 24 [Ii p_1.Type_, Ii r_4.1, .str ([] : List Int)]] hmix an ?_
   obtain ⟨o_4, h_18, h⟩ := bind_some h
   refine aw_mid (mk [(1, Pp 0), (3, .own 1 ((row_2).length)), (4, .own 2 ((q_1.2).length)), (5, .sl false 1 (Mb (sub b_2 r_4.2.1 (lN (b_2))))), (17, Pp 3)] [(0, Vb 33 (v_T_api_Packed p_1)), (1, Rb 24 3 (Mp e_T_api_Value row_2)), (2, Rb 24 3 (Mp e_T_api_Value q_1.2)), (3, Vb 24 [Ii p_1.Type_, Ii o_4, .str ([] : List Int)])] 4) ?_ ?_
   ·replace h := h_18
    refine cd 118 (decide ((lN (row_2)) > (0 : Int))) ?_ ?_
    rotate_left
    ·intro g_10; replace h := cond_f g_10 h
     refine sk ?_
     cases h
     exact ⟨rfl, (sw [0, 1, 2, 3] [] [.s 1, .s 3, .s 4, .s 5, .s 17] [.s 0, .s 1, .s 2, .s 3] an)⟩
    intro g_10; replace h := cond_t g_10 h
    obtain ⟨x_4, h_19, h⟩ := bind_some h
    refine rg [(8, { av := e_T_api_Value x_4 })] [1, 3, 4, 5, 17] [0, 1, 2, 3] 4 [Pp 0, .own 1 ((row_2).length), .own 2 ((q_1.2).length), .sl false 1 (Mb (sub b_2 r_4.2.1 (lN (b_2)))), Pp 3] [Vb 33 (v_T_api_Packed p_1), Rb 24 3 (Mp e_T_api_Value row_2), Rb 24 3 (Mp e_T_api_Value q_1.2), Vb 24 [Ii p_1.Type_, Ii (w_i64 (r_4.1 + x_4.N)), .str ([] : List Int)]] hmix (ac (idxL_lo h_19 : (0 : Int) ≤ (w_i64 ((lN (row_2)) - (1 : Int)))) (ac (by first | (simp; done) | simpa using idxL_hi h_19 : (w_i64 ((((row_2).length : Nat) : Int) - (1 : Int))) < (((row_2).length : Nat) : Int)) (ac (vc_get h_19 : (Mp e_T_api_Value row_2)[(w_i64 ((lN (row_2)) - (1 : Int))).toNat]? = some (e_T_api_Value x_4)) an))) ?_
    cases h
    exact ⟨rfl, (sw [0, 1, 2, 3] [] [.s 1, .s 3, .s 4, .s 5, .s 17] [.s 0, .s 1, .s 2, .s 3] an)⟩
   refine sq ?_
   obtain ⟨_, h_20, h⟩ := bind_some h; replace h_20 := need_some h_20
   refine rg [(2, { id := 4 }), (3, { id := 5, l := (Mp e_T_api_Value (row_2 ++ ([(⟨p_1.Type_, o_4, ([] : List Int)⟩ : T_api_Value)] : List T_api_Value))), n := ((row_2 ++ ([(⟨p_1.Type_, o_4, ([] : List Int)⟩ : T_api_Value)] : List T_api_Value))).length })] [1, 3, 4, 5] [0, 2, 5] 6 [Pp 0, .own 5 (((row_2 ++ ([(⟨p_1.Type_, o_4, ([] : List Int)⟩ : T_api_Value)] : List T_api_Value))).length), .own 2 ((q_1.2).length), .sl false 1 (Mb (sub b_2 r_4.2.1 (lN (b_2))))] [Vb 33 (v_T_api_Packed p_1), Rb 24 3 (Mp e_T_api_Value q_1.2), Rb 24 3 (Mp e_T_api_Value (row_2 ++ ([(⟨p_1.Type_, o_4, ([] : List Int)⟩ : T_api_Value)] : List T_api_Value)))] hmix (ac (by first | (simp; done) | (simp; omega) : (row_2).length = ((List.map e_T_api_Value row_2)).length) (ac (by first | (simp; done) | (simp; omega) : 1 = ((List.map e_T_api_Value ([(⟨p_1.Type_, o_4, ([] : List Int)⟩ : T_api_Value)] : List T_api_Value))).length) (ac (vc_app _ _ : (Mp e_T_api_Value (row_2 ++ ([(⟨p_1.Type_, o_4, ([] : List Int)⟩ : T_api_Value)] : List T_api_Value))) = (Mp e_T_api_Value row_2) ++ (Mp e_T_api_Value ([(⟨p_1.Type_, o_4, ([] : List Int)⟩ : T_api_Value)] : List T_api_Value))) (ac (by simp : ((row_2 ++ ([(⟨p_1.Type_, o_4, ([] : List Int)⟩ : T_api_Value)] : List T_api_Value))).length = ((List.map e_T_api_Value (row_2 ++ ([(⟨p_1.Type_, o_4, ([] : List Int)⟩ : T_api_Value)] : List T_api_Value)))).length) (ac (by first | (simp; done) | simpa using h_20 : (((List.map e_T_api_Value row_2) : List AV).length + ((List.map e_T_api_Value ([(⟨p_1.Type_, o_4, ([] : List Int)⟩ : T_api_Value)] : List T_api_Value)) : List AV).length) * 32 ≤ 140737488355328) an))))) ?_
   refine aw_exit (id := 3) (by kernel_rfl) ?_
   exact ⟨_, (sw [0, 5, 2] [] [.s 1, .s 3, .s 4, .s 5] [.s 0, .s 1, .s 2] an), _, _, rfl, h⟩
  intro g_9; replace h := cond_f g_9 h
  refine sk ?_
  refine sq ?_
  refine sq ?_
  obtain ⟨x_5, h_21, h⟩ := bind_some h
  refine rg [(2, { av := Iu x_5 })] [1, 3, 4, 5, 14, 138] [0, 1, 2] 3 [Pp 0, .own 1 ((row_2).length), .own 2 ((q_1.2).length), .sl false 1 (Mb (sub b_2 r_4.2.1 (lN (b_2)))), Ii r_4.1, .bool (x_5 == (3 : Int))] [Vb 33 (v_T_api_Packed p_1), Rb 24 3 (Mp e_T_api_Value row_2), Rb 24 3 (Mp e_T_api_Value q_1.2)] hmix (ac (vc_idx h_21 : idxA (Mb p_1.Bytes) (0 : Int) = some (Iu x_5)) an) ?_
  refine cd 138 (x_5 == (3 : Int)) ?_ ?_
  ·intro g_11; replace h := cond_t g_11 h
   refine sq ?_
   refine sq ?_
   refine aw_mid (mk [(1, Pp 0), (3, .own 1 ((row_2).length)), (4, .own 2 ((q_1.2).length)), (5, .sl false 1 (Mb (sub b_2 r_4.2.1 (lN (b_2))))), (14, Ii r_4.1), (146, .bool (decide (r_4.1 < (0 : Int)) || decide (r_4.1 ≥ (lN (q_1.2)))))] [(0, Vb 33 (v_T_api_Packed p_1)), (1, Rb 24 3 (Mp e_T_api_Value row_2)), (2, Rb 24 3 (Mp e_T_api_Value q_1.2))] 3) ?_ ?_
   ·rcases bft (decide (r_4.1 < (0 : Int))) with gg_60 | gg_60
    ·refine rg [(3, Hg), (4, Hg), (5, Hg), (6, Hg), (7, Ht)] [1, 3, 4, 5, 14, 142, 143, 144, 145, 146] [0, 1, 2] 3 [Pp 0, .own 1 ((row_2).length), .own 2 ((q_1.2).length), .sl false 1 (Mb (sub b_2 r_4.2.1 (lN (b_2)))), Ii r_4.1, .tuple [], .tuple [], .tuple [], .tuple [], .bool true] [Vb 33 (v_T_api_Packed p_1), Rb 24 3 (Mp e_T_api_Value row_2), Rb 24 3 (Mp e_T_api_Value q_1.2)] hmix (ac gg_60 (ac gg_60 (ac gg_60 (ac gg_60 (ac gg_60 an))))) ?_
     exact ⟨rfl, (sw [0, 1, 2] [] [.s 1, .s 3, .s 4, .s 5, .s 14, .a 146 (.bool (decide (r_4.1 < (0 : Int)) || decide (r_4.1 ≥ (lN (q_1.2)))))] [.s 0, .s 1, .s 2] (ac (congrArg AV.bool (ort gg_60) : (.bool true : AV) = .bool (decide (r_4.1 < (0 : Int)) || decide (r_4.1 ≥ (lN (q_1.2))))) an))⟩
    ·refine rg [(7, Hf)] [1, 3, 4, 5, 14, 142, 143, 144, 145, 146] [0, 1, 2] 3 [Pp 0, .own 1 ((row_2).length), .own 2 ((q_1.2).length), .sl false 1 (Mb (sub b_2 r_4.2.1 (lN (b_2)))), Ii r_4.1, Ii r_4.1, .own 2 ((q_1.2).length), Ii (lN (q_1.2)), .bool (decide (r_4.1 ≥ (lN (q_1.2)))), .bool (decide (r_4.1 ≥ (lN (q_1.2))))] [Vb 33 (v_T_api_Packed p_1), Rb 24 3 (Mp e_T_api_Value row_2), Rb 24 3 (Mp e_T_api_Value q_1.2)] hmix (ac gg_60 (ac gg_60 (ac gg_60 (ac gg_60 (ac gg_60 an))))) ?_
     exact ⟨rfl, (sw [0, 1, 2] [] [.s 1, .s 3, .s 4, .s 5, .s 14, .a 146 (.bool (decide (r_4.1 < (0 : Int)) || decide (r_4.1 ≥ (lN (q_1.2)))))] [.s 0, .s 1, .s 2] (ac (congrArg AV.bool (orf gg_60 rfl) : (.bool (decide (r_4.1 ≥ (lN (q_1.2)))) : AV) = .bool (decide (r_4.1 < (0 : Int)) || decide (r_4.1 ≥ (lN (q_1.2))))) an))⟩
   refine cd 146 (decide (r_4.1 < (0 : Int)) || decide (r_4.1 ≥ (lN (q_1.2)))) ?_ ?_
   ·intro g_12; replace h := cond_t g_12 h
    refine sr [(0, { id := 3, m := 1 })] [2] [3] 4 [.own 3 0] [Rb 24 3 []] hmix an ?_
    refine wk [3] [] [.a 2 (.own 0 ((([] : List T_api_Value)).length))] [.s 0] [(2, .own 0 ((([] : List T_api_Value)).length))] [(0, Rb 24 3 [])] (ac (congrArg (AV.own _) (by first | (simp; done) | (simp; omega)) : (.own 3 0 : AV) = .own 3 ((([] : List T_api_Value)).length)) an) ?_
    refine rt ?_
    cases h
    exact ⟨rfl, Nat.le_of_ble_eq_true rfl, by kernel_rfl⟩
   intro g_12; replace h := cond_f g_12 h
   refine sk ?_
   refine sq ?_
   obtain ⟨x_6, h_22, h⟩ := bind_some h
   obtain ⟨_, h_23, h⟩ := bind_some h; replace h_23 := need_some h_23
   refine rg [(4, { av := e_T_api_Value x_6 }), (5, { id := 3 }), (6, { id := 4, l := (Mp e_T_api_Value (row_2 ++ ([x_6] : List T_api_Value))), n := ((row_2 ++ ([x_6] : List T_api_Value))).length })] [1, 3, 4, 5] [0, 2, 4] 5 [Pp 0, .own 4 (((row_2 ++ ([x_6] : List T_api_Value))).length), .own 2 ((q_1.2).length), .sl false 1 (Mb (sub b_2 r_4.2.1 (lN (b_2))))] [Vb 33 (v_T_api_Packed p_1), Rb 24 3 (Mp e_T_api_Value q_1.2), Rb 24 3 (Mp e_T_api_Value (row_2 ++ ([x_6] : List T_api_Value)))] hmix (ac (idxL_lo h_22 : (0 : Int) ≤ r_4.1) (ac (by first | (simp; done) | simpa using idxL_hi h_22 : r_4.1 < (((q_1.2).length : Nat) : Int)) (ac (vc_get h_22 : (Mp e_T_api_Value q_1.2)[(r_4.1).toNat]? = some (e_T_api_Value x_6)) (ac (by first | (simp; done) | (simp; omega) : (row_2).length = ((List.map e_T_api_Value row_2)).length) (ac (by first | (simp; done) | (simp; omega) : 1 = ((List.map e_T_api_Value ([x_6] : List T_api_Value))).length) (ac (vc_app _ _ : (Mp e_T_api_Value (row_2 ++ ([x_6] : List T_api_Value))) = (Mp e_T_api_Value row_2) ++ (Mp e_T_api_Value ([x_6] : List T_api_Value))) (ac (by simp : ((row_2 ++ ([x_6] : List T_api_Value))).length = ((List.map e_T_api_Value (row_2 ++ ([x_6] : List T_api_Value)))).length) (ac (by first | (simp; done) | simpa using h_23 : (((List.map e_T_api_Value row_2) : List AV).length + ((List.map e_T_api_Value ([x_6] : List T_api_Value)) : List AV).length) * 32 ≤ 140737488355328) an)))))))) ?_
   refine aw_exit (id := 3) (by kernel_rfl) ?_
   exact ⟨_, (sw [0, 4, 2] [] [.s 1, .s 3, .s 4, .s 5] [.s 0, .s 1, .s 2] an), _, _, rfl, h⟩
  intro g_11; replace h := cond_f g_11 h
  refine sk ?_
  refine sq ?_
  obtain ⟨r_5, h_24, h⟩ := bind_some h
  refine rg [(1, { av := .tuple [e_T_api_Value r_5.1, Ii r_5.2], l := [.sl false 1 (Mb (sub b_2 r_4.2.1 (lN (b_2))))] }), (5, { id := 3 })] [1, 3, 4, 5, 14, 18, 19] [0, 1, 2, 3] 4 [Pp 0, .own 1 ((row_2).length), .own 2 ((q_1.2).length), .sl false 1 (Mb (sub b_2 r_4.2.1 (lN (b_2)))), Ii r_4.1, Pp 3, Ii r_5.2] [Vb 33 (v_T_api_Packed p_1), Rb 24 3 (Mp e_T_api_Value row_2), Rb 24 3 (Mp e_T_api_Value q_1.2), Vb 24 (v_T_api_Value r_5.1)] hmix (ar ([.sl false 1 (Mb (sub b_2 r_4.2.1 (lN (b_2))))] : List AV) (ac (rfl : ([] : List BoxSt) = []) (ac (R33_value_ok F (sub b_2 r_4.2.1 (lN (b_2))) r_5 h_24 : TripleG prog 44 [] [] [.sl false 1 (Mb (sub b_2 r_4.2.1 (lN (b_2))))] [] (.tuple [e_T_api_Value r_5.1, Ii r_5.2])) an))) ?_
  refine sq ?_
  refine sr [] [1, 3, 4, 5, 14, 18, 19, 160] [0, 1, 2, 3] 4 [Pp 0, .own 1 ((row_2).length), .own 2 ((q_1.2).length), .sl false 1 (Mb (sub b_2 r_4.2.1 (lN (b_2)))), Ii r_4.1, Pp 3, Ii r_5.2, .bool (r_5.2 == (0 : Int))] [Vb 33 (v_T_api_Packed p_1), Rb 24 3 (Mp e_T_api_Value row_2), Rb 24 3 (Mp e_T_api_Value q_1.2), Vb 24 (v_T_api_Value r_5.1)] hmix an ?_
  refine cd 160 (r_5.2 == (0 : Int)) ?_ ?_
  ·intro g_13; replace h := cond_t g_13 h
   refine sr [(0, { id := 4, m := 1 })] [2] [4] 5 [.own 4 0] [Rb 24 3 []] hmix an ?_
   refine wk [4] [] [.a 2 (.own 0 ((([] : List T_api_Value)).length))] [.s 0] [(2, .own 0 ((([] : List T_api_Value)).length))] [(0, Rb 24 3 [])] (ac (congrArg (AV.own _) (by first | (simp; done) | (simp; omega)) : (.own 4 0 : AV) = .own 4 ((([] : List T_api_Value)).length)) an) ?_
   refine rt ?_
   cases h
   exact ⟨rfl, Nat.le_of_ble_eq_true rfl, by kernel_rfl⟩
  intro g_13; replace h := cond_f g_13 h
  refine sk ?_
  refine sq ?_
  refine sr [] [1, 3, 4, 5, 14, 18, 19, 20] [0, 1, 2, 3] 4 [Pp 0, .own 1 ((row_2).length), .own 2 ((q_1.2).length), .sl false 1 (Mb (sub b_2 r_4.2.1 (lN (b_2)))), Ii r_4.1, Pp 3, Ii r_5.2, Ii 0] [Vb 33 (v_T_api_Packed p_1), Rb 24 3 (Mp e_T_api_Value row_2), Rb 24 3 (Mp e_T_api_Value q_1.2), Vb 24 (v_T_api_Value r_5.1)] hmix an ?_
  obtain ⟨o_5, h_25, h⟩ := bind_some h
  refine aw_mid (mk [(1, Pp 0), (3, .own 1 ((o_5).length)), (4, .own 2 ((q_1.2).length)), (5, .sl false 1 (Mb (sub b_2 r_4.2.1 (lN (b_2))))), (19, Ii r_5.2)] [(0, Vb 33 (v_T_api_Packed p_1)), (1, Rb 24 3 (Mp e_T_api_Value o_5)), (2, Rb 24 3 (Mp e_T_api_Value q_1.2))] 3) ?_ ?_
  ·replace h := h_25
   refine aw_block (id := 4) (by kernel_rfl) ?_
   refine wk [0, 1, 2, 3] [] [.s 1, .s 3, .s 4, .s 5, .s 14, .s 18, .s 19, .s 20] [.s 0, .s 1, .s 2, .s 3] [(1, Pp 0), (3, .own 1 ((row_2).length)), (4, .own 2 ((q_1.2).length)), (5, .sl false 1 (Mb (sub b_2 r_4.2.1 (lN (b_2))))), (14, Ii r_4.1), (18, Pp 3), (19, Ii r_5.2), (20, Ii 0)] [(0, Vb 33 (v_T_api_Packed p_1)), (1, Rb 24 3 (Mp e_T_api_Value row_2)), (2, Rb 24 3 (Mp e_T_api_Value q_1.2)), (3, Vb 24 (v_T_api_Value r_5.1))] an ?_
   refine aw_loopF (fun n st => ∃ (j_1 : Int), ∃ (row_3 : List T_api_Value), st = mk [(1, Pp 0), (3, .own 1 ((row_3).length)), (4, .own 2 ((q_1.2).length)), (5, .sl false 1 (Mb (sub b_2 r_4.2.1 (lN (b_2))))), (14, Ii r_4.1), (18, Pp 3), (19, Ii r_5.2), (20, Ii j_1)] [(0, Vb 33 (v_T_api_Packed p_1)), (1, Rb 24 3 (Mp e_T_api_Value row_3)), (2, Rb 24 3 (Mp e_T_api_Value q_1.2)), (3, Vb 24 (v_T_api_Value r_5.1))] 4 ∧ R33_unpack_L3 F p_1 r_4 r_5 n j_1 row_3 = some o_5) F (by kernel_rfl) ⟨_, _, rfl, h⟩ ?_ ?_
   ·rintro _ ⟨_, _, _, h⟩; exact none_ne (h : (none : Option (List T_api_Value)) = some o_5)
   rintro n_3 _ ⟨j_1, row_3, rfl, h⟩
   replace h : R33_unpack_L3_body F p_1 r_4 r_5 (R33_unpack_L3 F p_1 r_4 r_5 n_3) j_1 row_3 = some o_5 := h
   unfold R33_unpack_L3_body at h
   refine sq ?_
   refine sq ?_
   refine aw_mid (mk [(1, Pp 0), (3, .own 1 ((row_3).length)), (4, .own 2 ((q_1.2).length)), (5, .sl false 1 (Mb (sub b_2 r_4.2.1 (lN (b_2))))), (14, Ii r_4.1), (18, Pp 3), (19, Ii r_5.2), (20, Ii j_1), (170, .bool (decide (j_1 < r_4.1) && decide ((lN (row_3)) < p_1.N)))] [(0, Vb 33 (v_T_api_Packed p_1)), (1, Rb 24 3 (Mp e_T_api_Value row_3)), (2, Rb 24 3 (Mp e_T_api_Value q_1.2)), (3, Vb 24 (v_T_api_Value r_5.1))] 4) ?_ ?_
   ·rcases bft (decide (j_1 < r_4.1)) with gg_64 | gg_64
    ·refine rg [(9, Ht)] [1, 3, 4, 5, 14, 18, 19, 20, 165, 166, 167, 168, 169, 170] [0, 1, 2, 3] 4 [Pp 0, .own 1 ((row_3).length), .own 2 ((q_1.2).length), .sl false 1 (Mb (sub b_2 r_4.2.1 (lN (b_2)))), Ii r_4.1, Pp 3, Ii r_5.2, Ii j_1, .own 1 ((row_3).length), Ii (lN (row_3)), .ptr 0 0 0 1, Ii p_1.N, .bool (decide ((lN (row_3)) < p_1.N)), .bool (decide ((lN (row_3)) < p_1.N))] [Vb 33 (v_T_api_Packed p_1), Rb 24 3 (Mp e_T_api_Value row_3), Rb 24 3 (Mp e_T_api_Value q_1.2), Vb 24 (v_T_api_Value r_5.1)] hmix (ac gg_64 (ac gg_64 (ac gg_64 (ac gg_64 (ac gg_64 (ac gg_64 an)))))) ?_
     exact ⟨rfl, (sw [0, 1, 2, 3] [] [.s 1, .s 3, .s 4, .s 5, .s 14, .s 18, .s 19, .s 20, .a 170 (.bool (decide (j_1 < r_4.1) && decide ((lN (row_3)) < p_1.N)))] [.s 0, .s 1, .s 2, .s 3] (ac (congrArg AV.bool (andt gg_64 rfl) : (.bool (decide ((lN (row_3)) < p_1.N)) : AV) = .bool (decide (j_1 < r_4.1) && decide ((lN (row_3)) < p_1.N))) an))⟩
    ·refine rg [(4, Hg), (5, Hg), (6, Hg), (7, Hg), (8, Hg), (9, Hf)] [1, 3, 4, 5, 14, 18, 19, 20, 165, 166, 167, 168, 169, 170] [0, 1, 2, 3] 4 [Pp 0, .own 1 ((row_3).length), .own 2 ((q_1.2).length), .sl false 1 (Mb (sub b_2 r_4.2.1 (lN (b_2)))), Ii r_4.1, Pp 3, Ii r_5.2, Ii j_1, .tuple [], .tuple [], .tuple [], .tuple [], .tuple [], .bool false] [Vb 33 (v_T_api_Packed p_1), Rb 24 3 (Mp e_T_api_Value row_3), Rb 24 3 (Mp e_T_api_Value q_1.2), Vb 24 (v_T_api_Value r_5.1)] hmix (ac gg_64 (ac gg_64 (ac gg_64 (ac gg_64 (ac gg_64 (ac gg_64 an)))))) ?_
     exact ⟨rfl, (sw [0, 1, 2, 3] [] [.s 1, .s 3, .s 4, .s 5, .s 14, .s 18, .s 19, .s 20, .a 170 (.bool (decide (j_1 < r_4.1) && decide ((lN (row_3)) < p_1.N)))] [.s 0, .s 1, .s 2, .s 3] (ac (congrArg AV.bool (andf gg_64) : (.bool false : AV) = .bool (decide (j_1 < r_4.1) && decide ((lN (row_3)) < p_1.N))) an))⟩
   refine cd 170 (decide (j_1 < r_4.1) && decide ((lN (row_3)) < p_1.N)) ?_ ?_
   rotate_left
   ·intro g_14; replace h := cond_f g_14 h
    refine aw_exit (id := 4) (by kernel_rfl) ?_
    cases h
    exact ⟨rfl, (sw [0, 1, 2] [] [.s 1, .s 3, .s 4, .s 5, .s 19] [.s 0, .s 1, .s 2] an)⟩
   intro g_14; replace h := cond_t g_14 h
   refine sk ?_
   refine sq ?_
   refine aw_block (id := 5) (by kernel_rfl) ?_
   obtain ⟨_, h_26, h⟩ := bind_some h; replace h_26 := need_some h_26
   refine rg [(2, { id := 4 }), (3, { id := 5, l := (Mp e_T_api_Value (row_3 ++ ([r_5.1] : List T_api_Value))), n := ((row_3 ++ ([r_5.1] : List T_api_Value))).length })] [1, 3, 4, 5, 14, 18, 19, 20] [0, 2, 3, 5] 6 [Pp 0, .own 5 (((row_3 ++ ([r_5.1] : List T_api_Value))).length), .own 2 ((q_1.2).length), .sl false 1 (Mb (sub b_2 r_4.2.1 (lN (b_2)))), Ii r_4.1, Pp 3, Ii r_5.2, Ii j_1] [Vb 33 (v_T_api_Packed p_1), Rb 24 3 (Mp e_T_api_Value q_1.2), Vb 24 (v_T_api_Value r_5.1), Rb 24 3 (Mp e_T_api_Value (row_3 ++ ([r_5.1] : List T_api_Value)))] hmix (ac (by first | (simp; done) | (simp; omega) : (row_3).length = ((List.map e_T_api_Value row_3)).length) (ac (by first | (simp; done) | (simp; omega) : 1 = ((List.map e_T_api_Value ([r_5.1] : List T_api_Value))).length) (ac (vc_app _ _ : (Mp e_T_api_Value (row_3 ++ ([r_5.1] : List T_api_Value))) = (Mp e_T_api_Value row_3) ++ (Mp e_T_api_Value ([r_5.1] : List T_api_Value))) (ac (by simp : ((row_3 ++ ([r_5.1] : List T_api_Value))).length = ((List.map e_T_api_Value (row_3 ++ ([r_5.1] : List T_api_Value)))).length) (ac (by first | (simp; done) | simpa using h_26 : (((List.map e_T_api_Value row_3) : List AV).length + ((List.map e_T_api_Value ([r_5.1] : List T_api_Value)) : List AV).length) * 32 ≤ 140737488355328) an))))) ?_
   refine rg [] [1, 3, 4, 5, 14, 18, 19, 20] [0, 2, 3, 5] 6 [Pp 0, .own 5 (((row_3 ++ ([r_5.1] : List T_api_Value))).length), .own 2 ((q_1.2).length), .sl false 1 (Mb (sub b_2 r_4.2.1 (lN (b_2)))), Ii r_4.1, Pp 3, Ii r_5.2, Ii (w_i64 (j_1 + (1 : Int)))] [Vb 33 (v_T_api_Packed p_1), Rb 24 3 (Mp e_T_api_Value q_1.2), Vb 24 (v_T_api_Value r_5.1), Rb 24 3 (Mp e_T_api_Value (row_3 ++ ([r_5.1] : List T_api_Value)))] hmix an ?_
   exact ⟨_, (sw [0, 5, 2, 3] [] [.s 1, .s 3, .s 4, .s 5, .s 14, .s 18, .s 19, .s 20] [.s 0, .s 1, .s 2, .s 3] an), _, _, rfl, h⟩
  obtain ⟨_, h_27, h⟩ := bind_some h; replace h_27 := need_some h_27
  refine rg [(2, { l := (Mb (sub (sub b_2 r_4.2.1 (lN (b_2))) r_5.2 (lN (sub b_2 r_4.2.1 (lN (b_2)))))) })] [1, 3, 4, 5] [0, 1, 2] 3 [Pp 0, .own 1 ((o_5).length), .own 2 ((q_1.2).length), .sl false 1 (Mb (sub (sub b_2 r_4.2.1 (lN (b_2))) r_5.2 (lN (sub b_2 r_4.2.1 (lN (b_2))))))] [Vb 33 (v_T_api_Packed p_1), Rb 24 3 (Mp e_T_api_Value o_5), Rb 24 3 (Mp e_T_api_Value q_1.2)] hmix (ac h_27.1 (ac (vc_lenle h_27.2 : r_5.2 ≤ (lN ((Mb (sub b_2 r_4.2.1 (lN (b_2))))))) (ac (Int.le_refl _ : (lN ((Mb (sub b_2 r_4.2.1 (lN (b_2)))))) ≤ (lN ((Mb (sub b_2 r_4.2.1 (lN (b_2))))))) (ac (vc_subn _ _ : (Mb (sub (sub b_2 r_4.2.1 (lN (b_2))) r_5.2 (lN (sub b_2 r_4.2.1 (lN (b_2)))))) = (((Mb (sub b_2 r_4.2.1 (lN (b_2))))).take ((lN ((Mb (sub b_2 r_4.2.1 (lN (b_2))))))).toNat).drop (r_5.2).toNat) an)))) ?_
  exact ⟨_, (sw [0, 1, 2] [] [.s 1, .s 3, .s 4, .s 5] [.s 0, .s 1, .s 2] an), _, _, rfl, h⟩
 intro e st1 hk
 rcases o_3 with q_3 | q_4
 rotate_left
 ·obtain ⟨rfl, hf⟩ := hk
  cases h
  exact ⟨st1, Sub.refl _ _, .inr rfl, hf⟩
 obtain ⟨rfl, hs⟩ := hk
 refine ⟨_, hs, ?_⟩
 refine sr [] [2] [0] 1 [.own 0 ((q_3).length)] [Rb 24 3 (Mp e_T_api_Value q_3)] hmix an ?_
 refine wk [0] [] [.s 2] [.s 0] [(2, .own 0 ((q_3).length))] [(0, Rb 24 3 (Mp e_T_api_Value q_3))] an ?_
 refine rt ?_
 cases h
 exact ⟨.inr rfl, Nat.le_of_ble_eq_true rfl, by kernel_rfl⟩

theorem R33_Decode_ok (F : Nat) (p_1 : T_api_Packed) (r : (List (T_api_Value)) × Int) (h : R33_Decode F p_1 = some r) : TripleG prog 17 [] [] [e_T_api_Packed p_1] [] (.tuple [.sl false 3 (Mp e_T_api_Value r.1), Ii r.2]) := by
 refine triple_intro (fn := Go.Proofs.Try.f17) (code := codeOf Go.Proofs.Try.f17) (by kernel_rfl) (by kernel_rfl) (Nat.le_of_ble_eq_true (by kernel_rfl)) ?_
 unfold R33_Decode at h
 refine sr [(0, { id := 0 })] [1] [0] 1 [Pp 0] [Vb 33 (v_T_api_Packed p_1)] hmix an ?_
 refine sq ?_
 refine sq ?_
 refine aw_mid (mk [(1, Pp 0), (14, .bool (decide (p_1.Type_ < (1 : Int)) || decide (p_1.Type_ > (3 : Int))))] [(0, Vb 33 (v_T_api_Packed p_1))] 1) ?_ ?_
 ·rcases bft (decide (p_1.Type_ < (1 : Int))) with gg_4 | gg_4
  ·refine rg [(4, Hg), (5, Hg), (6, Hg), (7, Ht)] [1, 14] [0] 1 [Pp 0, .bool true] [Vb 33 (v_T_api_Packed p_1)] hmix (ac gg_4 (ac gg_4 (ac gg_4 (ac gg_4 an)))) ?_
   exact ⟨rfl, (sw [0] [] [.s 1, .a 14 (.bool (decide (p_1.Type_ < (1 : Int)) || decide (p_1.Type_ > (3 : Int))))] [.s 0] (ac (congrArg AV.bool (ort gg_4) : (.bool true : AV) = .bool (decide (p_1.Type_ < (1 : Int)) || decide (p_1.Type_ > (3 : Int)))) an))⟩
  ·refine rg [(7, Hf)] [1, 14] [0] 1 [Pp 0, .bool (decide (p_1.Type_ > (3 : Int)))] [Vb 33 (v_T_api_Packed p_1)] hmix (ac gg_4 (ac gg_4 (ac gg_4 (ac gg_4 an)))) ?_
   exact ⟨rfl, (sw [0] [] [.s 1, .a 14 (.bool (decide (p_1.Type_ < (1 : Int)) || decide (p_1.Type_ > (3 : Int))))] [.s 0] (ac (congrArg AV.bool (orf gg_4 rfl) : (.bool (decide (p_1.Type_ > (3 : Int))) : AV) = .bool (decide (p_1.Type_ < (1 : Int)) || decide (p_1.Type_ > (3 : Int)))) an))⟩
 refine cd 14 (decide (p_1.Type_ < (1 : Int)) || decide (p_1.Type_ > (3 : Int))) ?_ ?_
 ·intro g_1; replace h := cond_t g_1 h
  refine sr [] [2, 3] [] 1 [.nilsl, Ii 1] [] hmix an ?_
  refine wk [] [] [.a 2 (.sl false 3 []), .s 3] [] [(2, .sl false 3 []), (3, Ii 1)] [] (ar ([] : List AV) an) ?_
  refine rt ?_
  cases h
  exact ⟨.inr rfl, Nat.le_of_ble_eq_true rfl, by kernel_rfl⟩
 intro g_1; replace h := cond_f g_1 h
 refine sk ?_
 refine sq ?_
 refine sr [] [1, 17] [0] 1 [Pp 0, .bool (decide (p_1.N > (20000 : Int)))] [Vb 33 (v_T_api_Packed p_1)] hmix an ?_
 refine cd 17 (decide (p_1.N > (20000 : Int))) ?_ ?_
 ·intro g_2; replace h := cond_t g_2 h
  refine sr [] [2, 3] [] 1 [.nilsl, Ii 7] [] hmix an ?_
  refine wk [] [] [.a 2 (.sl false 3 []), .s 3] [] [(2, .sl false 3 []), (3, Ii 7)] [] (ar ([] : List AV) an) ?_
  refine rt ?_
  cases h
  exact ⟨.inr rfl, Nat.le_of_ble_eq_true rfl, by kernel_rfl⟩
 intro g_2; replace h := cond_f g_2 h
 refine sk ?_
 refine sq ?_
 obtain ⟨r_1, h_1, h⟩ := bind_some h
 refine rg [(1, { av := .own 0 ((r_1).length), ids := [1], l := [e_T_api_Packed p_1], post := [(.row 24 3 (Mp e_T_api_Value r_1))] })] [1, 4] [0, 1] 2 [Pp 0, .own 1 ((r_1).length)] [Vb 33 (v_T_api_Packed p_1), Rb 24 3 (Mp e_T_api_Value r_1)] hmix (ar ([e_T_api_Packed p_1] : List AV) (ac (rfl : ([] : List BoxSt) = []) (ac (R33_unpack_ok F p_1 r_1 h_1 : TripleG prog 33 [] [] [e_T_api_Packed p_1] [(.row 24 3 (Mp e_T_api_Value r_1))] (.own 0 ((r_1).length))) an))) ?_
 refine sq ?_
 refine wk [0] [1] [.s 1, .a 4 (.sl false 3 (Mp e_T_api_Value r_1))] [.s 0] [(1, Pp 0), (4, .sl false 3 (Mp e_T_api_Value r_1))] [(0, Vb 33 (v_T_api_Packed p_1))] (ac (by first | (simp; done) | (simp; omega) : (r_1).length = ((List.map e_T_api_Value r_1)).length) (ar 3 (ar ((Mp e_T_api_Value r_1) : List AV) (ac (rfl : (!false || false) = true) an)))) ?_
 obtain ⟨r_2, h_2, h⟩ := bind_some h
 refine rg [(3, { av := .tuple [e_T_api_Packed r_2.1, Ii r_2.2], l := [Ii p_1.Type_, .sl false 3 (Mp e_T_api_Value r_1)] }), (7, { id := 1 })] [1, 4, 5, 6] [0, 1] 2 [Pp 0, .sl false 3 (Mp e_T_api_Value r_1), Pp 1, Ii r_2.2] [Vb 33 (v_T_api_Packed p_1), Vb 33 (v_T_api_Packed r_2.1)] hmix (ar ([Ii p_1.Type_, .sl false 3 (Mp e_T_api_Value r_1)] : List AV) (ac (rfl : ([] : List BoxSt) = []) (ac (R33_Encode_ok F p_1.Type_ r_1 r_2 h_2 : TripleG prog 13 [] [] [Ii p_1.Type_, .sl false 3 (Mp e_T_api_Value r_1)] [] (.tuple [e_T_api_Packed r_2.1, Ii r_2.2])) an))) ?_
 refine sq ?_
 refine sq ?_
 refine aw_mid (mk [(4, .sl false 3 (Mp e_T_api_Value r_1)), (44, .bool ((r_2.2 != (0 : Int)) || ((r_2.1.N != p_1.N) || !(r_2.1.Bytes == p_1.Bytes))))] [] 0) ?_ ?_
 ·rcases bft (r_2.2 != (0 : Int)) with gg_5 | gg_5
  ·refine rg [(3, Hg), (4, Hg), (5, Hg), (6, Hg), (7, Hg), (8, Ht), (10, Hg), (11, Hg), (12, Hg), (13, Hg), (14, Hg), (15, Hg), (16, Hg), (17, Ht)] [4, 44] [] 2 [.sl false 3 (Mp e_T_api_Value r_1), .bool true] [] hmix (ac gg_5 (ac gg_5 (ac gg_5 (ac gg_5 (ac gg_5 (ac gg_5 (ax (ax (ax (ax (ax (ax (ax (ar true an)))))))))))))) ?_
   exact ⟨rfl, (sw [] [] [.s 4, .a 44 (.bool ((r_2.2 != (0 : Int)) || ((r_2.1.N != p_1.N) || !(r_2.1.Bytes == p_1.Bytes))))] [] (ac (congrArg AV.bool (ort gg_5) : (.bool true : AV) = .bool ((r_2.2 != (0 : Int)) || ((r_2.1.N != p_1.N) || !(r_2.1.Bytes == p_1.Bytes)))) an))⟩
  ·rcases bft (r_2.1.N != p_1.N) with gg_6 | gg_6
   ·refine rg [(8, Hf), (10, Hg), (11, Hg), (12, Hg), (13, Hg), (14, Hg), (15, Hg), (16, Hg), (17, Ht)] [4, 44] [] 2 [.sl false 3 (Mp e_T_api_Value r_1), .bool true] [] hmix (ac gg_5 (ac gg_5 (ac gg_5 (ac gg_5 (ac gg_5 (ac gg_5 (ac gg_6 (ac gg_6 (ac gg_6 (ac gg_6 (ac gg_6 (ac gg_6 (ac gg_6 (ac gg_6 an)))))))))))))) ?_
    exact ⟨rfl, (sw [] [] [.s 4, .a 44 (.bool ((r_2.2 != (0 : Int)) || ((r_2.1.N != p_1.N) || !(r_2.1.Bytes == p_1.Bytes))))] [] (ac (congrArg AV.bool (orf gg_5 (ort gg_6)) : (.bool true : AV) = .bool ((r_2.2 != (0 : Int)) || ((r_2.1.N != p_1.N) || !(r_2.1.Bytes == p_1.Bytes)))) an))⟩
   ·refine rg [(8, Hf), (12, { s := r_2.1.Bytes }), (15, { s := p_1.Bytes }), (17, Hf)] [4, 44] [] 2 [.sl false 3 (Mp e_T_api_Value r_1), .bool (!(r_2.1.Bytes == p_1.Bytes))] [] hmix (ac gg_5 (ac gg_5 (ac gg_5 (ac gg_5 (ac gg_5 (ac gg_5 (ac gg_6 (ac gg_6 (ac gg_6 (ac (rfl : (Mb r_2.1.Bytes) = List.map (AV.int .u8) r_2.1.Bytes) (ac gg_6 (ac gg_6 (ac gg_6 (ac (rfl : (Mb p_1.Bytes) = List.map (AV.int .u8) p_1.Bytes) (ac gg_6 (ac gg_6 an)))))))))))))))) ?_
    exact ⟨rfl, (sw [] [] [.s 4, .a 44 (.bool ((r_2.2 != (0 : Int)) || ((r_2.1.N != p_1.N) || !(r_2.1.Bytes == p_1.Bytes))))] [] (ac (congrArg AV.bool (orf gg_5 (orf gg_6 rfl)) : (.bool (!(r_2.1.Bytes == p_1.Bytes)) : AV) = .bool ((r_2.2 != (0 : Int)) || ((r_2.1.N != p_1.N) || !(r_2.1.Bytes == p_1.Bytes)))) an))⟩
 refine cd 44 ((r_2.2 != (0 : Int)) || ((r_2.1.N != p_1.N) || !(r_2.1.Bytes == p_1.Bytes))) ?_ ?_
 ·intro g_3; replace h := cond_t g_3 h
  refine sr [] [2, 3] [] 0 [.nilsl, Ii 10] [] hmix an ?_
  refine wk [] [] [.a 2 (.sl false 3 []), .s 3] [] [(2, .sl false 3 []), (3, Ii 10)] [] (ar ([] : List AV) an) ?_
  refine rt ?_
  cases h
  exact ⟨.inr rfl, Nat.le_of_ble_eq_true rfl, by kernel_rfl⟩
 intro g_3; replace h := cond_f g_3 h
 refine sk ?_
 refine sr [] [2, 3] [] 0 [.sl false 3 (Mp e_T_api_Value r_1), Ii 0] [] hmix an ?_
 refine rt ?_
 cases h
 exact ⟨.inr rfl, Nat.le_of_ble_eq_true rfl, by kernel_rfl⟩

theorem R33_Coding_ok (F : Nat) (p_1 : T_api_Packed) (r : Int × Int) (h : R33_Coding F p_1 = some r) : TripleG prog 18 [] [] [e_T_api_Packed p_1] [] (.tuple [Ii r.1, Ii r.2]) := by
 refine triple_intro (fn := Go.Proofs.Try.f18) (code := codeOf Go.Proofs.Try.f18) (by kernel_rfl) (by kernel_rfl) (Nat.le_of_ble_eq_true (by kernel_rfl)) ?_
 unfold R33_Coding at h
 refine sr [(0, { id := 0 })] [1] [0] 1 [Pp 0] [Vb 33 (v_T_api_Packed p_1)] hmix an ?_
 refine sq ?_
 obtain ⟨r_1, h_1, h⟩ := bind_some h
 refine rg [(1, { av := .tuple [.sl false 3 (Mp e_T_api_Value r_1.1), Ii r_1.2], l := [e_T_api_Packed p_1] })] [1, 5] [0] 1 [Pp 0, Ii r_1.2] [Vb 33 (v_T_api_Packed p_1)] hmix (ar ([e_T_api_Packed p_1] : List AV) (ac (rfl : ([] : List BoxSt) = []) (ac (R33_Decode_ok F p_1 r_1 h_1 : TripleG prog 17 [] [] [e_T_api_Packed p_1] [] (.tuple [.sl false 3 (Mp e_T_api_Value r_1.1), Ii r_1.2])) an))) ?_
 refine sq ?_
 refine sr [] [1, 5, 12] [0] 1 [Pp 0, Ii r_1.2, .bool (r_1.2 != (0 : Int))] [Vb 33 (v_T_api_Packed p_1)] hmix an ?_
 refine cd 12 (r_1.2 != (0 : Int)) ?_ ?_
 ·intro g_1; replace h := cond_t g_1 h
  refine sr [] [2, 3] [] 1 [Ii 0, Ii r_1.2] [] hmix an ?_
  refine rt ?_
  cases h
  exact ⟨.inr rfl, Nat.le_of_ble_eq_true rfl, by kernel_rfl⟩
 intro g_1; replace h := cond_f g_1 h
 refine sk ?_
 refine sq ?_
 obtain ⟨x_1, h_2, h⟩ := bind_some h
 refine rg [(2, { av := Iu x_1 })] [2, 3] [] 1 [Ii (w_i64 x_1), Ii 0] [] hmix (ac (vc_idx h_2 : idxA (Mb p_1.Bytes) (0 : Int) = some (Iu x_1)) an) ?_
 refine rt ?_
 cases h
 exact ⟨.inr rfl, Nat.le_of_ble_eq_true rfl, by kernel_rfl⟩

end Go.Ab
