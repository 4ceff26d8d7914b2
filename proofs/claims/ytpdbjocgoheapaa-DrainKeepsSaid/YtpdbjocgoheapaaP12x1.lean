/- Printed: the typed Lean functions of the Go functions, or the proofs that the Go functions meet them. No conditions but those that the theorems name. -/
import Derived.Test.YtpdbjocgoheapaaP12xD
import Derived.Test.YtpdbjocgoheapaaProg
namespace Go.Ab
open Go
set_option linter.unusedVariables false
noncomputable abbrev prog := Go.Proofs.Try.prog
theorem hmix : prog.follows .mixedOrders = true := by kernel_rfl
theorem ext_82 : ExtIdx prog 82 := ⟨_, Go.Proofs.Try.func82, by kernel_rfl, by kernel_rfl, by kernel_rfl, by kernel_rfl⟩
theorem keyOk_3 : KeyOk prog 3 false [.int .i64] := keyOk_int (by kernel_rfl)
theorem L12_two_ok (r : (List (T_api_Thread))) (h : L12_two = some r) : TripleG prog 24 [] [] [] [.row 60 3 (Mp e_T_api_Thread r)] (.own 0 ((r).length)) := by
 refine triple_intro (fn := Go.Proofs.Try.f24) (code := codeOf Go.Proofs.Try.f24) (by kernel_rfl) (by kernel_rfl) (Nat.le_of_ble_eq_true (by kernel_rfl)) ?_
 unfold L12_two at h
 refine sr [(0, { id := 0, m := 1 })] [] [] 1 [] [] hmix an ?_
 refine sr [(2, { id := 1 })] [0] [1] 2 [.own 1 2] [Rb 60 3 (Mp e_T_api_Thread ([(⟨(1 : Int), ([120] : List Int), (0 : Int)⟩ : T_api_Thread), (⟨(2 : Int), ([121] : List Int), (0 : Int)⟩ : T_api_Thread)] : List T_api_Thread))] hmix an ?_
 refine wk [1] [] [.a 0 (.own 0 ((([(⟨(1 : Int), ([120] : List Int), (0 : Int)⟩ : T_api_Thread), (⟨(2 : Int), ([121] : List Int), (0 : Int)⟩ : T_api_Thread)] : List T_api_Thread)).length))] [.s 0] [(0, .own 0 ((([(⟨(1 : Int), ([120] : List Int), (0 : Int)⟩ : T_api_Thread), (⟨(2 : Int), ([121] : List Int), (0 : Int)⟩ : T_api_Thread)] : List T_api_Thread)).length))] [(0, Rb 60 3 (Mp e_T_api_Thread ([(⟨(1 : Int), ([120] : List Int), (0 : Int)⟩ : T_api_Thread), (⟨(2 : Int), ([121] : List Int), (0 : Int)⟩ : T_api_Thread)] : List T_api_Thread)))] (ac (congrArg (AV.own _) (by first | (simp; done) | (simp; omega)) : (.own 1 2 : AV) = .own 1 ((([(⟨(1 : Int), ([120] : List Int), (0 : Int)⟩ : T_api_Thread), (⟨(2 : Int), ([121] : List Int), (0 : Int)⟩ : T_api_Thread)] : List T_api_Thread)).length)) an) ?_
 refine rt ?_
 cases h
 exact ⟨.inr rfl, Nat.le_of_ble_eq_true rfl, by kernel_rfl⟩

theorem stringslite_IndexByte_ok (s_1 : List Int) (c_1 : Int) (r : Int) (h : stringslite_IndexByte s_1 c_1 = some r) : TripleG prog 81 [] [] [.str s_1, Iu c_1] [] (Ii r) := by
 refine triple_intro (fn := Go.Proofs.Try.f81) (code := codeOf Go.Proofs.Try.f81) (by kernel_rfl) (by kernel_rfl) (Nat.le_of_ble_eq_true (by kernel_rfl)) ?_
 unfold stringslite_IndexByte at h
 refine sr [] [0, 1] [] 0 [.str s_1, Iu c_1] [] hmix an ?_
 refine sr [] [4] [] 0 [Ii (idxByte s_1 c_1)] [] hmix (ac (ext_82 : ExtIdx prog 82) an) ?_
 refine rt ?_
 cases h
 exact ⟨.inr rfl, Nat.le_of_ble_eq_true rfl, by kernel_rfl⟩

theorem strings_IndexByte_ok (s_1 : List Int) (c_1 : Int) (r : Int) (h : strings_IndexByte s_1 c_1 = some r) : TripleG prog 77 [] [] [.str s_1, Iu c_1] [] (Ii r) := by
 refine triple_intro (fn := Go.Proofs.Try.f77) (code := codeOf Go.Proofs.Try.f77) (by kernel_rfl) (by kernel_rfl) (Nat.le_of_ble_eq_true (by kernel_rfl)) ?_
 unfold strings_IndexByte at h
 refine sr [] [0, 1] [] 0 [.str s_1, Iu c_1] [] hmix an ?_
 refine sq ?_
 obtain ⟨r_1, h_1, h⟩ := bind_some h
 refine rg [(2, { av := Ii r_1, l := [.str s_1, Iu c_1] })] [4] [] 0 [Ii r_1] [] hmix (ar ([.str s_1, Iu c_1] : List AV) (ac (rfl : ([] : List BoxSt) = []) (ac (stringslite_IndexByte_ok s_1 c_1 r_1 h_1 : TripleG prog 81 [] [] [.str s_1, Iu c_1] [] (Ii r_1)) an))) ?_
 refine rt ?_
 cases h
 exact ⟨.inr rfl, Nat.le_of_ble_eq_true rfl, by kernel_rfl⟩

theorem intern_letter_ok (c_1 : Int) (r : Bool) (h : intern_letter c_1 = some r) : TripleG prog 70 [] [] [Iu c_1] [] (.bool r) := by
 refine triple_intro (fn := Go.Proofs.Try.f70) (code := codeOf Go.Proofs.Try.f70) (by kernel_rfl) (by kernel_rfl) (Nat.le_of_ble_eq_true (by kernel_rfl)) ?_
 unfold intern_letter at h
 refine sr [] [0] [] 0 [Iu c_1] [] hmix an ?_
 refine sq ?_
 obtain ⟨p_1, h_2, h⟩ := bind_some h
 refine aw_mid (mk [(2, .bool p_1)] [] 0) ?_ ?_
 ·replace h := h_2
  rcases bft (decide (c_1 ≥ (97 : Int))) with gg_1 | gg_1
  ·replace h := cond_t gg_1 h
   rcases bft (decide (c_1 ≤ (122 : Int))) with gg_2 | gg_2
   ·replace h := cond_t gg_2 h
    refine rg [(5, Ht), (7, Hg), (8, Hg), (9, Hg), (12, Hg), (13, Ht), (15, Hg), (16, Hg), (17, Hg), (20, Hg), (21, Ht), (23, Hg), (24, Hg), (25, Hg), (26, Ht)] [2] [] 0 [.bool true] [] hmix (ac gg_1 (ac gg_1 (ac gg_1 (ac gg_2 (ac gg_2 (ac gg_2 (ac gg_2 (ac gg_2 (ax (ax (ax (ax (ar true (ax (ax (ax (ar true an))))))))))))))))) ?_
    cases h
    exact ⟨rfl, (sw [] [] [.s 2] [] an)⟩
   ·replace h := cond_f gg_2 h
    rcases bft (decide (c_1 ≥ (65 : Int))) with gg_3 | gg_3
    ·replace h := cond_t gg_3 h
     rcases bft (decide (c_1 ≤ (90 : Int))) with gg_4 | gg_4
     ·replace h := cond_t gg_4 h
      refine rg [(5, Ht), (12, Ht), (13, Hf), (15, Hg), (16, Hg), (17, Hg), (20, Hg), (21, Ht), (23, Hg), (24, Hg), (25, Hg), (26, Ht)] [2] [] 0 [.bool true] [] hmix (ac gg_1 (ac gg_1 (ac gg_1 (ac gg_2 (ac gg_2 (ac gg_2 (ac gg_3 (ac gg_3 (ac gg_2 (ac gg_3 (ac gg_2 (ac gg_4 (ac gg_4 (ac gg_4 (ac gg_4 (ac gg_4 (ax (ax (ax (ar true an)))))))))))))))))))) ?_
      cases h
      exact ⟨rfl, (sw [] [] [.s 2] [] an)⟩
     ·replace h := cond_f gg_4 h
      rcases bft (decide (c_1 ≥ (48 : Int))) with gg_5 | gg_5
      ·replace h := cond_t gg_5 h
       rcases bft (decide (c_1 ≤ (57 : Int))) with gg_6 | gg_6
       ·replace h := cond_t gg_6 h
        refine rg [(5, Ht), (12, Ht), (13, Hf), (20, Ht), (21, Hf), (23, Hg), (24, Hg), (25, Hg), (26, Ht)] [2] [] 0 [.bool true] [] hmix (ac gg_1 (ac gg_1 (ac gg_1 (ac gg_2 (ac gg_2 (ac gg_2 (ac gg_3 (ac gg_3 (ac gg_2 (ac gg_3 (ac gg_2 (ac gg_4 (ac gg_4 (ac gg_4 (ac gg_5 (ac gg_5 (ac gg_4 (ac gg_5 (ac gg_4 (ac gg_6 (ac gg_6 (ac gg_6 (ac gg_6 an))))))))))))))))))))))) ?_
        cases h
        exact ⟨rfl, (sw [] [] [.s 2] [] an)⟩
       ·replace h := cond_f gg_6 h
        obtain ⟨r_1, h_1, h⟩ := bind_some h
        refine rg [(5, Ht), (12, Ht), (13, Hf), (20, Ht), (21, Hf), (24, { av := Ii r_1, l := [.str ([95, 46, 58, 47, 60, 62, 36, 42, 126, 45] : List Int), Iu c_1] }), (26, Hf)] [2] [] 0 [.bool (decide (r_1 ≥ (0 : Int)))] [] hmix (ac gg_1 (ac gg_1 (ac gg_1 (ac gg_2 (ac gg_2 (ac gg_2 (ac gg_3 (ac gg_3 (ac gg_2 (ac gg_3 (ac gg_2 (ac gg_4 (ac gg_4 (ac gg_4 (ac gg_5 (ac gg_5 (ac gg_4 (ac gg_5 (ac gg_4 (ac gg_6 (ac gg_6 (ar ([.str ([95, 46, 58, 47, 60, 62, 36, 42, 126, 45] : List Int), Iu c_1] : List AV) (ac (rfl : ([] : List BoxSt) = []) (ac (strings_IndexByte_ok ([95, 46, 58, 47, 60, 62, 36, 42, 126, 45] : List Int) c_1 r_1 h_1 : TripleG prog 77 [] [] [.str ([95, 46, 58, 47, 60, 62, 36, 42, 126, 45] : List Int), Iu c_1] [] (Ii r_1)) (ac gg_6 (ac gg_6 an)))))))))))))))))))))))))) ?_
        cases h
        exact ⟨rfl, (sw [] [] [.s 2] [] an)⟩
      ·replace h := cond_f gg_5 h
       obtain ⟨r_1, h_1, h⟩ := bind_some h
       refine rg [(5, Ht), (12, Ht), (13, Hf), (18, Hg), (19, Hg), (20, Hf), (21, Hf), (24, { av := Ii r_1, l := [.str ([95, 46, 58, 47, 60, 62, 36, 42, 126, 45] : List Int), Iu c_1] }), (26, Hf)] [2] [] 0 [.bool (decide (r_1 ≥ (0 : Int)))] [] hmix (ac gg_1 (ac gg_1 (ac gg_1 (ac gg_2 (ac gg_2 (ac gg_2 (ac gg_3 (ac gg_3 (ac gg_2 (ac gg_3 (ac gg_2 (ac gg_4 (ac gg_4 (ac gg_4 (ac gg_5 (ac gg_5 (ac gg_4 (ac gg_5 (ac gg_4 (ar false (ar false (ar ([.str ([95, 46, 58, 47, 60, 62, 36, 42, 126, 45] : List Int), Iu c_1] : List AV) (ac (rfl : ([] : List BoxSt) = []) (ac (strings_IndexByte_ok ([95, 46, 58, 47, 60, 62, 36, 42, 126, 45] : List Int) c_1 r_1 h_1 : TripleG prog 77 [] [] [.str ([95, 46, 58, 47, 60, 62, 36, 42, 126, 45] : List Int), Iu c_1] [] (Ii r_1)) (ar false (ar false an)))))))))))))))))))))))))) ?_
       cases h
       exact ⟨rfl, (sw [] [] [.s 2] [] an)⟩
    ·replace h := cond_f gg_3 h
     rcases bft (decide (c_1 ≥ (48 : Int))) with gg_7 | gg_7
     ·replace h := cond_t gg_7 h
      rcases bft (decide (c_1 ≤ (57 : Int))) with gg_8 | gg_8
      ·replace h := cond_t gg_8 h
       refine rg [(5, Ht), (10, Hg), (11, Hg), (12, Hf), (13, Hf), (20, Ht), (21, Hf), (23, Hg), (24, Hg), (25, Hg), (26, Ht)] [2] [] 0 [.bool true] [] hmix (ac gg_1 (ac gg_1 (ac gg_1 (ac gg_2 (ac gg_2 (ac gg_2 (ac gg_3 (ac gg_3 (ac gg_2 (ac gg_3 (ac gg_2 (ar false (ar false (ar false (ac gg_7 (ac gg_7 (ar false (ac gg_7 (ar false (ac gg_8 (ac gg_8 (ac gg_8 (ac gg_8 an))))))))))))))))))))))) ?_
       cases h
       exact ⟨rfl, (sw [] [] [.s 2] [] an)⟩
      ·replace h := cond_f gg_8 h
       obtain ⟨r_1, h_1, h⟩ := bind_some h
       refine rg [(5, Ht), (10, Hg), (11, Hg), (12, Hf), (13, Hf), (20, Ht), (21, Hf), (24, { av := Ii r_1, l := [.str ([95, 46, 58, 47, 60, 62, 36, 42, 126, 45] : List Int), Iu c_1] }), (26, Hf)] [2] [] 0 [.bool (decide (r_1 ≥ (0 : Int)))] [] hmix (ac gg_1 (ac gg_1 (ac gg_1 (ac gg_2 (ac gg_2 (ac gg_2 (ac gg_3 (ac gg_3 (ac gg_2 (ac gg_3 (ac gg_2 (ar false (ar false (ar false (ac gg_7 (ac gg_7 (ar false (ac gg_7 (ar false (ac gg_8 (ac gg_8 (ar ([.str ([95, 46, 58, 47, 60, 62, 36, 42, 126, 45] : List Int), Iu c_1] : List AV) (ac (rfl : ([] : List BoxSt) = []) (ac (strings_IndexByte_ok ([95, 46, 58, 47, 60, 62, 36, 42, 126, 45] : List Int) c_1 r_1 h_1 : TripleG prog 77 [] [] [.str ([95, 46, 58, 47, 60, 62, 36, 42, 126, 45] : List Int), Iu c_1] [] (Ii r_1)) (ac gg_8 (ac gg_8 an)))))))))))))))))))))))))) ?_
       cases h
       exact ⟨rfl, (sw [] [] [.s 2] [] an)⟩
     ·replace h := cond_f gg_7 h
      obtain ⟨r_1, h_1, h⟩ := bind_some h
      refine rg [(5, Ht), (10, Hg), (11, Hg), (12, Hf), (13, Hf), (18, Hg), (19, Hg), (20, Hf), (21, Hf), (24, { av := Ii r_1, l := [.str ([95, 46, 58, 47, 60, 62, 36, 42, 126, 45] : List Int), Iu c_1] }), (26, Hf)] [2] [] 0 [.bool (decide (r_1 ≥ (0 : Int)))] [] hmix (ac gg_1 (ac gg_1 (ac gg_1 (ac gg_2 (ac gg_2 (ac gg_2 (ac gg_3 (ac gg_3 (ac gg_2 (ac gg_3 (ac gg_2 (ar false (ar false (ar false (ac gg_7 (ac gg_7 (ar false (ac gg_7 (ar false (ar false (ar false (ar ([.str ([95, 46, 58, 47, 60, 62, 36, 42, 126, 45] : List Int), Iu c_1] : List AV) (ac (rfl : ([] : List BoxSt) = []) (ac (strings_IndexByte_ok ([95, 46, 58, 47, 60, 62, 36, 42, 126, 45] : List Int) c_1 r_1 h_1 : TripleG prog 77 [] [] [.str ([95, 46, 58, 47, 60, 62, 36, 42, 126, 45] : List Int), Iu c_1] [] (Ii r_1)) (ar false (ar false an)))))))))))))))))))))))))) ?_
      cases h
      exact ⟨rfl, (sw [] [] [.s 2] [] an)⟩
  ·replace h := cond_f gg_1 h
   rcases bft (decide (c_1 ≥ (65 : Int))) with gg_9 | gg_9
   ·replace h := cond_t gg_9 h
    rcases bft (decide (c_1 ≤ (90 : Int))) with gg_10 | gg_10
    ·replace h := cond_t gg_10 h
     refine rg [(3, Hg), (4, Hg), (5, Hf), (12, Ht), (13, Hf), (15, Hg), (16, Hg), (17, Hg), (20, Hg), (21, Ht), (23, Hg), (24, Hg), (25, Hg), (26, Ht)] [2] [] 0 [.bool true] [] hmix (ac gg_1 (ac gg_1 (ac gg_1 (ar false (ar false (ar false (ac gg_9 (ac gg_9 (ar false (ac gg_9 (ar false (ac gg_10 (ac gg_10 (ac gg_10 (ac gg_10 (ac gg_10 (ax (ax (ax (ar true an)))))))))))))))))))) ?_
     cases h
     exact ⟨rfl, (sw [] [] [.s 2] [] an)⟩
    ·replace h := cond_f gg_10 h
     rcases bft (decide (c_1 ≥ (48 : Int))) with gg_11 | gg_11
     ·replace h := cond_t gg_11 h
      rcases bft (decide (c_1 ≤ (57 : Int))) with gg_12 | gg_12
      ·replace h := cond_t gg_12 h
       refine rg [(3, Hg), (4, Hg), (5, Hf), (12, Ht), (13, Hf), (20, Ht), (21, Hf), (23, Hg), (24, Hg), (25, Hg), (26, Ht)] [2] [] 0 [.bool true] [] hmix (ac gg_1 (ac gg_1 (ac gg_1 (ar false (ar false (ar false (ac gg_9 (ac gg_9 (ar false (ac gg_9 (ar false (ac gg_10 (ac gg_10 (ac gg_10 (ac gg_11 (ac gg_11 (ac gg_10 (ac gg_11 (ac gg_10 (ac gg_12 (ac gg_12 (ac gg_12 (ac gg_12 an))))))))))))))))))))))) ?_
       cases h
       exact ⟨rfl, (sw [] [] [.s 2] [] an)⟩
      ·replace h := cond_f gg_12 h
       obtain ⟨r_1, h_1, h⟩ := bind_some h
       refine rg [(3, Hg), (4, Hg), (5, Hf), (12, Ht), (13, Hf), (20, Ht), (21, Hf), (24, { av := Ii r_1, l := [.str ([95, 46, 58, 47, 60, 62, 36, 42, 126, 45] : List Int), Iu c_1] }), (26, Hf)] [2] [] 0 [.bool (decide (r_1 ≥ (0 : Int)))] [] hmix (ac gg_1 (ac gg_1 (ac gg_1 (ar false (ar false (ar false (ac gg_9 (ac gg_9 (ar false (ac gg_9 (ar false (ac gg_10 (ac gg_10 (ac gg_10 (ac gg_11 (ac gg_11 (ac gg_10 (ac gg_11 (ac gg_10 (ac gg_12 (ac gg_12 (ar ([.str ([95, 46, 58, 47, 60, 62, 36, 42, 126, 45] : List Int), Iu c_1] : List AV) (ac (rfl : ([] : List BoxSt) = []) (ac (strings_IndexByte_ok ([95, 46, 58, 47, 60, 62, 36, 42, 126, 45] : List Int) c_1 r_1 h_1 : TripleG prog 77 [] [] [.str ([95, 46, 58, 47, 60, 62, 36, 42, 126, 45] : List Int), Iu c_1] [] (Ii r_1)) (ac gg_12 (ac gg_12 an)))))))))))))))))))))))))) ?_
       cases h
       exact ⟨rfl, (sw [] [] [.s 2] [] an)⟩
     ·replace h := cond_f gg_11 h
      obtain ⟨r_1, h_1, h⟩ := bind_some h
      refine rg [(3, Hg), (4, Hg), (5, Hf), (12, Ht), (13, Hf), (18, Hg), (19, Hg), (20, Hf), (21, Hf), (24, { av := Ii r_1, l := [.str ([95, 46, 58, 47, 60, 62, 36, 42, 126, 45] : List Int), Iu c_1] }), (26, Hf)] [2] [] 0 [.bool (decide (r_1 ≥ (0 : Int)))] [] hmix (ac gg_1 (ac gg_1 (ac gg_1 (ar false (ar false (ar false (ac gg_9 (ac gg_9 (ar false (ac gg_9 (ar false (ac gg_10 (ac gg_10 (ac gg_10 (ac gg_11 (ac gg_11 (ac gg_10 (ac gg_11 (ac gg_10 (ar false (ar false (ar ([.str ([95, 46, 58, 47, 60, 62, 36, 42, 126, 45] : List Int), Iu c_1] : List AV) (ac (rfl : ([] : List BoxSt) = []) (ac (strings_IndexByte_ok ([95, 46, 58, 47, 60, 62, 36, 42, 126, 45] : List Int) c_1 r_1 h_1 : TripleG prog 77 [] [] [.str ([95, 46, 58, 47, 60, 62, 36, 42, 126, 45] : List Int), Iu c_1] [] (Ii r_1)) (ar false (ar false an)))))))))))))))))))))))))) ?_
      cases h
      exact ⟨rfl, (sw [] [] [.s 2] [] an)⟩
   ·replace h := cond_f gg_9 h
    rcases bft (decide (c_1 ≥ (48 : Int))) with gg_13 | gg_13
    ·replace h := cond_t gg_13 h
     rcases bft (decide (c_1 ≤ (57 : Int))) with gg_14 | gg_14
     ·replace h := cond_t gg_14 h
      refine rg [(3, Hg), (4, Hg), (5, Hf), (10, Hg), (11, Hg), (12, Hf), (13, Hf), (20, Ht), (21, Hf), (23, Hg), (24, Hg), (25, Hg), (26, Ht)] [2] [] 0 [.bool true] [] hmix (ac gg_1 (ac gg_1 (ac gg_1 (ar false (ar false (ar false (ac gg_9 (ac gg_9 (ar false (ac gg_9 (ar false (ar false (ar false (ar false (ac gg_13 (ac gg_13 (ar false (ac gg_13 (ar false (ac gg_14 (ac gg_14 (ac gg_14 (ac gg_14 an))))))))))))))))))))))) ?_
      cases h
      exact ⟨rfl, (sw [] [] [.s 2] [] an)⟩
     ·replace h := cond_f gg_14 h
      obtain ⟨r_1, h_1, h⟩ := bind_some h
      refine rg [(3, Hg), (4, Hg), (5, Hf), (10, Hg), (11, Hg), (12, Hf), (13, Hf), (20, Ht), (21, Hf), (24, { av := Ii r_1, l := [.str ([95, 46, 58, 47, 60, 62, 36, 42, 126, 45] : List Int), Iu c_1] }), (26, Hf)] [2] [] 0 [.bool (decide (r_1 ≥ (0 : Int)))] [] hmix (ac gg_1 (ac gg_1 (ac gg_1 (ar false (ar false (ar false (ac gg_9 (ac gg_9 (ar false (ac gg_9 (ar false (ar false (ar false (ar false (ac gg_13 (ac gg_13 (ar false (ac gg_13 (ar false (ac gg_14 (ac gg_14 (ar ([.str ([95, 46, 58, 47, 60, 62, 36, 42, 126, 45] : List Int), Iu c_1] : List AV) (ac (rfl : ([] : List BoxSt) = []) (ac (strings_IndexByte_ok ([95, 46, 58, 47, 60, 62, 36, 42, 126, 45] : List Int) c_1 r_1 h_1 : TripleG prog 77 [] [] [.str ([95, 46, 58, 47, 60, 62, 36, 42, 126, 45] : List Int), Iu c_1] [] (Ii r_1)) (ac gg_14 (ac gg_14 an)))))))))))))))))))))))))) ?_
      cases h
      exact ⟨rfl, (sw [] [] [.s 2] [] an)⟩
    ·replace h := cond_f gg_13 h
     obtain ⟨r_1, h_1, h⟩ := bind_some h
     refine rg [(3, Hg), (4, Hg), (5, Hf), (10, Hg), (11, Hg), (12, Hf), (13, Hf), (18, Hg), (19, Hg), (20, Hf), (21, Hf), (24, { av := Ii r_1, l := [.str ([95, 46, 58, 47, 60, 62, 36, 42, 126, 45] : List Int), Iu c_1] }), (26, Hf)] [2] [] 0 [.bool (decide (r_1 ≥ (0 : Int)))] [] hmix (ac gg_1 (ac gg_1 (ac gg_1 (ar false (ar false (ar false (ac gg_9 (ac gg_9 (ar false (ac gg_9 (ar false (ar false (ar false (ar false (ac gg_13 (ac gg_13 (ar false (ac gg_13 (ar false (ar false (ar false (ar ([.str ([95, 46, 58, 47, 60, 62, 36, 42, 126, 45] : List Int), Iu c_1] : List AV) (ac (rfl : ([] : List BoxSt) = []) (ac (strings_IndexByte_ok ([95, 46, 58, 47, 60, 62, 36, 42, 126, 45] : List Int) c_1 r_1 h_1 : TripleG prog 77 [] [] [.str ([95, 46, 58, 47, 60, 62, 36, 42, 126, 45] : List Int), Iu c_1] [] (Ii r_1)) (ar false (ar false an)))))))))))))))))))))))))) ?_
     cases h
     exact ⟨rfl, (sw [] [] [.s 2] [] an)⟩
 refine rt ?_
 cases h
 exact ⟨.inr rfl, Nat.le_of_ble_eq_true rfl, by kernel_rfl⟩

theorem intern_Name_ok (F : Nat) (s_1 : List Int) (r : Int) (h : intern_Name F s_1 = some r) : TripleG prog 65 [] [] [.str s_1] [] (Ii r) := by
 refine triple_intro (fn := Go.Proofs.Try.f65) (code := codeOf Go.Proofs.Try.f65) (by kernel_rfl) (by kernel_rfl) (Nat.le_of_ble_eq_true (by kernel_rfl)) ?_
 unfold intern_Name at h
 refine sr [] [0] [] 0 [.str s_1] [] hmix an ?_
 refine sq ?_
 refine sq ?_
 refine aw_mid (mk [(0, .str s_1), (10, .bool ((s_1 == ([] : List Int)) || decide ((lN (s_1)) > (40 : Int))))] [] 0) ?_ ?_
 ·rcases bft (s_1 == ([] : List Int)) with gg_1 | gg_1
  ·refine rg [(3, Hg), (4, Hg), (5, Hg), (6, Ht)] [0, 10] [] 0 [.str s_1, .bool true] [] hmix (ac gg_1 (ac gg_1 (ac gg_1 (ac gg_1 an)))) ?_
   exact ⟨rfl, (sw [] [] [.s 0, .a 10 (.bool ((s_1 == ([] : List Int)) || decide ((lN (s_1)) > (40 : Int))))] [] (ac (congrArg AV.bool (ort gg_1) : (.bool true : AV) = .bool ((s_1 == ([] : List Int)) || decide ((lN (s_1)) > (40 : Int)))) an))⟩
  ·refine rg [(6, Hf)] [0, 10] [] 0 [.str s_1, .bool (decide ((lN (s_1)) > (40 : Int)))] [] hmix (ac gg_1 (ac gg_1 (ac gg_1 (ac gg_1 an)))) ?_
   exact ⟨rfl, (sw [] [] [.s 0, .a 10 (.bool ((s_1 == ([] : List Int)) || decide ((lN (s_1)) > (40 : Int))))] [] (ac (congrArg AV.bool (orf gg_1 rfl) : (.bool (decide ((lN (s_1)) > (40 : Int))) : AV) = .bool ((s_1 == ([] : List Int)) || decide ((lN (s_1)) > (40 : Int)))) an))⟩
 refine cd 10 ((s_1 == ([] : List Int)) || decide ((lN (s_1)) > (40 : Int))) ?_ ?_
 ·intro g_1; replace h := cond_t g_1 h
  refine sr [] [2] [] 0 [Ii 3] [] hmix an ?_
  refine rt ?_
  cases h
  exact ⟨.inr rfl, Nat.le_of_ble_eq_true rfl, by kernel_rfl⟩
 intro g_1; replace h := cond_f g_1 h
 refine sk ?_
 refine sq ?_
 refine sr [] [0, 12, 13] [] 0 [.str s_1, Ii (lN (s_1)), Ii 0] [] hmix an ?_
 obtain ⟨o_1, h_1, h⟩ := bind_some h
 refine aw_conv (K1 := (fun e st' => match o_1 with | (.inl q0) => e = .normal ∧ Sub 0 st' (mk [] [] 0) | (.inr q1) => e = .ret ∧ FinR prog Go.Proofs.Try.f65 0 [] (Ii q1) st')) ?_ ?_
 ·replace h := h_1
  refine aw_block (id := 0) (by kernel_rfl) ?_
  refine wk [] [] [.s 0, .s 12, .s 13] [] [(0, .str s_1), (12, Ii (lN (s_1))), (13, Ii 0)] [] an ?_
  refine aw_loopF (fun n st => ∃ (v_1 : Int), st = mk [(0, .str s_1), (12, Ii (lN (s_1))), (13, Ii v_1)] [] 0 ∧ intern_Name_L1 F s_1 n v_1 = some o_1) F (by kernel_rfl) ⟨_, rfl, h⟩ ?_ ?_
  ·rintro _ ⟨_, _, h⟩; exact none_ne (h : (none : Option (Unit ⊕ Int)) = some o_1)
  rintro n_1 _ ⟨v_1, rfl, h⟩
  replace h : intern_Name_L1_body F s_1 (intern_Name_L1 F s_1 n_1) v_1 = some o_1 := h
  unfold intern_Name_L1_body at h
  refine sr [] [0, 12, 13, 14] [] 0 [.str s_1, Ii (lN (s_1)), Ii v_1, .bool (decide (v_1 < (lN (s_1))))] [] hmix an ?_
  refine sq ?_
  refine cd 14 (decide (v_1 < (lN (s_1)))) ?_ ?_
  rotate_left
  ·intro g_2; replace h := cond_f g_2 h
   refine aw_exit (id := 0) (by kernel_rfl) ?_
   cases h
   exact ⟨rfl, (sw [] [] [] [] an)⟩
  intro g_2; replace h := cond_t g_2 h
  refine sk ?_
  refine sq ?_
  refine aw_block (id := 1) (by kernel_rfl) ?_
  refine sr [] [0, 3, 12, 13] [] 0 [.str s_1, Ii v_1, Ii (lN (s_1)), Ii v_1] [] hmix an ?_
  refine sq ?_
  obtain ⟨c_1, h_2, h⟩ := bind_some h
  obtain ⟨r_1, h_3, h⟩ := bind_some h
  refine rg [(2, { z := c_1 }), (3, { av := .bool r_1, l := [Iu c_1] })] [0, 12, 13, 20] [] 0 [.str s_1, Ii (lN (s_1)), Ii v_1, .bool (!r_1)] [] hmix (ac h_2 (ar ([Iu c_1] : List AV) (ac (rfl : ([] : List BoxSt) = []) (ac (intern_letter_ok c_1 r_1 h_3 : TripleG prog 70 [] [] [Iu c_1] [] (.bool r_1)) an)))) ?_
  refine cd 20 (!r_1) ?_ ?_
  rotate_left
  ·intro g_3; replace h := cond_f g_3 h
   refine sk ?_
   refine rg [] [0, 12, 13] [] 0 [.str s_1, Ii (lN (s_1)), Ii (w_i64 (v_1 + (1 : Int)))] [] hmix an ?_
   exact ⟨_, (sw [] [] [.s 0, .s 12, .s 13] [] an), _, rfl, h⟩
  intro g_3; replace h := cond_t g_3 h
  refine sr [] [2] [] 0 [Ii 3] [] hmix an ?_
  refine rt ?_
  cases h
  exact ⟨rfl, Nat.le_of_ble_eq_true rfl, by kernel_rfl⟩
 intro e st1 hk
 rcases o_1 with q_1 | q_2
 rotate_left
 ·obtain ⟨rfl, hf⟩ := hk
  cases h
  exact ⟨st1, Sub.refl _ _, .inr rfl, hf⟩
 obtain ⟨rfl, hs⟩ := hk
 refine ⟨_, hs, ?_⟩
 refine sr [] [2] [] 0 [Ii 0] [] hmix an ?_
 refine rt ?_
 cases h
 exact ⟨.inr rfl, Nat.le_of_ble_eq_true rfl, by kernel_rfl⟩

theorem producer_Thread_ok (F : Nat) (t_1 : T_api_Thread) (r : Int) (h : producer_Thread F t_1 = some r) : TripleG prog 53 [] [] [e_T_api_Thread t_1] [] (Ii r) := by
 refine triple_intro (fn := Go.Proofs.Try.f53) (code := codeOf Go.Proofs.Try.f53) (by kernel_rfl) (by kernel_rfl) (Nat.le_of_ble_eq_true (by kernel_rfl)) ?_
 unfold producer_Thread at h
 refine sr [(0, { id := 0 })] [1] [0] 1 [Pp 0] [Vb 60 (v_T_api_Thread t_1)] hmix an ?_
 refine sq ?_
 refine sq ?_
 refine aw_mid (mk [(1, Pp 0), (20, .bool (decide (t_1.Id < (0 : Int)) || (decide (t_1.Id > (1000000000000000 : Int)) || (decide (t_1.Domain < (0 : Int)) || decide (t_1.Domain ≥ (8 : Int))))))] [(0, Vb 60 (v_T_api_Thread t_1))] 1) ?_ ?_
 ·rcases bft (decide (t_1.Id < (0 : Int))) with gg_1 | gg_1
  ·refine rg [(4, Hg), (5, Hg), (6, Hg), (7, Ht), (9, Hg), (10, Hg), (11, Hg), (12, Ht), (14, Hg), (15, Hg), (16, Hg), (17, Ht)] [1, 20] [0] 1 [Pp 0, .bool true] [Vb 60 (v_T_api_Thread t_1)] hmix (ac gg_1 (ac gg_1 (ac gg_1 (ac gg_1 (ax (ax (ax (ar true (ax (ax (ax (ar true an)))))))))))) ?_
   exact ⟨rfl, (sw [0] [] [.s 1, .a 20 (.bool (decide (t_1.Id < (0 : Int)) || (decide (t_1.Id > (1000000000000000 : Int)) || (decide (t_1.Domain < (0 : Int)) || decide (t_1.Domain ≥ (8 : Int))))))] [.s 0] (ac (congrArg AV.bool (ort gg_1) : (.bool true : AV) = .bool (decide (t_1.Id < (0 : Int)) || (decide (t_1.Id > (1000000000000000 : Int)) || (decide (t_1.Domain < (0 : Int)) || decide (t_1.Domain ≥ (8 : Int)))))) an))⟩
  ·rcases bft (decide (t_1.Id > (1000000000000000 : Int))) with gg_2 | gg_2
   ·refine rg [(7, Hf), (9, Hg), (10, Hg), (11, Hg), (12, Ht), (14, Hg), (15, Hg), (16, Hg), (17, Ht)] [1, 20] [0] 1 [Pp 0, .bool true] [Vb 60 (v_T_api_Thread t_1)] hmix (ac gg_1 (ac gg_1 (ac gg_1 (ac gg_1 (ac gg_2 (ac gg_2 (ac gg_2 (ac gg_2 (ax (ax (ax (ar true an)))))))))))) ?_
    exact ⟨rfl, (sw [0] [] [.s 1, .a 20 (.bool (decide (t_1.Id < (0 : Int)) || (decide (t_1.Id > (1000000000000000 : Int)) || (decide (t_1.Domain < (0 : Int)) || decide (t_1.Domain ≥ (8 : Int))))))] [.s 0] (ac (congrArg AV.bool (orf gg_1 (ort gg_2)) : (.bool true : AV) = .bool (decide (t_1.Id < (0 : Int)) || (decide (t_1.Id > (1000000000000000 : Int)) || (decide (t_1.Domain < (0 : Int)) || decide (t_1.Domain ≥ (8 : Int)))))) an))⟩
   ·rcases bft (decide (t_1.Domain < (0 : Int))) with gg_3 | gg_3
    ·refine rg [(7, Hf), (12, Hf), (14, Hg), (15, Hg), (16, Hg), (17, Ht)] [1, 20] [0] 1 [Pp 0, .bool true] [Vb 60 (v_T_api_Thread t_1)] hmix (ac gg_1 (ac gg_1 (ac gg_1 (ac gg_1 (ac gg_2 (ac gg_2 (ac gg_2 (ac gg_2 (ac gg_3 (ac gg_3 (ac gg_3 (ac gg_3 an)))))))))))) ?_
     exact ⟨rfl, (sw [0] [] [.s 1, .a 20 (.bool (decide (t_1.Id < (0 : Int)) || (decide (t_1.Id > (1000000000000000 : Int)) || (decide (t_1.Domain < (0 : Int)) || decide (t_1.Domain ≥ (8 : Int))))))] [.s 0] (ac (congrArg AV.bool (orf gg_1 (orf gg_2 (ort gg_3))) : (.bool true : AV) = .bool (decide (t_1.Id < (0 : Int)) || (decide (t_1.Id > (1000000000000000 : Int)) || (decide (t_1.Domain < (0 : Int)) || decide (t_1.Domain ≥ (8 : Int)))))) an))⟩
    ·refine rg [(7, Hf), (12, Hf), (17, Hf)] [1, 20] [0] 1 [Pp 0, .bool (decide (t_1.Domain ≥ (8 : Int)))] [Vb 60 (v_T_api_Thread t_1)] hmix (ac gg_1 (ac gg_1 (ac gg_1 (ac gg_1 (ac gg_2 (ac gg_2 (ac gg_2 (ac gg_2 (ac gg_3 (ac gg_3 (ac gg_3 (ac gg_3 an)))))))))))) ?_
     exact ⟨rfl, (sw [0] [] [.s 1, .a 20 (.bool (decide (t_1.Id < (0 : Int)) || (decide (t_1.Id > (1000000000000000 : Int)) || (decide (t_1.Domain < (0 : Int)) || decide (t_1.Domain ≥ (8 : Int))))))] [.s 0] (ac (congrArg AV.bool (orf gg_1 (orf gg_2 (orf gg_3 rfl))) : (.bool (decide (t_1.Domain ≥ (8 : Int))) : AV) = .bool (decide (t_1.Id < (0 : Int)) || (decide (t_1.Id > (1000000000000000 : Int)) || (decide (t_1.Domain < (0 : Int)) || decide (t_1.Domain ≥ (8 : Int)))))) an))⟩
 refine cd 20 (decide (t_1.Id < (0 : Int)) || (decide (t_1.Id > (1000000000000000 : Int)) || (decide (t_1.Domain < (0 : Int)) || decide (t_1.Domain ≥ (8 : Int))))) ?_ ?_
 ·intro g_1; replace h := cond_t g_1 h
  refine sr [] [2] [] 1 [Ii 2] [] hmix an ?_
  refine rt ?_
  cases h
  exact ⟨.inr rfl, Nat.le_of_ble_eq_true rfl, by kernel_rfl⟩
 intro g_1; replace h := cond_f g_1 h
 refine sk ?_
 refine sq ?_
 obtain ⟨r_1, h_1, h⟩ := bind_some h
 refine rg [(2, { av := Ii r_1, l := [.str t_1.Name] })] [2] [] 1 [Ii r_1] [] hmix (ar ([.str t_1.Name] : List AV) (ac (rfl : ([] : List BoxSt) = []) (ac (intern_Name_ok F t_1.Name r_1 h_1 : TripleG prog 65 [] [] [.str t_1.Name] [] (Ii r_1)) an))) ?_
 refine rt ?_
 cases h
 exact ⟨.inr rfl, Nat.le_of_ble_eq_true rfl, by kernel_rfl⟩

theorem drain_threads_ok (F : Nat) (l_1 : List (T_api_Thread)) (r : Int) (h : drain_threads F l_1 = some r) : TripleG prog 31 [] [] [.sl false 3 (Mp e_T_api_Thread l_1)] [] (Ii r) := by
 refine triple_intro (fn := Go.Proofs.Try.f31) (code := codeOf Go.Proofs.Try.f31) (by kernel_rfl) (by kernel_rfl) (Nat.le_of_ble_eq_true (by kernel_rfl)) ?_
 unfold drain_threads at h
 refine sr [] [0] [] 0 [.sl false 3 (Mp e_T_api_Thread l_1)] [] hmix an ?_
 refine sq ?_
 refine aw_block (id := 0) (by kernel_rfl) ?_
 refine sr [(1, { n := (l_1).length })] [0, 7] [] 0 [.sl false 3 (Mp e_T_api_Thread l_1), .bool ((lN (l_1)) == (0 : Int))] [] hmix (ac (vc_len _ : ((Mp e_T_api_Thread l_1)).length = (l_1).length) an) ?_
 refine cd 7 ((lN (l_1)) == (0 : Int)) ?_ ?_
 ·intro g_1; replace h := cond_t g_1 h
  refine sr [] [2] [] 0 [Ii 8] [] hmix an ?_
  refine rt ?_
  cases h
  exact ⟨.inr rfl, Nat.le_of_ble_eq_true rfl, by kernel_rfl⟩
 intro g_1; replace h := cond_f g_1 h
 refine sr [(1, { n := (l_1).length })] [0, 11] [] 0 [.sl false 3 (Mp e_T_api_Thread l_1), .bool (decide ((lN (l_1)) > (64 : Int)))] [] hmix (ac (vc_len _ : ((Mp e_T_api_Thread l_1)).length = (l_1).length) an) ?_
 refine cd 11 (decide ((lN (l_1)) > (64 : Int))) ?_ ?_
 ·intro g_2; replace h := cond_t g_2 h
  refine sr [] [2] [] 0 [Ii 7] [] hmix an ?_
  refine rt ?_
  cases h
  exact ⟨.inr rfl, Nat.le_of_ble_eq_true rfl, by kernel_rfl⟩
 intro g_2; replace h := cond_f g_2 h
 refine sk ?_
 refine sr [(0, { id := 0, mag := false, mks := [.int .i64] })] [0, 3] [0] 1 [.sl false 3 (Mp e_T_api_Thread l_1), .mp 0] [.live (.map false [.int .i64] [])] hmix an ?_
 refine sq ?_
 refine sr [(1, { n := (l_1).length })] [3, 16, 17, 18] [0] 1 [.mp 0, .sl false 3 (Mp e_T_api_Thread l_1), Ii (lN (l_1)), Ii 0] [.live (.map false [.int .i64] [])] hmix (ac (vc_len _ : ((Mp e_T_api_Thread l_1)).length = (l_1).length) an) ?_
 obtain ⟨o_1, h_1, h⟩ := bind_some h
 refine aw_conv (K1 := (fun e st' => match o_1 with | (.inl q0) => e = .normal ∧ Sub 0 st' (mk [] [] 0) | (.inr q1) => e = .ret ∧ FinR prog Go.Proofs.Try.f31 0 [] (Ii q1) st')) ?_ ?_
 ·replace h := h_1
  refine aw_block (id := 1) (by kernel_rfl) ?_
  refine wk [0] [] [.s 3, .s 16, .s 17, .s 18] [.s 0] [(3, .mp 0), (16, .sl false 3 (Mp e_T_api_Thread l_1)), (17, Ii (lN (l_1))), (18, Ii 0)] [(0, .live (.map false [.int .i64] []))] an ?_
  refine aw_loopF (fun n st => ∃ (v_1 : Int), ∃ (row_1 : List (Int × Bool)), st = mk [(3, .mp 0), (16, .sl false 3 (Mp e_T_api_Thread l_1)), (17, Ii (lN (l_1))), (18, Ii v_1)] [(0, .live (.map false [.int .i64] (List.map (mpE (AV.int .i64) AV.bool) row_1)))] 1 ∧ drain_threads_L1 F l_1 n v_1 row_1 = some o_1) F (by kernel_rfl) ⟨_, _, rfl, h⟩ ?_ ?_
  ·rintro _ ⟨_, _, _, h⟩; exact none_ne (h : (none : Option (Unit ⊕ Int)) = some o_1)
  rintro n_1 _ ⟨v_1, row_1, rfl, h⟩
  replace h : drain_threads_L1_body F l_1 (drain_threads_L1 F l_1 n_1) v_1 row_1 = some o_1 := h
  unfold drain_threads_L1_body at h
  refine sr [] [3, 16, 17, 18, 19] [0] 1 [.mp 0, .sl false 3 (Mp e_T_api_Thread l_1), Ii (lN (l_1)), Ii v_1, .bool (decide (v_1 < (lN (l_1))))] [.live (.map false [.int .i64] (List.map (mpE (AV.int .i64) AV.bool) row_1))] hmix an ?_
  refine sq ?_
  refine cd 19 (decide (v_1 < (lN (l_1)))) ?_ ?_
  rotate_left
  ·intro g_3; replace h := cond_f g_3 h
   refine aw_exit (id := 1) (by kernel_rfl) ?_
   cases h
   exact ⟨rfl, (sw [] [] [] [] an)⟩
  intro g_3; replace h := cond_t g_3 h
  refine sk ?_
  refine sq ?_
  refine aw_block (id := 2) (by kernel_rfl) ?_
  refine sq ?_
  obtain ⟨x_1, h_2, h⟩ := bind_some h
  refine rg [(0, { av := e_T_api_Thread x_1 }), (2, { id := 1 })] [3, 5, 16, 17, 18] [0, 1] 2 [.mp 0, Pp 1, .sl false 3 (Mp e_T_api_Thread l_1), Ii (lN (l_1)), Ii v_1] [.live (.map false [.int .i64] (List.map (mpE (AV.int .i64) AV.bool) row_1)), Vb 60 (v_T_api_Thread x_1)] hmix (ac (vc_idx h_2 : idxA (Mp e_T_api_Thread l_1) v_1 = some (e_T_api_Thread x_1)) an) ?_
  refine sq ?_
  refine sq ?_
  obtain ⟨r_1, h_3, h⟩ := bind_some h
  refine rg [(1, { av := Ii r_1, l := [e_T_api_Thread x_1] })] [3, 5, 6, 16, 17, 18] [0, 1] 2 [.mp 0, Pp 1, Ii r_1, .sl false 3 (Mp e_T_api_Thread l_1), Ii (lN (l_1)), Ii v_1] [.live (.map false [.int .i64] (List.map (mpE (AV.int .i64) AV.bool) row_1)), Vb 60 (v_T_api_Thread x_1)] hmix (ar ([e_T_api_Thread x_1] : List AV) (ac (rfl : ([] : List BoxSt) = []) (ac (producer_Thread_ok F x_1 r_1 h_3 : TripleG prog 53 [] [] [e_T_api_Thread x_1] [] (Ii r_1)) an))) ?_
  refine sr [] [3, 5, 6, 16, 17, 18, 25] [0, 1] 2 [.mp 0, Pp 1, Ii r_1, .sl false 3 (Mp e_T_api_Thread l_1), Ii (lN (l_1)), Ii v_1, .bool (r_1 != (0 : Int))] [.live (.map false [.int .i64] (List.map (mpE (AV.int .i64) AV.bool) row_1)), Vb 60 (v_T_api_Thread x_1)] hmix an ?_
  refine cd 25 (r_1 != (0 : Int)) ?_ ?_
  ·intro g_4; replace h := cond_t g_4 h
   refine sr [] [2] [] 2 [Ii r_1] [] hmix an ?_
   refine rt ?_
   cases h
   exact ⟨rfl, Nat.le_of_ble_eq_true rfl, by kernel_rfl⟩
  intro g_4; replace h := cond_f g_4 h
  refine sk ?_
  refine sq ?_
  refine sr [(3, { av := (.bool ((mget row_1 x_1.Id).getD false)), g := (mget row_1 x_1.Id).isSome })] [3, 5, 16, 17, 18, 30] [0, 1] 2 [.mp 0, Pp 1, .sl false 3 (Mp e_T_api_Thread l_1), Ii (lN (l_1)), Ii v_1, .bool ((mget row_1 x_1.Id).getD false)] [.live (.map false [.int .i64] (List.map (mpE (AV.int .i64) AV.bool) row_1)), Vb 60 (v_T_api_Thread x_1)] hmix (ac (keyOk_3 : KeyOk prog 3 false [.int .i64]) (ac (mlook_map (f := (AV.int .i64)) (g := AV.bool) inj_int row_1 x_1.Id false : MLook (List.map (mpE (AV.int .i64) AV.bool) row_1) (Ii x_1.Id) (.bool false) (.bool ((mget row_1 x_1.Id).getD false)) (mget row_1 x_1.Id).isSome) an)) ?_
  refine cd 30 ((mget row_1 x_1.Id).getD false) ?_ ?_
  ·intro g_5; replace h := cond_t g_5 h
   refine sr [] [2] [] 2 [Ii 4] [] hmix an ?_
   refine rt ?_
   cases h
   exact ⟨rfl, Nat.le_of_ble_eq_true rfl, by kernel_rfl⟩
  intro g_5; replace h := cond_f g_5 h
  refine sk ?_
  obtain ⟨_, h_4, h⟩ := bind_some h; replace h_4 := need_some h_4
  refine rg [(3, { es := (List.map (mpE (AV.int .i64) AV.bool) (mput row_1 x_1.Id true)) })] [3, 16, 17, 18] [0] 2 [.mp 0, .sl false 3 (Mp e_T_api_Thread l_1), Ii (lN (l_1)), Ii v_1] [.live (.map false [.int .i64] (List.map (mpE (AV.int .i64) AV.bool) (mput row_1 x_1.Id true)))] hmix (ac (keyOk_3 : KeyOk prog 3 false [.int .i64]) (ac (mput_map (f := (AV.int .i64)) (g := AV.bool) inj_int row_1 x_1.Id true : MPut (List.map (mpE (AV.int .i64) AV.bool) row_1) (Ii x_1.Id) (.bool true) (List.map (mpE (AV.int .i64) AV.bool) (mput row_1 x_1.Id true))) (ac (mlen_lt (l := row_1) h_4 : ((List.map (mpE (AV.int .i64) AV.bool) row_1) : List (AV × AV)).length < maxLen) an))) ?_
  refine rg [] [3, 16, 17, 18] [0] 2 [.mp 0, .sl false 3 (Mp e_T_api_Thread l_1), Ii (lN (l_1)), Ii (w_i64 (v_1 + (1 : Int)))] [.live (.map false [.int .i64] (List.map (mpE (AV.int .i64) AV.bool) (mput row_1 x_1.Id true)))] hmix an ?_
  exact ⟨_, (sw [0] [] [.s 3, .s 16, .s 17, .s 18] [.s 0] an), _, _, rfl, h⟩
 intro e st1 hk
 rcases o_1 with q_1 | q_2
 rotate_left
 ·obtain ⟨rfl, hf⟩ := hk
  cases h
  exact ⟨st1, Sub.refl _ _, .inr rfl, hf⟩
 obtain ⟨rfl, hs⟩ := hk
 refine ⟨_, hs, ?_⟩
 refine sr [] [2] [] 0 [Ii 0] [] hmix an ?_
 refine rt ?_
 cases h
 exact ⟨.inr rfl, Nat.le_of_ble_eq_true rfl, by kernel_rfl⟩

theorem slices_Clone_tracebook_api_Thread_tracebook_api_Thread_ok (s_1 : List (T_api_Thread)) (r : (List (T_api_Thread))) (h : slices_Clone_tracebook_api_Thread_tracebook_api_Thread s_1 = some r) : TripleG prog 32 [] [] [.sl false 3 (Mp e_T_api_Thread s_1)] [.row 60 3 (Mp e_T_api_Thread r)] (.own 0 ((r).length)) := by
 refine triple_intro (fn := Go.Proofs.Try.f32) (code := codeOf Go.Proofs.Try.f32) (by kernel_rfl) (by kernel_rfl) (Nat.le_of_ble_eq_true (by kernel_rfl)) ?_
 unfold slices_Clone_tracebook_api_Thread_tracebook_api_Thread at h
 refine sr [(0, { id := 0, m := 1 })] [0] [] 1 [.sl false 3 (Mp e_T_api_Thread s_1)] [] hmix an ?_
 refine sq ?_
 refine sr [] [0, 4] [] 1 [.sl false 3 (Mp e_T_api_Thread s_1), .nb (Mp e_T_api_Thread s_1)] [] hmix an ?_
 refine aw_condN (t := 4) (l := (Mp e_T_api_Thread s_1)) (by kernel_rfl) (by kernel_rfl) ?_ ?_
 ·intro h_2; replace h_2 := List.map_eq_nil_iff.1 h_2
  replace h := Eq.trans (show (some []) = ((need (((([] : List T_api_Thread)).length + (s_1).length) * 32 ≤ 140737488355328)).bind fun _ =>
 some ([] ++ s_1)) from by simp [h_2, need]) h
  refine sr [(0, { id := 1, m := 1 })] [2] [1] 2 [.own 1 0] [Rb 60 3 []] hmix an ?_
  refine wk [1] [] [.a 2 (.own 0 ((([] : List T_api_Thread)).length))] [.s 0] [(2, .own 0 ((([] : List T_api_Thread)).length))] [(0, Rb 60 3 [])] (ac (congrArg (AV.own _) (by first | (simp; done) | (simp; omega)) : (.own 1 0 : AV) = .own 1 ((([] : List T_api_Thread)).length)) an) ?_
  refine rt ?_
  cases h
  exact ⟨.inr rfl, Nat.le_of_ble_eq_true rfl, by kernel_rfl⟩
 refine sk ?_
 refine sq ?_
 obtain ⟨_, h_1, h⟩ := bind_some h; replace h_1 := need_some h_1
 refine rg [(0, { id := 1 }), (2, { id := 2, l := (Mp e_T_api_Thread ([] ++ s_1)), n := (([] ++ s_1)).length })] [2] [2] 3 [.own 2 ((([] ++ s_1)).length)] [Rb 60 3 (Mp e_T_api_Thread ([] ++ s_1))] hmix (ac (by first | (simp; done) | (simp; omega) : 0 = (([] : List AV)).length) (ac (trivial : True) (ac (by simp : (List.map e_T_api_Thread ([] ++ s_1)) = [] ++ (List.map e_T_api_Thread s_1)) (ac (by simp : (([] ++ s_1)).length = ((List.map e_T_api_Thread ([] ++ s_1))).length) (ac (by first | (simp; done) | simpa using h_1 : (([] : List AV).length + ((List.map e_T_api_Thread s_1) : List AV).length) * 32 ≤ 140737488355328) an))))) ?_
 refine wk [2] [] [.s 2] [.s 0] [(2, .own 0 ((([] ++ s_1)).length))] [(0, Rb 60 3 (Mp e_T_api_Thread ([] ++ s_1)))] an ?_
 refine rt ?_
 cases h
 exact ⟨.inr rfl, Nat.le_of_ble_eq_true rfl, by kernel_rfl⟩

theorem drain_New_ok (F : Nat) (l_1 : List (T_api_Thread)) (r : T_api_Service × Int) (h : drain_New F l_1 = some r) : TripleG prog 10 [] [] [.sl false 3 (Mp e_T_api_Thread l_1)] [] (.tuple [e_T_api_Service r.1, Ii r.2]) := by
 refine triple_intro (fn := Go.Proofs.Try.f10) (code := codeOf Go.Proofs.Try.f10) (by kernel_rfl) (by kernel_rfl) (Nat.le_of_ble_eq_true (by kernel_rfl)) ?_
 unfold drain_New at h
 refine sr [(0, { id := 0 })] [0, 2] [0] 1 [.sl false 3 (Mp e_T_api_Thread l_1), Pp 0] [Vb 27 [.nilsl, .nilsl, .nilsl]] hmix an ?_
 refine sq ?_
 refine sq ?_
 obtain ⟨r_1, h_1, h⟩ := bind_some h
 refine rg [(1, { av := Ii r_1, l := [.sl false 3 (Mp e_T_api_Thread l_1)] })] [0, 2, 4] [0] 1 [.sl false 3 (Mp e_T_api_Thread l_1), Pp 0, Ii r_1] [Vb 27 [.nilsl, .nilsl, .nilsl]] hmix (ar ([.sl false 3 (Mp e_T_api_Thread l_1)] : List AV) (ac (rfl : ([] : List BoxSt) = []) (ac (drain_threads_ok F l_1 r_1 h_1 : TripleG prog 31 [] [] [.sl false 3 (Mp e_T_api_Thread l_1)] [] (Ii r_1)) an))) ?_
 refine sr [] [0, 2, 4, 8] [0] 1 [.sl false 3 (Mp e_T_api_Thread l_1), Pp 0, Ii r_1, .bool (r_1 != (0 : Int))] [Vb 27 [.nilsl, .nilsl, .nilsl]] hmix an ?_
 refine cd 8 (r_1 != (0 : Int)) ?_ ?_
 ·intro g_1; replace h := cond_t g_1 h
  refine sr [] [2, 3] [0] 1 [Pp 0, Ii r_1] [Vb 27 [.nilsl, .nilsl, .nilsl]] hmix an ?_
  refine wk [0] [] [.s 2, .s 3] [.a 0 (Vb 27 (v_T_api_Service (⟨[], [], []⟩ : T_api_Service)))] [(2, Pp 0), (3, Ii r_1)] [(0, Vb 27 (v_T_api_Service (⟨[], [], []⟩ : T_api_Service)))] (ar 27 (ac (rfl : ones [.sl false 3 (Mp e_T_api_Thread ((⟨[], [], []⟩ : T_api_Service).Threads)), .sl false 1 (Mi ((⟨[], [], []⟩ : T_api_Service).Next)), .sl false 4 (Mp e_T_api_Packet ((⟨[], [], []⟩ : T_api_Service).Queue))] = true) (ac (rfl : ((Mp e_T_api_Thread ((⟨[], [], []⟩ : T_api_Service).Threads)) : List AV) = []) (ac (rfl : ((Mi ((⟨[], [], []⟩ : T_api_Service).Next)) : List AV) = []) (ac (rfl : ((Mp e_T_api_Packet ((⟨[], [], []⟩ : T_api_Service).Queue)) : List AV) = []) an))))) ?_
  refine rt ?_
  cases h
  exact ⟨.inr rfl, Nat.le_of_ble_eq_true rfl, by kernel_rfl⟩
 intro g_1; replace h := cond_f g_1 h
 refine sk ?_
 refine sq ?_
 obtain ⟨r_2, h_2, h⟩ := bind_some h
 obtain ⟨_, h_3, h⟩ := bind_some h; replace h_3 := need_some h_3
 refine rg [(1, { av := .own 0 ((r_2).length), ids := [1], l := [.sl false 3 (Mp e_T_api_Thread l_1)], post := [(.row 60 3 (Mp e_T_api_Thread r_2))] }), (3, { n := (l_1).length }), (4, { id := 2, l := (Mi (List.replicate ((l_1).length) (0 : Int))), m := (l_1).length, n := (l_1).length })] [2, 3] [0, 1, 2] 3 [Pp 0, Ii 0] [Vb 27 [.own 1 ((r_2).length), .own 2 ((l_1).length), .nilsl], Rb 60 3 (Mp e_T_api_Thread r_2), Rb 3 1 (Mi (List.replicate ((l_1).length) (0 : Int)))] hmix (ar ([.sl false 3 (Mp e_T_api_Thread l_1)] : List AV) (ac (rfl : ([] : List BoxSt) = []) (ac (slices_Clone_tracebook_api_Thread_tracebook_api_Thread_ok l_1 r_2 h_2 : TripleG prog 32 [] [] [.sl false 3 (Mp e_T_api_Thread l_1)] [(.row 60 3 (Mp e_T_api_Thread r_2))] (.own 0 ((r_2).length))) (ac (vc_len _ : ((Mp e_T_api_Thread l_1)).length = (l_1).length) (ar (lN (l_1)) (ar (lN (l_1)) (ac (Nat.le_refl _ : ((l_1).length) ≤ ((l_1).length)) (ac h_3 (ac (vc_rep : (Mi (List.replicate ((l_1).length) (0 : Int))) = List.replicate ((l_1).length) (Ii 0)) an))))))))) ?_
 refine wk [0] [1, 2] [.s 2, .s 3] [.a 0 (Vb 27 (v_T_api_Service (⟨r_2, (List.replicate ((l_1).length) (0 : Int)), []⟩ : T_api_Service)))] [(2, Pp 0), (3, Ii 0)] [(0, Vb 27 (v_T_api_Service (⟨r_2, (List.replicate ((l_1).length) (0 : Int)), []⟩ : T_api_Service)))] (ar 27 (ac (rfl : ones [.sl false 3 (Mp e_T_api_Thread ((⟨r_2, (List.replicate ((l_1).length) (0 : Int)), []⟩ : T_api_Service).Threads)), .sl false 1 (Mi ((⟨r_2, (List.replicate ((l_1).length) (0 : Int)), []⟩ : T_api_Service).Next)), .sl false 4 (Mp e_T_api_Packet ((⟨r_2, (List.replicate ((l_1).length) (0 : Int)), []⟩ : T_api_Service).Queue))] = true) (ac (by first | (simp; done) | (simp; omega) : (r_2).length = ((List.map e_T_api_Thread r_2)).length) (ac (by rw [List.length_map]; exact List.length_replicate.symm : (l_1).length = ((List.map (AV.int .i64) (List.replicate ((l_1).length) (0 : Int)))).length) (ar 3 (ac (rfl : ((Mp e_T_api_Thread r_2) : List AV) = (Mp e_T_api_Thread ((⟨r_2, (List.replicate ((l_1).length) (0 : Int)), []⟩ : T_api_Service).Threads))) (ac (rfl : (!false || false) = true) (ar 1 (ac (rfl : ((Mi (List.replicate ((l_1).length) (0 : Int))) : List AV) = (Mi ((⟨r_2, (List.replicate ((l_1).length) (0 : Int)), []⟩ : T_api_Service).Next))) (ac (rfl : (!false || false) = true) (ac (rfl : ((Mp e_T_api_Packet ((⟨r_2, (List.replicate ((l_1).length) (0 : Int)), []⟩ : T_api_Service).Queue)) : List AV) = []) an))))))))))) ?_
 refine rt ?_
 cases h
 exact ⟨.inr rfl, Nat.le_of_ble_eq_true rfl, by kernel_rfl⟩

theorem L12_mark_ok (at__1 : Int) (r : T_api_Event) (h : L12_mark at__1 = some r) : TripleG prog 52 [] [] [Ii at__1] [] (e_T_api_Event r) := by
 refine triple_intro (fn := Go.Proofs.Try.f52) (code := codeOf Go.Proofs.Try.f52) (by kernel_rfl) (by kernel_rfl) (Nat.le_of_ble_eq_true (by kernel_rfl)) ?_
 unfold L12_mark at h
 refine sr [(0, { id := 0 })] [0, 2] [0] 1 [Ii at__1, Pp 0] [Vb 54 [Ii 0, Ii 0, .str ([] : List Int), Ii 0, Ii 0, .nilsl]] hmix an ?_
 refine sr [] [2] [0] 1 [Pp 0] [Vb 54 [Ii at__1, Ii 3, .str ([97] : List Int), Ii 0, Ii 0, .nilsl]] hmix an ?_
 refine wk [0] [] [.s 2] [.a 0 (Vb 54 (v_T_api_Event (⟨at__1, (3 : Int), ([97] : List Int), (0 : Int), (0 : Int), []⟩ : T_api_Event)))] [(2, Pp 0)] [(0, Vb 54 (v_T_api_Event (⟨at__1, (3 : Int), ([97] : List Int), (0 : Int), (0 : Int), []⟩ : T_api_Event)))] (ar 54 (ac (rfl : ones [Ii ((⟨at__1, (3 : Int), ([97] : List Int), (0 : Int), (0 : Int), []⟩ : T_api_Event).At), Ii ((⟨at__1, (3 : Int), ([97] : List Int), (0 : Int), (0 : Int), []⟩ : T_api_Event).Kind), .str ((⟨at__1, (3 : Int), ([97] : List Int), (0 : Int), (0 : Int), []⟩ : T_api_Event).Name), Ii ((⟨at__1, (3 : Int), ([97] : List Int), (0 : Int), (0 : Int), []⟩ : T_api_Event).N), Ii ((⟨at__1, (3 : Int), ([97] : List Int), (0 : Int), (0 : Int), []⟩ : T_api_Event).M), .sl false 1 (Ms ((⟨at__1, (3 : Int), ([97] : List Int), (0 : Int), (0 : Int), []⟩ : T_api_Event).Stack))] = true) (ac (rfl : (Ii at__1 : AV) = Ii ((⟨at__1, (3 : Int), ([97] : List Int), (0 : Int), (0 : Int), []⟩ : T_api_Event).At)) (ac (rfl : (Ii 3 : AV) = Ii ((⟨at__1, (3 : Int), ([97] : List Int), (0 : Int), (0 : Int), []⟩ : T_api_Event).Kind)) (ac (rfl : (.str ([97] : List Int) : AV) = .str ((⟨at__1, (3 : Int), ([97] : List Int), (0 : Int), (0 : Int), []⟩ : T_api_Event).Name)) (ac (rfl : (Ii 0 : AV) = Ii ((⟨at__1, (3 : Int), ([97] : List Int), (0 : Int), (0 : Int), []⟩ : T_api_Event).N)) (ac (rfl : (Ii 0 : AV) = Ii ((⟨at__1, (3 : Int), ([97] : List Int), (0 : Int), (0 : Int), []⟩ : T_api_Event).M)) (ac (rfl : ((Ms ((⟨at__1, (3 : Int), ([97] : List Int), (0 : Int), (0 : Int), []⟩ : T_api_Event).Stack)) : List AV) = []) an)))))))) ?_
 refine rt ?_
 cases h
 exact ⟨.inr rfl, Nat.le_of_ble_eq_true rfl, by kernel_rfl⟩

theorem L12_some_ok (F : Nat) (thread_1 : Int) (serial_1 : Int) (lost_1 : Int) (n_1 : Int) (r : T_api_Packet) (h : L12_some F thread_1 serial_1 lost_1 n_1 = some r) : TripleG prog 30 [] [] [Ii thread_1, Ii serial_1, Ii lost_1, Ii n_1] [] (e_T_api_Packet r) := by
 refine triple_intro (fn := Go.Proofs.Try.f30) (code := codeOf Go.Proofs.Try.f30) (by kernel_rfl) (by kernel_rfl) (Nat.le_of_ble_eq_true (by kernel_rfl)) ?_
 unfold L12_some at h
 refine sr [(0, { id := 0 })] [0, 1, 2, 3, 8] [0] 1 [Ii thread_1, Ii serial_1, Ii lost_1, Ii n_1, Pp 0] [Vb 43 [Ii 0, Ii 0, Ii 0, .nilsl]] hmix an ?_
 refine aw_sub (sub_adoptB 0 3 1 54 6 (by kernel_rfl)) ?_
 refine wk [0, 1] [] [.s 0, .s 1, .s 2, .s 3, .s 8] [.s 0, .s 1] [(0, Ii thread_1), (1, Ii serial_1), (2, Ii lost_1), (3, Ii n_1), (8, Pp 0)] [(0, Vb 43 [Ii 0, Ii 0, Ii 0, .own 1 0]), (1, Rb 54 6 [])] an ?_
 refine sr [(4, { id := 2 })] [1, 3, 8, 9] [0, 1, 2] 3 [Ii serial_1, Ii n_1, Pp 0, Pp 2] [Vb 43 [Ii 0, Ii 0, Ii 0, .own 1 0], Rb 54 6 [], Vb 43 [Ii thread_1, Ii serial_1, Ii lost_1, .nilsl]] hmix an ?_
 refine aw_sub (sub_adoptB 2 3 3 54 6 (by kernel_rfl)) ?_
 refine wk [0, 1, 2, 3] [] [.s 1, .s 3, .s 8, .s 9] [.s 0, .s 1, .s 2, .s 3] [(1, Ii serial_1), (3, Ii n_1), (8, Pp 0), (9, Pp 2)] [(0, Vb 43 [Ii 0, Ii 0, Ii 0, .own 1 0]), (1, Rb 54 6 []), (2, Vb 43 [Ii thread_1, Ii serial_1, Ii lost_1, .own 3 0]), (3, Rb 54 6 [])] an ?_
 refine sq ?_
 refine sr [] [1, 3, 8, 9, 10] [0, 1, 2, 3] 4 [Ii serial_1, Ii n_1, Pp 0, Pp 2, Ii 0] [Vb 43 [Ii 0, Ii 0, Ii 0, .own 1 0], Rb 54 6 [], Vb 43 [Ii thread_1, Ii serial_1, Ii lost_1, .own 3 0], Rb 54 6 []] hmix an ?_
 obtain ⟨o_1, h_1, h⟩ := bind_some h
 refine aw_mid (mk [(8, Pp 0), (9, Pp 2)] [(0, Vb 43 [Ii 0, Ii 0, Ii 0, .own 1 0]), (1, Rb 54 6 []), (2, Vb 43 [Ii thread_1, Ii serial_1, Ii lost_1, .own 3 ((o_1).length)]), (3, Rb 54 6 (Mp e_T_api_Event o_1))] 4) ?_ ?_
 ·replace h := h_1
  refine aw_block (id := 0) (by kernel_rfl) ?_
  refine wk [0, 1, 2, 3] [] [.s 1, .s 3, .s 8, .s 9, .s 10] [.s 0, .s 1, .s 2, .s 3] [(1, Ii serial_1), (3, Ii n_1), (8, Pp 0), (9, Pp 2), (10, Ii 0)] [(0, Vb 43 [Ii 0, Ii 0, Ii 0, .own 1 0]), (1, Rb 54 6 []), (2, Vb 43 [Ii thread_1, Ii serial_1, Ii lost_1, .own 3 0]), (3, Rb 54 6 [])] an ?_
  refine aw_loopF (fun n st => ∃ (i_1 : Int), ∃ (row_1 : List T_api_Event), st = mk [(1, Ii serial_1), (3, Ii n_1), (8, Pp 0), (9, Pp 2), (10, Ii i_1)] [(0, Vb 43 [Ii 0, Ii 0, Ii 0, .own 1 0]), (1, Rb 54 6 []), (2, Vb 43 [Ii thread_1, Ii serial_1, Ii lost_1, .own 3 ((row_1).length)]), (3, Rb 54 6 (Mp e_T_api_Event row_1))] 4 ∧ L12_some_L1 F serial_1 n_1 n i_1 row_1 = some o_1) F (by kernel_rfl) ⟨_, _, rfl, h⟩ ?_ ?_
  ·rintro _ ⟨_, _, _, h⟩; exact none_ne (h : (none : Option (List T_api_Event)) = some o_1)
  rintro n_2 _ ⟨i_1, row_1, rfl, h⟩
  replace h : L12_some_L1_body F serial_1 n_1 (L12_some_L1 F serial_1 n_1 n_2) i_1 row_1 = some o_1 := h
  unfold L12_some_L1_body at h
  refine sq ?_
  refine sr [] [1, 3, 8, 9, 10, 17] [0, 1, 2, 3] 4 [Ii serial_1, Ii n_1, Pp 0, Pp 2, Ii i_1, .bool (decide (i_1 < n_1))] [Vb 43 [Ii 0, Ii 0, Ii 0, .own 1 0], Rb 54 6 [], Vb 43 [Ii thread_1, Ii serial_1, Ii lost_1, .own 3 ((row_1).length)], Rb 54 6 (Mp e_T_api_Event row_1)] hmix an ?_
  refine cd 17 (decide (i_1 < n_1)) ?_ ?_
  rotate_left
  ·intro g_1; replace h := cond_f g_1 h
   refine aw_exit (id := 0) (by kernel_rfl) ?_
   cases h
   exact ⟨rfl, (sw [0, 1, 2, 3] [] [.s 8, .s 9] [.s 0, .s 1, .s 2, .s 3] an)⟩
  intro g_1; replace h := cond_t g_1 h
  refine sk ?_
  refine sq ?_
  refine aw_block (id := 1) (by kernel_rfl) ?_
  obtain ⟨r_1, h_2, h⟩ := bind_some h
  obtain ⟨_, h_3, h⟩ := bind_some h; replace h_3 := need_some h_3
  refine rg [(6, { av := e_T_api_Event r_1, l := [Ii (w_i64 ((w_i64 ((10 : Int) + serial_1)) + i_1))] }), (7, { id := 4 }), (8, { id := 5, l := (Mp e_T_api_Event (row_1 ++ ([r_1] : List T_api_Event))), n := ((row_1 ++ ([r_1] : List T_api_Event))).length })] [1, 3, 8, 9, 10] [0, 1, 2, 5] 6 [Ii serial_1, Ii n_1, Pp 0, Pp 2, Ii i_1] [Vb 43 [Ii 0, Ii 0, Ii 0, .own 1 0], Rb 54 6 [], Vb 43 [Ii thread_1, Ii serial_1, Ii lost_1, .own 5 (((row_1 ++ ([r_1] : List T_api_Event))).length)], Rb 54 6 (Mp e_T_api_Event (row_1 ++ ([r_1] : List T_api_Event)))] hmix (ar ([Ii (w_i64 ((w_i64 ((10 : Int) + serial_1)) + i_1))] : List AV) (ac (rfl : ([] : List BoxSt) = []) (ac (L12_mark_ok (w_i64 ((w_i64 ((10 : Int) + serial_1)) + i_1)) r_1 h_2 : TripleG prog 52 [] [] [Ii (w_i64 ((w_i64 ((10 : Int) + serial_1)) + i_1))] [] (e_T_api_Event r_1)) (ac (by first | (simp; done) | (simp; omega) : (row_1).length = ((List.map e_T_api_Event row_1)).length) (ac (by first | (simp; done) | (simp; omega) : 1 = ((List.map e_T_api_Event ([r_1] : List T_api_Event))).length) (ac (vc_app _ _ : (Mp e_T_api_Event (row_1 ++ ([r_1] : List T_api_Event))) = (Mp e_T_api_Event row_1) ++ (Mp e_T_api_Event ([r_1] : List T_api_Event))) (ac (by simp : ((row_1 ++ ([r_1] : List T_api_Event))).length = ((List.map e_T_api_Event (row_1 ++ ([r_1] : List T_api_Event)))).length) (ac (by first | (simp; done) | simpa using h_3 : (((List.map e_T_api_Event row_1) : List AV).length + ((List.map e_T_api_Event ([r_1] : List T_api_Event)) : List AV).length) * 72 ≤ 140737488355328) an)))))))) ?_
  refine rg [] [1, 3, 8, 9, 10] [0, 1, 2, 5] 6 [Ii serial_1, Ii n_1, Pp 0, Pp 2, Ii (w_i64 (i_1 + (1 : Int)))] [Vb 43 [Ii 0, Ii 0, Ii 0, .own 1 0], Rb 54 6 [], Vb 43 [Ii thread_1, Ii serial_1, Ii lost_1, .own 5 (((row_1 ++ ([r_1] : List T_api_Event))).length)], Rb 54 6 (Mp e_T_api_Event (row_1 ++ ([r_1] : List T_api_Event)))] hmix an ?_
  exact ⟨_, (sw [0, 1, 2, 5] [] [.s 1, .s 3, .s 8, .s 9, .s 10] [.s 0, .s 1, .s 2, .s 3] an), _, _, rfl, h⟩
 refine sr [] [8] [0, 3] 4 [Pp 0] [Vb 43 [Ii thread_1, Ii serial_1, Ii lost_1, .own 3 ((o_1).length)], Rb 54 6 (Mp e_T_api_Event o_1)] hmix an ?_
 refine wk [0] [3] [.s 8] [.a 0 (Vb 43 (v_T_api_Packet (⟨thread_1, serial_1, lost_1, o_1⟩ : T_api_Packet)))] [(8, Pp 0)] [(0, Vb 43 (v_T_api_Packet (⟨thread_1, serial_1, lost_1, o_1⟩ : T_api_Packet)))] (ar 43 (ac (rfl : ones [Ii ((⟨thread_1, serial_1, lost_1, o_1⟩ : T_api_Packet).Thread), Ii ((⟨thread_1, serial_1, lost_1, o_1⟩ : T_api_Packet).Serial), Ii ((⟨thread_1, serial_1, lost_1, o_1⟩ : T_api_Packet).Lost), .sl false 6 (Mp e_T_api_Event ((⟨thread_1, serial_1, lost_1, o_1⟩ : T_api_Packet).Events))] = true) (ac (by first | (simp; done) | (simp; omega) : (o_1).length = ((List.map e_T_api_Event o_1)).length) (ac (rfl : (Ii thread_1 : AV) = Ii ((⟨thread_1, serial_1, lost_1, o_1⟩ : T_api_Packet).Thread)) (ac (rfl : (Ii serial_1 : AV) = Ii ((⟨thread_1, serial_1, lost_1, o_1⟩ : T_api_Packet).Serial)) (ac (rfl : (Ii lost_1 : AV) = Ii ((⟨thread_1, serial_1, lost_1, o_1⟩ : T_api_Packet).Lost)) (ar 6 (ac (rfl : ((Mp e_T_api_Event o_1) : List AV) = (Mp e_T_api_Event ((⟨thread_1, serial_1, lost_1, o_1⟩ : T_api_Packet).Events))) (ac (rfl : (!false || false) = true) an))))))))) ?_
 refine rt ?_
 cases h
 exact ⟨.inr rfl, Nat.le_of_ble_eq_true rfl, by kernel_rfl⟩

theorem drain_Check_1_ok (n_1 : Int) (r : Bool) (h : drain_Check_1 n_1 = some r) : TripleG prog 35 [] [] [Ii n_1] [] (.bool r) := by
 refine triple_intro (fn := Go.Proofs.Try.f35) (code := codeOf Go.Proofs.Try.f35) (by kernel_rfl) (by kernel_rfl) (Nat.le_of_ble_eq_true (by kernel_rfl)) ?_
 unfold drain_Check_1 at h
 refine sr [] [0] [] 0 [Ii n_1] [] hmix an ?_
 refine sq ?_
 refine aw_mid (mk [(2, .bool (decide (n_1 < (0 : Int)) || decide (n_1 > (1000000000000000 : Int))))] [] 0) ?_ ?_
 ·rcases bft (decide (n_1 < (0 : Int))) with gg_1 | gg_1
  ·refine rg [(3, Hg), (4, Hg), (5, Ht)] [2] [] 0 [.bool true] [] hmix (ac gg_1 (ac gg_1 (ac gg_1 an))) ?_
   exact ⟨rfl, (sw [] [] [.a 2 (.bool (decide (n_1 < (0 : Int)) || decide (n_1 > (1000000000000000 : Int))))] [] (ac (congrArg AV.bool (ort gg_1) : (.bool true : AV) = .bool (decide (n_1 < (0 : Int)) || decide (n_1 > (1000000000000000 : Int)))) an))⟩
  ·refine rg [(5, Hf)] [2] [] 0 [.bool (decide (n_1 > (1000000000000000 : Int)))] [] hmix (ac gg_1 (ac gg_1 (ac gg_1 an))) ?_
   exact ⟨rfl, (sw [] [] [.a 2 (.bool (decide (n_1 < (0 : Int)) || decide (n_1 > (1000000000000000 : Int))))] [] (ac (congrArg AV.bool (orf gg_1 rfl) : (.bool (decide (n_1 > (1000000000000000 : Int))) : AV) = .bool (decide (n_1 < (0 : Int)) || decide (n_1 > (1000000000000000 : Int)))) an))⟩
 refine rt ?_
 cases h
 exact ⟨.inr rfl, Nat.le_of_ble_eq_true rfl, by kernel_rfl⟩

theorem slices_IndexFunc_int_int_ok (F : Nat) (s_1 : List (Int)) (r : Int) (h : slices_IndexFunc_int_int F s_1 = some r) : TripleG prog 55 [] [] [.sl false 1 (Mi s_1), .fn 35 []] [] (Ii r) := by
 refine triple_intro (fn := Go.Proofs.Try.f55) (code := codeOf Go.Proofs.Try.f55) (by kernel_rfl) (by kernel_rfl) (Nat.le_of_ble_eq_true (by kernel_rfl)) ?_
 unfold slices_IndexFunc_int_int at h
 refine sr [] [0, 1] [] 0 [.sl false 1 (Mi s_1), .fn 35 []] [] hmix an ?_
 refine sq ?_
 refine sr [(1, { n := (s_1).length })] [0, 1, 7, 8] [] 0 [.sl false 1 (Mi s_1), .fn 35 [], Ii (lN (s_1)), Ii 0] [] hmix (ac (vc_len _ : ((Mi s_1)).length = (s_1).length) an) ?_
 obtain ⟨o_1, h_1, h⟩ := bind_some h
 refine aw_conv (K1 := (fun e st' => match o_1 with | (.inl q0) => e = .normal ∧ Sub 0 st' (mk [] [] 0) | (.inr q1) => e = .ret ∧ FinR prog Go.Proofs.Try.f55 0 [] (Ii q1) st')) ?_ ?_
 ·replace h := h_1
  refine aw_block (id := 0) (by kernel_rfl) ?_
  refine wk [] [] [.s 0, .s 1, .s 7, .s 8] [] [(0, .sl false 1 (Mi s_1)), (1, .fn 35 []), (7, Ii (lN (s_1))), (8, Ii 0)] [] an ?_
  refine aw_loopF (fun n st => ∃ (v_1 : Int), st = mk [(0, .sl false 1 (Mi s_1)), (1, .fn 35 []), (7, Ii (lN (s_1))), (8, Ii v_1)] [] 0 ∧ slices_IndexFunc_int_int_L1 F s_1 n v_1 = some o_1) F (by kernel_rfl) ⟨_, rfl, h⟩ ?_ ?_
  ·rintro _ ⟨_, _, h⟩; exact none_ne (h : (none : Option (Unit ⊕ Int)) = some o_1)
  rintro n_1 _ ⟨v_1, rfl, h⟩
  replace h : slices_IndexFunc_int_int_L1_body F s_1 (slices_IndexFunc_int_int_L1 F s_1 n_1) v_1 = some o_1 := h
  unfold slices_IndexFunc_int_int_L1_body at h
  refine sr [] [0, 1, 7, 8, 9] [] 0 [.sl false 1 (Mi s_1), .fn 35 [], Ii (lN (s_1)), Ii v_1, .bool (decide (v_1 < (lN (s_1))))] [] hmix an ?_
  refine sq ?_
  refine cd 9 (decide (v_1 < (lN (s_1)))) ?_ ?_
  rotate_left
  ·intro g_1; replace h := cond_f g_1 h
   refine aw_exit (id := 0) (by kernel_rfl) ?_
   cases h
   exact ⟨rfl, (sw [] [] [] [] an)⟩
  intro g_1; replace h := cond_t g_1 h
  refine sk ?_
  refine sq ?_
  refine aw_block (id := 1) (by kernel_rfl) ?_
  refine sr [] [0, 1, 5, 7, 8] [] 0 [.sl false 1 (Mi s_1), .fn 35 [], Ii v_1, Ii (lN (s_1)), Ii v_1] [] hmix an ?_
  refine sq ?_
  obtain ⟨x_1, h_2, h⟩ := bind_some h
  obtain ⟨r_1, h_3, h⟩ := bind_some h
  refine rg [(3, { av := Ii x_1 }), (5, { av := .bool r_1, l := [Ii x_1] })] [0, 1, 5, 7, 8, 16] [] 0 [.sl false 1 (Mi s_1), .fn 35 [], Ii v_1, Ii (lN (s_1)), Ii v_1, .bool r_1] [] hmix (ac (vc_idx h_2 : idxA (Mi s_1) v_1 = some (Ii x_1)) (ar ([Ii x_1] : List AV) (ac (rfl : ([] : List BoxSt) = []) (ac (drain_Check_1_ok x_1 r_1 h_3 : TripleG prog 35 [] [] [Ii x_1] [] (.bool r_1)) an)))) ?_
  refine cd 16 r_1 ?_ ?_
  rotate_left
  ·intro g_2; replace h := cond_f g_2 h
   refine sk ?_
   refine rg [] [0, 1, 7, 8] [] 0 [.sl false 1 (Mi s_1), .fn 35 [], Ii (lN (s_1)), Ii (w_i64 (v_1 + (1 : Int)))] [] hmix an ?_
   exact ⟨_, (sw [] [] [.s 0, .s 1, .s 7, .s 8] [] an), _, rfl, h⟩
  intro g_2; replace h := cond_t g_2 h
  refine sr [] [4] [] 0 [Ii v_1] [] hmix an ?_
  refine rt ?_
  cases h
  exact ⟨rfl, Nat.le_of_ble_eq_true rfl, by kernel_rfl⟩
 intro e st1 hk
 rcases o_1 with q_1 | q_2
 rotate_left
 ·obtain ⟨rfl, hf⟩ := hk
  cases h
  exact ⟨st1, Sub.refl _ _, .inr rfl, hf⟩
 obtain ⟨rfl, hs⟩ := hk
 refine ⟨_, hs, ?_⟩
 refine sr [] [4] [] 0 [Ii (-1)] [] hmix an ?_
 refine rt ?_
 cases h
 exact ⟨.inr rfl, Nat.le_of_ble_eq_true rfl, by kernel_rfl⟩

theorem slices_ContainsFunc_int_int_ok (F : Nat) (s_1 : List (Int)) (r : Bool) (h : slices_ContainsFunc_int_int F s_1 = some r) : TripleG prog 34 [] [] [.sl false 1 (Mi s_1), .fn 35 []] [] (.bool r) := by
 refine triple_intro (fn := Go.Proofs.Try.f34) (code := codeOf Go.Proofs.Try.f34) (by kernel_rfl) (by kernel_rfl) (Nat.le_of_ble_eq_true (by kernel_rfl)) ?_
 unfold slices_ContainsFunc_int_int at h
 refine sr [] [0, 1] [] 0 [.sl false 1 (Mi s_1), .fn 35 []] [] hmix an ?_
 refine sq ?_
 obtain ⟨r_1, h_1, h⟩ := bind_some h
 refine rg [(2, { av := Ii r_1, l := [.sl false 1 (Mi s_1), .fn 35 []] })] [4] [] 0 [.bool (decide (r_1 ≥ (0 : Int)))] [] hmix (ar ([.sl false 1 (Mi s_1), .fn 35 []] : List AV) (ac (rfl : ([] : List BoxSt) = []) (ac (slices_IndexFunc_int_int_ok F s_1 r_1 h_1 : TripleG prog 55 [] [] [.sl false 1 (Mi s_1), .fn 35 []] [] (Ii r_1)) an))) ?_
 refine rt ?_
 cases h
 exact ⟨.inr rfl, Nat.le_of_ble_eq_true rfl, by kernel_rfl⟩

theorem drain_find_1_ok (t_1 : T_api_Thread) (a_1 : Int) (r : Bool) (h : drain_find_1 t_1 a_1 = some r) : TripleG prog 57 [(.var 3 [Ii a_1])] [] [e_T_api_Thread t_1, Pp 0] [(.var 3 [Ii a_1])] (.bool r) := by
 refine triple_intro (fn := Go.Proofs.Try.f57) (code := codeOf Go.Proofs.Try.f57) (by kernel_rfl) (by kernel_rfl) (Nat.le_of_ble_eq_true (by kernel_rfl)) ?_
 unfold drain_find_1 at h
 refine sr [(0, { id := 1 })] [1, 2] [0, 1] 2 [Pp 0, Pp 1] [Vb 3 [Ii a_1], Vb 60 (v_T_api_Thread t_1)] hmix an ?_
 refine sr [] [3] [0] 2 [.bool (t_1.Id == a_1)] [Vb 3 [Ii a_1]] hmix an ?_
 refine wk [0] [] [.s 3] [.s 0] [(3, .bool (t_1.Id == a_1))] [(0, Vb 3 [Ii a_1])] an ?_
 refine rt ?_
 cases h
 exact ⟨.inr rfl, Nat.le_of_ble_eq_true rfl, by kernel_rfl⟩

theorem slices_IndexFunc_tracebook_api_Thread_tracebook_api_Thread_ok (F : Nat) (s_1 : List (T_api_Thread)) (c_1 : Int) (r : Int) (h : slices_IndexFunc_tracebook_api_Thread_tracebook_api_Thread F s_1 c_1 = some r) : TripleG prog 56 [(.var 3 [Ii c_1])] [] [.sl false 3 (Mp e_T_api_Thread s_1), .fn 57 [Pp 0]] [(.var 3 [Ii c_1])] (Ii r) := by
 refine triple_intro (fn := Go.Proofs.Try.f56) (code := codeOf Go.Proofs.Try.f56) (by kernel_rfl) (by kernel_rfl) (Nat.le_of_ble_eq_true (by kernel_rfl)) ?_
 unfold slices_IndexFunc_tracebook_api_Thread_tracebook_api_Thread at h
 refine sr [] [0, 1] [0] 1 [.sl false 3 (Mp e_T_api_Thread s_1), .fn 57 [Pp 0]] [Vb 3 [Ii c_1]] hmix an ?_
 refine sq ?_
 refine sr [(1, { n := (s_1).length })] [0, 1, 7, 8] [0] 1 [.sl false 3 (Mp e_T_api_Thread s_1), .fn 57 [Pp 0], Ii (lN (s_1)), Ii 0] [Vb 3 [Ii c_1]] hmix (ac (vc_len _ : ((Mp e_T_api_Thread s_1)).length = (s_1).length) an) ?_
 obtain ⟨o_1, h_1, h⟩ := bind_some h
 refine aw_conv (K1 := (fun e st' => match o_1 with | (.inl q0) => e = .normal ∧ Sub 1 st' (mk [] [(0, Vb 3 [Ii c_1])] 1) | (.inr q1) => e = .ret ∧ FinR prog Go.Proofs.Try.f56 1 [(.var 3 [Ii c_1])] (Ii q1) st')) ?_ ?_
 ·replace h := h_1
  refine aw_block (id := 0) (by kernel_rfl) ?_
  refine wk [0] [] [.s 0, .s 1, .s 7, .s 8] [.s 0] [(0, .sl false 3 (Mp e_T_api_Thread s_1)), (1, .fn 57 [Pp 0]), (7, Ii (lN (s_1))), (8, Ii 0)] [(0, Vb 3 [Ii c_1])] an ?_
  refine aw_loopF (fun n st => ∃ (v_1 : Int), st = mk [(0, .sl false 3 (Mp e_T_api_Thread s_1)), (1, .fn 57 [Pp 0]), (7, Ii (lN (s_1))), (8, Ii v_1)] [(0, Vb 3 [Ii c_1])] 1 ∧ slices_IndexFunc_tracebook_api_Thread_tracebook_api_Thread_L1 F s_1 c_1 n v_1 = some o_1) F (by kernel_rfl) ⟨_, rfl, h⟩ ?_ ?_
  ·rintro _ ⟨_, _, h⟩; exact none_ne (h : (none : Option (Unit ⊕ Int)) = some o_1)
  rintro n_1 _ ⟨v_1, rfl, h⟩
  replace h : slices_IndexFunc_tracebook_api_Thread_tracebook_api_Thread_L1_body F s_1 c_1 (slices_IndexFunc_tracebook_api_Thread_tracebook_api_Thread_L1 F s_1 c_1 n_1) v_1 = some o_1 := h
  unfold slices_IndexFunc_tracebook_api_Thread_tracebook_api_Thread_L1_body at h
  refine sr [] [0, 1, 7, 8, 9] [0] 1 [.sl false 3 (Mp e_T_api_Thread s_1), .fn 57 [Pp 0], Ii (lN (s_1)), Ii v_1, .bool (decide (v_1 < (lN (s_1))))] [Vb 3 [Ii c_1]] hmix an ?_
  refine sq ?_
  refine cd 9 (decide (v_1 < (lN (s_1)))) ?_ ?_
  rotate_left
  ·intro g_1; replace h := cond_f g_1 h
   refine aw_exit (id := 0) (by kernel_rfl) ?_
   cases h
   exact ⟨rfl, (sw [0] [] [] [.s 0] an)⟩
  intro g_1; replace h := cond_t g_1 h
  refine sk ?_
  refine sq ?_
  refine aw_block (id := 1) (by kernel_rfl) ?_
  refine sr [] [0, 1, 5, 7, 8] [0] 1 [.sl false 3 (Mp e_T_api_Thread s_1), .fn 57 [Pp 0], Ii v_1, Ii (lN (s_1)), Ii v_1] [Vb 3 [Ii c_1]] hmix an ?_
  refine sq ?_
  obtain ⟨x_1, h_2, h⟩ := bind_some h
  obtain ⟨r_1, h_3, h⟩ := bind_some h
  refine rg [(3, { av := e_T_api_Thread x_1 }), (5, { av := .bool r_1, ids := [0], l := [e_T_api_Thread x_1, Pp 0], post := [(.var 3 [Ii c_1])], pre := [(.var 3 [Ii c_1])] })] [0, 1, 5, 7, 8, 16] [0] 1 [.sl false 3 (Mp e_T_api_Thread s_1), .fn 57 [Pp 0], Ii v_1, Ii (lN (s_1)), Ii v_1, .bool r_1] [Vb 3 [Ii c_1]] hmix (ac (vc_idx h_2 : idxA (Mp e_T_api_Thread s_1) v_1 = some (e_T_api_Thread x_1)) (ar ([e_T_api_Thread x_1, Pp 0] : List AV) (ac (rfl : ([Vb 3 [Ii c_1]] : List BoxSt) = [Vb 3 [Ii c_1]]) (ac (drain_find_1_ok x_1 c_1 r_1 h_3 : TripleG prog 57 [(.var 3 [Ii c_1])] [] [e_T_api_Thread x_1, Pp 0] [(.var 3 [Ii c_1])] (.bool r_1)) an)))) ?_
  refine cd 16 r_1 ?_ ?_
  rotate_left
  ·intro g_2; replace h := cond_f g_2 h
   refine sk ?_
   refine rg [] [0, 1, 7, 8] [0] 1 [.sl false 3 (Mp e_T_api_Thread s_1), .fn 57 [Pp 0], Ii (lN (s_1)), Ii (w_i64 (v_1 + (1 : Int)))] [Vb 3 [Ii c_1]] hmix an ?_
   exact ⟨_, (sw [0] [] [.s 0, .s 1, .s 7, .s 8] [.s 0] an), _, rfl, h⟩
  intro g_2; replace h := cond_t g_2 h
  refine sr [] [4] [0] 1 [Ii v_1] [Vb 3 [Ii c_1]] hmix an ?_
  refine wk [0] [] [.s 4] [.s 0] [(4, Ii v_1)] [(0, Vb 3 [Ii c_1])] an ?_
  refine rt ?_
  cases h
  exact ⟨rfl, Nat.le_of_ble_eq_true rfl, by kernel_rfl⟩
 intro e st1 hk
 rcases o_1 with q_1 | q_2
 rotate_left
 ·obtain ⟨rfl, hf⟩ := hk
  cases h
  exact ⟨st1, Sub.refl _ _, .inr rfl, hf⟩
 obtain ⟨rfl, hs⟩ := hk
 refine ⟨_, hs, ?_⟩
 refine sr [] [4] [0] 1 [Ii (-1)] [Vb 3 [Ii c_1]] hmix an ?_
 refine wk [0] [] [.s 4] [.s 0] [(4, Ii (-1))] [(0, Vb 3 [Ii c_1])] an ?_
 refine rt ?_
 cases h
 exact ⟨.inr rfl, Nat.le_of_ble_eq_true rfl, by kernel_rfl⟩

theorem drain_find_ok (F : Nat) (s_1 : T_api_Service) (thread_1 : Int) (r : Int) (h : drain_find F s_1 thread_1 = some r) : TripleG prog 36 [] [] [e_T_api_Service s_1, Ii thread_1] [] (Ii r) := by
 refine triple_intro (fn := Go.Proofs.Try.f36) (code := codeOf Go.Proofs.Try.f36) (by kernel_rfl) (by kernel_rfl) (Nat.le_of_ble_eq_true (by kernel_rfl)) ?_
 unfold drain_find at h
 refine sr [(0, { id := 0 }), (1, { id := 1 })] [2, 3] [0, 1] 2 [Pp 0, Pp 1] [Vb 27 (v_T_api_Service s_1), Vb 3 [Ii thread_1]] hmix an ?_
 refine sq ?_
 obtain ⟨r_1, h_1, h⟩ := bind_some h
 refine rg [(3, { av := Ii r_1, ids := [1], l := [.sl false 3 (Mp e_T_api_Thread s_1.Threads), .fn 57 [Pp 0]], post := [(.var 3 [Ii thread_1])], pre := [(.var 3 [Ii thread_1])] })] [4] [] 2 [Ii r_1] [] hmix (ar ([.sl false 3 (Mp e_T_api_Thread s_1.Threads), .fn 57 [Pp 1]] : List AV) (ac (rfl : ([Vb 3 [Ii thread_1]] : List BoxSt) = [Vb 3 [Ii thread_1]]) (ac (slices_IndexFunc_tracebook_api_Thread_tracebook_api_Thread_ok F s_1.Threads thread_1 r_1 h_1 : TripleG prog 56 [(.var 3 [Ii thread_1])] [] [.sl false 3 (Mp e_T_api_Thread s_1.Threads), .fn 57 [Pp 0]] [(.var 3 [Ii thread_1])] (Ii r_1)) an))) ?_
 refine rt ?_
 cases h
 exact ⟨.inr rfl, Nat.le_of_ble_eq_true rfl, by kernel_rfl⟩

theorem event_forms_ok (r : (List (T_event_form))) (h : event_forms = some r) : TripleG prog 78 [] [] [] [.row 92 9 (Mp e_T_event_form r)] (.own 0 ((r).length)) := by
 refine triple_intro (fn := Go.Proofs.Try.f78) (code := codeOf Go.Proofs.Try.f78) (by kernel_rfl) (by kernel_rfl) (Nat.le_of_ble_eq_true (by kernel_rfl)) ?_
 unfold event_forms at h
 refine sr [(0, { id := 0, m := 1 })] [] [] 1 [] [] hmix an ?_
 refine sr [(13, { id := 1 })] [0] [1] 2 [.own 1 13] [Rb 92 9 (Mp e_T_event_form ([(⟨([] : List Int), false, false, false, false, (0 : Int), (0 : Int), (0 : Int), (0 : Int)⟩ : T_event_form), (⟨([98, 101, 103, 105, 110] : List Int), true, false, false, false, (0 : Int), (0 : Int), (0 : Int), (0 : Int)⟩ : T_event_form), (⟨([101, 110, 100] : List Int), false, false, false, false, (0 : Int), (0 : Int), (0 : Int), (0 : Int)⟩ : T_event_form), (⟨([109, 97, 114, 107] : List Int), true, false, false, false, (0 : Int), (0 : Int), (0 : Int), (0 : Int)⟩ : T_event_form), (⟨([99, 111, 117, 110, 116] : List Int), true, true, false, false, (-1000000000000000 : Int), (1000000000000000 : Int), (0 : Int), (0 : Int)⟩ : T_event_form), (⟨([115, 97, 109, 112, 108, 101] : List Int), false, true, false, true, (1 : Int), (1000000000000 : Int), (0 : Int), (0 : Int)⟩ : T_event_form), (⟨([115, 101, 110, 100] : List Int), false, true, false, false, (0 : Int), (1000000000000000 : Int), (0 : Int), (0 : Int)⟩ : T_event_form), (⟨([114, 101, 99, 118] : List Int), false, true, false, false, (0 : Int), (1000000000000000 : Int), (0 : Int), (0 : Int)⟩ : T_event_form), (⟨([114, 117, 110] : List Int), false, true, false, false, (0 : Int), (63 : Int), (0 : Int), (0 : Int)⟩ : T_event_form), (⟨([115, 116, 111, 112] : List Int), false, true, true, false, (0 : Int), (3 : Int), (0 : Int), (1000000000000000 : Int)⟩ : T_event_form), (⟨([119, 97, 107, 101] : List Int), false, true, false, false, (0 : Int), (1000000000000000 : Int), (0 : Int), (0 : Int)⟩ : T_event_form), (⟨([97, 108, 108, 111, 99] : List Int), false, true, true, true, (0 : Int), (1000000000000000 : Int), (1 : Int), (1000000000000 : Int)⟩ : T_event_form), (⟨([102, 114, 101, 101] : List Int), false, true, false, false, (0 : Int), (1000000000000000 : Int), (0 : Int), (0 : Int)⟩ : T_event_form)] : List T_event_form))] hmix an ?_
 refine wk [1] [] [.a 0 (.own 0 ((([(⟨([] : List Int), false, false, false, false, (0 : Int), (0 : Int), (0 : Int), (0 : Int)⟩ : T_event_form), (⟨([98, 101, 103, 105, 110] : List Int), true, false, false, false, (0 : Int), (0 : Int), (0 : Int), (0 : Int)⟩ : T_event_form), (⟨([101, 110, 100] : List Int), false, false, false, false, (0 : Int), (0 : Int), (0 : Int), (0 : Int)⟩ : T_event_form), (⟨([109, 97, 114, 107] : List Int), true, false, false, false, (0 : Int), (0 : Int), (0 : Int), (0 : Int)⟩ : T_event_form), (⟨([99, 111, 117, 110, 116] : List Int), true, true, false, false, (-1000000000000000 : Int), (1000000000000000 : Int), (0 : Int), (0 : Int)⟩ : T_event_form), (⟨([115, 97, 109, 112, 108, 101] : List Int), false, true, false, true, (1 : Int), (1000000000000 : Int), (0 : Int), (0 : Int)⟩ : T_event_form), (⟨([115, 101, 110, 100] : List Int), false, true, false, false, (0 : Int), (1000000000000000 : Int), (0 : Int), (0 : Int)⟩ : T_event_form), (⟨([114, 101, 99, 118] : List Int), false, true, false, false, (0 : Int), (1000000000000000 : Int), (0 : Int), (0 : Int)⟩ : T_event_form), (⟨([114, 117, 110] : List Int), false, true, false, false, (0 : Int), (63 : Int), (0 : Int), (0 : Int)⟩ : T_event_form), (⟨([115, 116, 111, 112] : List Int), false, true, true, false, (0 : Int), (3 : Int), (0 : Int), (1000000000000000 : Int)⟩ : T_event_form), (⟨([119, 97, 107, 101] : List Int), false, true, false, false, (0 : Int), (1000000000000000 : Int), (0 : Int), (0 : Int)⟩ : T_event_form), (⟨([97, 108, 108, 111, 99] : List Int), false, true, true, true, (0 : Int), (1000000000000000 : Int), (1 : Int), (1000000000000 : Int)⟩ : T_event_form), (⟨([102, 114, 101, 101] : List Int), false, true, false, false, (0 : Int), (1000000000000000 : Int), (0 : Int), (0 : Int)⟩ : T_event_form)] : List T_event_form)).length))] [.s 0] [(0, .own 0 ((([(⟨([] : List Int), false, false, false, false, (0 : Int), (0 : Int), (0 : Int), (0 : Int)⟩ : T_event_form), (⟨([98, 101, 103, 105, 110] : List Int), true, false, false, false, (0 : Int), (0 : Int), (0 : Int), (0 : Int)⟩ : T_event_form), (⟨([101, 110, 100] : List Int), false, false, false, false, (0 : Int), (0 : Int), (0 : Int), (0 : Int)⟩ : T_event_form), (⟨([109, 97, 114, 107] : List Int), true, false, false, false, (0 : Int), (0 : Int), (0 : Int), (0 : Int)⟩ : T_event_form), (⟨([99, 111, 117, 110, 116] : List Int), true, true, false, false, (-1000000000000000 : Int), (1000000000000000 : Int), (0 : Int), (0 : Int)⟩ : T_event_form), (⟨([115, 97, 109, 112, 108, 101] : List Int), false, true, false, true, (1 : Int), (1000000000000 : Int), (0 : Int), (0 : Int)⟩ : T_event_form), (⟨([115, 101, 110, 100] : List Int), false, true, false, false, (0 : Int), (1000000000000000 : Int), (0 : Int), (0 : Int)⟩ : T_event_form), (⟨([114, 101, 99, 118] : List Int), false, true, false, false, (0 : Int), (1000000000000000 : Int), (0 : Int), (0 : Int)⟩ : T_event_form), (⟨([114, 117, 110] : List Int), false, true, false, false, (0 : Int), (63 : Int), (0 : Int), (0 : Int)⟩ : T_event_form), (⟨([115, 116, 111, 112] : List Int), false, true, true, false, (0 : Int), (3 : Int), (0 : Int), (1000000000000000 : Int)⟩ : T_event_form), (⟨([119, 97, 107, 101] : List Int), false, true, false, false, (0 : Int), (1000000000000000 : Int), (0 : Int), (0 : Int)⟩ : T_event_form), (⟨([97, 108, 108, 111, 99] : List Int), false, true, true, true, (0 : Int), (1000000000000000 : Int), (1 : Int), (1000000000000 : Int)⟩ : T_event_form), (⟨([102, 114, 101, 101] : List Int), false, true, false, false, (0 : Int), (1000000000000000 : Int), (0 : Int), (0 : Int)⟩ : T_event_form)] : List T_event_form)).length))] [(0, Rb 92 9 (Mp e_T_event_form ([(⟨([] : List Int), false, false, false, false, (0 : Int), (0 : Int), (0 : Int), (0 : Int)⟩ : T_event_form), (⟨([98, 101, 103, 105, 110] : List Int), true, false, false, false, (0 : Int), (0 : Int), (0 : Int), (0 : Int)⟩ : T_event_form), (⟨([101, 110, 100] : List Int), false, false, false, false, (0 : Int), (0 : Int), (0 : Int), (0 : Int)⟩ : T_event_form), (⟨([109, 97, 114, 107] : List Int), true, false, false, false, (0 : Int), (0 : Int), (0 : Int), (0 : Int)⟩ : T_event_form), (⟨([99, 111, 117, 110, 116] : List Int), true, true, false, false, (-1000000000000000 : Int), (1000000000000000 : Int), (0 : Int), (0 : Int)⟩ : T_event_form), (⟨([115, 97, 109, 112, 108, 101] : List Int), false, true, false, true, (1 : Int), (1000000000000 : Int), (0 : Int), (0 : Int)⟩ : T_event_form), (⟨([115, 101, 110, 100] : List Int), false, true, false, false, (0 : Int), (1000000000000000 : Int), (0 : Int), (0 : Int)⟩ : T_event_form), (⟨([114, 101, 99, 118] : List Int), false, true, false, false, (0 : Int), (1000000000000000 : Int), (0 : Int), (0 : Int)⟩ : T_event_form), (⟨([114, 117, 110] : List Int), false, true, false, false, (0 : Int), (63 : Int), (0 : Int), (0 : Int)⟩ : T_event_form), (⟨([115, 116, 111, 112] : List Int), false, true, true, false, (0 : Int), (3 : Int), (0 : Int), (1000000000000000 : Int)⟩ : T_event_form), (⟨([119, 97, 107, 101] : List Int), false, true, false, false, (0 : Int), (1000000000000000 : Int), (0 : Int), (0 : Int)⟩ : T_event_form), (⟨([97, 108, 108, 111, 99] : List Int), false, true, true, true, (0 : Int), (1000000000000000 : Int), (1 : Int), (1000000000000 : Int)⟩ : T_event_form), (⟨([102, 114, 101, 101] : List Int), false, true, false, false, (0 : Int), (1000000000000000 : Int), (0 : Int), (0 : Int)⟩ : T_event_form)] : List T_event_form)))] (ac (congrArg (AV.own _) (by first | (simp; done) | (simp; omega)) : (.own 1 13 : AV) = .own 1 ((([(⟨([] : List Int), false, false, false, false, (0 : Int), (0 : Int), (0 : Int), (0 : Int)⟩ : T_event_form), (⟨([98, 101, 103, 105, 110] : List Int), true, false, false, false, (0 : Int), (0 : Int), (0 : Int), (0 : Int)⟩ : T_event_form), (⟨([101, 110, 100] : List Int), false, false, false, false, (0 : Int), (0 : Int), (0 : Int), (0 : Int)⟩ : T_event_form), (⟨([109, 97, 114, 107] : List Int), true, false, false, false, (0 : Int), (0 : Int), (0 : Int), (0 : Int)⟩ : T_event_form), (⟨([99, 111, 117, 110, 116] : List Int), true, true, false, false, (-1000000000000000 : Int), (1000000000000000 : Int), (0 : Int), (0 : Int)⟩ : T_event_form), (⟨([115, 97, 109, 112, 108, 101] : List Int), false, true, false, true, (1 : Int), (1000000000000 : Int), (0 : Int), (0 : Int)⟩ : T_event_form), (⟨([115, 101, 110, 100] : List Int), false, true, false, false, (0 : Int), (1000000000000000 : Int), (0 : Int), (0 : Int)⟩ : T_event_form), (⟨([114, 101, 99, 118] : List Int), false, true, false, false, (0 : Int), (1000000000000000 : Int), (0 : Int), (0 : Int)⟩ : T_event_form), (⟨([114, 117, 110] : List Int), false, true, false, false, (0 : Int), (63 : Int), (0 : Int), (0 : Int)⟩ : T_event_form), (⟨([115, 116, 111, 112] : List Int), false, true, true, false, (0 : Int), (3 : Int), (0 : Int), (1000000000000000 : Int)⟩ : T_event_form), (⟨([119, 97, 107, 101] : List Int), false, true, false, false, (0 : Int), (1000000000000000 : Int), (0 : Int), (0 : Int)⟩ : T_event_form), (⟨([97, 108, 108, 111, 99] : List Int), false, true, true, true, (0 : Int), (1000000000000000 : Int), (1 : Int), (1000000000000 : Int)⟩ : T_event_form), (⟨([102, 114, 101, 101] : List Int), false, true, false, false, (0 : Int), (1000000000000000 : Int), (0 : Int), (0 : Int)⟩ : T_event_form)] : List T_event_form)).length)) an) ?_
 refine rt ?_
 cases h
 exact ⟨.inr rfl, Nat.le_of_ble_eq_true rfl, by kernel_rfl⟩

theorem event_formOf_ok (k_1 : Int) (r : T_event_form × Bool) (h : event_formOf k_1 = some r) : TripleG prog 72 [] [] [Ii k_1] [] (.tuple [e_T_event_form r.1, .bool r.2]) := by
 refine triple_intro (fn := Go.Proofs.Try.f72) (code := codeOf Go.Proofs.Try.f72) (by kernel_rfl) (by kernel_rfl) (Nat.le_of_ble_eq_true (by kernel_rfl)) ?_
 unfold event_formOf at h
 refine sr [(0, { id := 0 })] [0, 2] [0] 1 [Ii k_1, Pp 0] [Vb 92 [.str ([] : List Int), .bool false, .bool false, .bool false, .bool false, Ii 0, Ii 0, Ii 0, Ii 0]] hmix an ?_
 refine sq ?_
 obtain ⟨r_1, h_1, h⟩ := bind_some h
 refine rg [(0, { av := .own 0 ((r_1).length), ids := [1], l := [], post := [(.row 92 9 (Mp e_T_event_form r_1))] })] [0, 2, 4] [0, 1] 2 [Ii k_1, Pp 0, .own 1 ((r_1).length)] [Vb 92 [.str ([] : List Int), .bool false, .bool false, .bool false, .bool false, Ii 0, Ii 0, Ii 0, Ii 0], Rb 92 9 (Mp e_T_event_form r_1)] hmix (ar ([] : List AV) (ac (rfl : ([] : List BoxSt) = []) (ac (event_forms_ok r_1 h_1 : TripleG prog 78 [] [] [] [(.row 92 9 (Mp e_T_event_form r_1))] (.own 0 ((r_1).length))) an))) ?_
 refine sq ?_
 refine sq ?_
 refine aw_mid (mk [(0, Ii k_1), (2, Pp 0), (4, .own 1 ((r_1).length)), (13, .bool (decide (k_1 < (1 : Int)) || decide (k_1 ≥ (lN (r_1)))))] [(0, Vb 92 [.str ([] : List Int), .bool false, .bool false, .bool false, .bool false, Ii 0, Ii 0, Ii 0, Ii 0]), (1, Rb 92 9 (Mp e_T_event_form r_1))] 2) ?_ ?_
 ·rcases bft (decide (k_1 < (1 : Int))) with gg_1 | gg_1
  ·refine rg [(3, Hg), (4, Hg), (5, Hg), (6, Hg), (7, Ht)] [0, 2, 4, 13] [0, 1] 2 [Ii k_1, Pp 0, .own 1 ((r_1).length), .bool true] [Vb 92 [.str ([] : List Int), .bool false, .bool false, .bool false, .bool false, Ii 0, Ii 0, Ii 0, Ii 0], Rb 92 9 (Mp e_T_event_form r_1)] hmix (ac gg_1 (ac gg_1 (ac gg_1 (ac gg_1 (ac gg_1 an))))) ?_
   exact ⟨rfl, (sw [0, 1] [] [.s 0, .s 2, .s 4, .a 13 (.bool (decide (k_1 < (1 : Int)) || decide (k_1 ≥ (lN (r_1)))))] [.s 0, .s 1] (ac (congrArg AV.bool (ort gg_1) : (.bool true : AV) = .bool (decide (k_1 < (1 : Int)) || decide (k_1 ≥ (lN (r_1))))) an))⟩
  ·refine rg [(7, Hf)] [0, 2, 4, 13] [0, 1] 2 [Ii k_1, Pp 0, .own 1 ((r_1).length), .bool (decide (k_1 ≥ (lN (r_1))))] [Vb 92 [.str ([] : List Int), .bool false, .bool false, .bool false, .bool false, Ii 0, Ii 0, Ii 0, Ii 0], Rb 92 9 (Mp e_T_event_form r_1)] hmix (ac gg_1 (ac gg_1 (ac gg_1 (ac gg_1 (ac gg_1 an))))) ?_
   exact ⟨rfl, (sw [0, 1] [] [.s 0, .s 2, .s 4, .a 13 (.bool (decide (k_1 < (1 : Int)) || decide (k_1 ≥ (lN (r_1)))))] [.s 0, .s 1] (ac (congrArg AV.bool (orf gg_1 rfl) : (.bool (decide (k_1 ≥ (lN (r_1)))) : AV) = .bool (decide (k_1 < (1 : Int)) || decide (k_1 ≥ (lN (r_1))))) an))⟩
 refine cd 13 (decide (k_1 < (1 : Int)) || decide (k_1 ≥ (lN (r_1)))) ?_ ?_
 ·intro g_1; replace h := cond_t g_1 h
  refine sr [] [2, 3] [0] 2 [Pp 0, .bool false] [Vb 92 [.str ([] : List Int), .bool false, .bool false, .bool false, .bool false, Ii 0, Ii 0, Ii 0, Ii 0]] hmix an ?_
  refine wk [0] [] [.s 2, .s 3] [.a 0 (Vb 92 (v_T_event_form (⟨([] : List Int), false, false, false, false, (0 : Int), (0 : Int), (0 : Int), (0 : Int)⟩ : T_event_form)))] [(2, Pp 0), (3, .bool false)] [(0, Vb 92 (v_T_event_form (⟨([] : List Int), false, false, false, false, (0 : Int), (0 : Int), (0 : Int), (0 : Int)⟩ : T_event_form)))] (ar 92 (ac (rfl : ones [.str ((⟨([] : List Int), false, false, false, false, (0 : Int), (0 : Int), (0 : Int), (0 : Int)⟩ : T_event_form).word), .bool ((⟨([] : List Int), false, false, false, false, (0 : Int), (0 : Int), (0 : Int), (0 : Int)⟩ : T_event_form).name), .bool ((⟨([] : List Int), false, false, false, false, (0 : Int), (0 : Int), (0 : Int), (0 : Int)⟩ : T_event_form).n), .bool ((⟨([] : List Int), false, false, false, false, (0 : Int), (0 : Int), (0 : Int), (0 : Int)⟩ : T_event_form).m), .bool ((⟨([] : List Int), false, false, false, false, (0 : Int), (0 : Int), (0 : Int), (0 : Int)⟩ : T_event_form).stack), Ii ((⟨([] : List Int), false, false, false, false, (0 : Int), (0 : Int), (0 : Int), (0 : Int)⟩ : T_event_form).least), Ii ((⟨([] : List Int), false, false, false, false, (0 : Int), (0 : Int), (0 : Int), (0 : Int)⟩ : T_event_form).most), Ii ((⟨([] : List Int), false, false, false, false, (0 : Int), (0 : Int), (0 : Int), (0 : Int)⟩ : T_event_form).mLeast), Ii ((⟨([] : List Int), false, false, false, false, (0 : Int), (0 : Int), (0 : Int), (0 : Int)⟩ : T_event_form).mMost)] = true) (ac (rfl : (.str ([] : List Int) : AV) = .str ((⟨([] : List Int), false, false, false, false, (0 : Int), (0 : Int), (0 : Int), (0 : Int)⟩ : T_event_form).word)) (ac (rfl : (.bool false : AV) = .bool ((⟨([] : List Int), false, false, false, false, (0 : Int), (0 : Int), (0 : Int), (0 : Int)⟩ : T_event_form).name)) (ac (rfl : (.bool false : AV) = .bool ((⟨([] : List Int), false, false, false, false, (0 : Int), (0 : Int), (0 : Int), (0 : Int)⟩ : T_event_form).n)) (ac (rfl : (.bool false : AV) = .bool ((⟨([] : List Int), false, false, false, false, (0 : Int), (0 : Int), (0 : Int), (0 : Int)⟩ : T_event_form).m)) (ac (rfl : (.bool false : AV) = .bool ((⟨([] : List Int), false, false, false, false, (0 : Int), (0 : Int), (0 : Int), (0 : Int)⟩ : T_event_form).stack)) (ac (rfl : (Ii 0 : AV) = Ii ((⟨([] : List Int), false, false, false, false, (0 : Int), (0 : Int), (0 : Int), (0 : Int)⟩ : T_event_form).least)) (ac (rfl : (Ii 0 : AV) = Ii ((⟨([] : List Int), false, false, false, false, (0 : Int), (0 : Int), (0 : Int), (0 : Int)⟩ : T_event_form).most)) (ac (rfl : (Ii 0 : AV) = Ii ((⟨([] : List Int), false, false, false, false, (0 : Int), (0 : Int), (0 : Int), (0 : Int)⟩ : T_event_form).mLeast)) (ac (rfl : (Ii 0 : AV) = Ii ((⟨([] : List Int), false, false, false, false, (0 : Int), (0 : Int), (0 : Int), (0 : Int)⟩ : T_event_form).mMost)) an))))))))))) ?_
  refine rt ?_
  cases h
  exact ⟨.inr rfl, Nat.le_of_ble_eq_true rfl, by kernel_rfl⟩
 intro g_1; replace h := cond_f g_1 h
 refine sk ?_
 refine sq ?_
 obtain ⟨x_1, h_2, h⟩ := bind_some h
 refine rg [(3, { av := e_T_event_form x_1 })] [2, 3] [0] 2 [Pp 0, .bool true] [Vb 92 (v_T_event_form x_1)] hmix (ac (idxL_lo h_2 : (0 : Int) ≤ k_1) (ac (by first | (simp; done) | simpa using idxL_hi h_2 : k_1 < (((r_1).length : Nat) : Int)) (ac (vc_get h_2 : (Mp e_T_event_form r_1)[(k_1).toNat]? = some (e_T_event_form x_1)) an))) ?_
 refine wk [0] [] [.s 2, .s 3] [.s 0] [(2, Pp 0), (3, .bool true)] [(0, Vb 92 (v_T_event_form x_1))] an ?_
 refine rt ?_
 cases h
 exact ⟨.inr rfl, Nat.le_of_ble_eq_true rfl, by kernel_rfl⟩

theorem intern_Frames_ok (F : Nat) (l_1 : List (List Int)) (r : Int) (h : intern_Frames F l_1 = some r) : TripleG prog 79 [] [] [.sl false 1 (Ms l_1)] [] (Ii r) := by
 refine triple_intro (fn := Go.Proofs.Try.f79) (code := codeOf Go.Proofs.Try.f79) (by kernel_rfl) (by kernel_rfl) (Nat.le_of_ble_eq_true (by kernel_rfl)) ?_
 unfold intern_Frames at h
 refine sr [] [0] [] 0 [.sl false 1 (Ms l_1)] [] hmix an ?_
 refine sq ?_
 refine sr [(1, { n := (l_1).length })] [0, 8] [] 0 [.sl false 1 (Ms l_1), .bool (decide ((lN (l_1)) > (32 : Int)))] [] hmix (ac (vc_len _ : ((Ms l_1)).length = (l_1).length) an) ?_
 refine cd 8 (decide ((lN (l_1)) > (32 : Int))) ?_ ?_
 ·intro g_1; replace h := cond_t g_1 h
  refine sr [] [2] [] 0 [Ii 7] [] hmix an ?_
  refine rt ?_
  cases h
  exact ⟨.inr rfl, Nat.le_of_ble_eq_true rfl, by kernel_rfl⟩
 intro g_1; replace h := cond_f g_1 h
 refine sk ?_
 refine sq ?_
 refine sr [(1, { n := (l_1).length })] [9, 10, 11] [] 0 [.sl false 1 (Ms l_1), Ii (lN (l_1)), Ii 0] [] hmix (ac (vc_len _ : ((Ms l_1)).length = (l_1).length) an) ?_
 obtain ⟨o_1, h_1, h⟩ := bind_some h
 refine aw_conv (K1 := (fun e st' => match o_1 with | (.inl q0) => e = .normal ∧ Sub 0 st' (mk [] [] 0) | (.inr q1) => e = .ret ∧ FinR prog Go.Proofs.Try.f79 0 [] (Ii q1) st')) ?_ ?_
 ·replace h := h_1
  refine aw_block (id := 0) (by kernel_rfl) ?_
  refine wk [] [] [.s 9, .s 10, .s 11] [] [(9, .sl false 1 (Ms l_1)), (10, Ii (lN (l_1))), (11, Ii 0)] [] an ?_
  refine aw_loopF (fun n st => ∃ (v_1 : Int), st = mk [(9, .sl false 1 (Ms l_1)), (10, Ii (lN (l_1))), (11, Ii v_1)] [] 0 ∧ intern_Frames_L1 F l_1 n v_1 = some o_1) F (by kernel_rfl) ⟨_, rfl, h⟩ ?_ ?_
  ·rintro _ ⟨_, _, h⟩; exact none_ne (h : (none : Option (Unit ⊕ Int)) = some o_1)
  rintro n_1 _ ⟨v_1, rfl, h⟩
  replace h : intern_Frames_L1_body F l_1 (intern_Frames_L1 F l_1 n_1) v_1 = some o_1 := h
  unfold intern_Frames_L1_body at h
  refine sr [] [9, 10, 11, 12] [] 0 [.sl false 1 (Ms l_1), Ii (lN (l_1)), Ii v_1, .bool (decide (v_1 < (lN (l_1))))] [] hmix an ?_
  refine sq ?_
  refine cd 12 (decide (v_1 < (lN (l_1)))) ?_ ?_
  rotate_left
  ·intro g_2; replace h := cond_f g_2 h
   refine aw_exit (id := 0) (by kernel_rfl) ?_
   cases h
   exact ⟨rfl, (sw [] [] [] [] an)⟩
  intro g_2; replace h := cond_t g_2 h
  refine sk ?_
  refine sq ?_
  refine aw_block (id := 1) (by kernel_rfl) ?_
  refine sq ?_
  obtain ⟨x_1, h_2, h⟩ := bind_some h
  refine rg [(0, { av := .str x_1 })] [4, 9, 10, 11] [] 0 [.str x_1, .sl false 1 (Ms l_1), Ii (lN (l_1)), Ii v_1] [] hmix (ac (vc_idx h_2 : idxA (Ms l_1) v_1 = some (.str x_1)) an) ?_
  refine sq ?_
  obtain ⟨r_1, h_3, h⟩ := bind_some h
  refine rg [(1, { av := Ii r_1, l := [.str x_1] })] [5, 9, 10, 11] [] 0 [Ii r_1, .sl false 1 (Ms l_1), Ii (lN (l_1)), Ii v_1] [] hmix (ar ([.str x_1] : List AV) (ac (rfl : ([] : List BoxSt) = []) (ac (intern_Name_ok F x_1 r_1 h_3 : TripleG prog 65 [] [] [.str x_1] [] (Ii r_1)) an))) ?_
  refine sr [] [5, 9, 10, 11, 18] [] 0 [Ii r_1, .sl false 1 (Ms l_1), Ii (lN (l_1)), Ii v_1, .bool (r_1 != (0 : Int))] [] hmix an ?_
  refine cd 18 (r_1 != (0 : Int)) ?_ ?_
  rotate_left
  ·intro g_3; replace h := cond_f g_3 h
   refine sk ?_
   refine rg [] [9, 10, 11] [] 0 [.sl false 1 (Ms l_1), Ii (lN (l_1)), Ii (w_i64 (v_1 + (1 : Int)))] [] hmix an ?_
   exact ⟨_, (sw [] [] [.s 9, .s 10, .s 11] [] an), _, rfl, h⟩
  intro g_3; replace h := cond_t g_3 h
  refine sr [] [2] [] 0 [Ii r_1] [] hmix an ?_
  refine rt ?_
  cases h
  exact ⟨rfl, Nat.le_of_ble_eq_true rfl, by kernel_rfl⟩
 intro e st1 hk
 rcases o_1 with q_1 | q_2
 rotate_left
 ·obtain ⟨rfl, hf⟩ := hk
  cases h
  exact ⟨st1, Sub.refl _ _, .inr rfl, hf⟩
 obtain ⟨rfl, hs⟩ := hk
 refine ⟨_, hs, ?_⟩
 refine sr [] [2] [] 0 [Ii 0] [] hmix an ?_
 refine rt ?_
 cases h
 exact ⟨.inr rfl, Nat.le_of_ble_eq_true rfl, by kernel_rfl⟩

theorem event_names_ok (F : Nat) (f_1 : T_event_form) (e_1 : T_api_Event) (r : Int) (h : event_names F f_1 e_1 = some r) : TripleG prog 73 [] [] [e_T_event_form f_1, e_T_api_Event e_1] [] (Ii r) := by
 refine triple_intro (fn := Go.Proofs.Try.f73) (code := codeOf Go.Proofs.Try.f73) (by kernel_rfl) (by kernel_rfl) (Nat.le_of_ble_eq_true (by kernel_rfl)) ?_
 unfold event_names at h
 refine sr [(0, { id := 0 }), (1, { id := 1 })] [2, 3] [0, 1] 2 [Pp 0, Pp 1] [Vb 92 (v_T_event_form f_1), Vb 54 (v_T_api_Event e_1)] hmix an ?_
 refine sq ?_
 refine sr [] [3, 6] [1] 2 [Pp 1, .bool f_1.name] [Vb 54 (v_T_api_Event e_1)] hmix an ?_
 refine cd 6 f_1.name ?_ ?_
 ·intro g_1; replace h := cond_t g_1 h
  refine sq ?_
  obtain ⟨r_1, h_1, h⟩ := bind_some h
  refine rg [(2, { av := Ii r_1, l := [.str e_1.Name] })] [4] [] 2 [Ii r_1] [] hmix (ar ([.str e_1.Name] : List AV) (ac (rfl : ([] : List BoxSt) = []) (ac (intern_Name_ok F e_1.Name r_1 h_1 : TripleG prog 65 [] [] [.str e_1.Name] [] (Ii r_1)) an))) ?_
  refine rt ?_
  cases h
  exact ⟨.inr rfl, Nat.le_of_ble_eq_true rfl, by kernel_rfl⟩
 intro g_1; replace h := cond_f g_1 h
 refine sk ?_
 refine sq ?_
 obtain ⟨r_2, h_2, h⟩ := bind_some h
 refine rg [(2, { av := Ii r_2, l := [.sl false 1 (Ms e_1.Stack)] })] [4] [] 2 [Ii r_2] [] hmix (ar ([.sl false 1 (Ms e_1.Stack)] : List AV) (ac (rfl : ([] : List BoxSt) = []) (ac (intern_Frames_ok F e_1.Stack r_2 h_2 : TripleG prog 79 [] [] [.sl false 1 (Ms e_1.Stack)] [] (Ii r_2)) an))) ?_
 refine rt ?_
 cases h
 exact ⟨.inr rfl, Nat.le_of_ble_eq_true rfl, by kernel_rfl⟩

theorem event_Check_ok (F : Nat) (e_1 : T_api_Event) (r : Int) (h : event_Check F e_1 = some r) : TripleG prog 67 [] [] [e_T_api_Event e_1] [] (Ii r) := by
 refine triple_intro (fn := Go.Proofs.Try.f67) (code := codeOf Go.Proofs.Try.f67) (by kernel_rfl) (by kernel_rfl) (Nat.le_of_ble_eq_true (by kernel_rfl)) ?_
 unfold event_Check at h
 refine sr [(0, { id := 0 })] [1] [0] 1 [Pp 0] [Vb 54 (v_T_api_Event e_1)] hmix an ?_
 refine sq ?_
 refine sq ?_
 refine aw_mid (mk [(1, Pp 0), (13, .bool (decide (e_1.At < (0 : Int)) || decide (e_1.At > (1000000000000 : Int))))] [(0, Vb 54 (v_T_api_Event e_1))] 1) ?_ ?_
 ·rcases bft (decide (e_1.At < (0 : Int))) with gg_1 | gg_1
  ·refine rg [(4, Hg), (5, Hg), (6, Hg), (7, Ht)] [1, 13] [0] 1 [Pp 0, .bool true] [Vb 54 (v_T_api_Event e_1)] hmix (ac gg_1 (ac gg_1 (ac gg_1 (ac gg_1 an)))) ?_
   exact ⟨rfl, (sw [0] [] [.s 1, .a 13 (.bool (decide (e_1.At < (0 : Int)) || decide (e_1.At > (1000000000000 : Int))))] [.s 0] (ac (congrArg AV.bool (ort gg_1) : (.bool true : AV) = .bool (decide (e_1.At < (0 : Int)) || decide (e_1.At > (1000000000000 : Int)))) an))⟩
  ·refine rg [(7, Hf)] [1, 13] [0] 1 [Pp 0, .bool (decide (e_1.At > (1000000000000 : Int)))] [Vb 54 (v_T_api_Event e_1)] hmix (ac gg_1 (ac gg_1 (ac gg_1 (ac gg_1 an)))) ?_
   exact ⟨rfl, (sw [0] [] [.s 1, .a 13 (.bool (decide (e_1.At < (0 : Int)) || decide (e_1.At > (1000000000000 : Int))))] [.s 0] (ac (congrArg AV.bool (orf gg_1 rfl) : (.bool (decide (e_1.At > (1000000000000 : Int))) : AV) = .bool (decide (e_1.At < (0 : Int)) || decide (e_1.At > (1000000000000 : Int)))) an))⟩
 refine cd 13 (decide (e_1.At < (0 : Int)) || decide (e_1.At > (1000000000000 : Int))) ?_ ?_
 ·intro g_1; replace h := cond_t g_1 h
  refine sr [] [2] [] 1 [Ii 2] [] hmix an ?_
  refine rt ?_
  cases h
  exact ⟨.inr rfl, Nat.le_of_ble_eq_true rfl, by kernel_rfl⟩
 intro g_1; replace h := cond_f g_1 h
 refine sk ?_
 refine sq ?_
 obtain ⟨r_1, h_1, h⟩ := bind_some h
 refine rg [(2, { av := .tuple [e_T_event_form r_1.1, .bool r_1.2], l := [Ii e_1.Kind] }), (6, { id := 1 })] [1, 3, 4] [0, 1] 2 [Pp 0, Pp 1, .bool r_1.2] [Vb 54 (v_T_api_Event e_1), Vb 92 (v_T_event_form r_1.1)] hmix (ar ([Ii e_1.Kind] : List AV) (ac (rfl : ([] : List BoxSt) = []) (ac (event_formOf_ok e_1.Kind r_1 h_1 : TripleG prog 72 [] [] [Ii e_1.Kind] [] (.tuple [e_T_event_form r_1.1, .bool r_1.2])) an))) ?_
 refine sq ?_
 refine sq ?_
 obtain ⟨p_1, h_2, h⟩ := bind_some h
 refine aw_mid (mk [(1, Pp 0), (3, Pp 1), (62, .bool p_1)] [(0, Vb 54 (v_T_api_Event e_1)), (1, Vb 92 (v_T_event_form r_1.1))] 2) ?_ ?_
 ·replace h := h_2
  rcases bft (!r_1.2) with gg_2 | gg_2
  ·replace h := cond_t gg_2 h
   refine rg [(3, Hg), (4, Hg), (5, Hg), (6, Hg), (10, Hg), (11, Ht), (13, Hg), (14, Hg), (15, Hg), (16, Hg), (20, Hg), (21, Ht), (23, Hg), (24, Hg), (25, Hg), (26, Hg), (30, Hg), (31, Ht), (33, Hg), (34, Hg), (35, Hg), (36, Hg), (41, Hg), (42, Ht)] [1, 3, 62] [0, 1] 2 [Pp 0, Pp 1, .bool true] [Vb 54 (v_T_api_Event e_1), Vb 92 (v_T_event_form r_1.1)] hmix (ac gg_2 (ac gg_2 (ac gg_2 (ac gg_2 (ac gg_2 (ac gg_2 (ax (ax (ax (ax (ax (ar true (ax (ax (ax (ax (ax (ar true (ax (ax (ax (ax (ax (ar true an)))))))))))))))))))))))) ?_
   cases h
   exact ⟨rfl, (sw [0, 1] [] [.s 1, .s 3, .s 62] [.s 0, .s 1] an)⟩
  ·replace h := cond_f gg_2 h
   rcases bft (!r_1.1.name) with gg_3 | gg_3
   ·replace h := cond_t gg_3 h
    rcases bft (!(e_1.Name == ([] : List Int))) with gg_4 | gg_4
    ·replace h := cond_t gg_4 h
     refine rg [(10, Ht), (11, Hf), (13, Hg), (14, Hg), (15, Hg), (16, Hg), (20, Hg), (21, Ht), (23, Hg), (24, Hg), (25, Hg), (26, Hg), (30, Hg), (31, Ht), (33, Hg), (34, Hg), (35, Hg), (36, Hg), (41, Hg), (42, Ht)] [1, 3, 62] [0, 1] 2 [Pp 0, Pp 1, .bool true] [Vb 54 (v_T_api_Event e_1), Vb 92 (v_T_event_form r_1.1)] hmix (ac gg_2 (ac gg_2 (ac gg_2 (ac gg_2 (ac gg_3 (ac gg_3 (ac gg_3 (ac gg_2 (ac gg_3 (ac gg_2 (ac gg_4 (ac gg_4 (ac gg_4 (ac gg_4 (ac gg_4 (ac gg_4 (ax (ax (ax (ax (ax (ar true (ax (ax (ax (ax (ax (ar true an)))))))))))))))))))))))))))) ?_
     cases h
     exact ⟨rfl, (sw [0, 1] [] [.s 1, .s 3, .s 62] [.s 0, .s 1] an)⟩
    ·replace h := cond_f gg_4 h
     rcases bft (!r_1.1.n) with gg_5 | gg_5
     ·replace h := cond_t gg_5 h
      rcases bft (e_1.N != (0 : Int)) with gg_6 | gg_6
      ·replace h := cond_t gg_6 h
       refine rg [(10, Ht), (11, Hf), (20, Ht), (21, Hf), (23, Hg), (24, Hg), (25, Hg), (26, Hg), (30, Hg), (31, Ht), (33, Hg), (34, Hg), (35, Hg), (36, Hg), (41, Hg), (42, Ht)] [1, 3, 62] [0, 1] 2 [Pp 0, Pp 1, .bool true] [Vb 54 (v_T_api_Event e_1), Vb 92 (v_T_event_form r_1.1)] hmix (ac gg_2 (ac gg_2 (ac gg_2 (ac gg_2 (ac gg_3 (ac gg_3 (ac gg_3 (ac gg_2 (ac gg_3 (ac gg_2 (ac gg_4 (ac gg_4 (ac gg_4 (ac gg_4 (ac gg_5 (ac gg_5 (ac gg_5 (ac gg_4 (ac gg_5 (ac gg_4 (ac gg_6 (ac gg_6 (ac gg_6 (ac gg_6 (ac gg_6 (ac gg_6 (ax (ax (ax (ax (ax (ar true an)))))))))))))))))))))))))))))))) ?_
       cases h
       exact ⟨rfl, (sw [0, 1] [] [.s 1, .s 3, .s 62] [.s 0, .s 1] an)⟩
      ·replace h := cond_f gg_6 h
       rcases bft (!r_1.1.m) with gg_7 | gg_7
       ·replace h := cond_t gg_7 h
        rcases bft (e_1.M != (0 : Int)) with gg_8 | gg_8
        ·replace h := cond_t gg_8 h
         refine rg [(10, Ht), (11, Hf), (20, Ht), (21, Hf), (30, Ht), (31, Hf), (33, Hg), (34, Hg), (35, Hg), (36, Hg), (41, Hg), (42, Ht)] [1, 3, 62] [0, 1] 2 [Pp 0, Pp 1, .bool true] [Vb 54 (v_T_api_Event e_1), Vb 92 (v_T_event_form r_1.1)] hmix (ac gg_2 (ac gg_2 (ac gg_2 (ac gg_2 (ac gg_3 (ac gg_3 (ac gg_3 (ac gg_2 (ac gg_3 (ac gg_2 (ac gg_4 (ac gg_4 (ac gg_4 (ac gg_4 (ac gg_5 (ac gg_5 (ac gg_5 (ac gg_4 (ac gg_5 (ac gg_4 (ac gg_6 (ac gg_6 (ac gg_6 (ac gg_6 (ac gg_7 (ac gg_7 (ac gg_7 (ac gg_6 (ac gg_7 (ac gg_6 (ac gg_8 (ac gg_8 (ac gg_8 (ac gg_8 (ac gg_8 (ac gg_8 an)))))))))))))))))))))))))))))))))))) ?_
         cases h
         exact ⟨rfl, (sw [0, 1] [] [.s 1, .s 3, .s 62] [.s 0, .s 1] an)⟩
        ·replace h := cond_f gg_8 h
         rcases bft (!r_1.1.stack) with gg_9 | gg_9
         ·replace h := cond_t gg_9 h
          refine rg [(10, Ht), (11, Hf), (20, Ht), (21, Hf), (30, Ht), (31, Hf), (39, { n := (e_1.Stack).length }), (41, Ht), (42, Hf)] [1, 3, 62] [0, 1] 2 [Pp 0, Pp 1, .bool (decide ((lN (e_1.Stack)) > (0 : Int)))] [Vb 54 (v_T_api_Event e_1), Vb 92 (v_T_event_form r_1.1)] hmix (ac gg_2 (ac gg_2 (ac gg_2 (ac gg_2 (ac gg_3 (ac gg_3 (ac gg_3 (ac gg_2 (ac gg_3 (ac gg_2 (ac gg_4 (ac gg_4 (ac gg_4 (ac gg_4 (ac gg_5 (ac gg_5 (ac gg_5 (ac gg_4 (ac gg_5 (ac gg_4 (ac gg_6 (ac gg_6 (ac gg_6 (ac gg_6 (ac gg_7 (ac gg_7 (ac gg_7 (ac gg_6 (ac gg_7 (ac gg_6 (ac gg_8 (ac gg_8 (ac gg_8 (ac gg_8 (ac gg_9 (ac gg_9 (ac gg_9 (ac (vc_len _ : ((Ms e_1.Stack)).length = (e_1.Stack).length) (ac gg_9 (ac gg_8 (ac gg_9 (ac gg_8 an)))))))))))))))))))))))))))))))))))))))))) ?_
          cases h
          exact ⟨rfl, (sw [0, 1] [] [.s 1, .s 3, .s 62] [.s 0, .s 1] an)⟩
         ·replace h := cond_f gg_9 h
          refine rg [(10, Ht), (11, Hf), (20, Ht), (21, Hf), (30, Ht), (31, Hf), (37, Hg), (38, Hg), (39, Hg), (40, Hg), (41, Hf), (42, Hf)] [1, 3, 62] [0, 1] 2 [Pp 0, Pp 1, .bool false] [Vb 54 (v_T_api_Event e_1), Vb 92 (v_T_event_form r_1.1)] hmix (ac gg_2 (ac gg_2 (ac gg_2 (ac gg_2 (ac gg_3 (ac gg_3 (ac gg_3 (ac gg_2 (ac gg_3 (ac gg_2 (ac gg_4 (ac gg_4 (ac gg_4 (ac gg_4 (ac gg_5 (ac gg_5 (ac gg_5 (ac gg_4 (ac gg_5 (ac gg_4 (ac gg_6 (ac gg_6 (ac gg_6 (ac gg_6 (ac gg_7 (ac gg_7 (ac gg_7 (ac gg_6 (ac gg_7 (ac gg_6 (ac gg_8 (ac gg_8 (ac gg_8 (ac gg_8 (ac gg_9 (ac gg_9 (ac gg_9 (ac gg_9 (ac gg_8 (ac gg_9 (ac gg_8 an))))))))))))))))))))))))))))))))))))))))) ?_
          cases h
          exact ⟨rfl, (sw [0, 1] [] [.s 1, .s 3, .s 62] [.s 0, .s 1] an)⟩
       ·replace h := cond_f gg_7 h
        rcases bft (!r_1.1.stack) with gg_10 | gg_10
        ·replace h := cond_t gg_10 h
         refine rg [(10, Ht), (11, Hf), (20, Ht), (21, Hf), (27, Hg), (28, Hg), (29, Hg), (30, Hf), (31, Hf), (39, { n := (e_1.Stack).length }), (41, Ht), (42, Hf)] [1, 3, 62] [0, 1] 2 [Pp 0, Pp 1, .bool (decide ((lN (e_1.Stack)) > (0 : Int)))] [Vb 54 (v_T_api_Event e_1), Vb 92 (v_T_event_form r_1.1)] hmix (ac gg_2 (ac gg_2 (ac gg_2 (ac gg_2 (ac gg_3 (ac gg_3 (ac gg_3 (ac gg_2 (ac gg_3 (ac gg_2 (ac gg_4 (ac gg_4 (ac gg_4 (ac gg_4 (ac gg_5 (ac gg_5 (ac gg_5 (ac gg_4 (ac gg_5 (ac gg_4 (ac gg_6 (ac gg_6 (ac gg_6 (ac gg_6 (ac gg_7 (ac gg_7 (ac gg_7 (ac gg_6 (ac gg_7 (ac gg_6 (ar false (ar false (ar false (ar false (ac gg_10 (ac gg_10 (ac gg_10 (ac (vc_len _ : ((Ms e_1.Stack)).length = (e_1.Stack).length) (ac gg_10 (ar false (ac gg_10 (ar false an)))))))))))))))))))))))))))))))))))))))))) ?_
         cases h
         exact ⟨rfl, (sw [0, 1] [] [.s 1, .s 3, .s 62] [.s 0, .s 1] an)⟩
        ·replace h := cond_f gg_10 h
         refine rg [(10, Ht), (11, Hf), (20, Ht), (21, Hf), (27, Hg), (28, Hg), (29, Hg), (30, Hf), (31, Hf), (37, Hg), (38, Hg), (39, Hg), (40, Hg), (41, Hf), (42, Hf)] [1, 3, 62] [0, 1] 2 [Pp 0, Pp 1, .bool false] [Vb 54 (v_T_api_Event e_1), Vb 92 (v_T_event_form r_1.1)] hmix (ac gg_2 (ac gg_2 (ac gg_2 (ac gg_2 (ac gg_3 (ac gg_3 (ac gg_3 (ac gg_2 (ac gg_3 (ac gg_2 (ac gg_4 (ac gg_4 (ac gg_4 (ac gg_4 (ac gg_5 (ac gg_5 (ac gg_5 (ac gg_4 (ac gg_5 (ac gg_4 (ac gg_6 (ac gg_6 (ac gg_6 (ac gg_6 (ac gg_7 (ac gg_7 (ac gg_7 (ac gg_6 (ac gg_7 (ac gg_6 (ar false (ar false (ar false (ar false (ac gg_10 (ac gg_10 (ac gg_10 (ac gg_10 (ar false (ac gg_10 (ar false an))))))))))))))))))))))))))))))))))))))))) ?_
         cases h
         exact ⟨rfl, (sw [0, 1] [] [.s 1, .s 3, .s 62] [.s 0, .s 1] an)⟩
     ·replace h := cond_f gg_5 h
      rcases bft (!r_1.1.m) with gg_11 | gg_11
      ·replace h := cond_t gg_11 h
       rcases bft (e_1.M != (0 : Int)) with gg_12 | gg_12
       ·replace h := cond_t gg_12 h
        refine rg [(10, Ht), (11, Hf), (17, Hg), (18, Hg), (19, Hg), (20, Hf), (21, Hf), (30, Ht), (31, Hf), (33, Hg), (34, Hg), (35, Hg), (36, Hg), (41, Hg), (42, Ht)] [1, 3, 62] [0, 1] 2 [Pp 0, Pp 1, .bool true] [Vb 54 (v_T_api_Event e_1), Vb 92 (v_T_event_form r_1.1)] hmix (ac gg_2 (ac gg_2 (ac gg_2 (ac gg_2 (ac gg_3 (ac gg_3 (ac gg_3 (ac gg_2 (ac gg_3 (ac gg_2 (ac gg_4 (ac gg_4 (ac gg_4 (ac gg_4 (ac gg_5 (ac gg_5 (ac gg_5 (ac gg_4 (ac gg_5 (ac gg_4 (ar false (ar false (ar false (ar false (ac gg_11 (ac gg_11 (ac gg_11 (ar false (ac gg_11 (ar false (ac gg_12 (ac gg_12 (ac gg_12 (ac gg_12 (ac gg_12 (ac gg_12 an)))))))))))))))))))))))))))))))))))) ?_
        cases h
        exact ⟨rfl, (sw [0, 1] [] [.s 1, .s 3, .s 62] [.s 0, .s 1] an)⟩
       ·replace h := cond_f gg_12 h
        rcases bft (!r_1.1.stack) with gg_13 | gg_13
        ·replace h := cond_t gg_13 h
         refine rg [(10, Ht), (11, Hf), (17, Hg), (18, Hg), (19, Hg), (20, Hf), (21, Hf), (30, Ht), (31, Hf), (39, { n := (e_1.Stack).length }), (41, Ht), (42, Hf)] [1, 3, 62] [0, 1] 2 [Pp 0, Pp 1, .bool (decide ((lN (e_1.Stack)) > (0 : Int)))] [Vb 54 (v_T_api_Event e_1), Vb 92 (v_T_event_form r_1.1)] hmix (ac gg_2 (ac gg_2 (ac gg_2 (ac gg_2 (ac gg_3 (ac gg_3 (ac gg_3 (ac gg_2 (ac gg_3 (ac gg_2 (ac gg_4 (ac gg_4 (ac gg_4 (ac gg_4 (ac gg_5 (ac gg_5 (ac gg_5 (ac gg_4 (ac gg_5 (ac gg_4 (ar false (ar false (ar false (ar false (ac gg_11 (ac gg_11 (ac gg_11 (ar false (ac gg_11 (ar false (ac gg_12 (ac gg_12 (ac gg_12 (ac gg_12 (ac gg_13 (ac gg_13 (ac gg_13 (ac (vc_len _ : ((Ms e_1.Stack)).length = (e_1.Stack).length) (ac gg_13 (ac gg_12 (ac gg_13 (ac gg_12 an)))))))))))))))))))))))))))))))))))))))))) ?_
         cases h
         exact ⟨rfl, (sw [0, 1] [] [.s 1, .s 3, .s 62] [.s 0, .s 1] an)⟩
        ·replace h := cond_f gg_13 h
         refine rg [(10, Ht), (11, Hf), (17, Hg), (18, Hg), (19, Hg), (20, Hf), (21, Hf), (30, Ht), (31, Hf), (37, Hg), (38, Hg), (39, Hg), (40, Hg), (41, Hf), (42, Hf)] [1, 3, 62] [0, 1] 2 [Pp 0, Pp 1, .bool false] [Vb 54 (v_T_api_Event e_1), Vb 92 (v_T_event_form r_1.1)] hmix (ac gg_2 (ac gg_2 (ac gg_2 (ac gg_2 (ac gg_3 (ac gg_3 (ac gg_3 (ac gg_2 (ac gg_3 (ac gg_2 (ac gg_4 (ac gg_4 (ac gg_4 (ac gg_4 (ac gg_5 (ac gg_5 (ac gg_5 (ac gg_4 (ac gg_5 (ac gg_4 (ar false (ar false (ar false (ar false (ac gg_11 (ac gg_11 (ac gg_11 (ar false (ac gg_11 (ar false (ac gg_12 (ac gg_12 (ac gg_12 (ac gg_12 (ac gg_13 (ac gg_13 (ac gg_13 (ac gg_13 (ac gg_12 (ac gg_13 (ac gg_12 an))))))))))))))))))))))))))))))))))))))))) ?_
         cases h
         exact ⟨rfl, (sw [0, 1] [] [.s 1, .s 3, .s 62] [.s 0, .s 1] an)⟩
      ·replace h := cond_f gg_11 h
       rcases bft (!r_1.1.stack) with gg_14 | gg_14
       ·replace h := cond_t gg_14 h
        refine rg [(10, Ht), (11, Hf), (17, Hg), (18, Hg), (19, Hg), (20, Hf), (21, Hf), (27, Hg), (28, Hg), (29, Hg), (30, Hf), (31, Hf), (39, { n := (e_1.Stack).length }), (41, Ht), (42, Hf)] [1, 3, 62] [0, 1] 2 [Pp 0, Pp 1, .bool (decide ((lN (e_1.Stack)) > (0 : Int)))] [Vb 54 (v_T_api_Event e_1), Vb 92 (v_T_event_form r_1.1)] hmix (ac gg_2 (ac gg_2 (ac gg_2 (ac gg_2 (ac gg_3 (ac gg_3 (ac gg_3 (ac gg_2 (ac gg_3 (ac gg_2 (ac gg_4 (ac gg_4 (ac gg_4 (ac gg_4 (ac gg_5 (ac gg_5 (ac gg_5 (ac gg_4 (ac gg_5 (ac gg_4 (ar false (ar false (ar false (ar false (ac gg_11 (ac gg_11 (ac gg_11 (ar false (ac gg_11 (ar false (ar false (ar false (ar false (ar false (ac gg_14 (ac gg_14 (ac gg_14 (ac (vc_len _ : ((Ms e_1.Stack)).length = (e_1.Stack).length) (ac gg_14 (ar false (ac gg_14 (ar false an)))))))))))))))))))))))))))))))))))))))))) ?_
        cases h
        exact ⟨rfl, (sw [0, 1] [] [.s 1, .s 3, .s 62] [.s 0, .s 1] an)⟩
       ·replace h := cond_f gg_14 h
        refine rg [(10, Ht), (11, Hf), (17, Hg), (18, Hg), (19, Hg), (20, Hf), (21, Hf), (27, Hg), (28, Hg), (29, Hg), (30, Hf), (31, Hf), (37, Hg), (38, Hg), (39, Hg), (40, Hg), (41, Hf), (42, Hf)] [1, 3, 62] [0, 1] 2 [Pp 0, Pp 1, .bool false] [Vb 54 (v_T_api_Event e_1), Vb 92 (v_T_event_form r_1.1)] hmix (ac gg_2 (ac gg_2 (ac gg_2 (ac gg_2 (ac gg_3 (ac gg_3 (ac gg_3 (ac gg_2 (ac gg_3 (ac gg_2 (ac gg_4 (ac gg_4 (ac gg_4 (ac gg_4 (ac gg_5 (ac gg_5 (ac gg_5 (ac gg_4 (ac gg_5 (ac gg_4 (ar false (ar false (ar false (ar false (ac gg_11 (ac gg_11 (ac gg_11 (ar false (ac gg_11 (ar false (ar false (ar false (ar false (ar false (ac gg_14 (ac gg_14 (ac gg_14 (ac gg_14 (ar false (ac gg_14 (ar false an))))))))))))))))))))))))))))))))))))))))) ?_
        cases h
        exact ⟨rfl, (sw [0, 1] [] [.s 1, .s 3, .s 62] [.s 0, .s 1] an)⟩
   ·replace h := cond_f gg_3 h
    rcases bft (!r_1.1.n) with gg_15 | gg_15
    ·replace h := cond_t gg_15 h
     rcases bft (e_1.N != (0 : Int)) with gg_16 | gg_16
     ·replace h := cond_t gg_16 h
      refine rg [(7, Hg), (8, Hg), (9, Hg), (10, Hf), (11, Hf), (20, Ht), (21, Hf), (23, Hg), (24, Hg), (25, Hg), (26, Hg), (30, Hg), (31, Ht), (33, Hg), (34, Hg), (35, Hg), (36, Hg), (41, Hg), (42, Ht)] [1, 3, 62] [0, 1] 2 [Pp 0, Pp 1, .bool true] [Vb 54 (v_T_api_Event e_1), Vb 92 (v_T_event_form r_1.1)] hmix (ac gg_2 (ac gg_2 (ac gg_2 (ac gg_2 (ac gg_3 (ac gg_3 (ac gg_3 (ac gg_2 (ac gg_3 (ac gg_2 (ar false (ar false (ar false (ar false (ac gg_15 (ac gg_15 (ac gg_15 (ar false (ac gg_15 (ar false (ac gg_16 (ac gg_16 (ac gg_16 (ac gg_16 (ac gg_16 (ac gg_16 (ax (ax (ax (ax (ax (ar true an)))))))))))))))))))))))))))))))) ?_
      cases h
      exact ⟨rfl, (sw [0, 1] [] [.s 1, .s 3, .s 62] [.s 0, .s 1] an)⟩
     ·replace h := cond_f gg_16 h
      rcases bft (!r_1.1.m) with gg_17 | gg_17
      ·replace h := cond_t gg_17 h
       rcases bft (e_1.M != (0 : Int)) with gg_18 | gg_18
       ·replace h := cond_t gg_18 h
        refine rg [(7, Hg), (8, Hg), (9, Hg), (10, Hf), (11, Hf), (20, Ht), (21, Hf), (30, Ht), (31, Hf), (33, Hg), (34, Hg), (35, Hg), (36, Hg), (41, Hg), (42, Ht)] [1, 3, 62] [0, 1] 2 [Pp 0, Pp 1, .bool true] [Vb 54 (v_T_api_Event e_1), Vb 92 (v_T_event_form r_1.1)] hmix (ac gg_2 (ac gg_2 (ac gg_2 (ac gg_2 (ac gg_3 (ac gg_3 (ac gg_3 (ac gg_2 (ac gg_3 (ac gg_2 (ar false (ar false (ar false (ar false (ac gg_15 (ac gg_15 (ac gg_15 (ar false (ac gg_15 (ar false (ac gg_16 (ac gg_16 (ac gg_16 (ac gg_16 (ac gg_17 (ac gg_17 (ac gg_17 (ac gg_16 (ac gg_17 (ac gg_16 (ac gg_18 (ac gg_18 (ac gg_18 (ac gg_18 (ac gg_18 (ac gg_18 an)))))))))))))))))))))))))))))))))))) ?_
        cases h
        exact ⟨rfl, (sw [0, 1] [] [.s 1, .s 3, .s 62] [.s 0, .s 1] an)⟩
       ·replace h := cond_f gg_18 h
        rcases bft (!r_1.1.stack) with gg_19 | gg_19
        ·replace h := cond_t gg_19 h
         refine rg [(7, Hg), (8, Hg), (9, Hg), (10, Hf), (11, Hf), (20, Ht), (21, Hf), (30, Ht), (31, Hf), (39, { n := (e_1.Stack).length }), (41, Ht), (42, Hf)] [1, 3, 62] [0, 1] 2 [Pp 0, Pp 1, .bool (decide ((lN (e_1.Stack)) > (0 : Int)))] [Vb 54 (v_T_api_Event e_1), Vb 92 (v_T_event_form r_1.1)] hmix (ac gg_2 (ac gg_2 (ac gg_2 (ac gg_2 (ac gg_3 (ac gg_3 (ac gg_3 (ac gg_2 (ac gg_3 (ac gg_2 (ar false (ar false (ar false (ar false (ac gg_15 (ac gg_15 (ac gg_15 (ar false (ac gg_15 (ar false (ac gg_16 (ac gg_16 (ac gg_16 (ac gg_16 (ac gg_17 (ac gg_17 (ac gg_17 (ac gg_16 (ac gg_17 (ac gg_16 (ac gg_18 (ac gg_18 (ac gg_18 (ac gg_18 (ac gg_19 (ac gg_19 (ac gg_19 (ac (vc_len _ : ((Ms e_1.Stack)).length = (e_1.Stack).length) (ac gg_19 (ac gg_18 (ac gg_19 (ac gg_18 an)))))))))))))))))))))))))))))))))))))))))) ?_
         cases h
         exact ⟨rfl, (sw [0, 1] [] [.s 1, .s 3, .s 62] [.s 0, .s 1] an)⟩
        ·replace h := cond_f gg_19 h
         refine rg [(7, Hg), (8, Hg), (9, Hg), (10, Hf), (11, Hf), (20, Ht), (21, Hf), (30, Ht), (31, Hf), (37, Hg), (38, Hg), (39, Hg), (40, Hg), (41, Hf), (42, Hf)] [1, 3, 62] [0, 1] 2 [Pp 0, Pp 1, .bool false] [Vb 54 (v_T_api_Event e_1), Vb 92 (v_T_event_form r_1.1)] hmix (ac gg_2 (ac gg_2 (ac gg_2 (ac gg_2 (ac gg_3 (ac gg_3 (ac gg_3 (ac gg_2 (ac gg_3 (ac gg_2 (ar false (ar false (ar false (ar false (ac gg_15 (ac gg_15 (ac gg_15 (ar false (ac gg_15 (ar false (ac gg_16 (ac gg_16 (ac gg_16 (ac gg_16 (ac gg_17 (ac gg_17 (ac gg_17 (ac gg_16 (ac gg_17 (ac gg_16 (ac gg_18 (ac gg_18 (ac gg_18 (ac gg_18 (ac gg_19 (ac gg_19 (ac gg_19 (ac gg_19 (ac gg_18 (ac gg_19 (ac gg_18 an))))))))))))))))))))))))))))))))))))))))) ?_
         cases h
         exact ⟨rfl, (sw [0, 1] [] [.s 1, .s 3, .s 62] [.s 0, .s 1] an)⟩
      ·replace h := cond_f gg_17 h
       rcases bft (!r_1.1.stack) with gg_20 | gg_20
       ·replace h := cond_t gg_20 h
        refine rg [(7, Hg), (8, Hg), (9, Hg), (10, Hf), (11, Hf), (20, Ht), (21, Hf), (27, Hg), (28, Hg), (29, Hg), (30, Hf), (31, Hf), (39, { n := (e_1.Stack).length }), (41, Ht), (42, Hf)] [1, 3, 62] [0, 1] 2 [Pp 0, Pp 1, .bool (decide ((lN (e_1.Stack)) > (0 : Int)))] [Vb 54 (v_T_api_Event e_1), Vb 92 (v_T_event_form r_1.1)] hmix (ac gg_2 (ac gg_2 (ac gg_2 (ac gg_2 (ac gg_3 (ac gg_3 (ac gg_3 (ac gg_2 (ac gg_3 (ac gg_2 (ar false (ar false (ar false (ar false (ac gg_15 (ac gg_15 (ac gg_15 (ar false (ac gg_15 (ar false (ac gg_16 (ac gg_16 (ac gg_16 (ac gg_16 (ac gg_17 (ac gg_17 (ac gg_17 (ac gg_16 (ac gg_17 (ac gg_16 (ar false (ar false (ar false (ar false (ac gg_20 (ac gg_20 (ac gg_20 (ac (vc_len _ : ((Ms e_1.Stack)).length = (e_1.Stack).length) (ac gg_20 (ar false (ac gg_20 (ar false an)))))))))))))))))))))))))))))))))))))))))) ?_
        cases h
        exact ⟨rfl, (sw [0, 1] [] [.s 1, .s 3, .s 62] [.s 0, .s 1] an)⟩
       ·replace h := cond_f gg_20 h
        refine rg [(7, Hg), (8, Hg), (9, Hg), (10, Hf), (11, Hf), (20, Ht), (21, Hf), (27, Hg), (28, Hg), (29, Hg), (30, Hf), (31, Hf), (37, Hg), (38, Hg), (39, Hg), (40, Hg), (41, Hf), (42, Hf)] [1, 3, 62] [0, 1] 2 [Pp 0, Pp 1, .bool false] [Vb 54 (v_T_api_Event e_1), Vb 92 (v_T_event_form r_1.1)] hmix (ac gg_2 (ac gg_2 (ac gg_2 (ac gg_2 (ac gg_3 (ac gg_3 (ac gg_3 (ac gg_2 (ac gg_3 (ac gg_2 (ar false (ar false (ar false (ar false (ac gg_15 (ac gg_15 (ac gg_15 (ar false (ac gg_15 (ar false (ac gg_16 (ac gg_16 (ac gg_16 (ac gg_16 (ac gg_17 (ac gg_17 (ac gg_17 (ac gg_16 (ac gg_17 (ac gg_16 (ar false (ar false (ar false (ar false (ac gg_20 (ac gg_20 (ac gg_20 (ac gg_20 (ar false (ac gg_20 (ar false an))))))))))))))))))))))))))))))))))))))))) ?_
        cases h
        exact ⟨rfl, (sw [0, 1] [] [.s 1, .s 3, .s 62] [.s 0, .s 1] an)⟩
    ·replace h := cond_f gg_15 h
     rcases bft (!r_1.1.m) with gg_21 | gg_21
     ·replace h := cond_t gg_21 h
      rcases bft (e_1.M != (0 : Int)) with gg_22 | gg_22
      ·replace h := cond_t gg_22 h
       refine rg [(7, Hg), (8, Hg), (9, Hg), (10, Hf), (11, Hf), (17, Hg), (18, Hg), (19, Hg), (20, Hf), (21, Hf), (30, Ht), (31, Hf), (33, Hg), (34, Hg), (35, Hg), (36, Hg), (41, Hg), (42, Ht)] [1, 3, 62] [0, 1] 2 [Pp 0, Pp 1, .bool true] [Vb 54 (v_T_api_Event e_1), Vb 92 (v_T_event_form r_1.1)] hmix (ac gg_2 (ac gg_2 (ac gg_2 (ac gg_2 (ac gg_3 (ac gg_3 (ac gg_3 (ac gg_2 (ac gg_3 (ac gg_2 (ar false (ar false (ar false (ar false (ac gg_15 (ac gg_15 (ac gg_15 (ar false (ac gg_15 (ar false (ar false (ar false (ar false (ar false (ac gg_21 (ac gg_21 (ac gg_21 (ar false (ac gg_21 (ar false (ac gg_22 (ac gg_22 (ac gg_22 (ac gg_22 (ac gg_22 (ac gg_22 an)))))))))))))))))))))))))))))))))))) ?_
       cases h
       exact ⟨rfl, (sw [0, 1] [] [.s 1, .s 3, .s 62] [.s 0, .s 1] an)⟩
      ·replace h := cond_f gg_22 h
       rcases bft (!r_1.1.stack) with gg_23 | gg_23
       ·replace h := cond_t gg_23 h
        refine rg [(7, Hg), (8, Hg), (9, Hg), (10, Hf), (11, Hf), (17, Hg), (18, Hg), (19, Hg), (20, Hf), (21, Hf), (30, Ht), (31, Hf), (39, { n := (e_1.Stack).length }), (41, Ht), (42, Hf)] [1, 3, 62] [0, 1] 2 [Pp 0, Pp 1, .bool (decide ((lN (e_1.Stack)) > (0 : Int)))] [Vb 54 (v_T_api_Event e_1), Vb 92 (v_T_event_form r_1.1)] hmix (ac gg_2 (ac gg_2 (ac gg_2 (ac gg_2 (ac gg_3 (ac gg_3 (ac gg_3 (ac gg_2 (ac gg_3 (ac gg_2 (ar false (ar false (ar false (ar false (ac gg_15 (ac gg_15 (ac gg_15 (ar false (ac gg_15 (ar false (ar false (ar false (ar false (ar false (ac gg_21 (ac gg_21 (ac gg_21 (ar false (ac gg_21 (ar false (ac gg_22 (ac gg_22 (ac gg_22 (ac gg_22 (ac gg_23 (ac gg_23 (ac gg_23 (ac (vc_len _ : ((Ms e_1.Stack)).length = (e_1.Stack).length) (ac gg_23 (ac gg_22 (ac gg_23 (ac gg_22 an)))))))))))))))))))))))))))))))))))))))))) ?_
        cases h
        exact ⟨rfl, (sw [0, 1] [] [.s 1, .s 3, .s 62] [.s 0, .s 1] an)⟩
       ·replace h := cond_f gg_23 h
        refine rg [(7, Hg), (8, Hg), (9, Hg), (10, Hf), (11, Hf), (17, Hg), (18, Hg), (19, Hg), (20, Hf), (21, Hf), (30, Ht), (31, Hf), (37, Hg), (38, Hg), (39, Hg), (40, Hg), (41, Hf), (42, Hf)] [1, 3, 62] [0, 1] 2 [Pp 0, Pp 1, .bool false] [Vb 54 (v_T_api_Event e_1), Vb 92 (v_T_event_form r_1.1)] hmix (ac gg_2 (ac gg_2 (ac gg_2 (ac gg_2 (ac gg_3 (ac gg_3 (ac gg_3 (ac gg_2 (ac gg_3 (ac gg_2 (ar false (ar false (ar false (ar false (ac gg_15 (ac gg_15 (ac gg_15 (ar false (ac gg_15 (ar false (ar false (ar false (ar false (ar false (ac gg_21 (ac gg_21 (ac gg_21 (ar false (ac gg_21 (ar false (ac gg_22 (ac gg_22 (ac gg_22 (ac gg_22 (ac gg_23 (ac gg_23 (ac gg_23 (ac gg_23 (ac gg_22 (ac gg_23 (ac gg_22 an))))))))))))))))))))))))))))))))))))))))) ?_
        cases h
        exact ⟨rfl, (sw [0, 1] [] [.s 1, .s 3, .s 62] [.s 0, .s 1] an)⟩
     ·replace h := cond_f gg_21 h
      rcases bft (!r_1.1.stack) with gg_24 | gg_24
      ·replace h := cond_t gg_24 h
       refine rg [(7, Hg), (8, Hg), (9, Hg), (10, Hf), (11, Hf), (17, Hg), (18, Hg), (19, Hg), (20, Hf), (21, Hf), (27, Hg), (28, Hg), (29, Hg), (30, Hf), (31, Hf), (39, { n := (e_1.Stack).length }), (41, Ht), (42, Hf)] [1, 3, 62] [0, 1] 2 [Pp 0, Pp 1, .bool (decide ((lN (e_1.Stack)) > (0 : Int)))] [Vb 54 (v_T_api_Event e_1), Vb 92 (v_T_event_form r_1.1)] hmix (ac gg_2 (ac gg_2 (ac gg_2 (ac gg_2 (ac gg_3 (ac gg_3 (ac gg_3 (ac gg_2 (ac gg_3 (ac gg_2 (ar false (ar false (ar false (ar false (ac gg_15 (ac gg_15 (ac gg_15 (ar false (ac gg_15 (ar false (ar false (ar false (ar false (ar false (ac gg_21 (ac gg_21 (ac gg_21 (ar false (ac gg_21 (ar false (ar false (ar false (ar false (ar false (ac gg_24 (ac gg_24 (ac gg_24 (ac (vc_len _ : ((Ms e_1.Stack)).length = (e_1.Stack).length) (ac gg_24 (ar false (ac gg_24 (ar false an)))))))))))))))))))))))))))))))))))))))))) ?_
       cases h
       exact ⟨rfl, (sw [0, 1] [] [.s 1, .s 3, .s 62] [.s 0, .s 1] an)⟩
      ·replace h := cond_f gg_24 h
       refine rg [(7, Hg), (8, Hg), (9, Hg), (10, Hf), (11, Hf), (17, Hg), (18, Hg), (19, Hg), (20, Hf), (21, Hf), (27, Hg), (28, Hg), (29, Hg), (30, Hf), (31, Hf), (37, Hg), (38, Hg), (39, Hg), (40, Hg), (41, Hf), (42, Hf)] [1, 3, 62] [0, 1] 2 [Pp 0, Pp 1, .bool false] [Vb 54 (v_T_api_Event e_1), Vb 92 (v_T_event_form r_1.1)] hmix (ac gg_2 (ac gg_2 (ac gg_2 (ac gg_2 (ac gg_3 (ac gg_3 (ac gg_3 (ac gg_2 (ac gg_3 (ac gg_2 (ar false (ar false (ar false (ar false (ac gg_15 (ac gg_15 (ac gg_15 (ar false (ac gg_15 (ar false (ar false (ar false (ar false (ar false (ac gg_21 (ac gg_21 (ac gg_21 (ar false (ac gg_21 (ar false (ar false (ar false (ar false (ar false (ac gg_24 (ac gg_24 (ac gg_24 (ac gg_24 (ar false (ac gg_24 (ar false an))))))))))))))))))))))))))))))))))))))))) ?_
       cases h
       exact ⟨rfl, (sw [0, 1] [] [.s 1, .s 3, .s 62] [.s 0, .s 1] an)⟩
 refine cd 62 p_1 ?_ ?_
 ·intro g_2; replace h := cond_t g_2 h
  refine sr [] [2] [] 2 [Ii 1] [] hmix an ?_
  refine rt ?_
  cases h
  exact ⟨.inr rfl, Nat.le_of_ble_eq_true rfl, by kernel_rfl⟩
 intro g_2; replace h := cond_f g_2 h
 refine sk ?_
 refine sq ?_
 refine sq ?_
 obtain ⟨r_2, h_3, h⟩ := bind_some h
 refine rg [(2, { av := Ii r_2, l := [e_T_event_form r_1.1, e_T_api_Event e_1] })] [1, 3, 5] [0, 1] 2 [Pp 0, Pp 1, Ii r_2] [Vb 54 (v_T_api_Event e_1), Vb 92 (v_T_event_form r_1.1)] hmix (ar ([e_T_event_form r_1.1, e_T_api_Event e_1] : List AV) (ac (rfl : ([] : List BoxSt) = []) (ac (event_names_ok F r_1.1 e_1 r_2 h_3 : TripleG prog 73 [] [] [e_T_event_form r_1.1, e_T_api_Event e_1] [] (Ii r_2)) an))) ?_
 refine sr [] [1, 3, 5, 67] [0, 1] 2 [Pp 0, Pp 1, Ii r_2, .bool (r_2 != (0 : Int))] [Vb 54 (v_T_api_Event e_1), Vb 92 (v_T_event_form r_1.1)] hmix an ?_
 refine cd 67 (r_2 != (0 : Int)) ?_ ?_
 ·intro g_3; replace h := cond_t g_3 h
  refine sr [] [2] [] 2 [Ii r_2] [] hmix an ?_
  refine rt ?_
  cases h
  exact ⟨.inr rfl, Nat.le_of_ble_eq_true rfl, by kernel_rfl⟩
 intro g_3; replace h := cond_f g_3 h
 refine sk ?_
 refine sq ?_
 refine aw_block (id := 0) (by kernel_rfl) ?_
 refine sq ?_
 refine aw_mid (mk [(1, Pp 0), (3, Pp 1), (69, .bool (r_1.1.n && (decide (e_1.N < r_1.1.least) || decide (e_1.N > r_1.1.most))))] [(0, Vb 54 (v_T_api_Event e_1)), (1, Vb 92 (v_T_event_form r_1.1))] 2) ?_ ?_
 ·rcases Bool.eq_false_or_eq_true r_1.1.n with gg_25 | gg_25
  ·rcases bft (decide (e_1.N < r_1.1.least)) with gg_26 | gg_26
   ·refine rg [(9, Hg), (10, Hg), (11, Hg), (12, Hg), (13, Hg), (14, Ht), (15, Ht)] [1, 3, 69] [0, 1] 2 [Pp 0, Pp 1, .bool true] [Vb 54 (v_T_api_Event e_1), Vb 92 (v_T_event_form r_1.1)] hmix (ac gg_25 (ac gg_25 (ac gg_25 (ac gg_25 (ac gg_25 (ac gg_25 (ac gg_26 (ac gg_26 (ac gg_26 (ac gg_26 (ac gg_26 (ac gg_25 (ac gg_26 (ac gg_25 an)))))))))))))) ?_
    exact ⟨rfl, (sw [0, 1] [] [.s 1, .s 3, .a 69 (.bool (r_1.1.n && (decide (e_1.N < r_1.1.least) || decide (e_1.N > r_1.1.most))))] [.s 0, .s 1] (ac (congrArg AV.bool (andt gg_25 (ort gg_26)) : (.bool true : AV) = .bool (r_1.1.n && (decide (e_1.N < r_1.1.least) || decide (e_1.N > r_1.1.most)))) an))⟩
   ·refine rg [(14, Hf), (15, Ht)] [1, 3, 69] [0, 1] 2 [Pp 0, Pp 1, .bool (decide (e_1.N > r_1.1.most))] [Vb 54 (v_T_api_Event e_1), Vb 92 (v_T_event_form r_1.1)] hmix (ac gg_25 (ac gg_25 (ac gg_25 (ac gg_25 (ac gg_25 (ac gg_25 (ac gg_26 (ac gg_26 (ac gg_26 (ac gg_26 (ac gg_26 (ac gg_25 (ac gg_26 (ac gg_25 an)))))))))))))) ?_
    exact ⟨rfl, (sw [0, 1] [] [.s 1, .s 3, .a 69 (.bool (r_1.1.n && (decide (e_1.N < r_1.1.least) || decide (e_1.N > r_1.1.most))))] [.s 0, .s 1] (ac (congrArg AV.bool (andt gg_25 (orf gg_26 rfl)) : (.bool (decide (e_1.N > r_1.1.most)) : AV) = .bool (r_1.1.n && (decide (e_1.N < r_1.1.least) || decide (e_1.N > r_1.1.most)))) an))⟩
  ·refine rg [(3, Hg), (4, Hg), (5, Hg), (6, Hg), (7, Hg), (8, Hg), (14, Hg), (15, Hf)] [1, 3, 69] [0, 1] 2 [Pp 0, Pp 1, .bool false] [Vb 54 (v_T_api_Event e_1), Vb 92 (v_T_event_form r_1.1)] hmix (ac gg_25 (ac gg_25 (ac gg_25 (ac gg_25 (ac gg_25 (ac gg_25 (ac gg_25 (ac gg_25 an)))))))) ?_
   exact ⟨rfl, (sw [0, 1] [] [.s 1, .s 3, .a 69 (.bool (r_1.1.n && (decide (e_1.N < r_1.1.least) || decide (e_1.N > r_1.1.most))))] [.s 0, .s 1] (ac (congrArg AV.bool (andf gg_25) : (.bool false : AV) = .bool (r_1.1.n && (decide (e_1.N < r_1.1.least) || decide (e_1.N > r_1.1.most)))) an))⟩
 refine cd 69 (r_1.1.n && (decide (e_1.N < r_1.1.least) || decide (e_1.N > r_1.1.most))) ?_ ?_
 ·intro g_4; replace h := cond_t g_4 h
  refine sr [] [2] [] 2 [Ii 2] [] hmix an ?_
  refine rt ?_
  cases h
  exact ⟨.inr rfl, Nat.le_of_ble_eq_true rfl, by kernel_rfl⟩
 intro g_4; replace h := cond_f g_4 h
 refine sq ?_
 refine aw_mid (mk [(1, Pp 0), (3, Pp 1), (86, .bool ((e_1.Kind == (9 : Int)) && ((e_1.N != (2 : Int)) && (e_1.M != (0 : Int)))))] [(0, Vb 54 (v_T_api_Event e_1)), (1, Vb 92 (v_T_event_form r_1.1))] 2) ?_ ?_
 ·rcases bft (e_1.Kind == (9 : Int)) with gg_27 | gg_27
  ·rcases bft (e_1.N != (2 : Int)) with gg_28 | gg_28
   ·refine rg [(7, Ht), (12, Ht)] [1, 3, 86] [0, 1] 2 [Pp 0, Pp 1, .bool (e_1.M != (0 : Int))] [Vb 54 (v_T_api_Event e_1), Vb 92 (v_T_event_form r_1.1)] hmix (ac gg_27 (ac gg_27 (ac gg_27 (ac gg_27 (ac gg_28 (ac gg_28 (ac gg_28 (ac gg_28 an)))))))) ?_
    exact ⟨rfl, (sw [0, 1] [] [.s 1, .s 3, .a 86 (.bool ((e_1.Kind == (9 : Int)) && ((e_1.N != (2 : Int)) && (e_1.M != (0 : Int)))))] [.s 0, .s 1] (ac (congrArg AV.bool (andt gg_27 (andt gg_28 rfl)) : (.bool (e_1.M != (0 : Int)) : AV) = .bool ((e_1.Kind == (9 : Int)) && ((e_1.N != (2 : Int)) && (e_1.M != (0 : Int))))) an))⟩
   ·refine rg [(7, Ht), (9, Hg), (10, Hg), (11, Hg), (12, Hf)] [1, 3, 86] [0, 1] 2 [Pp 0, Pp 1, .bool false] [Vb 54 (v_T_api_Event e_1), Vb 92 (v_T_event_form r_1.1)] hmix (ac gg_27 (ac gg_27 (ac gg_27 (ac gg_27 (ac gg_28 (ac gg_28 (ac gg_28 (ac gg_28 an)))))))) ?_
    exact ⟨rfl, (sw [0, 1] [] [.s 1, .s 3, .a 86 (.bool ((e_1.Kind == (9 : Int)) && ((e_1.N != (2 : Int)) && (e_1.M != (0 : Int)))))] [.s 0, .s 1] (ac (congrArg AV.bool (andt gg_27 (andf gg_28)) : (.bool false : AV) = .bool ((e_1.Kind == (9 : Int)) && ((e_1.N != (2 : Int)) && (e_1.M != (0 : Int))))) an))⟩
  ·refine rg [(4, Hg), (5, Hg), (6, Hg), (7, Hf), (9, Hg), (10, Hg), (11, Hg), (12, Hf)] [1, 3, 86] [0, 1] 2 [Pp 0, Pp 1, .bool false] [Vb 54 (v_T_api_Event e_1), Vb 92 (v_T_event_form r_1.1)] hmix (ac gg_27 (ac gg_27 (ac gg_27 (ac gg_27 (ac (rfl : false = !true) (ac (rfl : false = !true) (ac (rfl : false = !true) (ar false an)))))))) ?_
   exact ⟨rfl, (sw [0, 1] [] [.s 1, .s 3, .a 86 (.bool ((e_1.Kind == (9 : Int)) && ((e_1.N != (2 : Int)) && (e_1.M != (0 : Int)))))] [.s 0, .s 1] (ac (congrArg AV.bool (andf gg_27) : (.bool false : AV) = .bool ((e_1.Kind == (9 : Int)) && ((e_1.N != (2 : Int)) && (e_1.M != (0 : Int))))) an))⟩
 refine cd 86 ((e_1.Kind == (9 : Int)) && ((e_1.N != (2 : Int)) && (e_1.M != (0 : Int)))) ?_ ?_
 ·intro g_5; replace h := cond_t g_5 h
  refine sr [] [2] [] 2 [Ii 1] [] hmix an ?_
  refine rt ?_
  cases h
  exact ⟨.inr rfl, Nat.le_of_ble_eq_true rfl, by kernel_rfl⟩
 intro g_5; replace h := cond_f g_5 h
 refine sq ?_
 refine aw_mid (mk [(100, .bool (r_1.1.m && (bif decide (e_1.M < r_1.1.mLeast) then ((e_1.Kind != (9 : Int)) || (e_1.N == (2 : Int))) else (decide (e_1.M > r_1.1.mMost) && ((e_1.Kind != (9 : Int)) || (e_1.N == (2 : Int)))))))] [] 0) ?_ ?_
 ·rcases Bool.eq_false_or_eq_true r_1.1.m with gg_29 | gg_29
  ·rcases bft (decide (e_1.M < r_1.1.mLeast)) with gg_30 | gg_30
   ·rcases bft (e_1.Kind != (9 : Int)) with gg_31 | gg_31
    ·refine rg [(9, Hg), (10, Hg), (11, Hg), (12, Hg), (13, Hg), (14, Ht), (15, Ht), (21, Hg), (22, Hg), (23, Hg), (24, Ht), (25, Ht)] [100] [] 2 [.bool true] [] hmix (ac gg_29 (ac gg_29 (ac gg_29 (ac gg_29 (ac gg_29 (ac gg_29 (ac gg_30 (ac gg_30 (ac gg_30 (ac gg_30 (ac gg_30 (ac gg_29 (ac gg_30 (ac gg_29 (ar true (ar true (ar true (ar true (ac gg_31 (ac gg_31 (ac gg_31 (ar true (ac gg_31 (ar true an)))))))))))))))))))))))) ?_
     exact ⟨rfl, (sw [] [] [.a 100 (.bool (r_1.1.m && (bif decide (e_1.M < r_1.1.mLeast) then ((e_1.Kind != (9 : Int)) || (e_1.N == (2 : Int))) else (decide (e_1.M > r_1.1.mMost) && ((e_1.Kind != (9 : Int)) || (e_1.N == (2 : Int)))))))] [] (ac (congrArg AV.bool (andt gg_29 (ctr gg_30 (ort gg_31))) : (.bool true : AV) = .bool (r_1.1.m && (bif decide (e_1.M < r_1.1.mLeast) then ((e_1.Kind != (9 : Int)) || (e_1.N == (2 : Int))) else (decide (e_1.M > r_1.1.mMost) && ((e_1.Kind != (9 : Int)) || (e_1.N == (2 : Int))))))) an))⟩
    ·refine rg [(9, Hg), (10, Hg), (11, Hg), (12, Hg), (13, Hg), (14, Ht), (15, Ht), (24, Hf), (25, Ht)] [100] [] 2 [.bool (e_1.N == (2 : Int))] [] hmix (ac gg_29 (ac gg_29 (ac gg_29 (ac gg_29 (ac gg_29 (ac gg_29 (ac gg_30 (ac gg_30 (ac gg_30 (ac gg_30 (ac gg_30 (ac gg_29 (ac gg_30 (ac gg_29 (ar true (ar true (ar true (ar true (ac gg_31 (ac gg_31 (ac gg_31 (ar true (ac gg_31 (ar true an)))))))))))))))))))))))) ?_
     exact ⟨rfl, (sw [] [] [.a 100 (.bool (r_1.1.m && (bif decide (e_1.M < r_1.1.mLeast) then ((e_1.Kind != (9 : Int)) || (e_1.N == (2 : Int))) else (decide (e_1.M > r_1.1.mMost) && ((e_1.Kind != (9 : Int)) || (e_1.N == (2 : Int)))))))] [] (ac (congrArg AV.bool (andt gg_29 (ctr gg_30 (orf gg_31 rfl))) : (.bool (e_1.N == (2 : Int)) : AV) = .bool (r_1.1.m && (bif decide (e_1.M < r_1.1.mLeast) then ((e_1.Kind != (9 : Int)) || (e_1.N == (2 : Int))) else (decide (e_1.M > r_1.1.mMost) && ((e_1.Kind != (9 : Int)) || (e_1.N == (2 : Int))))))) an))⟩
   ·rcases bft (decide (e_1.M > r_1.1.mMost)) with gg_32 | gg_32
    ·rcases bft (e_1.Kind != (9 : Int)) with gg_33 | gg_33
     ·refine rg [(14, Hf), (15, Ht), (21, Hg), (22, Hg), (23, Hg), (24, Ht), (25, Ht)] [100] [] 2 [.bool true] [] hmix (ac gg_29 (ac gg_29 (ac gg_29 (ac gg_29 (ac gg_29 (ac gg_29 (ac gg_30 (ac gg_30 (ac gg_30 (ac gg_30 (ac gg_30 (ac gg_29 (ac gg_30 (ac gg_29 (ac gg_32 (ac gg_32 (ac gg_32 (ac gg_32 (ac gg_33 (ac gg_33 (ac gg_33 (ac gg_32 (ac gg_33 (ac gg_32 an)))))))))))))))))))))))) ?_
      exact ⟨rfl, (sw [] [] [.a 100 (.bool (r_1.1.m && (bif decide (e_1.M < r_1.1.mLeast) then ((e_1.Kind != (9 : Int)) || (e_1.N == (2 : Int))) else (decide (e_1.M > r_1.1.mMost) && ((e_1.Kind != (9 : Int)) || (e_1.N == (2 : Int)))))))] [] (ac (congrArg AV.bool (andt gg_29 (cfr gg_30 (andt gg_32 (ort gg_33)))) : (.bool true : AV) = .bool (r_1.1.m && (bif decide (e_1.M < r_1.1.mLeast) then ((e_1.Kind != (9 : Int)) || (e_1.N == (2 : Int))) else (decide (e_1.M > r_1.1.mMost) && ((e_1.Kind != (9 : Int)) || (e_1.N == (2 : Int))))))) an))⟩
     ·refine rg [(14, Hf), (15, Ht), (24, Hf), (25, Ht)] [100] [] 2 [.bool (e_1.N == (2 : Int))] [] hmix (ac gg_29 (ac gg_29 (ac gg_29 (ac gg_29 (ac gg_29 (ac gg_29 (ac gg_30 (ac gg_30 (ac gg_30 (ac gg_30 (ac gg_30 (ac gg_29 (ac gg_30 (ac gg_29 (ac gg_32 (ac gg_32 (ac gg_32 (ac gg_32 (ac gg_33 (ac gg_33 (ac gg_33 (ac gg_32 (ac gg_33 (ac gg_32 an)))))))))))))))))))))))) ?_
      exact ⟨rfl, (sw [] [] [.a 100 (.bool (r_1.1.m && (bif decide (e_1.M < r_1.1.mLeast) then ((e_1.Kind != (9 : Int)) || (e_1.N == (2 : Int))) else (decide (e_1.M > r_1.1.mMost) && ((e_1.Kind != (9 : Int)) || (e_1.N == (2 : Int)))))))] [] (ac (congrArg AV.bool (andt gg_29 (cfr gg_30 (andt gg_32 (orf gg_33 rfl)))) : (.bool (e_1.N == (2 : Int)) : AV) = .bool (r_1.1.m && (bif decide (e_1.M < r_1.1.mLeast) then ((e_1.Kind != (9 : Int)) || (e_1.N == (2 : Int))) else (decide (e_1.M > r_1.1.mMost) && ((e_1.Kind != (9 : Int)) || (e_1.N == (2 : Int))))))) an))⟩
    ·refine rg [(14, Hf), (15, Ht), (17, Hg), (18, Hg), (19, Hg), (20, Hg), (24, Hg), (25, Hf)] [100] [] 2 [.bool false] [] hmix (ac gg_29 (ac gg_29 (ac gg_29 (ac gg_29 (ac gg_29 (ac gg_29 (ac gg_30 (ac gg_30 (ac gg_30 (ac gg_30 (ac gg_30 (ac gg_29 (ac gg_30 (ac gg_29 (ac gg_32 (ac gg_32 (ac gg_32 (ac gg_32 (ac gg_32 (ac gg_32 an)))))))))))))))))))) ?_
     exact ⟨rfl, (sw [] [] [.a 100 (.bool (r_1.1.m && (bif decide (e_1.M < r_1.1.mLeast) then ((e_1.Kind != (9 : Int)) || (e_1.N == (2 : Int))) else (decide (e_1.M > r_1.1.mMost) && ((e_1.Kind != (9 : Int)) || (e_1.N == (2 : Int)))))))] [] (ac (congrArg AV.bool (andt gg_29 (cfr gg_30 (andf gg_32))) : (.bool false : AV) = .bool (r_1.1.m && (bif decide (e_1.M < r_1.1.mLeast) then ((e_1.Kind != (9 : Int)) || (e_1.N == (2 : Int))) else (decide (e_1.M > r_1.1.mMost) && ((e_1.Kind != (9 : Int)) || (e_1.N == (2 : Int))))))) an))⟩
  ·refine rg [(3, Hg), (4, Hg), (5, Hg), (6, Hg), (7, Hg), (8, Hg), (14, Hg), (15, Hf), (17, Hg), (18, Hg), (19, Hg), (20, Hg), (24, Hg), (25, Hf)] [100] [] 2 [.bool false] [] hmix (ac gg_29 (ac gg_29 (ac gg_29 (ac gg_29 (ac gg_29 (ac gg_29 (ac gg_29 (ac gg_29 (ac (rfl : false = !true) (ac (rfl : false = !true) (ac (rfl : false = !true) (ac (rfl : false = !true) (ac (rfl : false = !true) (ar false an)))))))))))))) ?_
   exact ⟨rfl, (sw [] [] [.a 100 (.bool (r_1.1.m && (bif decide (e_1.M < r_1.1.mLeast) then ((e_1.Kind != (9 : Int)) || (e_1.N == (2 : Int))) else (decide (e_1.M > r_1.1.mMost) && ((e_1.Kind != (9 : Int)) || (e_1.N == (2 : Int)))))))] [] (ac (congrArg AV.bool (andf gg_29) : (.bool false : AV) = .bool (r_1.1.m && (bif decide (e_1.M < r_1.1.mLeast) then ((e_1.Kind != (9 : Int)) || (e_1.N == (2 : Int))) else (decide (e_1.M > r_1.1.mMost) && ((e_1.Kind != (9 : Int)) || (e_1.N == (2 : Int))))))) an))⟩
 refine cd 100 (r_1.1.m && (bif decide (e_1.M < r_1.1.mLeast) then ((e_1.Kind != (9 : Int)) || (e_1.N == (2 : Int))) else (decide (e_1.M > r_1.1.mMost) && ((e_1.Kind != (9 : Int)) || (e_1.N == (2 : Int)))))) ?_ ?_
 ·intro g_6; replace h := cond_t g_6 h
  refine sr [] [2] [] 0 [Ii 2] [] hmix an ?_
  refine rt ?_
  cases h
  exact ⟨.inr rfl, Nat.le_of_ble_eq_true rfl, by kernel_rfl⟩
 intro g_6; replace h := cond_f g_6 h
 refine sk ?_
 refine sr [] [2] [] 0 [Ii 0] [] hmix an ?_
 refine rt ?_
 cases h
 exact ⟨.inr rfl, Nat.le_of_ble_eq_true rfl, by kernel_rfl⟩

theorem event_CheckAll_ok (F : Nat) (l_1 : List (T_api_Event)) (r : Int) (h : event_CheckAll F l_1 = some r) : TripleG prog 58 [] [] [.sl false 6 (Mp e_T_api_Event l_1)] [] (Ii r) := by
 refine triple_intro (fn := Go.Proofs.Try.f58) (code := codeOf Go.Proofs.Try.f58) (by kernel_rfl) (by kernel_rfl) (Nat.le_of_ble_eq_true (by kernel_rfl)) ?_
 unfold event_CheckAll at h
 refine sr [] [0] [] 0 [.sl false 6 (Mp e_T_api_Event l_1)] [] hmix an ?_
 refine sq ?_
 refine sr [(1, { n := (l_1).length })] [0, 6, 7, 8] [] 0 [.sl false 6 (Mp e_T_api_Event l_1), .sl false 6 (Mp e_T_api_Event l_1), Ii (lN (l_1)), Ii 0] [] hmix (ac (vc_len _ : ((Mp e_T_api_Event l_1)).length = (l_1).length) an) ?_
 obtain ⟨o_1, h_1, h⟩ := bind_some h
 refine aw_conv (K1 := (fun e st' => match o_1 with | (.inl q0) => e = .normal ∧ Sub 0 st' (mk [] [] 0) | (.inr q1) => e = .ret ∧ FinR prog Go.Proofs.Try.f58 0 [] (Ii q1) st')) ?_ ?_
 ·replace h := h_1
  refine aw_block (id := 0) (by kernel_rfl) ?_
  refine wk [] [] [.s 0, .s 6, .s 7, .s 8] [] [(0, .sl false 6 (Mp e_T_api_Event l_1)), (6, .sl false 6 (Mp e_T_api_Event l_1)), (7, Ii (lN (l_1))), (8, Ii 0)] [] an ?_
  refine aw_loopF (fun n st => ∃ (v_1 : Int), st = mk [(0, .sl false 6 (Mp e_T_api_Event l_1)), (6, .sl false 6 (Mp e_T_api_Event l_1)), (7, Ii (lN (l_1))), (8, Ii v_1)] [] 0 ∧ event_CheckAll_L1 F l_1 n v_1 = some o_1) F (by kernel_rfl) ⟨_, rfl, h⟩ ?_ ?_
  ·rintro _ ⟨_, _, h⟩; exact none_ne (h : (none : Option (Unit ⊕ Int)) = some o_1)
  rintro n_1 _ ⟨v_1, rfl, h⟩
  replace h : event_CheckAll_L1_body F l_1 (event_CheckAll_L1 F l_1 n_1) v_1 = some o_1 := h
  unfold event_CheckAll_L1_body at h
  refine sr [] [0, 6, 7, 8, 9] [] 0 [.sl false 6 (Mp e_T_api_Event l_1), .sl false 6 (Mp e_T_api_Event l_1), Ii (lN (l_1)), Ii v_1, .bool (decide (v_1 < (lN (l_1))))] [] hmix an ?_
  refine sq ?_
  refine cd 9 (decide (v_1 < (lN (l_1)))) ?_ ?_
  rotate_left
  ·intro g_1; replace h := cond_f g_1 h
   refine aw_exit (id := 0) (by kernel_rfl) ?_
   cases h
   exact ⟨rfl, (sw [] [] [] [] an)⟩
  intro g_1; replace h := cond_t g_1 h
  refine sk ?_
  refine sq ?_
  refine aw_block (id := 1) (by kernel_rfl) ?_
  refine sq ?_
  obtain ⟨x_1, h_2, h⟩ := bind_some h
  refine rg [(1, { av := e_T_api_Event x_1 }), (3, { id := 0 })] [0, 3, 4, 6, 7, 8] [0] 1 [.sl false 6 (Mp e_T_api_Event l_1), Ii v_1, Pp 0, .sl false 6 (Mp e_T_api_Event l_1), Ii (lN (l_1)), Ii v_1] [Vb 54 (v_T_api_Event x_1)] hmix (ac (vc_idx h_2 : idxA (Mp e_T_api_Event l_1) v_1 = some (e_T_api_Event x_1)) an) ?_
  refine sq ?_
  refine sq ?_
  obtain ⟨r_1, h_3, h⟩ := bind_some h
  refine rg [(1, { av := Ii r_1, l := [e_T_api_Event x_1] })] [0, 3, 4, 5, 6, 7, 8] [0] 1 [.sl false 6 (Mp e_T_api_Event l_1), Ii v_1, Pp 0, Ii r_1, .sl false 6 (Mp e_T_api_Event l_1), Ii (lN (l_1)), Ii v_1] [Vb 54 (v_T_api_Event x_1)] hmix (ar ([e_T_api_Event x_1] : List AV) (ac (rfl : ([] : List BoxSt) = []) (ac (event_Check_ok F x_1 r_1 h_3 : TripleG prog 67 [] [] [e_T_api_Event x_1] [] (Ii r_1)) an))) ?_
  refine sr [] [0, 3, 4, 5, 6, 7, 8, 16] [0] 1 [.sl false 6 (Mp e_T_api_Event l_1), Ii v_1, Pp 0, Ii r_1, .sl false 6 (Mp e_T_api_Event l_1), Ii (lN (l_1)), Ii v_1, .bool (r_1 != (0 : Int))] [Vb 54 (v_T_api_Event x_1)] hmix an ?_
  refine cd 16 (r_1 != (0 : Int)) ?_ ?_
  ·intro g_2; replace h := cond_t g_2 h
   refine sr [] [2] [] 1 [Ii r_1] [] hmix an ?_
   refine rt ?_
   cases h
   exact ⟨rfl, Nat.le_of_ble_eq_true rfl, by kernel_rfl⟩
  intro g_2; replace h := cond_f g_2 h
  refine sk ?_
  refine sq ?_
  obtain ⟨p_1, h_5, h⟩ := bind_some h
  refine aw_mid (mk [(0, .sl false 6 (Mp e_T_api_Event l_1)), (6, .sl false 6 (Mp e_T_api_Event l_1)), (7, Ii (lN (l_1))), (8, Ii v_1), (30, .bool p_1)] [] 0) ?_ ?_
  ·replace h := h_5
   rcases bft (decide (v_1 > (0 : Int))) with gg_4 | gg_4
   ·replace h := cond_t gg_4 h
    obtain ⟨x_2, h_4, h⟩ := bind_some h
    refine rg [(8, { av := e_T_api_Event x_2 }), (12, Ht)] [0, 6, 7, 8, 21, 22, 23, 24, 25, 26, 27, 28, 29, 30] [0] 1 [.sl false 6 (Mp e_T_api_Event l_1), .sl false 6 (Mp e_T_api_Event l_1), Ii (lN (l_1)), Ii v_1, Pp 0, Ii x_1.At, .sl false 6 (Mp e_T_api_Event l_1), Ii v_1, Ii (w_i64 (v_1 - (1 : Int))), .ref (e_T_api_Event x_2), .ref (Ii x_2.At), Ii x_2.At, .bool (decide (x_1.At < x_2.At)), .bool (decide (x_1.At < x_2.At))] [Vb 54 (v_T_api_Event x_1)] hmix (ac gg_4 (ac gg_4 (ac gg_4 (ac gg_4 (ac gg_4 (ac gg_4 (ac (vc_idx h_4 : idxA (Mp e_T_api_Event l_1) (w_i64 (v_1 - (1 : Int))) = some (e_T_api_Event x_2)) (ac gg_4 (ac gg_4 (ac gg_4 (ac gg_4 an))))))))))) ?_
    cases h
    exact ⟨rfl, (sw [] [] [.s 0, .s 6, .s 7, .s 8, .s 30] [] an)⟩
   ·replace h := cond_f gg_4 h
    refine rg [(3, Hg), (4, Hg), (5, Hg), (6, Hg), (7, Hg), (8, Hg), (9, Hg), (10, Hg), (11, Hg), (12, Hf)] [0, 6, 7, 8, 21, 22, 23, 24, 25, 26, 27, 28, 29, 30] [] 1 [.sl false 6 (Mp e_T_api_Event l_1), .sl false 6 (Mp e_T_api_Event l_1), Ii (lN (l_1)), Ii v_1, .tuple [], .tuple [], .tuple [], .tuple [], .tuple [], .tuple [], .tuple [], .tuple [], .tuple [], .bool false] [] hmix (ac gg_4 (ac gg_4 (ac gg_4 (ac gg_4 (ac gg_4 (ac gg_4 (ac gg_4 (ac gg_4 (ac gg_4 (ac gg_4 an)))))))))) ?_
    cases h
    exact ⟨rfl, (sw [] [] [.s 0, .s 6, .s 7, .s 8, .s 30] [] an)⟩
  refine cd 30 p_1 ?_ ?_
  rotate_left
  ·intro g_3; replace h := cond_f g_3 h
   refine sk ?_
   refine rg [] [0, 6, 7, 8] [] 0 [.sl false 6 (Mp e_T_api_Event l_1), .sl false 6 (Mp e_T_api_Event l_1), Ii (lN (l_1)), Ii (w_i64 (v_1 + (1 : Int)))] [] hmix an ?_
   exact ⟨_, (sw [] [] [.s 0, .s 6, .s 7, .s 8] [] an), _, rfl, h⟩
  intro g_3; replace h := cond_t g_3 h
  refine sr [] [2] [] 0 [Ii 11] [] hmix an ?_
  refine rt ?_
  cases h
  exact ⟨rfl, Nat.le_of_ble_eq_true rfl, by kernel_rfl⟩
 intro e st1 hk
 rcases o_1 with q_1 | q_2
 rotate_left
 ·obtain ⟨rfl, hf⟩ := hk
  cases h
  exact ⟨st1, Sub.refl _ _, .inr rfl, hf⟩
 obtain ⟨rfl, hs⟩ := hk
 refine ⟨_, hs, ?_⟩
 refine sr [] [2] [] 0 [Ii 0] [] hmix an ?_
 refine rt ?_
 cases h
 exact ⟨.inr rfl, Nat.le_of_ble_eq_true rfl, by kernel_rfl⟩

theorem packet_Check_ok (F : Nat) (p_1 : T_api_Packet) (r : Int) (h : packet_Check F p_1 = some r) : TripleG prog 37 [] [] [e_T_api_Packet p_1] [] (Ii r) := by
 refine triple_intro (fn := Go.Proofs.Try.f37) (code := codeOf Go.Proofs.Try.f37) (by kernel_rfl) (by kernel_rfl) (Nat.le_of_ble_eq_true (by kernel_rfl)) ?_
 unfold packet_Check at h
 refine sr [(0, { id := 0 })] [1] [0] 1 [Pp 0] [Vb 43 (v_T_api_Packet p_1)] hmix an ?_
 refine sq ?_
 refine sr [(6, { id := 1 })] [1, 11, 12, 13] [0, 1] 2 [Pp 0, .own 1 3, Ii ((3 : Nat) : Int), Ii 0] [Vb 43 (v_T_api_Packet p_1), Rb 3 1 (Mi ([p_1.Thread, p_1.Serial, p_1.Lost] : List Int))] hmix an ?_
 obtain ⟨o_1, h_1, h⟩ := bind_some h
 refine aw_conv (K1 := (fun e st' => match o_1 with | (.inl q0) => e = .normal ∧ Sub 0 st' (mk [(1, Pp 0)] [(0, Vb 43 (v_T_api_Packet p_1))] 1) | (.inr q1) => e = .ret ∧ FinR prog Go.Proofs.Try.f37 0 [] (Ii q1) st')) ?_ ?_
 ·replace h := h_1
  refine aw_block (id := 0) (by kernel_rfl) ?_
  refine wk [0, 1] [] [.s 1, .a 11 (.own 1 ((([p_1.Thread, p_1.Serial, p_1.Lost] : List Int)).length)), .s 12, .s 13] [.s 0, .s 1] [(1, Pp 0), (11, .own 1 ((([p_1.Thread, p_1.Serial, p_1.Lost] : List Int)).length)), (12, Ii ((3 : Nat) : Int)), (13, Ii 0)] [(0, Vb 43 (v_T_api_Packet p_1)), (1, Rb 3 1 (Mi ([p_1.Thread, p_1.Serial, p_1.Lost] : List Int)))] (ac (congrArg (AV.own _) (by first | (simp; done) | (simp; omega)) : (.own 1 3 : AV) = .own 1 ((([p_1.Thread, p_1.Serial, p_1.Lost] : List Int)).length)) an) ?_
  refine aw_loopF (fun n st => ∃ (v_1 : Int), st = mk [(1, Pp 0), (11, .own 1 ((([p_1.Thread, p_1.Serial, p_1.Lost] : List Int)).length)), (12, Ii ((3 : Nat) : Int)), (13, Ii v_1)] [(0, Vb 43 (v_T_api_Packet p_1)), (1, Rb 3 1 (Mi ([p_1.Thread, p_1.Serial, p_1.Lost] : List Int)))] 2 ∧ packet_Check_L1 F p_1 n v_1 = some o_1) F (by kernel_rfl) ⟨_, rfl, h⟩ ?_ ?_
  ·rintro _ ⟨_, _, h⟩; exact none_ne (h : (none : Option (Unit ⊕ Int)) = some o_1)
  rintro n_1 _ ⟨v_1, rfl, h⟩
  replace h : packet_Check_L1_body F p_1 (packet_Check_L1 F p_1 n_1) v_1 = some o_1 := h
  unfold packet_Check_L1_body at h
  refine sr [] [1, 11, 12, 13, 14] [0, 1] 2 [Pp 0, .own 1 ((([p_1.Thread, p_1.Serial, p_1.Lost] : List Int)).length), Ii ((3 : Nat) : Int), Ii v_1, .bool (decide (v_1 < ((3 : Nat) : Int)))] [Vb 43 (v_T_api_Packet p_1), Rb 3 1 (Mi ([p_1.Thread, p_1.Serial, p_1.Lost] : List Int))] hmix an ?_
  refine sq ?_
  refine cd 14 (decide (v_1 < ((3 : Nat) : Int))) ?_ ?_
  rotate_left
  ·intro g_1; replace h := cond_f g_1 h
   refine aw_exit (id := 0) (by kernel_rfl) ?_
   cases h
   exact ⟨rfl, (sw [0] [] [.s 1] [.s 0] an)⟩
  intro g_1; replace h := cond_t g_1 h
  refine sk ?_
  refine sq ?_
  refine aw_block (id := 1) (by kernel_rfl) ?_
  refine sq ?_
  obtain ⟨x_1, h_2, h⟩ := bind_some h
  refine rg [(1, { av := Ii x_1 })] [1, 4, 11, 12, 13] [0, 1] 2 [Pp 0, Ii x_1, .own 1 ((([p_1.Thread, p_1.Serial, p_1.Lost] : List Int)).length), Ii ((3 : Nat) : Int), Ii v_1] [Vb 43 (v_T_api_Packet p_1), Rb 3 1 (Mi ([p_1.Thread, p_1.Serial, p_1.Lost] : List Int))] hmix (ac (idxL_lo h_2 : (0 : Int) ≤ v_1) (ac (by first | (simp; done) | simpa using idxL_hi h_2 : v_1 < (((([p_1.Thread, p_1.Serial, p_1.Lost] : List Int)).length : Nat) : Int)) (ac (vc_get h_2 : (Mi ([p_1.Thread, p_1.Serial, p_1.Lost] : List Int))[(v_1).toNat]? = some (Ii x_1)) an))) ?_
  refine sq ?_
  refine aw_mid (mk [(1, Pp 0), (11, .own 1 ((([p_1.Thread, p_1.Serial, p_1.Lost] : List Int)).length)), (12, Ii ((3 : Nat) : Int)), (13, Ii v_1), (22, .bool (decide (x_1 < (0 : Int)) || decide (x_1 > (1000000000000000 : Int))))] [(0, Vb 43 (v_T_api_Packet p_1)), (1, Rb 3 1 (Mi ([p_1.Thread, p_1.Serial, p_1.Lost] : List Int)))] 2) ?_ ?_
  ·rcases bft (decide (x_1 < (0 : Int))) with gg_4 | gg_4
   ·refine rg [(3, Hg), (4, Hg), (5, Ht)] [1, 11, 12, 13, 20, 21, 22] [0, 1] 2 [Pp 0, .own 1 ((([p_1.Thread, p_1.Serial, p_1.Lost] : List Int)).length), Ii ((3 : Nat) : Int), Ii v_1, .tuple [], .tuple [], .bool true] [Vb 43 (v_T_api_Packet p_1), Rb 3 1 (Mi ([p_1.Thread, p_1.Serial, p_1.Lost] : List Int))] hmix (ac gg_4 (ac gg_4 (ac gg_4 an))) ?_
    exact ⟨rfl, (sw [0, 1] [] [.s 1, .s 11, .s 12, .s 13, .a 22 (.bool (decide (x_1 < (0 : Int)) || decide (x_1 > (1000000000000000 : Int))))] [.s 0, .s 1] (ac (congrArg AV.bool (ort gg_4) : (.bool true : AV) = .bool (decide (x_1 < (0 : Int)) || decide (x_1 > (1000000000000000 : Int)))) an))⟩
   ·refine rg [(5, Hf)] [1, 11, 12, 13, 20, 21, 22] [0, 1] 2 [Pp 0, .own 1 ((([p_1.Thread, p_1.Serial, p_1.Lost] : List Int)).length), Ii ((3 : Nat) : Int), Ii v_1, Ii x_1, .bool (decide (x_1 > (1000000000000000 : Int))), .bool (decide (x_1 > (1000000000000000 : Int)))] [Vb 43 (v_T_api_Packet p_1), Rb 3 1 (Mi ([p_1.Thread, p_1.Serial, p_1.Lost] : List Int))] hmix (ac gg_4 (ac gg_4 (ac gg_4 an))) ?_
    exact ⟨rfl, (sw [0, 1] [] [.s 1, .s 11, .s 12, .s 13, .a 22 (.bool (decide (x_1 < (0 : Int)) || decide (x_1 > (1000000000000000 : Int))))] [.s 0, .s 1] (ac (congrArg AV.bool (orf gg_4 rfl) : (.bool (decide (x_1 > (1000000000000000 : Int))) : AV) = .bool (decide (x_1 < (0 : Int)) || decide (x_1 > (1000000000000000 : Int)))) an))⟩
  refine cd 22 (decide (x_1 < (0 : Int)) || decide (x_1 > (1000000000000000 : Int))) ?_ ?_
  rotate_left
  ·intro g_2; replace h := cond_f g_2 h
   refine sk ?_
   refine rg [] [1, 11, 12, 13] [0, 1] 2 [Pp 0, .own 1 ((([p_1.Thread, p_1.Serial, p_1.Lost] : List Int)).length), Ii ((3 : Nat) : Int), Ii (w_i64 (v_1 + (1 : Int)))] [Vb 43 (v_T_api_Packet p_1), Rb 3 1 (Mi ([p_1.Thread, p_1.Serial, p_1.Lost] : List Int))] hmix an ?_
   exact ⟨_, (sw [0, 1] [] [.s 1, .s 11, .s 12, .s 13] [.s 0, .s 1] an), _, rfl, h⟩
  intro g_2; replace h := cond_t g_2 h
  refine sr [] [2] [] 2 [Ii 2] [] hmix an ?_
  refine rt ?_
  cases h
  exact ⟨rfl, Nat.le_of_ble_eq_true rfl, by kernel_rfl⟩
 intro e st1 hk
 rcases o_1 with q_1 | q_2
 rotate_left
 ·obtain ⟨rfl, hf⟩ := hk
  cases h
  exact ⟨st1, Sub.refl _ _, .inr rfl, hf⟩
 obtain ⟨rfl, hs⟩ := hk
 refine ⟨_, hs, ?_⟩
 refine sq ?_
 refine aw_block (id := 2) (by kernel_rfl) ?_
 refine sq ?_
 refine sr [] [1, 24] [0] 1 [Pp 0, .bool (decide (p_1.Lost > p_1.Serial))] [Vb 43 (v_T_api_Packet p_1)] hmix an ?_
 obtain ⟨o_2, h_3, h⟩ := bind_some h
 refine aw_mid (mk [(1, Pp 0), (24, .bool o_2)] [(0, Vb 43 (v_T_api_Packet p_1))] 1) ?_ ?_
 ·replace h := h_3
  refine cd 24 (decide (p_1.Lost > p_1.Serial)) ?_ ?_
  ·intro g_3; replace h := cond_t g_3 h
   refine sk ?_
   cases h
   exact ⟨rfl, (sw [0] [] [.s 1, .s 24] [.s 0] an)⟩
  intro g_3; replace h := cond_f g_3 h
  refine rg [(4, { n := (p_1.Events).length })] [1, 24] [0] 1 [Pp 0, .bool (decide ((w_i64 (p_1.Serial + (lN (p_1.Events)))) > (1000000000000000 : Int)))] [Vb 43 (v_T_api_Packet p_1)] hmix (ac (vc_len _ : ((Mp e_T_api_Event p_1.Events)).length = (p_1.Events).length) an) ?_
  cases h
  exact ⟨rfl, (sw [0] [] [.s 1, .s 24] [.s 0] an)⟩
 refine cd 24 o_2 ?_ ?_
 ·intro g_4; replace h := cond_t g_4 h
  refine sr [] [2] [] 1 [Ii 2] [] hmix an ?_
  refine rt ?_
  cases h
  exact ⟨.inr rfl, Nat.le_of_ble_eq_true rfl, by kernel_rfl⟩
 intro g_4; replace h := cond_f g_4 h
 refine sr [(2, { n := (p_1.Events).length })] [1, 37] [0] 1 [Pp 0, .bool ((lN (p_1.Events)) == (0 : Int))] [Vb 43 (v_T_api_Packet p_1)] hmix (ac (vc_len _ : ((Mp e_T_api_Event p_1.Events)).length = (p_1.Events).length) an) ?_
 refine cd 37 ((lN (p_1.Events)) == (0 : Int)) ?_ ?_
 ·intro g_5; replace h := cond_t g_5 h
  refine sr [] [2] [] 1 [Ii 8] [] hmix an ?_
  refine rt ?_
  cases h
  exact ⟨.inr rfl, Nat.le_of_ble_eq_true rfl, by kernel_rfl⟩
 intro g_5; replace h := cond_f g_5 h
 refine sr [(2, { n := (p_1.Events).length })] [1, 42] [0] 1 [Pp 0, .bool (decide ((lN (p_1.Events)) > (1000 : Int)))] [Vb 43 (v_T_api_Packet p_1)] hmix (ac (vc_len _ : ((Mp e_T_api_Event p_1.Events)).length = (p_1.Events).length) an) ?_
 refine cd 42 (decide ((lN (p_1.Events)) > (1000 : Int))) ?_ ?_
 ·intro g_6; replace h := cond_t g_6 h
  refine sr [] [2] [] 1 [Ii 7] [] hmix an ?_
  refine rt ?_
  cases h
  exact ⟨.inr rfl, Nat.le_of_ble_eq_true rfl, by kernel_rfl⟩
 intro g_6; replace h := cond_f g_6 h
 refine sk ?_
 refine sq ?_
 obtain ⟨r_1, h_4, h⟩ := bind_some h
 refine rg [(2, { av := Ii r_1, l := [.sl false 6 (Mp e_T_api_Event p_1.Events)] })] [2] [] 1 [Ii r_1] [] hmix (ar ([.sl false 6 (Mp e_T_api_Event p_1.Events)] : List AV) (ac (rfl : ([] : List BoxSt) = []) (ac (event_CheckAll_ok F p_1.Events r_1 h_4 : TripleG prog 58 [] [] [.sl false 6 (Mp e_T_api_Event p_1.Events)] [] (Ii r_1)) an))) ?_
 refine rt ?_
 cases h
 exact ⟨.inr rfl, Nat.le_of_ble_eq_true rfl, by kernel_rfl⟩

theorem drain_end_ok (p_1 : T_api_Packet) (r : Int) (h : drain_end p_1 = some r) : TripleG prog 38 [] [] [e_T_api_Packet p_1] [] (Ii r) := by
 refine triple_intro (fn := Go.Proofs.Try.f38) (code := codeOf Go.Proofs.Try.f38) (by kernel_rfl) (by kernel_rfl) (Nat.le_of_ble_eq_true (by kernel_rfl)) ?_
 unfold drain_end at h
 refine sr [(0, { id := 0 })] [1] [0] 1 [Pp 0] [Vb 43 (v_T_api_Packet p_1)] hmix an ?_
 refine sr [(4, { n := (p_1.Events).length })] [2] [] 1 [Ii (w_i64 (p_1.Serial + (lN (p_1.Events))))] [] hmix (ac (vc_len _ : ((Mp e_T_api_Event p_1.Events)).length = (p_1.Events).length) an) ?_
 refine rt ?_
 cases h
 exact ⟨.inr rfl, Nat.le_of_ble_eq_true rfl, by kernel_rfl⟩

theorem drain_Check_ok (F : Nat) (s_1 : T_api_Service) (r : Int) (h : drain_Check F s_1 = some r) : TripleG prog 13 [] [] [e_T_api_Service s_1] [] (Ii r) := by
 refine triple_intro (fn := Go.Proofs.Try.f13) (code := codeOf Go.Proofs.Try.f13) (by kernel_rfl) (by kernel_rfl) (Nat.le_of_ble_eq_true (by kernel_rfl)) ?_
 unfold drain_Check at h
 refine sr [(0, { id := 0 })] [1] [0] 1 [Pp 0] [Vb 27 (v_T_api_Service s_1)] hmix an ?_
 refine sq ?_
 refine sq ?_
 obtain ⟨r_1, h_1, h⟩ := bind_some h
 refine rg [(2, { av := Ii r_1, l := [.sl false 3 (Mp e_T_api_Thread s_1.Threads)] })] [1, 3] [0] 1 [Pp 0, Ii r_1] [Vb 27 (v_T_api_Service s_1)] hmix (ar ([.sl false 3 (Mp e_T_api_Thread s_1.Threads)] : List AV) (ac (rfl : ([] : List BoxSt) = []) (ac (drain_threads_ok F s_1.Threads r_1 h_1 : TripleG prog 31 [] [] [.sl false 3 (Mp e_T_api_Thread s_1.Threads)] [] (Ii r_1)) an))) ?_
 refine sr [] [1, 3, 16] [0] 1 [Pp 0, Ii r_1, .bool (r_1 != (0 : Int))] [Vb 27 (v_T_api_Service s_1)] hmix an ?_
 refine cd 16 (r_1 != (0 : Int)) ?_ ?_
 ·intro g_1; replace h := cond_t g_1 h
  refine sr [] [2] [] 1 [Ii r_1] [] hmix an ?_
  refine rt ?_
  cases h
  exact ⟨.inr rfl, Nat.le_of_ble_eq_true rfl, by kernel_rfl⟩
 intro g_1; replace h := cond_f g_1 h
 refine sk ?_
 refine sq ?_
 refine sq ?_
 obtain ⟨p_1, h_3, h⟩ := bind_some h
 refine aw_mid (mk [(1, Pp 0), (29, .bool p_1)] [(0, Vb 27 (v_T_api_Service s_1))] 1) ?_ ?_
 ·replace h := h_3
  rcases bft ((lN (s_1.Next)) != (lN (s_1.Threads))) with gg_1 | gg_1
  ·replace h := cond_t gg_1 h
   refine rg [(2, { n := (s_1.Next).length }), (5, { n := (s_1.Threads).length }), (8, Hg), (9, Hg), (10, Hg), (11, Ht)] [1, 29] [0] 1 [Pp 0, .bool true] [Vb 27 (v_T_api_Service s_1)] hmix (ac (vc_len _ : ((Mi s_1.Next)).length = (s_1.Next).length) (ac (vc_len _ : ((Mp e_T_api_Thread s_1.Threads)).length = (s_1.Threads).length) (ac gg_1 (ac gg_1 (ac gg_1 (ac gg_1 an)))))) ?_
   cases h
   exact ⟨rfl, (sw [0] [] [.s 1, .s 29] [.s 0] an)⟩
  ·replace h := cond_f gg_1 h
   obtain ⟨r_2, h_2, h⟩ := bind_some h
   refine rg [(2, { n := (s_1.Next).length }), (5, { n := (s_1.Threads).length }), (10, { av := .bool r_2, l := [.sl false 1 (Mi s_1.Next), .fn 35 []] }), (11, Hf)] [1, 29] [0] 1 [Pp 0, .bool r_2] [Vb 27 (v_T_api_Service s_1)] hmix (ac (vc_len _ : ((Mi s_1.Next)).length = (s_1.Next).length) (ac (vc_len _ : ((Mp e_T_api_Thread s_1.Threads)).length = (s_1.Threads).length) (ac gg_1 (ac gg_1 (ac gg_1 (ar ([.sl false 1 (Mi s_1.Next), .fn 35 []] : List AV) (ac (rfl : ([] : List BoxSt) = []) (ac (slices_ContainsFunc_int_int_ok F s_1.Next r_2 h_2 : TripleG prog 34 [] [] [.sl false 1 (Mi s_1.Next), .fn 35 []] [] (.bool r_2)) (ac gg_1 an))))))))) ?_
   cases h
   exact ⟨rfl, (sw [0] [] [.s 1, .s 29] [.s 0] an)⟩
 refine cd 29 p_1 ?_ ?_
 ·intro g_2; replace h := cond_t g_2 h
  refine sr [] [2] [] 1 [Ii 10] [] hmix an ?_
  refine rt ?_
  cases h
  exact ⟨.inr rfl, Nat.le_of_ble_eq_true rfl, by kernel_rfl⟩
 intro g_2; replace h := cond_f g_2 h
 refine sk ?_
 refine sr [(0, { id := 1, mag := false, mks := [.int .i64] })] [1, 4] [0, 1] 2 [Pp 0, .mp 1] [Vb 27 (v_T_api_Service s_1), .live (.map false [.int .i64] [])] hmix an ?_
 refine sq ?_
 refine sr [(2, { n := (s_1.Queue).length })] [1, 4, 32, 33, 34] [0, 1] 2 [Pp 0, .mp 1, .sl false 4 (Mp e_T_api_Packet s_1.Queue), Ii (lN (s_1.Queue)), Ii 0] [Vb 27 (v_T_api_Service s_1), .live (.map false [.int .i64] [])] hmix (ac (vc_len _ : ((Mp e_T_api_Packet s_1.Queue)).length = (s_1.Queue).length) an) ?_
 obtain ⟨o_1, h_4, h⟩ := bind_some h
 refine aw_conv (K1 := (fun e st' => match o_1 with | (.inl q0) => e = .normal ∧ Sub 0 st' (mk [(1, Pp 0), (4, .mp 1)] [(0, Vb 27 (v_T_api_Service s_1)), (1, .live (.map false [.int .i64] (List.map (mpE (AV.int .i64) (AV.int .i64)) q0)))] 2) | (.inr q1) => e = .ret ∧ FinR prog Go.Proofs.Try.f13 0 [] (Ii q1) st')) ?_ ?_
 ·replace h := h_4
  refine aw_block (id := 0) (by kernel_rfl) ?_
  refine wk [0, 1] [] [.s 1, .s 4, .s 32, .s 33, .s 34] [.s 0, .s 1] [(1, Pp 0), (4, .mp 1), (32, .sl false 4 (Mp e_T_api_Packet s_1.Queue)), (33, Ii (lN (s_1.Queue))), (34, Ii 0)] [(0, Vb 27 (v_T_api_Service s_1)), (1, .live (.map false [.int .i64] []))] an ?_
  refine aw_loopF (fun n st => ∃ (v_1 : Int), ∃ (row_1 : List (Int × Int)), st = mk [(1, Pp 0), (4, .mp 1), (32, .sl false 4 (Mp e_T_api_Packet s_1.Queue)), (33, Ii (lN (s_1.Queue))), (34, Ii v_1)] [(0, Vb 27 (v_T_api_Service s_1)), (1, .live (.map false [.int .i64] (List.map (mpE (AV.int .i64) (AV.int .i64)) row_1)))] 2 ∧ drain_Check_L1 F s_1 n v_1 row_1 = some o_1) F (by kernel_rfl) ⟨_, _, rfl, h⟩ ?_ ?_
  ·rintro _ ⟨_, _, _, h⟩; exact none_ne (h : (none : Option ((List (Int × Int)) ⊕ Int)) = some o_1)
  rintro n_1 _ ⟨v_1, row_1, rfl, h⟩
  replace h : drain_Check_L1_body F s_1 (drain_Check_L1 F s_1 n_1) v_1 row_1 = some o_1 := h
  unfold drain_Check_L1_body at h
  refine sr [] [1, 4, 32, 33, 34, 35] [0, 1] 2 [Pp 0, .mp 1, .sl false 4 (Mp e_T_api_Packet s_1.Queue), Ii (lN (s_1.Queue)), Ii v_1, .bool (decide (v_1 < (lN (s_1.Queue))))] [Vb 27 (v_T_api_Service s_1), .live (.map false [.int .i64] (List.map (mpE (AV.int .i64) (AV.int .i64)) row_1))] hmix an ?_
  refine sq ?_
  refine cd 35 (decide (v_1 < (lN (s_1.Queue)))) ?_ ?_
  rotate_left
  ·intro g_3; replace h := cond_f g_3 h
   refine aw_exit (id := 0) (by kernel_rfl) ?_
   cases h
   exact ⟨rfl, (sw [0, 1] [] [.s 1, .s 4] [.s 0, .s 1] an)⟩
  intro g_3; replace h := cond_t g_3 h
  refine sk ?_
  refine sq ?_
  refine aw_block (id := 1) (by kernel_rfl) ?_
  refine sq ?_
  obtain ⟨x_1, h_5, h⟩ := bind_some h
  refine rg [(0, { av := e_T_api_Packet x_1 }), (2, { id := 2 })] [1, 4, 6, 32, 33, 34] [0, 1, 2] 3 [Pp 0, .mp 1, Pp 2, .sl false 4 (Mp e_T_api_Packet s_1.Queue), Ii (lN (s_1.Queue)), Ii v_1] [Vb 27 (v_T_api_Service s_1), .live (.map false [.int .i64] (List.map (mpE (AV.int .i64) (AV.int .i64)) row_1)), Vb 43 (v_T_api_Packet x_1)] hmix (ac (vc_idx h_5 : idxA (Mp e_T_api_Packet s_1.Queue) v_1 = some (e_T_api_Packet x_1)) an) ?_
  refine sq ?_
  obtain ⟨r_3, h_6, h⟩ := bind_some h
  refine rg [(3, { av := Ii r_3, l := [e_T_api_Service s_1, Ii x_1.Thread] })] [1, 4, 6, 7, 32, 33, 34] [0, 1, 2] 3 [Pp 0, .mp 1, Pp 2, Ii r_3, .sl false 4 (Mp e_T_api_Packet s_1.Queue), Ii (lN (s_1.Queue)), Ii v_1] [Vb 27 (v_T_api_Service s_1), .live (.map false [.int .i64] (List.map (mpE (AV.int .i64) (AV.int .i64)) row_1)), Vb 43 (v_T_api_Packet x_1)] hmix (ar ([e_T_api_Service s_1, Ii x_1.Thread] : List AV) (ac (rfl : ([] : List BoxSt) = []) (ac (drain_find_ok F s_1 x_1.Thread r_3 h_6 : TripleG prog 36 [] [] [e_T_api_Service s_1, Ii x_1.Thread] [] (Ii r_3)) an))) ?_
  refine sq ?_
  refine sq ?_
  obtain ⟨p_2, h_8, h⟩ := bind_some h
  refine aw_mid (mk [(1, Pp 0), (4, .mp 1), (6, Pp 2), (7, Ii r_3), (32, .sl false 4 (Mp e_T_api_Packet s_1.Queue)), (33, Ii (lN (s_1.Queue))), (34, Ii v_1), (48, .bool p_2)] [(0, Vb 27 (v_T_api_Service s_1)), (1, .live (.map false [.int .i64] (List.map (mpE (AV.int .i64) (AV.int .i64)) row_1))), (2, Vb 43 (v_T_api_Packet x_1))] 3) ?_ ?_
  ·replace h := h_8
   obtain ⟨r_4, h_7, h⟩ := bind_some h
   rcases bft (r_4 != (0 : Int)) with gg_8 | gg_8
   ·replace h := cond_t gg_8 h
    refine rg [(1, { av := Ii r_4, l := [e_T_api_Packet x_1] }), (4, Hg), (5, Hg), (6, Ht)] [1, 4, 6, 7, 32, 33, 34, 46, 47, 48] [0, 1, 2] 3 [Pp 0, .mp 1, Pp 2, Ii r_3, .sl false 4 (Mp e_T_api_Packet s_1.Queue), Ii (lN (s_1.Queue)), Ii v_1, .tuple [], .tuple [], .bool true] [Vb 27 (v_T_api_Service s_1), .live (.map false [.int .i64] (List.map (mpE (AV.int .i64) (AV.int .i64)) row_1)), Vb 43 (v_T_api_Packet x_1)] hmix (ar ([e_T_api_Packet x_1] : List AV) (ac (rfl : ([] : List BoxSt) = []) (ac (packet_Check_ok F x_1 r_4 h_7 : TripleG prog 37 [] [] [e_T_api_Packet x_1] [] (Ii r_4)) (ac gg_8 (ac gg_8 (ac gg_8 an)))))) ?_
    cases h
    exact ⟨rfl, (sw [0, 1, 2] [] [.s 1, .s 4, .s 6, .s 7, .s 32, .s 33, .s 34, .s 48] [.s 0, .s 1, .s 2] an)⟩
   ·replace h := cond_f gg_8 h
    refine rg [(1, { av := Ii r_4, l := [e_T_api_Packet x_1] }), (6, Hf)] [1, 4, 6, 7, 32, 33, 34, 46, 47, 48] [0, 1, 2] 3 [Pp 0, .mp 1, Pp 2, Ii r_3, .sl false 4 (Mp e_T_api_Packet s_1.Queue), Ii (lN (s_1.Queue)), Ii v_1, Ii r_3, .bool (decide (r_3 < (0 : Int))), .bool (decide (r_3 < (0 : Int)))] [Vb 27 (v_T_api_Service s_1), .live (.map false [.int .i64] (List.map (mpE (AV.int .i64) (AV.int .i64)) row_1)), Vb 43 (v_T_api_Packet x_1)] hmix (ar ([e_T_api_Packet x_1] : List AV) (ac (rfl : ([] : List BoxSt) = []) (ac (packet_Check_ok F x_1 r_4 h_7 : TripleG prog 37 [] [] [e_T_api_Packet x_1] [] (Ii r_4)) (ac gg_8 (ac gg_8 (ac gg_8 an)))))) ?_
    cases h
    exact ⟨rfl, (sw [0, 1, 2] [] [.s 1, .s 4, .s 6, .s 7, .s 32, .s 33, .s 34, .s 48] [.s 0, .s 1, .s 2] an)⟩
  refine cd 48 p_2 ?_ ?_
  ·intro g_4; replace h := cond_t g_4 h
   refine sr [] [2] [] 3 [Ii 10] [] hmix an ?_
   refine rt ?_
   cases h
   exact ⟨rfl, Nat.le_of_ble_eq_true rfl, by kernel_rfl⟩
  intro g_4; replace h := cond_f g_4 h
  refine sk ?_
  refine sq ?_
  refine sr [(2, { av := (Ii ((mget row_1 r_3).getD (0 : Int))), g := (mget row_1 r_3).isSome })] [1, 4, 6, 7, 8, 9, 32, 33, 34] [0, 1, 2] 3 [Pp 0, .mp 1, Pp 2, Ii r_3, Ii ((mget row_1 r_3).getD (0 : Int)), .bool ((mget row_1 r_3).isSome), .sl false 4 (Mp e_T_api_Packet s_1.Queue), Ii (lN (s_1.Queue)), Ii v_1] [Vb 27 (v_T_api_Service s_1), .live (.map false [.int .i64] (List.map (mpE (AV.int .i64) (AV.int .i64)) row_1)), Vb 43 (v_T_api_Packet x_1)] hmix (ac (keyOk_3 : KeyOk prog 3 false [.int .i64]) (ac (mlook_map (f := (AV.int .i64)) (g := (AV.int .i64)) inj_int row_1 r_3 (0 : Int) : MLook (List.map (mpE (AV.int .i64) (AV.int .i64)) row_1) (Ii r_3) (Ii 0) (Ii ((mget row_1 r_3).getD (0 : Int))) (mget row_1 r_3).isSome) an)) ?_
  refine sq ?_
  refine aw_mid (mk [(1, Pp 0), (4, .mp 1), (6, Pp 2), (7, Ii r_3), (32, .sl false 4 (Mp e_T_api_Packet s_1.Queue)), (33, Ii (lN (s_1.Queue))), (34, Ii v_1), (64, .bool ((mget row_1 r_3).isSome && (x_1.Serial != (w_i64 (((mget row_1 r_3).getD (0 : Int)) + x_1.Lost)))))] [(0, Vb 27 (v_T_api_Service s_1)), (1, .live (.map false [.int .i64] (List.map (mpE (AV.int .i64) (AV.int .i64)) row_1))), (2, Vb 43 (v_T_api_Packet x_1))] 3) ?_ ?_
  ·rcases bft ((mget row_1 r_3).isSome) with gg_9 | gg_9
   ·refine rg [(9, Ht)] [1, 4, 6, 7, 32, 33, 34, 57, 58, 59, 60, 61, 62, 63, 64] [0, 1, 2] 3 [Pp 0, .mp 1, Pp 2, Ii r_3, .sl false 4 (Mp e_T_api_Packet s_1.Queue), Ii (lN (s_1.Queue)), Ii v_1, .ptr 2 0 0 1, Ii x_1.Serial, Ii ((mget row_1 r_3).getD (0 : Int)), .ptr 2 0 0 2, Ii x_1.Lost, Ii (w_i64 (((mget row_1 r_3).getD (0 : Int)) + x_1.Lost)), .bool (x_1.Serial != (w_i64 (((mget row_1 r_3).getD (0 : Int)) + x_1.Lost))), .bool (x_1.Serial != (w_i64 (((mget row_1 r_3).getD (0 : Int)) + x_1.Lost)))] [Vb 27 (v_T_api_Service s_1), .live (.map false [.int .i64] (List.map (mpE (AV.int .i64) (AV.int .i64)) row_1)), Vb 43 (v_T_api_Packet x_1)] hmix (ac gg_9 (ac gg_9 (ac gg_9 (ac gg_9 (ac gg_9 (ac gg_9 (ac gg_9 (ac gg_9 an)))))))) ?_
    exact ⟨rfl, (sw [0, 1, 2] [] [.s 1, .s 4, .s 6, .s 7, .s 32, .s 33, .s 34, .a 64 (.bool ((mget row_1 r_3).isSome && (x_1.Serial != (w_i64 (((mget row_1 r_3).getD (0 : Int)) + x_1.Lost)))))] [.s 0, .s 1, .s 2] (ac (congrArg AV.bool (andt gg_9 rfl) : (.bool (x_1.Serial != (w_i64 (((mget row_1 r_3).getD (0 : Int)) + x_1.Lost))) : AV) = .bool ((mget row_1 r_3).isSome && (x_1.Serial != (w_i64 (((mget row_1 r_3).getD (0 : Int)) + x_1.Lost))))) an))⟩
   ·refine rg [(2, Hg), (3, Hg), (4, Hg), (5, Hg), (6, Hg), (7, Hg), (8, Hg), (9, Hf)] [1, 4, 6, 7, 32, 33, 34, 57, 58, 59, 60, 61, 62, 63, 64] [0, 1, 2] 3 [Pp 0, .mp 1, Pp 2, Ii r_3, .sl false 4 (Mp e_T_api_Packet s_1.Queue), Ii (lN (s_1.Queue)), Ii v_1, .tuple [], .tuple [], .tuple [], .tuple [], .tuple [], .tuple [], .tuple [], .bool false] [Vb 27 (v_T_api_Service s_1), .live (.map false [.int .i64] (List.map (mpE (AV.int .i64) (AV.int .i64)) row_1)), Vb 43 (v_T_api_Packet x_1)] hmix (ac gg_9 (ac gg_9 (ac gg_9 (ac gg_9 (ac gg_9 (ac gg_9 (ac gg_9 (ac gg_9 an)))))))) ?_
    exact ⟨rfl, (sw [0, 1, 2] [] [.s 1, .s 4, .s 6, .s 7, .s 32, .s 33, .s 34, .a 64 (.bool ((mget row_1 r_3).isSome && (x_1.Serial != (w_i64 (((mget row_1 r_3).getD (0 : Int)) + x_1.Lost)))))] [.s 0, .s 1, .s 2] (ac (congrArg AV.bool (andf gg_9) : (.bool false : AV) = .bool ((mget row_1 r_3).isSome && (x_1.Serial != (w_i64 (((mget row_1 r_3).getD (0 : Int)) + x_1.Lost))))) an))⟩
  refine cd 64 ((mget row_1 r_3).isSome && (x_1.Serial != (w_i64 (((mget row_1 r_3).getD (0 : Int)) + x_1.Lost)))) ?_ ?_
  ·intro g_5; replace h := cond_t g_5 h
   refine sr [] [2] [] 3 [Ii 10] [] hmix an ?_
   refine rt ?_
   cases h
   exact ⟨rfl, Nat.le_of_ble_eq_true rfl, by kernel_rfl⟩
  intro g_5; replace h := cond_f g_5 h
  refine sk ?_
  obtain ⟨r_5, h_9, h⟩ := bind_some h
  obtain ⟨_, h_10, h⟩ := bind_some h; replace h_10 := need_some h_10
  refine rg [(3, { av := Ii r_5, l := [e_T_api_Packet x_1] }), (4, { es := (List.map (mpE (AV.int .i64) (AV.int .i64)) (mput row_1 r_3 r_5)) })] [1, 4, 32, 33, 34] [0, 1] 3 [Pp 0, .mp 1, .sl false 4 (Mp e_T_api_Packet s_1.Queue), Ii (lN (s_1.Queue)), Ii v_1] [Vb 27 (v_T_api_Service s_1), .live (.map false [.int .i64] (List.map (mpE (AV.int .i64) (AV.int .i64)) (mput row_1 r_3 r_5)))] hmix (ar ([e_T_api_Packet x_1] : List AV) (ac (rfl : ([] : List BoxSt) = []) (ac (drain_end_ok x_1 r_5 h_9 : TripleG prog 38 [] [] [e_T_api_Packet x_1] [] (Ii r_5)) (ac (keyOk_3 : KeyOk prog 3 false [.int .i64]) (ac (mput_map (f := (AV.int .i64)) (g := (AV.int .i64)) inj_int row_1 r_3 r_5 : MPut (List.map (mpE (AV.int .i64) (AV.int .i64)) row_1) (Ii r_3) (Ii r_5) (List.map (mpE (AV.int .i64) (AV.int .i64)) (mput row_1 r_3 r_5))) (ac (mlen_lt (l := row_1) h_10 : ((List.map (mpE (AV.int .i64) (AV.int .i64)) row_1) : List (AV × AV)).length < maxLen) an)))))) ?_
  refine rg [] [1, 4, 32, 33, 34] [0, 1] 3 [Pp 0, .mp 1, .sl false 4 (Mp e_T_api_Packet s_1.Queue), Ii (lN (s_1.Queue)), Ii (w_i64 (v_1 + (1 : Int)))] [Vb 27 (v_T_api_Service s_1), .live (.map false [.int .i64] (List.map (mpE (AV.int .i64) (AV.int .i64)) (mput row_1 r_3 r_5)))] hmix an ?_
  exact ⟨_, (sw [0, 1] [] [.s 1, .s 4, .s 32, .s 33, .s 34] [.s 0, .s 1] an), _, _, rfl, h⟩
 intro e st1 hk
 rcases o_1 with q_1 | q_2
 rotate_left
 ·obtain ⟨rfl, hf⟩ := hk
  cases h
  exact ⟨st1, Sub.refl _ _, .inr rfl, hf⟩
 obtain ⟨rfl, hs⟩ := hk
 refine ⟨_, hs, ?_⟩
 refine sq ?_
 obtain ⟨o_2, h_11, h⟩ := bind_some h
 refine aw_conv (K1 := (fun e st' => match o_2 with | (.inl q0) => e = .normal ∧ Sub 0 st' (mk [] [] 0) | (.inr q1) => e = .ret ∧ FinR prog Go.Proofs.Try.f13 0 [] (Ii q1) st')) ?_ ?_
 ·replace h := h_11
  refine aw_rangeMapM (ag := false) (ks := [.int .i64]) (l := (List.map (mpE (AV.int .i64) (AV.int .i64)) q_1)) { tm := 4, t0 := 70, ti := 71, tR := 65, tn := 72, tok := 73, te := 74, tx := 75, ty := 76, tk := 10, tv := 11, blk := 2, b3 := 3 } 1 [0] [.s 1] [.s 0] (sl2 := [(1, Pp 0)]) (bx2 := [(0, Vb 27 (v_T_api_Service s_1))]) (by kernel_rfl) (by kernel_rfl) (by kernel_rfl) (by kernel_rfl) (by kernel_rfl) an (by kernel_rfl) (by kernel_rfl) (fun r_it left_1 st => ∃ (n : Nat) (lt : List (Int × Int)), left_1 = lt.map (mpE (AV.int .i64) (AV.int .i64)) ∧ st = mk [(1, Pp 0), (71, .raw r_it)] [(0, Vb 27 (v_T_api_Service s_1))] 1 ∧ drain_Check_L2 F s_1 n lt = some o_2) ?_ ?_ ?_ ?_
  ·intro r_it; exact ⟨_, (sw [0] [] [.s 1, .s 71] [.s 0] an), F, _, rfl, rfl, h⟩
  ·rintro r_it left_1 st ⟨n, lt, _, rfl, _⟩; exact ⟨by kernel_rfl, _, _, rfl, by kernel_rfl⟩
  ·rintro r_it st ⟨n_2, lt, hl, rfl, h⟩
   replace hl := List.map_eq_nil_iff.1 hl.symm; subst hl
   cases n_2 with | zero => exact none_ne h | succ n_2 => ?_
   replace h : some (.inl ()) = some o_2 := h
   cases h
   exact ⟨rfl, (sw [] [] [] [] an)⟩
  rintro r_it _ _ i_1 _ ⟨n_2, left_1, rfl, rfl, h⟩ hi
  obtain ⟨p_3, h_12, rfl⟩ := Option.map_eq_some_iff.1 ((List.getElem?_map ..).symm.trans hi)
  cases n_2 with | zero => exact none_ne h | succ n_2 => ?_
  replace h : drain_Check_L2_body F s_1 (drain_Check_L2 F s_1 n_2) left_1 = some o_2 := h
  unfold drain_Check_L2_body at h
  replace h := pickAll_some (cond_f (isEmpty_get h_12) h) h_12
  refine wk [0] [] [.s 1, .s 10, .s 11, .s 71, .s 75, .s 76] [.s 0] [(1, Pp 0), (10, Ii p_3.1), (11, Ii p_3.2), (71, .raw r_it), (75, Ii p_3.1), (76, Ii p_3.2)] [(0, Vb 27 (v_T_api_Service s_1))] an ?_
  refine sq ?_
  obtain ⟨x_2, h_13, h⟩ := bind_some h
  refine rg [(3, { av := Ii x_2 })] [1, 71, 83] [0] 1 [Pp 0, .raw r_it, .bool (x_2 != p_3.2)] [Vb 27 (v_T_api_Service s_1)] hmix (ac (vc_idx h_13 : idxA (Mi s_1.Next) p_3.1 = some (Ii x_2)) an) ?_
  refine cd 83 (x_2 != p_3.2) ?_ ?_
  rotate_left
  ·intro g_6; replace h := cond_f g_6 h
   refine sk ?_
   exact ⟨_, (sw [0] [] [.s 1, .s 71] [.s 0] an), n_2, _, (erase_map _ _ _).symm, rfl, h⟩
  intro g_6; replace h := cond_t g_6 h
  refine sr [] [2] [0] 1 [Ii 10] [Vb 27 (v_T_api_Service s_1)] hmix an ?_
  refine rt ?_
  cases h
  exact ⟨rfl, Nat.le_of_ble_eq_true rfl, by kernel_rfl⟩
 intro e st1 hk
 rcases o_2 with q_3 | q_4
 rotate_left
 ·obtain ⟨rfl, hf⟩ := hk
  cases h
  exact ⟨st1, Sub.refl _ _, .inr rfl, hf⟩
 obtain ⟨rfl, hs⟩ := hk
 refine ⟨_, hs, ?_⟩
 refine sr [] [2] [] 0 [Ii 0] [] hmix an ?_
 refine rt ?_
 cases h
 exact ⟨.inr rfl, Nat.le_of_ble_eq_true rfl, by kernel_rfl⟩

theorem drain_events_ok (F : Nat) (l_1 : List (T_api_Packet)) (r : Int) (h : drain_events F l_1 = some r) : TripleG prog 45 [] [] [.sl false 4 (Mp e_T_api_Packet l_1)] [] (Ii r) := by
 refine triple_intro (fn := Go.Proofs.Try.f45) (code := codeOf Go.Proofs.Try.f45) (by kernel_rfl) (by kernel_rfl) (Nat.le_of_ble_eq_true (by kernel_rfl)) ?_
 unfold drain_events at h
 refine sr [] [0] [] 0 [.sl false 4 (Mp e_T_api_Packet l_1)] [] hmix an ?_
 refine sr [] [0, 3] [] 0 [.sl false 4 (Mp e_T_api_Packet l_1), Ii 0] [] hmix an ?_
 refine sq ?_
 refine sr [(1, { n := (l_1).length })] [3, 6, 7, 8] [] 0 [Ii 0, .sl false 4 (Mp e_T_api_Packet l_1), Ii (lN (l_1)), Ii 0] [] hmix (ac (vc_len _ : ((Mp e_T_api_Packet l_1)).length = (l_1).length) an) ?_
 obtain ⟨o_1, h_1, h⟩ := bind_some h
 refine aw_mid (mk [(3, Ii o_1)] [] 0) ?_ ?_
 ·replace h := h_1
  refine aw_block (id := 0) (by kernel_rfl) ?_
  refine wk [] [] [.s 3, .s 6, .s 7, .s 8] [] [(3, Ii 0), (6, .sl false 4 (Mp e_T_api_Packet l_1)), (7, Ii (lN (l_1))), (8, Ii 0)] [] an ?_
  refine aw_loopF (fun n st => ∃ (n_1 : Int), ∃ (v_1 : Int), st = mk [(3, Ii n_1), (6, .sl false 4 (Mp e_T_api_Packet l_1)), (7, Ii (lN (l_1))), (8, Ii v_1)] [] 0 ∧ drain_events_L1 F l_1 n n_1 v_1 = some o_1) F (by kernel_rfl) ⟨_, _, rfl, h⟩ ?_ ?_
  ·rintro _ ⟨_, _, _, h⟩; exact none_ne (h : (none : Option Int) = some o_1)
  rintro n_2 _ ⟨n_1, v_1, rfl, h⟩
  replace h : drain_events_L1_body F l_1 (drain_events_L1 F l_1 n_2) n_1 v_1 = some o_1 := h
  unfold drain_events_L1_body at h
  refine sr [] [3, 6, 7, 8, 9] [] 0 [Ii n_1, .sl false 4 (Mp e_T_api_Packet l_1), Ii (lN (l_1)), Ii v_1, .bool (decide (v_1 < (lN (l_1))))] [] hmix an ?_
  refine sq ?_
  refine cd 9 (decide (v_1 < (lN (l_1)))) ?_ ?_
  rotate_left
  ·intro g_1; replace h := cond_f g_1 h
   refine aw_exit (id := 0) (by kernel_rfl) ?_
   cases h
   exact ⟨rfl, (sw [] [] [.s 3] [] an)⟩
  intro g_1; replace h := cond_t g_1 h
  refine sk ?_
  refine sq ?_
  refine aw_block (id := 1) (by kernel_rfl) ?_
  refine sq ?_
  obtain ⟨x_1, h_2, h⟩ := bind_some h
  refine rg [(0, { av := e_T_api_Packet x_1 }), (2, { id := 0 })] [3, 5, 6, 7, 8] [0] 1 [Ii n_1, Pp 0, .sl false 4 (Mp e_T_api_Packet l_1), Ii (lN (l_1)), Ii v_1] [Vb 43 (v_T_api_Packet x_1)] hmix (ac (vc_idx h_2 : idxA (Mp e_T_api_Packet l_1) v_1 = some (e_T_api_Packet x_1)) an) ?_
  refine rg [(3, { n := (x_1.Events).length })] [3, 6, 7, 8] [] 1 [Ii (w_i64 (n_1 + (lN (x_1.Events)))), .sl false 4 (Mp e_T_api_Packet l_1), Ii (lN (l_1)), Ii v_1] [] hmix (ac (vc_len _ : ((Mp e_T_api_Event x_1.Events)).length = (x_1.Events).length) an) ?_
  refine rg [] [3, 6, 7, 8] [] 1 [Ii (w_i64 (n_1 + (lN (x_1.Events)))), .sl false 4 (Mp e_T_api_Packet l_1), Ii (lN (l_1)), Ii (w_i64 (v_1 + (1 : Int)))] [] hmix an ?_
  exact ⟨_, (sw [] [] [.s 3, .s 6, .s 7, .s 8] [] an), _, _, rfl, h⟩
 refine sr [] [2] [] 0 [Ii o_1] [] hmix an ?_
 refine rt ?_
 cases h
 exact ⟨.inr rfl, Nat.le_of_ble_eq_true rfl, by kernel_rfl⟩

theorem slices_Clone_int_int_ok (s_1 : List (Int)) (r : (List (Int))) (h : slices_Clone_int_int s_1 = some r) : TripleG prog 46 [] [] [.sl false 1 (Mi s_1)] [.row 3 1 (Mi r)] (.own 0 ((r).length)) := by
 refine triple_intro (fn := Go.Proofs.Try.f46) (code := codeOf Go.Proofs.Try.f46) (by kernel_rfl) (by kernel_rfl) (Nat.le_of_ble_eq_true (by kernel_rfl)) ?_
 unfold slices_Clone_int_int at h
 refine sr [(0, { id := 0, m := 1 })] [0] [] 1 [.sl false 1 (Mi s_1)] [] hmix an ?_
 refine sq ?_
 refine sr [] [0, 4] [] 1 [.sl false 1 (Mi s_1), .nb (Mi s_1)] [] hmix an ?_
 refine aw_condN (t := 4) (l := (Mi s_1)) (by kernel_rfl) (by kernel_rfl) ?_ ?_
 ·intro h_2; replace h_2 := List.map_eq_nil_iff.1 h_2
  replace h := Eq.trans (show (some []) = ((need (((([] : List Int)).length + (s_1).length) * 8 ≤ 140737488355328)).bind fun _ =>
 some ([] ++ s_1)) from by simp [h_2, need]) h
  refine sr [(0, { id := 1, m := 1 })] [2] [1] 2 [.own 1 0] [Rb 3 1 []] hmix an ?_
  refine wk [1] [] [.a 2 (.own 0 ((([] : List Int)).length))] [.s 0] [(2, .own 0 ((([] : List Int)).length))] [(0, Rb 3 1 [])] (ac (congrArg (AV.own _) (by first | (simp; done) | (simp; omega)) : (.own 1 0 : AV) = .own 1 ((([] : List Int)).length)) an) ?_
  refine rt ?_
  cases h
  exact ⟨.inr rfl, Nat.le_of_ble_eq_true rfl, by kernel_rfl⟩
 refine sk ?_
 refine sq ?_
 obtain ⟨_, h_1, h⟩ := bind_some h; replace h_1 := need_some h_1
 refine rg [(0, { id := 1 }), (2, { id := 2, l := (Mi ([] ++ s_1)), n := (([] ++ s_1)).length })] [2] [2] 3 [.own 2 ((([] ++ s_1)).length)] [Rb 3 1 (Mi ([] ++ s_1))] hmix (ac (by first | (simp; done) | (simp; omega) : 0 = (([] : List AV)).length) (ac (trivial : True) (ac (by simp : (List.map (AV.int .i64) ([] ++ s_1)) = [] ++ (List.map (AV.int .i64) s_1)) (ac (by simp : (([] ++ s_1)).length = ((List.map (AV.int .i64) ([] ++ s_1))).length) (ac (by first | (simp; done) | simpa using h_1 : (([] : List AV).length + ((List.map (AV.int .i64) s_1) : List AV).length) * 8 ≤ 140737488355328) an))))) ?_
 refine wk [2] [] [.s 2] [.s 0] [(2, .own 0 ((([] ++ s_1)).length))] [(0, Rb 3 1 (Mi ([] ++ s_1)))] an ?_
 refine rt ?_
 cases h
 exact ⟨.inr rfl, Nat.le_of_ble_eq_true rfl, by kernel_rfl⟩

theorem slices_Clone_tracebook_api_Packet_tracebook_api_Packet_ok (s_1 : List (T_api_Packet)) (r : (List (T_api_Packet))) (h : slices_Clone_tracebook_api_Packet_tracebook_api_Packet s_1 = some r) : TripleG prog 47 [] [] [.sl false 4 (Mp e_T_api_Packet s_1)] [.row 43 4 (Mp e_T_api_Packet r)] (.own 0 ((r).length)) := by
 refine triple_intro (fn := Go.Proofs.Try.f47) (code := codeOf Go.Proofs.Try.f47) (by kernel_rfl) (by kernel_rfl) (Nat.le_of_ble_eq_true (by kernel_rfl)) ?_
 unfold slices_Clone_tracebook_api_Packet_tracebook_api_Packet at h
 refine sr [(0, { id := 0, m := 1 })] [0] [] 1 [.sl false 4 (Mp e_T_api_Packet s_1)] [] hmix an ?_
 refine sq ?_
 refine sr [] [0, 4] [] 1 [.sl false 4 (Mp e_T_api_Packet s_1), .nb (Mp e_T_api_Packet s_1)] [] hmix an ?_
 refine aw_condN (t := 4) (l := (Mp e_T_api_Packet s_1)) (by kernel_rfl) (by kernel_rfl) ?_ ?_
 ·intro h_2; replace h_2 := List.map_eq_nil_iff.1 h_2
  replace h := Eq.trans (show (some []) = ((need (((([] : List T_api_Packet)).length + (s_1).length) * 48 ≤ 140737488355328)).bind fun _ =>
 some ([] ++ s_1)) from by simp [h_2, need]) h
  refine sr [(0, { id := 1, m := 1 })] [2] [1] 2 [.own 1 0] [Rb 43 4 []] hmix an ?_
  refine wk [1] [] [.a 2 (.own 0 ((([] : List T_api_Packet)).length))] [.s 0] [(2, .own 0 ((([] : List T_api_Packet)).length))] [(0, Rb 43 4 [])] (ac (congrArg (AV.own _) (by first | (simp; done) | (simp; omega)) : (.own 1 0 : AV) = .own 1 ((([] : List T_api_Packet)).length)) an) ?_
  refine rt ?_
  cases h
  exact ⟨.inr rfl, Nat.le_of_ble_eq_true rfl, by kernel_rfl⟩
 refine sk ?_
 refine sq ?_
 obtain ⟨_, h_1, h⟩ := bind_some h; replace h_1 := need_some h_1
 refine rg [(0, { id := 1 }), (2, { id := 2, l := (Mp e_T_api_Packet ([] ++ s_1)), n := (([] ++ s_1)).length })] [2] [2] 3 [.own 2 ((([] ++ s_1)).length)] [Rb 43 4 (Mp e_T_api_Packet ([] ++ s_1))] hmix (ac (by first | (simp; done) | (simp; omega) : 0 = (([] : List AV)).length) (ac (trivial : True) (ac (by simp : (List.map e_T_api_Packet ([] ++ s_1)) = [] ++ (List.map e_T_api_Packet s_1)) (ac (by simp : (([] ++ s_1)).length = ((List.map e_T_api_Packet ([] ++ s_1))).length) (ac (by first | (simp; done) | simpa using h_1 : (([] : List AV).length + ((List.map e_T_api_Packet s_1) : List AV).length) * 48 ≤ 140737488355328) an))))) ?_
 refine wk [2] [] [.s 2] [.s 0] [(2, .own 0 ((([] ++ s_1)).length))] [(0, Rb 43 4 (Mp e_T_api_Packet ([] ++ s_1)))] an ?_
 refine rt ?_
 cases h
 exact ⟨.inr rfl, Nat.le_of_ble_eq_true rfl, by kernel_rfl⟩

theorem drain_Collect_ok (F : Nat) (s_1 : T_api_Service) (p_1 : T_api_Packet) (r : T_api_Service × Int) (h : drain_Collect F s_1 p_1 = some r) : TripleG prog 22 [] [] [e_T_api_Service s_1, e_T_api_Packet p_1] [] (.tuple [e_T_api_Service r.1, Ii r.2]) := by
 refine triple_intro (fn := Go.Proofs.Try.f22) (code := codeOf Go.Proofs.Try.f22) (by kernel_rfl) (by kernel_rfl) (Nat.le_of_ble_eq_true (by kernel_rfl)) ?_
 unfold drain_Collect at h
 refine sr [(0, { id := 0 }), (1, { id := 1 }), (2, { id := 2 })] [2, 3, 4] [0, 1, 2] 3 [Pp 0, Pp 1, Pp 2] [Vb 27 (v_T_api_Service s_1), Vb 43 (v_T_api_Packet p_1), Vb 27 [.nilsl, .nilsl, .nilsl]] hmix an ?_
 refine sq ?_
 refine sq ?_
 obtain ⟨r_1, h_1, h⟩ := bind_some h
 refine rg [(1, { av := Ii r_1, l := [e_T_api_Service s_1] })] [2, 3, 4, 6] [0, 1, 2] 3 [Pp 0, Pp 1, Pp 2, Ii r_1] [Vb 27 (v_T_api_Service s_1), Vb 43 (v_T_api_Packet p_1), Vb 27 [.nilsl, .nilsl, .nilsl]] hmix (ar ([e_T_api_Service s_1] : List AV) (ac (rfl : ([] : List BoxSt) = []) (ac (drain_Check_ok F s_1 r_1 h_1 : TripleG prog 13 [] [] [e_T_api_Service s_1] [] (Ii r_1)) an))) ?_
 refine sr [] [2, 3, 4, 6, 13] [0, 1, 2] 3 [Pp 0, Pp 1, Pp 2, Ii r_1, .bool (r_1 != (0 : Int))] [Vb 27 (v_T_api_Service s_1), Vb 43 (v_T_api_Packet p_1), Vb 27 [.nilsl, .nilsl, .nilsl]] hmix an ?_
 refine cd 13 (r_1 != (0 : Int)) ?_ ?_
 ·intro g_1; replace h := cond_t g_1 h
  refine sr [] [4, 5] [2] 3 [Pp 2, Ii r_1] [Vb 27 (v_T_api_Service s_1)] hmix an ?_
  refine wk [2] [] [.s 4, .s 5] [.s 0] [(4, Pp 0), (5, Ii r_1)] [(0, Vb 27 (v_T_api_Service s_1))] an ?_
  refine rt ?_
  cases h
  exact ⟨.inr rfl, Nat.le_of_ble_eq_true rfl, by kernel_rfl⟩
 intro g_1; replace h := cond_f g_1 h
 refine sk ?_
 refine sq ?_
 refine sq ?_
 obtain ⟨r_2, h_2, h⟩ := bind_some h
 refine rg [(1, { av := Ii r_2, l := [e_T_api_Packet p_1] })] [2, 3, 4, 7] [0, 1, 2] 3 [Pp 0, Pp 1, Pp 2, Ii r_2] [Vb 27 (v_T_api_Service s_1), Vb 43 (v_T_api_Packet p_1), Vb 27 [.nilsl, .nilsl, .nilsl]] hmix (ar ([e_T_api_Packet p_1] : List AV) (ac (rfl : ([] : List BoxSt) = []) (ac (packet_Check_ok F p_1 r_2 h_2 : TripleG prog 37 [] [] [e_T_api_Packet p_1] [] (Ii r_2)) an))) ?_
 refine sr [] [2, 3, 4, 7, 19] [0, 1, 2] 3 [Pp 0, Pp 1, Pp 2, Ii r_2, .bool (r_2 != (0 : Int))] [Vb 27 (v_T_api_Service s_1), Vb 43 (v_T_api_Packet p_1), Vb 27 [.nilsl, .nilsl, .nilsl]] hmix an ?_
 refine cd 19 (r_2 != (0 : Int)) ?_ ?_
 ·intro g_2; replace h := cond_t g_2 h
  refine sr [] [4, 5] [2] 3 [Pp 2, Ii r_2] [Vb 27 (v_T_api_Service s_1)] hmix an ?_
  refine wk [2] [] [.s 4, .s 5] [.s 0] [(4, Pp 0), (5, Ii r_2)] [(0, Vb 27 (v_T_api_Service s_1))] an ?_
  refine rt ?_
  cases h
  exact ⟨.inr rfl, Nat.le_of_ble_eq_true rfl, by kernel_rfl⟩
 intro g_2; replace h := cond_f g_2 h
 refine sk ?_
 refine sq ?_
 obtain ⟨r_3, h_3, h⟩ := bind_some h
 refine rg [(3, { av := Ii r_3, l := [e_T_api_Service s_1, Ii p_1.Thread] })] [2, 3, 4, 8] [0, 1, 2] 3 [Pp 0, Pp 1, Pp 2, Ii r_3] [Vb 27 (v_T_api_Service s_1), Vb 43 (v_T_api_Packet p_1), Vb 27 [.nilsl, .nilsl, .nilsl]] hmix (ar ([e_T_api_Service s_1, Ii p_1.Thread] : List AV) (ac (rfl : ([] : List BoxSt) = []) (ac (drain_find_ok F s_1 p_1.Thread r_3 h_3 : TripleG prog 36 [] [] [e_T_api_Service s_1, Ii p_1.Thread] [] (Ii r_3)) an))) ?_
 refine sq ?_
 refine aw_block (id := 0) (by kernel_rfl) ?_
 refine sr [] [2, 3, 4, 8, 26] [0, 1, 2] 3 [Pp 0, Pp 1, Pp 2, Ii r_3, .bool (decide (r_3 < (0 : Int)))] [Vb 27 (v_T_api_Service s_1), Vb 43 (v_T_api_Packet p_1), Vb 27 [.nilsl, .nilsl, .nilsl]] hmix an ?_
 refine cd 26 (decide (r_3 < (0 : Int))) ?_ ?_
 ·intro g_3; replace h := cond_t g_3 h
  refine sr [] [4, 5] [2] 3 [Pp 2, Ii 5] [Vb 27 (v_T_api_Service s_1)] hmix an ?_
  refine wk [2] [] [.s 4, .s 5] [.s 0] [(4, Pp 0), (5, Ii 5)] [(0, Vb 27 (v_T_api_Service s_1))] an ?_
  refine rt ?_
  cases h
  exact ⟨.inr rfl, Nat.le_of_ble_eq_true rfl, by kernel_rfl⟩
 intro g_3; replace h := cond_f g_3 h
 refine sq ?_
 obtain ⟨x_1, h_4, h⟩ := bind_some h
 refine rg [(5, { av := Ii x_1 })] [2, 3, 4, 8, 30] [0, 1, 2] 3 [Pp 0, Pp 1, Pp 2, Ii r_3, .bool (decide (p_1.Serial < x_1))] [Vb 27 (v_T_api_Service s_1), Vb 43 (v_T_api_Packet p_1), Vb 27 [.nilsl, .nilsl, .nilsl]] hmix (ac (vc_idx h_4 : idxA (Mi s_1.Next) r_3 = some (Ii x_1)) an) ?_
 refine cd 30 (decide (p_1.Serial < x_1)) ?_ ?_
 ·intro g_4; replace h := cond_t g_4 h
  refine sr [] [4, 5] [2] 3 [Pp 2, Ii 4] [Vb 27 (v_T_api_Service s_1)] hmix an ?_
  refine wk [2] [] [.s 4, .s 5] [.s 0] [(4, Pp 0), (5, Ii 4)] [(0, Vb 27 (v_T_api_Service s_1))] an ?_
  refine rt ?_
  cases h
  exact ⟨.inr rfl, Nat.le_of_ble_eq_true rfl, by kernel_rfl⟩
 intro g_4; replace h := cond_f g_4 h
 refine sq ?_
 obtain ⟨x_2, h_5, h⟩ := bind_some h
 refine rg [(5, { av := Ii x_2 })] [2, 3, 4, 8, 40] [0, 1, 2] 3 [Pp 0, Pp 1, Pp 2, Ii r_3, .bool (p_1.Serial != (w_i64 (x_2 + p_1.Lost)))] [Vb 27 (v_T_api_Service s_1), Vb 43 (v_T_api_Packet p_1), Vb 27 [.nilsl, .nilsl, .nilsl]] hmix (ac (vc_idx h_5 : idxA (Mi s_1.Next) r_3 = some (Ii x_2)) an) ?_
 refine cd 40 (p_1.Serial != (w_i64 (x_2 + p_1.Lost))) ?_ ?_
 ·intro g_5; replace h := cond_t g_5 h
  refine sr [] [4, 5] [2] 3 [Pp 2, Ii 11] [Vb 27 (v_T_api_Service s_1)] hmix an ?_
  refine wk [2] [] [.s 4, .s 5] [.s 0] [(4, Pp 0), (5, Ii 11)] [(0, Vb 27 (v_T_api_Service s_1))] an ?_
  refine rt ?_
  cases h
  exact ⟨.inr rfl, Nat.le_of_ble_eq_true rfl, by kernel_rfl⟩
 intro g_5; replace h := cond_f g_5 h
 refine sq ?_
 obtain ⟨r_4, h_6, h⟩ := bind_some h
 refine rg [(2, { av := Ii r_4, l := [.sl false 4 (Mp e_T_api_Packet s_1.Queue)] }), (5, { n := (p_1.Events).length })] [2, 3, 4, 8, 53] [0, 1, 2] 3 [Pp 0, Pp 1, Pp 2, Ii r_3, .bool (decide ((w_i64 (r_4 + (lN (p_1.Events)))) > (20000 : Int)))] [Vb 27 (v_T_api_Service s_1), Vb 43 (v_T_api_Packet p_1), Vb 27 [.nilsl, .nilsl, .nilsl]] hmix (ar ([.sl false 4 (Mp e_T_api_Packet s_1.Queue)] : List AV) (ac (rfl : ([] : List BoxSt) = []) (ac (drain_events_ok F s_1.Queue r_4 h_6 : TripleG prog 45 [] [] [.sl false 4 (Mp e_T_api_Packet s_1.Queue)] [] (Ii r_4)) (ac (vc_len _ : ((Mp e_T_api_Event p_1.Events)).length = (p_1.Events).length) an)))) ?_
 refine cd 53 (decide ((w_i64 (r_4 + (lN (p_1.Events)))) > (20000 : Int))) ?_ ?_
 ·intro g_6; replace h := cond_t g_6 h
  refine sr [] [4, 5] [2] 3 [Pp 2, Ii 6] [Vb 27 (v_T_api_Service s_1)] hmix an ?_
  refine wk [2] [] [.s 4, .s 5] [.s 0] [(4, Pp 0), (5, Ii 6)] [(0, Vb 27 (v_T_api_Service s_1))] an ?_
  refine rt ?_
  cases h
  exact ⟨.inr rfl, Nat.le_of_ble_eq_true rfl, by kernel_rfl⟩
 intro g_6; replace h := cond_f g_6 h
 refine sk ?_
 refine sq ?_
 obtain ⟨r_5, h_7, h⟩ := bind_some h
 obtain ⟨r_6, h_8, h⟩ := bind_some h
 obtain ⟨_, h_9, h⟩ := bind_some h; replace h_9 := need_some h_9
 refine rg [(4, { av := .own 0 ((r_5).length), ids := [3], l := [.sl false 1 (Mi s_1.Next)], post := [(.row 3 1 (Mi r_5))] }), (7, { av := .own 0 ((r_6).length), ids := [4], l := [.sl false 4 (Mp e_T_api_Packet s_1.Queue)], post := [(.row 43 4 (Mp e_T_api_Packet r_6))] }), (9, { id := 5 }), (10, { id := 6, l := (Mp e_T_api_Packet (r_6 ++ ([p_1] : List T_api_Packet))), n := ((r_6 ++ ([p_1] : List T_api_Packet))).length }), (12, { id := 7 })] [3, 4, 8, 9] [1, 2, 3, 6, 7] 8 [Pp 1, Pp 2, Ii r_3, Pp 7] [Vb 43 (v_T_api_Packet p_1), Vb 27 [.nilsl, .nilsl, .nilsl], Rb 3 1 (Mi r_5), Rb 43 4 (Mp e_T_api_Packet (r_6 ++ ([p_1] : List T_api_Packet))), Vb 27 [.sl false 3 (Mp e_T_api_Thread s_1.Threads), .own 3 ((r_5).length), .own 6 (((r_6 ++ ([p_1] : List T_api_Packet))).length)]] hmix (ar ([.sl false 1 (Mi s_1.Next)] : List AV) (ac (rfl : ([] : List BoxSt) = []) (ac (slices_Clone_int_int_ok s_1.Next r_5 h_7 : TripleG prog 46 [] [] [.sl false 1 (Mi s_1.Next)] [(.row 3 1 (Mi r_5))] (.own 0 ((r_5).length))) (ar ([.sl false 4 (Mp e_T_api_Packet s_1.Queue)] : List AV) (ac (rfl : ([] : List BoxSt) = []) (ac (slices_Clone_tracebook_api_Packet_tracebook_api_Packet_ok s_1.Queue r_6 h_8 : TripleG prog 47 [] [] [.sl false 4 (Mp e_T_api_Packet s_1.Queue)] [(.row 43 4 (Mp e_T_api_Packet r_6))] (.own 0 ((r_6).length))) (ac (by first | (simp; done) | (simp; omega) : (r_6).length = ((List.map e_T_api_Packet r_6)).length) (ac (by first | (simp; done) | (simp; omega) : 1 = ((List.map e_T_api_Packet ([p_1] : List T_api_Packet))).length) (ac (vc_app _ _ : (Mp e_T_api_Packet (r_6 ++ ([p_1] : List T_api_Packet))) = (Mp e_T_api_Packet r_6) ++ (Mp e_T_api_Packet ([p_1] : List T_api_Packet))) (ac (by simp : ((r_6 ++ ([p_1] : List T_api_Packet))).length = ((List.map e_T_api_Packet (r_6 ++ ([p_1] : List T_api_Packet)))).length) (ac (by first | (simp; done) | simpa using h_9 : (((List.map e_T_api_Packet r_6) : List AV).length + ((List.map e_T_api_Packet ([p_1] : List T_api_Packet)) : List AV).length) * 48 ≤ 140737488355328) an))))))))))) ?_
 refine sq ?_
 obtain ⟨r_7, h_10, h⟩ := bind_some h
 obtain ⟨x_3, h_11, h⟩ := bind_some h
 refine rg [(4, { av := Ii r_7, l := [e_T_api_Packet p_1] }), (6, { av := Ii x_3, l := (Mi ((r_5).set ((r_3).toNat) r_7)) })] [4, 9] [2, 3, 6, 7] 8 [Pp 2, Pp 7] [Vb 27 [.nilsl, .nilsl, .nilsl], Rb 3 1 (Mi ((r_5).set ((r_3).toNat) r_7)), Rb 43 4 (Mp e_T_api_Packet (r_6 ++ ([p_1] : List T_api_Packet))), Vb 27 [.sl false 3 (Mp e_T_api_Thread s_1.Threads), .own 3 ((r_5).length), .own 6 (((r_6 ++ ([p_1] : List T_api_Packet))).length)]] hmix (ar ([e_T_api_Packet p_1] : List AV) (ac (rfl : ([] : List BoxSt) = []) (ac (drain_end_ok p_1 r_7 h_10 : TripleG prog 38 [] [] [e_T_api_Packet p_1] [] (Ii r_7)) (ac (idxL_lo h_11 : (0 : Int) ≤ r_3) (ac (by first | (simp; done) | simpa using idxL_hi h_11 : r_3 < (((r_5).length : Nat) : Int)) (ac (vc_get h_11 : (Mi r_5)[(r_3).toNat]? = some (Ii x_3)) (ac (vc_set _ _ _ : (Mi ((r_5).set ((r_3).toNat) r_7)) = List.set (Mi r_5) ((r_3).toNat) (setElem (Ii x_3) 0 [Ii r_7])) an))))))) ?_
 refine sr [] [4, 5] [2, 3, 6] 8 [Pp 2, Ii 0] [Vb 27 [.sl false 3 (Mp e_T_api_Thread s_1.Threads), .own 3 ((r_5).length), .own 6 (((r_6 ++ ([p_1] : List T_api_Packet))).length)], Rb 3 1 (Mi ((r_5).set ((r_3).toNat) r_7)), Rb 43 4 (Mp e_T_api_Packet (r_6 ++ ([p_1] : List T_api_Packet)))] hmix an ?_
 refine wk [2] [3, 6] [.s 4, .s 5] [.a 0 (Vb 27 (v_T_api_Service (⟨s_1.Threads, (r_5).set ((r_3).toNat) r_7, (r_6 ++ ([p_1] : List T_api_Packet))⟩ : T_api_Service)))] [(4, Pp 0), (5, Ii 0)] [(0, Vb 27 (v_T_api_Service (⟨s_1.Threads, (r_5).set ((r_3).toNat) r_7, (r_6 ++ ([p_1] : List T_api_Packet))⟩ : T_api_Service)))] (ar 27 (ac (rfl : ones [.sl false 3 (Mp e_T_api_Thread ((⟨s_1.Threads, (r_5).set ((r_3).toNat) r_7, (r_6 ++ ([p_1] : List T_api_Packet))⟩ : T_api_Service).Threads)), .sl false 1 (Mi ((⟨s_1.Threads, (r_5).set ((r_3).toNat) r_7, (r_6 ++ ([p_1] : List T_api_Packet))⟩ : T_api_Service).Next)), .sl false 4 (Mp e_T_api_Packet ((⟨s_1.Threads, (r_5).set ((r_3).toNat) r_7, (r_6 ++ ([p_1] : List T_api_Packet))⟩ : T_api_Service).Queue))] = true) (ac (by first | (simp; done) | (simp; omega) : (r_5).length = ((List.map (AV.int .i64) ((r_5).set ((r_3).toNat) r_7))).length) (ac (by first | (simp; done) | (simp; omega) : ((r_6 ++ ([p_1] : List T_api_Packet))).length = ((List.map e_T_api_Packet (r_6 ++ ([p_1] : List T_api_Packet)))).length) (ar 3 (ac (rfl : ((Mp e_T_api_Thread s_1.Threads) : List AV) = (Mp e_T_api_Thread ((⟨s_1.Threads, (r_5).set ((r_3).toNat) r_7, (r_6 ++ ([p_1] : List T_api_Packet))⟩ : T_api_Service).Threads))) (ac (rfl : (!false || false) = true) (ar 1 (ac (rfl : ((Mi ((r_5).set ((r_3).toNat) r_7)) : List AV) = (Mi ((⟨s_1.Threads, (r_5).set ((r_3).toNat) r_7, (r_6 ++ ([p_1] : List T_api_Packet))⟩ : T_api_Service).Next))) (ac (rfl : (!false || false) = true) (ar 4 (ac (rfl : ((Mp e_T_api_Packet (r_6 ++ ([p_1] : List T_api_Packet))) : List AV) = (Mp e_T_api_Packet ((⟨s_1.Threads, (r_5).set ((r_3).toNat) r_7, (r_6 ++ ([p_1] : List T_api_Packet))⟩ : T_api_Service).Queue))) (ac (rfl : (!false || false) = true) an))))))))))))) ?_
 refine rt ?_
 cases h
 exact ⟨.inr rfl, Nat.le_of_ble_eq_true rfl, by kernel_rfl⟩

theorem slices_Grow_tracebook_api_Event_tracebook_api_Event_ok (n_1 : Int) (r : (List (T_api_Event))) (h : slices_Grow_tracebook_api_Event_tracebook_api_Event n_1 = some r) : TripleG prog 64 [] [] [.nilsl, Ii n_1] [.row 54 6 (Mp e_T_api_Event r)] (.own 0 ((r).length)) := by
 refine triple_intro (fn := Go.Proofs.Try.f64) (code := codeOf Go.Proofs.Try.f64) (by kernel_rfl) (by kernel_rfl) (Nat.le_of_ble_eq_true (by kernel_rfl)) ?_
 unfold slices_Grow_tracebook_api_Event_tracebook_api_Event at h
 refine sr [(0, { id := 0, m := 1 })] [0, 1] [] 1 [.nilsl, Ii n_1] [] hmix an ?_
 refine sq ?_
 refine sr [] [0, 1, 6] [] 1 [.nilsl, Ii n_1, .bool (decide (n_1 < (0 : Int)))] [] hmix an ?_
 obtain ⟨o_1, h_1, h⟩ := bind_some h
 refine aw_mid (mk [(0, .nilsl), (1, Ii n_1)] [] 0) ?_ ?_
 ·replace h := h_1
  refine cd 6 (decide (n_1 < (0 : Int))) ?_ ?_
  ·intro g_1; replace h := cond_t g_1 h
   exact none_ne h
  intro g_1; replace h := cond_f g_1 h
  refine sk ?_
  cases h
  exact ⟨rfl, (sw [] [] [.s 0, .s 1] [] an)⟩
 refine sq ?_
 refine sr [(2, { x := true }), (4, { n := 0 })] [0, 1] [] 0 [.nilsl, Ii (w_i64 (n_1 - (w_i64 ((0 : Int) - ((0 : Nat) : Int)))))] [] hmix (ac (rfl : ([] : List AV).length = 0) an) ?_
 refine sr [] [0, 1, 16] [] 0 [.nilsl, Ii (w_i64 (n_1 - (w_i64 ((0 : Int) - ((0 : Nat) : Int))))), .bool (decide ((w_i64 (n_1 - (w_i64 ((0 : Int) - ((0 : Nat) : Int))))) > (0 : Int)))] [] hmix an ?_
 refine cd 16 (decide ((w_i64 (n_1 - (w_i64 ((0 : Int) - ((0 : Nat) : Int))))) > (0 : Int))) ?_ ?_
 ·intro g_2; replace h := cond_t g_2 h
  obtain ⟨_, h_2, h⟩ := bind_some h; replace h_2 := need_some h_2
  refine rg [(2, { x := true }), (3, { x := true }), (5, { id := 0, n := (w_i64 (n_1 - (w_i64 ((0 : Int) - ((0 : Nat) : Int))))).toNat, x := true }), (7, { n := 0 }), (8, { l := [], n := 0, x := true })] [0] [0] 1 [.own 0 0] [Rb 54 6 []] hmix (ar (0 : Int) (ac ((Int.toNat_of_nonneg h_2.1).symm : (w_i64 (n_1 - (w_i64 ((0 : Int) - ((0 : Nat) : Int))))) = (((w_i64 (n_1 - (w_i64 ((0 : Int) - ((0 : Nat) : Int))))).toNat : Nat) : Int)) (ac h_2.2.1 (ac h_2.2.2 (ac (rfl : ([] : List AV).length = 0) (ar ((0 : Nat) : Int) (ac (Nat.zero_le _ : 0 ≤ ((w_i64 (n_1 - (w_i64 ((0 : Int) - ((0 : Nat) : Int))))).toNat)) (ac (by simp : [] = ([] : List AV).take 0) an)))))))) ?_
  refine sr [] [4] [0] 1 [.own 0 0] [Rb 54 6 []] hmix an ?_
  refine wk [0] [] [.a 4 (.own 0 ((([] : List T_api_Event)).length))] [.s 0] [(4, .own 0 ((([] : List T_api_Event)).length))] [(0, Rb 54 6 [])] (ac (congrArg (AV.own _) (by first | (simp; done) | (simp; omega)) : (.own 0 0 : AV) = .own 0 ((([] : List T_api_Event)).length)) an) ?_
  refine rt ?_
  cases h
  exact ⟨.inr rfl, Nat.le_of_ble_eq_true rfl, by kernel_rfl⟩
 intro g_2; replace h := cond_f g_2 h
 refine sk ?_
 refine sr [] [4] [] 0 [.nilsl] [] hmix an ?_
 refine aw_sub (sub_adoptS 4 none 0 54 6 (by kernel_rfl)) ?_
 refine wk [0] [] [.a 4 (.own 0 ((([] : List T_api_Event)).length))] [.s 0] [(4, .own 0 ((([] : List T_api_Event)).length))] [(0, Rb 54 6 [])] (ac (congrArg (AV.own _) (by first | (simp; done) | (simp; omega)) : (.own 0 0 : AV) = .own 0 ((([] : List T_api_Event)).length)) an) ?_
 refine rt ?_
 cases h
 exact ⟨.inr rfl, Nat.le_of_ble_eq_true rfl, by kernel_rfl⟩

theorem slices_Concat_tracebook_api_Event_tracebook_api_Event_ok (F : Nat) (slices_1 : List (List (T_api_Event))) (r : (List (T_api_Event))) (h : slices_Concat_tracebook_api_Event_tracebook_api_Event F slices_1 = some r) : TripleG prog 51 [] [] [.sl false 1 (List.map (fun l => AV.sl false 6 (l.map e_T_api_Event)) slices_1)] [.row 54 6 (Mp e_T_api_Event r)] (.own 0 ((r).length)) := by
 refine triple_intro (fn := Go.Proofs.Try.f51) (code := codeOf Go.Proofs.Try.f51) (by kernel_rfl) (by kernel_rfl) (Nat.le_of_ble_eq_true (by kernel_rfl)) ?_
 unfold slices_Concat_tracebook_api_Event_tracebook_api_Event at h
 refine sr [(0, { id := 0, m := 1 })] [0] [] 1 [.sl false 1 (List.map (fun l => AV.sl false 6 (l.map e_T_api_Event)) slices_1)] [] hmix an ?_
 refine sr [] [0, 3] [] 1 [.sl false 1 (List.map (fun l => AV.sl false 6 (l.map e_T_api_Event)) slices_1), Ii 0] [] hmix an ?_
 refine sq ?_
 refine sr [(1, { n := (slices_1).length })] [0, 3, 9, 10, 11] [] 1 [.sl false 1 (List.map (fun l => AV.sl false 6 (l.map e_T_api_Event)) slices_1), Ii 0, .sl false 1 (List.map (fun l => AV.sl false 6 (l.map e_T_api_Event)) slices_1), Ii (lN (slices_1)), Ii 0] [] hmix (ac (vc_len _ : ((List.map (fun l => AV.sl false 6 (l.map e_T_api_Event)) slices_1)).length = (slices_1).length) an) ?_
 obtain ⟨o_1, h_1, h⟩ := bind_some h
 refine aw_mid (mk [(0, .sl false 1 (List.map (fun l => AV.sl false 6 (l.map e_T_api_Event)) slices_1)), (3, Ii o_1)] [] 0) ?_ ?_
 ·replace h := h_1
  refine aw_block (id := 0) (by kernel_rfl) ?_
  refine wk [] [] [.s 0, .s 3, .s 9, .s 10, .s 11] [] [(0, .sl false 1 (List.map (fun l => AV.sl false 6 (l.map e_T_api_Event)) slices_1)), (3, Ii 0), (9, .sl false 1 (List.map (fun l => AV.sl false 6 (l.map e_T_api_Event)) slices_1)), (10, Ii (lN (slices_1))), (11, Ii 0)] [] an ?_
  refine aw_loopF (fun n st => ∃ (size_1 : Int), ∃ (v_1 : Int), st = mk [(0, .sl false 1 (List.map (fun l => AV.sl false 6 (l.map e_T_api_Event)) slices_1)), (3, Ii size_1), (9, .sl false 1 (List.map (fun l => AV.sl false 6 (l.map e_T_api_Event)) slices_1)), (10, Ii (lN (slices_1))), (11, Ii v_1)] [] 0 ∧ slices_Concat_tracebook_api_Event_tracebook_api_Event_L1 F slices_1 n size_1 v_1 = some o_1) F (by kernel_rfl) ⟨_, _, rfl, h⟩ ?_ ?_
  ·rintro _ ⟨_, _, _, h⟩; exact none_ne (h : (none : Option Int) = some o_1)
  rintro n_1 _ ⟨size_1, v_1, rfl, h⟩
  replace h : slices_Concat_tracebook_api_Event_tracebook_api_Event_L1_body F slices_1 (slices_Concat_tracebook_api_Event_tracebook_api_Event_L1 F slices_1 n_1) size_1 v_1 = some o_1 := h
  unfold slices_Concat_tracebook_api_Event_tracebook_api_Event_L1_body at h
  refine sr [] [0, 3, 9, 10, 11, 12] [] 0 [.sl false 1 (List.map (fun l => AV.sl false 6 (l.map e_T_api_Event)) slices_1), Ii size_1, .sl false 1 (List.map (fun l => AV.sl false 6 (l.map e_T_api_Event)) slices_1), Ii (lN (slices_1)), Ii v_1, .bool (decide (v_1 < (lN (slices_1))))] [] hmix an ?_
  refine sq ?_
  refine cd 12 (decide (v_1 < (lN (slices_1)))) ?_ ?_
  rotate_left
  ·intro g_1; replace h := cond_f g_1 h
   refine aw_exit (id := 0) (by kernel_rfl) ?_
   cases h
   exact ⟨rfl, (sw [] [] [.s 0, .s 3] [] an)⟩
  intro g_1; replace h := cond_t g_1 h
  refine sk ?_
  refine sq ?_
  refine aw_block (id := 1) (by kernel_rfl) ?_
  refine sq ?_
  obtain ⟨x_1, h_2, h⟩ := bind_some h
  refine rg [(0, { av := .sl false 6 (Mp e_T_api_Event x_1) })] [0, 3, 5, 9, 10, 11] [] 0 [.sl false 1 (List.map (fun l => AV.sl false 6 (l.map e_T_api_Event)) slices_1), Ii size_1, .sl false 6 (Mp e_T_api_Event x_1), .sl false 1 (List.map (fun l => AV.sl false 6 (l.map e_T_api_Event)) slices_1), Ii (lN (slices_1)), Ii v_1] [] hmix (ac (vc_idx h_2 : idxA (List.map (fun l => AV.sl false 6 (l.map e_T_api_Event)) slices_1) v_1 = some (.sl false 6 (Mp e_T_api_Event x_1))) an) ?_
  refine sr [(2, { n := (x_1).length })] [0, 3, 9, 10, 11] [] 0 [.sl false 1 (List.map (fun l => AV.sl false 6 (l.map e_T_api_Event)) slices_1), Ii (w_i64 (size_1 + (lN (x_1)))), .sl false 1 (List.map (fun l => AV.sl false 6 (l.map e_T_api_Event)) slices_1), Ii (lN (slices_1)), Ii v_1] [] hmix (ac (vc_len _ : ((Mp e_T_api_Event x_1)).length = (x_1).length) an) ?_
  refine sr [] [0, 3, 9, 10, 11, 20] [] 0 [.sl false 1 (List.map (fun l => AV.sl false 6 (l.map e_T_api_Event)) slices_1), Ii (w_i64 (size_1 + (lN (x_1)))), .sl false 1 (List.map (fun l => AV.sl false 6 (l.map e_T_api_Event)) slices_1), Ii (lN (slices_1)), Ii v_1, .bool (decide ((w_i64 (size_1 + (lN (x_1)))) < (0 : Int)))] [] hmix an ?_
  refine cd 20 (decide ((w_i64 (size_1 + (lN (x_1)))) < (0 : Int))) ?_ ?_
  ·intro g_2; replace h := cond_t g_2 h
   exact none_ne h
  intro g_2; replace h := cond_f g_2 h
  refine sk ?_
  refine rg [] [0, 3, 9, 10, 11] [] 0 [.sl false 1 (List.map (fun l => AV.sl false 6 (l.map e_T_api_Event)) slices_1), Ii (w_i64 (size_1 + (lN (x_1)))), .sl false 1 (List.map (fun l => AV.sl false 6 (l.map e_T_api_Event)) slices_1), Ii (lN (slices_1)), Ii (w_i64 (v_1 + (1 : Int)))] [] hmix an ?_
  exact ⟨_, (sw [] [] [.s 0, .s 3, .s 9, .s 10, .s 11] [] an), _, _, rfl, h⟩
 refine sq ?_
 obtain ⟨r_1, h_3, h⟩ := bind_some h
 refine rg [(1, { av := .own 0 ((r_1).length), ids := [0], l := [.nilsl, Ii o_1], post := [(.row 54 6 (Mp e_T_api_Event r_1))] })] [0, 6] [0] 1 [.sl false 1 (List.map (fun l => AV.sl false 6 (l.map e_T_api_Event)) slices_1), .own 0 ((r_1).length)] [Rb 54 6 (Mp e_T_api_Event r_1)] hmix (ar ([.nilsl, Ii o_1] : List AV) (ac (rfl : ([] : List BoxSt) = []) (ac (slices_Grow_tracebook_api_Event_tracebook_api_Event_ok o_1 r_1 h_3 : TripleG prog 64 [] [] [.nilsl, Ii o_1] [(.row 54 6 (Mp e_T_api_Event r_1))] (.own 0 ((r_1).length))) an))) ?_
 refine sq ?_
 refine sr [(1, { n := (slices_1).length })] [6, 25, 26, 27] [0] 1 [.own 0 ((r_1).length), .sl false 1 (List.map (fun l => AV.sl false 6 (l.map e_T_api_Event)) slices_1), Ii (lN (slices_1)), Ii 0] [Rb 54 6 (Mp e_T_api_Event r_1)] hmix (ac (vc_len _ : ((List.map (fun l => AV.sl false 6 (l.map e_T_api_Event)) slices_1)).length = (slices_1).length) an) ?_
 obtain ⟨o_2, h_4, h⟩ := bind_some h
 refine aw_mid (mk [(6, .own 0 ((o_2).length))] [(0, Rb 54 6 (Mp e_T_api_Event o_2))] 1) ?_ ?_
 ·replace h := h_4
  refine aw_block (id := 2) (by kernel_rfl) ?_
  refine wk [0] [] [.s 6, .s 25, .s 26, .s 27] [.s 0] [(6, .own 0 ((r_1).length)), (25, .sl false 1 (List.map (fun l => AV.sl false 6 (l.map e_T_api_Event)) slices_1)), (26, Ii (lN (slices_1))), (27, Ii 0)] [(0, Rb 54 6 (Mp e_T_api_Event r_1))] an ?_
  refine aw_loopF (fun n st => ∃ (v_2 : Int), ∃ (row_1 : List T_api_Event), st = mk [(6, .own 0 ((row_1).length)), (25, .sl false 1 (List.map (fun l => AV.sl false 6 (l.map e_T_api_Event)) slices_1)), (26, Ii (lN (slices_1))), (27, Ii v_2)] [(0, Rb 54 6 (Mp e_T_api_Event row_1))] 1 ∧ slices_Concat_tracebook_api_Event_tracebook_api_Event_L2 F slices_1 n v_2 row_1 = some o_2) F (by kernel_rfl) ⟨_, _, rfl, h⟩ ?_ ?_
  ·rintro _ ⟨_, _, _, h⟩; exact none_ne (h : (none : Option (List T_api_Event)) = some o_2)
  rintro n_2 _ ⟨v_2, row_1, rfl, h⟩
  replace h : slices_Concat_tracebook_api_Event_tracebook_api_Event_L2_body F slices_1 (slices_Concat_tracebook_api_Event_tracebook_api_Event_L2 F slices_1 n_2) v_2 row_1 = some o_2 := h
  unfold slices_Concat_tracebook_api_Event_tracebook_api_Event_L2_body at h
  refine sr [] [6, 25, 26, 27, 28] [0] 1 [.own 0 ((row_1).length), .sl false 1 (List.map (fun l => AV.sl false 6 (l.map e_T_api_Event)) slices_1), Ii (lN (slices_1)), Ii v_2, .bool (decide (v_2 < (lN (slices_1))))] [Rb 54 6 (Mp e_T_api_Event row_1)] hmix an ?_
  refine sq ?_
  refine cd 28 (decide (v_2 < (lN (slices_1)))) ?_ ?_
  rotate_left
  ·intro g_3; replace h := cond_f g_3 h
   refine aw_exit (id := 2) (by kernel_rfl) ?_
   cases h
   exact ⟨rfl, (sw [0] [] [.s 6] [.s 0] an)⟩
  intro g_3; replace h := cond_t g_3 h
  refine sk ?_
  refine sq ?_
  refine aw_block (id := 3) (by kernel_rfl) ?_
  refine sq ?_
  obtain ⟨x_2, h_5, h⟩ := bind_some h
  refine rg [(0, { av := .sl false 6 (Mp e_T_api_Event x_2) })] [6, 8, 25, 26, 27] [0] 1 [.own 0 ((row_1).length), .sl false 6 (Mp e_T_api_Event x_2), .sl false 1 (List.map (fun l => AV.sl false 6 (l.map e_T_api_Event)) slices_1), Ii (lN (slices_1)), Ii v_2] [Rb 54 6 (Mp e_T_api_Event row_1)] hmix (ac (vc_idx h_5 : idxA (List.map (fun l => AV.sl false 6 (l.map e_T_api_Event)) slices_1) v_2 = some (.sl false 6 (Mp e_T_api_Event x_2))) an) ?_
  obtain ⟨_, h_6, h⟩ := bind_some h; replace h_6 := need_some h_6
  refine rg [(2, { id := 1, l := (Mp e_T_api_Event (row_1 ++ x_2)), n := ((row_1 ++ x_2)).length })] [6, 25, 26, 27] [1] 2 [.own 1 (((row_1 ++ x_2)).length), .sl false 1 (List.map (fun l => AV.sl false 6 (l.map e_T_api_Event)) slices_1), Ii (lN (slices_1)), Ii v_2] [Rb 54 6 (Mp e_T_api_Event (row_1 ++ x_2))] hmix (ac (by first | (simp; done) | (simp; omega) : (row_1).length = ((List.map e_T_api_Event row_1)).length) (ac (trivial : True) (ac (vc_app _ _ : (Mp e_T_api_Event (row_1 ++ x_2)) = (Mp e_T_api_Event row_1) ++ (Mp e_T_api_Event x_2)) (ac (by simp : ((row_1 ++ x_2)).length = ((List.map e_T_api_Event (row_1 ++ x_2))).length) (ac (by first | (simp; done) | simpa using h_6 : (((List.map e_T_api_Event row_1) : List AV).length + ((List.map e_T_api_Event x_2) : List AV).length) * 72 ≤ 140737488355328) an))))) ?_
  refine rg [] [6, 25, 26, 27] [1] 2 [.own 1 (((row_1 ++ x_2)).length), .sl false 1 (List.map (fun l => AV.sl false 6 (l.map e_T_api_Event)) slices_1), Ii (lN (slices_1)), Ii (w_i64 (v_2 + (1 : Int)))] [Rb 54 6 (Mp e_T_api_Event (row_1 ++ x_2))] hmix an ?_
  exact ⟨_, (sw [1] [] [.s 6, .s 25, .s 26, .s 27] [.s 0] an), _, _, rfl, h⟩
 refine sr [] [2] [0] 1 [.own 0 ((o_2).length)] [Rb 54 6 (Mp e_T_api_Event o_2)] hmix an ?_
 refine wk [0] [] [.s 2] [.s 0] [(2, .own 0 ((o_2).length))] [(0, Rb 54 6 (Mp e_T_api_Event o_2))] an ?_
 refine rt ?_
 cases h
 exact ⟨.inr rfl, Nat.le_of_ble_eq_true rfl, by kernel_rfl⟩

theorem packet_Join_ok (F : Nat) (a_1 : T_api_Packet) (b_1 : T_api_Packet) (r : T_api_Packet × Bool) (h : packet_Join F a_1 b_1 = some r) : TripleG prog 29 [] [] [e_T_api_Packet a_1, e_T_api_Packet b_1] [] (.tuple [e_T_api_Packet r.1, .bool r.2]) := by
 refine triple_intro (fn := Go.Proofs.Try.f29) (code := codeOf Go.Proofs.Try.f29) (by kernel_rfl) (by kernel_rfl) (Nat.le_of_ble_eq_true (by kernel_rfl)) ?_
 unfold packet_Join at h
 refine sr [(0, { id := 0 }), (1, { id := 1 }), (2, { id := 2 })] [2, 3, 4] [0, 1, 2] 3 [Pp 0, Pp 1, Pp 2] [Vb 43 (v_T_api_Packet a_1), Vb 43 (v_T_api_Packet b_1), Vb 43 [Ii 0, Ii 0, Ii 0, .nilsl]] hmix an ?_
 refine sq ?_
 refine sq ?_
 obtain ⟨p_1, h_3, h⟩ := bind_some h
 refine aw_mid (mk [(2, Pp 0), (3, Pp 1), (4, Pp 2), (37, .bool p_1)] [(0, Vb 43 (v_T_api_Packet a_1)), (1, Vb 43 (v_T_api_Packet b_1)), (2, Vb 43 [Ii 0, Ii 0, Ii 0, .nilsl])] 3) ?_ ?_
 ·replace h := h_3
  obtain ⟨r_1, h_1, h⟩ := bind_some h
  rcases bft (r_1 != (0 : Int)) with gg_1 | gg_1
  ·replace h := cond_t gg_1 h
   refine rg [(1, { av := Ii r_1, l := [e_T_api_Packet a_1] }), (4, Hg), (5, Hg), (6, Hg), (7, Ht), (9, Hg), (10, Hg), (11, Hg), (12, Hg), (13, Hg), (14, Ht), (16, Hg), (17, Hg), (18, Hg), (19, Ht), (21, Hg), (22, Hg), (23, Hg), (24, Hg), (25, Hg), (26, Hg), (27, Hg), (28, Hg), (29, Hg), (30, Ht)] [2, 3, 4, 37] [0, 1, 2] 3 [Pp 0, Pp 1, Pp 2, .bool true] [Vb 43 (v_T_api_Packet a_1), Vb 43 (v_T_api_Packet b_1), Vb 43 [Ii 0, Ii 0, Ii 0, .nilsl]] hmix (ar ([e_T_api_Packet a_1] : List AV) (ac (rfl : ([] : List BoxSt) = []) (ac (packet_Check_ok F a_1 r_1 h_1 : TripleG prog 37 [] [] [e_T_api_Packet a_1] [] (Ii r_1)) (ac gg_1 (ac gg_1 (ac gg_1 (ac gg_1 (ax (ax (ax (ax (ax (ar true (ax (ax (ax (ar true (ax (ax (ax (ax (ax (ax (ax (ax (ax (ar true an))))))))))))))))))))))))))) ?_
   cases h
   exact ⟨rfl, (sw [0, 1, 2] [] [.s 2, .s 3, .s 4, .s 37] [.s 0, .s 1, .s 2] an)⟩
  ·replace h := cond_f gg_1 h
   obtain ⟨r_2, h_2, h⟩ := bind_some h
   rcases bft (r_2 != (0 : Int)) with gg_2 | gg_2
   ·replace h := cond_t gg_2 h
    refine rg [(1, { av := Ii r_1, l := [e_T_api_Packet a_1] }), (5, { av := Ii r_2, l := [e_T_api_Packet b_1] }), (7, Hf), (9, Hg), (10, Hg), (11, Hg), (12, Hg), (13, Hg), (14, Ht), (16, Hg), (17, Hg), (18, Hg), (19, Ht), (21, Hg), (22, Hg), (23, Hg), (24, Hg), (25, Hg), (26, Hg), (27, Hg), (28, Hg), (29, Hg), (30, Ht)] [2, 3, 4, 37] [0, 1, 2] 3 [Pp 0, Pp 1, Pp 2, .bool true] [Vb 43 (v_T_api_Packet a_1), Vb 43 (v_T_api_Packet b_1), Vb 43 [Ii 0, Ii 0, Ii 0, .nilsl]] hmix (ar ([e_T_api_Packet a_1] : List AV) (ac (rfl : ([] : List BoxSt) = []) (ac (packet_Check_ok F a_1 r_1 h_1 : TripleG prog 37 [] [] [e_T_api_Packet a_1] [] (Ii r_1)) (ac gg_1 (ac gg_1 (ar ([e_T_api_Packet b_1] : List AV) (ac (rfl : ([] : List BoxSt) = []) (ac (packet_Check_ok F b_1 r_2 h_2 : TripleG prog 37 [] [] [e_T_api_Packet b_1] [] (Ii r_2)) (ac gg_1 (ac gg_1 (ac gg_2 (ac gg_2 (ac gg_2 (ac gg_2 (ac gg_2 (ac gg_2 (ax (ax (ax (ar true (ax (ax (ax (ax (ax (ax (ax (ax (ax (ar true an)))))))))))))))))))))))))))))) ?_
    cases h
    exact ⟨rfl, (sw [0, 1, 2] [] [.s 2, .s 3, .s 4, .s 37] [.s 0, .s 1, .s 2] an)⟩
   ·replace h := cond_f gg_2 h
    rcases bft (a_1.Thread != b_1.Thread) with gg_3 | gg_3
    ·replace h := cond_t gg_3 h
     refine rg [(1, { av := Ii r_1, l := [e_T_api_Packet a_1] }), (5, { av := Ii r_2, l := [e_T_api_Packet b_1] }), (7, Hf), (14, Hf), (16, Hg), (17, Hg), (18, Hg), (19, Ht), (21, Hg), (22, Hg), (23, Hg), (24, Hg), (25, Hg), (26, Hg), (27, Hg), (28, Hg), (29, Hg), (30, Ht)] [2, 3, 4, 37] [0, 1, 2] 3 [Pp 0, Pp 1, Pp 2, .bool true] [Vb 43 (v_T_api_Packet a_1), Vb 43 (v_T_api_Packet b_1), Vb 43 [Ii 0, Ii 0, Ii 0, .nilsl]] hmix (ar ([e_T_api_Packet a_1] : List AV) (ac (rfl : ([] : List BoxSt) = []) (ac (packet_Check_ok F a_1 r_1 h_1 : TripleG prog 37 [] [] [e_T_api_Packet a_1] [] (Ii r_1)) (ac gg_1 (ac gg_1 (ar ([e_T_api_Packet b_1] : List AV) (ac (rfl : ([] : List BoxSt) = []) (ac (packet_Check_ok F b_1 r_2 h_2 : TripleG prog 37 [] [] [e_T_api_Packet b_1] [] (Ii r_2)) (ac gg_1 (ac gg_1 (ac gg_2 (ac gg_2 (ac gg_2 (ac gg_2 (ac gg_2 (ac gg_2 (ac gg_3 (ac gg_3 (ac gg_3 (ac gg_3 (ax (ax (ax (ax (ax (ax (ax (ax (ax (ar true an)))))))))))))))))))))))))))))) ?_
     cases h
     exact ⟨rfl, (sw [0, 1, 2] [] [.s 2, .s 3, .s 4, .s 37] [.s 0, .s 1, .s 2] an)⟩
    ·replace h := cond_f gg_3 h
     rcases bft (b_1.Lost != (0 : Int)) with gg_4 | gg_4
     ·replace h := cond_t gg_4 h
      refine rg [(1, { av := Ii r_1, l := [e_T_api_Packet a_1] }), (5, { av := Ii r_2, l := [e_T_api_Packet b_1] }), (7, Hf), (14, Hf), (19, Hf), (21, Hg), (22, Hg), (23, Hg), (24, Hg), (25, Hg), (26, Hg), (27, Hg), (28, Hg), (29, Hg), (30, Ht)] [2, 3, 4, 37] [0, 1, 2] 3 [Pp 0, Pp 1, Pp 2, .bool true] [Vb 43 (v_T_api_Packet a_1), Vb 43 (v_T_api_Packet b_1), Vb 43 [Ii 0, Ii 0, Ii 0, .nilsl]] hmix (ar ([e_T_api_Packet a_1] : List AV) (ac (rfl : ([] : List BoxSt) = []) (ac (packet_Check_ok F a_1 r_1 h_1 : TripleG prog 37 [] [] [e_T_api_Packet a_1] [] (Ii r_1)) (ac gg_1 (ac gg_1 (ar ([e_T_api_Packet b_1] : List AV) (ac (rfl : ([] : List BoxSt) = []) (ac (packet_Check_ok F b_1 r_2 h_2 : TripleG prog 37 [] [] [e_T_api_Packet b_1] [] (Ii r_2)) (ac gg_1 (ac gg_1 (ac gg_2 (ac gg_2 (ac gg_2 (ac gg_2 (ac gg_2 (ac gg_2 (ac gg_3 (ac gg_3 (ac gg_3 (ac gg_3 (ac gg_4 (ac gg_4 (ac gg_4 (ac gg_4 (ac gg_4 (ac gg_4 (ac gg_4 (ac gg_4 (ac gg_4 (ac gg_4 an)))))))))))))))))))))))))))))) ?_
      cases h
      exact ⟨rfl, (sw [0, 1, 2] [] [.s 2, .s 3, .s 4, .s 37] [.s 0, .s 1, .s 2] an)⟩
     ·replace h := cond_f gg_4 h
      refine rg [(1, { av := Ii r_1, l := [e_T_api_Packet a_1] }), (5, { av := Ii r_2, l := [e_T_api_Packet b_1] }), (7, Hf), (14, Hf), (19, Hf), (27, { n := (a_1.Events).length }), (30, Hf)] [2, 3, 4, 37] [0, 1, 2] 3 [Pp 0, Pp 1, Pp 2, .bool (b_1.Serial != (w_i64 (a_1.Serial + (lN (a_1.Events)))))] [Vb 43 (v_T_api_Packet a_1), Vb 43 (v_T_api_Packet b_1), Vb 43 [Ii 0, Ii 0, Ii 0, .nilsl]] hmix (ar ([e_T_api_Packet a_1] : List AV) (ac (rfl : ([] : List BoxSt) = []) (ac (packet_Check_ok F a_1 r_1 h_1 : TripleG prog 37 [] [] [e_T_api_Packet a_1] [] (Ii r_1)) (ac gg_1 (ac gg_1 (ar ([e_T_api_Packet b_1] : List AV) (ac (rfl : ([] : List BoxSt) = []) (ac (packet_Check_ok F b_1 r_2 h_2 : TripleG prog 37 [] [] [e_T_api_Packet b_1] [] (Ii r_2)) (ac gg_1 (ac gg_1 (ac gg_2 (ac gg_2 (ac gg_2 (ac gg_2 (ac gg_2 (ac gg_2 (ac gg_3 (ac gg_3 (ac gg_3 (ac gg_3 (ac gg_4 (ac gg_4 (ac gg_4 (ac gg_4 (ac gg_4 (ac gg_4 (ac gg_4 (ac (vc_len _ : ((Mp e_T_api_Event a_1.Events)).length = (a_1.Events).length) (ac gg_4 (ac gg_4 (ac gg_4 an))))))))))))))))))))))))))))))) ?_
      cases h
      exact ⟨rfl, (sw [0, 1, 2] [] [.s 2, .s 3, .s 4, .s 37] [.s 0, .s 1, .s 2] an)⟩
 refine cd 37 p_1 ?_ ?_
 ·intro g_1; replace h := cond_t g_1 h
  refine sr [] [4, 5] [2] 3 [Pp 2, .bool false] [Vb 43 [Ii 0, Ii 0, Ii 0, .nilsl]] hmix an ?_
  refine wk [2] [] [.s 4, .s 5] [.a 0 (Vb 43 (v_T_api_Packet (⟨(0 : Int), (0 : Int), (0 : Int), []⟩ : T_api_Packet)))] [(4, Pp 0), (5, .bool false)] [(0, Vb 43 (v_T_api_Packet (⟨(0 : Int), (0 : Int), (0 : Int), []⟩ : T_api_Packet)))] (ar 43 (ac (rfl : ones [Ii ((⟨(0 : Int), (0 : Int), (0 : Int), []⟩ : T_api_Packet).Thread), Ii ((⟨(0 : Int), (0 : Int), (0 : Int), []⟩ : T_api_Packet).Serial), Ii ((⟨(0 : Int), (0 : Int), (0 : Int), []⟩ : T_api_Packet).Lost), .sl false 6 (Mp e_T_api_Event ((⟨(0 : Int), (0 : Int), (0 : Int), []⟩ : T_api_Packet).Events))] = true) (ac (rfl : (Ii 0 : AV) = Ii ((⟨(0 : Int), (0 : Int), (0 : Int), []⟩ : T_api_Packet).Thread)) (ac (rfl : (Ii 0 : AV) = Ii ((⟨(0 : Int), (0 : Int), (0 : Int), []⟩ : T_api_Packet).Serial)) (ac (rfl : (Ii 0 : AV) = Ii ((⟨(0 : Int), (0 : Int), (0 : Int), []⟩ : T_api_Packet).Lost)) (ac (rfl : ((Mp e_T_api_Event ((⟨(0 : Int), (0 : Int), (0 : Int), []⟩ : T_api_Packet).Events)) : List AV) = []) an)))))) ?_
  refine rt ?_
  cases h
  exact ⟨.inr rfl, Nat.le_of_ble_eq_true rfl, by kernel_rfl⟩
 intro g_1; replace h := cond_f g_1 h
 refine sk ?_
 refine sr [(1, { id := 3 })] [2, 3, 4, 6] [0, 1, 2, 3] 4 [Pp 0, Pp 1, Pp 2, Pp 3] [Vb 43 (v_T_api_Packet a_1), Vb 43 (v_T_api_Packet b_1), Vb 43 [Ii 0, Ii 0, Ii 0, .nilsl], Vb 43 (v_T_api_Packet a_1)] hmix an ?_
 refine sq ?_
 obtain ⟨r_3, h_4, h⟩ := bind_some h
 refine rg [(4, { id := 4 }), (5, { av := .own 0 ((r_3).length), frz := [4], ids := [5], l := [.sl false 1 (List.map (fun l => AV.sl false 6 (l.map e_T_api_Event)) ([a_1.Events, b_1.Events] : List (List (T_api_Event))))], post := [(.row 54 6 (Mp e_T_api_Event r_3))] })] [2, 3, 4, 6] [0, 1, 2, 3, 5] 6 [Pp 0, Pp 1, Pp 2, Pp 3] [Vb 43 (v_T_api_Packet a_1), Vb 43 (v_T_api_Packet b_1), Vb 43 [Ii 0, Ii 0, Ii 0, .nilsl], Vb 43 [Ii a_1.Thread, Ii a_1.Serial, Ii a_1.Lost, .own 5 ((r_3).length)], Rb 54 6 (Mp e_T_api_Event r_3)] hmix (ac (by first | (simp; done) | (simp; omega) : 2 = ((List.map (fun l => AV.sl false 6 (l.map e_T_api_Event)) ([a_1.Events, b_1.Events] : List (List (T_api_Event))))).length) (ar ([.sl false 1 (List.map (fun l => AV.sl false 6 (l.map e_T_api_Event)) ([a_1.Events, b_1.Events] : List (List (T_api_Event))))] : List AV) (ac (rfl : ([] : List BoxSt) = []) (ac (slices_Concat_tracebook_api_Event_tracebook_api_Event_ok F ([a_1.Events, b_1.Events] : List (List (T_api_Event))) r_3 h_4 : TripleG prog 51 [] [] [.sl false 1 (List.map (fun l => AV.sl false 6 (l.map e_T_api_Event)) ([a_1.Events, b_1.Events] : List (List (T_api_Event))))] [(.row 54 6 (Mp e_T_api_Event r_3))] (.own 0 ((r_3).length))) an)))) ?_
 refine sq ?_
 refine sq ?_
 obtain ⟨p_2, h_7, h⟩ := bind_some h
 refine aw_mid (mk [(4, Pp 0), (6, Pp 1), (67, .bool p_2)] [(0, Vb 43 [Ii 0, Ii 0, Ii 0, .nilsl]), (1, Vb 43 [Ii a_1.Thread, Ii a_1.Serial, Ii a_1.Lost, .own 2 ((r_3).length)]), (2, Rb 54 6 (Mp e_T_api_Event r_3))] 3) ?_ ?_
 ·replace h := h_7
  obtain ⟨x_1, h_5, h⟩ := bind_some h
  obtain ⟨x_2, h_6, h⟩ := bind_some h
  rcases bft (decide (x_1.At < x_2.At)) with gg_5 | gg_5
  ·replace h := cond_t gg_5 h
   refine rg [(2, { av := e_T_api_Event x_1 }), (9, { n := (a_1.Events).length }), (11, { av := e_T_api_Event x_2 }), (16, Hg), (17, Hg), (18, Hg), (19, Hg), (20, Ht)] [4, 6, 67] [2, 3, 5] 6 [Pp 2, Pp 3, .bool true] [Vb 43 [Ii 0, Ii 0, Ii 0, .nilsl], Vb 43 [Ii a_1.Thread, Ii a_1.Serial, Ii a_1.Lost, .own 5 ((r_3).length)], Rb 54 6 (Mp e_T_api_Event r_3)] hmix (ac (vc_idx h_5 : idxA (Mp e_T_api_Event b_1.Events) (0 : Int) = some (e_T_api_Event x_1)) (ac (vc_len _ : ((Mp e_T_api_Event a_1.Events)).length = (a_1.Events).length) (ac (vc_idx h_6 : idxA (Mp e_T_api_Event a_1.Events) (w_i64 ((lN (a_1.Events)) - (1 : Int))) = some (e_T_api_Event x_2)) (ac gg_5 (ac gg_5 (ac gg_5 (ac gg_5 (ac gg_5 an)))))))) ?_
   cases h
   exact ⟨rfl, (sw [2, 3, 5] [] [.s 4, .s 6, .s 67] [.s 0, .s 1, .s 2] an)⟩
  ·replace h := cond_f gg_5 h
   refine rg [(2, { av := e_T_api_Event x_1 }), (9, { n := (a_1.Events).length }), (11, { av := e_T_api_Event x_2 }), (20, Hf)] [4, 6, 67] [2, 3, 5] 6 [Pp 2, Pp 3, .bool (decide ((lN (r_3)) > (1000 : Int)))] [Vb 43 [Ii 0, Ii 0, Ii 0, .nilsl], Vb 43 [Ii a_1.Thread, Ii a_1.Serial, Ii a_1.Lost, .own 5 ((r_3).length)], Rb 54 6 (Mp e_T_api_Event r_3)] hmix (ac (vc_idx h_5 : idxA (Mp e_T_api_Event b_1.Events) (0 : Int) = some (e_T_api_Event x_1)) (ac (vc_len _ : ((Mp e_T_api_Event a_1.Events)).length = (a_1.Events).length) (ac (vc_idx h_6 : idxA (Mp e_T_api_Event a_1.Events) (w_i64 ((lN (a_1.Events)) - (1 : Int))) = some (e_T_api_Event x_2)) (ac gg_5 (ac gg_5 (ac gg_5 (ac gg_5 (ac gg_5 an)))))))) ?_
   cases h
   exact ⟨rfl, (sw [2, 3, 5] [] [.s 4, .s 6, .s 67] [.s 0, .s 1, .s 2] an)⟩
 refine cd 67 p_2 ?_ ?_
 ·intro g_2; replace h := cond_t g_2 h
  refine sr [] [4, 5] [0] 3 [Pp 0, .bool false] [Vb 43 [Ii 0, Ii 0, Ii 0, .nilsl]] hmix an ?_
  refine wk [0] [] [.s 4, .s 5] [.a 0 (Vb 43 (v_T_api_Packet (⟨(0 : Int), (0 : Int), (0 : Int), []⟩ : T_api_Packet)))] [(4, Pp 0), (5, .bool false)] [(0, Vb 43 (v_T_api_Packet (⟨(0 : Int), (0 : Int), (0 : Int), []⟩ : T_api_Packet)))] (ar 43 (ac (rfl : ones [Ii ((⟨(0 : Int), (0 : Int), (0 : Int), []⟩ : T_api_Packet).Thread), Ii ((⟨(0 : Int), (0 : Int), (0 : Int), []⟩ : T_api_Packet).Serial), Ii ((⟨(0 : Int), (0 : Int), (0 : Int), []⟩ : T_api_Packet).Lost), .sl false 6 (Mp e_T_api_Event ((⟨(0 : Int), (0 : Int), (0 : Int), []⟩ : T_api_Packet).Events))] = true) (ac (rfl : (Ii 0 : AV) = Ii ((⟨(0 : Int), (0 : Int), (0 : Int), []⟩ : T_api_Packet).Thread)) (ac (rfl : (Ii 0 : AV) = Ii ((⟨(0 : Int), (0 : Int), (0 : Int), []⟩ : T_api_Packet).Serial)) (ac (rfl : (Ii 0 : AV) = Ii ((⟨(0 : Int), (0 : Int), (0 : Int), []⟩ : T_api_Packet).Lost)) (ac (rfl : ((Mp e_T_api_Event ((⟨(0 : Int), (0 : Int), (0 : Int), []⟩ : T_api_Packet).Events)) : List AV) = []) an)))))) ?_
  refine rt ?_
  cases h
  exact ⟨.inr rfl, Nat.le_of_ble_eq_true rfl, by kernel_rfl⟩
 intro g_2; replace h := cond_f g_2 h
 refine sk ?_
 refine sr [] [4, 5] [0, 2] 3 [Pp 0, .bool true] [Vb 43 [Ii a_1.Thread, Ii a_1.Serial, Ii a_1.Lost, .own 2 ((r_3).length)], Rb 54 6 (Mp e_T_api_Event r_3)] hmix an ?_
 refine wk [0] [2] [.s 4, .s 5] [.a 0 (Vb 43 (v_T_api_Packet (⟨a_1.Thread, a_1.Serial, a_1.Lost, r_3⟩ : T_api_Packet)))] [(4, Pp 0), (5, .bool true)] [(0, Vb 43 (v_T_api_Packet (⟨a_1.Thread, a_1.Serial, a_1.Lost, r_3⟩ : T_api_Packet)))] (ar 43 (ac (rfl : ones [Ii ((⟨a_1.Thread, a_1.Serial, a_1.Lost, r_3⟩ : T_api_Packet).Thread), Ii ((⟨a_1.Thread, a_1.Serial, a_1.Lost, r_3⟩ : T_api_Packet).Serial), Ii ((⟨a_1.Thread, a_1.Serial, a_1.Lost, r_3⟩ : T_api_Packet).Lost), .sl false 6 (Mp e_T_api_Event ((⟨a_1.Thread, a_1.Serial, a_1.Lost, r_3⟩ : T_api_Packet).Events))] = true) (ac (by first | (simp; done) | (simp; omega) : (r_3).length = ((List.map e_T_api_Event r_3)).length) (ac (rfl : (Ii a_1.Thread : AV) = Ii ((⟨a_1.Thread, a_1.Serial, a_1.Lost, r_3⟩ : T_api_Packet).Thread)) (ac (rfl : (Ii a_1.Serial : AV) = Ii ((⟨a_1.Thread, a_1.Serial, a_1.Lost, r_3⟩ : T_api_Packet).Serial)) (ac (rfl : (Ii a_1.Lost : AV) = Ii ((⟨a_1.Thread, a_1.Serial, a_1.Lost, r_3⟩ : T_api_Packet).Lost)) (ar 6 (ac (rfl : ((Mp e_T_api_Event r_3) : List AV) = (Mp e_T_api_Event ((⟨a_1.Thread, a_1.Serial, a_1.Lost, r_3⟩ : T_api_Packet).Events))) (ac (rfl : (!false || false) = true) an))))))))) ?_
 refine rt ?_
 cases h
 exact ⟨.inr rfl, Nat.le_of_ble_eq_true rfl, by kernel_rfl⟩

theorem drain_Flush_ok (F : Nat) (s_1 : T_api_Service) (r : (List (T_api_Packet)) × T_api_Service) (h : drain_Flush F s_1 = some r) : TripleG prog 17 [] [] [e_T_api_Service s_1] [.row 43 4 (Mp e_T_api_Packet r.1)] (.tuple [.own 0 ((r.1).length), e_T_api_Service r.2]) := by
 refine triple_intro (fn := Go.Proofs.Try.f17) (code := codeOf Go.Proofs.Try.f17) (by kernel_rfl) (by kernel_rfl) (Nat.le_of_ble_eq_true (by kernel_rfl)) ?_
 unfold drain_Flush at h
 refine sr [(0, { id := 0 }), (1, { id := 1, m := 1 }), (2, { id := 2 })] [1, 3] [0, 2] 3 [Pp 0, Pp 2] [Vb 27 (v_T_api_Service s_1), Vb 27 [.nilsl, .nilsl, .nilsl]] hmix an ?_
 refine sq ?_
 refine sq ?_
 obtain ⟨r_1, h_1, h⟩ := bind_some h
 refine rg [(1, { av := Ii r_1, l := [e_T_api_Service s_1] })] [1, 3, 14] [0, 2] 3 [Pp 0, Pp 2, .bool (r_1 != (0 : Int))] [Vb 27 (v_T_api_Service s_1), Vb 27 [.nilsl, .nilsl, .nilsl]] hmix (ar ([e_T_api_Service s_1] : List AV) (ac (rfl : ([] : List BoxSt) = []) (ac (drain_Check_ok F s_1 r_1 h_1 : TripleG prog 13 [] [] [e_T_api_Service s_1] [] (Ii r_1)) an))) ?_
 refine cd 14 (r_1 != (0 : Int)) ?_ ?_
 ·intro g_1; replace h := cond_t g_1 h
  refine sr [(1, { id := 3, m := 1 })] [2, 3] [2, 3] 4 [.own 3 0, Pp 2] [Vb 27 (v_T_api_Service s_1), Rb 43 4 []] hmix an ?_
  refine wk [3, 2] [] [.a 2 (.own 0 ((([] : List T_api_Packet)).length)), .s 3] [.s 0, .s 1] [(2, .own 0 ((([] : List T_api_Packet)).length)), (3, Pp 1)] [(0, Rb 43 4 []), (1, Vb 27 (v_T_api_Service s_1))] (ac (congrArg (AV.own _) (by first | (simp; done) | (simp; omega)) : (.own 3 0 : AV) = .own 3 ((([] : List T_api_Packet)).length)) an) ?_
  refine rt ?_
  cases h
  exact ⟨.inr rfl, Nat.le_of_ble_eq_true rfl, by kernel_rfl⟩
 intro g_1; replace h := cond_f g_1 h
 refine sk ?_
 refine sr [(0, { id := 3, m := 1 })] [1, 3, 4] [0, 2, 3] 4 [Pp 0, Pp 2, .own 3 0] [Vb 27 (v_T_api_Service s_1), Vb 27 [.nilsl, .nilsl, .nilsl], Rb 43 4 []] hmix an ?_
 refine sq ?_
 refine sr [(2, { n := (s_1.Threads).length })] [1, 3, 4, 17, 18, 19] [0, 2, 3] 4 [Pp 0, Pp 2, .own 3 0, .sl false 3 (Mp e_T_api_Thread s_1.Threads), Ii (lN (s_1.Threads)), Ii 0] [Vb 27 (v_T_api_Service s_1), Vb 27 [.nilsl, .nilsl, .nilsl], Rb 43 4 []] hmix (ac (vc_len _ : ((Mp e_T_api_Thread s_1.Threads)).length = (s_1.Threads).length) an) ?_
 obtain ⟨o_1, h_2, h⟩ := bind_some h
 refine aw_mid (mk [(1, Pp 0), (3, Pp 1), (4, .own 2 ((o_1).length))] [(0, Vb 27 (v_T_api_Service s_1)), (1, Vb 27 [.nilsl, .nilsl, .nilsl]), (2, Rb 43 4 (Mp e_T_api_Packet o_1))] 3) ?_ ?_
 ·replace h := h_2
  refine aw_block (id := 0) (by kernel_rfl) ?_
  refine wk [0, 2, 3] [] [.s 1, .s 3, .s 4, .s 17, .s 18, .s 19] [.s 0, .s 1, .s 2] [(1, Pp 0), (3, Pp 1), (4, .own 2 0), (17, .sl false 3 (Mp e_T_api_Thread s_1.Threads)), (18, Ii (lN (s_1.Threads))), (19, Ii 0)] [(0, Vb 27 (v_T_api_Service s_1)), (1, Vb 27 [.nilsl, .nilsl, .nilsl]), (2, Rb 43 4 [])] an ?_
  refine aw_loopF (fun n st => ∃ (v_1 : Int), ∃ (row_1 : List T_api_Packet), st = mk [(1, Pp 0), (3, Pp 1), (4, .own 2 ((row_1).length)), (17, .sl false 3 (Mp e_T_api_Thread s_1.Threads)), (18, Ii (lN (s_1.Threads))), (19, Ii v_1)] [(0, Vb 27 (v_T_api_Service s_1)), (1, Vb 27 [.nilsl, .nilsl, .nilsl]), (2, Rb 43 4 (Mp e_T_api_Packet row_1))] 3 ∧ drain_Flush_L1 F s_1 n v_1 row_1 = some o_1) F (by kernel_rfl) ⟨_, _, rfl, h⟩ ?_ ?_
  ·rintro _ ⟨_, _, _, h⟩; exact none_ne (h : (none : Option (List T_api_Packet)) = some o_1)
  rintro n_1 _ ⟨v_1, row_1, rfl, h⟩
  replace h : drain_Flush_L1_body F s_1 (drain_Flush_L1 F s_1 n_1) v_1 row_1 = some o_1 := h
  unfold drain_Flush_L1_body at h
  refine sr [] [1, 3, 4, 17, 18, 19, 20] [0, 1, 2] 3 [Pp 0, Pp 1, .own 2 ((row_1).length), .sl false 3 (Mp e_T_api_Thread s_1.Threads), Ii (lN (s_1.Threads)), Ii v_1, .bool (decide (v_1 < (lN (s_1.Threads))))] [Vb 27 (v_T_api_Service s_1), Vb 27 [.nilsl, .nilsl, .nilsl], Rb 43 4 (Mp e_T_api_Packet row_1)] hmix an ?_
  refine sq ?_
  refine cd 20 (decide (v_1 < (lN (s_1.Threads)))) ?_ ?_
  rotate_left
  ·intro g_2; replace h := cond_f g_2 h
   refine aw_exit (id := 0) (by kernel_rfl) ?_
   cases h
   exact ⟨rfl, (sw [0, 1, 2] [] [.s 1, .s 3, .s 4] [.s 0, .s 1, .s 2] an)⟩
  intro g_2; replace h := cond_t g_2 h
  refine sk ?_
  refine sq ?_
  refine aw_block (id := 1) (by kernel_rfl) ?_
  refine sq ?_
  obtain ⟨x_1, h_3, h⟩ := bind_some h
  refine rg [(0, { av := e_T_api_Thread x_1 }), (2, { id := 3 })] [1, 3, 4, 6, 17, 18, 19] [0, 1, 2, 3] 4 [Pp 0, Pp 1, .own 2 ((row_1).length), Pp 3, .sl false 3 (Mp e_T_api_Thread s_1.Threads), Ii (lN (s_1.Threads)), Ii v_1] [Vb 27 (v_T_api_Service s_1), Vb 27 [.nilsl, .nilsl, .nilsl], Rb 43 4 (Mp e_T_api_Packet row_1), Vb 60 (v_T_api_Thread x_1)] hmix (ac (vc_idx h_3 : idxA (Mp e_T_api_Thread s_1.Threads) v_1 = some (e_T_api_Thread x_1)) an) ?_
  refine sr [(2, { n := (s_1.Queue).length })] [1, 3, 4, 6, 17, 18, 19, 24, 25, 26] [0, 1, 2, 3] 4 [Pp 0, Pp 1, .own 2 ((row_1).length), Pp 3, .sl false 3 (Mp e_T_api_Thread s_1.Threads), Ii (lN (s_1.Threads)), Ii v_1, .sl false 4 (Mp e_T_api_Packet s_1.Queue), Ii (lN (s_1.Queue)), Ii 0] [Vb 27 (v_T_api_Service s_1), Vb 27 [.nilsl, .nilsl, .nilsl], Rb 43 4 (Mp e_T_api_Packet row_1), Vb 60 (v_T_api_Thread x_1)] hmix (ac (vc_len _ : ((Mp e_T_api_Packet s_1.Queue)).length = (s_1.Queue).length) an) ?_
  obtain ⟨o_2, h_4, h⟩ := bind_some h
  refine aw_mid (mk [(1, Pp 0), (3, Pp 1), (4, .own 2 ((o_2).length)), (17, .sl false 3 (Mp e_T_api_Thread s_1.Threads)), (18, Ii (lN (s_1.Threads))), (19, Ii v_1)] [(0, Vb 27 (v_T_api_Service s_1)), (1, Vb 27 [.nilsl, .nilsl, .nilsl]), (2, Rb 43 4 (Mp e_T_api_Packet o_2))] 3) ?_ ?_
  ·replace h := h_4
   refine aw_block (id := 2) (by kernel_rfl) ?_
   refine wk [0, 1, 2, 3] [] [.s 1, .s 3, .s 4, .s 6, .s 17, .s 18, .s 19, .s 24, .s 25, .s 26] [.s 0, .s 1, .s 2, .s 3] [(1, Pp 0), (3, Pp 1), (4, .own 2 ((row_1).length)), (6, Pp 3), (17, .sl false 3 (Mp e_T_api_Thread s_1.Threads)), (18, Ii (lN (s_1.Threads))), (19, Ii v_1), (24, .sl false 4 (Mp e_T_api_Packet s_1.Queue)), (25, Ii (lN (s_1.Queue))), (26, Ii 0)] [(0, Vb 27 (v_T_api_Service s_1)), (1, Vb 27 [.nilsl, .nilsl, .nilsl]), (2, Rb 43 4 (Mp e_T_api_Packet row_1)), (3, Vb 60 (v_T_api_Thread x_1))] an ?_
   refine aw_loopF (fun n st => ∃ (v_2 : Int), ∃ (row_2 : List T_api_Packet), st = mk [(1, Pp 0), (3, Pp 1), (4, .own 2 ((row_2).length)), (6, Pp 3), (17, .sl false 3 (Mp e_T_api_Thread s_1.Threads)), (18, Ii (lN (s_1.Threads))), (19, Ii v_1), (24, .sl false 4 (Mp e_T_api_Packet s_1.Queue)), (25, Ii (lN (s_1.Queue))), (26, Ii v_2)] [(0, Vb 27 (v_T_api_Service s_1)), (1, Vb 27 [.nilsl, .nilsl, .nilsl]), (2, Rb 43 4 (Mp e_T_api_Packet row_2)), (3, Vb 60 (v_T_api_Thread x_1))] 4 ∧ drain_Flush_L2 F s_1 x_1 n v_2 row_2 = some o_2) F (by kernel_rfl) ⟨_, _, rfl, h⟩ ?_ ?_
   ·rintro _ ⟨_, _, _, h⟩; exact none_ne (h : (none : Option (List T_api_Packet)) = some o_2)
   rintro n_2 _ ⟨v_2, row_2, rfl, h⟩
   replace h : drain_Flush_L2_body F s_1 x_1 (drain_Flush_L2 F s_1 x_1 n_2) v_2 row_2 = some o_2 := h
   unfold drain_Flush_L2_body at h
   refine sr [] [1, 3, 4, 6, 17, 18, 19, 24, 25, 26, 27] [0, 1, 2, 3] 4 [Pp 0, Pp 1, .own 2 ((row_2).length), Pp 3, .sl false 3 (Mp e_T_api_Thread s_1.Threads), Ii (lN (s_1.Threads)), Ii v_1, .sl false 4 (Mp e_T_api_Packet s_1.Queue), Ii (lN (s_1.Queue)), Ii v_2, .bool (decide (v_2 < (lN (s_1.Queue))))] [Vb 27 (v_T_api_Service s_1), Vb 27 [.nilsl, .nilsl, .nilsl], Rb 43 4 (Mp e_T_api_Packet row_2), Vb 60 (v_T_api_Thread x_1)] hmix an ?_
   refine sq ?_
   refine cd 27 (decide (v_2 < (lN (s_1.Queue)))) ?_ ?_
   rotate_left
   ·intro g_3; replace h := cond_f g_3 h
    refine aw_exit (id := 2) (by kernel_rfl) ?_
    cases h
    exact ⟨rfl, (sw [0, 1, 2] [] [.s 1, .s 3, .s 4, .s 17, .s 18, .s 19] [.s 0, .s 1, .s 2] an)⟩
   intro g_3; replace h := cond_t g_3 h
   refine sk ?_
   refine sq ?_
   refine aw_block (id := 3) (by kernel_rfl) ?_
   refine sq ?_
   obtain ⟨x_2, h_5, h⟩ := bind_some h
   refine rg [(0, { av := e_T_api_Packet x_2 }), (2, { id := 4 })] [1, 3, 4, 6, 8, 17, 18, 19, 24, 25, 26] [0, 1, 2, 3, 4] 5 [Pp 0, Pp 1, .own 2 ((row_2).length), Pp 3, Pp 4, .sl false 3 (Mp e_T_api_Thread s_1.Threads), Ii (lN (s_1.Threads)), Ii v_1, .sl false 4 (Mp e_T_api_Packet s_1.Queue), Ii (lN (s_1.Queue)), Ii v_2] [Vb 27 (v_T_api_Service s_1), Vb 27 [.nilsl, .nilsl, .nilsl], Rb 43 4 (Mp e_T_api_Packet row_2), Vb 60 (v_T_api_Thread x_1), Vb 43 (v_T_api_Packet x_2)] hmix (ac (vc_idx h_5 : idxA (Mp e_T_api_Packet s_1.Queue) v_2 = some (e_T_api_Packet x_2)) an) ?_
   refine sq ?_
   refine sr [] [1, 3, 4, 6, 8, 17, 18, 19, 24, 25, 26, 34] [0, 1, 2, 3, 4] 5 [Pp 0, Pp 1, .own 2 ((row_2).length), Pp 3, Pp 4, .sl false 3 (Mp e_T_api_Thread s_1.Threads), Ii (lN (s_1.Threads)), Ii v_1, .sl false 4 (Mp e_T_api_Packet s_1.Queue), Ii (lN (s_1.Queue)), Ii v_2, .bool (x_2.Thread != x_1.Id)] [Vb 27 (v_T_api_Service s_1), Vb 27 [.nilsl, .nilsl, .nilsl], Rb 43 4 (Mp e_T_api_Packet row_2), Vb 60 (v_T_api_Thread x_1), Vb 43 (v_T_api_Packet x_2)] hmix an ?_
   refine cd 34 (x_2.Thread != x_1.Id) ?_ ?_
   ·intro g_4; replace h := cond_t g_4 h
    refine aw_exit (id := 3) (by kernel_rfl) ?_
    refine rg [] [1, 3, 4, 6, 17, 18, 19, 24, 25, 26] [0, 1, 2, 3] 5 [Pp 0, Pp 1, .own 2 ((row_2).length), Pp 3, .sl false 3 (Mp e_T_api_Thread s_1.Threads), Ii (lN (s_1.Threads)), Ii v_1, .sl false 4 (Mp e_T_api_Packet s_1.Queue), Ii (lN (s_1.Queue)), Ii (w_i64 (v_2 + (1 : Int)))] [Vb 27 (v_T_api_Service s_1), Vb 27 [.nilsl, .nilsl, .nilsl], Rb 43 4 (Mp e_T_api_Packet row_2), Vb 60 (v_T_api_Thread x_1)] hmix an ?_
    exact ⟨_, (sw [0, 1, 2, 3] [] [.s 1, .s 3, .s 4, .s 6, .s 17, .s 18, .s 19, .s 24, .s 25, .s 26] [.s 0, .s 1, .s 2, .s 3] an), _, _, rfl, h⟩
   intro g_4; replace h := cond_f g_4 h
   refine sk ?_
   refine sq ?_
   refine sr [] [1, 3, 4, 6, 8, 9, 17, 18, 19, 24, 25, 26] [0, 1, 2, 3, 4] 5 [Pp 0, Pp 1, .own 2 ((row_2).length), Pp 3, Pp 4, Ii (w_i64 ((lN (row_2)) - (1 : Int))), .sl false 3 (Mp e_T_api_Thread s_1.Threads), Ii (lN (s_1.Threads)), Ii v_1, .sl false 4 (Mp e_T_api_Packet s_1.Queue), Ii (lN (s_1.Queue)), Ii v_2] [Vb 27 (v_T_api_Service s_1), Vb 27 [.nilsl, .nilsl, .nilsl], Rb 43 4 (Mp e_T_api_Packet row_2), Vb 60 (v_T_api_Thread x_1), Vb 43 (v_T_api_Packet x_2)] hmix an ?_
   refine sr [] [1, 3, 4, 6, 8, 9, 17, 18, 19, 24, 25, 26, 39] [0, 1, 2, 3, 4] 5 [Pp 0, Pp 1, .own 2 ((row_2).length), Pp 3, Pp 4, Ii (w_i64 ((lN (row_2)) - (1 : Int))), .sl false 3 (Mp e_T_api_Thread s_1.Threads), Ii (lN (s_1.Threads)), Ii v_1, .sl false 4 (Mp e_T_api_Packet s_1.Queue), Ii (lN (s_1.Queue)), Ii v_2, .bool (decide ((w_i64 ((lN (row_2)) - (1 : Int))) ≥ (0 : Int)))] [Vb 27 (v_T_api_Service s_1), Vb 27 [.nilsl, .nilsl, .nilsl], Rb 43 4 (Mp e_T_api_Packet row_2), Vb 60 (v_T_api_Thread x_1), Vb 43 (v_T_api_Packet x_2)] hmix an ?_
   obtain ⟨o_3, h_6, h⟩ := bind_some h
   refine aw_conv (K1 := (fun e st' => match o_3 with | (.inl q0) => e = .normal ∧ Sub 0 st' (mk [(1, Pp 0), (3, Pp 1), (4, .own 2 ((row_2).length)), (6, Pp 3), (8, Pp 4), (17, .sl false 3 (Mp e_T_api_Thread s_1.Threads)), (18, Ii (lN (s_1.Threads))), (19, Ii v_1), (24, .sl false 4 (Mp e_T_api_Packet s_1.Queue)), (25, Ii (lN (s_1.Queue))), (26, Ii v_2)] [(0, Vb 27 (v_T_api_Service s_1)), (1, Vb 27 [.nilsl, .nilsl, .nilsl]), (2, Rb 43 4 (Mp e_T_api_Packet row_2)), (3, Vb 60 (v_T_api_Thread x_1)), (4, Vb 43 (v_T_api_Packet x_2))] 5) | (.inr q1) => e = .exit 3 ∧ Sub 0 st' (mk [(1, Pp 0), (3, Pp 1), (4, .own 2 ((q1).length)), (6, Pp 3), (17, .sl false 3 (Mp e_T_api_Thread s_1.Threads)), (18, Ii (lN (s_1.Threads))), (19, Ii v_1), (24, .sl false 4 (Mp e_T_api_Packet s_1.Queue)), (25, Ii (lN (s_1.Queue))), (26, Ii v_2)] [(0, Vb 27 (v_T_api_Service s_1)), (1, Vb 27 [.nilsl, .nilsl, .nilsl]), (2, Rb 43 4 (Mp e_T_api_Packet q1)), (3, Vb 60 (v_T_api_Thread x_1))] 4))) ?_ ?_
   ·replace h := h_6
    refine cd 39 (decide ((w_i64 ((lN (row_2)) - (1 : Int))) ≥ (0 : Int))) ?_ ?_
    rotate_left
    ·intro g_5; replace h := cond_f g_5 h
     refine sk ?_
     cases h
     exact ⟨rfl, (sw [0, 1, 2, 3, 4] [] [.s 1, .s 3, .s 4, .s 6, .s 8, .s 17, .s 18, .s 19, .s 24, .s 25, .s 26] [.s 0, .s 1, .s 2, .s 3, .s 4] an)⟩
    intro g_5; replace h := cond_t g_5 h
    refine sq ?_
    obtain ⟨x_3, h_7, h⟩ := bind_some h
    obtain ⟨r_2, h_8, h⟩ := bind_some h
    refine rg [(3, { av := e_T_api_Packet x_3 }), (5, { av := .tuple [e_T_api_Packet r_2.1, .bool r_2.2], l := [e_T_api_Packet x_3, e_T_api_Packet x_2] }), (9, { id := 5 })] [1, 3, 4, 6, 8, 9, 10, 11, 17, 18, 19, 24, 25, 26] [0, 1, 2, 3, 4, 5] 6 [Pp 0, Pp 1, .own 2 ((row_2).length), Pp 3, Pp 4, Ii (w_i64 ((lN (row_2)) - (1 : Int))), Pp 5, .bool r_2.2, .sl false 3 (Mp e_T_api_Thread s_1.Threads), Ii (lN (s_1.Threads)), Ii v_1, .sl false 4 (Mp e_T_api_Packet s_1.Queue), Ii (lN (s_1.Queue)), Ii v_2] [Vb 27 (v_T_api_Service s_1), Vb 27 [.nilsl, .nilsl, .nilsl], Rb 43 4 (Mp e_T_api_Packet row_2), Vb 60 (v_T_api_Thread x_1), Vb 43 (v_T_api_Packet x_2), Vb 43 (v_T_api_Packet r_2.1)] hmix (ac (idxL_lo h_7 : (0 : Int) ≤ (w_i64 ((lN (row_2)) - (1 : Int)))) (ac (by first | (simp; done) | simpa using idxL_hi h_7 : (w_i64 ((((row_2).length : Nat) : Int) - (1 : Int))) < (((row_2).length : Nat) : Int)) (ac (vc_get h_7 : (Mp e_T_api_Packet row_2)[(w_i64 ((lN (row_2)) - (1 : Int))).toNat]? = some (e_T_api_Packet x_3)) (ar ([e_T_api_Packet x_3, e_T_api_Packet x_2] : List AV) (ac (rfl : ([] : List BoxSt) = []) (ac (packet_Join_ok F x_3 x_2 r_2 h_8 : TripleG prog 29 [] [] [e_T_api_Packet x_3, e_T_api_Packet x_2] [] (.tuple [e_T_api_Packet r_2.1, .bool r_2.2])) an)))))) ?_
    refine sr [] [1, 3, 4, 6, 8, 9, 10, 17, 18, 19, 24, 25, 26, 49] [0, 1, 2, 3, 4, 5] 6 [Pp 0, Pp 1, .own 2 ((row_2).length), Pp 3, Pp 4, Ii (w_i64 ((lN (row_2)) - (1 : Int))), Pp 5, .sl false 3 (Mp e_T_api_Thread s_1.Threads), Ii (lN (s_1.Threads)), Ii v_1, .sl false 4 (Mp e_T_api_Packet s_1.Queue), Ii (lN (s_1.Queue)), Ii v_2, .bool r_2.2] [Vb 27 (v_T_api_Service s_1), Vb 27 [.nilsl, .nilsl, .nilsl], Rb 43 4 (Mp e_T_api_Packet row_2), Vb 60 (v_T_api_Thread x_1), Vb 43 (v_T_api_Packet x_2), Vb 43 (v_T_api_Packet r_2.1)] hmix an ?_
    refine cd 49 r_2.2 ?_ ?_
    rotate_left
    ·intro g_6; replace h := cond_f g_6 h
     refine sk ?_
     cases h
     exact ⟨rfl, (sw [0, 1, 2, 3, 4] [] [.s 1, .s 3, .s 4, .s 6, .s 8, .s 17, .s 18, .s 19, .s 24, .s 25, .s 26] [.s 0, .s 1, .s 2, .s 3, .s 4] an)⟩
    intro g_6; replace h := cond_t g_6 h
    refine sq ?_
    obtain ⟨x_4, h_9, h⟩ := bind_some h
    refine rg [(4, { av := e_T_api_Packet x_4, l := (Mp e_T_api_Packet ((row_2).set ((w_i64 ((lN (row_2)) - (1 : Int))).toNat) r_2.1)) })] [1, 3, 4, 6, 17, 18, 19, 24, 25, 26] [0, 1, 2, 3] 6 [Pp 0, Pp 1, .own 2 ((row_2).length), Pp 3, .sl false 3 (Mp e_T_api_Thread s_1.Threads), Ii (lN (s_1.Threads)), Ii v_1, .sl false 4 (Mp e_T_api_Packet s_1.Queue), Ii (lN (s_1.Queue)), Ii v_2] [Vb 27 (v_T_api_Service s_1), Vb 27 [.nilsl, .nilsl, .nilsl], Rb 43 4 (Mp e_T_api_Packet ((row_2).set ((w_i64 ((lN (row_2)) - (1 : Int))).toNat) r_2.1)), Vb 60 (v_T_api_Thread x_1)] hmix (ac (idxL_lo h_9 : (0 : Int) ≤ (w_i64 ((lN (row_2)) - (1 : Int)))) (ac (by first | (simp; done) | simpa using idxL_hi h_9 : (w_i64 ((((row_2).length : Nat) : Int) - (1 : Int))) < (((row_2).length : Nat) : Int)) (ac (vc_get h_9 : (Mp e_T_api_Packet row_2)[(w_i64 ((lN (row_2)) - (1 : Int))).toNat]? = some (e_T_api_Packet x_4)) (ac (vc_set _ _ _ : (Mp e_T_api_Packet ((row_2).set ((w_i64 ((lN (row_2)) - (1 : Int))).toNat) r_2.1)) = List.set (Mp e_T_api_Packet row_2) ((w_i64 ((lN (row_2)) - (1 : Int))).toNat) (setElem (e_T_api_Packet x_4) 0 [Ii r_2.1.Thread, Ii r_2.1.Serial, Ii r_2.1.Lost, .sl false 6 (Mp e_T_api_Event r_2.1.Events)])) an)))) ?_
    refine aw_exit (id := 3) (by kernel_rfl) ?_
    cases h
    exact ⟨rfl, (sw [0, 1, 2, 3] [] [.s 1, .s 3, .a 4 (.own 2 (((row_2).set ((w_i64 ((lN (row_2)) - (1 : Int))).toNat) r_2.1).length)), .s 6, .s 17, .s 18, .s 19, .s 24, .s 25, .s 26] [.s 0, .s 1, .s 2, .s 3] (ac (congrArg (AV.own _) (by first | (simp; done) | (simp; omega)) : (.own 2 ((row_2).length) : AV) = .own 2 (((row_2).set ((w_i64 ((lN (row_2)) - (1 : Int))).toNat) r_2.1).length)) an))⟩
   intro e st1 hk
   rcases o_3 with q_1 | q_2
   rotate_left
   ·obtain ⟨rfl, hs⟩ := hk
    refine ⟨_, hs, ?_⟩
    refine rg [] [1, 3, 4, 6, 17, 18, 19, 24, 25, 26] [0, 1, 2, 3] 4 [Pp 0, Pp 1, .own 2 ((q_2).length), Pp 3, .sl false 3 (Mp e_T_api_Thread s_1.Threads), Ii (lN (s_1.Threads)), Ii v_1, .sl false 4 (Mp e_T_api_Packet s_1.Queue), Ii (lN (s_1.Queue)), Ii (w_i64 (v_2 + (1 : Int)))] [Vb 27 (v_T_api_Service s_1), Vb 27 [.nilsl, .nilsl, .nilsl], Rb 43 4 (Mp e_T_api_Packet q_2), Vb 60 (v_T_api_Thread x_1)] hmix an ?_
    exact ⟨_, (sw [0, 1, 2, 3] [] [.s 1, .s 3, .s 4, .s 6, .s 17, .s 18, .s 19, .s 24, .s 25, .s 26] [.s 0, .s 1, .s 2, .s 3] an), _, _, rfl, h⟩
   obtain ⟨rfl, hs⟩ := hk
   refine ⟨_, hs, ?_⟩
   obtain ⟨_, h_10, h⟩ := bind_some h; replace h_10 := need_some h_10
   refine rg [(2, { id := 5 }), (3, { id := 6, l := (Mp e_T_api_Packet (row_2 ++ ([x_2] : List T_api_Packet))), n := ((row_2 ++ ([x_2] : List T_api_Packet))).length })] [1, 3, 4, 6, 17, 18, 19, 24, 25, 26] [0, 1, 3, 6] 7 [Pp 0, Pp 1, .own 6 (((row_2 ++ ([x_2] : List T_api_Packet))).length), Pp 3, .sl false 3 (Mp e_T_api_Thread s_1.Threads), Ii (lN (s_1.Threads)), Ii v_1, .sl false 4 (Mp e_T_api_Packet s_1.Queue), Ii (lN (s_1.Queue)), Ii v_2] [Vb 27 (v_T_api_Service s_1), Vb 27 [.nilsl, .nilsl, .nilsl], Vb 60 (v_T_api_Thread x_1), Rb 43 4 (Mp e_T_api_Packet (row_2 ++ ([x_2] : List T_api_Packet)))] hmix (ac (by first | (simp; done) | (simp; omega) : (row_2).length = ((List.map e_T_api_Packet row_2)).length) (ac (by first | (simp; done) | (simp; omega) : 1 = ((List.map e_T_api_Packet ([x_2] : List T_api_Packet))).length) (ac (vc_app _ _ : (Mp e_T_api_Packet (row_2 ++ ([x_2] : List T_api_Packet))) = (Mp e_T_api_Packet row_2) ++ (Mp e_T_api_Packet ([x_2] : List T_api_Packet))) (ac (by simp : ((row_2 ++ ([x_2] : List T_api_Packet))).length = ((List.map e_T_api_Packet (row_2 ++ ([x_2] : List T_api_Packet)))).length) (ac (by first | (simp; done) | simpa using h_10 : (((List.map e_T_api_Packet row_2) : List AV).length + ((List.map e_T_api_Packet ([x_2] : List T_api_Packet)) : List AV).length) * 48 ≤ 140737488355328) an))))) ?_
   refine rg [] [1, 3, 4, 6, 17, 18, 19, 24, 25, 26] [0, 1, 3, 6] 7 [Pp 0, Pp 1, .own 6 (((row_2 ++ ([x_2] : List T_api_Packet))).length), Pp 3, .sl false 3 (Mp e_T_api_Thread s_1.Threads), Ii (lN (s_1.Threads)), Ii v_1, .sl false 4 (Mp e_T_api_Packet s_1.Queue), Ii (lN (s_1.Queue)), Ii (w_i64 (v_2 + (1 : Int)))] [Vb 27 (v_T_api_Service s_1), Vb 27 [.nilsl, .nilsl, .nilsl], Vb 60 (v_T_api_Thread x_1), Rb 43 4 (Mp e_T_api_Packet (row_2 ++ ([x_2] : List T_api_Packet)))] hmix an ?_
   exact ⟨_, (sw [0, 1, 6, 3] [] [.s 1, .s 3, .s 4, .s 6, .s 17, .s 18, .s 19, .s 24, .s 25, .s 26] [.s 0, .s 1, .s 2, .s 3] an), _, _, rfl, h⟩
  refine rg [] [1, 3, 4, 17, 18, 19] [0, 1, 2] 3 [Pp 0, Pp 1, .own 2 ((o_2).length), .sl false 3 (Mp e_T_api_Thread s_1.Threads), Ii (lN (s_1.Threads)), Ii (w_i64 (v_1 + (1 : Int)))] [Vb 27 (v_T_api_Service s_1), Vb 27 [.nilsl, .nilsl, .nilsl], Rb 43 4 (Mp e_T_api_Packet o_2)] hmix an ?_
  exact ⟨_, (sw [0, 1, 2] [] [.s 1, .s 3, .s 4, .s 17, .s 18, .s 19] [.s 0, .s 1, .s 2] an), _, _, rfl, h⟩
 refine sr [] [1, 3, 4] [0, 1, 2] 3 [Pp 0, Pp 1, .own 2 ((o_1).length)] [Vb 27 [.sl false 3 (Mp e_T_api_Thread s_1.Threads), .sl false 1 (Mi s_1.Next), .nilsl], Vb 27 [.nilsl, .nilsl, .nilsl], Rb 43 4 (Mp e_T_api_Packet o_1)] hmix an ?_
 refine sr [] [2, 3] [1, 2] 3 [.own 2 ((o_1).length), Pp 1] [Vb 27 [.sl false 3 (Mp e_T_api_Thread s_1.Threads), .sl false 1 (Mi s_1.Next), .nilsl], Rb 43 4 (Mp e_T_api_Packet o_1)] hmix an ?_
 refine wk [2, 1] [] [.s 2, .s 3] [.s 0, .a 1 (Vb 27 (v_T_api_Service (⟨s_1.Threads, s_1.Next, []⟩ : T_api_Service)))] [(2, .own 0 ((o_1).length)), (3, Pp 1)] [(0, Rb 43 4 (Mp e_T_api_Packet o_1)), (1, Vb 27 (v_T_api_Service (⟨s_1.Threads, s_1.Next, []⟩ : T_api_Service)))] (ar 27 (ac (rfl : ones [.sl false 3 (Mp e_T_api_Thread ((⟨s_1.Threads, s_1.Next, []⟩ : T_api_Service).Threads)), .sl false 1 (Mi ((⟨s_1.Threads, s_1.Next, []⟩ : T_api_Service).Next)), .sl false 4 (Mp e_T_api_Packet ((⟨s_1.Threads, s_1.Next, []⟩ : T_api_Service).Queue))] = true) (ar 3 (ac (rfl : ((Mp e_T_api_Thread s_1.Threads) : List AV) = (Mp e_T_api_Thread ((⟨s_1.Threads, s_1.Next, []⟩ : T_api_Service).Threads))) (ac (rfl : (!false || false) = true) (ar 1 (ac (rfl : ((Mi s_1.Next) : List AV) = (Mi ((⟨s_1.Threads, s_1.Next, []⟩ : T_api_Service).Next))) (ac (rfl : (!false || false) = true) (ac (rfl : ((Mp e_T_api_Packet ((⟨s_1.Threads, s_1.Next, []⟩ : T_api_Service).Queue)) : List AV) = []) an))))))))) ?_
 refine rt ?_
 cases h
 exact ⟨.inr rfl, Nat.le_of_ble_eq_true rfl, by kernel_rfl⟩

theorem drain_Expect_ok (F : Nat) (s_1 : T_api_Service) (thread_1 : Int) (r : Int × Int) (h : drain_Expect F s_1 thread_1 = some r) : TripleG prog 15 [] [] [e_T_api_Service s_1, Ii thread_1] [] (.tuple [Ii r.1, Ii r.2]) := by
 refine triple_intro (fn := Go.Proofs.Try.f15) (code := codeOf Go.Proofs.Try.f15) (by kernel_rfl) (by kernel_rfl) (Nat.le_of_ble_eq_true (by kernel_rfl)) ?_
 unfold drain_Expect at h
 refine sr [(0, { id := 0 })] [1, 2] [0] 1 [Ii thread_1, Pp 0] [Vb 27 (v_T_api_Service s_1)] hmix an ?_
 refine sq ?_
 refine sq ?_
 obtain ⟨r_1, h_1, h⟩ := bind_some h
 refine rg [(1, { av := Ii r_1, l := [e_T_api_Service s_1] })] [1, 2, 6] [0] 1 [Ii thread_1, Pp 0, Ii r_1] [Vb 27 (v_T_api_Service s_1)] hmix (ar ([e_T_api_Service s_1] : List AV) (ac (rfl : ([] : List BoxSt) = []) (ac (drain_Check_ok F s_1 r_1 h_1 : TripleG prog 13 [] [] [e_T_api_Service s_1] [] (Ii r_1)) an))) ?_
 refine sr [] [1, 2, 6, 11] [0] 1 [Ii thread_1, Pp 0, Ii r_1, .bool (r_1 != (0 : Int))] [Vb 27 (v_T_api_Service s_1)] hmix an ?_
 refine cd 11 (r_1 != (0 : Int)) ?_ ?_
 ·intro g_1; replace h := cond_t g_1 h
  refine sr [] [4, 5] [] 1 [Ii 0, Ii r_1] [] hmix an ?_
  refine rt ?_
  cases h
  exact ⟨.inr rfl, Nat.le_of_ble_eq_true rfl, by kernel_rfl⟩
 intro g_1; replace h := cond_f g_1 h
 refine sk ?_
 refine sq ?_
 obtain ⟨r_2, h_2, h⟩ := bind_some h
 refine rg [(2, { av := Ii r_2, l := [e_T_api_Service s_1, Ii thread_1] })] [2, 7] [0] 1 [Pp 0, Ii r_2] [Vb 27 (v_T_api_Service s_1)] hmix (ar ([e_T_api_Service s_1, Ii thread_1] : List AV) (ac (rfl : ([] : List BoxSt) = []) (ac (drain_find_ok F s_1 thread_1 r_2 h_2 : TripleG prog 36 [] [] [e_T_api_Service s_1, Ii thread_1] [] (Ii r_2)) an))) ?_
 refine sq ?_
 refine sr [] [2, 7, 17] [0] 1 [Pp 0, Ii r_2, .bool (decide (r_2 < (0 : Int)))] [Vb 27 (v_T_api_Service s_1)] hmix an ?_
 refine cd 17 (decide (r_2 < (0 : Int))) ?_ ?_
 ·intro g_2; replace h := cond_t g_2 h
  refine sr [] [4, 5] [] 1 [Ii 0, Ii 5] [] hmix an ?_
  refine rt ?_
  cases h
  exact ⟨.inr rfl, Nat.le_of_ble_eq_true rfl, by kernel_rfl⟩
 intro g_2; replace h := cond_f g_2 h
 refine sk ?_
 refine sq ?_
 obtain ⟨x_1, h_3, h⟩ := bind_some h
 refine rg [(3, { av := Ii x_1 })] [4, 5] [] 1 [Ii x_1, Ii 0] [] hmix (ac (vc_idx h_3 : idxA (Mi s_1.Next) r_2 = some (Ii x_1)) an) ?_
 refine rt ?_
 cases h
 exact ⟨.inr rfl, Nat.le_of_ble_eq_true rfl, by kernel_rfl⟩

end Go.Ab
