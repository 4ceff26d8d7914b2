/- Printed: the typed Lean functions of the Go functions, or the proofs that the Go functions meet them. No conditions but those that the theorems name. -/
import Derived.Test.YtldkljbmhfiboaaP09xD
import Derived.Test.YtldkljbmhfiboaaProg
namespace Go.Ab
open Go
set_option linter.unusedVariables false
noncomputable abbrev prog := Go.Proofs.Try.prog
theorem hmix : prog.follows .mixedOrders = true := by kernel_rfl

theorem ring_New_ok (size_1 : Int) (p_1 : Int) (r : T_api_Ring × Int) (h : ring_New size_1 p_1 = some r) : TripleG prog 9 [] [] [Ii size_1, Ii p_1] [] (.tuple [e_T_api_Ring r.1, Ii r.2]) := by
 refine triple_intro (fn := Go.Proofs.Try.f9) (code := codeOf Go.Proofs.Try.f9) (by kernel_rfl) (by kernel_rfl) (Nat.le_of_ble_eq_true (by kernel_rfl)) ?_
 unfold ring_New at h
 refine sr [(0, { id := 0 })] [0, 1, 4] [0] 1 [Ii size_1, Ii p_1, Pp 0] [Vb 25 [Ii 0, .nilsl, Ii 0, Ii 0, Ii 0, Ii 0]] hmix an ?_
 refine sq ?_
 refine aw_block (id := 0) (by kernel_rfl) ?_
 refine sq ?_
 refine aw_mid (mk [(0, Ii size_1), (1, Ii p_1), (4, Pp 0), (6, .bool (decide (size_1 < (16 : Int)) || decide (size_1 > (65536 : Int))))] [(0, Vb 25 [Ii 0, .nilsl, Ii 0, Ii 0, Ii 0, Ii 0])] 1) ?_ ?_
 ·rcases bft (decide (size_1 < (16 : Int))) with gg_1 | gg_1
  ·refine rg [(3, Hg), (4, Hg), (5, Ht)] [0, 1, 4, 6] [0] 1 [Ii size_1, Ii p_1, Pp 0, .bool true] [Vb 25 [Ii 0, .nilsl, Ii 0, Ii 0, Ii 0, Ii 0]] hmix (ac gg_1 (ac gg_1 (ac gg_1 an))) ?_
   exact ⟨rfl, (sw [0] [] [.s 0, .s 1, .s 4, .a 6 (.bool (decide (size_1 < (16 : Int)) || decide (size_1 > (65536 : Int))))] [.s 0] (ac (congrArg AV.bool (ort gg_1) : (.bool true : AV) = .bool (decide (size_1 < (16 : Int)) || decide (size_1 > (65536 : Int)))) an))⟩
  ·refine rg [(5, Hf)] [0, 1, 4, 6] [0] 1 [Ii size_1, Ii p_1, Pp 0, .bool (decide (size_1 > (65536 : Int)))] [Vb 25 [Ii 0, .nilsl, Ii 0, Ii 0, Ii 0, Ii 0]] hmix (ac gg_1 (ac gg_1 (ac gg_1 an))) ?_
   exact ⟨rfl, (sw [0] [] [.s 0, .s 1, .s 4, .a 6 (.bool (decide (size_1 < (16 : Int)) || decide (size_1 > (65536 : Int))))] [.s 0] (ac (congrArg AV.bool (orf gg_1 rfl) : (.bool (decide (size_1 > (65536 : Int))) : AV) = .bool (decide (size_1 < (16 : Int)) || decide (size_1 > (65536 : Int)))) an))⟩
 refine cd 6 (decide (size_1 < (16 : Int)) || decide (size_1 > (65536 : Int))) ?_ ?_
 ·intro g_1; replace h := cond_t g_1 h
  refine sr [] [4, 5] [0] 1 [Pp 0, Ii 2] [Vb 25 [Ii 0, .nilsl, Ii 0, Ii 0, Ii 0, Ii 0]] hmix an ?_
  refine wk [0] [] [.s 4, .s 5] [.a 0 (Vb 25 (v_T_api_Ring (⟨(0 : Int), [], (0 : Int), (0 : Int), (0 : Int), (0 : Int)⟩ : T_api_Ring)))] [(4, Pp 0), (5, Ii 2)] [(0, Vb 25 (v_T_api_Ring (⟨(0 : Int), [], (0 : Int), (0 : Int), (0 : Int), (0 : Int)⟩ : T_api_Ring)))] (ar 25 (ac (rfl : ones [Ii ((⟨(0 : Int), [], (0 : Int), (0 : Int), (0 : Int), (0 : Int)⟩ : T_api_Ring).Policy), .sl false 1 (Mb ((⟨(0 : Int), [], (0 : Int), (0 : Int), (0 : Int), (0 : Int)⟩ : T_api_Ring).Data)), Ii ((⟨(0 : Int), [], (0 : Int), (0 : Int), (0 : Int), (0 : Int)⟩ : T_api_Ring).Start), Ii ((⟨(0 : Int), [], (0 : Int), (0 : Int), (0 : Int), (0 : Int)⟩ : T_api_Ring).End), Ii ((⟨(0 : Int), [], (0 : Int), (0 : Int), (0 : Int), (0 : Int)⟩ : T_api_Ring).First), Ii ((⟨(0 : Int), [], (0 : Int), (0 : Int), (0 : Int), (0 : Int)⟩ : T_api_Ring).Next)] = true) (ac (rfl : (Ii 0 : AV) = Ii ((⟨(0 : Int), [], (0 : Int), (0 : Int), (0 : Int), (0 : Int)⟩ : T_api_Ring).Policy)) (ac (rfl : ((Mb ((⟨(0 : Int), [], (0 : Int), (0 : Int), (0 : Int), (0 : Int)⟩ : T_api_Ring).Data)) : List AV) = []) (ac (rfl : (Ii 0 : AV) = Ii ((⟨(0 : Int), [], (0 : Int), (0 : Int), (0 : Int), (0 : Int)⟩ : T_api_Ring).Start)) (ac (rfl : (Ii 0 : AV) = Ii ((⟨(0 : Int), [], (0 : Int), (0 : Int), (0 : Int), (0 : Int)⟩ : T_api_Ring).End)) (ac (rfl : (Ii 0 : AV) = Ii ((⟨(0 : Int), [], (0 : Int), (0 : Int), (0 : Int), (0 : Int)⟩ : T_api_Ring).First)) (ac (rfl : (Ii 0 : AV) = Ii ((⟨(0 : Int), [], (0 : Int), (0 : Int), (0 : Int), (0 : Int)⟩ : T_api_Ring).Next)) an)))))))) ?_
  refine rt ?_
  cases h
  exact ⟨.inr rfl, Nat.le_of_ble_eq_true rfl, by kernel_rfl⟩
 intro g_1; replace h := cond_f g_1 h
 refine sq ?_
 refine aw_mid (mk [(0, Ii size_1), (1, Ii p_1), (4, Pp 0), (14, .bool ((p_1 != (1 : Int)) && (p_1 != (2 : Int))))] [(0, Vb 25 [Ii 0, .nilsl, Ii 0, Ii 0, Ii 0, Ii 0])] 1) ?_ ?_
 ·rcases bft (p_1 != (1 : Int)) with gg_2 | gg_2
  ·refine rg [(5, Ht)] [0, 1, 4, 14] [0] 1 [Ii size_1, Ii p_1, Pp 0, .bool (p_1 != (2 : Int))] [Vb 25 [Ii 0, .nilsl, Ii 0, Ii 0, Ii 0, Ii 0]] hmix (ac gg_2 (ac gg_2 (ac gg_2 an))) ?_
   exact ⟨rfl, (sw [0] [] [.s 0, .s 1, .s 4, .a 14 (.bool ((p_1 != (1 : Int)) && (p_1 != (2 : Int))))] [.s 0] (ac (congrArg AV.bool (andt gg_2 rfl) : (.bool (p_1 != (2 : Int)) : AV) = .bool ((p_1 != (1 : Int)) && (p_1 != (2 : Int)))) an))⟩
  ·refine rg [(3, Hg), (4, Hg), (5, Hf)] [0, 1, 4, 14] [0] 1 [Ii size_1, Ii p_1, Pp 0, .bool false] [Vb 25 [Ii 0, .nilsl, Ii 0, Ii 0, Ii 0, Ii 0]] hmix (ac gg_2 (ac gg_2 (ac gg_2 an))) ?_
   exact ⟨rfl, (sw [0] [] [.s 0, .s 1, .s 4, .a 14 (.bool ((p_1 != (1 : Int)) && (p_1 != (2 : Int))))] [.s 0] (ac (congrArg AV.bool (andf gg_2) : (.bool false : AV) = .bool ((p_1 != (1 : Int)) && (p_1 != (2 : Int)))) an))⟩
 refine cd 14 ((p_1 != (1 : Int)) && (p_1 != (2 : Int))) ?_ ?_
 ·intro g_2; replace h := cond_t g_2 h
  refine sr [] [4, 5] [0] 1 [Pp 0, Ii 1] [Vb 25 [Ii 0, .nilsl, Ii 0, Ii 0, Ii 0, Ii 0]] hmix an ?_
  refine wk [0] [] [.s 4, .s 5] [.a 0 (Vb 25 (v_T_api_Ring (⟨(0 : Int), [], (0 : Int), (0 : Int), (0 : Int), (0 : Int)⟩ : T_api_Ring)))] [(4, Pp 0), (5, Ii 1)] [(0, Vb 25 (v_T_api_Ring (⟨(0 : Int), [], (0 : Int), (0 : Int), (0 : Int), (0 : Int)⟩ : T_api_Ring)))] (ar 25 (ac (rfl : ones [Ii ((⟨(0 : Int), [], (0 : Int), (0 : Int), (0 : Int), (0 : Int)⟩ : T_api_Ring).Policy), .sl false 1 (Mb ((⟨(0 : Int), [], (0 : Int), (0 : Int), (0 : Int), (0 : Int)⟩ : T_api_Ring).Data)), Ii ((⟨(0 : Int), [], (0 : Int), (0 : Int), (0 : Int), (0 : Int)⟩ : T_api_Ring).Start), Ii ((⟨(0 : Int), [], (0 : Int), (0 : Int), (0 : Int), (0 : Int)⟩ : T_api_Ring).End), Ii ((⟨(0 : Int), [], (0 : Int), (0 : Int), (0 : Int), (0 : Int)⟩ : T_api_Ring).First), Ii ((⟨(0 : Int), [], (0 : Int), (0 : Int), (0 : Int), (0 : Int)⟩ : T_api_Ring).Next)] = true) (ac (rfl : (Ii 0 : AV) = Ii ((⟨(0 : Int), [], (0 : Int), (0 : Int), (0 : Int), (0 : Int)⟩ : T_api_Ring).Policy)) (ac (rfl : ((Mb ((⟨(0 : Int), [], (0 : Int), (0 : Int), (0 : Int), (0 : Int)⟩ : T_api_Ring).Data)) : List AV) = []) (ac (rfl : (Ii 0 : AV) = Ii ((⟨(0 : Int), [], (0 : Int), (0 : Int), (0 : Int), (0 : Int)⟩ : T_api_Ring).Start)) (ac (rfl : (Ii 0 : AV) = Ii ((⟨(0 : Int), [], (0 : Int), (0 : Int), (0 : Int), (0 : Int)⟩ : T_api_Ring).End)) (ac (rfl : (Ii 0 : AV) = Ii ((⟨(0 : Int), [], (0 : Int), (0 : Int), (0 : Int), (0 : Int)⟩ : T_api_Ring).First)) (ac (rfl : (Ii 0 : AV) = Ii ((⟨(0 : Int), [], (0 : Int), (0 : Int), (0 : Int), (0 : Int)⟩ : T_api_Ring).Next)) an)))))))) ?_
  refine rt ?_
  cases h
  exact ⟨.inr rfl, Nat.le_of_ble_eq_true rfl, by kernel_rfl⟩
 intro g_2; replace h := cond_f g_2 h
 refine sk ?_
 refine sq ?_
 obtain ⟨_, h_1, h⟩ := bind_some h; replace h_1 := need_some h_1
 refine rg [(2, { id := 1, l := (Mb (List.replicate ((size_1).toNat) (0 : Int))), m := (size_1).toNat, n := (size_1).toNat })] [4, 5] [0, 1] 2 [Pp 0, Ii 0] [Vb 25 [Ii p_1, .own 1 ((size_1).toNat), Ii 0, Ii 0, Ii 0, Ii 0], Rb 5 1 (Mb (List.replicate ((size_1).toNat) (0 : Int)))] hmix (ac ((Int.toNat_of_nonneg h_1.1).symm : size_1 = (((size_1).toNat : Nat) : Int)) (ac ((Int.toNat_of_nonneg h_1.1).symm : size_1 = (((size_1).toNat : Nat) : Int)) (ac (Nat.le_refl _ : ((size_1).toNat) ≤ ((size_1).toNat)) (ac h_1.2 (ac (vc_rep : (Mb (List.replicate ((size_1).toNat) (0 : Int))) = List.replicate ((size_1).toNat) (Iu 0)) an))))) ?_
 refine wk [0] [1] [.s 4, .s 5] [.a 0 (Vb 25 (v_T_api_Ring (⟨p_1, (List.replicate ((size_1).toNat) (0 : Int)), (0 : Int), (0 : Int), (0 : Int), (0 : Int)⟩ : T_api_Ring)))] [(4, Pp 0), (5, Ii 0)] [(0, Vb 25 (v_T_api_Ring (⟨p_1, (List.replicate ((size_1).toNat) (0 : Int)), (0 : Int), (0 : Int), (0 : Int), (0 : Int)⟩ : T_api_Ring)))] (ar 25 (ac (rfl : ones [Ii ((⟨p_1, (List.replicate ((size_1).toNat) (0 : Int)), (0 : Int), (0 : Int), (0 : Int), (0 : Int)⟩ : T_api_Ring).Policy), .sl false 1 (Mb ((⟨p_1, (List.replicate ((size_1).toNat) (0 : Int)), (0 : Int), (0 : Int), (0 : Int), (0 : Int)⟩ : T_api_Ring).Data)), Ii ((⟨p_1, (List.replicate ((size_1).toNat) (0 : Int)), (0 : Int), (0 : Int), (0 : Int), (0 : Int)⟩ : T_api_Ring).Start), Ii ((⟨p_1, (List.replicate ((size_1).toNat) (0 : Int)), (0 : Int), (0 : Int), (0 : Int), (0 : Int)⟩ : T_api_Ring).End), Ii ((⟨p_1, (List.replicate ((size_1).toNat) (0 : Int)), (0 : Int), (0 : Int), (0 : Int), (0 : Int)⟩ : T_api_Ring).First), Ii ((⟨p_1, (List.replicate ((size_1).toNat) (0 : Int)), (0 : Int), (0 : Int), (0 : Int), (0 : Int)⟩ : T_api_Ring).Next)] = true) (ac (by rw [List.length_map]; exact List.length_replicate.symm : (size_1).toNat = ((List.map (AV.int .u8) (List.replicate ((size_1).toNat) (0 : Int)))).length) (ac (rfl : (Ii p_1 : AV) = Ii ((⟨p_1, (List.replicate ((size_1).toNat) (0 : Int)), (0 : Int), (0 : Int), (0 : Int), (0 : Int)⟩ : T_api_Ring).Policy)) (ar 1 (ac (rfl : ((Mb (List.replicate ((size_1).toNat) (0 : Int))) : List AV) = (Mb ((⟨p_1, (List.replicate ((size_1).toNat) (0 : Int)), (0 : Int), (0 : Int), (0 : Int), (0 : Int)⟩ : T_api_Ring).Data))) (ac (rfl : (!false || false) = true) (ac (rfl : (Ii 0 : AV) = Ii ((⟨p_1, (List.replicate ((size_1).toNat) (0 : Int)), (0 : Int), (0 : Int), (0 : Int), (0 : Int)⟩ : T_api_Ring).Start)) (ac (rfl : (Ii 0 : AV) = Ii ((⟨p_1, (List.replicate ((size_1).toNat) (0 : Int)), (0 : Int), (0 : Int), (0 : Int), (0 : Int)⟩ : T_api_Ring).End)) (ac (rfl : (Ii 0 : AV) = Ii ((⟨p_1, (List.replicate ((size_1).toNat) (0 : Int)), (0 : Int), (0 : Int), (0 : Int), (0 : Int)⟩ : T_api_Ring).First)) (ac (rfl : (Ii 0 : AV) = Ii ((⟨p_1, (List.replicate ((size_1).toNat) (0 : Int)), (0 : Int), (0 : Int), (0 : Int), (0 : Int)⟩ : T_api_Ring).Next)) an))))))))))) ?_
 refine rt ?_
 cases h
 exact ⟨.inr rfl, Nat.le_of_ble_eq_true rfl, by kernel_rfl⟩

theorem R09_New_ok (size_1 : Int) (p_1 : Int) (r : T_api_Ring × Int) (h : R09_New size_1 p_1 = some r) : TripleG prog 10 [] [] [Ii size_1, Ii p_1] [] (.tuple [e_T_api_Ring r.1, Ii r.2]) := by
 refine triple_intro (fn := Go.Proofs.Try.f10) (code := codeOf Go.Proofs.Try.f10) (by kernel_rfl) (by kernel_rfl) (Nat.le_of_ble_eq_true (by kernel_rfl)) ?_
 unfold R09_New at h
 refine sr [(0, { id := 0 })] [0, 1, 4] [0] 1 [Ii size_1, Ii p_1, Pp 0] [Vb 25 [Ii 0, .nilsl, Ii 0, Ii 0, Ii 0, Ii 0]] hmix an ?_
 refine sq ?_
 refine sq ?_
 refine aw_mid (mk [(0, Ii size_1), (1, Ii p_1), (4, Pp 0), (11, .bool (decide (size_1 < (16 : Int)) || decide (size_1 > (65536 : Int))))] [(0, Vb 25 [Ii 0, .nilsl, Ii 0, Ii 0, Ii 0, Ii 0])] 1) ?_ ?_
 ·rcases bft (decide (size_1 < (16 : Int))) with gg_1 | gg_1
  ·refine rg [(3, Hg), (4, Hg), (5, Ht)] [0, 1, 4, 11] [0] 1 [Ii size_1, Ii p_1, Pp 0, .bool true] [Vb 25 [Ii 0, .nilsl, Ii 0, Ii 0, Ii 0, Ii 0]] hmix (ac gg_1 (ac gg_1 (ac gg_1 an))) ?_
   exact ⟨rfl, (sw [0] [] [.s 0, .s 1, .s 4, .a 11 (.bool (decide (size_1 < (16 : Int)) || decide (size_1 > (65536 : Int))))] [.s 0] (ac (congrArg AV.bool (ort gg_1) : (.bool true : AV) = .bool (decide (size_1 < (16 : Int)) || decide (size_1 > (65536 : Int)))) an))⟩
  ·refine rg [(5, Hf)] [0, 1, 4, 11] [0] 1 [Ii size_1, Ii p_1, Pp 0, .bool (decide (size_1 > (65536 : Int)))] [Vb 25 [Ii 0, .nilsl, Ii 0, Ii 0, Ii 0, Ii 0]] hmix (ac gg_1 (ac gg_1 (ac gg_1 an))) ?_
   exact ⟨rfl, (sw [0] [] [.s 0, .s 1, .s 4, .a 11 (.bool (decide (size_1 < (16 : Int)) || decide (size_1 > (65536 : Int))))] [.s 0] (ac (congrArg AV.bool (orf gg_1 rfl) : (.bool (decide (size_1 > (65536 : Int))) : AV) = .bool (decide (size_1 < (16 : Int)) || decide (size_1 > (65536 : Int)))) an))⟩
 refine cd 11 (decide (size_1 < (16 : Int)) || decide (size_1 > (65536 : Int))) ?_ ?_
 ·intro g_1; replace h := cond_t g_1 h
  refine sr [] [4, 5] [0] 1 [Pp 0, Ii 2] [Vb 25 [Ii 0, .nilsl, Ii 0, Ii 0, Ii 0, Ii 0]] hmix an ?_
  refine wk [0] [] [.s 4, .s 5] [.a 0 (Vb 25 (v_T_api_Ring (⟨(0 : Int), [], (0 : Int), (0 : Int), (0 : Int), (0 : Int)⟩ : T_api_Ring)))] [(4, Pp 0), (5, Ii 2)] [(0, Vb 25 (v_T_api_Ring (⟨(0 : Int), [], (0 : Int), (0 : Int), (0 : Int), (0 : Int)⟩ : T_api_Ring)))] (ar 25 (ac (rfl : ones [Ii ((⟨(0 : Int), [], (0 : Int), (0 : Int), (0 : Int), (0 : Int)⟩ : T_api_Ring).Policy), .sl false 1 (Mb ((⟨(0 : Int), [], (0 : Int), (0 : Int), (0 : Int), (0 : Int)⟩ : T_api_Ring).Data)), Ii ((⟨(0 : Int), [], (0 : Int), (0 : Int), (0 : Int), (0 : Int)⟩ : T_api_Ring).Start), Ii ((⟨(0 : Int), [], (0 : Int), (0 : Int), (0 : Int), (0 : Int)⟩ : T_api_Ring).End), Ii ((⟨(0 : Int), [], (0 : Int), (0 : Int), (0 : Int), (0 : Int)⟩ : T_api_Ring).First), Ii ((⟨(0 : Int), [], (0 : Int), (0 : Int), (0 : Int), (0 : Int)⟩ : T_api_Ring).Next)] = true) (ac (rfl : (Ii 0 : AV) = Ii ((⟨(0 : Int), [], (0 : Int), (0 : Int), (0 : Int), (0 : Int)⟩ : T_api_Ring).Policy)) (ac (rfl : ((Mb ((⟨(0 : Int), [], (0 : Int), (0 : Int), (0 : Int), (0 : Int)⟩ : T_api_Ring).Data)) : List AV) = []) (ac (rfl : (Ii 0 : AV) = Ii ((⟨(0 : Int), [], (0 : Int), (0 : Int), (0 : Int), (0 : Int)⟩ : T_api_Ring).Start)) (ac (rfl : (Ii 0 : AV) = Ii ((⟨(0 : Int), [], (0 : Int), (0 : Int), (0 : Int), (0 : Int)⟩ : T_api_Ring).End)) (ac (rfl : (Ii 0 : AV) = Ii ((⟨(0 : Int), [], (0 : Int), (0 : Int), (0 : Int), (0 : Int)⟩ : T_api_Ring).First)) (ac (rfl : (Ii 0 : AV) = Ii ((⟨(0 : Int), [], (0 : Int), (0 : Int), (0 : Int), (0 : Int)⟩ : T_api_Ring).Next)) an)))))))) ?_
  refine rt ?_
  cases h
  exact ⟨.inr rfl, Nat.le_of_ble_eq_true rfl, by kernel_rfl⟩
 intro g_1; replace h := cond_f g_1 h
 refine sk ?_
 refine sq ?_
 refine sq ?_
 refine aw_mid (mk [(0, Ii size_1), (1, Ii p_1), (4, Pp 0), (18, .bool ((p_1 != (1 : Int)) && (p_1 != (2 : Int))))] [(0, Vb 25 [Ii 0, .nilsl, Ii 0, Ii 0, Ii 0, Ii 0])] 1) ?_ ?_
 ·rcases bft (p_1 != (1 : Int)) with gg_2 | gg_2
  ·refine rg [(5, Ht)] [0, 1, 4, 18] [0] 1 [Ii size_1, Ii p_1, Pp 0, .bool (p_1 != (2 : Int))] [Vb 25 [Ii 0, .nilsl, Ii 0, Ii 0, Ii 0, Ii 0]] hmix (ac gg_2 (ac gg_2 (ac gg_2 an))) ?_
   exact ⟨rfl, (sw [0] [] [.s 0, .s 1, .s 4, .a 18 (.bool ((p_1 != (1 : Int)) && (p_1 != (2 : Int))))] [.s 0] (ac (congrArg AV.bool (andt gg_2 rfl) : (.bool (p_1 != (2 : Int)) : AV) = .bool ((p_1 != (1 : Int)) && (p_1 != (2 : Int)))) an))⟩
  ·refine rg [(3, Hg), (4, Hg), (5, Hf)] [0, 1, 4, 18] [0] 1 [Ii size_1, Ii p_1, Pp 0, .bool false] [Vb 25 [Ii 0, .nilsl, Ii 0, Ii 0, Ii 0, Ii 0]] hmix (ac gg_2 (ac gg_2 (ac gg_2 an))) ?_
   exact ⟨rfl, (sw [0] [] [.s 0, .s 1, .s 4, .a 18 (.bool ((p_1 != (1 : Int)) && (p_1 != (2 : Int))))] [.s 0] (ac (congrArg AV.bool (andf gg_2) : (.bool false : AV) = .bool ((p_1 != (1 : Int)) && (p_1 != (2 : Int)))) an))⟩
 refine cd 18 ((p_1 != (1 : Int)) && (p_1 != (2 : Int))) ?_ ?_
 ·intro g_2; replace h := cond_t g_2 h
  refine sr [] [4, 5] [0] 1 [Pp 0, Ii 1] [Vb 25 [Ii 0, .nilsl, Ii 0, Ii 0, Ii 0, Ii 0]] hmix an ?_
  refine wk [0] [] [.s 4, .s 5] [.a 0 (Vb 25 (v_T_api_Ring (⟨(0 : Int), [], (0 : Int), (0 : Int), (0 : Int), (0 : Int)⟩ : T_api_Ring)))] [(4, Pp 0), (5, Ii 1)] [(0, Vb 25 (v_T_api_Ring (⟨(0 : Int), [], (0 : Int), (0 : Int), (0 : Int), (0 : Int)⟩ : T_api_Ring)))] (ar 25 (ac (rfl : ones [Ii ((⟨(0 : Int), [], (0 : Int), (0 : Int), (0 : Int), (0 : Int)⟩ : T_api_Ring).Policy), .sl false 1 (Mb ((⟨(0 : Int), [], (0 : Int), (0 : Int), (0 : Int), (0 : Int)⟩ : T_api_Ring).Data)), Ii ((⟨(0 : Int), [], (0 : Int), (0 : Int), (0 : Int), (0 : Int)⟩ : T_api_Ring).Start), Ii ((⟨(0 : Int), [], (0 : Int), (0 : Int), (0 : Int), (0 : Int)⟩ : T_api_Ring).End), Ii ((⟨(0 : Int), [], (0 : Int), (0 : Int), (0 : Int), (0 : Int)⟩ : T_api_Ring).First), Ii ((⟨(0 : Int), [], (0 : Int), (0 : Int), (0 : Int), (0 : Int)⟩ : T_api_Ring).Next)] = true) (ac (rfl : (Ii 0 : AV) = Ii ((⟨(0 : Int), [], (0 : Int), (0 : Int), (0 : Int), (0 : Int)⟩ : T_api_Ring).Policy)) (ac (rfl : ((Mb ((⟨(0 : Int), [], (0 : Int), (0 : Int), (0 : Int), (0 : Int)⟩ : T_api_Ring).Data)) : List AV) = []) (ac (rfl : (Ii 0 : AV) = Ii ((⟨(0 : Int), [], (0 : Int), (0 : Int), (0 : Int), (0 : Int)⟩ : T_api_Ring).Start)) (ac (rfl : (Ii 0 : AV) = Ii ((⟨(0 : Int), [], (0 : Int), (0 : Int), (0 : Int), (0 : Int)⟩ : T_api_Ring).End)) (ac (rfl : (Ii 0 : AV) = Ii ((⟨(0 : Int), [], (0 : Int), (0 : Int), (0 : Int), (0 : Int)⟩ : T_api_Ring).First)) (ac (rfl : (Ii 0 : AV) = Ii ((⟨(0 : Int), [], (0 : Int), (0 : Int), (0 : Int), (0 : Int)⟩ : T_api_Ring).Next)) an)))))))) ?_
  refine rt ?_
  cases h
  exact ⟨.inr rfl, Nat.le_of_ble_eq_true rfl, by kernel_rfl⟩
 intro g_2; replace h := cond_f g_2 h
 refine sk ?_
 refine sq ?_
 obtain ⟨_, h_1, h⟩ := bind_some h; replace h_1 := need_some h_1
 refine rg [(2, { id := 1, l := (Mb (List.replicate ((size_1).toNat) (0 : Int))), m := (size_1).toNat, n := (size_1).toNat })] [4, 5] [0, 1] 2 [Pp 0, Ii 0] [Vb 25 [Ii p_1, .own 1 ((size_1).toNat), Ii 0, Ii 0, Ii 0, Ii 0], Rb 5 1 (Mb (List.replicate ((size_1).toNat) (0 : Int)))] hmix (ac ((Int.toNat_of_nonneg h_1.1).symm : size_1 = (((size_1).toNat : Nat) : Int)) (ac ((Int.toNat_of_nonneg h_1.1).symm : size_1 = (((size_1).toNat : Nat) : Int)) (ac (Nat.le_refl _ : ((size_1).toNat) ≤ ((size_1).toNat)) (ac h_1.2 (ac (vc_rep : (Mb (List.replicate ((size_1).toNat) (0 : Int))) = List.replicate ((size_1).toNat) (Iu 0)) an))))) ?_
 refine wk [0] [1] [.s 4, .s 5] [.a 0 (Vb 25 (v_T_api_Ring (⟨p_1, (List.replicate ((size_1).toNat) (0 : Int)), (0 : Int), (0 : Int), (0 : Int), (0 : Int)⟩ : T_api_Ring)))] [(4, Pp 0), (5, Ii 0)] [(0, Vb 25 (v_T_api_Ring (⟨p_1, (List.replicate ((size_1).toNat) (0 : Int)), (0 : Int), (0 : Int), (0 : Int), (0 : Int)⟩ : T_api_Ring)))] (ar 25 (ac (rfl : ones [Ii ((⟨p_1, (List.replicate ((size_1).toNat) (0 : Int)), (0 : Int), (0 : Int), (0 : Int), (0 : Int)⟩ : T_api_Ring).Policy), .sl false 1 (Mb ((⟨p_1, (List.replicate ((size_1).toNat) (0 : Int)), (0 : Int), (0 : Int), (0 : Int), (0 : Int)⟩ : T_api_Ring).Data)), Ii ((⟨p_1, (List.replicate ((size_1).toNat) (0 : Int)), (0 : Int), (0 : Int), (0 : Int), (0 : Int)⟩ : T_api_Ring).Start), Ii ((⟨p_1, (List.replicate ((size_1).toNat) (0 : Int)), (0 : Int), (0 : Int), (0 : Int), (0 : Int)⟩ : T_api_Ring).End), Ii ((⟨p_1, (List.replicate ((size_1).toNat) (0 : Int)), (0 : Int), (0 : Int), (0 : Int), (0 : Int)⟩ : T_api_Ring).First), Ii ((⟨p_1, (List.replicate ((size_1).toNat) (0 : Int)), (0 : Int), (0 : Int), (0 : Int), (0 : Int)⟩ : T_api_Ring).Next)] = true) (ac (by rw [List.length_map]; exact List.length_replicate.symm : (size_1).toNat = ((List.map (AV.int .u8) (List.replicate ((size_1).toNat) (0 : Int)))).length) (ac (rfl : (Ii p_1 : AV) = Ii ((⟨p_1, (List.replicate ((size_1).toNat) (0 : Int)), (0 : Int), (0 : Int), (0 : Int), (0 : Int)⟩ : T_api_Ring).Policy)) (ar 1 (ac (rfl : ((Mb (List.replicate ((size_1).toNat) (0 : Int))) : List AV) = (Mb ((⟨p_1, (List.replicate ((size_1).toNat) (0 : Int)), (0 : Int), (0 : Int), (0 : Int), (0 : Int)⟩ : T_api_Ring).Data))) (ac (rfl : (!false || false) = true) (ac (rfl : (Ii 0 : AV) = Ii ((⟨p_1, (List.replicate ((size_1).toNat) (0 : Int)), (0 : Int), (0 : Int), (0 : Int), (0 : Int)⟩ : T_api_Ring).Start)) (ac (rfl : (Ii 0 : AV) = Ii ((⟨p_1, (List.replicate ((size_1).toNat) (0 : Int)), (0 : Int), (0 : Int), (0 : Int), (0 : Int)⟩ : T_api_Ring).End)) (ac (rfl : (Ii 0 : AV) = Ii ((⟨p_1, (List.replicate ((size_1).toNat) (0 : Int)), (0 : Int), (0 : Int), (0 : Int), (0 : Int)⟩ : T_api_Ring).First)) (ac (rfl : (Ii 0 : AV) = Ii ((⟨p_1, (List.replicate ((size_1).toNat) (0 : Int)), (0 : Int), (0 : Int), (0 : Int), (0 : Int)⟩ : T_api_Ring).Next)) an))))))))))) ?_
 refine rt ?_
 cases h
 exact ⟨.inr rfl, Nat.le_of_ble_eq_true rfl, by kernel_rfl⟩

theorem ring_contents_ok (r_1 : T_api_Ring) (r : (List (Int))) (h : ring_contents r_1 = some r) : TripleG prog 34 [] [] [e_T_api_Ring r_1] [.row 5 1 (Mb r)] (.own 0 ((r).length)) := by
 refine triple_intro (fn := Go.Proofs.Try.f34) (code := codeOf Go.Proofs.Try.f34) (by kernel_rfl) (by kernel_rfl) (Nat.le_of_ble_eq_true (by kernel_rfl)) ?_
 unfold ring_contents at h
 refine sr [(0, { id := 0 }), (1, { id := 1, m := 1 })] [1] [0] 2 [Pp 0] [Vb 25 (v_T_api_Ring r_1)] hmix an ?_
 refine sq ?_
 obtain ⟨_, h_1, h⟩ := bind_some h; replace h_1 := need_some h_1
 refine rg [(5, { id := 2, l := (Mb (List.replicate ((w_i64 (r_1.End - r_1.Start)).toNat) (0 : Int))), m := (w_i64 (r_1.End - r_1.Start)).toNat, n := (w_i64 (r_1.End - r_1.Start)).toNat })] [1, 3] [0, 2] 3 [Pp 0, .own 2 ((w_i64 (r_1.End - r_1.Start)).toNat)] [Vb 25 (v_T_api_Ring r_1), Rb 5 1 (Mb (List.replicate ((w_i64 (r_1.End - r_1.Start)).toNat) (0 : Int)))] hmix (ac ((Int.toNat_of_nonneg h_1.1).symm : w_i64 (r_1.End - r_1.Start) = (((w_i64 (r_1.End - r_1.Start)).toNat : Nat) : Int)) (ac ((Int.toNat_of_nonneg h_1.1).symm : w_i64 (r_1.End - r_1.Start) = (((w_i64 (r_1.End - r_1.Start)).toNat : Nat) : Int)) (ac (Nat.le_refl _ : ((w_i64 (r_1.End - r_1.Start)).toNat) ≤ ((w_i64 (r_1.End - r_1.Start)).toNat)) (ac h_1.2 (ac (vc_rep : (Mb (List.replicate ((w_i64 (r_1.End - r_1.Start)).toNat) (0 : Int))) = List.replicate ((w_i64 (r_1.End - r_1.Start)).toNat) (Iu 0)) an))))) ?_
 refine sq ?_
 obtain ⟨_, h_2, h⟩ := bind_some h; replace h_2 := need_some h_2
 refine rg [(4, { n := (r_1.Data).length })] [1, 3, 4] [0, 2] 3 [Pp 0, .own 2 ((w_i64 (r_1.End - r_1.Start)).toNat), Ii (irem r_1.Start (lN (r_1.Data)))] [Vb 25 (v_T_api_Ring r_1), Rb 5 1 (Mb (List.replicate ((w_i64 (r_1.End - r_1.Start)).toNat) (0 : Int)))] hmix (ac (vc_len _ : ((Mb r_1.Data)).length = (r_1.Data).length) (ac h_2 an)) ?_
 refine sq ?_
 obtain ⟨_, h_3, h⟩ := bind_some h; replace h_3 := need_some h_3
 obtain ⟨_, h_4, h⟩ := bind_some h; replace h_4 := need_some h_4
 refine rg [(4, { l := (Mb (sub r_1.Data (irem r_1.Start (lN (r_1.Data))) (lN (r_1.Data)))) }), (5, { l := (Mb (cpy (List.replicate ((w_i64 (r_1.End - r_1.Start)).toNat) (0 : Int)) 0 ((w_i64 (r_1.End - r_1.Start)).toNat) (sub r_1.Data (irem r_1.Start (lN (r_1.Data))) (lN (r_1.Data))))), n := (min (sub r_1.Data (irem r_1.Start (lN (r_1.Data))) (lN (r_1.Data))).length ((w_i64 (r_1.End - r_1.Start)).toNat - 0)) })] [1, 3, 5] [0, 2] 3 [Pp 0, .own 2 ((w_i64 (r_1.End - r_1.Start)).toNat), Ii (((min (sub r_1.Data (irem r_1.Start (lN (r_1.Data))) (lN (r_1.Data))).length ((w_i64 (r_1.End - r_1.Start)).toNat - 0)) : Nat) : Int)] [Vb 25 (v_T_api_Ring r_1), Rb 5 1 (Mb (cpy (List.replicate ((w_i64 (r_1.End - r_1.Start)).toNat) (0 : Int)) 0 ((w_i64 (r_1.End - r_1.Start)).toNat) (sub r_1.Data (irem r_1.Start (lN (r_1.Data))) (lN (r_1.Data)))))] hmix (ac h_3.1 (ac (vc_lenle h_3.2 : (irem r_1.Start (lN (r_1.Data))) ≤ (lN ((Mb r_1.Data)))) (ac (Int.le_refl _ : (lN ((Mb r_1.Data))) ≤ (lN ((Mb r_1.Data)))) (ac (vc_subn _ _ : (Mb (sub r_1.Data (irem r_1.Start (lN (r_1.Data))) (lN (r_1.Data)))) = (((Mb r_1.Data)).take ((lN ((Mb r_1.Data)))).toNat).drop (irem r_1.Start (lN (r_1.Data))).toNat) (ac (trivial : True) (ac h_4.1 (ac (vc_lenle' h_4.2 : ((w_i64 (r_1.End - r_1.Start)).toNat) ≤ ((Mb (List.replicate ((w_i64 (r_1.End - r_1.Start)).toNat) (0 : Int)))).length) (ac (by simp : (min (sub r_1.Data (irem r_1.Start (((r_1.Data).length : Nat) : Int)) (((r_1.Data).length : Nat) : Int)).length ((w_i64 (r_1.End - r_1.Start)).toNat - 0)) = min ((List.map (AV.int .u8) (sub r_1.Data (irem r_1.Start (((r_1.Data).length : Nat) : Int)) (((r_1.Data).length : Nat) : Int))) : List AV).length ((w_i64 (r_1.End - r_1.Start)).toNat - 0)) (ac (by simp [cpy] : (List.map (AV.int .u8) (cpy (List.replicate ((w_i64 (r_1.End - r_1.Start)).toNat) (0 : Int)) 0 ((w_i64 (r_1.End - r_1.Start)).toNat) (sub r_1.Data (irem r_1.Start (((r_1.Data).length : Nat) : Int)) (((r_1.Data).length : Nat) : Int)))) = ((List.map (AV.int .u8) (List.replicate ((w_i64 (r_1.End - r_1.Start)).toNat) (0 : Int)))).take 0 ++ ((List.map (AV.int .u8) (sub r_1.Data (irem r_1.Start (((r_1.Data).length : Nat) : Int)) (((r_1.Data).length : Nat) : Int))) : List AV).take (min (sub r_1.Data (irem r_1.Start (((r_1.Data).length : Nat) : Int)) (((r_1.Data).length : Nat) : Int)).length ((w_i64 (r_1.End - r_1.Start)).toNat - 0)) ++ ((List.map (AV.int .u8) (List.replicate ((w_i64 (r_1.End - r_1.Start)).toNat) (0 : Int)))).drop (0 + (min (sub r_1.Data (irem r_1.Start (((r_1.Data).length : Nat) : Int)) (((r_1.Data).length : Nat) : Int)).length ((w_i64 (r_1.End - r_1.Start)).toNat - 0)))) an))))))))) ?_
 refine sq ?_
 obtain ⟨_, h_5, h⟩ := bind_some h; replace h_5 := need_some h_5
 obtain ⟨_, h_6, h⟩ := bind_some h; replace h_6 := need_some h_6
 refine rg [(5, { l := (Mb (cpy (cpy (List.replicate ((w_i64 (r_1.End - r_1.Start)).toNat) (0 : Int)) 0 ((w_i64 (r_1.End - r_1.Start)).toNat) (sub r_1.Data (irem r_1.Start (lN (r_1.Data))) (lN (r_1.Data)))) (min (sub r_1.Data (irem r_1.Start (lN (r_1.Data))) (lN (r_1.Data))).length ((w_i64 (r_1.End - r_1.Start)).toNat - 0)) ((w_i64 (r_1.End - r_1.Start)).toNat) r_1.Data)), n := (min (r_1.Data).length ((w_i64 (r_1.End - r_1.Start)).toNat - (min (sub r_1.Data (irem r_1.Start (lN (r_1.Data))) (lN (r_1.Data))).length ((w_i64 (r_1.End - r_1.Start)).toNat - 0)))) })] [3] [2] 3 [.own 2 ((w_i64 (r_1.End - r_1.Start)).toNat)] [Rb 5 1 (Mb (cpy (cpy (List.replicate ((w_i64 (r_1.End - r_1.Start)).toNat) (0 : Int)) 0 ((w_i64 (r_1.End - r_1.Start)).toNat) (sub r_1.Data (irem r_1.Start (lN (r_1.Data))) (lN (r_1.Data)))) (min (sub r_1.Data (irem r_1.Start (lN (r_1.Data))) (lN (r_1.Data))).length ((w_i64 (r_1.End - r_1.Start)).toNat - 0)) ((w_i64 (r_1.End - r_1.Start)).toNat) r_1.Data))] hmix (ac (Int.natCast_nonneg _ : (0 : Int) ≤ (((min (sub r_1.Data (irem r_1.Start (lN (r_1.Data))) (lN (r_1.Data))).length ((w_i64 (r_1.End - r_1.Start)).toNat - 0)) : Nat) : Int)) (ac h_5 (ac (Int.le_refl _ : (((w_i64 (r_1.End - r_1.Start)).toNat : Nat) : Int) ≤ (((w_i64 (r_1.End - r_1.Start)).toNat : Nat) : Int)) (ac (trivial : True) (ac h_6.1 (ac (vc_lenle' h_6.2 : ((w_i64 (r_1.End - r_1.Start)).toNat) ≤ ((Mb (cpy (List.replicate ((w_i64 (r_1.End - r_1.Start)).toNat) (0 : Int)) 0 ((w_i64 (r_1.End - r_1.Start)).toNat) (sub r_1.Data (irem r_1.Start (lN (r_1.Data))) (lN (r_1.Data)))))).length) (ac (by simp : (min (r_1.Data).length ((w_i64 (r_1.End - r_1.Start)).toNat - (min (sub r_1.Data (irem r_1.Start (((r_1.Data).length : Nat) : Int)) (((r_1.Data).length : Nat) : Int)).length ((w_i64 (r_1.End - r_1.Start)).toNat - 0)))) = min ((List.map (AV.int .u8) r_1.Data) : List AV).length ((w_i64 (r_1.End - r_1.Start)).toNat - (min (sub r_1.Data (irem r_1.Start (((r_1.Data).length : Nat) : Int)) (((r_1.Data).length : Nat) : Int)).length ((w_i64 (r_1.End - r_1.Start)).toNat - 0)))) (ac (by simp [cpy] : (List.map (AV.int .u8) (cpy (cpy (List.replicate ((w_i64 (r_1.End - r_1.Start)).toNat) (0 : Int)) 0 ((w_i64 (r_1.End - r_1.Start)).toNat) (sub r_1.Data (irem r_1.Start (((r_1.Data).length : Nat) : Int)) (((r_1.Data).length : Nat) : Int))) (min (sub r_1.Data (irem r_1.Start (((r_1.Data).length : Nat) : Int)) (((r_1.Data).length : Nat) : Int)).length ((w_i64 (r_1.End - r_1.Start)).toNat - 0)) ((w_i64 (r_1.End - r_1.Start)).toNat) r_1.Data)) = ((List.map (AV.int .u8) (cpy (List.replicate ((w_i64 (r_1.End - r_1.Start)).toNat) (0 : Int)) 0 ((w_i64 (r_1.End - r_1.Start)).toNat) (sub r_1.Data (irem r_1.Start (((r_1.Data).length : Nat) : Int)) (((r_1.Data).length : Nat) : Int))))).take (min (sub r_1.Data (irem r_1.Start (((r_1.Data).length : Nat) : Int)) (((r_1.Data).length : Nat) : Int)).length ((w_i64 (r_1.End - r_1.Start)).toNat - 0)) ++ ((List.map (AV.int .u8) r_1.Data) : List AV).take (min (r_1.Data).length ((w_i64 (r_1.End - r_1.Start)).toNat - (min (sub r_1.Data (irem r_1.Start (((r_1.Data).length : Nat) : Int)) (((r_1.Data).length : Nat) : Int)).length ((w_i64 (r_1.End - r_1.Start)).toNat - 0)))) ++ ((List.map (AV.int .u8) (cpy (List.replicate ((w_i64 (r_1.End - r_1.Start)).toNat) (0 : Int)) 0 ((w_i64 (r_1.End - r_1.Start)).toNat) (sub r_1.Data (irem r_1.Start (((r_1.Data).length : Nat) : Int)) (((r_1.Data).length : Nat) : Int))))).drop ((min (sub r_1.Data (irem r_1.Start (((r_1.Data).length : Nat) : Int)) (((r_1.Data).length : Nat) : Int)).length ((w_i64 (r_1.End - r_1.Start)).toNat - 0)) + (min (r_1.Data).length ((w_i64 (r_1.End - r_1.Start)).toNat - (min (sub r_1.Data (irem r_1.Start (((r_1.Data).length : Nat) : Int)) (((r_1.Data).length : Nat) : Int)).length ((w_i64 (r_1.End - r_1.Start)).toNat - 0)))))) an)))))))) ?_
 refine sr [] [2] [2] 3 [.own 2 ((w_i64 (r_1.End - r_1.Start)).toNat)] [Rb 5 1 (Mb (cpy (cpy (List.replicate ((w_i64 (r_1.End - r_1.Start)).toNat) (0 : Int)) 0 ((w_i64 (r_1.End - r_1.Start)).toNat) (sub r_1.Data (irem r_1.Start (lN (r_1.Data))) (lN (r_1.Data)))) (min (sub r_1.Data (irem r_1.Start (lN (r_1.Data))) (lN (r_1.Data))).length ((w_i64 (r_1.End - r_1.Start)).toNat - 0)) ((w_i64 (r_1.End - r_1.Start)).toNat) r_1.Data))] hmix an ?_
 refine wk [2] [] [.a 2 (.own 0 (((cpy (cpy (List.replicate ((w_i64 (r_1.End - r_1.Start)).toNat) (0 : Int)) 0 ((w_i64 (r_1.End - r_1.Start)).toNat) (sub r_1.Data (irem r_1.Start (lN (r_1.Data))) (lN (r_1.Data)))) (min (sub r_1.Data (irem r_1.Start (lN (r_1.Data))) (lN (r_1.Data))).length ((w_i64 (r_1.End - r_1.Start)).toNat - 0)) ((w_i64 (r_1.End - r_1.Start)).toNat) r_1.Data)).length))] [.s 0] [(2, .own 0 (((cpy (cpy (List.replicate ((w_i64 (r_1.End - r_1.Start)).toNat) (0 : Int)) 0 ((w_i64 (r_1.End - r_1.Start)).toNat) (sub r_1.Data (irem r_1.Start (lN (r_1.Data))) (lN (r_1.Data)))) (min (sub r_1.Data (irem r_1.Start (lN (r_1.Data))) (lN (r_1.Data))).length ((w_i64 (r_1.End - r_1.Start)).toNat - 0)) ((w_i64 (r_1.End - r_1.Start)).toNat) r_1.Data)).length))] [(0, Rb 5 1 (Mb (cpy (cpy (List.replicate ((w_i64 (r_1.End - r_1.Start)).toNat) (0 : Int)) 0 ((w_i64 (r_1.End - r_1.Start)).toNat) (sub r_1.Data (irem r_1.Start (lN (r_1.Data))) (lN (r_1.Data)))) (min (sub r_1.Data (irem r_1.Start (lN (r_1.Data))) (lN (r_1.Data))).length ((w_i64 (r_1.End - r_1.Start)).toNat - 0)) ((w_i64 (r_1.End - r_1.Start)).toNat) r_1.Data)))] (ac (congrArg (AV.own _) ((cpy_len h_6.1 h_6.2).trans ((cpy_len h_4.1 h_4.2).trans List.length_replicate)).symm : (.own 2 ((w_i64 (r_1.End - r_1.Start)).toNat) : AV) = .own 2 (((cpy (cpy (List.replicate ((w_i64 (r_1.End - r_1.Start)).toNat) (0 : Int)) 0 ((w_i64 (r_1.End - r_1.Start)).toNat) (sub r_1.Data (irem r_1.Start (lN (r_1.Data))) (lN (r_1.Data)))) (min (sub r_1.Data (irem r_1.Start (lN (r_1.Data))) (lN (r_1.Data))).length ((w_i64 (r_1.End - r_1.Start)).toNat - 0)) ((w_i64 (r_1.End - r_1.Start)).toNat) r_1.Data)).length)) an) ?_
 refine rt ?_
 cases h
 exact ⟨.inr rfl, Nat.le_of_ble_eq_true rfl, by kernel_rfl⟩

theorem codec_integer_ok (u_1 : Int) (r : Int) (h : codec_integer u_1 = some r) : TripleG prog 41 [] [] [.int .u64 u_1] [] (Ii r) := by
 refine triple_intro (fn := Go.Proofs.Try.f41) (code := codeOf Go.Proofs.Try.f41) (by kernel_rfl) (by kernel_rfl) (Nat.le_of_ble_eq_true (by kernel_rfl)) ?_
 unfold codec_integer at h
 refine sr [] [0] [] 0 [.int .u64 u_1] [] hmix an ?_
 refine sr [] [2] [] 0 [Ii (ixor .i64 (w_i64 (ishr .u64 u_1 (1 : Int))) (w_i64 (0 - (w_i64 (iand .u64 u_1 (1 : Int))))))] [] hmix (ac (by decide : (0 : Int) ≤ (1 : Int)) an) ?_
 refine rt ?_
 cases h
 exact ⟨.inr rfl, Nat.le_of_ble_eq_true rfl, by kernel_rfl⟩

theorem codec_Int_ok (F : Nat) (b_1 : List (Int)) (r : Int × Int × Int) (h : codec_Int F b_1 = some r) : TripleG prog 38 [] [] [.sl false 1 (Mb b_1)] [] (.tuple [Ii r.1, Ii r.2.1, Ii r.2.2]) := by
 refine triple_intro (fn := Go.Proofs.Try.f38) (code := codeOf Go.Proofs.Try.f38) (by kernel_rfl) (by kernel_rfl) (Nat.le_of_ble_eq_true (by kernel_rfl)) ?_
 unfold codec_Int at h
 refine sr [] [0] [] 0 [.sl false 1 (Mb b_1)] [] hmix an ?_
 refine sr [] [0, 5] [] 0 [.sl false 1 (Mb b_1), .int .u64 (0 : Int)] [] hmix an ?_
 refine sq ?_
 refine sr [(1, { n := (b_1).length })] [5, 8, 9, 10] [] 0 [.int .u64 (0 : Int), .sl false 1 (Mb b_1), Ii (lN (b_1)), Ii 0] [] hmix (ac (vc_len _ : ((Mb b_1)).length = (b_1).length) an) ?_
 obtain ⟨o_1, h_1, h⟩ := bind_some h
 refine aw_conv (K1 := (fun e st' => match o_1 with | (.inl q0) => e = .normal ∧ Sub 0 st' (mk [] [] 0) | (.inr q1) => e = .ret ∧ FinR prog Go.Proofs.Try.f38 0 [] (.tuple [Ii q1.1, Ii q1.2.1, Ii q1.2.2]) st')) ?_ ?_
 ·replace h := h_1
  refine aw_block (id := 0) (by kernel_rfl) ?_
  refine wk [] [] [.s 5, .s 8, .s 9, .s 10] [] [(5, .int .u64 (0 : Int)), (8, .sl false 1 (Mb b_1)), (9, Ii (lN (b_1))), (10, Ii 0)] [] an ?_
  refine aw_loopF (fun n st => ∃ (u_1 : Int), ∃ (v_1 : Int), st = mk [(5, .int .u64 u_1), (8, .sl false 1 (Mb b_1)), (9, Ii (lN (b_1))), (10, Ii v_1)] [] 0 ∧ codec_Int_L1 F b_1 n u_1 v_1 = some o_1) F (by kernel_rfl) ⟨_, _, rfl, h⟩ ?_ ?_
  ·rintro _ ⟨_, _, _, h⟩; exact none_ne (h : (none : Option (Unit ⊕ (Int × Int × Int))) = some o_1)
  rintro n_1 _ ⟨u_1, v_1, rfl, h⟩
  replace h : codec_Int_L1_body F b_1 (codec_Int_L1 F b_1 n_1) u_1 v_1 = some o_1 := h
  unfold codec_Int_L1_body at h
  refine sr [] [5, 8, 9, 10, 11] [] 0 [.int .u64 u_1, .sl false 1 (Mb b_1), Ii (lN (b_1)), Ii v_1, .bool (decide (v_1 < (lN (b_1))))] [] hmix an ?_
  refine sq ?_
  refine cd 11 (decide (v_1 < (lN (b_1)))) ?_ ?_
  rotate_left
  ·intro g_1; replace h := cond_f g_1 h
   refine aw_exit (id := 0) (by kernel_rfl) ?_
   cases h
   exact ⟨rfl, (sw [] [] [] [] an)⟩
  intro g_1; replace h := cond_t g_1 h
  refine sk ?_
  refine sq ?_
  refine aw_block (id := 1) (by kernel_rfl) ?_
  refine sq ?_
  obtain ⟨x_1, h_2, h⟩ := bind_some h
  refine rg [(1, { av := Iu x_1 })] [5, 6, 7, 8, 9, 10] [] 0 [.int .u64 u_1, Ii v_1, Iu x_1, .sl false 1 (Mb b_1), Ii (lN (b_1)), Ii v_1] [] hmix (ac (vc_idx h_2 : idxA (Mb b_1) v_1 = some (Iu x_1)) an) ?_
  refine sq ?_
  refine sq ?_
  refine aw_mid (mk [(5, .int .u64 u_1), (6, Ii v_1), (7, Iu x_1), (8, .sl false 1 (Mb b_1)), (9, Ii (lN (b_1))), (10, Ii v_1), (20, .bool ((v_1 == (9 : Int)) && decide (x_1 > (1 : Int))))] [] 0) ?_ ?_
  ·rcases bft (v_1 == (9 : Int)) with gg_7 | gg_7
   ·refine rg [(5, Ht)] [5, 6, 7, 8, 9, 10, 18, 19, 20] [] 0 [.int .u64 u_1, Ii v_1, Iu x_1, .sl false 1 (Mb b_1), Ii (lN (b_1)), Ii v_1, Iu x_1, .bool (decide (x_1 > (1 : Int))), .bool (decide (x_1 > (1 : Int)))] [] hmix (ac gg_7 (ac gg_7 (ac gg_7 an))) ?_
    exact ⟨rfl, (sw [] [] [.s 5, .s 6, .s 7, .s 8, .s 9, .s 10, .a 20 (.bool ((v_1 == (9 : Int)) && decide (x_1 > (1 : Int))))] [] (ac (congrArg AV.bool (andt gg_7 rfl) : (.bool (decide (x_1 > (1 : Int))) : AV) = .bool ((v_1 == (9 : Int)) && decide (x_1 > (1 : Int)))) an))⟩
   ·refine rg [(3, Hg), (4, Hg), (5, Hf)] [5, 6, 7, 8, 9, 10, 18, 19, 20] [] 0 [.int .u64 u_1, Ii v_1, Iu x_1, .sl false 1 (Mb b_1), Ii (lN (b_1)), Ii v_1, .tuple [], .tuple [], .bool false] [] hmix (ac gg_7 (ac gg_7 (ac gg_7 an))) ?_
    exact ⟨rfl, (sw [] [] [.s 5, .s 6, .s 7, .s 8, .s 9, .s 10, .a 20 (.bool ((v_1 == (9 : Int)) && decide (x_1 > (1 : Int))))] [] (ac (congrArg AV.bool (andf gg_7) : (.bool false : AV) = .bool ((v_1 == (9 : Int)) && decide (x_1 > (1 : Int)))) an))⟩
  refine cd 20 ((v_1 == (9 : Int)) && decide (x_1 > (1 : Int))) ?_ ?_
  ·intro g_2; replace h := cond_t g_2 h
   refine sr [] [2, 3, 4] [] 0 [Ii 0, Ii 0, Ii 10] [] hmix an ?_
   refine rt ?_
   cases h
   exact ⟨rfl, Nat.le_of_ble_eq_true rfl, by kernel_rfl⟩
  intro g_2; replace h := cond_f g_2 h
  refine sk ?_
  refine sq ?_
  obtain ⟨_, h_3, h⟩ := bind_some h; replace h_3 := need_some h_3
  refine rg [] [5, 6, 7, 8, 9, 10] [] 0 [.int .u64 (ior .u64 u_1 (ishl .u64 (w_u64 (iand .u8 x_1 (127 : Int))) (w_i64 ((7 : Int) * v_1)))), Ii v_1, Iu x_1, .sl false 1 (Mb b_1), Ii (lN (b_1)), Ii v_1] [] hmix (ac h_3 an) ?_
  refine sq ?_
  refine sr [] [5, 6, 7, 8, 9, 10, 30] [] 0 [.int .u64 (ior .u64 u_1 (ishl .u64 (w_u64 (iand .u8 x_1 (127 : Int))) (w_i64 ((7 : Int) * v_1)))), Ii v_1, Iu x_1, .sl false 1 (Mb b_1), Ii (lN (b_1)), Ii v_1, .bool (decide (x_1 ≥ (128 : Int)))] [] hmix an ?_
  refine cd 30 (decide (x_1 ≥ (128 : Int))) ?_ ?_
  ·intro g_3; replace h := cond_t g_3 h
   refine aw_exit (id := 1) (by kernel_rfl) ?_
   refine rg [] [5, 8, 9, 10] [] 0 [.int .u64 (ior .u64 u_1 (ishl .u64 (w_u64 (iand .u8 x_1 (127 : Int))) (w_i64 ((7 : Int) * v_1)))), .sl false 1 (Mb b_1), Ii (lN (b_1)), Ii (w_i64 (v_1 + (1 : Int)))] [] hmix an ?_
   exact ⟨_, (sw [] [] [.s 5, .s 8, .s 9, .s 10] [] an), _, _, rfl, h⟩
  intro g_3; replace h := cond_f g_3 h
  refine sk ?_
  refine sq ?_
  refine sq ?_
  refine aw_mid (mk [(5, .int .u64 (ior .u64 u_1 (ishl .u64 (w_u64 (iand .u8 x_1 (127 : Int))) (w_i64 ((7 : Int) * v_1))))), (6, Ii v_1), (36, .bool ((x_1 == (0 : Int)) && decide (v_1 > (0 : Int))))] [] 0) ?_ ?_
  ·rcases bft (x_1 == (0 : Int)) with gg_8 | gg_8
   ·refine rg [(5, Ht)] [5, 6, 36] [] 0 [.int .u64 (ior .u64 u_1 (ishl .u64 (w_u64 (iand .u8 x_1 (127 : Int))) (w_i64 ((7 : Int) * v_1)))), Ii v_1, .bool (decide (v_1 > (0 : Int)))] [] hmix (ac gg_8 (ac gg_8 (ac gg_8 an))) ?_
    exact ⟨rfl, (sw [] [] [.s 5, .s 6, .a 36 (.bool ((x_1 == (0 : Int)) && decide (v_1 > (0 : Int))))] [] (ac (congrArg AV.bool (andt gg_8 rfl) : (.bool (decide (v_1 > (0 : Int))) : AV) = .bool ((x_1 == (0 : Int)) && decide (v_1 > (0 : Int)))) an))⟩
   ·refine rg [(3, Hg), (4, Hg), (5, Hf)] [5, 6, 36] [] 0 [.int .u64 (ior .u64 u_1 (ishl .u64 (w_u64 (iand .u8 x_1 (127 : Int))) (w_i64 ((7 : Int) * v_1)))), Ii v_1, .bool false] [] hmix (ac gg_8 (ac gg_8 (ac gg_8 an))) ?_
    exact ⟨rfl, (sw [] [] [.s 5, .s 6, .a 36 (.bool ((x_1 == (0 : Int)) && decide (v_1 > (0 : Int))))] [] (ac (congrArg AV.bool (andf gg_8) : (.bool false : AV) = .bool ((x_1 == (0 : Int)) && decide (v_1 > (0 : Int)))) an))⟩
  refine cd 36 ((x_1 == (0 : Int)) && decide (v_1 > (0 : Int))) ?_ ?_
  ·intro g_4; replace h := cond_t g_4 h
   refine sr [] [2, 3, 4] [] 0 [Ii 0, Ii 0, Ii 10] [] hmix an ?_
   refine rt ?_
   cases h
   exact ⟨rfl, Nat.le_of_ble_eq_true rfl, by kernel_rfl⟩
  intro g_4; replace h := cond_f g_4 h
  refine sk ?_
  refine sq ?_
  obtain ⟨r_1, h_4, h⟩ := bind_some h
  refine rg [(1, { av := Ii r_1, l := [.int .u64 (ior .u64 u_1 (ishl .u64 (w_u64 (iand .u8 x_1 (127 : Int))) (w_i64 ((7 : Int) * v_1))))] })] [2, 3, 4] [] 0 [Ii r_1, Ii (w_i64 (v_1 + (1 : Int))), Ii 0] [] hmix (ar ([.int .u64 (ior .u64 u_1 (ishl .u64 (w_u64 (iand .u8 x_1 (127 : Int))) (w_i64 ((7 : Int) * v_1))))] : List AV) (ac (rfl : ([] : List BoxSt) = []) (ac (codec_integer_ok (ior .u64 u_1 (ishl .u64 (w_u64 (iand .u8 x_1 (127 : Int))) (w_i64 ((7 : Int) * v_1)))) r_1 h_4 : TripleG prog 41 [] [] [.int .u64 (ior .u64 u_1 (ishl .u64 (w_u64 (iand .u8 x_1 (127 : Int))) (w_i64 ((7 : Int) * v_1))))] [] (Ii r_1)) an))) ?_
  refine rt ?_
  cases h
  exact ⟨rfl, Nat.le_of_ble_eq_true rfl, by kernel_rfl⟩
 intro e st1 hk
 rcases o_1 with q_1 | q_2
 rotate_left
 ·obtain ⟨rfl, hf⟩ := hk
  cases h
  exact ⟨st1, Sub.refl _ _, .inr rfl, hf⟩
 obtain ⟨rfl, hs⟩ := hk
 refine ⟨_, hs, ?_⟩
 refine sr [] [2, 3, 4] [] 0 [Ii 0, Ii 0, Ii 8] [] hmix an ?_
 refine rt ?_
 cases h
 exact ⟨.inr rfl, Nat.le_of_ble_eq_true rfl, by kernel_rfl⟩

theorem ring_split_ok (F : Nat) (b_1 : List (Int)) (r : (List (List (Int))) × Bool) (h : ring_split F b_1 = some r) : TripleG prog 33 [] [] [.sl false 1 (Mb b_1)] [.row 23 1 (List.map (fun l => AV.sl false 1 (l.map (AV.int .u8))) r.1)] (.tuple [.own 0 ((r.1).length), .bool r.2]) := by
 refine triple_intro (fn := Go.Proofs.Try.f33) (code := codeOf Go.Proofs.Try.f33) (by kernel_rfl) (by kernel_rfl) (Nat.le_of_ble_eq_true (by kernel_rfl)) ?_
 unfold ring_split at h
 refine sr [(0, { id := 0, m := 1 })] [0] [] 1 [.sl false 1 (Mb b_1)] [] hmix an ?_
 refine sr [(0, { id := 1, m := 1 })] [0, 4] [1] 2 [.sl false 1 (Mb b_1), .own 1 0] [Rb 23 1 []] hmix an ?_
 refine sq ?_
 obtain ⟨o_1, h_1, h⟩ := bind_some h
 refine aw_conv (K1 := (fun e st' => match o_1 with | (.inl q0) => e = .normal ∧ Sub 0 st' (mk [(4, .own 0 ((q0).length))] [(0, Rb 23 1 (List.map (fun l => AV.sl false 1 (l.map (AV.int .u8))) q0))] 1) | (.inr q1) => e = .ret ∧ FinR prog Go.Proofs.Try.f33 0 [.row 23 1 (List.map (fun l => AV.sl false 1 (l.map (AV.int .u8))) q1.1)] (.tuple [.own 0 ((q1.1).length), .bool q1.2]) st')) ?_ ?_
 ·replace h := h_1
  refine aw_block (id := 0) (by kernel_rfl) ?_
  refine wk [1] [] [.s 0, .s 4] [.s 0] [(0, .sl false 1 (Mb b_1)), (4, .own 0 0)] [(0, Rb 23 1 [])] an ?_
  refine aw_loopF (fun n st => ∃ (b_2 : List Int), ∃ (row_1 : List (List (Int))), st = mk [(0, .sl false 1 (Mb b_2)), (4, .own 0 ((row_1).length))] [(0, Rb 23 1 (List.map (fun l => AV.sl false 1 (l.map (AV.int .u8))) row_1))] 1 ∧ ring_split_L1 F n b_2 row_1 = some o_1) F (by kernel_rfl) ⟨_, _, rfl, h⟩ ?_ ?_
  ·rintro _ ⟨_, _, _, h⟩; exact none_ne (h : (none : Option ((List (List (Int))) ⊕ ((List (List (Int))) × Bool))) = some o_1)
  rintro n_1 _ ⟨b_2, row_1, rfl, h⟩
  replace h : ring_split_L1_body F (ring_split_L1 F n_1) b_2 row_1 = some o_1 := h
  unfold ring_split_L1_body at h
  refine sq ?_
  refine sr [(1, { n := (b_2).length })] [0, 4, 10] [0] 1 [.sl false 1 (Mb b_2), .own 0 ((row_1).length), .bool (decide ((lN (b_2)) > (0 : Int)))] [Rb 23 1 (List.map (fun l => AV.sl false 1 (l.map (AV.int .u8))) row_1)] hmix (ac (vc_len _ : ((Mb b_2)).length = (b_2).length) an) ?_
  refine cd 10 (decide ((lN (b_2)) > (0 : Int))) ?_ ?_
  rotate_left
  ·intro g_1; replace h := cond_f g_1 h
   refine aw_exit (id := 0) (by kernel_rfl) ?_
   cases h
   exact ⟨rfl, (sw [0] [] [.s 4] [.s 0] an)⟩
  intro g_1; replace h := cond_t g_1 h
  refine sk ?_
  refine aw_block (id := 1) (by kernel_rfl) ?_
  refine sq ?_
  obtain ⟨r_1, h_2, h⟩ := bind_some h
  refine rg [(1, { av := .tuple [Ii r_1.1, Ii r_1.2.1, Ii r_1.2.2], l := [.sl false 1 (Mb b_2)] })] [0, 4, 5, 6, 7] [0] 1 [.sl false 1 (Mb b_2), .own 0 ((row_1).length), Ii r_1.1, Ii r_1.2.1, Ii r_1.2.2] [Rb 23 1 (List.map (fun l => AV.sl false 1 (l.map (AV.int .u8))) row_1)] hmix (ar ([.sl false 1 (Mb b_2)] : List AV) (ac (rfl : ([] : List BoxSt) = []) (ac (codec_Int_ok F b_2 r_1 h_2 : TripleG prog 38 [] [] [.sl false 1 (Mb b_2)] [] (.tuple [Ii r_1.1, Ii r_1.2.1, Ii r_1.2.2])) an))) ?_
  refine sq ?_
  refine sq ?_
  refine aw_mid (mk [(0, .sl false 1 (Mb b_2)), (4, .own 0 ((row_1).length)), (5, Ii r_1.1), (6, Ii r_1.2.1), (34, .bool ((r_1.2.2 != (0 : Int)) || (decide (r_1.1 < (0 : Int)) || (decide (r_1.1 > (2000 : Int)) || decide ((w_i64 (r_1.2.1 + r_1.1)) > (lN (b_2)))))))] [(0, Rb 23 1 (List.map (fun l => AV.sl false 1 (l.map (AV.int .u8))) row_1))] 1) ?_ ?_
  ·rcases bft (r_1.2.2 != (0 : Int)) with gg_22 | gg_22
   ·refine rg [(3, Hg), (4, Hg), (5, Ht), (7, Hg), (8, Hg), (9, Ht), (11, Hg), (12, Hg), (13, Hg), (14, Hg), (15, Hg), (16, Hg), (17, Ht)] [0, 4, 5, 6, 20, 21, 24, 25, 28, 29, 30, 31, 32, 33, 34] [0] 1 [.sl false 1 (Mb b_2), .own 0 ((row_1).length), Ii r_1.1, Ii r_1.2.1, .tuple [], .tuple [], .tuple [], .tuple [], .tuple [], .tuple [], .tuple [], .tuple [], .tuple [], .tuple [], .bool true] [Rb 23 1 (List.map (fun l => AV.sl false 1 (l.map (AV.int .u8))) row_1)] hmix (ac gg_22 (ac gg_22 (ac gg_22 (ax (ax (ar true (ax (ax (ax (ax (ax (ax (ar true an))))))))))))) ?_
    exact ⟨rfl, (sw [0] [] [.s 0, .s 4, .s 5, .s 6, .a 34 (.bool ((r_1.2.2 != (0 : Int)) || (decide (r_1.1 < (0 : Int)) || (decide (r_1.1 > (2000 : Int)) || decide ((w_i64 (r_1.2.1 + r_1.1)) > (lN (b_2)))))))] [.s 0] (ac (congrArg AV.bool (ort gg_22) : (.bool true : AV) = .bool ((r_1.2.2 != (0 : Int)) || (decide (r_1.1 < (0 : Int)) || (decide (r_1.1 > (2000 : Int)) || decide ((w_i64 (r_1.2.1 + r_1.1)) > (lN (b_2))))))) an))⟩
   ·rcases bft (decide (r_1.1 < (0 : Int))) with gg_23 | gg_23
    ·refine rg [(5, Hf), (7, Hg), (8, Hg), (9, Ht), (11, Hg), (12, Hg), (13, Hg), (14, Hg), (15, Hg), (16, Hg), (17, Ht)] [0, 4, 5, 6, 20, 21, 24, 25, 28, 29, 30, 31, 32, 33, 34] [0] 1 [.sl false 1 (Mb b_2), .own 0 ((row_1).length), Ii r_1.1, Ii r_1.2.1, Ii r_1.1, .bool (decide (r_1.1 < (0 : Int))), .tuple [], .tuple [], .tuple [], .tuple [], .tuple [], .tuple [], .tuple [], .tuple [], .bool true] [Rb 23 1 (List.map (fun l => AV.sl false 1 (l.map (AV.int .u8))) row_1)] hmix (ac gg_22 (ac gg_22 (ac gg_22 (ac gg_23 (ac gg_23 (ac gg_23 (ax (ax (ax (ax (ax (ax (ar true an))))))))))))) ?_
     exact ⟨rfl, (sw [0] [] [.s 0, .s 4, .s 5, .s 6, .a 34 (.bool ((r_1.2.2 != (0 : Int)) || (decide (r_1.1 < (0 : Int)) || (decide (r_1.1 > (2000 : Int)) || decide ((w_i64 (r_1.2.1 + r_1.1)) > (lN (b_2)))))))] [.s 0] (ac (congrArg AV.bool (orf gg_22 (ort gg_23)) : (.bool true : AV) = .bool ((r_1.2.2 != (0 : Int)) || (decide (r_1.1 < (0 : Int)) || (decide (r_1.1 > (2000 : Int)) || decide ((w_i64 (r_1.2.1 + r_1.1)) > (lN (b_2))))))) an))⟩
    ·rcases bft (decide (r_1.1 > (2000 : Int))) with gg_24 | gg_24
     ·refine rg [(5, Hf), (9, Hf), (11, Hg), (12, Hg), (13, Hg), (14, Hg), (15, Hg), (16, Hg), (17, Ht)] [0, 4, 5, 6, 20, 21, 24, 25, 28, 29, 30, 31, 32, 33, 34] [0] 1 [.sl false 1 (Mb b_2), .own 0 ((row_1).length), Ii r_1.1, Ii r_1.2.1, Ii r_1.1, .bool (decide (r_1.1 < (0 : Int))), Ii r_1.1, .bool (decide (r_1.1 > (2000 : Int))), .tuple [], .tuple [], .tuple [], .tuple [], .tuple [], .tuple [], .bool true] [Rb 23 1 (List.map (fun l => AV.sl false 1 (l.map (AV.int .u8))) row_1)] hmix (ac gg_22 (ac gg_22 (ac gg_22 (ac gg_23 (ac gg_23 (ac gg_23 (ac gg_24 (ac gg_24 (ac gg_24 (ac gg_24 (ac gg_24 (ac gg_24 (ac gg_24 an))))))))))))) ?_
      exact ⟨rfl, (sw [0] [] [.s 0, .s 4, .s 5, .s 6, .a 34 (.bool ((r_1.2.2 != (0 : Int)) || (decide (r_1.1 < (0 : Int)) || (decide (r_1.1 > (2000 : Int)) || decide ((w_i64 (r_1.2.1 + r_1.1)) > (lN (b_2)))))))] [.s 0] (ac (congrArg AV.bool (orf gg_22 (orf gg_23 (ort gg_24))) : (.bool true : AV) = .bool ((r_1.2.2 != (0 : Int)) || (decide (r_1.1 < (0 : Int)) || (decide (r_1.1 > (2000 : Int)) || decide ((w_i64 (r_1.2.1 + r_1.1)) > (lN (b_2))))))) an))⟩
     ·refine rg [(5, Hf), (9, Hf), (15, { n := (b_2).length }), (17, Hf)] [0, 4, 5, 6, 20, 21, 24, 25, 28, 29, 30, 31, 32, 33, 34] [0] 1 [.sl false 1 (Mb b_2), .own 0 ((row_1).length), Ii r_1.1, Ii r_1.2.1, Ii r_1.1, .bool (decide (r_1.1 < (0 : Int))), Ii r_1.1, .bool (decide (r_1.1 > (2000 : Int))), Ii r_1.2.1, Ii r_1.1, Ii (w_i64 (r_1.2.1 + r_1.1)), .sl false 1 (Mb b_2), Ii (lN (b_2)), .bool (decide ((w_i64 (r_1.2.1 + r_1.1)) > (lN (b_2)))), .bool (decide ((w_i64 (r_1.2.1 + r_1.1)) > (lN (b_2))))] [Rb 23 1 (List.map (fun l => AV.sl false 1 (l.map (AV.int .u8))) row_1)] hmix (ac gg_22 (ac gg_22 (ac gg_22 (ac gg_23 (ac gg_23 (ac gg_23 (ac gg_24 (ac gg_24 (ac gg_24 (ac gg_24 (ac gg_24 (ac (vc_len _ : ((Mb b_2)).length = (b_2).length) (ac gg_24 (ac gg_24 an)))))))))))))) ?_
      exact ⟨rfl, (sw [0] [] [.s 0, .s 4, .s 5, .s 6, .a 34 (.bool ((r_1.2.2 != (0 : Int)) || (decide (r_1.1 < (0 : Int)) || (decide (r_1.1 > (2000 : Int)) || decide ((w_i64 (r_1.2.1 + r_1.1)) > (lN (b_2)))))))] [.s 0] (ac (congrArg AV.bool (orf gg_22 (orf gg_23 (orf gg_24 rfl))) : (.bool (decide ((w_i64 (r_1.2.1 + r_1.1)) > (lN (b_2)))) : AV) = .bool ((r_1.2.2 != (0 : Int)) || (decide (r_1.1 < (0 : Int)) || (decide (r_1.1 > (2000 : Int)) || decide ((w_i64 (r_1.2.1 + r_1.1)) > (lN (b_2))))))) an))⟩
  refine cd 34 ((r_1.2.2 != (0 : Int)) || (decide (r_1.1 < (0 : Int)) || (decide (r_1.1 > (2000 : Int)) || decide ((w_i64 (r_1.2.1 + r_1.1)) > (lN (b_2)))))) ?_ ?_
  ·intro g_2; replace h := cond_t g_2 h
   refine sr [(0, { id := 1, m := 1 })] [2, 3] [1] 2 [.own 1 0, .bool false] [Rb 23 1 []] hmix an ?_
   refine wk [1] [] [.a 2 (.own 0 ((([] : List (List (Int)))).length)), .s 3] [.s 0] [(2, .own 0 ((([] : List (List (Int)))).length)), (3, .bool false)] [(0, Rb 23 1 [])] (ac (congrArg (AV.own _) (by first | (simp; done) | (simp; omega)) : (.own 1 0 : AV) = .own 1 ((([] : List (List (Int)))).length)) an) ?_
   refine rt ?_
   cases h
   exact ⟨rfl, Nat.le_of_ble_eq_true rfl, by kernel_rfl⟩
  intro g_2; replace h := cond_f g_2 h
  refine sk ?_
  refine sq ?_
  obtain ⟨_, h_3, h⟩ := bind_some h; replace h_3 := need_some h_3
  obtain ⟨_, h_4, h⟩ := bind_some h; replace h_4 := need_some h_4
  refine rg [(9, { l := (Mb (sub b_2 r_1.2.1 (w_i64 (r_1.2.1 + r_1.1)))) }), (10, { id := 1, lo := [(44, [1])] }), (11, { id := 2, l := (List.map (fun l => AV.sl false 1 (l.map (AV.int .u8))) (row_1 ++ ([sub b_2 r_1.2.1 (w_i64 (r_1.2.1 + r_1.1))] : List (List (Int))))), n := ((row_1 ++ ([sub b_2 r_1.2.1 (w_i64 (r_1.2.1 + r_1.1))] : List (List (Int))))).length })] [0, 4, 5, 6] [2] 3 [.sl false 1 (Mb b_2), .own 2 (((row_1 ++ ([sub b_2 r_1.2.1 (w_i64 (r_1.2.1 + r_1.1))] : List (List (Int))))).length), Ii r_1.1, Ii r_1.2.1] [Rb 23 1 (List.map (fun l => AV.sl false 1 (l.map (AV.int .u8))) (row_1 ++ ([sub b_2 r_1.2.1 (w_i64 (r_1.2.1 + r_1.1))] : List (List (Int)))))] hmix (ac h_3.1 (ac h_3.2.1 (ac (vc_lenle h_3.2.2 : (w_i64 (r_1.2.1 + r_1.1)) ≤ (lN ((Mb b_2)))) (ar (w_i64 (r_1.2.1 + r_1.1)) (ac (vc_sub _ _ _ : (Mb (sub b_2 r_1.2.1 (w_i64 (r_1.2.1 + r_1.1)))) = (((Mb b_2)).take (w_i64 (r_1.2.1 + r_1.1)).toNat).drop (r_1.2.1).toNat) (ac (by first | (simp; done) | (simp; omega) : (row_1).length = ((List.map (fun l => AV.sl false 1 (l.map (AV.int .u8))) row_1)).length) (ac (by first | (simp; done) | (simp; omega) : 1 = ((List.map (fun l => AV.sl false 1 (l.map (AV.int .u8))) ([sub b_2 r_1.2.1 (w_i64 (r_1.2.1 + r_1.1))] : List (List (Int))))).length) (ac (vc_app _ _ : (List.map (fun l => AV.sl false 1 (l.map (AV.int .u8))) (row_1 ++ ([sub b_2 r_1.2.1 (w_i64 (r_1.2.1 + r_1.1))] : List (List (Int))))) = (List.map (fun l => AV.sl false 1 (l.map (AV.int .u8))) row_1) ++ (List.map (fun l => AV.sl false 1 (l.map (AV.int .u8))) ([sub b_2 r_1.2.1 (w_i64 (r_1.2.1 + r_1.1))] : List (List (Int))))) (ac (by simp : ((row_1 ++ ([sub b_2 r_1.2.1 (w_i64 (r_1.2.1 + r_1.1))] : List (List (Int))))).length = ((List.map (fun l => AV.sl false 1 (l.map (AV.int .u8))) (row_1 ++ ([sub b_2 r_1.2.1 (w_i64 (r_1.2.1 + r_1.1))] : List (List (Int)))))).length) (ac (by first | (simp; done) | simpa using h_4 : (((List.map (fun l => AV.sl false 1 (l.map (AV.int .u8))) row_1) : List AV).length + ((List.map (fun l => AV.sl false 1 (l.map (AV.int .u8))) ([sub b_2 r_1.2.1 (w_i64 (r_1.2.1 + r_1.1))] : List (List (Int)))) : List AV).length) * 24 ≤ 140737488355328) an)))))))))) ?_
  obtain ⟨_, h_5, h⟩ := bind_some h; replace h_5 := need_some h_5
  refine rg [(4, { l := (Mb (sub b_2 (w_i64 (r_1.2.1 + r_1.1)) (lN (b_2)))) })] [0, 4] [2] 3 [.sl false 1 (Mb (sub b_2 (w_i64 (r_1.2.1 + r_1.1)) (lN (b_2)))), .own 2 (((row_1 ++ ([sub b_2 r_1.2.1 (w_i64 (r_1.2.1 + r_1.1))] : List (List (Int))))).length)] [Rb 23 1 (List.map (fun l => AV.sl false 1 (l.map (AV.int .u8))) (row_1 ++ ([sub b_2 r_1.2.1 (w_i64 (r_1.2.1 + r_1.1))] : List (List (Int)))))] hmix (ac h_5.1 (ac (vc_lenle h_5.2 : (w_i64 (r_1.2.1 + r_1.1)) ≤ (lN ((Mb b_2)))) (ac (Int.le_refl _ : (lN ((Mb b_2))) ≤ (lN ((Mb b_2)))) (ac (vc_subn _ _ : (Mb (sub b_2 (w_i64 (r_1.2.1 + r_1.1)) (lN (b_2)))) = (((Mb b_2)).take ((lN ((Mb b_2)))).toNat).drop (w_i64 (r_1.2.1 + r_1.1)).toNat) an)))) ?_
  exact ⟨_, (sw [2] [] [.s 0, .s 4] [.s 0] an), _, _, rfl, h⟩
 intro e st1 hk
 rcases o_1 with q_1 | q_2
 rotate_left
 ·obtain ⟨rfl, hf⟩ := hk
  cases h
  exact ⟨st1, Sub.refl _ _, .inr rfl, hf⟩
 obtain ⟨rfl, hs⟩ := hk
 refine ⟨_, hs, ?_⟩
 refine sr [] [2, 3] [0] 1 [.own 0 ((q_1).length), .bool true] [Rb 23 1 (List.map (fun l => AV.sl false 1 (l.map (AV.int .u8))) q_1)] hmix an ?_
 refine wk [0] [] [.s 2, .s 3] [.s 0] [(2, .own 0 ((q_1).length)), (3, .bool true)] [(0, Rb 23 1 (List.map (fun l => AV.sl false 1 (l.map (AV.int .u8))) q_1))] an ?_
 refine rt ?_
 cases h
 exact ⟨.inr rfl, Nat.le_of_ble_eq_true rfl, by kernel_rfl⟩

theorem ring_read_ok (F : Nat) (r_1 : T_api_Ring) (r : (List (List (Int))) × Int) (h : ring_read F r_1 = some r) : TripleG prog 26 [] [] [e_T_api_Ring r_1] [.row 23 1 (List.map (fun l => AV.sl false 1 (l.map (AV.int .u8))) r.1)] (.tuple [.own 0 ((r.1).length), Ii r.2]) := by
 refine triple_intro (fn := Go.Proofs.Try.f26) (code := codeOf Go.Proofs.Try.f26) (by kernel_rfl) (by kernel_rfl) (Nat.le_of_ble_eq_true (by kernel_rfl)) ?_
 unfold ring_read at h
 refine sr [(0, { id := 0 }), (1, { id := 1, m := 1 })] [1] [0] 2 [Pp 0] [Vb 25 (v_T_api_Ring r_1)] hmix an ?_
 refine sr [(2, { n := (r_1.Data).length })] [1, 4] [0] 2 [Pp 0, Ii (lN (r_1.Data))] [Vb 25 (v_T_api_Ring r_1)] hmix (ac (vc_len _ : ((Mb r_1.Data)).length = (r_1.Data).length) an) ?_
 refine sq ?_
 obtain ⟨o_1, h_1, h⟩ := bind_some h
 refine aw_conv (K1 := (fun e st' => match o_1 with | (.inl q0) => e = .normal ∧ Sub 0 st' (mk [(1, Pp 0)] [(0, Vb 25 (v_T_api_Ring r_1))] 1) | (.inr q1) => e = .ret ∧ FinR prog Go.Proofs.Try.f26 0 [.row 23 1 (List.map (fun l => AV.sl false 1 (l.map (AV.int .u8))) q1.1)] (.tuple [.own 0 ((q1.1).length), Ii q1.2]) st')) ?_ ?_
 ·replace h := h_1
  refine aw_block (id := 0) (by kernel_rfl) ?_
  refine sq ?_
  refine aw_mid (mk [(1, Pp 0), (4, Ii (lN (r_1.Data))), (10, .bool ((r_1.Policy != (1 : Int)) && (r_1.Policy != (2 : Int))))] [(0, Vb 25 (v_T_api_Ring r_1))] 1) ?_ ?_
  ·rcases bft (r_1.Policy != (1 : Int)) with gg_8 | gg_8
   ·refine rg [(7, Ht)] [1, 4, 10] [0] 2 [Pp 0, Ii (lN (r_1.Data)), .bool (r_1.Policy != (2 : Int))] [Vb 25 (v_T_api_Ring r_1)] hmix (ac gg_8 (ac gg_8 (ac gg_8 (ac gg_8 an)))) ?_
    exact ⟨rfl, (sw [0] [] [.s 1, .s 4, .a 10 (.bool ((r_1.Policy != (1 : Int)) && (r_1.Policy != (2 : Int))))] [.s 0] (ac (congrArg AV.bool (andt gg_8 rfl) : (.bool (r_1.Policy != (2 : Int)) : AV) = .bool ((r_1.Policy != (1 : Int)) && (r_1.Policy != (2 : Int)))) an))⟩
   ·refine rg [(4, Hg), (5, Hg), (6, Hg), (7, Hf)] [1, 4, 10] [0] 2 [Pp 0, Ii (lN (r_1.Data)), .bool false] [Vb 25 (v_T_api_Ring r_1)] hmix (ac gg_8 (ac gg_8 (ac gg_8 (ac gg_8 an)))) ?_
    exact ⟨rfl, (sw [0] [] [.s 1, .s 4, .a 10 (.bool ((r_1.Policy != (1 : Int)) && (r_1.Policy != (2 : Int))))] [.s 0] (ac (congrArg AV.bool (andf gg_8) : (.bool false : AV) = .bool ((r_1.Policy != (1 : Int)) && (r_1.Policy != (2 : Int)))) an))⟩
  refine cd 10 ((r_1.Policy != (1 : Int)) && (r_1.Policy != (2 : Int))) ?_ ?_
  ·intro g_1; replace h := cond_t g_1 h
   refine sr [(0, { id := 1, m := 1 })] [2, 3] [1] 2 [.own 1 0, Ii 1] [Rb 23 1 []] hmix an ?_
   refine wk [1] [] [.a 2 (.own 0 ((([] : List (List (Int)))).length)), .s 3] [.s 0] [(2, .own 0 ((([] : List (List (Int)))).length)), (3, Ii 1)] [(0, Rb 23 1 [])] (ac (congrArg (AV.own _) (by first | (simp; done) | (simp; omega)) : (.own 1 0 : AV) = .own 1 ((([] : List (List (Int)))).length)) an) ?_
   refine rt ?_
   cases h
   exact ⟨rfl, Nat.le_of_ble_eq_true rfl, by kernel_rfl⟩
  intro g_1; replace h := cond_f g_1 h
  refine sq ?_
  refine sq ?_
  refine aw_mid (mk [(1, Pp 0), (4, Ii (lN (r_1.Data))), (19, .bool (decide ((lN (r_1.Data)) < (16 : Int)) || decide ((lN (r_1.Data)) > (65536 : Int))))] [(0, Vb 25 (v_T_api_Ring r_1))] 1) ?_ ?_
  ·rcases bft (decide ((lN (r_1.Data)) < (16 : Int))) with gg_9 | gg_9
   ·refine rg [(3, Hg), (4, Hg), (5, Ht)] [1, 4, 19] [0] 1 [Pp 0, Ii (lN (r_1.Data)), .bool true] [Vb 25 (v_T_api_Ring r_1)] hmix (ac gg_9 (ac gg_9 (ac gg_9 an))) ?_
    exact ⟨rfl, (sw [0] [] [.s 1, .s 4, .a 19 (.bool (decide ((lN (r_1.Data)) < (16 : Int)) || decide ((lN (r_1.Data)) > (65536 : Int))))] [.s 0] (ac (congrArg AV.bool (ort gg_9) : (.bool true : AV) = .bool (decide ((lN (r_1.Data)) < (16 : Int)) || decide ((lN (r_1.Data)) > (65536 : Int)))) an))⟩
   ·refine rg [(5, Hf)] [1, 4, 19] [0] 1 [Pp 0, Ii (lN (r_1.Data)), .bool (decide ((lN (r_1.Data)) > (65536 : Int)))] [Vb 25 (v_T_api_Ring r_1)] hmix (ac gg_9 (ac gg_9 (ac gg_9 an))) ?_
    exact ⟨rfl, (sw [0] [] [.s 1, .s 4, .a 19 (.bool (decide ((lN (r_1.Data)) < (16 : Int)) || decide ((lN (r_1.Data)) > (65536 : Int))))] [.s 0] (ac (congrArg AV.bool (orf gg_9 rfl) : (.bool (decide ((lN (r_1.Data)) > (65536 : Int))) : AV) = .bool (decide ((lN (r_1.Data)) < (16 : Int)) || decide ((lN (r_1.Data)) > (65536 : Int)))) an))⟩
  refine cd 19 (decide ((lN (r_1.Data)) < (16 : Int)) || decide ((lN (r_1.Data)) > (65536 : Int))) ?_ ?_
  ·intro g_2; replace h := cond_t g_2 h
   refine sk ?_
   refine cd 19 (decide ((lN (r_1.Data)) < (16 : Int)) || decide ((lN (r_1.Data)) > (65536 : Int))) ?_ ?_
   rotate_left
   ·intro hg; exact Bool.noConfusion ((g_2).symm.trans hg)
   intro _
   refine sr [(0, { id := 1, m := 1 })] [2, 3] [1] 2 [.own 1 0, Ii 2] [Rb 23 1 []] hmix an ?_
   refine wk [1] [] [.a 2 (.own 0 ((([] : List (List (Int)))).length)), .s 3] [.s 0] [(2, .own 0 ((([] : List (List (Int)))).length)), (3, Ii 2)] [(0, Rb 23 1 [])] (ac (congrArg (AV.own _) (by first | (simp; done) | (simp; omega)) : (.own 1 0 : AV) = .own 1 ((([] : List (List (Int)))).length)) an) ?_
   refine rt ?_
   cases h
   exact ⟨rfl, Nat.le_of_ble_eq_true rfl, by kernel_rfl⟩
  intro g_2; replace h := cond_f g_2 h
  refine sr [] [1, 4, 19] [0] 1 [Pp 0, Ii (lN (r_1.Data)), .bool (decide (r_1.Start < (0 : Int)))] [Vb 25 (v_T_api_Ring r_1)] hmix an ?_
  refine cd 19 (decide (r_1.Start < (0 : Int))) ?_ ?_
  ·intro g_3; replace h := cond_t g_3 h
   refine sk ?_
   refine cd 19 (decide (r_1.Start < (0 : Int))) ?_ ?_
   rotate_left
   ·intro hg; exact Bool.noConfusion ((g_3).symm.trans hg)
   intro _
   refine sr [(0, { id := 1, m := 1 })] [2, 3] [1] 2 [.own 1 0, Ii 2] [Rb 23 1 []] hmix an ?_
   refine wk [1] [] [.a 2 (.own 0 ((([] : List (List (Int)))).length)), .s 3] [.s 0] [(2, .own 0 ((([] : List (List (Int)))).length)), (3, Ii 2)] [(0, Rb 23 1 [])] (ac (congrArg (AV.own _) (by first | (simp; done) | (simp; omega)) : (.own 1 0 : AV) = .own 1 ((([] : List (List (Int)))).length)) an) ?_
   refine rt ?_
   cases h
   exact ⟨rfl, Nat.le_of_ble_eq_true rfl, by kernel_rfl⟩
  intro g_3; replace h := cond_f g_3 h
  refine sr [] [1, 4, 19] [0] 1 [Pp 0, Ii (lN (r_1.Data)), .bool (decide (r_1.End < r_1.Start))] [Vb 25 (v_T_api_Ring r_1)] hmix an ?_
  refine cd 19 (decide (r_1.End < r_1.Start)) ?_ ?_
  ·intro g_4; replace h := cond_t g_4 h
   refine sk ?_
   refine cd 19 (decide (r_1.End < r_1.Start)) ?_ ?_
   rotate_left
   ·intro hg; exact Bool.noConfusion ((g_4).symm.trans hg)
   intro _
   refine sr [(0, { id := 1, m := 1 })] [2, 3] [1] 2 [.own 1 0, Ii 2] [Rb 23 1 []] hmix an ?_
   refine wk [1] [] [.a 2 (.own 0 ((([] : List (List (Int)))).length)), .s 3] [.s 0] [(2, .own 0 ((([] : List (List (Int)))).length)), (3, Ii 2)] [(0, Rb 23 1 [])] (ac (congrArg (AV.own _) (by first | (simp; done) | (simp; omega)) : (.own 1 0 : AV) = .own 1 ((([] : List (List (Int)))).length)) an) ?_
   refine rt ?_
   cases h
   exact ⟨rfl, Nat.le_of_ble_eq_true rfl, by kernel_rfl⟩
  intro g_4; replace h := cond_f g_4 h
  refine sr [] [1, 4, 19] [0] 1 [Pp 0, Ii (lN (r_1.Data)), .bool (decide (r_1.End > (1000000000000000 : Int)))] [Vb 25 (v_T_api_Ring r_1)] hmix an ?_
  refine cd 19 (decide (r_1.End > (1000000000000000 : Int))) ?_ ?_
  ·intro g_5; replace h := cond_t g_5 h
   refine sk ?_
   refine cd 19 (decide (r_1.End > (1000000000000000 : Int))) ?_ ?_
   rotate_left
   ·intro hg; exact Bool.noConfusion ((g_5).symm.trans hg)
   intro _
   refine sr [(0, { id := 1, m := 1 })] [2, 3] [1] 2 [.own 1 0, Ii 2] [Rb 23 1 []] hmix an ?_
   refine wk [1] [] [.a 2 (.own 0 ((([] : List (List (Int)))).length)), .s 3] [.s 0] [(2, .own 0 ((([] : List (List (Int)))).length)), (3, Ii 2)] [(0, Rb 23 1 [])] (ac (congrArg (AV.own _) (by first | (simp; done) | (simp; omega)) : (.own 1 0 : AV) = .own 1 ((([] : List (List (Int)))).length)) an) ?_
   refine rt ?_
   cases h
   exact ⟨rfl, Nat.le_of_ble_eq_true rfl, by kernel_rfl⟩
  intro g_5; replace h := cond_f g_5 h
  refine sr [] [1, 19] [0] 1 [Pp 0, .bool (decide ((w_i64 (r_1.End - r_1.Start)) > (lN (r_1.Data))))] [Vb 25 (v_T_api_Ring r_1)] hmix an ?_
  refine cd 19 (decide ((w_i64 (r_1.End - r_1.Start)) > (lN (r_1.Data)))) ?_ ?_
  ·intro g_6; replace h := cond_t g_6 h
   refine sk ?_
   refine cd 19 (decide ((w_i64 (r_1.End - r_1.Start)) > (lN (r_1.Data)))) ?_ ?_
   rotate_left
   ·intro hg; exact Bool.noConfusion ((g_6).symm.trans hg)
   intro _
   refine sr [(0, { id := 1, m := 1 })] [2, 3] [1] 2 [.own 1 0, Ii 2] [Rb 23 1 []] hmix an ?_
   refine wk [1] [] [.a 2 (.own 0 ((([] : List (List (Int)))).length)), .s 3] [.s 0] [(2, .own 0 ((([] : List (List (Int)))).length)), (3, Ii 2)] [(0, Rb 23 1 [])] (ac (congrArg (AV.own _) (by first | (simp; done) | (simp; omega)) : (.own 1 0 : AV) = .own 1 ((([] : List (List (Int)))).length)) an) ?_
   refine rt ?_
   cases h
   exact ⟨rfl, Nat.le_of_ble_eq_true rfl, by kernel_rfl⟩
  intro g_6; replace h := cond_f g_6 h
  refine sr [] [1, 19] [0] 1 [Pp 0, .bool (decide (r_1.First < (0 : Int)))] [Vb 25 (v_T_api_Ring r_1)] hmix an ?_
  refine cd 19 (decide (r_1.First < (0 : Int))) ?_ ?_
  ·intro g_7; replace h := cond_t g_7 h
   refine sk ?_
   refine cd 19 (decide (r_1.First < (0 : Int))) ?_ ?_
   rotate_left
   ·intro hg; exact Bool.noConfusion ((g_7).symm.trans hg)
   intro _
   refine sr [(0, { id := 1, m := 1 })] [2, 3] [1] 2 [.own 1 0, Ii 2] [Rb 23 1 []] hmix an ?_
   refine wk [1] [] [.a 2 (.own 0 ((([] : List (List (Int)))).length)), .s 3] [.s 0] [(2, .own 0 ((([] : List (List (Int)))).length)), (3, Ii 2)] [(0, Rb 23 1 [])] (ac (congrArg (AV.own _) (by first | (simp; done) | (simp; omega)) : (.own 1 0 : AV) = .own 1 ((([] : List (List (Int)))).length)) an) ?_
   refine rt ?_
   cases h
   exact ⟨rfl, Nat.le_of_ble_eq_true rfl, by kernel_rfl⟩
  intro g_7; replace h := cond_f g_7 h
  refine sr [] [1, 19] [0] 1 [Pp 0, .bool (decide (r_1.Next < r_1.First))] [Vb 25 (v_T_api_Ring r_1)] hmix an ?_
  refine cd 19 (decide (r_1.Next < r_1.First)) ?_ ?_
  ·intro g_8; replace h := cond_t g_8 h
   refine sk ?_
   refine cd 19 (decide (r_1.Next < r_1.First)) ?_ ?_
   rotate_left
   ·intro hg; exact Bool.noConfusion ((g_8).symm.trans hg)
   intro _
   refine sr [(0, { id := 1, m := 1 })] [2, 3] [1] 2 [.own 1 0, Ii 2] [Rb 23 1 []] hmix an ?_
   refine wk [1] [] [.a 2 (.own 0 ((([] : List (List (Int)))).length)), .s 3] [.s 0] [(2, .own 0 ((([] : List (List (Int)))).length)), (3, Ii 2)] [(0, Rb 23 1 [])] (ac (congrArg (AV.own _) (by first | (simp; done) | (simp; omega)) : (.own 1 0 : AV) = .own 1 ((([] : List (List (Int)))).length)) an) ?_
   refine rt ?_
   cases h
   exact ⟨rfl, Nat.le_of_ble_eq_true rfl, by kernel_rfl⟩
  intro g_8; replace h := cond_f g_8 h
  refine rg [] [1, 19] [0] 1 [Pp 0, .bool (decide (r_1.Next > (1000000000000000 : Int)))] [Vb 25 (v_T_api_Ring r_1)] hmix an ?_
  refine cd 19 (decide (r_1.Next > (1000000000000000 : Int))) ?_ ?_
  rotate_left
  ·intro g_9; replace h := cond_f g_9 h
   refine sk ?_
   cases h
   exact ⟨rfl, (sw [0] [] [.s 1] [.s 0] an)⟩
  intro g_9; replace h := cond_t g_9 h
  refine sr [(0, { id := 1, m := 1 })] [2, 3] [1] 2 [.own 1 0, Ii 2] [Rb 23 1 []] hmix an ?_
  refine wk [1] [] [.a 2 (.own 0 ((([] : List (List (Int)))).length)), .s 3] [.s 0] [(2, .own 0 ((([] : List (List (Int)))).length)), (3, Ii 2)] [(0, Rb 23 1 [])] (ac (congrArg (AV.own _) (by first | (simp; done) | (simp; omega)) : (.own 1 0 : AV) = .own 1 ((([] : List (List (Int)))).length)) an) ?_
  refine rt ?_
  cases h
  exact ⟨rfl, Nat.le_of_ble_eq_true rfl, by kernel_rfl⟩
 intro e st1 hk
 rcases o_1 with q_1 | q_2
 rotate_left
 ·obtain ⟨rfl, hf⟩ := hk
  cases h
  exact ⟨st1, Sub.refl _ _, .inr rfl, hf⟩
 obtain ⟨rfl, hs⟩ := hk
 refine ⟨_, hs, ?_⟩
 refine sq ?_
 obtain ⟨r_2, h_2, h⟩ := bind_some h
 obtain ⟨r_3, h_3, h⟩ := bind_some h
 refine rg [(1, { av := .own 0 ((r_2).length), ids := [1], l := [e_T_api_Ring r_1], post := [(.row 5 1 (Mb r_2))] }), (2, { av := .tuple [.own 0 ((r_3.1).length), .bool r_3.2], frz := [1], ids := [2], l := [.sl false 1 (Mb r_2)], post := [(.row 23 1 (List.map (fun l => AV.sl false 1 (l.map (AV.int .u8))) r_3.1))] })] [1, 5, 6] [0, 2] 3 [Pp 0, .own 2 ((r_3.1).length), .bool r_3.2] [Vb 25 (v_T_api_Ring r_1), Rb 23 1 (List.map (fun l => AV.sl false 1 (l.map (AV.int .u8))) r_3.1)] hmix (ar ([e_T_api_Ring r_1] : List AV) (ac (rfl : ([] : List BoxSt) = []) (ac (ring_contents_ok r_1 r_2 h_2 : TripleG prog 34 [] [] [e_T_api_Ring r_1] [(.row 5 1 (Mb r_2))] (.own 0 ((r_2).length))) (ac (by first | (simp; done) | (simp; omega) : (r_2).length = ((List.map (AV.int .u8) r_2)).length) (ar ([.sl false 1 (Mb r_2)] : List AV) (ac (rfl : ([] : List BoxSt) = []) (ac (ring_split_ok F r_2 r_3 h_3 : TripleG prog 33 [] [] [.sl false 1 (Mb r_2)] [(.row 23 1 (List.map (fun l => AV.sl false 1 (l.map (AV.int .u8))) r_3.1))] (.tuple [.own 0 ((r_3.1).length), .bool r_3.2])) an))))))) ?_
 refine sq ?_
 refine sq ?_
 refine aw_mid (mk [(5, .own 0 ((r_3.1).length)), (72, .bool (!r_3.2 || ((lN (r_3.1)) != (w_i64 (r_1.Next - r_1.First)))))] [(0, Rb 23 1 (List.map (fun l => AV.sl false 1 (l.map (AV.int .u8))) r_3.1))] 1) ?_ ?_
 ·rcases bft (!r_3.2) with gg_10 | gg_10
  ·refine rg [(3, Hg), (4, Hg), (5, Hg), (6, Hg), (7, Hg), (8, Hg), (9, Hg), (10, Hg), (11, Ht)] [5, 72] [2] 3 [.own 2 ((r_3.1).length), .bool true] [Rb 23 1 (List.map (fun l => AV.sl false 1 (l.map (AV.int .u8))) r_3.1)] hmix (ac gg_10 (ac gg_10 (ac gg_10 (ac gg_10 (ac gg_10 (ac gg_10 (ac gg_10 (ac gg_10 (ac gg_10 an))))))))) ?_
   exact ⟨rfl, (sw [2] [] [.s 5, .a 72 (.bool (!r_3.2 || ((lN (r_3.1)) != (w_i64 (r_1.Next - r_1.First)))))] [.s 0] (ac (congrArg AV.bool (ort gg_10) : (.bool true : AV) = .bool (!r_3.2 || ((lN (r_3.1)) != (w_i64 (r_1.Next - r_1.First))))) an))⟩
  ·refine rg [(11, Hf)] [5, 72] [2] 3 [.own 2 ((r_3.1).length), .bool ((lN (r_3.1)) != (w_i64 (r_1.Next - r_1.First)))] [Rb 23 1 (List.map (fun l => AV.sl false 1 (l.map (AV.int .u8))) r_3.1)] hmix (ac gg_10 (ac gg_10 (ac gg_10 (ac gg_10 (ac gg_10 (ac gg_10 (ac gg_10 (ac gg_10 (ac gg_10 an))))))))) ?_
   exact ⟨rfl, (sw [2] [] [.s 5, .a 72 (.bool (!r_3.2 || ((lN (r_3.1)) != (w_i64 (r_1.Next - r_1.First)))))] [.s 0] (ac (congrArg AV.bool (orf gg_10 rfl) : (.bool ((lN (r_3.1)) != (w_i64 (r_1.Next - r_1.First))) : AV) = .bool (!r_3.2 || ((lN (r_3.1)) != (w_i64 (r_1.Next - r_1.First))))) an))⟩
 refine cd 72 (!r_3.2 || ((lN (r_3.1)) != (w_i64 (r_1.Next - r_1.First)))) ?_ ?_
 ·intro g_10; replace h := cond_t g_10 h
  refine sr [(0, { id := 1, m := 1 })] [2, 3] [1] 2 [.own 1 0, Ii 10] [Rb 23 1 []] hmix an ?_
  refine wk [1] [] [.a 2 (.own 0 ((([] : List (List (Int)))).length)), .s 3] [.s 0] [(2, .own 0 ((([] : List (List (Int)))).length)), (3, Ii 10)] [(0, Rb 23 1 [])] (ac (congrArg (AV.own _) (by first | (simp; done) | (simp; omega)) : (.own 1 0 : AV) = .own 1 ((([] : List (List (Int)))).length)) an) ?_
  refine rt ?_
  cases h
  exact ⟨.inr rfl, Nat.le_of_ble_eq_true rfl, by kernel_rfl⟩
 intro g_10; replace h := cond_f g_10 h
 refine sk ?_
 refine sr [] [2, 3] [0] 1 [.own 0 ((r_3.1).length), Ii 0] [Rb 23 1 (List.map (fun l => AV.sl false 1 (l.map (AV.int .u8))) r_3.1)] hmix an ?_
 refine wk [0] [] [.s 2, .s 3] [.s 0] [(2, .own 0 ((r_3.1).length)), (3, Ii 0)] [(0, Rb 23 1 (List.map (fun l => AV.sl false 1 (l.map (AV.int .u8))) r_3.1))] an ?_
 refine rt ?_
 cases h
 exact ⟨.inr rfl, Nat.le_of_ble_eq_true rfl, by kernel_rfl⟩

theorem codec_number_ok (n_1 : Int) (r : Int) (h : codec_number n_1 = some r) : TripleG prog 36 [] [] [Ii n_1] [] (.int .u64 r) := by
 refine triple_intro (fn := Go.Proofs.Try.f36) (code := codeOf Go.Proofs.Try.f36) (by kernel_rfl) (by kernel_rfl) (Nat.le_of_ble_eq_true (by kernel_rfl)) ?_
 unfold codec_number at h
 refine sr [] [0] [] 0 [Ii n_1] [] hmix an ?_
 refine sr [] [2] [] 0 [.int .u64 (ixor .u64 (ishl .u64 (w_u64 n_1) (1 : Int)) (w_u64 (ishr .i64 n_1 (63 : Int))))] [] hmix (ac (by decide : (0 : Int) ≤ (1 : Int)) (ac (by decide : (0 : Int) ≤ (63 : Int)) an)) ?_
 refine rt ?_
 cases h
 exact ⟨.inr rfl, Nat.le_of_ble_eq_true rfl, by kernel_rfl⟩

theorem codec_PutInt_ok (F : Nat) (b_1 : List (Int)) (n_1 : Int) (r : (List (Int))) (h : codec_PutInt F b_1 n_1 = some r) : TripleG prog 29 [] [] [.sl false 1 (Mb b_1), Ii n_1] [.row 5 1 (Mb r)] (.own 0 ((r).length)) := by
 refine triple_intro (fn := Go.Proofs.Try.f29) (code := codeOf Go.Proofs.Try.f29) (by kernel_rfl) (by kernel_rfl) (Nat.le_of_ble_eq_true (by kernel_rfl)) ?_
 unfold codec_PutInt at h
 refine sr [(0, { id := 0, m := 1 })] [0, 1] [] 1 [.sl false 1 (Mb b_1), Ii n_1] [] hmix an ?_
 refine sr [(0, { b := true, id := 1 })] [0, 1, 5] [1] 2 [.sl false 1 (Mb b_1), Ii n_1, Pp 1] [Rb 56 1 (Mb (List.replicate 10 (0 : Int)))] hmix an ?_
 refine sr [] [0, 1, 5, 6] [1] 2 [.sl false 1 (Mb b_1), Ii n_1, Pp 1, Ii 0] [Rb 56 1 (Mb (List.replicate 10 (0 : Int)))] hmix an ?_
 refine sq ?_
 refine sq ?_
 obtain ⟨r_1, h_1, h⟩ := bind_some h
 refine rg [(1, { av := .int .u64 r_1, l := [Ii n_1] })] [0, 5, 6, 7] [1] 2 [.sl false 1 (Mb b_1), Pp 1, Ii 0, .int .u64 r_1] [Rb 56 1 (Mb (List.replicate 10 (0 : Int)))] hmix (ar ([Ii n_1] : List AV) (ac (rfl : ([] : List BoxSt) = []) (ac (codec_number_ok n_1 r_1 h_1 : TripleG prog 36 [] [] [Ii n_1] [] (.int .u64 r_1)) an))) ?_
 obtain ⟨o_1, h_2, h⟩ := bind_some h
 refine aw_mid (mk [(0, .sl false 1 (Mb b_1)), (5, Pp 0), (6, Ii o_1.1)] [(0, Rb 56 1 (Mb o_1.2))] 1) ?_ ?_
 ·replace h := h_2
  refine aw_block (id := 0) (by kernel_rfl) ?_
  refine wk [1] [] [.s 0, .s 5, .s 6, .s 7] [.s 0] [(0, .sl false 1 (Mb b_1)), (5, Pp 0), (6, Ii 0), (7, .int .u64 r_1)] [(0, Rb 56 1 (Mb (List.replicate 10 (0 : Int))))] an ?_
  refine aw_loopF (fun n st => ∃ (size_1 : Int), ∃ (u_1 : Int), ∃ (row_1 : List Int), st = mk [(0, .sl false 1 (Mb b_1)), (5, Pp 0), (6, Ii size_1), (7, .int .u64 u_1)] [(0, Rb 56 1 (Mb row_1))] 1 ∧ codec_PutInt_L1 F n size_1 u_1 row_1 = some o_1) F (by kernel_rfl) ⟨_, _, _, rfl, h⟩ ?_ ?_
  ·rintro _ ⟨_, _, _, _, h⟩; exact none_ne (h : (none : Option (Int × (List Int))) = some o_1)
  rintro n_2 _ ⟨size_1, u_1, row_1, rfl, h⟩
  replace h : codec_PutInt_L1_body F (codec_PutInt_L1 F n_2) size_1 u_1 row_1 = some o_1 := h
  unfold codec_PutInt_L1_body at h
  refine sq ?_
  refine aw_block (id := 1) (by kernel_rfl) ?_
  refine sq ?_
  obtain ⟨_, h_3, h⟩ := bind_some h; replace h_3 := need_some h_3
  obtain ⟨x_1, h_4, h⟩ := bind_some h
  refine rg [(4, Ht), (5, { av := Iu x_1, l := (Mb ((row_1).set ((size_1).toNat) (w_u8 (iand .u64 u_1 (127 : Int))))) })] [0, 5, 6, 7] [0] 1 [.sl false 1 (Mb b_1), Pp 0, Ii size_1, .int .u64 u_1] [Rb 56 1 (Mb ((row_1).set ((size_1).toNat) (w_u8 (iand .u64 u_1 (127 : Int)))))] hmix (ac h_3.1 (ac h_3.2 (ac (vc_getN h_4 : (Mb row_1)[(size_1).toNat]? = some (Iu x_1)) (ac (vc_set _ _ _ : (Mb ((row_1).set ((size_1).toNat) (w_u8 (iand .u64 u_1 (127 : Int))))) = List.set (Mb row_1) ((size_1).toNat) (setElem (Iu x_1) 0 [Iu (w_u8 (iand .u64 u_1 (127 : Int)))])) an)))) ?_
  refine sr [] [0, 5, 6, 7] [0] 1 [.sl false 1 (Mb b_1), Pp 0, Ii (w_i64 (size_1 + (1 : Int))), .int .u64 u_1] [Rb 56 1 (Mb ((row_1).set ((size_1).toNat) (w_u8 (iand .u64 u_1 (127 : Int)))))] hmix an ?_
  refine sq ?_
  refine sr [] [0, 5, 6, 7, 20] [0] 1 [.sl false 1 (Mb b_1), Pp 0, Ii (w_i64 (size_1 + (1 : Int))), .int .u64 u_1, .bool (decide (u_1 < (128 : Int)))] [Rb 56 1 (Mb ((row_1).set ((size_1).toNat) (w_u8 (iand .u64 u_1 (127 : Int)))))] hmix an ?_
  refine cd 20 (decide (u_1 < (128 : Int))) ?_ ?_
  ·intro g_1; replace h := cond_t g_1 h
   refine aw_exit (id := 0) (by kernel_rfl) ?_
   cases h
   exact ⟨rfl, (sw [0] [] [.s 0, .s 5, .s 6] [.s 0] an)⟩
  intro g_1; replace h := cond_f g_1 h
  refine sk ?_
  obtain ⟨_, h_5, h⟩ := bind_some h; replace h_5 := need_some h_5
  obtain ⟨x_2, h_6, h⟩ := bind_some h
  obtain ⟨_, h_7, h⟩ := bind_some h; replace h_7 := need_some h_7
  obtain ⟨x_3, h_8, h⟩ := bind_some h
  refine rg [(2, Ht), (3, { av := Iu x_2 }), (5, Ht), (6, { av := Iu x_3, l := (Mb (((row_1).set ((size_1).toNat) (w_u8 (iand .u64 u_1 (127 : Int)))).set ((w_i64 ((w_i64 (size_1 + (1 : Int))) - (1 : Int))).toNat) (ior .u8 x_2 (128 : Int)))) })] [0, 5, 6, 7] [0] 1 [.sl false 1 (Mb b_1), Pp 0, Ii (w_i64 (size_1 + (1 : Int))), .int .u64 u_1] [Rb 56 1 (Mb (((row_1).set ((size_1).toNat) (w_u8 (iand .u64 u_1 (127 : Int)))).set ((w_i64 ((w_i64 (size_1 + (1 : Int))) - (1 : Int))).toNat) (ior .u8 x_2 (128 : Int))))] hmix (ac h_5.1 (ac h_5.2 (ac (vc_getN h_6 : (Mb ((row_1).set ((size_1).toNat) (w_u8 (iand .u64 u_1 (127 : Int)))))[(w_i64 ((w_i64 (size_1 + (1 : Int))) - (1 : Int))).toNat]? = some (Iu x_2)) (ac h_7.1 (ac h_7.2 (ac (vc_getN h_8 : (Mb ((row_1).set ((size_1).toNat) (w_u8 (iand .u64 u_1 (127 : Int)))))[(w_i64 ((w_i64 (size_1 + (1 : Int))) - (1 : Int))).toNat]? = some (Iu x_3)) (ac (vc_set _ _ _ : (Mb (((row_1).set ((size_1).toNat) (w_u8 (iand .u64 u_1 (127 : Int)))).set ((w_i64 ((w_i64 (size_1 + (1 : Int))) - (1 : Int))).toNat) (ior .u8 x_2 (128 : Int)))) = List.set (Mb ((row_1).set ((size_1).toNat) (w_u8 (iand .u64 u_1 (127 : Int))))) ((w_i64 ((w_i64 (size_1 + (1 : Int))) - (1 : Int))).toNat) (setElem (Iu x_3) 0 [Iu (ior .u8 x_2 (128 : Int))])) an))))))) ?_
  refine rg [] [0, 5, 6, 7] [0] 1 [.sl false 1 (Mb b_1), Pp 0, Ii (w_i64 (size_1 + (1 : Int))), .int .u64 (ishr .u64 u_1 (7 : Int))] [Rb 56 1 (Mb (((row_1).set ((size_1).toNat) (w_u8 (iand .u64 u_1 (127 : Int)))).set ((w_i64 ((w_i64 (size_1 + (1 : Int))) - (1 : Int))).toNat) (ior .u8 x_2 (128 : Int))))] hmix (ac (by decide : (0 : Int) ≤ (7 : Int)) an) ?_
  exact ⟨_, (sw [0] [] [.s 0, .s 5, .s 6, .s 7] [.s 0] an), _, _, _, rfl, h⟩
 refine sq ?_
 obtain ⟨_, h_9, h⟩ := bind_some h; replace h_9 := need_some h_9
 obtain ⟨_, h_10, h⟩ := bind_some h; replace h_10 := need_some h_10
 obtain ⟨_, h_11, h⟩ := bind_some h; replace h_11 := need_some h_11
 obtain ⟨_, h_12, h⟩ := bind_some h; replace h_12 := need_some h_12
 refine rg [(2, { n := (b_1).length }), (4, { n := (b_1).length }), (5, { l := (Mb (sub b_1 (0 : Int) (lN (b_1)))) }), (8, { dep := true, id := 1, l := (Mb ((sub b_1 (0 : Int) (lN (b_1))) ++ (((o_1.2).take ((o_1.1).toNat)).drop 0))), n := (((sub b_1 (0 : Int) (lN (b_1))) ++ (((o_1.2).take ((o_1.1).toNat)).drop 0))).length })] [4] [1] 2 [.own 1 ((((sub b_1 (0 : Int) (lN (b_1))) ++ (((o_1.2).take ((o_1.1).toNat)).drop 0))).length)] [Rb 5 1 (Mb ((sub b_1 (0 : Int) (lN (b_1))) ++ (((o_1.2).take ((o_1.1).toNat)).drop 0)))] hmix (ac (vc_len _ : ((Mb b_1)).length = (b_1).length) (ac (vc_len _ : ((Mb b_1)).length = (b_1).length) (ac (by decide : (0 : Int) ≤ (0 : Int)) (ac (Int.natCast_nonneg _ : (0 : Int) ≤ (lN (b_1))) (ac (vc_lenle (Int.le_refl _) : (lN (b_1)) ≤ (lN ((Mb b_1)))) (ar (lN (b_1)) (ac (vc_sub _ _ _ : (Mb (sub b_1 (0 : Int) (lN (b_1)))) = (((Mb b_1)).take ((lN (b_1))).toNat).drop ((0 : Int)).toNat) (ac (by decide : (0 : Int) ≤ (0 : Int)) (ac h_9.1 (ac h_9.2.1 (ac (vc_lenle' h_9.2.2 : 10 ≤ ((Mb o_1.2)).length) (ac (vc_lenle' h_10.2 : ((o_1.1).toNat) ≤ ((Mb o_1.2)).length) (ac h_10.1 (ac (vc_app_part _ _ _ _ : (Mb ((sub b_1 (0 : Int) (lN (b_1))) ++ (((o_1.2).take ((o_1.1).toNat)).drop 0))) = (Mb (sub b_1 (0 : Int) (lN (b_1)))) ++ (((Mb o_1.2)).take ((o_1.1).toNat)).drop 0) (ac (by first | (simp; done) | simpa using h_11 : (((List.map (AV.int .u8) (sub b_1 (0 : Int) (((b_1).length : Nat) : Int))) : List AV).length + ((((List.map (AV.int .u8) o_1.2)).take ((o_1.1).toNat)).drop 0 : List AV).length) * 1 ≤ 140737488355328) (ac (by first | (simp; done) | simpa using h_12 : 0 < ((((List.map (AV.int .u8) o_1.2)).take ((o_1.1).toNat)).drop 0 : List AV).length ∨ ((List.map (AV.int .u8) (sub b_1 (0 : Int) (((b_1).length : Nat) : Int))) : List AV).length = 0) (ac (by simp : (((sub b_1 (0 : Int) (((b_1).length : Nat) : Int)) ++ (((o_1.2).take ((o_1.1).toNat)).drop 0))).length = ((List.map (AV.int .u8) ((sub b_1 (0 : Int) (((b_1).length : Nat) : Int)) ++ (((o_1.2).take ((o_1.1).toNat)).drop 0)))).length) an))))))))))))))))) ?_
 refine wk [1] [] [.s 4] [.s 0] [(4, .own 0 ((((sub b_1 (0 : Int) (lN (b_1))) ++ (((o_1.2).take ((o_1.1).toNat)).drop 0))).length))] [(0, Rb 5 1 (Mb ((sub b_1 (0 : Int) (lN (b_1))) ++ (((o_1.2).take ((o_1.1).toNat)).drop 0))))] an ?_
 refine rt ?_
 cases h
 exact ⟨.inr rfl, Nat.le_of_ble_eq_true rfl, by kernel_rfl⟩

theorem slices_Clone_byte_byte_ok (s_1 : List (Int)) (r : (List (Int))) (h : slices_Clone_byte_byte s_1 = some r) : TripleG prog 30 [] [] [.sl false 1 (Mb s_1)] [.row 5 1 (Mb r)] (.own 0 ((r).length)) := by
 refine triple_intro (fn := Go.Proofs.Try.f30) (code := codeOf Go.Proofs.Try.f30) (by kernel_rfl) (by kernel_rfl) (Nat.le_of_ble_eq_true (by kernel_rfl)) ?_
 unfold slices_Clone_byte_byte at h
 refine sr [(0, { id := 0, m := 1 })] [0] [] 1 [.sl false 1 (Mb s_1)] [] hmix an ?_
 refine sq ?_
 refine sr [] [0, 4] [] 1 [.sl false 1 (Mb s_1), .nb (Mb s_1)] [] hmix an ?_
 refine aw_condN (t := 4) (l := (Mb s_1)) (by kernel_rfl) (by kernel_rfl) ?_ ?_
 ·intro h_2; replace h_2 := List.map_eq_nil_iff.1 h_2
  replace h := Eq.trans (show (some []) = ((need (((([] : List Int)).length + (s_1).length) * 1 ≤ 140737488355328)).bind fun _ =>
 some ([] ++ s_1)) from by simp [h_2, need]) h
  refine sr [(0, { id := 1, m := 1 })] [2] [1] 2 [.own 1 0] [Rb 5 1 []] hmix an ?_
  refine wk [1] [] [.a 2 (.own 0 ((([] : List Int)).length))] [.s 0] [(2, .own 0 ((([] : List Int)).length))] [(0, Rb 5 1 [])] (ac (congrArg (AV.own _) (by first | (simp; done) | (simp; omega)) : (.own 1 0 : AV) = .own 1 ((([] : List Int)).length)) an) ?_
  refine rt ?_
  cases h
  exact ⟨.inr rfl, Nat.le_of_ble_eq_true rfl, by kernel_rfl⟩
 refine sk ?_
 refine sq ?_
 obtain ⟨_, h_1, h⟩ := bind_some h; replace h_1 := need_some h_1
 refine rg [(0, { id := 1 }), (2, { id := 2, l := (Mb ([] ++ s_1)), n := (([] ++ s_1)).length })] [2] [2] 3 [.own 2 ((([] ++ s_1)).length)] [Rb 5 1 (Mb ([] ++ s_1))] hmix (ac (by first | (simp; done) | (simp; omega) : 0 = (([] : List AV)).length) (ac (trivial : True) (ac (by simp : (List.map (AV.int .u8) ([] ++ s_1)) = [] ++ (List.map (AV.int .u8) s_1)) (ac (by simp : (([] ++ s_1)).length = ((List.map (AV.int .u8) ([] ++ s_1))).length) (ac (by first | (simp; done) | simpa using h_1 : (([] : List AV).length + ((List.map (AV.int .u8) s_1) : List AV).length) * 1 ≤ 140737488355328) an))))) ?_
 refine wk [2] [] [.s 2] [.s 0] [(2, .own 0 ((([] ++ s_1)).length))] [(0, Rb 5 1 (Mb ([] ++ s_1)))] an ?_
 refine rt ?_
 cases h
 exact ⟨.inr rfl, Nat.le_of_ble_eq_true rfl, by kernel_rfl⟩

theorem ring_Put_ok (F : Nat) (r_1 : T_api_Ring) (b_1 : List (Int)) (r : T_api_Ring × Int × Int) (h : ring_Put F r_1 b_1 = some r) : TripleG prog 23 [] [] [e_T_api_Ring r_1, .sl false 1 (Mb b_1)] [] (.tuple [e_T_api_Ring r.1, Ii r.2.1, Ii r.2.2]) := by
 refine triple_intro (fn := Go.Proofs.Try.f23) (code := codeOf Go.Proofs.Try.f23) (by kernel_rfl) (by kernel_rfl) (Nat.le_of_ble_eq_true (by kernel_rfl)) ?_
 unfold ring_Put at h
 refine sr [(0, { id := 0 }), (1, { id := 1 })] [1, 2, 4] [0, 1] 2 [.sl false 1 (Mb b_1), Pp 0, Pp 1] [Vb 25 (v_T_api_Ring r_1), Vb 25 [Ii 0, .nilsl, Ii 0, Ii 0, Ii 0, Ii 0]] hmix an ?_
 refine sq ?_
 obtain ⟨r_2, h_1, h⟩ := bind_some h
 refine rg [(1, { av := .tuple [.own 0 ((r_2.1).length), Ii r_2.2], ids := [2], l := [e_T_api_Ring r_1], post := [(.row 23 1 (List.map (fun l => AV.sl false 1 (l.map (AV.int .u8))) r_2.1))] })] [1, 2, 4, 7, 8] [0, 1, 2] 3 [.sl false 1 (Mb b_1), Pp 0, Pp 1, .own 2 ((r_2.1).length), Ii r_2.2] [Vb 25 (v_T_api_Ring r_1), Vb 25 [Ii 0, .nilsl, Ii 0, Ii 0, Ii 0, Ii 0], Rb 23 1 (List.map (fun l => AV.sl false 1 (l.map (AV.int .u8))) r_2.1)] hmix (ar ([e_T_api_Ring r_1] : List AV) (ac (rfl : ([] : List BoxSt) = []) (ac (ring_read_ok F r_1 r_2 h_1 : TripleG prog 26 [] [] [e_T_api_Ring r_1] [(.row 23 1 (List.map (fun l => AV.sl false 1 (l.map (AV.int .u8))) r_2.1))] (.tuple [.own 0 ((r_2.1).length), Ii r_2.2])) an))) ?_
 refine sq ?_
 refine sr [] [1, 2, 4, 7, 8, 21] [0, 1, 2] 3 [.sl false 1 (Mb b_1), Pp 0, Pp 1, .own 2 ((r_2.1).length), Ii r_2.2, .bool (r_2.2 != (0 : Int))] [Vb 25 (v_T_api_Ring r_1), Vb 25 [Ii 0, .nilsl, Ii 0, Ii 0, Ii 0, Ii 0], Rb 23 1 (List.map (fun l => AV.sl false 1 (l.map (AV.int .u8))) r_2.1)] hmix an ?_
 refine cd 21 (r_2.2 != (0 : Int)) ?_ ?_
 ·intro g_1; replace h := cond_t g_1 h
  refine sr [] [4, 5, 6] [1] 3 [Pp 1, Ii 0, Ii r_2.2] [Vb 25 (v_T_api_Ring r_1)] hmix an ?_
  refine wk [1] [] [.s 4, .s 5, .s 6] [.s 0] [(4, Pp 0), (5, Ii 0), (6, Ii r_2.2)] [(0, Vb 25 (v_T_api_Ring r_1))] an ?_
  refine rt ?_
  cases h
  exact ⟨.inr rfl, Nat.le_of_ble_eq_true rfl, by kernel_rfl⟩
 intro g_1; replace h := cond_f g_1 h
 refine sk ?_
 refine sq ?_
 obtain ⟨r_3, h_2, h⟩ := bind_some h
 obtain ⟨_, h_3, h⟩ := bind_some h; replace h_3 := need_some h_3
 refine rg [(1, { n := (b_1).length }), (2, { av := .own 0 ((r_3).length), ids := [3], l := [.nilsl, Ii (lN (b_1))], post := [(.row 5 1 (Mb r_3))] }), (4, { id := 4, l := (Mb (r_3 ++ b_1)), n := ((r_3 ++ b_1)).length })] [1, 2, 4, 7, 9] [0, 1, 2, 4] 5 [.sl false 1 (Mb b_1), Pp 0, Pp 1, .own 2 ((r_2.1).length), .own 4 (((r_3 ++ b_1)).length)] [Vb 25 (v_T_api_Ring r_1), Vb 25 [Ii 0, .nilsl, Ii 0, Ii 0, Ii 0, Ii 0], Rb 23 1 (List.map (fun l => AV.sl false 1 (l.map (AV.int .u8))) r_2.1), Rb 5 1 (Mb (r_3 ++ b_1))] hmix (ac (vc_len _ : ((Mb b_1)).length = (b_1).length) (ar ([.nilsl, Ii (lN (b_1))] : List AV) (ac (rfl : ([] : List BoxSt) = []) (ac (triple_lo (args' := [.sl false 1 [], Ii (lN (b_1))]) (codec_PutInt_ok F [] (lN (b_1)) r_3 h_2) rfl ⟨rfl, rfl, trivial⟩ : TripleG prog 29 [] [] [.nilsl, Ii (lN (b_1))] [(.row 5 1 (Mb r_3))] (.own 0 ((r_3).length))) (ac (by first | (simp; done) | (simp; omega) : (r_3).length = ((List.map (AV.int .u8) r_3)).length) (ac (trivial : True) (ac (vc_app _ _ : (Mb (r_3 ++ b_1)) = (Mb r_3) ++ (Mb b_1)) (ac (by simp : ((r_3 ++ b_1)).length = ((List.map (AV.int .u8) (r_3 ++ b_1))).length) (ac (by first | (simp; done) | simpa using h_3 : (((List.map (AV.int .u8) r_3) : List AV).length + ((List.map (AV.int .u8) b_1) : List AV).length) * 1 ≤ 140737488355328) an))))))))) ?_
 refine sr [(2, { n := (r_1.Data).length })] [1, 2, 4, 7, 9, 10] [0, 1, 2, 4] 5 [.sl false 1 (Mb b_1), Pp 0, Pp 1, .own 2 ((r_2.1).length), .own 4 (((r_3 ++ b_1)).length), Ii (w_i64 ((lN (r_1.Data)) - (w_i64 (r_1.End - r_1.Start))))] [Vb 25 (v_T_api_Ring r_1), Vb 25 [Ii 0, .nilsl, Ii 0, Ii 0, Ii 0, Ii 0], Rb 23 1 (List.map (fun l => AV.sl false 1 (l.map (AV.int .u8))) r_2.1), Rb 5 1 (Mb (r_3 ++ b_1))] hmix (ac (vc_len _ : ((Mb r_1.Data)).length = (r_1.Data).length) an) ?_
 refine sq ?_
 refine aw_block (id := 0) (by kernel_rfl) ?_
 refine sq ?_
 refine aw_mid (mk [(2, Pp 0), (4, Pp 1), (7, .own 2 ((r_2.1).length)), (9, .own 3 (((r_3 ++ b_1)).length)), (10, Ii (w_i64 ((lN (r_1.Data)) - (w_i64 (r_1.End - r_1.Start))))), (38, .bool (decide ((lN (b_1)) > (2000 : Int)) || decide ((lN ((r_3 ++ b_1))) > (lN (r_1.Data)))))] [(0, Vb 25 (v_T_api_Ring r_1)), (1, Vb 25 [Ii 0, .nilsl, Ii 0, Ii 0, Ii 0, Ii 0]), (2, Rb 23 1 (List.map (fun l => AV.sl false 1 (l.map (AV.int .u8))) r_2.1)), (3, Rb 5 1 (Mb (r_3 ++ b_1)))] 4) ?_ ?_
 ·rcases bft (decide ((lN (b_1)) > (2000 : Int))) with gg_1 | gg_1
  ·refine rg [(1, { n := (b_1).length }), (4, Hg), (5, Hg), (6, Hg), (7, Hg), (8, Hg), (9, Hg), (10, Ht)] [2, 4, 7, 9, 10, 38] [0, 1, 2, 4] 5 [Pp 0, Pp 1, .own 2 ((r_2.1).length), .own 4 (((r_3 ++ b_1)).length), Ii (w_i64 ((lN (r_1.Data)) - (w_i64 (r_1.End - r_1.Start)))), .bool true] [Vb 25 (v_T_api_Ring r_1), Vb 25 [Ii 0, .nilsl, Ii 0, Ii 0, Ii 0, Ii 0], Rb 23 1 (List.map (fun l => AV.sl false 1 (l.map (AV.int .u8))) r_2.1), Rb 5 1 (Mb (r_3 ++ b_1))] hmix (ac (vc_len _ : ((Mb b_1)).length = (b_1).length) (ac gg_1 (ac gg_1 (ac gg_1 (ac gg_1 (ac gg_1 (ac gg_1 (ac gg_1 an)))))))) ?_
   exact ⟨rfl, (sw [0, 1, 2, 4] [] [.s 2, .s 4, .s 7, .s 9, .s 10, .a 38 (.bool (decide ((lN (b_1)) > (2000 : Int)) || decide ((lN ((r_3 ++ b_1))) > (lN (r_1.Data)))))] [.s 0, .s 1, .s 2, .s 3] (ac (congrArg AV.bool (ort gg_1) : (.bool true : AV) = .bool (decide ((lN (b_1)) > (2000 : Int)) || decide ((lN ((r_3 ++ b_1))) > (lN (r_1.Data))))) an))⟩
  ·refine rg [(1, { n := (b_1).length }), (8, { n := (r_1.Data).length }), (10, Hf)] [2, 4, 7, 9, 10, 38] [0, 1, 2, 4] 5 [Pp 0, Pp 1, .own 2 ((r_2.1).length), .own 4 (((r_3 ++ b_1)).length), Ii (w_i64 ((lN (r_1.Data)) - (w_i64 (r_1.End - r_1.Start)))), .bool (decide ((lN ((r_3 ++ b_1))) > (lN (r_1.Data))))] [Vb 25 (v_T_api_Ring r_1), Vb 25 [Ii 0, .nilsl, Ii 0, Ii 0, Ii 0, Ii 0], Rb 23 1 (List.map (fun l => AV.sl false 1 (l.map (AV.int .u8))) r_2.1), Rb 5 1 (Mb (r_3 ++ b_1))] hmix (ac (vc_len _ : ((Mb b_1)).length = (b_1).length) (ac gg_1 (ac gg_1 (ac gg_1 (ac gg_1 (ac gg_1 (ac (vc_len _ : ((Mb r_1.Data)).length = (r_1.Data).length) (ac gg_1 (ac gg_1 an))))))))) ?_
   exact ⟨rfl, (sw [0, 1, 2, 4] [] [.s 2, .s 4, .s 7, .s 9, .s 10, .a 38 (.bool (decide ((lN (b_1)) > (2000 : Int)) || decide ((lN ((r_3 ++ b_1))) > (lN (r_1.Data)))))] [.s 0, .s 1, .s 2, .s 3] (ac (congrArg AV.bool (orf gg_1 rfl) : (.bool (decide ((lN ((r_3 ++ b_1))) > (lN (r_1.Data)))) : AV) = .bool (decide ((lN (b_1)) > (2000 : Int)) || decide ((lN ((r_3 ++ b_1))) > (lN (r_1.Data))))) an))⟩
 refine cd 38 (decide ((lN (b_1)) > (2000 : Int)) || decide ((lN ((r_3 ++ b_1))) > (lN (r_1.Data)))) ?_ ?_
 ·intro g_2; replace h := cond_t g_2 h
  refine sr [] [4, 5, 6] [1] 4 [Pp 1, Ii 0, Ii 7] [Vb 25 (v_T_api_Ring r_1)] hmix an ?_
  refine wk [1] [] [.s 4, .s 5, .s 6] [.s 0] [(4, Pp 0), (5, Ii 0), (6, Ii 7)] [(0, Vb 25 (v_T_api_Ring r_1))] an ?_
  refine rt ?_
  cases h
  exact ⟨.inr rfl, Nat.le_of_ble_eq_true rfl, by kernel_rfl⟩
 intro g_2; replace h := cond_f g_2 h
 refine sq ?_
 refine aw_mid (mk [(2, Pp 0), (4, Pp 1), (7, .own 2 ((r_2.1).length)), (9, .own 3 (((r_3 ++ b_1)).length)), (10, Ii (w_i64 ((lN (r_1.Data)) - (w_i64 (r_1.End - r_1.Start))))), (51, .bool ((r_1.Policy == (2 : Int)) && decide ((lN ((r_3 ++ b_1))) > (w_i64 ((lN (r_1.Data)) - (w_i64 (r_1.End - r_1.Start)))))))] [(0, Vb 25 (v_T_api_Ring r_1)), (1, Vb 25 [Ii 0, .nilsl, Ii 0, Ii 0, Ii 0, Ii 0]), (2, Rb 23 1 (List.map (fun l => AV.sl false 1 (l.map (AV.int .u8))) r_2.1)), (3, Rb 5 1 (Mb (r_3 ++ b_1)))] 4) ?_ ?_
 ·rcases bft (r_1.Policy == (2 : Int)) with gg_2 | gg_2
  ·refine rg [(8, Ht)] [2, 4, 7, 9, 10, 51] [0, 1, 2, 3] 4 [Pp 0, Pp 1, .own 2 ((r_2.1).length), .own 3 (((r_3 ++ b_1)).length), Ii (w_i64 ((lN (r_1.Data)) - (w_i64 (r_1.End - r_1.Start)))), .bool (decide ((lN ((r_3 ++ b_1))) > (w_i64 ((lN (r_1.Data)) - (w_i64 (r_1.End - r_1.Start))))))] [Vb 25 (v_T_api_Ring r_1), Vb 25 [Ii 0, .nilsl, Ii 0, Ii 0, Ii 0, Ii 0], Rb 23 1 (List.map (fun l => AV.sl false 1 (l.map (AV.int .u8))) r_2.1), Rb 5 1 (Mb (r_3 ++ b_1))] hmix (ac gg_2 (ac gg_2 (ac gg_2 (ac gg_2 (ac gg_2 an))))) ?_
   exact ⟨rfl, (sw [0, 1, 2, 3] [] [.s 2, .s 4, .s 7, .s 9, .s 10, .a 51 (.bool ((r_1.Policy == (2 : Int)) && decide ((lN ((r_3 ++ b_1))) > (w_i64 ((lN (r_1.Data)) - (w_i64 (r_1.End - r_1.Start)))))))] [.s 0, .s 1, .s 2, .s 3] (ac (congrArg AV.bool (andt gg_2 rfl) : (.bool (decide ((lN ((r_3 ++ b_1))) > (w_i64 ((lN (r_1.Data)) - (w_i64 (r_1.End - r_1.Start)))))) : AV) = .bool ((r_1.Policy == (2 : Int)) && decide ((lN ((r_3 ++ b_1))) > (w_i64 ((lN (r_1.Data)) - (w_i64 (r_1.End - r_1.Start))))))) an))⟩
  ·refine rg [(4, Hg), (5, Hg), (6, Hg), (7, Hg), (8, Hf)] [2, 4, 7, 9, 10, 51] [0, 1, 2, 3] 4 [Pp 0, Pp 1, .own 2 ((r_2.1).length), .own 3 (((r_3 ++ b_1)).length), Ii (w_i64 ((lN (r_1.Data)) - (w_i64 (r_1.End - r_1.Start)))), .bool false] [Vb 25 (v_T_api_Ring r_1), Vb 25 [Ii 0, .nilsl, Ii 0, Ii 0, Ii 0, Ii 0], Rb 23 1 (List.map (fun l => AV.sl false 1 (l.map (AV.int .u8))) r_2.1), Rb 5 1 (Mb (r_3 ++ b_1))] hmix (ac gg_2 (ac gg_2 (ac gg_2 (ac gg_2 (ac gg_2 an))))) ?_
   exact ⟨rfl, (sw [0, 1, 2, 3] [] [.s 2, .s 4, .s 7, .s 9, .s 10, .a 51 (.bool ((r_1.Policy == (2 : Int)) && decide ((lN ((r_3 ++ b_1))) > (w_i64 ((lN (r_1.Data)) - (w_i64 (r_1.End - r_1.Start)))))))] [.s 0, .s 1, .s 2, .s 3] (ac (congrArg AV.bool (andf gg_2) : (.bool false : AV) = .bool ((r_1.Policy == (2 : Int)) && decide ((lN ((r_3 ++ b_1))) > (w_i64 ((lN (r_1.Data)) - (w_i64 (r_1.End - r_1.Start))))))) an))⟩
 refine cd 51 ((r_1.Policy == (2 : Int)) && decide ((lN ((r_3 ++ b_1))) > (w_i64 ((lN (r_1.Data)) - (w_i64 (r_1.End - r_1.Start)))))) ?_ ?_
 ·intro g_3; replace h := cond_t g_3 h
  refine sr [] [4, 5, 6] [1] 4 [Pp 1, Ii 0, Ii 6] [Vb 25 (v_T_api_Ring r_1)] hmix an ?_
  refine wk [1] [] [.s 4, .s 5, .s 6] [.s 0] [(4, Pp 0), (5, Ii 0), (6, Ii 6)] [(0, Vb 25 (v_T_api_Ring r_1))] an ?_
  refine rt ?_
  cases h
  exact ⟨.inr rfl, Nat.le_of_ble_eq_true rfl, by kernel_rfl⟩
 intro g_3; replace h := cond_f g_3 h
 refine sq ?_
 refine aw_mid (mk [(2, Pp 0), (4, Pp 1), (7, .own 2 ((r_2.1).length)), (9, .own 3 (((r_3 ++ b_1)).length)), (10, Ii (w_i64 ((lN (r_1.Data)) - (w_i64 (r_1.End - r_1.Start))))), (62, .bool (decide ((w_i64 (r_1.End + (lN ((r_3 ++ b_1))))) > (1000000000000000 : Int)) || decide (r_1.Next ≥ (1000000000000000 : Int))))] [(0, Vb 25 (v_T_api_Ring r_1)), (1, Vb 25 [Ii 0, .nilsl, Ii 0, Ii 0, Ii 0, Ii 0]), (2, Rb 23 1 (List.map (fun l => AV.sl false 1 (l.map (AV.int .u8))) r_2.1)), (3, Rb 5 1 (Mb (r_3 ++ b_1)))] 4) ?_ ?_
 ·rcases bft (decide ((w_i64 (r_1.End + (lN ((r_3 ++ b_1))))) > (1000000000000000 : Int))) with gg_3 | gg_3
  ·refine rg [(7, Hg), (8, Hg), (9, Hg), (10, Ht)] [2, 4, 7, 9, 10, 62] [0, 1, 2, 3] 4 [Pp 0, Pp 1, .own 2 ((r_2.1).length), .own 3 (((r_3 ++ b_1)).length), Ii (w_i64 ((lN (r_1.Data)) - (w_i64 (r_1.End - r_1.Start)))), .bool true] [Vb 25 (v_T_api_Ring r_1), Vb 25 [Ii 0, .nilsl, Ii 0, Ii 0, Ii 0, Ii 0], Rb 23 1 (List.map (fun l => AV.sl false 1 (l.map (AV.int .u8))) r_2.1), Rb 5 1 (Mb (r_3 ++ b_1))] hmix (ac gg_3 (ac gg_3 (ac gg_3 (ac gg_3 an)))) ?_
   exact ⟨rfl, (sw [0, 1, 2, 3] [] [.s 2, .s 4, .s 7, .s 9, .s 10, .a 62 (.bool (decide ((w_i64 (r_1.End + (lN ((r_3 ++ b_1))))) > (1000000000000000 : Int)) || decide (r_1.Next ≥ (1000000000000000 : Int))))] [.s 0, .s 1, .s 2, .s 3] (ac (congrArg AV.bool (ort gg_3) : (.bool true : AV) = .bool (decide ((w_i64 (r_1.End + (lN ((r_3 ++ b_1))))) > (1000000000000000 : Int)) || decide (r_1.Next ≥ (1000000000000000 : Int)))) an))⟩
  ·refine rg [(10, Hf)] [2, 4, 7, 9, 10, 62] [0, 1, 2, 3] 4 [Pp 0, Pp 1, .own 2 ((r_2.1).length), .own 3 (((r_3 ++ b_1)).length), Ii (w_i64 ((lN (r_1.Data)) - (w_i64 (r_1.End - r_1.Start)))), .bool (decide (r_1.Next ≥ (1000000000000000 : Int)))] [Vb 25 (v_T_api_Ring r_1), Vb 25 [Ii 0, .nilsl, Ii 0, Ii 0, Ii 0, Ii 0], Rb 23 1 (List.map (fun l => AV.sl false 1 (l.map (AV.int .u8))) r_2.1), Rb 5 1 (Mb (r_3 ++ b_1))] hmix (ac gg_3 (ac gg_3 (ac gg_3 (ac gg_3 an)))) ?_
   exact ⟨rfl, (sw [0, 1, 2, 3] [] [.s 2, .s 4, .s 7, .s 9, .s 10, .a 62 (.bool (decide ((w_i64 (r_1.End + (lN ((r_3 ++ b_1))))) > (1000000000000000 : Int)) || decide (r_1.Next ≥ (1000000000000000 : Int))))] [.s 0, .s 1, .s 2, .s 3] (ac (congrArg AV.bool (orf gg_3 rfl) : (.bool (decide (r_1.Next ≥ (1000000000000000 : Int))) : AV) = .bool (decide ((w_i64 (r_1.End + (lN ((r_3 ++ b_1))))) > (1000000000000000 : Int)) || decide (r_1.Next ≥ (1000000000000000 : Int)))) an))⟩
 refine cd 62 (decide ((w_i64 (r_1.End + (lN ((r_3 ++ b_1))))) > (1000000000000000 : Int)) || decide (r_1.Next ≥ (1000000000000000 : Int))) ?_ ?_
 ·intro g_4; replace h := cond_t g_4 h
  refine sr [] [4, 5, 6] [1] 4 [Pp 1, Ii 0, Ii 2] [Vb 25 (v_T_api_Ring r_1)] hmix an ?_
  refine wk [1] [] [.s 4, .s 5, .s 6] [.s 0] [(4, Pp 0), (5, Ii 0), (6, Ii 2)] [(0, Vb 25 (v_T_api_Ring r_1))] an ?_
  refine rt ?_
  cases h
  exact ⟨.inr rfl, Nat.le_of_ble_eq_true rfl, by kernel_rfl⟩
 intro g_4; replace h := cond_f g_4 h
 refine sk ?_
 refine sr [(1, { id := 4 })] [2, 4, 7, 9, 10, 11, 12] [0, 1, 2, 3, 4] 5 [Pp 0, Pp 1, .own 2 ((r_2.1).length), .own 3 (((r_3 ++ b_1)).length), Ii (w_i64 ((lN (r_1.Data)) - (w_i64 (r_1.End - r_1.Start)))), Pp 4, Ii 0] [Vb 25 (v_T_api_Ring r_1), Vb 25 [Ii 0, .nilsl, Ii 0, Ii 0, Ii 0, Ii 0], Rb 23 1 (List.map (fun l => AV.sl false 1 (l.map (AV.int .u8))) r_2.1), Rb 5 1 (Mb (r_3 ++ b_1)), Vb 25 (v_T_api_Ring r_1)] hmix an ?_
 refine sq ?_
 obtain ⟨o_1, h_4, h⟩ := bind_some h
 refine aw_mid (mk [(2, Pp 0), (4, Pp 1), (9, .own 2 (((r_3 ++ b_1)).length)), (11, Pp 3), (12, Ii o_1.1)] [(0, Vb 25 (v_T_api_Ring r_1)), (1, Vb 25 [Ii 0, .nilsl, Ii 0, Ii 0, Ii 0, Ii 0]), (2, Rb 5 1 (Mb (r_3 ++ b_1))), (3, Vb 25 [Ii r_1.Policy, .sl false 1 (Mb r_1.Data), Ii o_1.2, Ii r_1.End, Ii r_1.First, Ii r_1.Next])] 4) ?_ ?_
 ·replace h := h_4
  refine aw_block (id := 1) (by kernel_rfl) ?_
  refine wk [0, 1, 2, 3, 4] [] [.s 2, .s 4, .s 7, .s 9, .s 10, .s 11, .s 12] [.s 0, .s 1, .s 2, .s 3, .s 4] [(2, Pp 0), (4, Pp 1), (7, .own 2 ((r_2.1).length)), (9, .own 3 (((r_3 ++ b_1)).length)), (10, Ii (w_i64 ((lN (r_1.Data)) - (w_i64 (r_1.End - r_1.Start))))), (11, Pp 4), (12, Ii 0)] [(0, Vb 25 (v_T_api_Ring r_1)), (1, Vb 25 [Ii 0, .nilsl, Ii 0, Ii 0, Ii 0, Ii 0]), (2, Rb 23 1 (List.map (fun l => AV.sl false 1 (l.map (AV.int .u8))) r_2.1)), (3, Rb 5 1 (Mb (r_3 ++ b_1))), (4, Vb 25 (v_T_api_Ring r_1))] an ?_
  refine aw_loopF (fun n st => ∃ (room_1 : Int), ∃ (lost_1 : Int), ∃ (c_1 : Int), st = mk [(2, Pp 0), (4, Pp 1), (7, .own 2 ((r_2.1).length)), (9, .own 3 (((r_3 ++ b_1)).length)), (10, Ii room_1), (11, Pp 4), (12, Ii lost_1)] [(0, Vb 25 (v_T_api_Ring r_1)), (1, Vb 25 [Ii 0, .nilsl, Ii 0, Ii 0, Ii 0, Ii 0]), (2, Rb 23 1 (List.map (fun l => AV.sl false 1 (l.map (AV.int .u8))) r_2.1)), (3, Rb 5 1 (Mb (r_3 ++ b_1))), (4, Vb 25 [Ii r_1.Policy, .sl false 1 (Mb r_1.Data), Ii c_1, Ii r_1.End, Ii r_1.First, Ii r_1.Next])] 5 ∧ ring_Put_L1 F b_1 r_2 r_3 n room_1 lost_1 c_1 = some o_1) F (by kernel_rfl) ⟨_, _, _, rfl, h⟩ ?_ ?_
  ·rintro _ ⟨_, _, _, _, h⟩; exact none_ne (h : (none : Option (Int × Int)) = some o_1)
  rintro n_1 _ ⟨room_1, lost_1, c_1, rfl, h⟩
  replace h : ring_Put_L1_body F b_1 r_2 r_3 (ring_Put_L1 F b_1 r_2 r_3 n_1) room_1 lost_1 c_1 = some o_1 := h
  unfold ring_Put_L1_body at h
  refine sq ?_
  refine sr [] [2, 4, 7, 9, 10, 11, 12, 79] [0, 1, 2, 3, 4] 5 [Pp 0, Pp 1, .own 2 ((r_2.1).length), .own 3 (((r_3 ++ b_1)).length), Ii room_1, Pp 4, Ii lost_1, .bool (decide ((lN ((r_3 ++ b_1))) > room_1))] [Vb 25 (v_T_api_Ring r_1), Vb 25 [Ii 0, .nilsl, Ii 0, Ii 0, Ii 0, Ii 0], Rb 23 1 (List.map (fun l => AV.sl false 1 (l.map (AV.int .u8))) r_2.1), Rb 5 1 (Mb (r_3 ++ b_1)), Vb 25 [Ii r_1.Policy, .sl false 1 (Mb r_1.Data), Ii c_1, Ii r_1.End, Ii r_1.First, Ii r_1.Next]] hmix an ?_
  refine cd 79 (decide ((lN ((r_3 ++ b_1))) > room_1)) ?_ ?_
  rotate_left
  ·intro g_5; replace h := cond_f g_5 h
   refine aw_exit (id := 1) (by kernel_rfl) ?_
   cases h
   exact ⟨rfl, (sw [0, 1, 3, 4] [] [.s 2, .s 4, .s 9, .s 11, .s 12] [.s 0, .s 1, .s 2, .s 3] an)⟩
  intro g_5; replace h := cond_t g_5 h
  refine sk ?_
  refine sq ?_
  refine aw_block (id := 2) (by kernel_rfl) ?_
  refine sq ?_
  obtain ⟨x_1, h_5, h⟩ := bind_some h
  obtain ⟨r_4, h_6, h⟩ := bind_some h
  obtain ⟨x_2, h_7, h⟩ := bind_some h
  refine rg [(3, { av := .sl false 1 (Mb x_1) }), (4, { n := (x_1).length }), (5, { av := .own 0 ((r_4).length), ids := [5], l := [.nilsl, Ii (lN (x_1))], post := [(.row 5 1 (Mb r_4))] }), (10, { av := .sl false 1 (Mb x_2) }), (11, { n := (x_2).length })] [2, 4, 7, 9, 10, 11, 12, 13] [0, 1, 2, 3, 4] 6 [Pp 0, Pp 1, .own 2 ((r_2.1).length), .own 3 (((r_3 ++ b_1)).length), Ii room_1, Pp 4, Ii lost_1, Ii (w_i64 ((lN (r_4)) + (lN (x_2))))] [Vb 25 (v_T_api_Ring r_1), Vb 25 [Ii 0, .nilsl, Ii 0, Ii 0, Ii 0, Ii 0], Rb 23 1 (List.map (fun l => AV.sl false 1 (l.map (AV.int .u8))) r_2.1), Rb 5 1 (Mb (r_3 ++ b_1)), Vb 25 [Ii r_1.Policy, .sl false 1 (Mb r_1.Data), Ii c_1, Ii r_1.End, Ii r_1.First, Ii r_1.Next]] hmix (ac (idxL_lo h_5 : (0 : Int) ≤ lost_1) (ac (by first | (simp; done) | simpa using idxL_hi h_5 : lost_1 < (((r_2.1).length : Nat) : Int)) (ac (vc_get h_5 : (List.map (fun l => AV.sl false 1 (l.map (AV.int .u8))) r_2.1)[(lost_1).toNat]? = some (.sl false 1 (Mb x_1))) (ac (vc_len _ : ((Mb x_1)).length = (x_1).length) (ar ([.nilsl, Ii (lN (x_1))] : List AV) (ac (rfl : ([] : List BoxSt) = []) (ac (triple_lo (args' := [.sl false 1 [], Ii (lN (x_1))]) (codec_PutInt_ok F [] (lN (x_1)) r_4 h_6) rfl ⟨rfl, rfl, trivial⟩ : TripleG prog 29 [] [] [.nilsl, Ii (lN (x_1))] [(.row 5 1 (Mb r_4))] (.own 0 ((r_4).length))) (ac (idxL_lo h_7 : (0 : Int) ≤ lost_1) (ac (by first | (simp; done) | simpa using idxL_hi h_7 : lost_1 < (((r_2.1).length : Nat) : Int)) (ac (vc_get h_7 : (List.map (fun l => AV.sl false 1 (l.map (AV.int .u8))) r_2.1)[(lost_1).toNat]? = some (.sl false 1 (Mb x_2))) (ac (vc_len _ : ((Mb x_2)).length = (x_2).length) an))))))))))) ?_
  refine sr [] [2, 4, 7, 9, 10, 11, 12, 13] [0, 1, 2, 3, 4] 6 [Pp 0, Pp 1, .own 2 ((r_2.1).length), .own 3 (((r_3 ++ b_1)).length), Ii (w_i64 (room_1 + (w_i64 ((lN (r_4)) + (lN (x_2)))))), Pp 4, Ii lost_1, Ii (w_i64 ((lN (r_4)) + (lN (x_2))))] [Vb 25 (v_T_api_Ring r_1), Vb 25 [Ii 0, .nilsl, Ii 0, Ii 0, Ii 0, Ii 0], Rb 23 1 (List.map (fun l => AV.sl false 1 (l.map (AV.int .u8))) r_2.1), Rb 5 1 (Mb (r_3 ++ b_1)), Vb 25 [Ii r_1.Policy, .sl false 1 (Mb r_1.Data), Ii c_1, Ii r_1.End, Ii r_1.First, Ii r_1.Next]] hmix an ?_
  refine rg [] [2, 4, 7, 9, 10, 11, 12] [0, 1, 2, 3, 4] 6 [Pp 0, Pp 1, .own 2 ((r_2.1).length), .own 3 (((r_3 ++ b_1)).length), Ii (w_i64 (room_1 + (w_i64 ((lN (r_4)) + (lN (x_2)))))), Pp 4, Ii lost_1] [Vb 25 (v_T_api_Ring r_1), Vb 25 [Ii 0, .nilsl, Ii 0, Ii 0, Ii 0, Ii 0], Rb 23 1 (List.map (fun l => AV.sl false 1 (l.map (AV.int .u8))) r_2.1), Rb 5 1 (Mb (r_3 ++ b_1)), Vb 25 [Ii r_1.Policy, .sl false 1 (Mb r_1.Data), Ii (w_i64 (c_1 + (w_i64 ((lN (r_4)) + (lN (x_2)))))), Ii r_1.End, Ii r_1.First, Ii r_1.Next]] hmix an ?_
  refine rg [] [2, 4, 7, 9, 10, 11, 12] [0, 1, 2, 3, 4] 6 [Pp 0, Pp 1, .own 2 ((r_2.1).length), .own 3 (((r_3 ++ b_1)).length), Ii (w_i64 (room_1 + (w_i64 ((lN (r_4)) + (lN (x_2)))))), Pp 4, Ii (w_i64 (lost_1 + (1 : Int)))] [Vb 25 (v_T_api_Ring r_1), Vb 25 [Ii 0, .nilsl, Ii 0, Ii 0, Ii 0, Ii 0], Rb 23 1 (List.map (fun l => AV.sl false 1 (l.map (AV.int .u8))) r_2.1), Rb 5 1 (Mb (r_3 ++ b_1)), Vb 25 [Ii r_1.Policy, .sl false 1 (Mb r_1.Data), Ii (w_i64 (c_1 + (w_i64 ((lN (r_4)) + (lN (x_2)))))), Ii r_1.End, Ii r_1.First, Ii r_1.Next]] hmix an ?_
  exact ⟨_, (sw [0, 1, 2, 3, 4] [] [.s 2, .s 4, .s 7, .s 9, .s 10, .s 11, .s 12] [.s 0, .s 1, .s 2, .s 3, .s 4] an), _, _, _, rfl, h⟩
 refine sr [] [2, 4, 9, 11, 12] [0, 1, 2, 3] 4 [Pp 0, Pp 1, .own 2 (((r_3 ++ b_1)).length), Pp 3, Ii o_1.1] [Vb 25 (v_T_api_Ring r_1), Vb 25 [Ii 0, .nilsl, Ii 0, Ii 0, Ii 0, Ii 0], Rb 5 1 (Mb (r_3 ++ b_1)), Vb 25 [Ii r_1.Policy, .sl false 1 (Mb r_1.Data), Ii o_1.2, Ii r_1.End, Ii (w_i64 (r_1.First + o_1.1)), Ii r_1.Next]] hmix an ?_
 refine sq ?_
 obtain ⟨r_5, h_8, h⟩ := bind_some h
 refine rg [(2, { av := .own 0 ((r_5).length), ids := [4], l := [.sl false 1 (Mb r_1.Data)], post := [(.row 5 1 (Mb r_5))] })] [4, 9, 11, 12] [1, 2, 3, 4] 5 [Pp 1, .own 2 (((r_3 ++ b_1)).length), Pp 3, Ii o_1.1] [Vb 25 [Ii 0, .nilsl, Ii 0, Ii 0, Ii 0, Ii 0], Rb 5 1 (Mb (r_3 ++ b_1)), Vb 25 [Ii r_1.Policy, .own 4 ((r_5).length), Ii o_1.2, Ii r_1.End, Ii (w_i64 (r_1.First + o_1.1)), Ii r_1.Next], Rb 5 1 (Mb r_5)] hmix (ar ([.sl false 1 (Mb r_1.Data)] : List AV) (ac (rfl : ([] : List BoxSt) = []) (ac (slices_Clone_byte_byte_ok r_1.Data r_5 h_8 : TripleG prog 30 [] [] [.sl false 1 (Mb r_1.Data)] [(.row 5 1 (Mb r_5))] (.own 0 ((r_5).length))) an))) ?_
 refine sq ?_
 obtain ⟨_, h_9, h⟩ := bind_some h; replace h_9 := need_some h_9
 obtain ⟨_, h_10, h⟩ := bind_some h; replace h_10 := need_some h_10
 obtain ⟨_, h_11, h⟩ := bind_some h; replace h_11 := need_some h_11
 refine rg [(10, { l := (Mb (cpy r_5 ((irem r_1.End (lN (r_5))).toNat) ((r_5).length) (r_3 ++ b_1))), n := (min ((r_3 ++ b_1)).length ((r_5).length - (irem r_1.End (lN (r_5))).toNat)) })] [4, 9, 11, 12, 14] [1, 2, 3, 4] 5 [Pp 1, .own 2 (((r_3 ++ b_1)).length), Pp 3, Ii o_1.1, Ii (((min ((r_3 ++ b_1)).length ((r_5).length - (irem r_1.End (lN (r_5))).toNat)) : Nat) : Int)] [Vb 25 [Ii 0, .nilsl, Ii 0, Ii 0, Ii 0, Ii 0], Rb 5 1 (Mb (r_3 ++ b_1)), Vb 25 [Ii r_1.Policy, .own 4 ((r_5).length), Ii o_1.2, Ii r_1.End, Ii (w_i64 (r_1.First + o_1.1)), Ii r_1.Next], Rb 5 1 (Mb (cpy r_5 ((irem r_1.End (lN (r_5))).toNat) ((r_5).length) (r_3 ++ b_1)))] hmix (ac h_9 (ac h_10.1 (ac h_10.2 (ac (Int.le_refl _ : (lN (r_5)) ≤ (lN (r_5))) (ac (by first | (simp; done) | (simp; omega) : ((r_3 ++ b_1)).length = ((List.map (AV.int .u8) (r_3 ++ b_1))).length) (ac h_11.1 (ac (vc_lenle' h_11.2 : ((r_5).length) ≤ ((Mb r_5)).length) (ac (by simp : (min ((r_3 ++ b_1)).length ((r_5).length - (irem r_1.End (((r_5).length : Nat) : Int)).toNat)) = min ((List.map (AV.int .u8) (r_3 ++ b_1)) : List AV).length ((r_5).length - (irem r_1.End (((r_5).length : Nat) : Int)).toNat)) (ac (by simp [cpy] : (List.map (AV.int .u8) (cpy r_5 ((irem r_1.End (((r_5).length : Nat) : Int)).toNat) ((r_5).length) (r_3 ++ b_1))) = ((List.map (AV.int .u8) r_5)).take ((irem r_1.End (((r_5).length : Nat) : Int)).toNat) ++ ((List.map (AV.int .u8) (r_3 ++ b_1)) : List AV).take (min ((r_3 ++ b_1)).length ((r_5).length - (irem r_1.End (((r_5).length : Nat) : Int)).toNat)) ++ ((List.map (AV.int .u8) r_5)).drop ((irem r_1.End (((r_5).length : Nat) : Int)).toNat + (min ((r_3 ++ b_1)).length ((r_5).length - (irem r_1.End (((r_5).length : Nat) : Int)).toNat)))) an))))))))) ?_
 refine sq ?_
 obtain ⟨_, h_12, h⟩ := bind_some h; replace h_12 := need_some h_12
 obtain ⟨_, h_13, h⟩ := bind_some h; replace h_13 := need_some h_13
 obtain ⟨_, h_14, h⟩ := bind_some h; replace h_14 := need_some h_14
 refine rg [(5, { l := (Mb (cpy (cpy r_5 ((irem r_1.End (lN (r_5))).toNat) ((r_5).length) (r_3 ++ b_1)) 0 ((r_5).length) ((((r_3 ++ b_1)).take (((r_3 ++ b_1)).length)).drop (min ((r_3 ++ b_1)).length ((r_5).length - (irem r_1.End (lN (r_5))).toNat))))), n := (min ((((r_3 ++ b_1)).take (((r_3 ++ b_1)).length)).drop (min ((r_3 ++ b_1)).length ((r_5).length - (irem r_1.End (lN (r_5))).toNat))).length ((r_5).length - 0)) })] [4, 9, 11, 12] [1, 2, 3, 4] 5 [Pp 1, .own 2 (((r_3 ++ b_1)).length), Pp 3, Ii o_1.1] [Vb 25 [Ii 0, .nilsl, Ii 0, Ii 0, Ii 0, Ii 0], Rb 5 1 (Mb (r_3 ++ b_1)), Vb 25 [Ii r_1.Policy, .own 4 ((r_5).length), Ii o_1.2, Ii r_1.End, Ii (w_i64 (r_1.First + o_1.1)), Ii r_1.Next], Rb 5 1 (Mb (cpy (cpy r_5 ((irem r_1.End (lN (r_5))).toNat) ((r_5).length) (r_3 ++ b_1)) 0 ((r_5).length) ((((r_3 ++ b_1)).take (((r_3 ++ b_1)).length)).drop (min ((r_3 ++ b_1)).length ((r_5).length - (irem r_1.End (lN (r_5))).toNat)))))] hmix (ac (Int.natCast_nonneg _ : (0 : Int) ≤ (((min ((r_3 ++ b_1)).length ((r_5).length - (irem r_1.End (lN (r_5))).toNat)) : Nat) : Int)) (ac h_12 (ac (Int.le_refl _ : (lN ((r_3 ++ b_1))) ≤ (lN ((r_3 ++ b_1)))) (ac (vc_lenle' h_13.2 : (((r_3 ++ b_1)).length) ≤ ((Mb (r_3 ++ b_1))).length) (ac h_13.1 (ac h_14.1 (ac (vc_lenle' h_14.2 : ((r_5).length) ≤ ((Mb (cpy r_5 ((irem r_1.End (lN (r_5))).toNat) ((r_5).length) (r_3 ++ b_1)))).length) (ac (by simp : (min ((((r_3 ++ b_1)).take (((r_3 ++ b_1)).length)).drop (min ((r_3 ++ b_1)).length ((r_5).length - (irem r_1.End (((r_5).length : Nat) : Int)).toNat))).length ((r_5).length - 0)) = min ((((List.map (AV.int .u8) (r_3 ++ b_1))).take (((r_3 ++ b_1)).length)).drop (min ((r_3 ++ b_1)).length ((r_5).length - (irem r_1.End (((r_5).length : Nat) : Int)).toNat)) : List AV).length ((r_5).length - 0)) (ac (by simp [cpy] : (List.map (AV.int .u8) (cpy (cpy r_5 ((irem r_1.End (((r_5).length : Nat) : Int)).toNat) ((r_5).length) (r_3 ++ b_1)) 0 ((r_5).length) ((((r_3 ++ b_1)).take (((r_3 ++ b_1)).length)).drop (min ((r_3 ++ b_1)).length ((r_5).length - (irem r_1.End (((r_5).length : Nat) : Int)).toNat))))) = ((List.map (AV.int .u8) (cpy r_5 ((irem r_1.End (((r_5).length : Nat) : Int)).toNat) ((r_5).length) (r_3 ++ b_1)))).take 0 ++ ((((List.map (AV.int .u8) (r_3 ++ b_1))).take (((r_3 ++ b_1)).length)).drop (min ((r_3 ++ b_1)).length ((r_5).length - (irem r_1.End (((r_5).length : Nat) : Int)).toNat)) : List AV).take (min ((((r_3 ++ b_1)).take (((r_3 ++ b_1)).length)).drop (min ((r_3 ++ b_1)).length ((r_5).length - (irem r_1.End (((r_5).length : Nat) : Int)).toNat))).length ((r_5).length - 0)) ++ ((List.map (AV.int .u8) (cpy r_5 ((irem r_1.End (((r_5).length : Nat) : Int)).toNat) ((r_5).length) (r_3 ++ b_1)))).drop (0 + (min ((((r_3 ++ b_1)).take (((r_3 ++ b_1)).length)).drop (min ((r_3 ++ b_1)).length ((r_5).length - (irem r_1.End (((r_5).length : Nat) : Int)).toNat))).length ((r_5).length - 0)))) an))))))))) ?_
 refine sr [] [4, 11, 12] [1, 3, 4] 5 [Pp 1, Pp 3, Ii o_1.1] [Vb 25 [Ii 0, .nilsl, Ii 0, Ii 0, Ii 0, Ii 0], Vb 25 [Ii r_1.Policy, .own 4 ((r_5).length), Ii o_1.2, Ii (w_i64 (r_1.End + (lN ((r_3 ++ b_1))))), Ii (w_i64 (r_1.First + o_1.1)), Ii r_1.Next], Rb 5 1 (Mb (cpy (cpy r_5 ((irem r_1.End (lN (r_5))).toNat) ((r_5).length) (r_3 ++ b_1)) 0 ((r_5).length) ((((r_3 ++ b_1)).take (((r_3 ++ b_1)).length)).drop (min ((r_3 ++ b_1)).length ((r_5).length - (irem r_1.End (lN (r_5))).toNat)))))] hmix an ?_
 refine sr [] [4, 11, 12] [1, 3, 4] 5 [Pp 1, Pp 3, Ii o_1.1] [Vb 25 [Ii 0, .nilsl, Ii 0, Ii 0, Ii 0, Ii 0], Vb 25 [Ii r_1.Policy, .own 4 ((r_5).length), Ii o_1.2, Ii (w_i64 (r_1.End + (lN ((r_3 ++ b_1))))), Ii (w_i64 (r_1.First + o_1.1)), Ii (w_i64 (r_1.Next + (1 : Int)))], Rb 5 1 (Mb (cpy (cpy r_5 ((irem r_1.End (lN (r_5))).toNat) ((r_5).length) (r_3 ++ b_1)) 0 ((r_5).length) ((((r_3 ++ b_1)).take (((r_3 ++ b_1)).length)).drop (min ((r_3 ++ b_1)).length ((r_5).length - (irem r_1.End (lN (r_5))).toNat)))))] hmix an ?_
 refine sr [] [4, 5, 6] [1, 4] 5 [Pp 1, Ii o_1.1, Ii 0] [Vb 25 [Ii r_1.Policy, .own 4 ((r_5).length), Ii o_1.2, Ii (w_i64 (r_1.End + (lN ((r_3 ++ b_1))))), Ii (w_i64 (r_1.First + o_1.1)), Ii (w_i64 (r_1.Next + (1 : Int)))], Rb 5 1 (Mb (cpy (cpy r_5 ((irem r_1.End (lN (r_5))).toNat) ((r_5).length) (r_3 ++ b_1)) 0 ((r_5).length) ((((r_3 ++ b_1)).take (((r_3 ++ b_1)).length)).drop (min ((r_3 ++ b_1)).length ((r_5).length - (irem r_1.End (lN (r_5))).toNat)))))] hmix an ?_
 refine wk [1] [4] [.s 4, .s 5, .s 6] [.a 0 (Vb 25 (v_T_api_Ring (⟨r_1.Policy, (cpy (cpy r_5 ((irem r_1.End (lN (r_5))).toNat) ((r_5).length) (r_3 ++ b_1)) 0 ((r_5).length) ((((r_3 ++ b_1)).take (((r_3 ++ b_1)).length)).drop (min ((r_3 ++ b_1)).length ((r_5).length - (irem r_1.End (lN (r_5))).toNat)))), o_1.2, w_i64 (r_1.End + (lN ((r_3 ++ b_1)))), w_i64 (r_1.First + o_1.1), w_i64 (r_1.Next + (1 : Int))⟩ : T_api_Ring)))] [(4, Pp 0), (5, Ii o_1.1), (6, Ii 0)] [(0, Vb 25 (v_T_api_Ring (⟨r_1.Policy, (cpy (cpy r_5 ((irem r_1.End (lN (r_5))).toNat) ((r_5).length) (r_3 ++ b_1)) 0 ((r_5).length) ((((r_3 ++ b_1)).take (((r_3 ++ b_1)).length)).drop (min ((r_3 ++ b_1)).length ((r_5).length - (irem r_1.End (lN (r_5))).toNat)))), o_1.2, w_i64 (r_1.End + (lN ((r_3 ++ b_1)))), w_i64 (r_1.First + o_1.1), w_i64 (r_1.Next + (1 : Int))⟩ : T_api_Ring)))] (ar 25 (ac (rfl : ones [Ii ((⟨r_1.Policy, (cpy (cpy r_5 ((irem r_1.End (lN (r_5))).toNat) ((r_5).length) (r_3 ++ b_1)) 0 ((r_5).length) ((((r_3 ++ b_1)).take (((r_3 ++ b_1)).length)).drop (min ((r_3 ++ b_1)).length ((r_5).length - (irem r_1.End (lN (r_5))).toNat)))), o_1.2, w_i64 (r_1.End + (lN ((r_3 ++ b_1)))), w_i64 (r_1.First + o_1.1), w_i64 (r_1.Next + (1 : Int))⟩ : T_api_Ring).Policy), .sl false 1 (Mb ((⟨r_1.Policy, (cpy (cpy r_5 ((irem r_1.End (lN (r_5))).toNat) ((r_5).length) (r_3 ++ b_1)) 0 ((r_5).length) ((((r_3 ++ b_1)).take (((r_3 ++ b_1)).length)).drop (min ((r_3 ++ b_1)).length ((r_5).length - (irem r_1.End (lN (r_5))).toNat)))), o_1.2, w_i64 (r_1.End + (lN ((r_3 ++ b_1)))), w_i64 (r_1.First + o_1.1), w_i64 (r_1.Next + (1 : Int))⟩ : T_api_Ring).Data)), Ii ((⟨r_1.Policy, (cpy (cpy r_5 ((irem r_1.End (lN (r_5))).toNat) ((r_5).length) (r_3 ++ b_1)) 0 ((r_5).length) ((((r_3 ++ b_1)).take (((r_3 ++ b_1)).length)).drop (min ((r_3 ++ b_1)).length ((r_5).length - (irem r_1.End (lN (r_5))).toNat)))), o_1.2, w_i64 (r_1.End + (lN ((r_3 ++ b_1)))), w_i64 (r_1.First + o_1.1), w_i64 (r_1.Next + (1 : Int))⟩ : T_api_Ring).Start), Ii ((⟨r_1.Policy, (cpy (cpy r_5 ((irem r_1.End (lN (r_5))).toNat) ((r_5).length) (r_3 ++ b_1)) 0 ((r_5).length) ((((r_3 ++ b_1)).take (((r_3 ++ b_1)).length)).drop (min ((r_3 ++ b_1)).length ((r_5).length - (irem r_1.End (lN (r_5))).toNat)))), o_1.2, w_i64 (r_1.End + (lN ((r_3 ++ b_1)))), w_i64 (r_1.First + o_1.1), w_i64 (r_1.Next + (1 : Int))⟩ : T_api_Ring).End), Ii ((⟨r_1.Policy, (cpy (cpy r_5 ((irem r_1.End (lN (r_5))).toNat) ((r_5).length) (r_3 ++ b_1)) 0 ((r_5).length) ((((r_3 ++ b_1)).take (((r_3 ++ b_1)).length)).drop (min ((r_3 ++ b_1)).length ((r_5).length - (irem r_1.End (lN (r_5))).toNat)))), o_1.2, w_i64 (r_1.End + (lN ((r_3 ++ b_1)))), w_i64 (r_1.First + o_1.1), w_i64 (r_1.Next + (1 : Int))⟩ : T_api_Ring).First), Ii ((⟨r_1.Policy, (cpy (cpy r_5 ((irem r_1.End (lN (r_5))).toNat) ((r_5).length) (r_3 ++ b_1)) 0 ((r_5).length) ((((r_3 ++ b_1)).take (((r_3 ++ b_1)).length)).drop (min ((r_3 ++ b_1)).length ((r_5).length - (irem r_1.End (lN (r_5))).toNat)))), o_1.2, w_i64 (r_1.End + (lN ((r_3 ++ b_1)))), w_i64 (r_1.First + o_1.1), w_i64 (r_1.Next + (1 : Int))⟩ : T_api_Ring).Next)] = true) (ac (by rw [List.length_map]; exact ((cpy_len h_14.1 h_14.2).trans (cpy_len h_11.1 h_11.2)).symm : (r_5).length = ((List.map (AV.int .u8) (cpy (cpy r_5 ((irem r_1.End (((r_5).length : Nat) : Int)).toNat) ((r_5).length) (r_3 ++ b_1)) 0 ((r_5).length) ((((r_3 ++ b_1)).take (((r_3 ++ b_1)).length)).drop (min ((r_3 ++ b_1)).length ((r_5).length - (irem r_1.End (((r_5).length : Nat) : Int)).toNat)))))).length) (ac (rfl : (Ii r_1.Policy : AV) = Ii ((⟨r_1.Policy, (cpy (cpy r_5 ((irem r_1.End (lN (r_5))).toNat) ((r_5).length) (r_3 ++ b_1)) 0 ((r_5).length) ((((r_3 ++ b_1)).take (((r_3 ++ b_1)).length)).drop (min ((r_3 ++ b_1)).length ((r_5).length - (irem r_1.End (lN (r_5))).toNat)))), o_1.2, w_i64 (r_1.End + (lN ((r_3 ++ b_1)))), w_i64 (r_1.First + o_1.1), w_i64 (r_1.Next + (1 : Int))⟩ : T_api_Ring).Policy)) (ar 1 (ac (rfl : ((Mb (cpy (cpy r_5 ((irem r_1.End (lN (r_5))).toNat) ((r_5).length) (r_3 ++ b_1)) 0 ((r_5).length) ((((r_3 ++ b_1)).take (((r_3 ++ b_1)).length)).drop (min ((r_3 ++ b_1)).length ((r_5).length - (irem r_1.End (lN (r_5))).toNat))))) : List AV) = (Mb ((⟨r_1.Policy, (cpy (cpy r_5 ((irem r_1.End (lN (r_5))).toNat) ((r_5).length) (r_3 ++ b_1)) 0 ((r_5).length) ((((r_3 ++ b_1)).take (((r_3 ++ b_1)).length)).drop (min ((r_3 ++ b_1)).length ((r_5).length - (irem r_1.End (lN (r_5))).toNat)))), o_1.2, w_i64 (r_1.End + (lN ((r_3 ++ b_1)))), w_i64 (r_1.First + o_1.1), w_i64 (r_1.Next + (1 : Int))⟩ : T_api_Ring).Data))) (ac (rfl : (!false || false) = true) (ac (rfl : (Ii o_1.2 : AV) = Ii ((⟨r_1.Policy, (cpy (cpy r_5 ((irem r_1.End (lN (r_5))).toNat) ((r_5).length) (r_3 ++ b_1)) 0 ((r_5).length) ((((r_3 ++ b_1)).take (((r_3 ++ b_1)).length)).drop (min ((r_3 ++ b_1)).length ((r_5).length - (irem r_1.End (lN (r_5))).toNat)))), o_1.2, w_i64 (r_1.End + (lN ((r_3 ++ b_1)))), w_i64 (r_1.First + o_1.1), w_i64 (r_1.Next + (1 : Int))⟩ : T_api_Ring).Start)) (ac (rfl : (Ii (w_i64 (r_1.End + (lN ((r_3 ++ b_1))))) : AV) = Ii ((⟨r_1.Policy, (cpy (cpy r_5 ((irem r_1.End (lN (r_5))).toNat) ((r_5).length) (r_3 ++ b_1)) 0 ((r_5).length) ((((r_3 ++ b_1)).take (((r_3 ++ b_1)).length)).drop (min ((r_3 ++ b_1)).length ((r_5).length - (irem r_1.End (lN (r_5))).toNat)))), o_1.2, w_i64 (r_1.End + (lN ((r_3 ++ b_1)))), w_i64 (r_1.First + o_1.1), w_i64 (r_1.Next + (1 : Int))⟩ : T_api_Ring).End)) (ac (rfl : (Ii (w_i64 (r_1.First + o_1.1)) : AV) = Ii ((⟨r_1.Policy, (cpy (cpy r_5 ((irem r_1.End (lN (r_5))).toNat) ((r_5).length) (r_3 ++ b_1)) 0 ((r_5).length) ((((r_3 ++ b_1)).take (((r_3 ++ b_1)).length)).drop (min ((r_3 ++ b_1)).length ((r_5).length - (irem r_1.End (lN (r_5))).toNat)))), o_1.2, w_i64 (r_1.End + (lN ((r_3 ++ b_1)))), w_i64 (r_1.First + o_1.1), w_i64 (r_1.Next + (1 : Int))⟩ : T_api_Ring).First)) (ac (rfl : (Ii (w_i64 (r_1.Next + (1 : Int))) : AV) = Ii ((⟨r_1.Policy, (cpy (cpy r_5 ((irem r_1.End (lN (r_5))).toNat) ((r_5).length) (r_3 ++ b_1)) 0 ((r_5).length) ((((r_3 ++ b_1)).take (((r_3 ++ b_1)).length)).drop (min ((r_3 ++ b_1)).length ((r_5).length - (irem r_1.End (lN (r_5))).toNat)))), o_1.2, w_i64 (r_1.End + (lN ((r_3 ++ b_1)))), w_i64 (r_1.First + o_1.1), w_i64 (r_1.Next + (1 : Int))⟩ : T_api_Ring).Next)) an))))))))))) ?_
 refine rt ?_
 cases h
 exact ⟨.inr rfl, Nat.le_of_ble_eq_true rfl, by kernel_rfl⟩

theorem ring_Check_ok (F : Nat) (r_1 : T_api_Ring) (r : Int) (h : ring_Check F r_1 = some r) : TripleG prog 11 [] [] [e_T_api_Ring r_1] [] (Ii r) := by
 refine triple_intro (fn := Go.Proofs.Try.f11) (code := codeOf Go.Proofs.Try.f11) (by kernel_rfl) (by kernel_rfl) (Nat.le_of_ble_eq_true (by kernel_rfl)) ?_
 unfold ring_Check at h
 refine sr [(0, { id := 0 })] [1] [0] 1 [Pp 0] [Vb 25 (v_T_api_Ring r_1)] hmix an ?_
 refine sq ?_
 obtain ⟨r_2, h_1, h⟩ := bind_some h
 refine rg [(1, { av := .tuple [.own 0 ((r_2.1).length), Ii r_2.2], ids := [1], l := [e_T_api_Ring r_1], post := [(.row 23 1 (List.map (fun l => AV.sl false 1 (l.map (AV.int .u8))) r_2.1))] })] [4] [] 2 [Ii r_2.2] [] hmix (ar ([e_T_api_Ring r_1] : List AV) (ac (rfl : ([] : List BoxSt) = []) (ac (ring_read_ok F r_1 r_2 h_1 : TripleG prog 26 [] [] [e_T_api_Ring r_1] [(.row 23 1 (List.map (fun l => AV.sl false 1 (l.map (AV.int .u8))) r_2.1))] (.tuple [.own 0 ((r_2.1).length), Ii r_2.2])) an))) ?_
 refine sr [] [2] [] 2 [Ii r_2.2] [] hmix an ?_
 refine rt ?_
 cases h
 exact ⟨.inr rfl, Nat.le_of_ble_eq_true rfl, by kernel_rfl⟩

theorem ring_Free_ok (F : Nat) (r_1 : T_api_Ring) (r : Int) (h : ring_Free F r_1 = some r) : TripleG prog 13 [] [] [e_T_api_Ring r_1] [] (Ii r) := by
 refine triple_intro (fn := Go.Proofs.Try.f13) (code := codeOf Go.Proofs.Try.f13) (by kernel_rfl) (by kernel_rfl) (Nat.le_of_ble_eq_true (by kernel_rfl)) ?_
 unfold ring_Free at h
 refine sr [(0, { id := 0 })] [1] [0] 1 [Pp 0] [Vb 25 (v_T_api_Ring r_1)] hmix an ?_
 refine sq ?_
 refine sq ?_
 obtain ⟨r_2, h_1, h⟩ := bind_some h
 refine rg [(1, { av := Ii r_2, l := [e_T_api_Ring r_1] })] [1, 5] [0] 1 [Pp 0, .bool (r_2 != (0 : Int))] [Vb 25 (v_T_api_Ring r_1)] hmix (ar ([e_T_api_Ring r_1] : List AV) (ac (rfl : ([] : List BoxSt) = []) (ac (ring_Check_ok F r_1 r_2 h_1 : TripleG prog 11 [] [] [e_T_api_Ring r_1] [] (Ii r_2)) an))) ?_
 refine cd 5 (r_2 != (0 : Int)) ?_ ?_
 ·intro g_1; replace h := cond_t g_1 h
  refine sr [] [2] [] 1 [Ii 0] [] hmix an ?_
  refine rt ?_
  cases h
  exact ⟨.inr rfl, Nat.le_of_ble_eq_true rfl, by kernel_rfl⟩
 intro g_1; replace h := cond_f g_1 h
 refine sk ?_
 refine sr [(2, { n := (r_1.Data).length })] [2] [] 1 [Ii (w_i64 ((lN (r_1.Data)) - (w_i64 (r_1.End - r_1.Start))))] [] hmix (ac (vc_len _ : ((Mb r_1.Data)).length = (r_1.Data).length) an) ?_
 refine rt ?_
 cases h
 exact ⟨.inr rfl, Nat.le_of_ble_eq_true rfl, by kernel_rfl⟩

theorem ring_Take_ok (F : Nat) (r_1 : T_api_Ring) (r : (List (List (Int))) × T_api_Ring) (h : ring_Take F r_1 = some r) : TripleG prog 16 [] [] [e_T_api_Ring r_1] [.row 23 1 (List.map (fun l => AV.sl false 1 (l.map (AV.int .u8))) r.1)] (.tuple [.own 0 ((r.1).length), e_T_api_Ring r.2]) := by
 refine triple_intro (fn := Go.Proofs.Try.f16) (code := codeOf Go.Proofs.Try.f16) (by kernel_rfl) (by kernel_rfl) (Nat.le_of_ble_eq_true (by kernel_rfl)) ?_
 unfold ring_Take at h
 refine sr [(0, { id := 0 }), (1, { id := 1, m := 1 }), (2, { id := 2 })] [1, 3] [0, 2] 3 [Pp 0, Pp 2] [Vb 25 (v_T_api_Ring r_1), Vb 25 [Ii 0, .nilsl, Ii 0, Ii 0, Ii 0, Ii 0]] hmix an ?_
 refine sq ?_
 obtain ⟨r_2, h_1, h⟩ := bind_some h
 refine rg [(1, { av := .tuple [.own 0 ((r_2.1).length), Ii r_2.2], ids := [3], l := [e_T_api_Ring r_1], post := [(.row 23 1 (List.map (fun l => AV.sl false 1 (l.map (AV.int .u8))) r_2.1))] })] [1, 3, 4, 5] [0, 2, 3] 4 [Pp 0, Pp 2, .own 3 ((r_2.1).length), Ii r_2.2] [Vb 25 (v_T_api_Ring r_1), Vb 25 [Ii 0, .nilsl, Ii 0, Ii 0, Ii 0, Ii 0], Rb 23 1 (List.map (fun l => AV.sl false 1 (l.map (AV.int .u8))) r_2.1)] hmix (ar ([e_T_api_Ring r_1] : List AV) (ac (rfl : ([] : List BoxSt) = []) (ac (ring_read_ok F r_1 r_2 h_1 : TripleG prog 26 [] [] [e_T_api_Ring r_1] [(.row 23 1 (List.map (fun l => AV.sl false 1 (l.map (AV.int .u8))) r_2.1))] (.tuple [.own 0 ((r_2.1).length), Ii r_2.2])) an))) ?_
 refine sq ?_
 refine sr [] [1, 3, 4, 12] [0, 2, 3] 4 [Pp 0, Pp 2, .own 3 ((r_2.1).length), .bool (r_2.2 != (0 : Int))] [Vb 25 (v_T_api_Ring r_1), Vb 25 [Ii 0, .nilsl, Ii 0, Ii 0, Ii 0, Ii 0], Rb 23 1 (List.map (fun l => AV.sl false 1 (l.map (AV.int .u8))) r_2.1)] hmix an ?_
 refine cd 12 (r_2.2 != (0 : Int)) ?_ ?_
 ·intro g_1; replace h := cond_t g_1 h
  refine sr [(1, { id := 4, m := 1 })] [2, 3] [2, 4] 5 [.own 4 0, Pp 2] [Vb 25 (v_T_api_Ring r_1), Rb 23 1 []] hmix an ?_
  refine wk [4, 2] [] [.a 2 (.own 0 ((([] : List (List (Int)))).length)), .s 3] [.s 0, .s 1] [(2, .own 0 ((([] : List (List (Int)))).length)), (3, Pp 1)] [(0, Rb 23 1 []), (1, Vb 25 (v_T_api_Ring r_1))] (ac (congrArg (AV.own _) (by first | (simp; done) | (simp; omega)) : (.own 4 0 : AV) = .own 4 ((([] : List (List (Int)))).length)) an) ?_
  refine rt ?_
  cases h
  exact ⟨.inr rfl, Nat.le_of_ble_eq_true rfl, by kernel_rfl⟩
 intro g_1; replace h := cond_f g_1 h
 refine sk ?_
 refine sr [] [1, 3, 4] [0, 2, 3] 4 [Pp 0, Pp 2, .own 3 ((r_2.1).length)] [Vb 25 [Ii r_1.Policy, .sl false 1 (Mb r_1.Data), Ii r_1.End, Ii r_1.End, Ii r_1.Next, Ii r_1.Next], Vb 25 [Ii 0, .nilsl, Ii 0, Ii 0, Ii 0, Ii 0], Rb 23 1 (List.map (fun l => AV.sl false 1 (l.map (AV.int .u8))) r_2.1)] hmix an ?_
 refine sr [] [2, 3] [2, 3] 4 [.own 3 ((r_2.1).length), Pp 2] [Vb 25 [Ii r_1.Policy, .sl false 1 (Mb r_1.Data), Ii r_1.End, Ii r_1.End, Ii r_1.Next, Ii r_1.Next], Rb 23 1 (List.map (fun l => AV.sl false 1 (l.map (AV.int .u8))) r_2.1)] hmix an ?_
 refine wk [3, 2] [] [.s 2, .s 3] [.s 0, .a 1 (Vb 25 (v_T_api_Ring (⟨r_1.Policy, r_1.Data, r_1.End, r_1.End, r_1.Next, r_1.Next⟩ : T_api_Ring)))] [(2, .own 0 ((r_2.1).length)), (3, Pp 1)] [(0, Rb 23 1 (List.map (fun l => AV.sl false 1 (l.map (AV.int .u8))) r_2.1)), (1, Vb 25 (v_T_api_Ring (⟨r_1.Policy, r_1.Data, r_1.End, r_1.End, r_1.Next, r_1.Next⟩ : T_api_Ring)))] (ar 25 (ac (rfl : ones [Ii ((⟨r_1.Policy, r_1.Data, r_1.End, r_1.End, r_1.Next, r_1.Next⟩ : T_api_Ring).Policy), .sl false 1 (Mb ((⟨r_1.Policy, r_1.Data, r_1.End, r_1.End, r_1.Next, r_1.Next⟩ : T_api_Ring).Data)), Ii ((⟨r_1.Policy, r_1.Data, r_1.End, r_1.End, r_1.Next, r_1.Next⟩ : T_api_Ring).Start), Ii ((⟨r_1.Policy, r_1.Data, r_1.End, r_1.End, r_1.Next, r_1.Next⟩ : T_api_Ring).End), Ii ((⟨r_1.Policy, r_1.Data, r_1.End, r_1.End, r_1.Next, r_1.Next⟩ : T_api_Ring).First), Ii ((⟨r_1.Policy, r_1.Data, r_1.End, r_1.End, r_1.Next, r_1.Next⟩ : T_api_Ring).Next)] = true) (ac (rfl : (Ii r_1.Policy : AV) = Ii ((⟨r_1.Policy, r_1.Data, r_1.End, r_1.End, r_1.Next, r_1.Next⟩ : T_api_Ring).Policy)) (ar 1 (ac (rfl : ((Mb r_1.Data) : List AV) = (Mb ((⟨r_1.Policy, r_1.Data, r_1.End, r_1.End, r_1.Next, r_1.Next⟩ : T_api_Ring).Data))) (ac (rfl : (!false || false) = true) (ac (rfl : (Ii r_1.End : AV) = Ii ((⟨r_1.Policy, r_1.Data, r_1.End, r_1.End, r_1.Next, r_1.Next⟩ : T_api_Ring).Start)) (ac (rfl : (Ii r_1.End : AV) = Ii ((⟨r_1.Policy, r_1.Data, r_1.End, r_1.End, r_1.Next, r_1.Next⟩ : T_api_Ring).End)) (ac (rfl : (Ii r_1.Next : AV) = Ii ((⟨r_1.Policy, r_1.Data, r_1.End, r_1.End, r_1.Next, r_1.Next⟩ : T_api_Ring).First)) (ac (rfl : (Ii r_1.Next : AV) = Ii ((⟨r_1.Policy, r_1.Data, r_1.End, r_1.End, r_1.Next, r_1.Next⟩ : T_api_Ring).Next)) an)))))))))) ?_
 refine rt ?_
 cases h
 exact ⟨.inr rfl, Nat.le_of_ble_eq_true rfl, by kernel_rfl⟩

theorem ring_Count_ok (F : Nat) (r_1 : T_api_Ring) (r : Int) (h : ring_Count F r_1 = some r) : TripleG prog 12 [] [] [e_T_api_Ring r_1] [] (Ii r) := by
 refine triple_intro (fn := Go.Proofs.Try.f12) (code := codeOf Go.Proofs.Try.f12) (by kernel_rfl) (by kernel_rfl) (Nat.le_of_ble_eq_true (by kernel_rfl)) ?_
 unfold ring_Count at h
 refine sr [(0, { id := 0 })] [1] [0] 1 [Pp 0] [Vb 25 (v_T_api_Ring r_1)] hmix an ?_
 refine sq ?_
 refine sq ?_
 obtain ⟨r_2, h_1, h⟩ := bind_some h
 refine rg [(1, { av := Ii r_2, l := [e_T_api_Ring r_1] })] [1, 5] [0] 1 [Pp 0, .bool (r_2 != (0 : Int))] [Vb 25 (v_T_api_Ring r_1)] hmix (ar ([e_T_api_Ring r_1] : List AV) (ac (rfl : ([] : List BoxSt) = []) (ac (ring_Check_ok F r_1 r_2 h_1 : TripleG prog 11 [] [] [e_T_api_Ring r_1] [] (Ii r_2)) an))) ?_
 refine cd 5 (r_2 != (0 : Int)) ?_ ?_
 ·intro g_1; replace h := cond_t g_1 h
  refine sr [] [2] [] 1 [Ii 0] [] hmix an ?_
  refine rt ?_
  cases h
  exact ⟨.inr rfl, Nat.le_of_ble_eq_true rfl, by kernel_rfl⟩
 intro g_1; replace h := cond_f g_1 h
 refine sk ?_
 refine sr [] [2] [] 1 [Ii (w_i64 (r_1.Next - r_1.First))] [] hmix an ?_
 refine rt ?_
 cases h
 exact ⟨.inr rfl, Nat.le_of_ble_eq_true rfl, by kernel_rfl⟩

theorem R09_Contents_ok (F : Nat) (r_1 : T_api_Ring) (r : (List (Int))) (h : R09_Contents F r_1 = some r) : TripleG prog 28 [] [] [e_T_api_Ring r_1] [.row 5 1 (Mb r)] (.own 0 ((r).length)) := by
 refine triple_intro (fn := Go.Proofs.Try.f28) (code := codeOf Go.Proofs.Try.f28) (by kernel_rfl) (by kernel_rfl) (Nat.le_of_ble_eq_true (by kernel_rfl)) ?_
 unfold R09_Contents at h
 refine sr [(0, { id := 0 }), (1, { id := 1, m := 1 })] [1] [0] 2 [Pp 0] [Vb 25 (v_T_api_Ring r_1)] hmix an ?_
 refine sr [(0, { id := 2, m := 1 })] [1, 3] [0, 2] 3 [Pp 0, .own 2 0] [Vb 25 (v_T_api_Ring r_1), Rb 5 1 []] hmix an ?_
 refine sq ?_
 refine sr [] [1, 3, 4] [0, 2] 3 [Pp 0, .own 2 0, Ii r_1.Start] [Vb 25 (v_T_api_Ring r_1), Rb 5 1 []] hmix an ?_
 obtain ⟨o_1, h_1, h⟩ := bind_some h
 refine aw_mid (mk [(3, .own 0 ((o_1).length))] [(0, Rb 5 1 (Mb o_1))] 1) ?_ ?_
 ·replace h := h_1
  refine aw_block (id := 0) (by kernel_rfl) ?_
  refine wk [0, 2] [] [.s 1, .s 3, .s 4] [.s 0, .s 1] [(1, Pp 0), (3, .own 1 0), (4, Ii r_1.Start)] [(0, Vb 25 (v_T_api_Ring r_1)), (1, Rb 5 1 [])] an ?_
  refine aw_loopF (fun n st => ∃ (p_1 : Int), ∃ (row_1 : List Int), st = mk [(1, Pp 0), (3, .own 1 ((row_1).length)), (4, Ii p_1)] [(0, Vb 25 (v_T_api_Ring r_1)), (1, Rb 5 1 (Mb row_1))] 2 ∧ R09_Contents_L1 F r_1 n p_1 row_1 = some o_1) F (by kernel_rfl) ⟨_, _, rfl, h⟩ ?_ ?_
  ·rintro _ ⟨_, _, _, h⟩; exact none_ne (h : (none : Option (List Int)) = some o_1)
  rintro n_1 _ ⟨p_1, row_1, rfl, h⟩
  replace h : R09_Contents_L1_body F r_1 (R09_Contents_L1 F r_1 n_1) p_1 row_1 = some o_1 := h
  unfold R09_Contents_L1_body at h
  refine sq ?_
  refine sr [] [1, 3, 4, 10] [0, 1] 2 [Pp 0, .own 1 ((row_1).length), Ii p_1, .bool (decide (p_1 < r_1.End))] [Vb 25 (v_T_api_Ring r_1), Rb 5 1 (Mb row_1)] hmix an ?_
  refine cd 10 (decide (p_1 < r_1.End)) ?_ ?_
  rotate_left
  ·intro g_1; replace h := cond_f g_1 h
   refine aw_exit (id := 0) (by kernel_rfl) ?_
   cases h
   exact ⟨rfl, (sw [1] [] [.s 3] [.s 0] an)⟩
  intro g_1; replace h := cond_t g_1 h
  refine sk ?_
  refine sq ?_
  refine aw_block (id := 1) (by kernel_rfl) ?_
  obtain ⟨_, h_2, h⟩ := bind_some h; replace h_2 := need_some h_2
  obtain ⟨x_1, h_3, h⟩ := bind_some h
  obtain ⟨_, h_4, h⟩ := bind_some h; replace h_4 := need_some h_4
  refine rg [(6, { n := (r_1.Data).length }), (8, { av := Iu x_1 }), (10, { id := 2 }), (11, { id := 3, l := (Mb (row_1 ++ ([x_1] : List Int))), n := ((row_1 ++ ([x_1] : List Int))).length })] [1, 3, 4] [0, 3] 4 [Pp 0, .own 3 (((row_1 ++ ([x_1] : List Int))).length), Ii p_1] [Vb 25 (v_T_api_Ring r_1), Rb 5 1 (Mb (row_1 ++ ([x_1] : List Int)))] hmix (ac (vc_len _ : ((Mb r_1.Data)).length = (r_1.Data).length) (ac h_2 (ac (vc_idx h_3 : idxA (Mb r_1.Data) (irem p_1 (lN (r_1.Data))) = some (Iu x_1)) (ac (by first | (simp; done) | (simp; omega) : (row_1).length = ((List.map (AV.int .u8) row_1)).length) (ac (by first | (simp; done) | (simp; omega) : 1 = ((List.map (AV.int .u8) ([x_1] : List Int))).length) (ac (vc_app _ _ : (Mb (row_1 ++ ([x_1] : List Int))) = (Mb row_1) ++ (Mb ([x_1] : List Int))) (ac (by simp : ((row_1 ++ ([x_1] : List Int))).length = ((List.map (AV.int .u8) (row_1 ++ ([x_1] : List Int)))).length) (ac (by first | (simp; done) | simpa using h_4 : (((List.map (AV.int .u8) row_1) : List AV).length + ((List.map (AV.int .u8) ([x_1] : List Int)) : List AV).length) * 1 ≤ 140737488355328) an)))))))) ?_
  refine rg [] [1, 3, 4] [0, 3] 4 [Pp 0, .own 3 (((row_1 ++ ([x_1] : List Int))).length), Ii (w_i64 (p_1 + (1 : Int)))] [Vb 25 (v_T_api_Ring r_1), Rb 5 1 (Mb (row_1 ++ ([x_1] : List Int)))] hmix an ?_
  exact ⟨_, (sw [0, 3] [] [.s 1, .s 3, .s 4] [.s 0, .s 1] an), _, _, rfl, h⟩
 refine sr [] [2] [0] 1 [.own 0 ((o_1).length)] [Rb 5 1 (Mb o_1)] hmix an ?_
 refine wk [0] [] [.s 2] [.s 0] [(2, .own 0 ((o_1).length))] [(0, Rb 5 1 (Mb o_1))] an ?_
 refine rt ?_
 cases h
 exact ⟨.inr rfl, Nat.le_of_ble_eq_true rfl, by kernel_rfl⟩

theorem R05_integer_ok (u_1 : Int) (r : Int) (h : R05_integer u_1 = some r) : TripleG prog 39 [] [] [.int .u64 u_1] [] (Ii r) := by
 refine triple_intro (fn := Go.Proofs.Try.f39) (code := codeOf Go.Proofs.Try.f39) (by kernel_rfl) (by kernel_rfl) (Nat.le_of_ble_eq_true (by kernel_rfl)) ?_
 unfold R05_integer at h
 refine sr [] [0] [] 0 [.int .u64 u_1] [] hmix an ?_
 refine sq ?_
 refine sr [] [0, 5] [] 0 [.int .u64 u_1, .bool ((irem u_1 (2 : Int)) == (1 : Int))] [] hmix (ac (by decide : (2 : Int) ≠ (0 : Int)) an) ?_
 refine cd 5 ((irem u_1 (2 : Int)) == (1 : Int)) ?_ ?_
 ·intro g_1; replace h := cond_t g_1 h
  refine sr [] [2] [] 0 [Ii (w_i64 ((w_i64 (0 - (w_i64 (iquo .u64 u_1 (2 : Int))))) - (1 : Int)))] [] hmix (ac (by decide : (2 : Int) ≠ (0 : Int)) an) ?_
  refine rt ?_
  cases h
  exact ⟨.inr rfl, Nat.le_of_ble_eq_true rfl, by kernel_rfl⟩
 intro g_1; replace h := cond_f g_1 h
 refine sk ?_
 refine sr [] [2] [] 0 [Ii (w_i64 (iquo .u64 u_1 (2 : Int)))] [] hmix (ac (by decide : (2 : Int) ≠ (0 : Int)) an) ?_
 refine rt ?_
 cases h
 exact ⟨.inr rfl, Nat.le_of_ble_eq_true rfl, by kernel_rfl⟩

theorem R05_Int_ok (F : Nat) (b_1 : List (Int)) (r : Int × Int × Int) (h : R05_Int F b_1 = some r) : TripleG prog 35 [] [] [.sl false 1 (Mb b_1)] [] (.tuple [Ii r.1, Ii r.2.1, Ii r.2.2]) := by
 refine triple_intro (fn := Go.Proofs.Try.f35) (code := codeOf Go.Proofs.Try.f35) (by kernel_rfl) (by kernel_rfl) (Nat.le_of_ble_eq_true (by kernel_rfl)) ?_
 unfold R05_Int at h
 refine sr [] [0] [] 0 [.sl false 1 (Mb b_1)] [] hmix an ?_
 refine sr [] [0, 5] [] 0 [.sl false 1 (Mb b_1), .int .u64 (0 : Int)] [] hmix an ?_
 refine sr [] [0, 5, 6] [] 0 [.sl false 1 (Mb b_1), .int .u64 (0 : Int), .int .u64 (1 : Int)] [] hmix an ?_
 refine sq ?_
 refine sr [] [0, 5, 6, 7] [] 0 [.sl false 1 (Mb b_1), .int .u64 (0 : Int), .int .u64 (1 : Int), Ii 0] [] hmix an ?_
 obtain ⟨o_1, h_1, h⟩ := bind_some h
 refine aw_conv (K1 := (fun e st' => match o_1 with | (.inl q0) => e = .normal ∧ Sub 0 st' (mk [] [] 0) | (.inr q1) => e = .ret ∧ FinR prog Go.Proofs.Try.f35 0 [] (.tuple [Ii q1.1, Ii q1.2.1, Ii q1.2.2]) st')) ?_ ?_
 ·replace h := h_1
  refine aw_block (id := 0) (by kernel_rfl) ?_
  refine wk [] [] [.s 0, .s 5, .s 6, .s 7] [] [(0, .sl false 1 (Mb b_1)), (5, .int .u64 (0 : Int)), (6, .int .u64 (1 : Int)), (7, Ii 0)] [] an ?_
  refine aw_loopF (fun n st => ∃ (u_1 : Int), ∃ (unit_1 : Int), ∃ (i_1 : Int), st = mk [(0, .sl false 1 (Mb b_1)), (5, .int .u64 u_1), (6, .int .u64 unit_1), (7, Ii i_1)] [] 0 ∧ R05_Int_L1 F b_1 n u_1 unit_1 i_1 = some o_1) F (by kernel_rfl) ⟨_, _, _, rfl, h⟩ ?_ ?_
  ·rintro _ ⟨_, _, _, _, h⟩; exact none_ne (h : (none : Option (Unit ⊕ (Int × Int × Int))) = some o_1)
  rintro n_1 _ ⟨u_1, unit_1, i_1, rfl, h⟩
  replace h : R05_Int_L1_body F b_1 (R05_Int_L1 F b_1 n_1) u_1 unit_1 i_1 = some o_1 := h
  unfold R05_Int_L1_body at h
  refine sq ?_
  refine sr [] [0, 5, 6, 7, 10] [] 0 [.sl false 1 (Mb b_1), .int .u64 u_1, .int .u64 unit_1, Ii i_1, .bool (decide (i_1 < (10 : Int)))] [] hmix an ?_
  refine cd 10 (decide (i_1 < (10 : Int))) ?_ ?_
  rotate_left
  ·intro g_1; replace h := cond_f g_1 h
   refine aw_exit (id := 0) (by kernel_rfl) ?_
   cases h
   exact ⟨rfl, (sw [] [] [] [] an)⟩
  intro g_1; replace h := cond_t g_1 h
  refine sk ?_
  refine sq ?_
  refine aw_block (id := 1) (by kernel_rfl) ?_
  refine sq ?_
  refine sr [(2, { n := (b_1).length })] [0, 5, 6, 7, 16] [] 0 [.sl false 1 (Mb b_1), .int .u64 u_1, .int .u64 unit_1, Ii i_1, .bool (decide (i_1 ≥ (lN (b_1))))] [] hmix (ac (vc_len _ : ((Mb b_1)).length = (b_1).length) an) ?_
  refine cd 16 (decide (i_1 ≥ (lN (b_1)))) ?_ ?_
  ·intro g_2; replace h := cond_t g_2 h
   refine sr [] [2, 3, 4] [] 0 [Ii 0, Ii 0, Ii 8] [] hmix an ?_
   refine rt ?_
   cases h
   exact ⟨rfl, Nat.le_of_ble_eq_true rfl, by kernel_rfl⟩
  intro g_2; replace h := cond_f g_2 h
  refine sk ?_
  refine sq ?_
  obtain ⟨x_1, h_2, h⟩ := bind_some h
  refine rg [(2, { av := Iu x_1 })] [0, 5, 6, 7, 8] [] 0 [.sl false 1 (Mb b_1), .int .u64 u_1, .int .u64 unit_1, Ii i_1, .int .u64 (w_u64 x_1)] [] hmix (ac (vc_idx h_2 : idxA (Mb b_1) i_1 = some (Iu x_1)) an) ?_
  refine sq ?_
  refine sq ?_
  refine aw_mid (mk [(0, .sl false 1 (Mb b_1)), (5, .int .u64 u_1), (6, .int .u64 unit_1), (7, Ii i_1), (8, .int .u64 (w_u64 x_1)), (27, .bool ((i_1 == (9 : Int)) && decide ((w_u64 x_1) > (1 : Int))))] [] 0) ?_ ?_
  ·rcases bft (i_1 == (9 : Int)) with gg_10 | gg_10
   ·refine rg [(5, Ht)] [0, 5, 6, 7, 8, 25, 26, 27] [] 0 [.sl false 1 (Mb b_1), .int .u64 u_1, .int .u64 unit_1, Ii i_1, .int .u64 (w_u64 x_1), .int .u64 (w_u64 x_1), .bool (decide ((w_u64 x_1) > (1 : Int))), .bool (decide ((w_u64 x_1) > (1 : Int)))] [] hmix (ac gg_10 (ac gg_10 (ac gg_10 an))) ?_
    exact ⟨rfl, (sw [] [] [.s 0, .s 5, .s 6, .s 7, .s 8, .a 27 (.bool ((i_1 == (9 : Int)) && decide ((w_u64 x_1) > (1 : Int))))] [] (ac (congrArg AV.bool (andt gg_10 rfl) : (.bool (decide ((w_u64 x_1) > (1 : Int))) : AV) = .bool ((i_1 == (9 : Int)) && decide ((w_u64 x_1) > (1 : Int)))) an))⟩
   ·refine rg [(3, Hg), (4, Hg), (5, Hf)] [0, 5, 6, 7, 8, 25, 26, 27] [] 0 [.sl false 1 (Mb b_1), .int .u64 u_1, .int .u64 unit_1, Ii i_1, .int .u64 (w_u64 x_1), .tuple [], .tuple [], .bool false] [] hmix (ac gg_10 (ac gg_10 (ac gg_10 an))) ?_
    exact ⟨rfl, (sw [] [] [.s 0, .s 5, .s 6, .s 7, .s 8, .a 27 (.bool ((i_1 == (9 : Int)) && decide ((w_u64 x_1) > (1 : Int))))] [] (ac (congrArg AV.bool (andf gg_10) : (.bool false : AV) = .bool ((i_1 == (9 : Int)) && decide ((w_u64 x_1) > (1 : Int)))) an))⟩
  refine cd 27 ((i_1 == (9 : Int)) && decide ((w_u64 x_1) > (1 : Int))) ?_ ?_
  ·intro g_3; replace h := cond_t g_3 h
   refine sr [] [2, 3, 4] [] 0 [Ii 0, Ii 0, Ii 10] [] hmix an ?_
   refine rt ?_
   cases h
   exact ⟨rfl, Nat.le_of_ble_eq_true rfl, by kernel_rfl⟩
  intro g_3; replace h := cond_f g_3 h
  refine sk ?_
  refine sr [] [0, 5, 6, 7, 8] [] 0 [.sl false 1 (Mb b_1), .int .u64 (w_u64 (u_1 + (w_u64 ((irem (w_u64 x_1) (128 : Int)) * unit_1)))), .int .u64 unit_1, Ii i_1, .int .u64 (w_u64 x_1)] [] hmix (ac (by decide : (128 : Int) ≠ (0 : Int)) an) ?_
  refine sr [] [0, 5, 6, 7, 8] [] 0 [.sl false 1 (Mb b_1), .int .u64 (w_u64 (u_1 + (w_u64 ((irem (w_u64 x_1) (128 : Int)) * unit_1)))), .int .u64 (w_u64 (unit_1 * (128 : Int))), Ii i_1, .int .u64 (w_u64 x_1)] [] hmix an ?_
  refine sq ?_
  refine sq ?_
  refine aw_mid (mk [(0, .sl false 1 (Mb b_1)), (5, .int .u64 (w_u64 (u_1 + (w_u64 ((irem (w_u64 x_1) (128 : Int)) * unit_1))))), (6, .int .u64 (w_u64 (unit_1 * (128 : Int)))), (7, Ii i_1), (8, .int .u64 (w_u64 x_1)), (45, .bool (decide ((w_u64 x_1) < (128 : Int)) && (((w_u64 x_1) == (0 : Int)) && decide (i_1 > (0 : Int)))))] [] 0) ?_ ?_
  ·rcases bft (decide ((w_u64 x_1) < (128 : Int))) with gg_11 | gg_11
   ·rcases bft ((w_u64 x_1) == (0 : Int)) with gg_12 | gg_12
    ·refine rg [(5, Ht), (9, Ht)] [0, 5, 6, 7, 8, 39, 40, 43, 44, 45] [] 0 [.sl false 1 (Mb b_1), .int .u64 (w_u64 (u_1 + (w_u64 ((irem (w_u64 x_1) (128 : Int)) * unit_1)))), .int .u64 (w_u64 (unit_1 * (128 : Int))), Ii i_1, .int .u64 (w_u64 x_1), .int .u64 (w_u64 x_1), .bool ((w_u64 x_1) == (0 : Int)), Ii i_1, .bool (decide (i_1 > (0 : Int))), .bool (decide (i_1 > (0 : Int)))] [] hmix (ac gg_11 (ac gg_11 (ac gg_11 (ac gg_12 (ac gg_12 (ac gg_12 an)))))) ?_
     exact ⟨rfl, (sw [] [] [.s 0, .s 5, .s 6, .s 7, .s 8, .a 45 (.bool (decide ((w_u64 x_1) < (128 : Int)) && (((w_u64 x_1) == (0 : Int)) && decide (i_1 > (0 : Int)))))] [] (ac (congrArg AV.bool (andt gg_11 (andt gg_12 rfl)) : (.bool (decide (i_1 > (0 : Int))) : AV) = .bool (decide ((w_u64 x_1) < (128 : Int)) && (((w_u64 x_1) == (0 : Int)) && decide (i_1 > (0 : Int))))) an))⟩
    ·refine rg [(5, Ht), (7, Hg), (8, Hg), (9, Hf)] [0, 5, 6, 7, 8, 39, 40, 43, 44, 45] [] 0 [.sl false 1 (Mb b_1), .int .u64 (w_u64 (u_1 + (w_u64 ((irem (w_u64 x_1) (128 : Int)) * unit_1)))), .int .u64 (w_u64 (unit_1 * (128 : Int))), Ii i_1, .int .u64 (w_u64 x_1), .int .u64 (w_u64 x_1), .bool ((w_u64 x_1) == (0 : Int)), .tuple [], .tuple [], .bool false] [] hmix (ac gg_11 (ac gg_11 (ac gg_11 (ac gg_12 (ac gg_12 (ac gg_12 an)))))) ?_
     exact ⟨rfl, (sw [] [] [.s 0, .s 5, .s 6, .s 7, .s 8, .a 45 (.bool (decide ((w_u64 x_1) < (128 : Int)) && (((w_u64 x_1) == (0 : Int)) && decide (i_1 > (0 : Int)))))] [] (ac (congrArg AV.bool (andt gg_11 (andf gg_12)) : (.bool false : AV) = .bool (decide ((w_u64 x_1) < (128 : Int)) && (((w_u64 x_1) == (0 : Int)) && decide (i_1 > (0 : Int))))) an))⟩
   ·refine rg [(3, Hg), (4, Hg), (5, Hf), (7, Hg), (8, Hg), (9, Hf)] [0, 5, 6, 7, 8, 39, 40, 43, 44, 45] [] 0 [.sl false 1 (Mb b_1), .int .u64 (w_u64 (u_1 + (w_u64 ((irem (w_u64 x_1) (128 : Int)) * unit_1)))), .int .u64 (w_u64 (unit_1 * (128 : Int))), Ii i_1, .int .u64 (w_u64 x_1), .tuple [], .tuple [], .tuple [], .tuple [], .bool false] [] hmix (ac gg_11 (ac gg_11 (ac gg_11 (ac (rfl : false = !true) (ac (rfl : false = !true) (ar false an)))))) ?_
    exact ⟨rfl, (sw [] [] [.s 0, .s 5, .s 6, .s 7, .s 8, .a 45 (.bool (decide ((w_u64 x_1) < (128 : Int)) && (((w_u64 x_1) == (0 : Int)) && decide (i_1 > (0 : Int)))))] [] (ac (congrArg AV.bool (andf gg_11) : (.bool false : AV) = .bool (decide ((w_u64 x_1) < (128 : Int)) && (((w_u64 x_1) == (0 : Int)) && decide (i_1 > (0 : Int))))) an))⟩
  refine cd 45 (decide ((w_u64 x_1) < (128 : Int)) && (((w_u64 x_1) == (0 : Int)) && decide (i_1 > (0 : Int)))) ?_ ?_
  ·intro g_4; replace h := cond_t g_4 h
   refine sr [] [2, 3, 4] [] 0 [Ii 0, Ii 0, Ii 10] [] hmix an ?_
   refine rt ?_
   cases h
   exact ⟨rfl, Nat.le_of_ble_eq_true rfl, by kernel_rfl⟩
  intro g_4; replace h := cond_f g_4 h
  refine sk ?_
  refine sr [] [0, 5, 6, 7, 47] [] 0 [.sl false 1 (Mb b_1), .int .u64 (w_u64 (u_1 + (w_u64 ((irem (w_u64 x_1) (128 : Int)) * unit_1)))), .int .u64 (w_u64 (unit_1 * (128 : Int))), Ii i_1, .bool (decide ((w_u64 x_1) < (128 : Int)))] [] hmix an ?_
  refine cd 47 (decide ((w_u64 x_1) < (128 : Int))) ?_ ?_
  rotate_left
  ·intro g_5; replace h := cond_f g_5 h
   refine sk ?_
   refine rg [] [0, 5, 6, 7] [] 0 [.sl false 1 (Mb b_1), .int .u64 (w_u64 (u_1 + (w_u64 ((irem (w_u64 x_1) (128 : Int)) * unit_1)))), .int .u64 (w_u64 (unit_1 * (128 : Int))), Ii (w_i64 (i_1 + (1 : Int)))] [] hmix an ?_
   exact ⟨_, (sw [] [] [.s 0, .s 5, .s 6, .s 7] [] an), _, _, _, rfl, h⟩
  intro g_5; replace h := cond_t g_5 h
  refine sq ?_
  obtain ⟨r_1, h_3, h⟩ := bind_some h
  refine rg [(1, { av := Ii r_1, l := [.int .u64 (w_u64 (u_1 + (w_u64 ((irem (w_u64 x_1) (128 : Int)) * unit_1))))] })] [2, 3, 4] [] 0 [Ii r_1, Ii (w_i64 (i_1 + (1 : Int))), Ii 0] [] hmix (ar ([.int .u64 (w_u64 (u_1 + (w_u64 ((irem (w_u64 x_1) (128 : Int)) * unit_1))))] : List AV) (ac (rfl : ([] : List BoxSt) = []) (ac (R05_integer_ok (w_u64 (u_1 + (w_u64 ((irem (w_u64 x_1) (128 : Int)) * unit_1)))) r_1 h_3 : TripleG prog 39 [] [] [.int .u64 (w_u64 (u_1 + (w_u64 ((irem (w_u64 x_1) (128 : Int)) * unit_1))))] [] (Ii r_1)) an))) ?_
  refine rt ?_
  cases h
  exact ⟨rfl, Nat.le_of_ble_eq_true rfl, by kernel_rfl⟩
 intro e st1 hk
 rcases o_1 with q_1 | q_2
 rotate_left
 ·obtain ⟨rfl, hf⟩ := hk
  cases h
  exact ⟨st1, Sub.refl _ _, .inr rfl, hf⟩
 obtain ⟨rfl, hs⟩ := hk
 refine ⟨_, hs, ?_⟩
 refine sr [] [2, 3, 4] [] 0 [Ii 0, Ii 0, Ii 10] [] hmix an ?_
 refine rt ?_
 cases h
 exact ⟨.inr rfl, Nat.le_of_ble_eq_true rfl, by kernel_rfl⟩

theorem R09_Records_ok (F : Nat) (b_1 : List (Int)) (r : (List (List (Int))) × Bool) (h : R09_Records F b_1 = some r) : TripleG prog 27 [] [] [.sl false 1 (Mb b_1)] [.row 23 1 (List.map (fun l => AV.sl false 1 (l.map (AV.int .u8))) r.1)] (.tuple [.own 0 ((r.1).length), .bool r.2]) := by
 refine triple_intro (fn := Go.Proofs.Try.f27) (code := codeOf Go.Proofs.Try.f27) (by kernel_rfl) (by kernel_rfl) (Nat.le_of_ble_eq_true (by kernel_rfl)) ?_
 unfold R09_Records at h
 refine sr [(0, { id := 0, m := 1 })] [0] [] 1 [.sl false 1 (Mb b_1)] [] hmix an ?_
 refine sr [(0, { id := 1, m := 1 })] [0, 4] [1] 2 [.sl false 1 (Mb b_1), .own 1 0] [Rb 23 1 []] hmix an ?_
 refine sq ?_
 obtain ⟨o_1, h_1, h⟩ := bind_some h
 refine aw_conv (K1 := (fun e st' => match o_1 with | (.inl q0) => e = .normal ∧ Sub 0 st' (mk [(4, .own 0 ((q0).length))] [(0, Rb 23 1 (List.map (fun l => AV.sl false 1 (l.map (AV.int .u8))) q0))] 1) | (.inr q1) => e = .ret ∧ FinR prog Go.Proofs.Try.f27 0 [.row 23 1 (List.map (fun l => AV.sl false 1 (l.map (AV.int .u8))) q1.1)] (.tuple [.own 0 ((q1.1).length), .bool q1.2]) st')) ?_ ?_
 ·replace h := h_1
  refine aw_block (id := 0) (by kernel_rfl) ?_
  refine wk [1] [] [.s 0, .s 4] [.s 0] [(0, .sl false 1 (Mb b_1)), (4, .own 0 0)] [(0, Rb 23 1 [])] an ?_
  refine aw_loopF (fun n st => ∃ (b_2 : List Int), ∃ (row_1 : List (List (Int))), st = mk [(0, .sl false 1 (Mb b_2)), (4, .own 0 ((row_1).length))] [(0, Rb 23 1 (List.map (fun l => AV.sl false 1 (l.map (AV.int .u8))) row_1))] 1 ∧ R09_Records_L1 F n b_2 row_1 = some o_1) F (by kernel_rfl) ⟨_, _, rfl, h⟩ ?_ ?_
  ·rintro _ ⟨_, _, _, h⟩; exact none_ne (h : (none : Option ((List (List (Int))) ⊕ ((List (List (Int))) × Bool))) = some o_1)
  rintro n_1 _ ⟨b_2, row_1, rfl, h⟩
  replace h : R09_Records_L1_body F (R09_Records_L1 F n_1) b_2 row_1 = some o_1 := h
  unfold R09_Records_L1_body at h
  refine sq ?_
  refine sr [(1, { n := (b_2).length })] [0, 4, 10] [0] 1 [.sl false 1 (Mb b_2), .own 0 ((row_1).length), .bool (decide ((lN (b_2)) > (0 : Int)))] [Rb 23 1 (List.map (fun l => AV.sl false 1 (l.map (AV.int .u8))) row_1)] hmix (ac (vc_len _ : ((Mb b_2)).length = (b_2).length) an) ?_
  refine cd 10 (decide ((lN (b_2)) > (0 : Int))) ?_ ?_
  rotate_left
  ·intro g_1; replace h := cond_f g_1 h
   refine aw_exit (id := 0) (by kernel_rfl) ?_
   cases h
   exact ⟨rfl, (sw [0] [] [.s 4] [.s 0] an)⟩
  intro g_1; replace h := cond_t g_1 h
  refine sk ?_
  refine aw_block (id := 1) (by kernel_rfl) ?_
  refine sq ?_
  obtain ⟨r_1, h_2, h⟩ := bind_some h
  refine rg [(1, { av := .tuple [Ii r_1.1, Ii r_1.2.1, Ii r_1.2.2], l := [.sl false 1 (Mb b_2)] })] [0, 4, 5, 6, 7] [0] 1 [.sl false 1 (Mb b_2), .own 0 ((row_1).length), Ii r_1.1, Ii r_1.2.1, Ii r_1.2.2] [Rb 23 1 (List.map (fun l => AV.sl false 1 (l.map (AV.int .u8))) row_1)] hmix (ar ([.sl false 1 (Mb b_2)] : List AV) (ac (rfl : ([] : List BoxSt) = []) (ac (R05_Int_ok F b_2 r_1 h_2 : TripleG prog 35 [] [] [.sl false 1 (Mb b_2)] [] (.tuple [Ii r_1.1, Ii r_1.2.1, Ii r_1.2.2])) an))) ?_
  refine sq ?_
  refine sq ?_
  refine aw_mid (mk [(0, .sl false 1 (Mb b_2)), (4, .own 0 ((row_1).length)), (5, Ii r_1.1), (6, Ii r_1.2.1), (34, .bool ((r_1.2.2 != (0 : Int)) || (decide (r_1.1 < (0 : Int)) || (decide (r_1.1 > (2000 : Int)) || decide (r_1.1 > (w_i64 ((lN (b_2)) - r_1.2.1)))))))] [(0, Rb 23 1 (List.map (fun l => AV.sl false 1 (l.map (AV.int .u8))) row_1))] 1) ?_ ?_
  ·rcases bft (r_1.2.2 != (0 : Int)) with gg_22 | gg_22
   ·refine rg [(3, Hg), (4, Hg), (5, Ht), (7, Hg), (8, Hg), (9, Ht), (11, Hg), (12, Hg), (13, Hg), (14, Hg), (15, Hg), (16, Hg), (17, Ht)] [0, 4, 5, 6, 20, 21, 24, 25, 28, 29, 30, 31, 32, 33, 34] [0] 1 [.sl false 1 (Mb b_2), .own 0 ((row_1).length), Ii r_1.1, Ii r_1.2.1, .tuple [], .tuple [], .tuple [], .tuple [], .tuple [], .tuple [], .tuple [], .tuple [], .tuple [], .tuple [], .bool true] [Rb 23 1 (List.map (fun l => AV.sl false 1 (l.map (AV.int .u8))) row_1)] hmix (ac gg_22 (ac gg_22 (ac gg_22 (ax (ax (ar true (ax (ax (ax (ax (ax (ax (ar true an))))))))))))) ?_
    exact ⟨rfl, (sw [0] [] [.s 0, .s 4, .s 5, .s 6, .a 34 (.bool ((r_1.2.2 != (0 : Int)) || (decide (r_1.1 < (0 : Int)) || (decide (r_1.1 > (2000 : Int)) || decide (r_1.1 > (w_i64 ((lN (b_2)) - r_1.2.1)))))))] [.s 0] (ac (congrArg AV.bool (ort gg_22) : (.bool true : AV) = .bool ((r_1.2.2 != (0 : Int)) || (decide (r_1.1 < (0 : Int)) || (decide (r_1.1 > (2000 : Int)) || decide (r_1.1 > (w_i64 ((lN (b_2)) - r_1.2.1))))))) an))⟩
   ·rcases bft (decide (r_1.1 < (0 : Int))) with gg_23 | gg_23
    ·refine rg [(5, Hf), (7, Hg), (8, Hg), (9, Ht), (11, Hg), (12, Hg), (13, Hg), (14, Hg), (15, Hg), (16, Hg), (17, Ht)] [0, 4, 5, 6, 20, 21, 24, 25, 28, 29, 30, 31, 32, 33, 34] [0] 1 [.sl false 1 (Mb b_2), .own 0 ((row_1).length), Ii r_1.1, Ii r_1.2.1, Ii r_1.1, .bool (decide (r_1.1 < (0 : Int))), .tuple [], .tuple [], .tuple [], .tuple [], .tuple [], .tuple [], .tuple [], .tuple [], .bool true] [Rb 23 1 (List.map (fun l => AV.sl false 1 (l.map (AV.int .u8))) row_1)] hmix (ac gg_22 (ac gg_22 (ac gg_22 (ac gg_23 (ac gg_23 (ac gg_23 (ax (ax (ax (ax (ax (ax (ar true an))))))))))))) ?_
     exact ⟨rfl, (sw [0] [] [.s 0, .s 4, .s 5, .s 6, .a 34 (.bool ((r_1.2.2 != (0 : Int)) || (decide (r_1.1 < (0 : Int)) || (decide (r_1.1 > (2000 : Int)) || decide (r_1.1 > (w_i64 ((lN (b_2)) - r_1.2.1)))))))] [.s 0] (ac (congrArg AV.bool (orf gg_22 (ort gg_23)) : (.bool true : AV) = .bool ((r_1.2.2 != (0 : Int)) || (decide (r_1.1 < (0 : Int)) || (decide (r_1.1 > (2000 : Int)) || decide (r_1.1 > (w_i64 ((lN (b_2)) - r_1.2.1))))))) an))⟩
    ·rcases bft (decide (r_1.1 > (2000 : Int))) with gg_24 | gg_24
     ·refine rg [(5, Hf), (9, Hf), (11, Hg), (12, Hg), (13, Hg), (14, Hg), (15, Hg), (16, Hg), (17, Ht)] [0, 4, 5, 6, 20, 21, 24, 25, 28, 29, 30, 31, 32, 33, 34] [0] 1 [.sl false 1 (Mb b_2), .own 0 ((row_1).length), Ii r_1.1, Ii r_1.2.1, Ii r_1.1, .bool (decide (r_1.1 < (0 : Int))), Ii r_1.1, .bool (decide (r_1.1 > (2000 : Int))), .tuple [], .tuple [], .tuple [], .tuple [], .tuple [], .tuple [], .bool true] [Rb 23 1 (List.map (fun l => AV.sl false 1 (l.map (AV.int .u8))) row_1)] hmix (ac gg_22 (ac gg_22 (ac gg_22 (ac gg_23 (ac gg_23 (ac gg_23 (ac gg_24 (ac gg_24 (ac gg_24 (ac gg_24 (ac gg_24 (ac gg_24 (ac gg_24 an))))))))))))) ?_
      exact ⟨rfl, (sw [0] [] [.s 0, .s 4, .s 5, .s 6, .a 34 (.bool ((r_1.2.2 != (0 : Int)) || (decide (r_1.1 < (0 : Int)) || (decide (r_1.1 > (2000 : Int)) || decide (r_1.1 > (w_i64 ((lN (b_2)) - r_1.2.1)))))))] [.s 0] (ac (congrArg AV.bool (orf gg_22 (orf gg_23 (ort gg_24))) : (.bool true : AV) = .bool ((r_1.2.2 != (0 : Int)) || (decide (r_1.1 < (0 : Int)) || (decide (r_1.1 > (2000 : Int)) || decide (r_1.1 > (w_i64 ((lN (b_2)) - r_1.2.1))))))) an))⟩
     ·refine rg [(5, Hf), (9, Hf), (13, { n := (b_2).length }), (17, Hf)] [0, 4, 5, 6, 20, 21, 24, 25, 28, 29, 30, 31, 32, 33, 34] [0] 1 [.sl false 1 (Mb b_2), .own 0 ((row_1).length), Ii r_1.1, Ii r_1.2.1, Ii r_1.1, .bool (decide (r_1.1 < (0 : Int))), Ii r_1.1, .bool (decide (r_1.1 > (2000 : Int))), Ii r_1.1, .sl false 1 (Mb b_2), Ii (lN (b_2)), Ii r_1.2.1, Ii (w_i64 ((lN (b_2)) - r_1.2.1)), .bool (decide (r_1.1 > (w_i64 ((lN (b_2)) - r_1.2.1)))), .bool (decide (r_1.1 > (w_i64 ((lN (b_2)) - r_1.2.1))))] [Rb 23 1 (List.map (fun l => AV.sl false 1 (l.map (AV.int .u8))) row_1)] hmix (ac gg_22 (ac gg_22 (ac gg_22 (ac gg_23 (ac gg_23 (ac gg_23 (ac gg_24 (ac gg_24 (ac gg_24 (ac (vc_len _ : ((Mb b_2)).length = (b_2).length) (ac gg_24 (ac gg_24 (ac gg_24 (ac gg_24 an)))))))))))))) ?_
      exact ⟨rfl, (sw [0] [] [.s 0, .s 4, .s 5, .s 6, .a 34 (.bool ((r_1.2.2 != (0 : Int)) || (decide (r_1.1 < (0 : Int)) || (decide (r_1.1 > (2000 : Int)) || decide (r_1.1 > (w_i64 ((lN (b_2)) - r_1.2.1)))))))] [.s 0] (ac (congrArg AV.bool (orf gg_22 (orf gg_23 (orf gg_24 rfl))) : (.bool (decide (r_1.1 > (w_i64 ((lN (b_2)) - r_1.2.1)))) : AV) = .bool ((r_1.2.2 != (0 : Int)) || (decide (r_1.1 < (0 : Int)) || (decide (r_1.1 > (2000 : Int)) || decide (r_1.1 > (w_i64 ((lN (b_2)) - r_1.2.1))))))) an))⟩
  refine cd 34 ((r_1.2.2 != (0 : Int)) || (decide (r_1.1 < (0 : Int)) || (decide (r_1.1 > (2000 : Int)) || decide (r_1.1 > (w_i64 ((lN (b_2)) - r_1.2.1)))))) ?_ ?_
  ·intro g_2; replace h := cond_t g_2 h
   refine sr [(0, { id := 1, m := 1 })] [2, 3] [1] 2 [.own 1 0, .bool false] [Rb 23 1 []] hmix an ?_
   refine wk [1] [] [.a 2 (.own 0 ((([] : List (List (Int)))).length)), .s 3] [.s 0] [(2, .own 0 ((([] : List (List (Int)))).length)), (3, .bool false)] [(0, Rb 23 1 [])] (ac (congrArg (AV.own _) (by first | (simp; done) | (simp; omega)) : (.own 1 0 : AV) = .own 1 ((([] : List (List (Int)))).length)) an) ?_
   refine rt ?_
   cases h
   exact ⟨rfl, Nat.le_of_ble_eq_true rfl, by kernel_rfl⟩
  intro g_2; replace h := cond_f g_2 h
  refine sk ?_
  refine sq ?_
  obtain ⟨_, h_3, h⟩ := bind_some h; replace h_3 := need_some h_3
  obtain ⟨_, h_4, h⟩ := bind_some h; replace h_4 := need_some h_4
  refine rg [(6, { l := (Mb (sub b_2 r_1.2.1 (w_i64 (r_1.2.1 + r_1.1)))) }), (7, { id := 1 }), (8, { id := 2, l := (List.map (fun l => AV.sl false 1 (l.map (AV.int .u8))) (row_1 ++ ([sub b_2 r_1.2.1 (w_i64 (r_1.2.1 + r_1.1))] : List (List (Int))))), n := ((row_1 ++ ([sub b_2 r_1.2.1 (w_i64 (r_1.2.1 + r_1.1))] : List (List (Int))))).length })] [0, 4, 5, 6] [2] 3 [.sl false 1 (Mb b_2), .own 2 (((row_1 ++ ([sub b_2 r_1.2.1 (w_i64 (r_1.2.1 + r_1.1))] : List (List (Int))))).length), Ii r_1.1, Ii r_1.2.1] [Rb 23 1 (List.map (fun l => AV.sl false 1 (l.map (AV.int .u8))) (row_1 ++ ([sub b_2 r_1.2.1 (w_i64 (r_1.2.1 + r_1.1))] : List (List (Int)))))] hmix (ac h_3.1 (ac h_3.2.1 (ac (vc_lenle h_3.2.2 : (w_i64 (r_1.2.1 + r_1.1)) ≤ (lN ((Mb b_2)))) (ac (vc_sub _ _ _ : (Mb (sub b_2 r_1.2.1 (w_i64 (r_1.2.1 + r_1.1)))) = (((Mb b_2)).take (w_i64 (r_1.2.1 + r_1.1)).toNat).drop (r_1.2.1).toNat) (ac (by first | (simp; done) | (simp; omega) : (row_1).length = ((List.map (fun l => AV.sl false 1 (l.map (AV.int .u8))) row_1)).length) (ac (by first | (simp; done) | (simp; omega) : 1 = ((List.map (fun l => AV.sl false 1 (l.map (AV.int .u8))) ([sub b_2 r_1.2.1 (w_i64 (r_1.2.1 + r_1.1))] : List (List (Int))))).length) (ac (vc_app _ _ : (List.map (fun l => AV.sl false 1 (l.map (AV.int .u8))) (row_1 ++ ([sub b_2 r_1.2.1 (w_i64 (r_1.2.1 + r_1.1))] : List (List (Int))))) = (List.map (fun l => AV.sl false 1 (l.map (AV.int .u8))) row_1) ++ (List.map (fun l => AV.sl false 1 (l.map (AV.int .u8))) ([sub b_2 r_1.2.1 (w_i64 (r_1.2.1 + r_1.1))] : List (List (Int))))) (ac (by simp : ((row_1 ++ ([sub b_2 r_1.2.1 (w_i64 (r_1.2.1 + r_1.1))] : List (List (Int))))).length = ((List.map (fun l => AV.sl false 1 (l.map (AV.int .u8))) (row_1 ++ ([sub b_2 r_1.2.1 (w_i64 (r_1.2.1 + r_1.1))] : List (List (Int)))))).length) (ac (by first | (simp; done) | simpa using h_4 : (((List.map (fun l => AV.sl false 1 (l.map (AV.int .u8))) row_1) : List AV).length + ((List.map (fun l => AV.sl false 1 (l.map (AV.int .u8))) ([sub b_2 r_1.2.1 (w_i64 (r_1.2.1 + r_1.1))] : List (List (Int)))) : List AV).length) * 24 ≤ 140737488355328) an))))))))) ?_
  obtain ⟨_, h_5, h⟩ := bind_some h; replace h_5 := need_some h_5
  refine rg [(4, { l := (Mb (sub b_2 (w_i64 (r_1.2.1 + r_1.1)) (lN (b_2)))) })] [0, 4] [2] 3 [.sl false 1 (Mb (sub b_2 (w_i64 (r_1.2.1 + r_1.1)) (lN (b_2)))), .own 2 (((row_1 ++ ([sub b_2 r_1.2.1 (w_i64 (r_1.2.1 + r_1.1))] : List (List (Int))))).length)] [Rb 23 1 (List.map (fun l => AV.sl false 1 (l.map (AV.int .u8))) (row_1 ++ ([sub b_2 r_1.2.1 (w_i64 (r_1.2.1 + r_1.1))] : List (List (Int)))))] hmix (ac h_5.1 (ac (vc_lenle h_5.2 : (w_i64 (r_1.2.1 + r_1.1)) ≤ (lN ((Mb b_2)))) (ac (Int.le_refl _ : (lN ((Mb b_2))) ≤ (lN ((Mb b_2)))) (ac (vc_subn _ _ : (Mb (sub b_2 (w_i64 (r_1.2.1 + r_1.1)) (lN (b_2)))) = (((Mb b_2)).take ((lN ((Mb b_2)))).toNat).drop (w_i64 (r_1.2.1 + r_1.1)).toNat) an)))) ?_
  exact ⟨_, (sw [2] [] [.s 0, .s 4] [.s 0] an), _, _, rfl, h⟩
 intro e st1 hk
 rcases o_1 with q_1 | q_2
 rotate_left
 ·obtain ⟨rfl, hf⟩ := hk
  cases h
  exact ⟨st1, Sub.refl _ _, .inr rfl, hf⟩
 obtain ⟨rfl, hs⟩ := hk
 refine ⟨_, hs, ?_⟩
 refine sr [] [2, 3] [0] 1 [.own 0 ((q_1).length), .bool true] [Rb 23 1 (List.map (fun l => AV.sl false 1 (l.map (AV.int .u8))) q_1)] hmix an ?_
 refine wk [0] [] [.s 2, .s 3] [.s 0] [(2, .own 0 ((q_1).length)), (3, .bool true)] [(0, Rb 23 1 (List.map (fun l => AV.sl false 1 (l.map (AV.int .u8))) q_1))] an ?_
 refine rt ?_
 cases h
 exact ⟨.inr rfl, Nat.le_of_ble_eq_true rfl, by kernel_rfl⟩

theorem R09_Check_ok (F : Nat) (r_1 : T_api_Ring) (r : Int) (h : R09_Check F r_1 = some r) : TripleG prog 18 [] [] [e_T_api_Ring r_1] [] (Ii r) := by
 refine triple_intro (fn := Go.Proofs.Try.f18) (code := codeOf Go.Proofs.Try.f18) (by kernel_rfl) (by kernel_rfl) (Nat.le_of_ble_eq_true (by kernel_rfl)) ?_
 unfold R09_Check at h
 refine sr [(0, { id := 0 })] [1] [0] 1 [Pp 0] [Vb 25 (v_T_api_Ring r_1)] hmix an ?_
 refine sq ?_
 refine sq ?_
 refine aw_mid (mk [(1, Pp 0), (13, .bool ((r_1.Policy != (1 : Int)) && (r_1.Policy != (2 : Int))))] [(0, Vb 25 (v_T_api_Ring r_1))] 1) ?_ ?_
 ·rcases bft (r_1.Policy != (1 : Int)) with gg_1 | gg_1
  ·refine rg [(7, Ht)] [1, 13] [0] 1 [Pp 0, .bool (r_1.Policy != (2 : Int))] [Vb 25 (v_T_api_Ring r_1)] hmix (ac gg_1 (ac gg_1 (ac gg_1 (ac gg_1 an)))) ?_
   exact ⟨rfl, (sw [0] [] [.s 1, .a 13 (.bool ((r_1.Policy != (1 : Int)) && (r_1.Policy != (2 : Int))))] [.s 0] (ac (congrArg AV.bool (andt gg_1 rfl) : (.bool (r_1.Policy != (2 : Int)) : AV) = .bool ((r_1.Policy != (1 : Int)) && (r_1.Policy != (2 : Int)))) an))⟩
  ·refine rg [(4, Hg), (5, Hg), (6, Hg), (7, Hf)] [1, 13] [0] 1 [Pp 0, .bool false] [Vb 25 (v_T_api_Ring r_1)] hmix (ac gg_1 (ac gg_1 (ac gg_1 (ac gg_1 an)))) ?_
   exact ⟨rfl, (sw [0] [] [.s 1, .a 13 (.bool ((r_1.Policy != (1 : Int)) && (r_1.Policy != (2 : Int))))] [.s 0] (ac (congrArg AV.bool (andf gg_1) : (.bool false : AV) = .bool ((r_1.Policy != (1 : Int)) && (r_1.Policy != (2 : Int)))) an))⟩
 refine cd 13 ((r_1.Policy != (1 : Int)) && (r_1.Policy != (2 : Int))) ?_ ?_
 ·intro g_1; replace h := cond_t g_1 h
  refine sr [] [2] [] 1 [Ii 1] [] hmix an ?_
  refine rt ?_
  cases h
  exact ⟨.inr rfl, Nat.le_of_ble_eq_true rfl, by kernel_rfl⟩
 intro g_1; replace h := cond_f g_1 h
 refine sk ?_
 refine sr [(2, { n := (r_1.Data).length })] [1, 3] [0] 1 [Pp 0, Ii (lN (r_1.Data))] [Vb 25 (v_T_api_Ring r_1)] hmix (ac (vc_len _ : ((Mb r_1.Data)).length = (r_1.Data).length) an) ?_
 refine sq ?_
 refine sq ?_
 refine aw_mid (mk [(1, Pp 0), (65, .bool (decide ((lN (r_1.Data)) < (16 : Int)) || (decide ((lN (r_1.Data)) > (65536 : Int)) || (decide (r_1.Start < (0 : Int)) || (decide (r_1.Start > r_1.End) || (decide (r_1.End > (1000000000000000 : Int)) || (decide ((w_i64 (r_1.End - r_1.Start)) > (lN (r_1.Data))) || (decide (r_1.First < (0 : Int)) || (decide (r_1.First > r_1.Next) || decide (r_1.Next > (1000000000000000 : Int)))))))))))] [(0, Vb 25 (v_T_api_Ring r_1))] 1) ?_ ?_
 ·rcases bft (decide ((lN (r_1.Data)) < (16 : Int))) with gg_2 | gg_2
  ·refine rg [(3, Hg), (4, Hg), (5, Ht), (7, Hg), (8, Hg), (9, Hg), (10, Ht), (12, Hg), (13, Hg), (14, Hg), (15, Hg), (16, Hg), (17, Ht), (19, Hg), (20, Hg), (21, Hg), (22, Ht), (24, Hg), (25, Hg), (26, Hg), (27, Hg), (28, Hg), (29, Hg), (30, Hg), (31, Ht), (33, Hg), (34, Hg), (35, Hg), (36, Ht), (38, Hg), (39, Hg), (40, Hg), (41, Hg), (42, Hg), (43, Ht), (45, Hg), (46, Hg), (47, Hg), (48, Ht)] [1, 65] [0] 1 [Pp 0, .bool true] [Vb 25 (v_T_api_Ring r_1)] hmix (ac gg_2 (ac gg_2 (ac gg_2 (ax (ax (ax (ar true (ax (ax (ax (ax (ax (ar true (ax (ax (ax (ar true (ax (ax (ax (ax (ax (ax (ax (ar true (ax (ax (ax (ar true (ax (ax (ax (ax (ax (ar true (ax (ax (ax (ar true an))))))))))))))))))))))))))))))))))))))) ?_
   exact ⟨rfl, (sw [0] [] [.s 1, .a 65 (.bool (decide ((lN (r_1.Data)) < (16 : Int)) || (decide ((lN (r_1.Data)) > (65536 : Int)) || (decide (r_1.Start < (0 : Int)) || (decide (r_1.Start > r_1.End) || (decide (r_1.End > (1000000000000000 : Int)) || (decide ((w_i64 (r_1.End - r_1.Start)) > (lN (r_1.Data))) || (decide (r_1.First < (0 : Int)) || (decide (r_1.First > r_1.Next) || decide (r_1.Next > (1000000000000000 : Int)))))))))))] [.s 0] (ac (congrArg AV.bool (ort gg_2) : (.bool true : AV) = .bool (decide ((lN (r_1.Data)) < (16 : Int)) || (decide ((lN (r_1.Data)) > (65536 : Int)) || (decide (r_1.Start < (0 : Int)) || (decide (r_1.Start > r_1.End) || (decide (r_1.End > (1000000000000000 : Int)) || (decide ((w_i64 (r_1.End - r_1.Start)) > (lN (r_1.Data))) || (decide (r_1.First < (0 : Int)) || (decide (r_1.First > r_1.Next) || decide (r_1.Next > (1000000000000000 : Int))))))))))) an))⟩
  ·rcases bft (decide ((lN (r_1.Data)) > (65536 : Int))) with gg_3 | gg_3
   ·refine rg [(5, Hf), (7, Hg), (8, Hg), (9, Hg), (10, Ht), (12, Hg), (13, Hg), (14, Hg), (15, Hg), (16, Hg), (17, Ht), (19, Hg), (20, Hg), (21, Hg), (22, Ht), (24, Hg), (25, Hg), (26, Hg), (27, Hg), (28, Hg), (29, Hg), (30, Hg), (31, Ht), (33, Hg), (34, Hg), (35, Hg), (36, Ht), (38, Hg), (39, Hg), (40, Hg), (41, Hg), (42, Hg), (43, Ht), (45, Hg), (46, Hg), (47, Hg), (48, Ht)] [1, 65] [0] 1 [Pp 0, .bool true] [Vb 25 (v_T_api_Ring r_1)] hmix (ac gg_2 (ac gg_2 (ac gg_2 (ac gg_3 (ac gg_3 (ac gg_3 (ac gg_3 (ax (ax (ax (ax (ax (ar true (ax (ax (ax (ar true (ax (ax (ax (ax (ax (ax (ax (ar true (ax (ax (ax (ar true (ax (ax (ax (ax (ax (ar true (ax (ax (ax (ar true an))))))))))))))))))))))))))))))))))))))) ?_
    exact ⟨rfl, (sw [0] [] [.s 1, .a 65 (.bool (decide ((lN (r_1.Data)) < (16 : Int)) || (decide ((lN (r_1.Data)) > (65536 : Int)) || (decide (r_1.Start < (0 : Int)) || (decide (r_1.Start > r_1.End) || (decide (r_1.End > (1000000000000000 : Int)) || (decide ((w_i64 (r_1.End - r_1.Start)) > (lN (r_1.Data))) || (decide (r_1.First < (0 : Int)) || (decide (r_1.First > r_1.Next) || decide (r_1.Next > (1000000000000000 : Int)))))))))))] [.s 0] (ac (congrArg AV.bool (orf gg_2 (ort gg_3)) : (.bool true : AV) = .bool (decide ((lN (r_1.Data)) < (16 : Int)) || (decide ((lN (r_1.Data)) > (65536 : Int)) || (decide (r_1.Start < (0 : Int)) || (decide (r_1.Start > r_1.End) || (decide (r_1.End > (1000000000000000 : Int)) || (decide ((w_i64 (r_1.End - r_1.Start)) > (lN (r_1.Data))) || (decide (r_1.First < (0 : Int)) || (decide (r_1.First > r_1.Next) || decide (r_1.Next > (1000000000000000 : Int))))))))))) an))⟩
   ·rcases bft (decide (r_1.Start < (0 : Int))) with gg_4 | gg_4
    ·refine rg [(5, Hf), (10, Hf), (12, Hg), (13, Hg), (14, Hg), (15, Hg), (16, Hg), (17, Ht), (19, Hg), (20, Hg), (21, Hg), (22, Ht), (24, Hg), (25, Hg), (26, Hg), (27, Hg), (28, Hg), (29, Hg), (30, Hg), (31, Ht), (33, Hg), (34, Hg), (35, Hg), (36, Ht), (38, Hg), (39, Hg), (40, Hg), (41, Hg), (42, Hg), (43, Ht), (45, Hg), (46, Hg), (47, Hg), (48, Ht)] [1, 65] [0] 1 [Pp 0, .bool true] [Vb 25 (v_T_api_Ring r_1)] hmix (ac gg_2 (ac gg_2 (ac gg_2 (ac gg_3 (ac gg_3 (ac gg_3 (ac gg_3 (ac gg_4 (ac gg_4 (ac gg_4 (ac gg_4 (ac gg_4 (ac gg_4 (ax (ax (ax (ar true (ax (ax (ax (ax (ax (ax (ax (ar true (ax (ax (ax (ar true (ax (ax (ax (ax (ax (ar true (ax (ax (ax (ar true an))))))))))))))))))))))))))))))))))))))) ?_
     exact ⟨rfl, (sw [0] [] [.s 1, .a 65 (.bool (decide ((lN (r_1.Data)) < (16 : Int)) || (decide ((lN (r_1.Data)) > (65536 : Int)) || (decide (r_1.Start < (0 : Int)) || (decide (r_1.Start > r_1.End) || (decide (r_1.End > (1000000000000000 : Int)) || (decide ((w_i64 (r_1.End - r_1.Start)) > (lN (r_1.Data))) || (decide (r_1.First < (0 : Int)) || (decide (r_1.First > r_1.Next) || decide (r_1.Next > (1000000000000000 : Int)))))))))))] [.s 0] (ac (congrArg AV.bool (orf gg_2 (orf gg_3 (ort gg_4))) : (.bool true : AV) = .bool (decide ((lN (r_1.Data)) < (16 : Int)) || (decide ((lN (r_1.Data)) > (65536 : Int)) || (decide (r_1.Start < (0 : Int)) || (decide (r_1.Start > r_1.End) || (decide (r_1.End > (1000000000000000 : Int)) || (decide ((w_i64 (r_1.End - r_1.Start)) > (lN (r_1.Data))) || (decide (r_1.First < (0 : Int)) || (decide (r_1.First > r_1.Next) || decide (r_1.Next > (1000000000000000 : Int))))))))))) an))⟩
    ·rcases bft (decide (r_1.Start > r_1.End)) with gg_5 | gg_5
     ·refine rg [(5, Hf), (10, Hf), (17, Hf), (19, Hg), (20, Hg), (21, Hg), (22, Ht), (24, Hg), (25, Hg), (26, Hg), (27, Hg), (28, Hg), (29, Hg), (30, Hg), (31, Ht), (33, Hg), (34, Hg), (35, Hg), (36, Ht), (38, Hg), (39, Hg), (40, Hg), (41, Hg), (42, Hg), (43, Ht), (45, Hg), (46, Hg), (47, Hg), (48, Ht)] [1, 65] [0] 1 [Pp 0, .bool true] [Vb 25 (v_T_api_Ring r_1)] hmix (ac gg_2 (ac gg_2 (ac gg_2 (ac gg_3 (ac gg_3 (ac gg_3 (ac gg_3 (ac gg_4 (ac gg_4 (ac gg_4 (ac gg_4 (ac gg_4 (ac gg_4 (ac gg_5 (ac gg_5 (ac gg_5 (ac gg_5 (ax (ax (ax (ax (ax (ax (ax (ar true (ax (ax (ax (ar true (ax (ax (ax (ax (ax (ar true (ax (ax (ax (ar true an))))))))))))))))))))))))))))))))))))))) ?_
      exact ⟨rfl, (sw [0] [] [.s 1, .a 65 (.bool (decide ((lN (r_1.Data)) < (16 : Int)) || (decide ((lN (r_1.Data)) > (65536 : Int)) || (decide (r_1.Start < (0 : Int)) || (decide (r_1.Start > r_1.End) || (decide (r_1.End > (1000000000000000 : Int)) || (decide ((w_i64 (r_1.End - r_1.Start)) > (lN (r_1.Data))) || (decide (r_1.First < (0 : Int)) || (decide (r_1.First > r_1.Next) || decide (r_1.Next > (1000000000000000 : Int)))))))))))] [.s 0] (ac (congrArg AV.bool (orf gg_2 (orf gg_3 (orf gg_4 (ort gg_5)))) : (.bool true : AV) = .bool (decide ((lN (r_1.Data)) < (16 : Int)) || (decide ((lN (r_1.Data)) > (65536 : Int)) || (decide (r_1.Start < (0 : Int)) || (decide (r_1.Start > r_1.End) || (decide (r_1.End > (1000000000000000 : Int)) || (decide ((w_i64 (r_1.End - r_1.Start)) > (lN (r_1.Data))) || (decide (r_1.First < (0 : Int)) || (decide (r_1.First > r_1.Next) || decide (r_1.Next > (1000000000000000 : Int))))))))))) an))⟩
     ·rcases bft (decide (r_1.End > (1000000000000000 : Int))) with gg_6 | gg_6
      ·refine rg [(5, Hf), (10, Hf), (17, Hf), (22, Hf), (24, Hg), (25, Hg), (26, Hg), (27, Hg), (28, Hg), (29, Hg), (30, Hg), (31, Ht), (33, Hg), (34, Hg), (35, Hg), (36, Ht), (38, Hg), (39, Hg), (40, Hg), (41, Hg), (42, Hg), (43, Ht), (45, Hg), (46, Hg), (47, Hg), (48, Ht)] [1, 65] [0] 1 [Pp 0, .bool true] [Vb 25 (v_T_api_Ring r_1)] hmix (ac gg_2 (ac gg_2 (ac gg_2 (ac gg_3 (ac gg_3 (ac gg_3 (ac gg_3 (ac gg_4 (ac gg_4 (ac gg_4 (ac gg_4 (ac gg_4 (ac gg_4 (ac gg_5 (ac gg_5 (ac gg_5 (ac gg_5 (ac gg_6 (ac gg_6 (ac gg_6 (ac gg_6 (ac gg_6 (ac gg_6 (ac gg_6 (ac gg_6 (ax (ax (ax (ar true (ax (ax (ax (ax (ax (ar true (ax (ax (ax (ar true an))))))))))))))))))))))))))))))))))))))) ?_
       exact ⟨rfl, (sw [0] [] [.s 1, .a 65 (.bool (decide ((lN (r_1.Data)) < (16 : Int)) || (decide ((lN (r_1.Data)) > (65536 : Int)) || (decide (r_1.Start < (0 : Int)) || (decide (r_1.Start > r_1.End) || (decide (r_1.End > (1000000000000000 : Int)) || (decide ((w_i64 (r_1.End - r_1.Start)) > (lN (r_1.Data))) || (decide (r_1.First < (0 : Int)) || (decide (r_1.First > r_1.Next) || decide (r_1.Next > (1000000000000000 : Int)))))))))))] [.s 0] (ac (congrArg AV.bool (orf gg_2 (orf gg_3 (orf gg_4 (orf gg_5 (ort gg_6))))) : (.bool true : AV) = .bool (decide ((lN (r_1.Data)) < (16 : Int)) || (decide ((lN (r_1.Data)) > (65536 : Int)) || (decide (r_1.Start < (0 : Int)) || (decide (r_1.Start > r_1.End) || (decide (r_1.End > (1000000000000000 : Int)) || (decide ((w_i64 (r_1.End - r_1.Start)) > (lN (r_1.Data))) || (decide (r_1.First < (0 : Int)) || (decide (r_1.First > r_1.Next) || decide (r_1.Next > (1000000000000000 : Int))))))))))) an))⟩
      ·rcases bft (decide ((w_i64 (r_1.End - r_1.Start)) > (lN (r_1.Data)))) with gg_7 | gg_7
       ·refine rg [(5, Hf), (10, Hf), (17, Hf), (22, Hf), (31, Hf), (33, Hg), (34, Hg), (35, Hg), (36, Ht), (38, Hg), (39, Hg), (40, Hg), (41, Hg), (42, Hg), (43, Ht), (45, Hg), (46, Hg), (47, Hg), (48, Ht)] [1, 65] [0] 1 [Pp 0, .bool true] [Vb 25 (v_T_api_Ring r_1)] hmix (ac gg_2 (ac gg_2 (ac gg_2 (ac gg_3 (ac gg_3 (ac gg_3 (ac gg_3 (ac gg_4 (ac gg_4 (ac gg_4 (ac gg_4 (ac gg_4 (ac gg_4 (ac gg_5 (ac gg_5 (ac gg_5 (ac gg_5 (ac gg_6 (ac gg_6 (ac gg_6 (ac gg_6 (ac gg_6 (ac gg_6 (ac gg_6 (ac gg_6 (ac gg_7 (ac gg_7 (ac gg_7 (ac gg_7 (ax (ax (ax (ax (ax (ar true (ax (ax (ax (ar true an))))))))))))))))))))))))))))))))))))))) ?_
        exact ⟨rfl, (sw [0] [] [.s 1, .a 65 (.bool (decide ((lN (r_1.Data)) < (16 : Int)) || (decide ((lN (r_1.Data)) > (65536 : Int)) || (decide (r_1.Start < (0 : Int)) || (decide (r_1.Start > r_1.End) || (decide (r_1.End > (1000000000000000 : Int)) || (decide ((w_i64 (r_1.End - r_1.Start)) > (lN (r_1.Data))) || (decide (r_1.First < (0 : Int)) || (decide (r_1.First > r_1.Next) || decide (r_1.Next > (1000000000000000 : Int)))))))))))] [.s 0] (ac (congrArg AV.bool (orf gg_2 (orf gg_3 (orf gg_4 (orf gg_5 (orf gg_6 (ort gg_7)))))) : (.bool true : AV) = .bool (decide ((lN (r_1.Data)) < (16 : Int)) || (decide ((lN (r_1.Data)) > (65536 : Int)) || (decide (r_1.Start < (0 : Int)) || (decide (r_1.Start > r_1.End) || (decide (r_1.End > (1000000000000000 : Int)) || (decide ((w_i64 (r_1.End - r_1.Start)) > (lN (r_1.Data))) || (decide (r_1.First < (0 : Int)) || (decide (r_1.First > r_1.Next) || decide (r_1.Next > (1000000000000000 : Int))))))))))) an))⟩
       ·rcases bft (decide (r_1.First < (0 : Int))) with gg_8 | gg_8
        ·refine rg [(5, Hf), (10, Hf), (17, Hf), (22, Hf), (31, Hf), (36, Hf), (38, Hg), (39, Hg), (40, Hg), (41, Hg), (42, Hg), (43, Ht), (45, Hg), (46, Hg), (47, Hg), (48, Ht)] [1, 65] [0] 1 [Pp 0, .bool true] [Vb 25 (v_T_api_Ring r_1)] hmix (ac gg_2 (ac gg_2 (ac gg_2 (ac gg_3 (ac gg_3 (ac gg_3 (ac gg_3 (ac gg_4 (ac gg_4 (ac gg_4 (ac gg_4 (ac gg_4 (ac gg_4 (ac gg_5 (ac gg_5 (ac gg_5 (ac gg_5 (ac gg_6 (ac gg_6 (ac gg_6 (ac gg_6 (ac gg_6 (ac gg_6 (ac gg_6 (ac gg_6 (ac gg_7 (ac gg_7 (ac gg_7 (ac gg_7 (ac gg_8 (ac gg_8 (ac gg_8 (ac gg_8 (ac gg_8 (ac gg_8 (ax (ax (ax (ar true an))))))))))))))))))))))))))))))))))))))) ?_
         exact ⟨rfl, (sw [0] [] [.s 1, .a 65 (.bool (decide ((lN (r_1.Data)) < (16 : Int)) || (decide ((lN (r_1.Data)) > (65536 : Int)) || (decide (r_1.Start < (0 : Int)) || (decide (r_1.Start > r_1.End) || (decide (r_1.End > (1000000000000000 : Int)) || (decide ((w_i64 (r_1.End - r_1.Start)) > (lN (r_1.Data))) || (decide (r_1.First < (0 : Int)) || (decide (r_1.First > r_1.Next) || decide (r_1.Next > (1000000000000000 : Int)))))))))))] [.s 0] (ac (congrArg AV.bool (orf gg_2 (orf gg_3 (orf gg_4 (orf gg_5 (orf gg_6 (orf gg_7 (ort gg_8))))))) : (.bool true : AV) = .bool (decide ((lN (r_1.Data)) < (16 : Int)) || (decide ((lN (r_1.Data)) > (65536 : Int)) || (decide (r_1.Start < (0 : Int)) || (decide (r_1.Start > r_1.End) || (decide (r_1.End > (1000000000000000 : Int)) || (decide ((w_i64 (r_1.End - r_1.Start)) > (lN (r_1.Data))) || (decide (r_1.First < (0 : Int)) || (decide (r_1.First > r_1.Next) || decide (r_1.Next > (1000000000000000 : Int))))))))))) an))⟩
        ·rcases bft (decide (r_1.First > r_1.Next)) with gg_9 | gg_9
         ·refine rg [(5, Hf), (10, Hf), (17, Hf), (22, Hf), (31, Hf), (36, Hf), (43, Hf), (45, Hg), (46, Hg), (47, Hg), (48, Ht)] [1, 65] [0] 1 [Pp 0, .bool true] [Vb 25 (v_T_api_Ring r_1)] hmix (ac gg_2 (ac gg_2 (ac gg_2 (ac gg_3 (ac gg_3 (ac gg_3 (ac gg_3 (ac gg_4 (ac gg_4 (ac gg_4 (ac gg_4 (ac gg_4 (ac gg_4 (ac gg_5 (ac gg_5 (ac gg_5 (ac gg_5 (ac gg_6 (ac gg_6 (ac gg_6 (ac gg_6 (ac gg_6 (ac gg_6 (ac gg_6 (ac gg_6 (ac gg_7 (ac gg_7 (ac gg_7 (ac gg_7 (ac gg_8 (ac gg_8 (ac gg_8 (ac gg_8 (ac gg_8 (ac gg_8 (ac gg_9 (ac gg_9 (ac gg_9 (ac gg_9 an))))))))))))))))))))))))))))))))))))))) ?_
          exact ⟨rfl, (sw [0] [] [.s 1, .a 65 (.bool (decide ((lN (r_1.Data)) < (16 : Int)) || (decide ((lN (r_1.Data)) > (65536 : Int)) || (decide (r_1.Start < (0 : Int)) || (decide (r_1.Start > r_1.End) || (decide (r_1.End > (1000000000000000 : Int)) || (decide ((w_i64 (r_1.End - r_1.Start)) > (lN (r_1.Data))) || (decide (r_1.First < (0 : Int)) || (decide (r_1.First > r_1.Next) || decide (r_1.Next > (1000000000000000 : Int)))))))))))] [.s 0] (ac (congrArg AV.bool (orf gg_2 (orf gg_3 (orf gg_4 (orf gg_5 (orf gg_6 (orf gg_7 (orf gg_8 (ort gg_9)))))))) : (.bool true : AV) = .bool (decide ((lN (r_1.Data)) < (16 : Int)) || (decide ((lN (r_1.Data)) > (65536 : Int)) || (decide (r_1.Start < (0 : Int)) || (decide (r_1.Start > r_1.End) || (decide (r_1.End > (1000000000000000 : Int)) || (decide ((w_i64 (r_1.End - r_1.Start)) > (lN (r_1.Data))) || (decide (r_1.First < (0 : Int)) || (decide (r_1.First > r_1.Next) || decide (r_1.Next > (1000000000000000 : Int))))))))))) an))⟩
         ·refine rg [(5, Hf), (10, Hf), (17, Hf), (22, Hf), (31, Hf), (36, Hf), (43, Hf), (48, Hf)] [1, 65] [0] 1 [Pp 0, .bool (decide (r_1.Next > (1000000000000000 : Int)))] [Vb 25 (v_T_api_Ring r_1)] hmix (ac gg_2 (ac gg_2 (ac gg_2 (ac gg_3 (ac gg_3 (ac gg_3 (ac gg_3 (ac gg_4 (ac gg_4 (ac gg_4 (ac gg_4 (ac gg_4 (ac gg_4 (ac gg_5 (ac gg_5 (ac gg_5 (ac gg_5 (ac gg_6 (ac gg_6 (ac gg_6 (ac gg_6 (ac gg_6 (ac gg_6 (ac gg_6 (ac gg_6 (ac gg_7 (ac gg_7 (ac gg_7 (ac gg_7 (ac gg_8 (ac gg_8 (ac gg_8 (ac gg_8 (ac gg_8 (ac gg_8 (ac gg_9 (ac gg_9 (ac gg_9 (ac gg_9 an))))))))))))))))))))))))))))))))))))))) ?_
          exact ⟨rfl, (sw [0] [] [.s 1, .a 65 (.bool (decide ((lN (r_1.Data)) < (16 : Int)) || (decide ((lN (r_1.Data)) > (65536 : Int)) || (decide (r_1.Start < (0 : Int)) || (decide (r_1.Start > r_1.End) || (decide (r_1.End > (1000000000000000 : Int)) || (decide ((w_i64 (r_1.End - r_1.Start)) > (lN (r_1.Data))) || (decide (r_1.First < (0 : Int)) || (decide (r_1.First > r_1.Next) || decide (r_1.Next > (1000000000000000 : Int)))))))))))] [.s 0] (ac (congrArg AV.bool (orf gg_2 (orf gg_3 (orf gg_4 (orf gg_5 (orf gg_6 (orf gg_7 (orf gg_8 (orf gg_9 rfl)))))))) : (.bool (decide (r_1.Next > (1000000000000000 : Int))) : AV) = .bool (decide ((lN (r_1.Data)) < (16 : Int)) || (decide ((lN (r_1.Data)) > (65536 : Int)) || (decide (r_1.Start < (0 : Int)) || (decide (r_1.Start > r_1.End) || (decide (r_1.End > (1000000000000000 : Int)) || (decide ((w_i64 (r_1.End - r_1.Start)) > (lN (r_1.Data))) || (decide (r_1.First < (0 : Int)) || (decide (r_1.First > r_1.Next) || decide (r_1.Next > (1000000000000000 : Int))))))))))) an))⟩
 refine cd 65 (decide ((lN (r_1.Data)) < (16 : Int)) || (decide ((lN (r_1.Data)) > (65536 : Int)) || (decide (r_1.Start < (0 : Int)) || (decide (r_1.Start > r_1.End) || (decide (r_1.End > (1000000000000000 : Int)) || (decide ((w_i64 (r_1.End - r_1.Start)) > (lN (r_1.Data))) || (decide (r_1.First < (0 : Int)) || (decide (r_1.First > r_1.Next) || decide (r_1.Next > (1000000000000000 : Int)))))))))) ?_ ?_
 ·intro g_2; replace h := cond_t g_2 h
  refine sr [] [2] [] 1 [Ii 2] [] hmix an ?_
  refine rt ?_
  cases h
  exact ⟨.inr rfl, Nat.le_of_ble_eq_true rfl, by kernel_rfl⟩
 intro g_2; replace h := cond_f g_2 h
 refine sk ?_
 refine sq ?_
 obtain ⟨r_2, h_1, h⟩ := bind_some h
 obtain ⟨r_3, h_2, h⟩ := bind_some h
 refine rg [(1, { av := .own 0 ((r_2).length), ids := [1], l := [e_T_api_Ring r_1], post := [(.row 5 1 (Mb r_2))] }), (2, { av := .tuple [.own 0 ((r_3.1).length), .bool r_3.2], frz := [1], ids := [2], l := [.sl false 1 (Mb r_2)], post := [(.row 23 1 (List.map (fun l => AV.sl false 1 (l.map (AV.int .u8))) r_3.1))] })] [1, 4, 5] [0, 2] 3 [Pp 0, .own 2 ((r_3.1).length), .bool r_3.2] [Vb 25 (v_T_api_Ring r_1), Rb 23 1 (List.map (fun l => AV.sl false 1 (l.map (AV.int .u8))) r_3.1)] hmix (ar ([e_T_api_Ring r_1] : List AV) (ac (rfl : ([] : List BoxSt) = []) (ac (R09_Contents_ok F r_1 r_2 h_1 : TripleG prog 28 [] [] [e_T_api_Ring r_1] [(.row 5 1 (Mb r_2))] (.own 0 ((r_2).length))) (ac (by first | (simp; done) | (simp; omega) : (r_2).length = ((List.map (AV.int .u8) r_2)).length) (ar ([.sl false 1 (Mb r_2)] : List AV) (ac (rfl : ([] : List BoxSt) = []) (ac (R09_Records_ok F r_2 r_3 h_2 : TripleG prog 27 [] [] [.sl false 1 (Mb r_2)] [(.row 23 1 (List.map (fun l => AV.sl false 1 (l.map (AV.int .u8))) r_3.1))] (.tuple [.own 0 ((r_3.1).length), .bool r_3.2])) an))))))) ?_
 refine sq ?_
 refine sq ?_
 refine aw_mid (mk [(83, .bool (!r_3.2 || ((lN (r_3.1)) != (w_i64 (r_1.Next - r_1.First)))))] [] 0) ?_ ?_
 ·rcases bft (!r_3.2) with gg_10 | gg_10
  ·refine rg [(3, Hg), (4, Hg), (5, Hg), (6, Hg), (7, Hg), (8, Hg), (9, Hg), (10, Hg), (11, Ht)] [83] [] 3 [.bool true] [] hmix (ac gg_10 (ac gg_10 (ac gg_10 (ac gg_10 (ac gg_10 (ac gg_10 (ac gg_10 (ac gg_10 (ac gg_10 an))))))))) ?_
   exact ⟨rfl, (sw [] [] [.a 83 (.bool (!r_3.2 || ((lN (r_3.1)) != (w_i64 (r_1.Next - r_1.First)))))] [] (ac (congrArg AV.bool (ort gg_10) : (.bool true : AV) = .bool (!r_3.2 || ((lN (r_3.1)) != (w_i64 (r_1.Next - r_1.First))))) an))⟩
  ·refine rg [(11, Hf)] [83] [] 3 [.bool ((lN (r_3.1)) != (w_i64 (r_1.Next - r_1.First)))] [] hmix (ac gg_10 (ac gg_10 (ac gg_10 (ac gg_10 (ac gg_10 (ac gg_10 (ac gg_10 (ac gg_10 (ac gg_10 an))))))))) ?_
   exact ⟨rfl, (sw [] [] [.a 83 (.bool (!r_3.2 || ((lN (r_3.1)) != (w_i64 (r_1.Next - r_1.First)))))] [] (ac (congrArg AV.bool (orf gg_10 rfl) : (.bool ((lN (r_3.1)) != (w_i64 (r_1.Next - r_1.First))) : AV) = .bool (!r_3.2 || ((lN (r_3.1)) != (w_i64 (r_1.Next - r_1.First))))) an))⟩
 refine cd 83 (!r_3.2 || ((lN (r_3.1)) != (w_i64 (r_1.Next - r_1.First)))) ?_ ?_
 ·intro g_3; replace h := cond_t g_3 h
  refine sr [] [2] [] 0 [Ii 10] [] hmix an ?_
  refine rt ?_
  cases h
  exact ⟨.inr rfl, Nat.le_of_ble_eq_true rfl, by kernel_rfl⟩
 intro g_3; replace h := cond_f g_3 h
 refine sk ?_
 refine sr [] [2] [] 0 [Ii 0] [] hmix an ?_
 refine rt ?_
 cases h
 exact ⟨.inr rfl, Nat.le_of_ble_eq_true rfl, by kernel_rfl⟩

theorem R09_Same_ok (F : Nat) (a_1 : T_api_Ring) (b_1 : T_api_Ring) (r : Bool) (h : R09_Same F a_1 b_1 = some r) : TripleG prog 22 [] [] [e_T_api_Ring a_1, e_T_api_Ring b_1] [] (.bool r) := by
 refine triple_intro (fn := Go.Proofs.Try.f22) (code := codeOf Go.Proofs.Try.f22) (by kernel_rfl) (by kernel_rfl) (Nat.le_of_ble_eq_true (by kernel_rfl)) ?_
 unfold R09_Same at h
 refine sr [(0, { id := 0 }), (1, { id := 1 })] [2, 3] [0, 1] 2 [Pp 0, Pp 1] [Vb 25 (v_T_api_Ring a_1), Vb 25 (v_T_api_Ring b_1)] hmix an ?_
 refine sq ?_
 refine sq ?_
 refine aw_mid (mk [(2, Pp 0), (3, Pp 1), (46, .bool ((a_1.Policy != b_1.Policy) || (((lN (a_1.Data)) != (lN (b_1.Data))) || ((a_1.Start != b_1.Start) || ((a_1.End != b_1.End) || ((a_1.First != b_1.First) || (a_1.Next != b_1.Next)))))))] [(0, Vb 25 (v_T_api_Ring a_1)), (1, Vb 25 (v_T_api_Ring b_1))] 2) ?_ ?_
 ·rcases bft (a_1.Policy != b_1.Policy) with gg_1 | gg_1
  ·refine rg [(6, Hg), (7, Hg), (8, Hg), (9, Hg), (10, Hg), (11, Hg), (12, Hg), (13, Ht), (15, Hg), (16, Hg), (17, Hg), (18, Hg), (19, Hg), (20, Ht), (22, Hg), (23, Hg), (24, Hg), (25, Hg), (26, Hg), (27, Ht), (29, Hg), (30, Hg), (31, Hg), (32, Hg), (33, Hg), (34, Ht), (36, Hg), (37, Hg), (38, Hg), (39, Hg), (40, Hg), (41, Ht)] [2, 3, 46] [0, 1] 2 [Pp 0, Pp 1, .bool true] [Vb 25 (v_T_api_Ring a_1), Vb 25 (v_T_api_Ring b_1)] hmix (ac gg_1 (ac gg_1 (ac gg_1 (ac gg_1 (ac gg_1 (ac gg_1 (ac gg_1 (ac gg_1 (ax (ax (ax (ax (ax (ar true (ax (ax (ax (ax (ax (ar true (ax (ax (ax (ax (ax (ar true (ax (ax (ax (ax (ax (ar true an)))))))))))))))))))))))))))))))) ?_
   exact ⟨rfl, (sw [0, 1] [] [.s 2, .s 3, .a 46 (.bool ((a_1.Policy != b_1.Policy) || (((lN (a_1.Data)) != (lN (b_1.Data))) || ((a_1.Start != b_1.Start) || ((a_1.End != b_1.End) || ((a_1.First != b_1.First) || (a_1.Next != b_1.Next)))))))] [.s 0, .s 1] (ac (congrArg AV.bool (ort gg_1) : (.bool true : AV) = .bool ((a_1.Policy != b_1.Policy) || (((lN (a_1.Data)) != (lN (b_1.Data))) || ((a_1.Start != b_1.Start) || ((a_1.End != b_1.End) || ((a_1.First != b_1.First) || (a_1.Next != b_1.Next))))))) an))⟩
  ·rcases bft ((lN (a_1.Data)) != (lN (b_1.Data))) with gg_2 | gg_2
   ·refine rg [(8, { n := (a_1.Data).length }), (11, { n := (b_1.Data).length }), (13, Hf), (15, Hg), (16, Hg), (17, Hg), (18, Hg), (19, Hg), (20, Ht), (22, Hg), (23, Hg), (24, Hg), (25, Hg), (26, Hg), (27, Ht), (29, Hg), (30, Hg), (31, Hg), (32, Hg), (33, Hg), (34, Ht), (36, Hg), (37, Hg), (38, Hg), (39, Hg), (40, Hg), (41, Ht)] [2, 3, 46] [0, 1] 2 [Pp 0, Pp 1, .bool true] [Vb 25 (v_T_api_Ring a_1), Vb 25 (v_T_api_Ring b_1)] hmix (ac gg_1 (ac gg_1 (ac gg_1 (ac (vc_len _ : ((Mb a_1.Data)).length = (a_1.Data).length) (ac gg_1 (ac gg_1 (ac gg_1 (ac (vc_len _ : ((Mb b_1.Data)).length = (b_1.Data).length) (ac gg_1 (ac gg_1 (ac gg_2 (ac gg_2 (ac gg_2 (ac gg_2 (ac gg_2 (ac gg_2 (ax (ax (ax (ax (ax (ar true (ax (ax (ax (ax (ax (ar true (ax (ax (ax (ax (ax (ar true an)))))))))))))))))))))))))))))))))) ?_
    exact ⟨rfl, (sw [0, 1] [] [.s 2, .s 3, .a 46 (.bool ((a_1.Policy != b_1.Policy) || (((lN (a_1.Data)) != (lN (b_1.Data))) || ((a_1.Start != b_1.Start) || ((a_1.End != b_1.End) || ((a_1.First != b_1.First) || (a_1.Next != b_1.Next)))))))] [.s 0, .s 1] (ac (congrArg AV.bool (orf gg_1 (ort gg_2)) : (.bool true : AV) = .bool ((a_1.Policy != b_1.Policy) || (((lN (a_1.Data)) != (lN (b_1.Data))) || ((a_1.Start != b_1.Start) || ((a_1.End != b_1.End) || ((a_1.First != b_1.First) || (a_1.Next != b_1.Next))))))) an))⟩
   ·rcases bft (a_1.Start != b_1.Start) with gg_3 | gg_3
    ·refine rg [(8, { n := (a_1.Data).length }), (11, { n := (b_1.Data).length }), (13, Hf), (20, Hf), (22, Hg), (23, Hg), (24, Hg), (25, Hg), (26, Hg), (27, Ht), (29, Hg), (30, Hg), (31, Hg), (32, Hg), (33, Hg), (34, Ht), (36, Hg), (37, Hg), (38, Hg), (39, Hg), (40, Hg), (41, Ht)] [2, 3, 46] [0, 1] 2 [Pp 0, Pp 1, .bool true] [Vb 25 (v_T_api_Ring a_1), Vb 25 (v_T_api_Ring b_1)] hmix (ac gg_1 (ac gg_1 (ac gg_1 (ac (vc_len _ : ((Mb a_1.Data)).length = (a_1.Data).length) (ac gg_1 (ac gg_1 (ac gg_1 (ac (vc_len _ : ((Mb b_1.Data)).length = (b_1.Data).length) (ac gg_1 (ac gg_1 (ac gg_2 (ac gg_2 (ac gg_2 (ac gg_2 (ac gg_2 (ac gg_2 (ac gg_3 (ac gg_3 (ac gg_3 (ac gg_3 (ac gg_3 (ac gg_3 (ax (ax (ax (ax (ax (ar true (ax (ax (ax (ax (ax (ar true an)))))))))))))))))))))))))))))))))) ?_
     exact ⟨rfl, (sw [0, 1] [] [.s 2, .s 3, .a 46 (.bool ((a_1.Policy != b_1.Policy) || (((lN (a_1.Data)) != (lN (b_1.Data))) || ((a_1.Start != b_1.Start) || ((a_1.End != b_1.End) || ((a_1.First != b_1.First) || (a_1.Next != b_1.Next)))))))] [.s 0, .s 1] (ac (congrArg AV.bool (orf gg_1 (orf gg_2 (ort gg_3))) : (.bool true : AV) = .bool ((a_1.Policy != b_1.Policy) || (((lN (a_1.Data)) != (lN (b_1.Data))) || ((a_1.Start != b_1.Start) || ((a_1.End != b_1.End) || ((a_1.First != b_1.First) || (a_1.Next != b_1.Next))))))) an))⟩
    ·rcases bft (a_1.End != b_1.End) with gg_4 | gg_4
     ·refine rg [(8, { n := (a_1.Data).length }), (11, { n := (b_1.Data).length }), (13, Hf), (20, Hf), (27, Hf), (29, Hg), (30, Hg), (31, Hg), (32, Hg), (33, Hg), (34, Ht), (36, Hg), (37, Hg), (38, Hg), (39, Hg), (40, Hg), (41, Ht)] [2, 3, 46] [0, 1] 2 [Pp 0, Pp 1, .bool true] [Vb 25 (v_T_api_Ring a_1), Vb 25 (v_T_api_Ring b_1)] hmix (ac gg_1 (ac gg_1 (ac gg_1 (ac (vc_len _ : ((Mb a_1.Data)).length = (a_1.Data).length) (ac gg_1 (ac gg_1 (ac gg_1 (ac (vc_len _ : ((Mb b_1.Data)).length = (b_1.Data).length) (ac gg_1 (ac gg_1 (ac gg_2 (ac gg_2 (ac gg_2 (ac gg_2 (ac gg_2 (ac gg_2 (ac gg_3 (ac gg_3 (ac gg_3 (ac gg_3 (ac gg_3 (ac gg_3 (ac gg_4 (ac gg_4 (ac gg_4 (ac gg_4 (ac gg_4 (ac gg_4 (ax (ax (ax (ax (ax (ar true an)))))))))))))))))))))))))))))))))) ?_
      exact ⟨rfl, (sw [0, 1] [] [.s 2, .s 3, .a 46 (.bool ((a_1.Policy != b_1.Policy) || (((lN (a_1.Data)) != (lN (b_1.Data))) || ((a_1.Start != b_1.Start) || ((a_1.End != b_1.End) || ((a_1.First != b_1.First) || (a_1.Next != b_1.Next)))))))] [.s 0, .s 1] (ac (congrArg AV.bool (orf gg_1 (orf gg_2 (orf gg_3 (ort gg_4)))) : (.bool true : AV) = .bool ((a_1.Policy != b_1.Policy) || (((lN (a_1.Data)) != (lN (b_1.Data))) || ((a_1.Start != b_1.Start) || ((a_1.End != b_1.End) || ((a_1.First != b_1.First) || (a_1.Next != b_1.Next))))))) an))⟩
     ·rcases bft (a_1.First != b_1.First) with gg_5 | gg_5
      ·refine rg [(8, { n := (a_1.Data).length }), (11, { n := (b_1.Data).length }), (13, Hf), (20, Hf), (27, Hf), (34, Hf), (36, Hg), (37, Hg), (38, Hg), (39, Hg), (40, Hg), (41, Ht)] [2, 3, 46] [0, 1] 2 [Pp 0, Pp 1, .bool true] [Vb 25 (v_T_api_Ring a_1), Vb 25 (v_T_api_Ring b_1)] hmix (ac gg_1 (ac gg_1 (ac gg_1 (ac (vc_len _ : ((Mb a_1.Data)).length = (a_1.Data).length) (ac gg_1 (ac gg_1 (ac gg_1 (ac (vc_len _ : ((Mb b_1.Data)).length = (b_1.Data).length) (ac gg_1 (ac gg_1 (ac gg_2 (ac gg_2 (ac gg_2 (ac gg_2 (ac gg_2 (ac gg_2 (ac gg_3 (ac gg_3 (ac gg_3 (ac gg_3 (ac gg_3 (ac gg_3 (ac gg_4 (ac gg_4 (ac gg_4 (ac gg_4 (ac gg_4 (ac gg_4 (ac gg_5 (ac gg_5 (ac gg_5 (ac gg_5 (ac gg_5 (ac gg_5 an)))))))))))))))))))))))))))))))))) ?_
       exact ⟨rfl, (sw [0, 1] [] [.s 2, .s 3, .a 46 (.bool ((a_1.Policy != b_1.Policy) || (((lN (a_1.Data)) != (lN (b_1.Data))) || ((a_1.Start != b_1.Start) || ((a_1.End != b_1.End) || ((a_1.First != b_1.First) || (a_1.Next != b_1.Next)))))))] [.s 0, .s 1] (ac (congrArg AV.bool (orf gg_1 (orf gg_2 (orf gg_3 (orf gg_4 (ort gg_5))))) : (.bool true : AV) = .bool ((a_1.Policy != b_1.Policy) || (((lN (a_1.Data)) != (lN (b_1.Data))) || ((a_1.Start != b_1.Start) || ((a_1.End != b_1.End) || ((a_1.First != b_1.First) || (a_1.Next != b_1.Next))))))) an))⟩
      ·refine rg [(8, { n := (a_1.Data).length }), (11, { n := (b_1.Data).length }), (13, Hf), (20, Hf), (27, Hf), (34, Hf), (41, Hf)] [2, 3, 46] [0, 1] 2 [Pp 0, Pp 1, .bool (a_1.Next != b_1.Next)] [Vb 25 (v_T_api_Ring a_1), Vb 25 (v_T_api_Ring b_1)] hmix (ac gg_1 (ac gg_1 (ac gg_1 (ac (vc_len _ : ((Mb a_1.Data)).length = (a_1.Data).length) (ac gg_1 (ac gg_1 (ac gg_1 (ac (vc_len _ : ((Mb b_1.Data)).length = (b_1.Data).length) (ac gg_1 (ac gg_1 (ac gg_2 (ac gg_2 (ac gg_2 (ac gg_2 (ac gg_2 (ac gg_2 (ac gg_3 (ac gg_3 (ac gg_3 (ac gg_3 (ac gg_3 (ac gg_3 (ac gg_4 (ac gg_4 (ac gg_4 (ac gg_4 (ac gg_4 (ac gg_4 (ac gg_5 (ac gg_5 (ac gg_5 (ac gg_5 (ac gg_5 (ac gg_5 an)))))))))))))))))))))))))))))))))) ?_
       exact ⟨rfl, (sw [0, 1] [] [.s 2, .s 3, .a 46 (.bool ((a_1.Policy != b_1.Policy) || (((lN (a_1.Data)) != (lN (b_1.Data))) || ((a_1.Start != b_1.Start) || ((a_1.End != b_1.End) || ((a_1.First != b_1.First) || (a_1.Next != b_1.Next)))))))] [.s 0, .s 1] (ac (congrArg AV.bool (orf gg_1 (orf gg_2 (orf gg_3 (orf gg_4 (orf gg_5 rfl))))) : (.bool (a_1.Next != b_1.Next) : AV) = .bool ((a_1.Policy != b_1.Policy) || (((lN (a_1.Data)) != (lN (b_1.Data))) || ((a_1.Start != b_1.Start) || ((a_1.End != b_1.End) || ((a_1.First != b_1.First) || (a_1.Next != b_1.Next))))))) an))⟩
 refine cd 46 ((a_1.Policy != b_1.Policy) || (((lN (a_1.Data)) != (lN (b_1.Data))) || ((a_1.Start != b_1.Start) || ((a_1.End != b_1.End) || ((a_1.First != b_1.First) || (a_1.Next != b_1.Next)))))) ?_ ?_
 ·intro g_1; replace h := cond_t g_1 h
  refine sr [] [4] [] 2 [.bool false] [] hmix an ?_
  refine rt ?_
  cases h
  exact ⟨.inr rfl, Nat.le_of_ble_eq_true rfl, by kernel_rfl⟩
 intro g_1; replace h := cond_f g_1 h
 refine sk ?_
 refine sq ?_
 refine sq ?_
 obtain ⟨p_1, h_3, h⟩ := bind_some h
 refine aw_mid (mk [(2, Pp 0), (3, Pp 1), (54, .bool p_1)] [(0, Vb 25 (v_T_api_Ring a_1)), (1, Vb 25 (v_T_api_Ring b_1))] 2) ?_ ?_
 ·replace h := h_3
  obtain ⟨r_1, h_1, h⟩ := bind_some h
  rcases bft (r_1 != (0 : Int)) with gg_6 | gg_6
  ·replace h := cond_t gg_6 h
   refine rg [(1, { av := Ii r_1, l := [e_T_api_Ring a_1] }), (4, Hg), (5, Hg), (6, Hg), (7, Ht)] [2, 3, 54] [0, 1] 2 [Pp 0, Pp 1, .bool true] [Vb 25 (v_T_api_Ring a_1), Vb 25 (v_T_api_Ring b_1)] hmix (ar ([e_T_api_Ring a_1] : List AV) (ac (rfl : ([] : List BoxSt) = []) (ac (R09_Check_ok F a_1 r_1 h_1 : TripleG prog 18 [] [] [e_T_api_Ring a_1] [] (Ii r_1)) (ac gg_6 (ac gg_6 (ac gg_6 (ac gg_6 an))))))) ?_
   cases h
   exact ⟨rfl, (sw [0, 1] [] [.s 2, .s 3, .s 54] [.s 0, .s 1] an)⟩
  ·replace h := cond_f gg_6 h
   obtain ⟨r_2, h_2, h⟩ := bind_some h
   refine rg [(1, { av := Ii r_1, l := [e_T_api_Ring a_1] }), (5, { av := Ii r_2, l := [e_T_api_Ring b_1] }), (7, Hf)] [2, 3, 54] [0, 1] 2 [Pp 0, Pp 1, .bool (r_2 != (0 : Int))] [Vb 25 (v_T_api_Ring a_1), Vb 25 (v_T_api_Ring b_1)] hmix (ar ([e_T_api_Ring a_1] : List AV) (ac (rfl : ([] : List BoxSt) = []) (ac (R09_Check_ok F a_1 r_1 h_1 : TripleG prog 18 [] [] [e_T_api_Ring a_1] [] (Ii r_1)) (ac gg_6 (ac gg_6 (ar ([e_T_api_Ring b_1] : List AV) (ac (rfl : ([] : List BoxSt) = []) (ac (R09_Check_ok F b_1 r_2 h_2 : TripleG prog 18 [] [] [e_T_api_Ring b_1] [] (Ii r_2)) (ac gg_6 (ac gg_6 an)))))))))) ?_
   cases h
   exact ⟨rfl, (sw [0, 1] [] [.s 2, .s 3, .s 54] [.s 0, .s 1] an)⟩
 refine cd 54 p_1 ?_ ?_
 ·intro g_2; replace h := cond_t g_2 h
  refine sr [(2, { s := a_1.Data }), (5, { s := b_1.Data })] [4] [] 2 [.bool (a_1.Data == b_1.Data)] [] hmix (ac (rfl : (Mb a_1.Data) = List.map (AV.int .u8) a_1.Data) (ac (rfl : (Mb b_1.Data) = List.map (AV.int .u8) b_1.Data) an)) ?_
  refine rt ?_
  cases h
  exact ⟨.inr rfl, Nat.le_of_ble_eq_true rfl, by kernel_rfl⟩
 intro g_2; replace h := cond_f g_2 h
 refine sk ?_
 refine sq ?_
 obtain ⟨r_3, h_4, h⟩ := bind_some h
 obtain ⟨r_4, h_5, h⟩ := bind_some h
 refine rg [(1, { av := .own 0 ((r_3).length), ids := [2], l := [e_T_api_Ring a_1], post := [(.row 5 1 (Mb r_3))] }), (2, { s := r_3 }), (4, { av := .own 0 ((r_4).length), ids := [3], l := [e_T_api_Ring b_1], post := [(.row 5 1 (Mb r_4))] }), (5, { s := r_4 })] [4] [] 4 [.bool (r_3 == r_4)] [] hmix (ar ([e_T_api_Ring a_1] : List AV) (ac (rfl : ([] : List BoxSt) = []) (ac (R09_Contents_ok F a_1 r_3 h_4 : TripleG prog 28 [] [] [e_T_api_Ring a_1] [(.row 5 1 (Mb r_3))] (.own 0 ((r_3).length))) (ac (by first | (simp; done) | (simp; omega) : (r_3).length = ((List.map (AV.int .u8) r_3)).length) (ac (rfl : (Mb r_3) = List.map (AV.int .u8) r_3) (ar ([e_T_api_Ring b_1] : List AV) (ac (rfl : ([] : List BoxSt) = []) (ac (R09_Contents_ok F b_1 r_4 h_5 : TripleG prog 28 [] [] [e_T_api_Ring b_1] [(.row 5 1 (Mb r_4))] (.own 0 ((r_4).length))) (ac (by first | (simp; done) | (simp; omega) : (r_4).length = ((List.map (AV.int .u8) r_4)).length) (ac (rfl : (Mb r_4) = List.map (AV.int .u8) r_4) an)))))))))) ?_
 refine rt ?_
 cases h
 exact ⟨.inr rfl, Nat.le_of_ble_eq_true rfl, by kernel_rfl⟩

theorem L09_awake_ok (F : Nat) (r : Bool) (h : L09_awake F = some r) : TripleG prog 14 [] [] [] [] (.bool r) := by
 refine triple_intro (fn := Go.Proofs.Try.f14) (code := codeOf Go.Proofs.Try.f14) (by kernel_rfl) (by kernel_rfl) (Nat.le_of_ble_eq_true (by kernel_rfl)) ?_
 unfold L09_awake at h
 refine sr [] [] [] 0 [] [] hmix an ?_
 refine sq ?_
 obtain ⟨r_1, h_1, h⟩ := bind_some h
 refine rg [(0, { av := .tuple [e_T_api_Ring r_1.1, Ii r_1.2], l := [Ii 16, Ii 1] }), (4, { id := 0 })] [1, 2] [0] 1 [Pp 0, Ii r_1.2] [Vb 25 (v_T_api_Ring r_1.1)] hmix (ar ([Ii 16, Ii 1] : List AV) (ac (rfl : ([] : List BoxSt) = []) (ac (ring_New_ok (16 : Int) (1 : Int) r_1 h_1 : TripleG prog 9 [] [] [Ii 16, Ii 1] [] (.tuple [e_T_api_Ring r_1.1, Ii r_1.2])) an))) ?_
 refine sq ?_
 obtain ⟨r_2, h_2, h⟩ := bind_some h
 refine rg [(0, { av := .tuple [e_T_api_Ring r_2.1, Ii r_2.2], l := [Ii 16, Ii 2] }), (4, { id := 1 })] [1, 2, 3, 4] [0, 1] 2 [Pp 0, Ii r_1.2, Pp 1, Ii r_2.2] [Vb 25 (v_T_api_Ring r_1.1), Vb 25 (v_T_api_Ring r_2.1)] hmix (ar ([Ii 16, Ii 2] : List AV) (ac (rfl : ([] : List BoxSt) = []) (ac (ring_New_ok (16 : Int) (2 : Int) r_2 h_2 : TripleG prog 9 [] [] [Ii 16, Ii 2] [] (.tuple [e_T_api_Ring r_2.1, Ii r_2.2])) an))) ?_
 refine sq ?_
 refine sq ?_
 refine aw_mid (mk [(1, Pp 0), (3, Pp 1), (33, .bool ((r_1.2 != (0 : Int)) || (r_2.2 != (0 : Int))))] [(0, Vb 25 (v_T_api_Ring r_1.1)), (1, Vb 25 (v_T_api_Ring r_2.1))] 2) ?_ ?_
 ·rcases bft (r_1.2 != (0 : Int)) with gg_1 | gg_1
  ·refine rg [(3, Hg), (4, Hg), (5, Ht)] [1, 3, 33] [0, 1] 2 [Pp 0, Pp 1, .bool true] [Vb 25 (v_T_api_Ring r_1.1), Vb 25 (v_T_api_Ring r_2.1)] hmix (ac gg_1 (ac gg_1 (ac gg_1 an))) ?_
   exact ⟨rfl, (sw [0, 1] [] [.s 1, .s 3, .a 33 (.bool ((r_1.2 != (0 : Int)) || (r_2.2 != (0 : Int))))] [.s 0, .s 1] (ac (congrArg AV.bool (ort gg_1) : (.bool true : AV) = .bool ((r_1.2 != (0 : Int)) || (r_2.2 != (0 : Int)))) an))⟩
  ·refine rg [(5, Hf)] [1, 3, 33] [0, 1] 2 [Pp 0, Pp 1, .bool (r_2.2 != (0 : Int))] [Vb 25 (v_T_api_Ring r_1.1), Vb 25 (v_T_api_Ring r_2.1)] hmix (ac gg_1 (ac gg_1 (ac gg_1 an))) ?_
   exact ⟨rfl, (sw [0, 1] [] [.s 1, .s 3, .a 33 (.bool ((r_1.2 != (0 : Int)) || (r_2.2 != (0 : Int))))] [.s 0, .s 1] (ac (congrArg AV.bool (orf gg_1 rfl) : (.bool (r_2.2 != (0 : Int)) : AV) = .bool ((r_1.2 != (0 : Int)) || (r_2.2 != (0 : Int)))) an))⟩
 refine cd 33 ((r_1.2 != (0 : Int)) || (r_2.2 != (0 : Int))) ?_ ?_
 ·intro g_1; replace h := cond_t g_1 h
  refine sr [] [0] [] 2 [.bool false] [] hmix an ?_
  refine rt ?_
  cases h
  exact ⟨.inr rfl, Nat.le_of_ble_eq_true rfl, by kernel_rfl⟩
 intro g_1; replace h := cond_f g_1 h
 refine sk ?_
 refine sq ?_
 obtain ⟨r_3, h_3, h⟩ := bind_some h
 refine rg [(0, { av := .tuple [e_T_api_Ring r_3.1, Ii r_3.2], l := [Ii 15, Ii 2] }), (4, { id := 2 })] [1, 3, 6] [0, 1] 3 [Pp 0, Pp 1, Ii r_3.2] [Vb 25 (v_T_api_Ring r_1.1), Vb 25 (v_T_api_Ring r_2.1)] hmix (ar ([Ii 15, Ii 2] : List AV) (ac (rfl : ([] : List BoxSt) = []) (ac (ring_New_ok (15 : Int) (2 : Int) r_3 h_3 : TripleG prog 9 [] [] [Ii 15, Ii 2] [] (.tuple [e_T_api_Ring r_3.1, Ii r_3.2])) an))) ?_
 refine sq ?_
 obtain ⟨r_4, h_4, h⟩ := bind_some h
 refine rg [(0, { av := .tuple [e_T_api_Ring r_4.1, Ii r_4.2], l := [Ii 16, Ii 3] }), (4, { id := 3 })] [1, 3, 6, 8] [0, 1] 4 [Pp 0, Pp 1, Ii r_3.2, Ii r_4.2] [Vb 25 (v_T_api_Ring r_1.1), Vb 25 (v_T_api_Ring r_2.1)] hmix (ar ([Ii 16, Ii 3] : List AV) (ac (rfl : ([] : List BoxSt) = []) (ac (ring_New_ok (16 : Int) (3 : Int) r_4 h_4 : TripleG prog 9 [] [] [Ii 16, Ii 3] [] (.tuple [e_T_api_Ring r_4.1, Ii r_4.2])) an))) ?_
 refine sq ?_
 obtain ⟨_, h_5, h⟩ := bind_some h; replace h_5 := need_some h_5
 obtain ⟨r_5, h_6, h⟩ := bind_some h
 refine rg [(1, { id := 4, l := (Mb (List.replicate 16 (0 : Int))), m := 16, n := 16 }), (2, { av := .tuple [e_T_api_Ring r_5.1, Ii r_5.2.1, Ii r_5.2.2], frz := [4], l := [e_T_api_Ring r_1.1, .sl false 1 (Mb (List.replicate 16 (0 : Int)))] }), (7, { id := 5 })] [1, 3, 6, 8, 11] [0, 1] 6 [Pp 0, Pp 1, Ii r_3.2, Ii r_4.2, Ii r_5.2.2] [Vb 25 (v_T_api_Ring r_1.1), Vb 25 (v_T_api_Ring r_2.1)] hmix (ac (rfl : (16 : Int) = ((16 : Nat) : Int)) (ac (rfl : (16 : Int) = ((16 : Nat) : Int)) (ac (Nat.le_refl _ : 16 ≤ 16) (ac h_5 (ac (vc_rep : (Mb (List.replicate 16 (0 : Int))) = List.replicate 16 (Iu 0)) (ac (by rw [List.length_map]; exact List.length_replicate.symm : 16 = ((List.map (AV.int .u8) (List.replicate 16 (0 : Int)))).length) (ar ([e_T_api_Ring r_1.1, .sl false 1 (Mb (List.replicate 16 (0 : Int)))] : List AV) (ac (rfl : ([] : List BoxSt) = []) (ac (ring_Put_ok F r_1.1 (List.replicate 16 (0 : Int)) r_5 h_6 : TripleG prog 23 [] [] [e_T_api_Ring r_1.1, .sl false 1 (Mb (List.replicate 16 (0 : Int)))] [] (.tuple [e_T_api_Ring r_5.1, Ii r_5.2.1, Ii r_5.2.2])) an))))))))) ?_
 refine sq ?_
 refine sr [] [1, 3, 6, 8, 11, 12] [0, 1] 6 [Pp 0, Pp 1, Ii r_3.2, Ii r_4.2, Ii r_5.2.2, Ii 0] [Vb 25 (v_T_api_Ring r_1.1), Vb 25 (v_T_api_Ring r_2.1)] hmix an ?_
 obtain ⟨o_1, h_7, h⟩ := bind_some h
 refine aw_conv (K1 := (fun e st' => match o_1 with | (.inl q0) => e = .normal ∧ Sub 0 st' (mk [(1, Pp 0), (3, Pp 1), (6, Ii r_3.2), (8, Ii r_4.2), (11, Ii r_5.2.2)] [(0, Vb 25 [Ii q0.1, .sl false 1 (Mb q0.2.1), Ii q0.2.2.1, Ii q0.2.2.2.1, Ii q0.2.2.2.2.1, Ii q0.2.2.2.2.2.1]), (1, Vb 25 [Ii q0.2.2.2.2.2.2.1, .sl false 1 (Mb q0.2.2.2.2.2.2.2.1), Ii q0.2.2.2.2.2.2.2.2.1, Ii q0.2.2.2.2.2.2.2.2.2.1, Ii q0.2.2.2.2.2.2.2.2.2.2.1, Ii q0.2.2.2.2.2.2.2.2.2.2.2])] 2) | (.inr q1) => e = .ret ∧ FinR prog Go.Proofs.Try.f14 0 [] (.bool q1) st')) ?_ ?_
 ·replace h := h_7
  refine aw_block (id := 0) (by kernel_rfl) ?_
  refine wk [0, 1] [] [.s 1, .s 3, .s 6, .s 8, .s 11, .s 12] [.s 0, .s 1] [(1, Pp 0), (3, Pp 1), (6, Ii r_3.2), (8, Ii r_4.2), (11, Ii r_5.2.2), (12, Ii 0)] [(0, Vb 25 (v_T_api_Ring r_1.1)), (1, Vb 25 (v_T_api_Ring r_2.1))] an ?_
  refine aw_loopF (fun n st => ∃ (i_1 : Int), ∃ (c_1 : Int), ∃ (c_2 : List Int), ∃ (c_3 : Int), ∃ (c_4 : Int), ∃ (c_5 : Int), ∃ (c_6 : Int), ∃ (c_7 : Int), ∃ (c_8 : List Int), ∃ (c_9 : Int), ∃ (c_10 : Int), ∃ (c_11 : Int), ∃ (c_12 : Int), st = mk [(1, Pp 0), (3, Pp 1), (6, Ii r_3.2), (8, Ii r_4.2), (11, Ii r_5.2.2), (12, Ii i_1)] [(0, Vb 25 [Ii c_1, .sl false 1 (Mb c_2), Ii c_3, Ii c_4, Ii c_5, Ii c_6]), (1, Vb 25 [Ii c_7, .sl false 1 (Mb c_8), Ii c_9, Ii c_10, Ii c_11, Ii c_12])] 2 ∧ L09_awake_L1 F n i_1 c_1 c_2 c_3 c_4 c_5 c_6 c_7 c_8 c_9 c_10 c_11 c_12 = some o_1) F (by kernel_rfl) ⟨_, _, _, _, _, _, _, _, _, _, _, _, _, rfl, h⟩ ?_ ?_
  ·rintro _ ⟨_, _, _, _, _, _, _, _, _, _, _, _, _, _, h⟩; exact none_ne (h : (none : Option ((Int × (List Int) × Int × Int × Int × Int × Int × (List Int) × Int × Int × Int × Int) ⊕ Bool)) = some o_1)
  rintro n_1 _ ⟨i_1, c_1, c_2, c_3, c_4, c_5, c_6, c_7, c_8, c_9, c_10, c_11, c_12, rfl, h⟩
  replace h : L09_awake_L1_body F (L09_awake_L1 F n_1) i_1 c_1 c_2 c_3 c_4 c_5 c_6 c_7 c_8 c_9 c_10 c_11 c_12 = some o_1 := h
  unfold L09_awake_L1_body at h
  refine sq ?_
  refine sr [] [1, 3, 6, 8, 11, 12, 50] [0, 1] 2 [Pp 0, Pp 1, Ii r_3.2, Ii r_4.2, Ii r_5.2.2, Ii i_1, .bool (decide (i_1 < (4 : Int)))] [Vb 25 [Ii c_1, .sl false 1 (Mb c_2), Ii c_3, Ii c_4, Ii c_5, Ii c_6], Vb 25 [Ii c_7, .sl false 1 (Mb c_8), Ii c_9, Ii c_10, Ii c_11, Ii c_12]] hmix an ?_
  refine cd 50 (decide (i_1 < (4 : Int))) ?_ ?_
  rotate_left
  ·intro g_2; replace h := cond_f g_2 h
   refine aw_exit (id := 0) (by kernel_rfl) ?_
   cases h
   exact ⟨rfl, (sw [0, 1] [] [.s 1, .s 3, .s 6, .s 8, .s 11] [.s 0, .s 1] an)⟩
  intro g_2; replace h := cond_t g_2 h
  refine sk ?_
  refine sq ?_
  refine aw_block (id := 1) (by kernel_rfl) ?_
  refine sr [(2, { id := 2 })] [1, 3, 6, 8, 11, 12, 13] [0, 1, 2] 3 [Pp 0, Pp 1, Ii r_3.2, Ii r_4.2, Ii r_5.2.2, Ii i_1, .own 2 3] [Vb 25 [Ii c_1, .sl false 1 (Mb c_2), Ii c_3, Ii c_4, Ii c_5, Ii c_6], Vb 25 [Ii c_7, .sl false 1 (Mb c_8), Ii c_9, Ii c_10, Ii c_11, Ii c_12], Rb 5 1 (Mb ([w_u8 i_1, (1 : Int), (2 : Int)] : List Int))] hmix an ?_
  refine sq ?_
  refine wk [0, 1] [2] [.s 1, .s 3, .s 6, .s 8, .s 11, .s 12, .a 13 (.sl false 1 (Mb ([w_u8 i_1, (1 : Int), (2 : Int)] : List Int)))] [.s 0, .s 1] [(1, Pp 0), (3, Pp 1), (6, Ii r_3.2), (8, Ii r_4.2), (11, Ii r_5.2.2), (12, Ii i_1), (13, .sl false 1 (Mb ([w_u8 i_1, (1 : Int), (2 : Int)] : List Int)))] [(0, Vb 25 [Ii c_1, .sl false 1 (Mb c_2), Ii c_3, Ii c_4, Ii c_5, Ii c_6]), (1, Vb 25 [Ii c_7, .sl false 1 (Mb c_8), Ii c_9, Ii c_10, Ii c_11, Ii c_12])] (ac (by first | (simp; done) | (simp; omega) : 3 = ((List.map (AV.int .u8) ([w_u8 i_1, (1 : Int), (2 : Int)] : List Int))).length) (ar 1 (ar ((Mb ([w_u8 i_1, (1 : Int), (2 : Int)] : List Int)) : List AV) (ac (rfl : (!false || false) = true) an)))) ?_
  obtain ⟨r_6, h_8, h⟩ := bind_some h
  refine rg [(2, { av := .tuple [e_T_api_Ring r_6.1, Ii r_6.2.1, Ii r_6.2.2], l := [.agg [Ii c_1, .sl false 1 (Mb c_2), Ii c_3, Ii c_4, Ii c_5, Ii c_6], .sl false 1 (Mb ([w_u8 i_1, (1 : Int), (2 : Int)] : List Int))] })] [1, 2, 3, 6, 8, 11, 12, 13] [0, 1] 2 [Pp 0, Ii r_6.2.2, Pp 1, Ii r_3.2, Ii r_4.2, Ii r_5.2.2, Ii i_1, .sl false 1 (Mb ([w_u8 i_1, (1 : Int), (2 : Int)] : List Int))] [Vb 25 (v_T_api_Ring r_6.1), Vb 25 [Ii c_7, .sl false 1 (Mb c_8), Ii c_9, Ii c_10, Ii c_11, Ii c_12]] hmix (ar ([.agg [Ii c_1, .sl false 1 (Mb c_2), Ii c_3, Ii c_4, Ii c_5, Ii c_6], .sl false 1 (Mb ([w_u8 i_1, (1 : Int), (2 : Int)] : List Int))] : List AV) (ac (rfl : ([] : List BoxSt) = []) (ac (triple_lo (args' := [e_T_api_Ring (⟨c_1, c_2, c_3, c_4, c_5, c_6⟩ : T_api_Ring), .sl false 1 (Mb ([w_u8 i_1, (1 : Int), (2 : Int)] : List Int))]) (ring_Put_ok F (⟨c_1, c_2, c_3, c_4, c_5, c_6⟩ : T_api_Ring) ([w_u8 i_1, (1 : Int), (2 : Int)] : List Int) r_6 h_8) rfl ⟨rfl, rfl, rfl, rfl, rfl, rfl, rfl, rfl, rfl, rfl, rfl, trivial⟩ : TripleG prog 23 [] [] [.agg [Ii c_1, .sl false 1 (Mb c_2), Ii c_3, Ii c_4, Ii c_5, Ii c_6], .sl false 1 (Mb ([w_u8 i_1, (1 : Int), (2 : Int)] : List Int))] [] (.tuple [e_T_api_Ring r_6.1, Ii r_6.2.1, Ii r_6.2.2])) an))) ?_
  refine sq ?_
  obtain ⟨r_7, h_9, h⟩ := bind_some h
  refine rg [(2, { av := .tuple [e_T_api_Ring r_7.1, Ii r_7.2.1, Ii r_7.2.2], l := [.agg [Ii c_7, .sl false 1 (Mb c_8), Ii c_9, Ii c_10, Ii c_11, Ii c_12], .sl false 1 (Mb ([w_u8 i_1, (1 : Int), (2 : Int)] : List Int))] })] [1, 2, 3, 4, 6, 8, 11, 12] [0, 1] 2 [Pp 0, Ii r_6.2.2, Pp 1, Ii r_7.2.2, Ii r_3.2, Ii r_4.2, Ii r_5.2.2, Ii i_1] [Vb 25 (v_T_api_Ring r_6.1), Vb 25 (v_T_api_Ring r_7.1)] hmix (ar ([.agg [Ii c_7, .sl false 1 (Mb c_8), Ii c_9, Ii c_10, Ii c_11, Ii c_12], .sl false 1 (Mb ([w_u8 i_1, (1 : Int), (2 : Int)] : List Int))] : List AV) (ac (rfl : ([] : List BoxSt) = []) (ac (triple_lo (args' := [e_T_api_Ring (⟨c_7, c_8, c_9, c_10, c_11, c_12⟩ : T_api_Ring), .sl false 1 (Mb ([w_u8 i_1, (1 : Int), (2 : Int)] : List Int))]) (ring_Put_ok F (⟨c_7, c_8, c_9, c_10, c_11, c_12⟩ : T_api_Ring) ([w_u8 i_1, (1 : Int), (2 : Int)] : List Int) r_7 h_9) rfl ⟨rfl, rfl, rfl, rfl, rfl, rfl, rfl, rfl, rfl, rfl, rfl, trivial⟩ : TripleG prog 23 [] [] [.agg [Ii c_7, .sl false 1 (Mb c_8), Ii c_9, Ii c_10, Ii c_11, Ii c_12], .sl false 1 (Mb ([w_u8 i_1, (1 : Int), (2 : Int)] : List Int))] [] (.tuple [e_T_api_Ring r_7.1, Ii r_7.2.1, Ii r_7.2.2])) an))) ?_
  refine sq ?_
  obtain ⟨p_1, h_11, h⟩ := bind_some h
  refine aw_mid (mk [(1, Pp 0), (3, Pp 1), (6, Ii r_3.2), (8, Ii r_4.2), (11, Ii r_5.2.2), (12, Ii i_1), (83, .bool p_1)] [(0, Vb 25 (v_T_api_Ring r_6.1)), (1, Vb 25 (v_T_api_Ring r_7.1))] 2) ?_ ?_
  ·replace h := h_11
   rcases bft (r_6.2.2 != (0 : Int)) with gg_8 | gg_8
   ·replace h := cond_t gg_8 h
    refine rg [(3, Hg), (4, Hg), (5, Ht), (7, Hg), (8, Hg), (9, Hg), (10, Hg), (11, Hg), (12, Hg), (13, Ht)] [1, 3, 6, 8, 11, 12, 73, 74, 77, 78, 79, 80, 81, 82, 83] [0, 1] 2 [Pp 0, Pp 1, Ii r_3.2, Ii r_4.2, Ii r_5.2.2, Ii i_1, .tuple [], .tuple [], .tuple [], .tuple [], .tuple [], .tuple [], .tuple [], .tuple [], .bool true] [Vb 25 (v_T_api_Ring r_6.1), Vb 25 (v_T_api_Ring r_7.1)] hmix (ac gg_8 (ac gg_8 (ac gg_8 (ax (ax (ax (ax (ax (ax (ar true an)))))))))) ?_
    cases h
    exact ⟨rfl, (sw [0, 1] [] [.s 1, .s 3, .s 6, .s 8, .s 11, .s 12, .s 83] [.s 0, .s 1] an)⟩
   ·replace h := cond_f gg_8 h
    rcases bft (r_7.2.2 != (0 : Int)) with gg_9 | gg_9
    ·replace h := cond_t gg_9 h
     refine rg [(5, Hf), (7, Hg), (8, Hg), (9, Hg), (10, Hg), (11, Hg), (12, Hg), (13, Ht)] [1, 3, 6, 8, 11, 12, 73, 74, 77, 78, 79, 80, 81, 82, 83] [0, 1] 2 [Pp 0, Pp 1, Ii r_3.2, Ii r_4.2, Ii r_5.2.2, Ii i_1, Ii r_7.2.2, .bool (r_7.2.2 != (0 : Int)), .tuple [], .tuple [], .tuple [], .tuple [], .tuple [], .tuple [], .bool true] [Vb 25 (v_T_api_Ring r_6.1), Vb 25 (v_T_api_Ring r_7.1)] hmix (ac gg_8 (ac gg_8 (ac gg_8 (ac gg_9 (ac gg_9 (ac gg_9 (ac gg_9 (ac gg_9 (ac gg_9 (ac gg_9 an)))))))))) ?_
     cases h
     exact ⟨rfl, (sw [0, 1] [] [.s 1, .s 3, .s 6, .s 8, .s 11, .s 12, .s 83] [.s 0, .s 1] an)⟩
    ·replace h := cond_f gg_9 h
     obtain ⟨r_8, h_10, h⟩ := bind_some h
     refine rg [(5, Hf), (8, { av := Ii r_8, l := [e_T_api_Ring r_6.1] }), (13, Hf)] [1, 3, 6, 8, 11, 12, 73, 74, 77, 78, 79, 80, 81, 82, 83] [0, 1] 2 [Pp 0, Pp 1, Ii r_3.2, Ii r_4.2, Ii r_5.2.2, Ii i_1, Ii r_7.2.2, .bool (r_7.2.2 != (0 : Int)), e_T_api_Ring r_6.1, Ii r_8, Ii i_1, Ii (w_i64 ((4 : Int) * i_1)), Ii (w_i64 ((12 : Int) - (w_i64 ((4 : Int) * i_1)))), .bool (r_8 != (w_i64 ((12 : Int) - (w_i64 ((4 : Int) * i_1))))), .bool (r_8 != (w_i64 ((12 : Int) - (w_i64 ((4 : Int) * i_1)))))] [Vb 25 (v_T_api_Ring r_6.1), Vb 25 (v_T_api_Ring r_7.1)] hmix (ac gg_8 (ac gg_8 (ac gg_8 (ac gg_9 (ac gg_9 (ar ([e_T_api_Ring r_6.1] : List AV) (ac (rfl : ([] : List BoxSt) = []) (ac (ring_Free_ok F r_6.1 r_8 h_10 : TripleG prog 13 [] [] [e_T_api_Ring r_6.1] [] (Ii r_8)) (ac gg_9 (ac gg_9 (ac gg_9 (ac gg_9 (ac gg_9 an))))))))))))) ?_
     cases h
     exact ⟨rfl, (sw [0, 1] [] [.s 1, .s 3, .s 6, .s 8, .s 11, .s 12, .s 83] [.s 0, .s 1] an)⟩
  refine cd 83 p_1 ?_ ?_
  rotate_left
  ·intro g_3; replace h := cond_f g_3 h
   refine sk ?_
   refine rg [] [1, 3, 6, 8, 11, 12] [0, 1] 2 [Pp 0, Pp 1, Ii r_3.2, Ii r_4.2, Ii r_5.2.2, Ii (w_i64 (i_1 + (1 : Int)))] [Vb 25 (v_T_api_Ring r_6.1), Vb 25 (v_T_api_Ring r_7.1)] hmix an ?_
   exact ⟨_, (sw [0, 1] [] [.s 1, .s 3, .s 6, .s 8, .s 11, .s 12] [.s 0, .s 1] an), _, _, _, _, _, _, _, _, _, _, _, _, _, rfl, h⟩
  intro g_3; replace h := cond_t g_3 h
  refine sr [] [0] [] 2 [.bool false] [] hmix an ?_
  refine rt ?_
  cases h
  exact ⟨rfl, Nat.le_of_ble_eq_true rfl, by kernel_rfl⟩
 intro e st1 hk
 rcases o_1 with q_1 | q_2
 rotate_left
 ·obtain ⟨rfl, hf⟩ := hk
  cases h
  exact ⟨st1, Sub.refl _ _, .inr rfl, hf⟩
 obtain ⟨rfl, hs⟩ := hk
 refine ⟨_, hs, ?_⟩
 refine sq ?_
 obtain ⟨r_9, h_12, h⟩ := bind_some h
 refine rg [(1, { id := 2 }), (2, { av := .tuple [e_T_api_Ring r_9.1, Ii r_9.2.1, Ii r_9.2.2], frz := [2], l := [.agg [Ii q_1.1, .sl false 1 (Mb q_1.2.1), Ii q_1.2.2.1, Ii q_1.2.2.2.1, Ii q_1.2.2.2.2.1, Ii q_1.2.2.2.2.2.1], .sl false 1 (Mb ([(4 : Int), (1 : Int), (2 : Int)] : List Int))] })] [1, 2, 3, 6, 8, 11, 14] [0, 1] 3 [Pp 0, Ii r_9.2.2, Pp 1, Ii r_3.2, Ii r_4.2, Ii r_5.2.2, Ii r_9.2.1] [Vb 25 (v_T_api_Ring r_9.1), Vb 25 [Ii q_1.2.2.2.2.2.2.1, .sl false 1 (Mb q_1.2.2.2.2.2.2.2.1), Ii q_1.2.2.2.2.2.2.2.2.1, Ii q_1.2.2.2.2.2.2.2.2.2.1, Ii q_1.2.2.2.2.2.2.2.2.2.2.1, Ii q_1.2.2.2.2.2.2.2.2.2.2.2]] hmix (ac (by first | (simp; done) | (simp; omega) : 3 = ((List.map (AV.int .u8) ([(4 : Int), (1 : Int), (2 : Int)] : List Int))).length) (ar ([.agg [Ii q_1.1, .sl false 1 (Mb q_1.2.1), Ii q_1.2.2.1, Ii q_1.2.2.2.1, Ii q_1.2.2.2.2.1, Ii q_1.2.2.2.2.2.1], .sl false 1 (Mb ([(4 : Int), (1 : Int), (2 : Int)] : List Int))] : List AV) (ac (rfl : ([] : List BoxSt) = []) (ac (triple_lo (args' := [e_T_api_Ring (⟨q_1.1, q_1.2.1, q_1.2.2.1, q_1.2.2.2.1, q_1.2.2.2.2.1, q_1.2.2.2.2.2.1⟩ : T_api_Ring), .sl false 1 (Mb ([(4 : Int), (1 : Int), (2 : Int)] : List Int))]) (ring_Put_ok F (⟨q_1.1, q_1.2.1, q_1.2.2.1, q_1.2.2.2.1, q_1.2.2.2.2.1, q_1.2.2.2.2.2.1⟩ : T_api_Ring) ([(4 : Int), (1 : Int), (2 : Int)] : List Int) r_9 h_12) rfl ⟨rfl, rfl, rfl, rfl, rfl, rfl, rfl, rfl, rfl, rfl, rfl, trivial⟩ : TripleG prog 23 [] [] [.agg [Ii q_1.1, .sl false 1 (Mb q_1.2.1), Ii q_1.2.2.1, Ii q_1.2.2.2.1, Ii q_1.2.2.2.2.1, Ii q_1.2.2.2.2.2.1], .sl false 1 (Mb ([(4 : Int), (1 : Int), (2 : Int)] : List Int))] [] (.tuple [e_T_api_Ring r_9.1, Ii r_9.2.1, Ii r_9.2.2])) an)))) ?_
 refine sq ?_
 obtain ⟨r_10, h_13, h⟩ := bind_some h
 refine rg [(1, { id := 3 }), (2, { av := .tuple [e_T_api_Ring r_10.1, Ii r_10.2.1, Ii r_10.2.2], frz := [3], l := [.agg [Ii q_1.2.2.2.2.2.2.1, .sl false 1 (Mb q_1.2.2.2.2.2.2.2.1), Ii q_1.2.2.2.2.2.2.2.2.1, Ii q_1.2.2.2.2.2.2.2.2.2.1, Ii q_1.2.2.2.2.2.2.2.2.2.2.1, Ii q_1.2.2.2.2.2.2.2.2.2.2.2], .sl false 1 (Mb ([(4 : Int), (1 : Int), (2 : Int)] : List Int))] }), (7, { id := 4 })] [1, 2, 3, 6, 8, 11, 14, 15, 16, 17] [0, 1, 4] 5 [Pp 0, Ii r_9.2.2, Pp 1, Ii r_3.2, Ii r_4.2, Ii r_5.2.2, Ii r_9.2.1, Pp 4, Ii r_10.2.1, Ii r_10.2.2] [Vb 25 (v_T_api_Ring r_9.1), Vb 25 [Ii q_1.2.2.2.2.2.2.1, .sl false 1 (Mb q_1.2.2.2.2.2.2.2.1), Ii q_1.2.2.2.2.2.2.2.2.1, Ii q_1.2.2.2.2.2.2.2.2.2.1, Ii q_1.2.2.2.2.2.2.2.2.2.2.1, Ii q_1.2.2.2.2.2.2.2.2.2.2.2], Vb 25 (v_T_api_Ring r_10.1)] hmix (ac (by first | (simp; done) | (simp; omega) : 3 = ((List.map (AV.int .u8) ([(4 : Int), (1 : Int), (2 : Int)] : List Int))).length) (ar ([.agg [Ii q_1.2.2.2.2.2.2.1, .sl false 1 (Mb q_1.2.2.2.2.2.2.2.1), Ii q_1.2.2.2.2.2.2.2.2.1, Ii q_1.2.2.2.2.2.2.2.2.2.1, Ii q_1.2.2.2.2.2.2.2.2.2.2.1, Ii q_1.2.2.2.2.2.2.2.2.2.2.2], .sl false 1 (Mb ([(4 : Int), (1 : Int), (2 : Int)] : List Int))] : List AV) (ac (rfl : ([] : List BoxSt) = []) (ac (triple_lo (args' := [e_T_api_Ring (⟨q_1.2.2.2.2.2.2.1, q_1.2.2.2.2.2.2.2.1, q_1.2.2.2.2.2.2.2.2.1, q_1.2.2.2.2.2.2.2.2.2.1, q_1.2.2.2.2.2.2.2.2.2.2.1, q_1.2.2.2.2.2.2.2.2.2.2.2⟩ : T_api_Ring), .sl false 1 (Mb ([(4 : Int), (1 : Int), (2 : Int)] : List Int))]) (ring_Put_ok F (⟨q_1.2.2.2.2.2.2.1, q_1.2.2.2.2.2.2.2.1, q_1.2.2.2.2.2.2.2.2.1, q_1.2.2.2.2.2.2.2.2.2.1, q_1.2.2.2.2.2.2.2.2.2.2.1, q_1.2.2.2.2.2.2.2.2.2.2.2⟩ : T_api_Ring) ([(4 : Int), (1 : Int), (2 : Int)] : List Int) r_10 h_13) rfl ⟨rfl, rfl, rfl, rfl, rfl, rfl, rfl, rfl, rfl, rfl, rfl, trivial⟩ : TripleG prog 23 [] [] [.agg [Ii q_1.2.2.2.2.2.2.1, .sl false 1 (Mb q_1.2.2.2.2.2.2.2.1), Ii q_1.2.2.2.2.2.2.2.2.1, Ii q_1.2.2.2.2.2.2.2.2.2.1, Ii q_1.2.2.2.2.2.2.2.2.2.2.1, Ii q_1.2.2.2.2.2.2.2.2.2.2.2], .sl false 1 (Mb ([(4 : Int), (1 : Int), (2 : Int)] : List Int))] [] (.tuple [e_T_api_Ring r_10.1, Ii r_10.2.1, Ii r_10.2.2])) an)))) ?_
 refine sq ?_
 obtain ⟨r_11, h_14, h⟩ := bind_some h
 refine rg [(1, { av := .tuple [.own 0 ((r_11.1).length), e_T_api_Ring r_11.2], ids := [5], l := [e_T_api_Ring r_9.1], post := [(.row 23 1 (List.map (fun l => AV.sl false 1 (l.map (AV.int .u8))) r_11.1))] }), (5, { id := 6 })] [1, 2, 3, 6, 8, 11, 14, 15, 16, 17, 18, 19] [0, 1, 4, 5, 6] 7 [Pp 0, Ii r_9.2.2, Pp 1, Ii r_3.2, Ii r_4.2, Ii r_5.2.2, Ii r_9.2.1, Pp 4, Ii r_10.2.1, Ii r_10.2.2, .own 5 ((r_11.1).length), Pp 6] [Vb 25 (v_T_api_Ring r_9.1), Vb 25 [Ii q_1.2.2.2.2.2.2.1, .sl false 1 (Mb q_1.2.2.2.2.2.2.2.1), Ii q_1.2.2.2.2.2.2.2.2.1, Ii q_1.2.2.2.2.2.2.2.2.2.1, Ii q_1.2.2.2.2.2.2.2.2.2.2.1, Ii q_1.2.2.2.2.2.2.2.2.2.2.2], Vb 25 (v_T_api_Ring r_10.1), Rb 23 1 (List.map (fun l => AV.sl false 1 (l.map (AV.int .u8))) r_11.1), Vb 25 (v_T_api_Ring r_11.2)] hmix (ar ([e_T_api_Ring r_9.1] : List AV) (ac (rfl : ([] : List BoxSt) = []) (ac (ring_Take_ok F r_9.1 r_11 h_14 : TripleG prog 16 [] [] [e_T_api_Ring r_9.1] [(.row 23 1 (List.map (fun l => AV.sl false 1 (l.map (AV.int .u8))) r_11.1))] (.tuple [.own 0 ((r_11.1).length), e_T_api_Ring r_11.2])) an))) ?_
 refine sq ?_
 obtain ⟨p_2, h_20, h⟩ := bind_some h
 refine aw_mid (mk [(0, .bool p_2)] [] 0) ?_ ?_
 ·replace h := h_20
  rcases bft (r_3.2 == (2 : Int)) with gg_10 | gg_10
  ·replace h := cond_t gg_10 h
   rcases bft (r_4.2 == (1 : Int)) with gg_11 | gg_11
   ·replace h := cond_t gg_11 h
    rcases bft (r_5.2.2 == (7 : Int)) with gg_12 | gg_12
    ·replace h := cond_t gg_12 h
     rcases bft (r_9.2.1 == (1 : Int)) with gg_13 | gg_13
     ·replace h := cond_t gg_13 h
      rcases bft (r_9.2.2 == (0 : Int)) with gg_14 | gg_14
      ·replace h := cond_t gg_14 h
       rcases bft (r_9.1.First == (1 : Int)) with gg_15 | gg_15
       ·replace h := cond_t gg_15 h
        rcases bft (r_9.1.Next == (5 : Int)) with gg_16 | gg_16
        ·replace h := cond_t gg_16 h
         rcases bft (r_9.1.Start == (4 : Int)) with gg_17 | gg_17
         ·replace h := cond_t gg_17 h
          rcases bft (r_9.1.End == (20 : Int)) with gg_18 | gg_18
          ·replace h := cond_t gg_18 h
           obtain ⟨r_12, h_15, h⟩ := bind_some h
           rcases bft (r_12 == (4 : Int)) with gg_19 | gg_19
           ·replace h := cond_t gg_19 h
            rcases bft (r_10.2.1 == (0 : Int)) with gg_20 | gg_20
            ·replace h := cond_t gg_20 h
             rcases bft (r_10.2.2 == (6 : Int)) with gg_21 | gg_21
             ·replace h := cond_t gg_21 h
              obtain ⟨r_13, h_16, h⟩ := bind_some h
              rcases Bool.eq_false_or_eq_true r_13 with gg_22 | gg_22
              ·replace h := cond_t gg_22 h
               rcases bft ((lN (r_11.1)) == (4 : Int)) with gg_23 | gg_23
               ·replace h := cond_t gg_23 h
                obtain ⟨x_1, h_17, h⟩ := bind_some h
                rcases bft (x_1 == ([1, 1, 2] : List Int)) with gg_24 | gg_24
                ·replace h := cond_t gg_24 h
                 obtain ⟨x_2, h_18, h⟩ := bind_some h
                 rcases bft (x_2 == ([4, 1, 2] : List Int)) with gg_25 | gg_25
                 ·replace h := cond_t gg_25 h
                  rcases bft (r_11.2.First == (5 : Int)) with gg_26 | gg_26
                  ·replace h := cond_t gg_26 h
                   rcases bft (r_11.2.Start == (20 : Int)) with gg_27 | gg_27
                   ·replace h := cond_t gg_27 h
                    obtain ⟨r_14, h_19, h⟩ := bind_some h
                    refine rg [(5, Ht), (9, Ht), (13, Ht), (17, Ht), (22, Ht), (27, Ht), (32, Ht), (37, Ht), (40, { av := Ii r_12, l := [e_T_api_Ring r_9.1] }), (42, Ht), (46, Ht), (50, Ht), (54, { av := .bool r_13, l := [e_T_api_Ring r_10.1, .agg [Ii q_1.2.2.2.2.2.2.1, .sl false 1 (Mb q_1.2.2.2.2.2.2.2.1), Ii q_1.2.2.2.2.2.2.2.2.1, Ii q_1.2.2.2.2.2.2.2.2.2.1, Ii q_1.2.2.2.2.2.2.2.2.2.2.1, Ii q_1.2.2.2.2.2.2.2.2.2.2.2]] }), (55, Ht), (60, Ht), (64, { av := .sl false 1 (Mb x_1) }), (65, { s := x_1 }), (67, Ht), (71, { av := .sl false 1 (Mb x_2) }), (72, { s := x_2 }), (74, Ht), (79, Ht), (84, Ht), (87, { av := Ii r_14, l := [e_T_api_Ring r_11.2] }), (89, Ht)] [0] [] 7 [.bool (r_14 == (0 : Int))] [] hmix (ac gg_10 (ac gg_10 (ac gg_10 (ac gg_11 (ac gg_11 (ac gg_11 (ac gg_12 (ac gg_12 (ac gg_12 (ac gg_13 (ac gg_13 (ac gg_13 (ac gg_14 (ac gg_14 (ac gg_14 (ac gg_14 (ac gg_15 (ac gg_15 (ac gg_15 (ac gg_15 (ac gg_16 (ac gg_16 (ac gg_16 (ac gg_16 (ac gg_17 (ac gg_17 (ac gg_17 (ac gg_17 (ac gg_18 (ac gg_18 (ar ([e_T_api_Ring r_9.1] : List AV) (ac (rfl : ([] : List BoxSt) = []) (ac (ring_Count_ok F r_9.1 r_12 h_15 : TripleG prog 12 [] [] [e_T_api_Ring r_9.1] [] (Ii r_12)) (ac gg_18 (ac gg_18 (ac gg_19 (ac gg_19 (ac gg_19 (ac gg_20 (ac gg_20 (ac gg_20 (ac gg_21 (ac gg_21 (ac gg_21 (ar ([e_T_api_Ring r_10.1, .agg [Ii q_1.2.2.2.2.2.2.1, .sl false 1 (Mb q_1.2.2.2.2.2.2.2.1), Ii q_1.2.2.2.2.2.2.2.2.1, Ii q_1.2.2.2.2.2.2.2.2.2.1, Ii q_1.2.2.2.2.2.2.2.2.2.2.1, Ii q_1.2.2.2.2.2.2.2.2.2.2.2]] : List AV) (ac (rfl : ([] : List BoxSt) = []) (ac (triple_lo (args' := [e_T_api_Ring r_10.1, e_T_api_Ring (⟨q_1.2.2.2.2.2.2.1, q_1.2.2.2.2.2.2.2.1, q_1.2.2.2.2.2.2.2.2.1, q_1.2.2.2.2.2.2.2.2.2.1, q_1.2.2.2.2.2.2.2.2.2.2.1, q_1.2.2.2.2.2.2.2.2.2.2.2⟩ : T_api_Ring)]) (R09_Same_ok F r_10.1 (⟨q_1.2.2.2.2.2.2.1, q_1.2.2.2.2.2.2.2.1, q_1.2.2.2.2.2.2.2.2.1, q_1.2.2.2.2.2.2.2.2.2.1, q_1.2.2.2.2.2.2.2.2.2.2.1, q_1.2.2.2.2.2.2.2.2.2.2.2⟩ : T_api_Ring) r_13 h_16) rfl ⟨rfl, rfl, rfl, rfl, rfl, rfl, rfl, rfl, rfl, rfl, rfl, rfl, rfl, rfl, rfl, rfl, trivial⟩ : TripleG prog 22 [] [] [e_T_api_Ring r_10.1, .agg [Ii q_1.2.2.2.2.2.2.1, .sl false 1 (Mb q_1.2.2.2.2.2.2.2.1), Ii q_1.2.2.2.2.2.2.2.2.1, Ii q_1.2.2.2.2.2.2.2.2.2.1, Ii q_1.2.2.2.2.2.2.2.2.2.2.1, Ii q_1.2.2.2.2.2.2.2.2.2.2.2]] [] (.bool r_13)) (ac gg_21 (ac gg_22 (ac gg_22 (ac gg_22 (ac gg_22 (ac gg_23 (ac gg_23 (ac (idxL_lo h_17 : (0 : Int) ≤ (0 : Int)) (ac (by first | (simp; done) | simpa using idxL_hi h_17 : (0 : Int) < (((r_11.1).length : Nat) : Int)) (ac gg_23 (ac (vc_get h_17 : (List.map (fun l => AV.sl false 1 (l.map (AV.int .u8))) r_11.1)[0]? = some (.sl false 1 (Mb x_1))) (ac gg_23 (ac (rfl : (Mb x_1) = List.map (AV.int .u8) x_1) (ac gg_23 (ac gg_23 (ac gg_24 (ac gg_24 (ac (idxL_lo h_18 : (0 : Int) ≤ (3 : Int)) (ac (by first | (simp; done) | simpa using idxL_hi h_18 : (3 : Int) < (((r_11.1).length : Nat) : Int)) (ac gg_24 (ac (vc_get h_18 : (List.map (fun l => AV.sl false 1 (l.map (AV.int .u8))) r_11.1)[3]? = some (.sl false 1 (Mb x_2))) (ac gg_24 (ac (rfl : (Mb x_2) = List.map (AV.int .u8) x_2) (ac gg_24 (ac gg_24 (ac gg_25 (ac gg_25 (ac gg_25 (ac gg_25 (ac gg_26 (ac gg_26 (ac gg_26 (ac gg_26 (ac gg_27 (ac gg_27 (ar ([e_T_api_Ring r_11.2] : List AV) (ac (rfl : ([] : List BoxSt) = []) (ac (ring_Count_ok F r_11.2 r_14 h_19 : TripleG prog 12 [] [] [e_T_api_Ring r_11.2] [] (Ii r_14)) (ac gg_27 (ac gg_27 an))))))))))))))))))))))))))))))))))))))))))))))))))))))))))))))))))))))))))))))))))))))) ?_
                    cases h
                    exact ⟨rfl, (sw [] [] [.s 0] [] an)⟩
                   ·replace h := cond_f gg_27 h
                    refine rg [(5, Ht), (9, Ht), (13, Ht), (17, Ht), (22, Ht), (27, Ht), (32, Ht), (37, Ht), (40, { av := Ii r_12, l := [e_T_api_Ring r_9.1] }), (42, Ht), (46, Ht), (50, Ht), (54, { av := .bool r_13, l := [e_T_api_Ring r_10.1, .agg [Ii q_1.2.2.2.2.2.2.1, .sl false 1 (Mb q_1.2.2.2.2.2.2.2.1), Ii q_1.2.2.2.2.2.2.2.2.1, Ii q_1.2.2.2.2.2.2.2.2.2.1, Ii q_1.2.2.2.2.2.2.2.2.2.2.1, Ii q_1.2.2.2.2.2.2.2.2.2.2.2]] }), (55, Ht), (60, Ht), (64, { av := .sl false 1 (Mb x_1) }), (65, { s := x_1 }), (67, Ht), (71, { av := .sl false 1 (Mb x_2) }), (72, { s := x_2 }), (74, Ht), (79, Ht), (84, Ht), (86, Hg), (87, Hg), (88, Hg), (89, Hf)] [0] [] 7 [.bool false] [] hmix (ac gg_10 (ac gg_10 (ac gg_10 (ac gg_11 (ac gg_11 (ac gg_11 (ac gg_12 (ac gg_12 (ac gg_12 (ac gg_13 (ac gg_13 (ac gg_13 (ac gg_14 (ac gg_14 (ac gg_14 (ac gg_14 (ac gg_15 (ac gg_15 (ac gg_15 (ac gg_15 (ac gg_16 (ac gg_16 (ac gg_16 (ac gg_16 (ac gg_17 (ac gg_17 (ac gg_17 (ac gg_17 (ac gg_18 (ac gg_18 (ar ([e_T_api_Ring r_9.1] : List AV) (ac (rfl : ([] : List BoxSt) = []) (ac (ring_Count_ok F r_9.1 r_12 h_15 : TripleG prog 12 [] [] [e_T_api_Ring r_9.1] [] (Ii r_12)) (ac gg_18 (ac gg_18 (ac gg_19 (ac gg_19 (ac gg_19 (ac gg_20 (ac gg_20 (ac gg_20 (ac gg_21 (ac gg_21 (ac gg_21 (ar ([e_T_api_Ring r_10.1, .agg [Ii q_1.2.2.2.2.2.2.1, .sl false 1 (Mb q_1.2.2.2.2.2.2.2.1), Ii q_1.2.2.2.2.2.2.2.2.1, Ii q_1.2.2.2.2.2.2.2.2.2.1, Ii q_1.2.2.2.2.2.2.2.2.2.2.1, Ii q_1.2.2.2.2.2.2.2.2.2.2.2]] : List AV) (ac (rfl : ([] : List BoxSt) = []) (ac (triple_lo (args' := [e_T_api_Ring r_10.1, e_T_api_Ring (⟨q_1.2.2.2.2.2.2.1, q_1.2.2.2.2.2.2.2.1, q_1.2.2.2.2.2.2.2.2.1, q_1.2.2.2.2.2.2.2.2.2.1, q_1.2.2.2.2.2.2.2.2.2.2.1, q_1.2.2.2.2.2.2.2.2.2.2.2⟩ : T_api_Ring)]) (R09_Same_ok F r_10.1 (⟨q_1.2.2.2.2.2.2.1, q_1.2.2.2.2.2.2.2.1, q_1.2.2.2.2.2.2.2.2.1, q_1.2.2.2.2.2.2.2.2.2.1, q_1.2.2.2.2.2.2.2.2.2.2.1, q_1.2.2.2.2.2.2.2.2.2.2.2⟩ : T_api_Ring) r_13 h_16) rfl ⟨rfl, rfl, rfl, rfl, rfl, rfl, rfl, rfl, rfl, rfl, rfl, rfl, rfl, rfl, rfl, rfl, trivial⟩ : TripleG prog 22 [] [] [e_T_api_Ring r_10.1, .agg [Ii q_1.2.2.2.2.2.2.1, .sl false 1 (Mb q_1.2.2.2.2.2.2.2.1), Ii q_1.2.2.2.2.2.2.2.2.1, Ii q_1.2.2.2.2.2.2.2.2.2.1, Ii q_1.2.2.2.2.2.2.2.2.2.2.1, Ii q_1.2.2.2.2.2.2.2.2.2.2.2]] [] (.bool r_13)) (ac gg_21 (ac gg_22 (ac gg_22 (ac gg_22 (ac gg_22 (ac gg_23 (ac gg_23 (ac (idxL_lo h_17 : (0 : Int) ≤ (0 : Int)) (ac (by first | (simp; done) | simpa using idxL_hi h_17 : (0 : Int) < (((r_11.1).length : Nat) : Int)) (ac gg_23 (ac (vc_get h_17 : (List.map (fun l => AV.sl false 1 (l.map (AV.int .u8))) r_11.1)[0]? = some (.sl false 1 (Mb x_1))) (ac gg_23 (ac (rfl : (Mb x_1) = List.map (AV.int .u8) x_1) (ac gg_23 (ac gg_23 (ac gg_24 (ac gg_24 (ac (idxL_lo h_18 : (0 : Int) ≤ (3 : Int)) (ac (by first | (simp; done) | simpa using idxL_hi h_18 : (3 : Int) < (((r_11.1).length : Nat) : Int)) (ac gg_24 (ac (vc_get h_18 : (List.map (fun l => AV.sl false 1 (l.map (AV.int .u8))) r_11.1)[3]? = some (.sl false 1 (Mb x_2))) (ac gg_24 (ac (rfl : (Mb x_2) = List.map (AV.int .u8) x_2) (ac gg_24 (ac gg_24 (ac gg_25 (ac gg_25 (ac gg_25 (ac gg_25 (ac gg_26 (ac gg_26 (ac gg_26 (ac gg_26 (ac gg_27 (ac gg_27 (ac gg_27 (ac gg_27 an)))))))))))))))))))))))))))))))))))))))))))))))))))))))))))))))))))))))))))))))))))) ?_
                    cases h
                    exact ⟨rfl, (sw [] [] [.s 0] [] an)⟩
                  ·replace h := cond_f gg_26 h
                   refine rg [(5, Ht), (9, Ht), (13, Ht), (17, Ht), (22, Ht), (27, Ht), (32, Ht), (37, Ht), (40, { av := Ii r_12, l := [e_T_api_Ring r_9.1] }), (42, Ht), (46, Ht), (50, Ht), (54, { av := .bool r_13, l := [e_T_api_Ring r_10.1, .agg [Ii q_1.2.2.2.2.2.2.1, .sl false 1 (Mb q_1.2.2.2.2.2.2.2.1), Ii q_1.2.2.2.2.2.2.2.2.1, Ii q_1.2.2.2.2.2.2.2.2.2.1, Ii q_1.2.2.2.2.2.2.2.2.2.2.1, Ii q_1.2.2.2.2.2.2.2.2.2.2.2]] }), (55, Ht), (60, Ht), (64, { av := .sl false 1 (Mb x_1) }), (65, { s := x_1 }), (67, Ht), (71, { av := .sl false 1 (Mb x_2) }), (72, { s := x_2 }), (74, Ht), (79, Ht), (81, Hg), (82, Hg), (83, Hg), (84, Hf), (86, Hg), (87, Hg), (88, Hg), (89, Hf)] [0] [] 7 [.bool false] [] hmix (ac gg_10 (ac gg_10 (ac gg_10 (ac gg_11 (ac gg_11 (ac gg_11 (ac gg_12 (ac gg_12 (ac gg_12 (ac gg_13 (ac gg_13 (ac gg_13 (ac gg_14 (ac gg_14 (ac gg_14 (ac gg_14 (ac gg_15 (ac gg_15 (ac gg_15 (ac gg_15 (ac gg_16 (ac gg_16 (ac gg_16 (ac gg_16 (ac gg_17 (ac gg_17 (ac gg_17 (ac gg_17 (ac gg_18 (ac gg_18 (ar ([e_T_api_Ring r_9.1] : List AV) (ac (rfl : ([] : List BoxSt) = []) (ac (ring_Count_ok F r_9.1 r_12 h_15 : TripleG prog 12 [] [] [e_T_api_Ring r_9.1] [] (Ii r_12)) (ac gg_18 (ac gg_18 (ac gg_19 (ac gg_19 (ac gg_19 (ac gg_20 (ac gg_20 (ac gg_20 (ac gg_21 (ac gg_21 (ac gg_21 (ar ([e_T_api_Ring r_10.1, .agg [Ii q_1.2.2.2.2.2.2.1, .sl false 1 (Mb q_1.2.2.2.2.2.2.2.1), Ii q_1.2.2.2.2.2.2.2.2.1, Ii q_1.2.2.2.2.2.2.2.2.2.1, Ii q_1.2.2.2.2.2.2.2.2.2.2.1, Ii q_1.2.2.2.2.2.2.2.2.2.2.2]] : List AV) (ac (rfl : ([] : List BoxSt) = []) (ac (triple_lo (args' := [e_T_api_Ring r_10.1, e_T_api_Ring (⟨q_1.2.2.2.2.2.2.1, q_1.2.2.2.2.2.2.2.1, q_1.2.2.2.2.2.2.2.2.1, q_1.2.2.2.2.2.2.2.2.2.1, q_1.2.2.2.2.2.2.2.2.2.2.1, q_1.2.2.2.2.2.2.2.2.2.2.2⟩ : T_api_Ring)]) (R09_Same_ok F r_10.1 (⟨q_1.2.2.2.2.2.2.1, q_1.2.2.2.2.2.2.2.1, q_1.2.2.2.2.2.2.2.2.1, q_1.2.2.2.2.2.2.2.2.2.1, q_1.2.2.2.2.2.2.2.2.2.2.1, q_1.2.2.2.2.2.2.2.2.2.2.2⟩ : T_api_Ring) r_13 h_16) rfl ⟨rfl, rfl, rfl, rfl, rfl, rfl, rfl, rfl, rfl, rfl, rfl, rfl, rfl, rfl, rfl, rfl, trivial⟩ : TripleG prog 22 [] [] [e_T_api_Ring r_10.1, .agg [Ii q_1.2.2.2.2.2.2.1, .sl false 1 (Mb q_1.2.2.2.2.2.2.2.1), Ii q_1.2.2.2.2.2.2.2.2.1, Ii q_1.2.2.2.2.2.2.2.2.2.1, Ii q_1.2.2.2.2.2.2.2.2.2.2.1, Ii q_1.2.2.2.2.2.2.2.2.2.2.2]] [] (.bool r_13)) (ac gg_21 (ac gg_22 (ac gg_22 (ac gg_22 (ac gg_22 (ac gg_23 (ac gg_23 (ac (idxL_lo h_17 : (0 : Int) ≤ (0 : Int)) (ac (by first | (simp; done) | simpa using idxL_hi h_17 : (0 : Int) < (((r_11.1).length : Nat) : Int)) (ac gg_23 (ac (vc_get h_17 : (List.map (fun l => AV.sl false 1 (l.map (AV.int .u8))) r_11.1)[0]? = some (.sl false 1 (Mb x_1))) (ac gg_23 (ac (rfl : (Mb x_1) = List.map (AV.int .u8) x_1) (ac gg_23 (ac gg_23 (ac gg_24 (ac gg_24 (ac (idxL_lo h_18 : (0 : Int) ≤ (3 : Int)) (ac (by first | (simp; done) | simpa using idxL_hi h_18 : (3 : Int) < (((r_11.1).length : Nat) : Int)) (ac gg_24 (ac (vc_get h_18 : (List.map (fun l => AV.sl false 1 (l.map (AV.int .u8))) r_11.1)[3]? = some (.sl false 1 (Mb x_2))) (ac gg_24 (ac (rfl : (Mb x_2) = List.map (AV.int .u8) x_2) (ac gg_24 (ac gg_24 (ac gg_25 (ac gg_25 (ac gg_25 (ac gg_25 (ac gg_26 (ac gg_26 (ac gg_26 (ac gg_26 (ac (rfl : false = !true) (ac (rfl : false = !true) (ac (rfl : false = !true) (ar false an)))))))))))))))))))))))))))))))))))))))))))))))))))))))))))))))))))))))))))))))))))) ?_
                   cases h
                   exact ⟨rfl, (sw [] [] [.s 0] [] an)⟩
                 ·replace h := cond_f gg_25 h
                  refine rg [(5, Ht), (9, Ht), (13, Ht), (17, Ht), (22, Ht), (27, Ht), (32, Ht), (37, Ht), (40, { av := Ii r_12, l := [e_T_api_Ring r_9.1] }), (42, Ht), (46, Ht), (50, Ht), (54, { av := .bool r_13, l := [e_T_api_Ring r_10.1, .agg [Ii q_1.2.2.2.2.2.2.1, .sl false 1 (Mb q_1.2.2.2.2.2.2.2.1), Ii q_1.2.2.2.2.2.2.2.2.1, Ii q_1.2.2.2.2.2.2.2.2.2.1, Ii q_1.2.2.2.2.2.2.2.2.2.2.1, Ii q_1.2.2.2.2.2.2.2.2.2.2.2]] }), (55, Ht), (60, Ht), (64, { av := .sl false 1 (Mb x_1) }), (65, { s := x_1 }), (67, Ht), (71, { av := .sl false 1 (Mb x_2) }), (72, { s := x_2 }), (74, Ht), (76, Hg), (77, Hg), (78, Hg), (79, Hf), (81, Hg), (82, Hg), (83, Hg), (84, Hf), (86, Hg), (87, Hg), (88, Hg), (89, Hf)] [0] [] 7 [.bool false] [] hmix (ac gg_10 (ac gg_10 (ac gg_10 (ac gg_11 (ac gg_11 (ac gg_11 (ac gg_12 (ac gg_12 (ac gg_12 (ac gg_13 (ac gg_13 (ac gg_13 (ac gg_14 (ac gg_14 (ac gg_14 (ac gg_14 (ac gg_15 (ac gg_15 (ac gg_15 (ac gg_15 (ac gg_16 (ac gg_16 (ac gg_16 (ac gg_16 (ac gg_17 (ac gg_17 (ac gg_17 (ac gg_17 (ac gg_18 (ac gg_18 (ar ([e_T_api_Ring r_9.1] : List AV) (ac (rfl : ([] : List BoxSt) = []) (ac (ring_Count_ok F r_9.1 r_12 h_15 : TripleG prog 12 [] [] [e_T_api_Ring r_9.1] [] (Ii r_12)) (ac gg_18 (ac gg_18 (ac gg_19 (ac gg_19 (ac gg_19 (ac gg_20 (ac gg_20 (ac gg_20 (ac gg_21 (ac gg_21 (ac gg_21 (ar ([e_T_api_Ring r_10.1, .agg [Ii q_1.2.2.2.2.2.2.1, .sl false 1 (Mb q_1.2.2.2.2.2.2.2.1), Ii q_1.2.2.2.2.2.2.2.2.1, Ii q_1.2.2.2.2.2.2.2.2.2.1, Ii q_1.2.2.2.2.2.2.2.2.2.2.1, Ii q_1.2.2.2.2.2.2.2.2.2.2.2]] : List AV) (ac (rfl : ([] : List BoxSt) = []) (ac (triple_lo (args' := [e_T_api_Ring r_10.1, e_T_api_Ring (⟨q_1.2.2.2.2.2.2.1, q_1.2.2.2.2.2.2.2.1, q_1.2.2.2.2.2.2.2.2.1, q_1.2.2.2.2.2.2.2.2.2.1, q_1.2.2.2.2.2.2.2.2.2.2.1, q_1.2.2.2.2.2.2.2.2.2.2.2⟩ : T_api_Ring)]) (R09_Same_ok F r_10.1 (⟨q_1.2.2.2.2.2.2.1, q_1.2.2.2.2.2.2.2.1, q_1.2.2.2.2.2.2.2.2.1, q_1.2.2.2.2.2.2.2.2.2.1, q_1.2.2.2.2.2.2.2.2.2.2.1, q_1.2.2.2.2.2.2.2.2.2.2.2⟩ : T_api_Ring) r_13 h_16) rfl ⟨rfl, rfl, rfl, rfl, rfl, rfl, rfl, rfl, rfl, rfl, rfl, rfl, rfl, rfl, rfl, rfl, trivial⟩ : TripleG prog 22 [] [] [e_T_api_Ring r_10.1, .agg [Ii q_1.2.2.2.2.2.2.1, .sl false 1 (Mb q_1.2.2.2.2.2.2.2.1), Ii q_1.2.2.2.2.2.2.2.2.1, Ii q_1.2.2.2.2.2.2.2.2.2.1, Ii q_1.2.2.2.2.2.2.2.2.2.2.1, Ii q_1.2.2.2.2.2.2.2.2.2.2.2]] [] (.bool r_13)) (ac gg_21 (ac gg_22 (ac gg_22 (ac gg_22 (ac gg_22 (ac gg_23 (ac gg_23 (ac (idxL_lo h_17 : (0 : Int) ≤ (0 : Int)) (ac (by first | (simp; done) | simpa using idxL_hi h_17 : (0 : Int) < (((r_11.1).length : Nat) : Int)) (ac gg_23 (ac (vc_get h_17 : (List.map (fun l => AV.sl false 1 (l.map (AV.int .u8))) r_11.1)[0]? = some (.sl false 1 (Mb x_1))) (ac gg_23 (ac (rfl : (Mb x_1) = List.map (AV.int .u8) x_1) (ac gg_23 (ac gg_23 (ac gg_24 (ac gg_24 (ac (idxL_lo h_18 : (0 : Int) ≤ (3 : Int)) (ac (by first | (simp; done) | simpa using idxL_hi h_18 : (3 : Int) < (((r_11.1).length : Nat) : Int)) (ac gg_24 (ac (vc_get h_18 : (List.map (fun l => AV.sl false 1 (l.map (AV.int .u8))) r_11.1)[3]? = some (.sl false 1 (Mb x_2))) (ac gg_24 (ac (rfl : (Mb x_2) = List.map (AV.int .u8) x_2) (ac gg_24 (ac gg_24 (ac gg_25 (ac gg_25 (ac gg_25 (ac gg_25 (ac (rfl : false = !true) (ac (rfl : false = !true) (ac (rfl : false = !true) (ar false (ac (rfl : false = !true) (ac (rfl : false = !true) (ac (rfl : false = !true) (ar false an)))))))))))))))))))))))))))))))))))))))))))))))))))))))))))))))))))))))))))))))))))) ?_
                  cases h
                  exact ⟨rfl, (sw [] [] [.s 0] [] an)⟩
                ·replace h := cond_f gg_24 h
                 refine rg [(5, Ht), (9, Ht), (13, Ht), (17, Ht), (22, Ht), (27, Ht), (32, Ht), (37, Ht), (40, { av := Ii r_12, l := [e_T_api_Ring r_9.1] }), (42, Ht), (46, Ht), (50, Ht), (54, { av := .bool r_13, l := [e_T_api_Ring r_10.1, .agg [Ii q_1.2.2.2.2.2.2.1, .sl false 1 (Mb q_1.2.2.2.2.2.2.2.1), Ii q_1.2.2.2.2.2.2.2.2.1, Ii q_1.2.2.2.2.2.2.2.2.2.1, Ii q_1.2.2.2.2.2.2.2.2.2.2.1, Ii q_1.2.2.2.2.2.2.2.2.2.2.2]] }), (55, Ht), (60, Ht), (64, { av := .sl false 1 (Mb x_1) }), (65, { s := x_1 }), (67, Ht), (69, Hg), (70, Hg), (71, Hg), (72, Hg), (73, Hg), (74, Hf), (76, Hg), (77, Hg), (78, Hg), (79, Hf), (81, Hg), (82, Hg), (83, Hg), (84, Hf), (86, Hg), (87, Hg), (88, Hg), (89, Hf)] [0] [] 7 [.bool false] [] hmix (ac gg_10 (ac gg_10 (ac gg_10 (ac gg_11 (ac gg_11 (ac gg_11 (ac gg_12 (ac gg_12 (ac gg_12 (ac gg_13 (ac gg_13 (ac gg_13 (ac gg_14 (ac gg_14 (ac gg_14 (ac gg_14 (ac gg_15 (ac gg_15 (ac gg_15 (ac gg_15 (ac gg_16 (ac gg_16 (ac gg_16 (ac gg_16 (ac gg_17 (ac gg_17 (ac gg_17 (ac gg_17 (ac gg_18 (ac gg_18 (ar ([e_T_api_Ring r_9.1] : List AV) (ac (rfl : ([] : List BoxSt) = []) (ac (ring_Count_ok F r_9.1 r_12 h_15 : TripleG prog 12 [] [] [e_T_api_Ring r_9.1] [] (Ii r_12)) (ac gg_18 (ac gg_18 (ac gg_19 (ac gg_19 (ac gg_19 (ac gg_20 (ac gg_20 (ac gg_20 (ac gg_21 (ac gg_21 (ac gg_21 (ar ([e_T_api_Ring r_10.1, .agg [Ii q_1.2.2.2.2.2.2.1, .sl false 1 (Mb q_1.2.2.2.2.2.2.2.1), Ii q_1.2.2.2.2.2.2.2.2.1, Ii q_1.2.2.2.2.2.2.2.2.2.1, Ii q_1.2.2.2.2.2.2.2.2.2.2.1, Ii q_1.2.2.2.2.2.2.2.2.2.2.2]] : List AV) (ac (rfl : ([] : List BoxSt) = []) (ac (triple_lo (args' := [e_T_api_Ring r_10.1, e_T_api_Ring (⟨q_1.2.2.2.2.2.2.1, q_1.2.2.2.2.2.2.2.1, q_1.2.2.2.2.2.2.2.2.1, q_1.2.2.2.2.2.2.2.2.2.1, q_1.2.2.2.2.2.2.2.2.2.2.1, q_1.2.2.2.2.2.2.2.2.2.2.2⟩ : T_api_Ring)]) (R09_Same_ok F r_10.1 (⟨q_1.2.2.2.2.2.2.1, q_1.2.2.2.2.2.2.2.1, q_1.2.2.2.2.2.2.2.2.1, q_1.2.2.2.2.2.2.2.2.2.1, q_1.2.2.2.2.2.2.2.2.2.2.1, q_1.2.2.2.2.2.2.2.2.2.2.2⟩ : T_api_Ring) r_13 h_16) rfl ⟨rfl, rfl, rfl, rfl, rfl, rfl, rfl, rfl, rfl, rfl, rfl, rfl, rfl, rfl, rfl, rfl, trivial⟩ : TripleG prog 22 [] [] [e_T_api_Ring r_10.1, .agg [Ii q_1.2.2.2.2.2.2.1, .sl false 1 (Mb q_1.2.2.2.2.2.2.2.1), Ii q_1.2.2.2.2.2.2.2.2.1, Ii q_1.2.2.2.2.2.2.2.2.2.1, Ii q_1.2.2.2.2.2.2.2.2.2.2.1, Ii q_1.2.2.2.2.2.2.2.2.2.2.2]] [] (.bool r_13)) (ac gg_21 (ac gg_22 (ac gg_22 (ac gg_22 (ac gg_22 (ac gg_23 (ac gg_23 (ac (idxL_lo h_17 : (0 : Int) ≤ (0 : Int)) (ac (by first | (simp; done) | simpa using idxL_hi h_17 : (0 : Int) < (((r_11.1).length : Nat) : Int)) (ac gg_23 (ac (vc_get h_17 : (List.map (fun l => AV.sl false 1 (l.map (AV.int .u8))) r_11.1)[0]? = some (.sl false 1 (Mb x_1))) (ac gg_23 (ac (rfl : (Mb x_1) = List.map (AV.int .u8) x_1) (ac gg_23 (ac gg_23 (ac gg_24 (ac gg_24 (ac gg_24 (ac gg_24 (ac gg_24 (ac gg_24 (ac (rfl : false = !true) (ac (rfl : false = !true) (ac (rfl : false = !true) (ar false (ac (rfl : false = !true) (ac (rfl : false = !true) (ac (rfl : false = !true) (ar false (ac (rfl : false = !true) (ac (rfl : false = !true) (ac (rfl : false = !true) (ar false an)))))))))))))))))))))))))))))))))))))))))))))))))))))))))))))))))))))))))))))))) ?_
                 cases h
                 exact ⟨rfl, (sw [] [] [.s 0] [] an)⟩
               ·replace h := cond_f gg_23 h
                refine rg [(5, Ht), (9, Ht), (13, Ht), (17, Ht), (22, Ht), (27, Ht), (32, Ht), (37, Ht), (40, { av := Ii r_12, l := [e_T_api_Ring r_9.1] }), (42, Ht), (46, Ht), (50, Ht), (54, { av := .bool r_13, l := [e_T_api_Ring r_10.1, .agg [Ii q_1.2.2.2.2.2.2.1, .sl false 1 (Mb q_1.2.2.2.2.2.2.2.1), Ii q_1.2.2.2.2.2.2.2.2.1, Ii q_1.2.2.2.2.2.2.2.2.2.1, Ii q_1.2.2.2.2.2.2.2.2.2.2.1, Ii q_1.2.2.2.2.2.2.2.2.2.2.2]] }), (55, Ht), (60, Ht), (62, Hg), (63, Hg), (64, Hg), (65, Hg), (66, Hg), (67, Hf), (69, Hg), (70, Hg), (71, Hg), (72, Hg), (73, Hg), (74, Hf), (76, Hg), (77, Hg), (78, Hg), (79, Hf), (81, Hg), (82, Hg), (83, Hg), (84, Hf), (86, Hg), (87, Hg), (88, Hg), (89, Hf)] [0] [] 7 [.bool false] [] hmix (ac gg_10 (ac gg_10 (ac gg_10 (ac gg_11 (ac gg_11 (ac gg_11 (ac gg_12 (ac gg_12 (ac gg_12 (ac gg_13 (ac gg_13 (ac gg_13 (ac gg_14 (ac gg_14 (ac gg_14 (ac gg_14 (ac gg_15 (ac gg_15 (ac gg_15 (ac gg_15 (ac gg_16 (ac gg_16 (ac gg_16 (ac gg_16 (ac gg_17 (ac gg_17 (ac gg_17 (ac gg_17 (ac gg_18 (ac gg_18 (ar ([e_T_api_Ring r_9.1] : List AV) (ac (rfl : ([] : List BoxSt) = []) (ac (ring_Count_ok F r_9.1 r_12 h_15 : TripleG prog 12 [] [] [e_T_api_Ring r_9.1] [] (Ii r_12)) (ac gg_18 (ac gg_18 (ac gg_19 (ac gg_19 (ac gg_19 (ac gg_20 (ac gg_20 (ac gg_20 (ac gg_21 (ac gg_21 (ac gg_21 (ar ([e_T_api_Ring r_10.1, .agg [Ii q_1.2.2.2.2.2.2.1, .sl false 1 (Mb q_1.2.2.2.2.2.2.2.1), Ii q_1.2.2.2.2.2.2.2.2.1, Ii q_1.2.2.2.2.2.2.2.2.2.1, Ii q_1.2.2.2.2.2.2.2.2.2.2.1, Ii q_1.2.2.2.2.2.2.2.2.2.2.2]] : List AV) (ac (rfl : ([] : List BoxSt) = []) (ac (triple_lo (args' := [e_T_api_Ring r_10.1, e_T_api_Ring (⟨q_1.2.2.2.2.2.2.1, q_1.2.2.2.2.2.2.2.1, q_1.2.2.2.2.2.2.2.2.1, q_1.2.2.2.2.2.2.2.2.2.1, q_1.2.2.2.2.2.2.2.2.2.2.1, q_1.2.2.2.2.2.2.2.2.2.2.2⟩ : T_api_Ring)]) (R09_Same_ok F r_10.1 (⟨q_1.2.2.2.2.2.2.1, q_1.2.2.2.2.2.2.2.1, q_1.2.2.2.2.2.2.2.2.1, q_1.2.2.2.2.2.2.2.2.2.1, q_1.2.2.2.2.2.2.2.2.2.2.1, q_1.2.2.2.2.2.2.2.2.2.2.2⟩ : T_api_Ring) r_13 h_16) rfl ⟨rfl, rfl, rfl, rfl, rfl, rfl, rfl, rfl, rfl, rfl, rfl, rfl, rfl, rfl, rfl, rfl, trivial⟩ : TripleG prog 22 [] [] [e_T_api_Ring r_10.1, .agg [Ii q_1.2.2.2.2.2.2.1, .sl false 1 (Mb q_1.2.2.2.2.2.2.2.1), Ii q_1.2.2.2.2.2.2.2.2.1, Ii q_1.2.2.2.2.2.2.2.2.2.1, Ii q_1.2.2.2.2.2.2.2.2.2.2.1, Ii q_1.2.2.2.2.2.2.2.2.2.2.2]] [] (.bool r_13)) (ac gg_21 (ac gg_22 (ac gg_22 (ac gg_22 (ac gg_22 (ac gg_23 (ac gg_23 (ac gg_23 (ac gg_23 (ac gg_23 (ac gg_23 (ac (rfl : false = !true) (ac (rfl : false = !true) (ac (rfl : false = !true) (ac (rfl : false = !true) (ac (rfl : false = !true) (ar false (ac (rfl : false = !true) (ac (rfl : false = !true) (ac (rfl : false = !true) (ar false (ac (rfl : false = !true) (ac (rfl : false = !true) (ac (rfl : false = !true) (ar false (ac (rfl : false = !true) (ac (rfl : false = !true) (ac (rfl : false = !true) (ar false an)))))))))))))))))))))))))))))))))))))))))))))))))))))))))))))))))))))))))))) ?_
                cases h
                exact ⟨rfl, (sw [] [] [.s 0] [] an)⟩
              ·replace h := cond_f gg_22 h
               refine rg [(5, Ht), (9, Ht), (13, Ht), (17, Ht), (22, Ht), (27, Ht), (32, Ht), (37, Ht), (40, { av := Ii r_12, l := [e_T_api_Ring r_9.1] }), (42, Ht), (46, Ht), (50, Ht), (54, { av := .bool r_13, l := [e_T_api_Ring r_10.1, .agg [Ii q_1.2.2.2.2.2.2.1, .sl false 1 (Mb q_1.2.2.2.2.2.2.2.1), Ii q_1.2.2.2.2.2.2.2.2.1, Ii q_1.2.2.2.2.2.2.2.2.2.1, Ii q_1.2.2.2.2.2.2.2.2.2.2.1, Ii q_1.2.2.2.2.2.2.2.2.2.2.2]] }), (55, Ht), (57, Hg), (58, Hg), (59, Hg), (60, Hf), (62, Hg), (63, Hg), (64, Hg), (65, Hg), (66, Hg), (67, Hf), (69, Hg), (70, Hg), (71, Hg), (72, Hg), (73, Hg), (74, Hf), (76, Hg), (77, Hg), (78, Hg), (79, Hf), (81, Hg), (82, Hg), (83, Hg), (84, Hf), (86, Hg), (87, Hg), (88, Hg), (89, Hf)] [0] [] 7 [.bool false] [] hmix (ac gg_10 (ac gg_10 (ac gg_10 (ac gg_11 (ac gg_11 (ac gg_11 (ac gg_12 (ac gg_12 (ac gg_12 (ac gg_13 (ac gg_13 (ac gg_13 (ac gg_14 (ac gg_14 (ac gg_14 (ac gg_14 (ac gg_15 (ac gg_15 (ac gg_15 (ac gg_15 (ac gg_16 (ac gg_16 (ac gg_16 (ac gg_16 (ac gg_17 (ac gg_17 (ac gg_17 (ac gg_17 (ac gg_18 (ac gg_18 (ar ([e_T_api_Ring r_9.1] : List AV) (ac (rfl : ([] : List BoxSt) = []) (ac (ring_Count_ok F r_9.1 r_12 h_15 : TripleG prog 12 [] [] [e_T_api_Ring r_9.1] [] (Ii r_12)) (ac gg_18 (ac gg_18 (ac gg_19 (ac gg_19 (ac gg_19 (ac gg_20 (ac gg_20 (ac gg_20 (ac gg_21 (ac gg_21 (ac gg_21 (ar ([e_T_api_Ring r_10.1, .agg [Ii q_1.2.2.2.2.2.2.1, .sl false 1 (Mb q_1.2.2.2.2.2.2.2.1), Ii q_1.2.2.2.2.2.2.2.2.1, Ii q_1.2.2.2.2.2.2.2.2.2.1, Ii q_1.2.2.2.2.2.2.2.2.2.2.1, Ii q_1.2.2.2.2.2.2.2.2.2.2.2]] : List AV) (ac (rfl : ([] : List BoxSt) = []) (ac (triple_lo (args' := [e_T_api_Ring r_10.1, e_T_api_Ring (⟨q_1.2.2.2.2.2.2.1, q_1.2.2.2.2.2.2.2.1, q_1.2.2.2.2.2.2.2.2.1, q_1.2.2.2.2.2.2.2.2.2.1, q_1.2.2.2.2.2.2.2.2.2.2.1, q_1.2.2.2.2.2.2.2.2.2.2.2⟩ : T_api_Ring)]) (R09_Same_ok F r_10.1 (⟨q_1.2.2.2.2.2.2.1, q_1.2.2.2.2.2.2.2.1, q_1.2.2.2.2.2.2.2.2.1, q_1.2.2.2.2.2.2.2.2.2.1, q_1.2.2.2.2.2.2.2.2.2.2.1, q_1.2.2.2.2.2.2.2.2.2.2.2⟩ : T_api_Ring) r_13 h_16) rfl ⟨rfl, rfl, rfl, rfl, rfl, rfl, rfl, rfl, rfl, rfl, rfl, rfl, rfl, rfl, rfl, rfl, trivial⟩ : TripleG prog 22 [] [] [e_T_api_Ring r_10.1, .agg [Ii q_1.2.2.2.2.2.2.1, .sl false 1 (Mb q_1.2.2.2.2.2.2.2.1), Ii q_1.2.2.2.2.2.2.2.2.1, Ii q_1.2.2.2.2.2.2.2.2.2.1, Ii q_1.2.2.2.2.2.2.2.2.2.2.1, Ii q_1.2.2.2.2.2.2.2.2.2.2.2]] [] (.bool r_13)) (ac gg_21 (ac gg_22 (ac gg_22 (ac gg_22 (ac gg_22 (ac (rfl : false = !true) (ac (rfl : false = !true) (ac (rfl : false = !true) (ac (rfl : false = !true) (ac (rfl : false = !true) (ar false (ac (rfl : false = !true) (ac (rfl : false = !true) (ac (rfl : false = !true) (ac (rfl : false = !true) (ac (rfl : false = !true) (ar false (ac (rfl : false = !true) (ac (rfl : false = !true) (ac (rfl : false = !true) (ar false (ac (rfl : false = !true) (ac (rfl : false = !true) (ac (rfl : false = !true) (ar false (ac (rfl : false = !true) (ac (rfl : false = !true) (ac (rfl : false = !true) (ar false an)))))))))))))))))))))))))))))))))))))))))))))))))))))))))))))))))))))))))))) ?_
               cases h
               exact ⟨rfl, (sw [] [] [.s 0] [] an)⟩
             ·replace h := cond_f gg_21 h
              refine rg [(5, Ht), (9, Ht), (13, Ht), (17, Ht), (22, Ht), (27, Ht), (32, Ht), (37, Ht), (40, { av := Ii r_12, l := [e_T_api_Ring r_9.1] }), (42, Ht), (46, Ht), (50, Ht), (52, Hg), (53, Hg), (54, Hg), (55, Hf), (57, Hg), (58, Hg), (59, Hg), (60, Hf), (62, Hg), (63, Hg), (64, Hg), (65, Hg), (66, Hg), (67, Hf), (69, Hg), (70, Hg), (71, Hg), (72, Hg), (73, Hg), (74, Hf), (76, Hg), (77, Hg), (78, Hg), (79, Hf), (81, Hg), (82, Hg), (83, Hg), (84, Hf), (86, Hg), (87, Hg), (88, Hg), (89, Hf)] [0] [] 7 [.bool false] [] hmix (ac gg_10 (ac gg_10 (ac gg_10 (ac gg_11 (ac gg_11 (ac gg_11 (ac gg_12 (ac gg_12 (ac gg_12 (ac gg_13 (ac gg_13 (ac gg_13 (ac gg_14 (ac gg_14 (ac gg_14 (ac gg_14 (ac gg_15 (ac gg_15 (ac gg_15 (ac gg_15 (ac gg_16 (ac gg_16 (ac gg_16 (ac gg_16 (ac gg_17 (ac gg_17 (ac gg_17 (ac gg_17 (ac gg_18 (ac gg_18 (ar ([e_T_api_Ring r_9.1] : List AV) (ac (rfl : ([] : List BoxSt) = []) (ac (ring_Count_ok F r_9.1 r_12 h_15 : TripleG prog 12 [] [] [e_T_api_Ring r_9.1] [] (Ii r_12)) (ac gg_18 (ac gg_18 (ac gg_19 (ac gg_19 (ac gg_19 (ac gg_20 (ac gg_20 (ac gg_20 (ac gg_21 (ac gg_21 (ac gg_21 (ac gg_21 (ac (rfl : false = !true) (ac (rfl : false = !true) (ac (rfl : false = !true) (ar false (ac (rfl : false = !true) (ac (rfl : false = !true) (ac (rfl : false = !true) (ac (rfl : false = !true) (ac (rfl : false = !true) (ar false (ac (rfl : false = !true) (ac (rfl : false = !true) (ac (rfl : false = !true) (ac (rfl : false = !true) (ac (rfl : false = !true) (ar false (ac (rfl : false = !true) (ac (rfl : false = !true) (ac (rfl : false = !true) (ar false (ac (rfl : false = !true) (ac (rfl : false = !true) (ac (rfl : false = !true) (ar false (ac (rfl : false = !true) (ac (rfl : false = !true) (ac (rfl : false = !true) (ar false an))))))))))))))))))))))))))))))))))))))))))))))))))))))))))))))))))))))))) ?_
              cases h
              exact ⟨rfl, (sw [] [] [.s 0] [] an)⟩
            ·replace h := cond_f gg_20 h
             refine rg [(5, Ht), (9, Ht), (13, Ht), (17, Ht), (22, Ht), (27, Ht), (32, Ht), (37, Ht), (40, { av := Ii r_12, l := [e_T_api_Ring r_9.1] }), (42, Ht), (46, Ht), (48, Hg), (49, Hg), (50, Hf), (52, Hg), (53, Hg), (54, Hg), (55, Hf), (57, Hg), (58, Hg), (59, Hg), (60, Hf), (62, Hg), (63, Hg), (64, Hg), (65, Hg), (66, Hg), (67, Hf), (69, Hg), (70, Hg), (71, Hg), (72, Hg), (73, Hg), (74, Hf), (76, Hg), (77, Hg), (78, Hg), (79, Hf), (81, Hg), (82, Hg), (83, Hg), (84, Hf), (86, Hg), (87, Hg), (88, Hg), (89, Hf)] [0] [] 7 [.bool false] [] hmix (ac gg_10 (ac gg_10 (ac gg_10 (ac gg_11 (ac gg_11 (ac gg_11 (ac gg_12 (ac gg_12 (ac gg_12 (ac gg_13 (ac gg_13 (ac gg_13 (ac gg_14 (ac gg_14 (ac gg_14 (ac gg_14 (ac gg_15 (ac gg_15 (ac gg_15 (ac gg_15 (ac gg_16 (ac gg_16 (ac gg_16 (ac gg_16 (ac gg_17 (ac gg_17 (ac gg_17 (ac gg_17 (ac gg_18 (ac gg_18 (ar ([e_T_api_Ring r_9.1] : List AV) (ac (rfl : ([] : List BoxSt) = []) (ac (ring_Count_ok F r_9.1 r_12 h_15 : TripleG prog 12 [] [] [e_T_api_Ring r_9.1] [] (Ii r_12)) (ac gg_18 (ac gg_18 (ac gg_19 (ac gg_19 (ac gg_19 (ac gg_20 (ac gg_20 (ac gg_20 (ac (rfl : false = !true) (ac (rfl : false = !true) (ac (rfl : false = !true) (ar false (ac (rfl : false = !true) (ac (rfl : false = !true) (ac (rfl : false = !true) (ar false (ac (rfl : false = !true) (ac (rfl : false = !true) (ac (rfl : false = !true) (ac (rfl : false = !true) (ac (rfl : false = !true) (ar false (ac (rfl : false = !true) (ac (rfl : false = !true) (ac (rfl : false = !true) (ac (rfl : false = !true) (ac (rfl : false = !true) (ar false (ac (rfl : false = !true) (ac (rfl : false = !true) (ac (rfl : false = !true) (ar false (ac (rfl : false = !true) (ac (rfl : false = !true) (ac (rfl : false = !true) (ar false (ac (rfl : false = !true) (ac (rfl : false = !true) (ac (rfl : false = !true) (ar false an))))))))))))))))))))))))))))))))))))))))))))))))))))))))))))))))))))))))) ?_
             cases h
             exact ⟨rfl, (sw [] [] [.s 0] [] an)⟩
           ·replace h := cond_f gg_19 h
            refine rg [(5, Ht), (9, Ht), (13, Ht), (17, Ht), (22, Ht), (27, Ht), (32, Ht), (37, Ht), (40, { av := Ii r_12, l := [e_T_api_Ring r_9.1] }), (42, Ht), (44, Hg), (45, Hg), (46, Hf), (48, Hg), (49, Hg), (50, Hf), (52, Hg), (53, Hg), (54, Hg), (55, Hf), (57, Hg), (58, Hg), (59, Hg), (60, Hf), (62, Hg), (63, Hg), (64, Hg), (65, Hg), (66, Hg), (67, Hf), (69, Hg), (70, Hg), (71, Hg), (72, Hg), (73, Hg), (74, Hf), (76, Hg), (77, Hg), (78, Hg), (79, Hf), (81, Hg), (82, Hg), (83, Hg), (84, Hf), (86, Hg), (87, Hg), (88, Hg), (89, Hf)] [0] [] 7 [.bool false] [] hmix (ac gg_10 (ac gg_10 (ac gg_10 (ac gg_11 (ac gg_11 (ac gg_11 (ac gg_12 (ac gg_12 (ac gg_12 (ac gg_13 (ac gg_13 (ac gg_13 (ac gg_14 (ac gg_14 (ac gg_14 (ac gg_14 (ac gg_15 (ac gg_15 (ac gg_15 (ac gg_15 (ac gg_16 (ac gg_16 (ac gg_16 (ac gg_16 (ac gg_17 (ac gg_17 (ac gg_17 (ac gg_17 (ac gg_18 (ac gg_18 (ar ([e_T_api_Ring r_9.1] : List AV) (ac (rfl : ([] : List BoxSt) = []) (ac (ring_Count_ok F r_9.1 r_12 h_15 : TripleG prog 12 [] [] [e_T_api_Ring r_9.1] [] (Ii r_12)) (ac gg_18 (ac gg_18 (ac gg_19 (ac gg_19 (ac gg_19 (ac (rfl : false = !true) (ac (rfl : false = !true) (ar false (ac (rfl : false = !true) (ac (rfl : false = !true) (ac (rfl : false = !true) (ar false (ac (rfl : false = !true) (ac (rfl : false = !true) (ac (rfl : false = !true) (ar false (ac (rfl : false = !true) (ac (rfl : false = !true) (ac (rfl : false = !true) (ac (rfl : false = !true) (ac (rfl : false = !true) (ar false (ac (rfl : false = !true) (ac (rfl : false = !true) (ac (rfl : false = !true) (ac (rfl : false = !true) (ac (rfl : false = !true) (ar false (ac (rfl : false = !true) (ac (rfl : false = !true) (ac (rfl : false = !true) (ar false (ac (rfl : false = !true) (ac (rfl : false = !true) (ac (rfl : false = !true) (ar false (ac (rfl : false = !true) (ac (rfl : false = !true) (ac (rfl : false = !true) (ar false an))))))))))))))))))))))))))))))))))))))))))))))))))))))))))))))))))))))))) ?_
            cases h
            exact ⟨rfl, (sw [] [] [.s 0] [] an)⟩
          ·replace h := cond_f gg_18 h
           refine rg [(5, Ht), (9, Ht), (13, Ht), (17, Ht), (22, Ht), (27, Ht), (32, Ht), (37, Ht), (39, Hg), (40, Hg), (41, Hg), (42, Hf), (44, Hg), (45, Hg), (46, Hf), (48, Hg), (49, Hg), (50, Hf), (52, Hg), (53, Hg), (54, Hg), (55, Hf), (57, Hg), (58, Hg), (59, Hg), (60, Hf), (62, Hg), (63, Hg), (64, Hg), (65, Hg), (66, Hg), (67, Hf), (69, Hg), (70, Hg), (71, Hg), (72, Hg), (73, Hg), (74, Hf), (76, Hg), (77, Hg), (78, Hg), (79, Hf), (81, Hg), (82, Hg), (83, Hg), (84, Hf), (86, Hg), (87, Hg), (88, Hg), (89, Hf)] [0] [] 7 [.bool false] [] hmix (ac gg_10 (ac gg_10 (ac gg_10 (ac gg_11 (ac gg_11 (ac gg_11 (ac gg_12 (ac gg_12 (ac gg_12 (ac gg_13 (ac gg_13 (ac gg_13 (ac gg_14 (ac gg_14 (ac gg_14 (ac gg_14 (ac gg_15 (ac gg_15 (ac gg_15 (ac gg_15 (ac gg_16 (ac gg_16 (ac gg_16 (ac gg_16 (ac gg_17 (ac gg_17 (ac gg_17 (ac gg_17 (ac gg_18 (ac gg_18 (ac gg_18 (ac gg_18 (ac (rfl : false = !true) (ac (rfl : false = !true) (ar false (ac (rfl : false = !true) (ac (rfl : false = !true) (ar false (ac (rfl : false = !true) (ac (rfl : false = !true) (ac (rfl : false = !true) (ar false (ac (rfl : false = !true) (ac (rfl : false = !true) (ac (rfl : false = !true) (ar false (ac (rfl : false = !true) (ac (rfl : false = !true) (ac (rfl : false = !true) (ac (rfl : false = !true) (ac (rfl : false = !true) (ar false (ac (rfl : false = !true) (ac (rfl : false = !true) (ac (rfl : false = !true) (ac (rfl : false = !true) (ac (rfl : false = !true) (ar false (ac (rfl : false = !true) (ac (rfl : false = !true) (ac (rfl : false = !true) (ar false (ac (rfl : false = !true) (ac (rfl : false = !true) (ac (rfl : false = !true) (ar false (ac (rfl : false = !true) (ac (rfl : false = !true) (ac (rfl : false = !true) (ar false an)))))))))))))))))))))))))))))))))))))))))))))))))))))))))))))))))))))) ?_
           cases h
           exact ⟨rfl, (sw [] [] [.s 0] [] an)⟩
         ·replace h := cond_f gg_17 h
          refine rg [(5, Ht), (9, Ht), (13, Ht), (17, Ht), (22, Ht), (27, Ht), (32, Ht), (34, Hg), (35, Hg), (36, Hg), (37, Hf), (39, Hg), (40, Hg), (41, Hg), (42, Hf), (44, Hg), (45, Hg), (46, Hf), (48, Hg), (49, Hg), (50, Hf), (52, Hg), (53, Hg), (54, Hg), (55, Hf), (57, Hg), (58, Hg), (59, Hg), (60, Hf), (62, Hg), (63, Hg), (64, Hg), (65, Hg), (66, Hg), (67, Hf), (69, Hg), (70, Hg), (71, Hg), (72, Hg), (73, Hg), (74, Hf), (76, Hg), (77, Hg), (78, Hg), (79, Hf), (81, Hg), (82, Hg), (83, Hg), (84, Hf), (86, Hg), (87, Hg), (88, Hg), (89, Hf)] [0] [] 7 [.bool false] [] hmix (ac gg_10 (ac gg_10 (ac gg_10 (ac gg_11 (ac gg_11 (ac gg_11 (ac gg_12 (ac gg_12 (ac gg_12 (ac gg_13 (ac gg_13 (ac gg_13 (ac gg_14 (ac gg_14 (ac gg_14 (ac gg_14 (ac gg_15 (ac gg_15 (ac gg_15 (ac gg_15 (ac gg_16 (ac gg_16 (ac gg_16 (ac gg_16 (ac gg_17 (ac gg_17 (ac gg_17 (ac gg_17 (ac (rfl : false = !true) (ac (rfl : false = !true) (ac (rfl : false = !true) (ar false (ac (rfl : false = !true) (ac (rfl : false = !true) (ar false (ac (rfl : false = !true) (ac (rfl : false = !true) (ar false (ac (rfl : false = !true) (ac (rfl : false = !true) (ac (rfl : false = !true) (ar false (ac (rfl : false = !true) (ac (rfl : false = !true) (ac (rfl : false = !true) (ar false (ac (rfl : false = !true) (ac (rfl : false = !true) (ac (rfl : false = !true) (ac (rfl : false = !true) (ac (rfl : false = !true) (ar false (ac (rfl : false = !true) (ac (rfl : false = !true) (ac (rfl : false = !true) (ac (rfl : false = !true) (ac (rfl : false = !true) (ar false (ac (rfl : false = !true) (ac (rfl : false = !true) (ac (rfl : false = !true) (ar false (ac (rfl : false = !true) (ac (rfl : false = !true) (ac (rfl : false = !true) (ar false (ac (rfl : false = !true) (ac (rfl : false = !true) (ac (rfl : false = !true) (ar false an)))))))))))))))))))))))))))))))))))))))))))))))))))))))))))))))))))))) ?_
          cases h
          exact ⟨rfl, (sw [] [] [.s 0] [] an)⟩
        ·replace h := cond_f gg_16 h
         refine rg [(5, Ht), (9, Ht), (13, Ht), (17, Ht), (22, Ht), (27, Ht), (29, Hg), (30, Hg), (31, Hg), (32, Hf), (34, Hg), (35, Hg), (36, Hg), (37, Hf), (39, Hg), (40, Hg), (41, Hg), (42, Hf), (44, Hg), (45, Hg), (46, Hf), (48, Hg), (49, Hg), (50, Hf), (52, Hg), (53, Hg), (54, Hg), (55, Hf), (57, Hg), (58, Hg), (59, Hg), (60, Hf), (62, Hg), (63, Hg), (64, Hg), (65, Hg), (66, Hg), (67, Hf), (69, Hg), (70, Hg), (71, Hg), (72, Hg), (73, Hg), (74, Hf), (76, Hg), (77, Hg), (78, Hg), (79, Hf), (81, Hg), (82, Hg), (83, Hg), (84, Hf), (86, Hg), (87, Hg), (88, Hg), (89, Hf)] [0] [] 7 [.bool false] [] hmix (ac gg_10 (ac gg_10 (ac gg_10 (ac gg_11 (ac gg_11 (ac gg_11 (ac gg_12 (ac gg_12 (ac gg_12 (ac gg_13 (ac gg_13 (ac gg_13 (ac gg_14 (ac gg_14 (ac gg_14 (ac gg_14 (ac gg_15 (ac gg_15 (ac gg_15 (ac gg_15 (ac gg_16 (ac gg_16 (ac gg_16 (ac gg_16 (ac (rfl : false = !true) (ac (rfl : false = !true) (ac (rfl : false = !true) (ar false (ac (rfl : false = !true) (ac (rfl : false = !true) (ac (rfl : false = !true) (ar false (ac (rfl : false = !true) (ac (rfl : false = !true) (ar false (ac (rfl : false = !true) (ac (rfl : false = !true) (ar false (ac (rfl : false = !true) (ac (rfl : false = !true) (ac (rfl : false = !true) (ar false (ac (rfl : false = !true) (ac (rfl : false = !true) (ac (rfl : false = !true) (ar false (ac (rfl : false = !true) (ac (rfl : false = !true) (ac (rfl : false = !true) (ac (rfl : false = !true) (ac (rfl : false = !true) (ar false (ac (rfl : false = !true) (ac (rfl : false = !true) (ac (rfl : false = !true) (ac (rfl : false = !true) (ac (rfl : false = !true) (ar false (ac (rfl : false = !true) (ac (rfl : false = !true) (ac (rfl : false = !true) (ar false (ac (rfl : false = !true) (ac (rfl : false = !true) (ac (rfl : false = !true) (ar false (ac (rfl : false = !true) (ac (rfl : false = !true) (ac (rfl : false = !true) (ar false an)))))))))))))))))))))))))))))))))))))))))))))))))))))))))))))))))))))) ?_
         cases h
         exact ⟨rfl, (sw [] [] [.s 0] [] an)⟩
       ·replace h := cond_f gg_15 h
        refine rg [(5, Ht), (9, Ht), (13, Ht), (17, Ht), (22, Ht), (24, Hg), (25, Hg), (26, Hg), (27, Hf), (29, Hg), (30, Hg), (31, Hg), (32, Hf), (34, Hg), (35, Hg), (36, Hg), (37, Hf), (39, Hg), (40, Hg), (41, Hg), (42, Hf), (44, Hg), (45, Hg), (46, Hf), (48, Hg), (49, Hg), (50, Hf), (52, Hg), (53, Hg), (54, Hg), (55, Hf), (57, Hg), (58, Hg), (59, Hg), (60, Hf), (62, Hg), (63, Hg), (64, Hg), (65, Hg), (66, Hg), (67, Hf), (69, Hg), (70, Hg), (71, Hg), (72, Hg), (73, Hg), (74, Hf), (76, Hg), (77, Hg), (78, Hg), (79, Hf), (81, Hg), (82, Hg), (83, Hg), (84, Hf), (86, Hg), (87, Hg), (88, Hg), (89, Hf)] [0] [] 7 [.bool false] [] hmix (ac gg_10 (ac gg_10 (ac gg_10 (ac gg_11 (ac gg_11 (ac gg_11 (ac gg_12 (ac gg_12 (ac gg_12 (ac gg_13 (ac gg_13 (ac gg_13 (ac gg_14 (ac gg_14 (ac gg_14 (ac gg_14 (ac gg_15 (ac gg_15 (ac gg_15 (ac gg_15 (ac (rfl : false = !true) (ac (rfl : false = !true) (ac (rfl : false = !true) (ar false (ac (rfl : false = !true) (ac (rfl : false = !true) (ac (rfl : false = !true) (ar false (ac (rfl : false = !true) (ac (rfl : false = !true) (ac (rfl : false = !true) (ar false (ac (rfl : false = !true) (ac (rfl : false = !true) (ar false (ac (rfl : false = !true) (ac (rfl : false = !true) (ar false (ac (rfl : false = !true) (ac (rfl : false = !true) (ac (rfl : false = !true) (ar false (ac (rfl : false = !true) (ac (rfl : false = !true) (ac (rfl : false = !true) (ar false (ac (rfl : false = !true) (ac (rfl : false = !true) (ac (rfl : false = !true) (ac (rfl : false = !true) (ac (rfl : false = !true) (ar false (ac (rfl : false = !true) (ac (rfl : false = !true) (ac (rfl : false = !true) (ac (rfl : false = !true) (ac (rfl : false = !true) (ar false (ac (rfl : false = !true) (ac (rfl : false = !true) (ac (rfl : false = !true) (ar false (ac (rfl : false = !true) (ac (rfl : false = !true) (ac (rfl : false = !true) (ar false (ac (rfl : false = !true) (ac (rfl : false = !true) (ac (rfl : false = !true) (ar false an)))))))))))))))))))))))))))))))))))))))))))))))))))))))))))))))))))))) ?_
        cases h
        exact ⟨rfl, (sw [] [] [.s 0] [] an)⟩
      ·replace h := cond_f gg_14 h
       refine rg [(5, Ht), (9, Ht), (13, Ht), (17, Ht), (19, Hg), (20, Hg), (21, Hg), (22, Hf), (24, Hg), (25, Hg), (26, Hg), (27, Hf), (29, Hg), (30, Hg), (31, Hg), (32, Hf), (34, Hg), (35, Hg), (36, Hg), (37, Hf), (39, Hg), (40, Hg), (41, Hg), (42, Hf), (44, Hg), (45, Hg), (46, Hf), (48, Hg), (49, Hg), (50, Hf), (52, Hg), (53, Hg), (54, Hg), (55, Hf), (57, Hg), (58, Hg), (59, Hg), (60, Hf), (62, Hg), (63, Hg), (64, Hg), (65, Hg), (66, Hg), (67, Hf), (69, Hg), (70, Hg), (71, Hg), (72, Hg), (73, Hg), (74, Hf), (76, Hg), (77, Hg), (78, Hg), (79, Hf), (81, Hg), (82, Hg), (83, Hg), (84, Hf), (86, Hg), (87, Hg), (88, Hg), (89, Hf)] [0] [] 7 [.bool false] [] hmix (ac gg_10 (ac gg_10 (ac gg_10 (ac gg_11 (ac gg_11 (ac gg_11 (ac gg_12 (ac gg_12 (ac gg_12 (ac gg_13 (ac gg_13 (ac gg_13 (ac gg_14 (ac gg_14 (ac gg_14 (ac gg_14 (ac (rfl : false = !true) (ac (rfl : false = !true) (ac (rfl : false = !true) (ar false (ac (rfl : false = !true) (ac (rfl : false = !true) (ac (rfl : false = !true) (ar false (ac (rfl : false = !true) (ac (rfl : false = !true) (ac (rfl : false = !true) (ar false (ac (rfl : false = !true) (ac (rfl : false = !true) (ac (rfl : false = !true) (ar false (ac (rfl : false = !true) (ac (rfl : false = !true) (ar false (ac (rfl : false = !true) (ac (rfl : false = !true) (ar false (ac (rfl : false = !true) (ac (rfl : false = !true) (ac (rfl : false = !true) (ar false (ac (rfl : false = !true) (ac (rfl : false = !true) (ac (rfl : false = !true) (ar false (ac (rfl : false = !true) (ac (rfl : false = !true) (ac (rfl : false = !true) (ac (rfl : false = !true) (ac (rfl : false = !true) (ar false (ac (rfl : false = !true) (ac (rfl : false = !true) (ac (rfl : false = !true) (ac (rfl : false = !true) (ac (rfl : false = !true) (ar false (ac (rfl : false = !true) (ac (rfl : false = !true) (ac (rfl : false = !true) (ar false (ac (rfl : false = !true) (ac (rfl : false = !true) (ac (rfl : false = !true) (ar false (ac (rfl : false = !true) (ac (rfl : false = !true) (ac (rfl : false = !true) (ar false an)))))))))))))))))))))))))))))))))))))))))))))))))))))))))))))))))))))) ?_
       cases h
       exact ⟨rfl, (sw [] [] [.s 0] [] an)⟩
     ·replace h := cond_f gg_13 h
      refine rg [(5, Ht), (9, Ht), (13, Ht), (15, Hg), (16, Hg), (17, Hf), (19, Hg), (20, Hg), (21, Hg), (22, Hf), (24, Hg), (25, Hg), (26, Hg), (27, Hf), (29, Hg), (30, Hg), (31, Hg), (32, Hf), (34, Hg), (35, Hg), (36, Hg), (37, Hf), (39, Hg), (40, Hg), (41, Hg), (42, Hf), (44, Hg), (45, Hg), (46, Hf), (48, Hg), (49, Hg), (50, Hf), (52, Hg), (53, Hg), (54, Hg), (55, Hf), (57, Hg), (58, Hg), (59, Hg), (60, Hf), (62, Hg), (63, Hg), (64, Hg), (65, Hg), (66, Hg), (67, Hf), (69, Hg), (70, Hg), (71, Hg), (72, Hg), (73, Hg), (74, Hf), (76, Hg), (77, Hg), (78, Hg), (79, Hf), (81, Hg), (82, Hg), (83, Hg), (84, Hf), (86, Hg), (87, Hg), (88, Hg), (89, Hf)] [0] [] 7 [.bool false] [] hmix (ac gg_10 (ac gg_10 (ac gg_10 (ac gg_11 (ac gg_11 (ac gg_11 (ac gg_12 (ac gg_12 (ac gg_12 (ac gg_13 (ac gg_13 (ac gg_13 (ac (rfl : false = !true) (ac (rfl : false = !true) (ac (rfl : false = !true) (ar false (ac (rfl : false = !true) (ac (rfl : false = !true) (ac (rfl : false = !true) (ar false (ac (rfl : false = !true) (ac (rfl : false = !true) (ac (rfl : false = !true) (ar false (ac (rfl : false = !true) (ac (rfl : false = !true) (ac (rfl : false = !true) (ar false (ac (rfl : false = !true) (ac (rfl : false = !true) (ac (rfl : false = !true) (ar false (ac (rfl : false = !true) (ac (rfl : false = !true) (ar false (ac (rfl : false = !true) (ac (rfl : false = !true) (ar false (ac (rfl : false = !true) (ac (rfl : false = !true) (ac (rfl : false = !true) (ar false (ac (rfl : false = !true) (ac (rfl : false = !true) (ac (rfl : false = !true) (ar false (ac (rfl : false = !true) (ac (rfl : false = !true) (ac (rfl : false = !true) (ac (rfl : false = !true) (ac (rfl : false = !true) (ar false (ac (rfl : false = !true) (ac (rfl : false = !true) (ac (rfl : false = !true) (ac (rfl : false = !true) (ac (rfl : false = !true) (ar false (ac (rfl : false = !true) (ac (rfl : false = !true) (ac (rfl : false = !true) (ar false (ac (rfl : false = !true) (ac (rfl : false = !true) (ac (rfl : false = !true) (ar false (ac (rfl : false = !true) (ac (rfl : false = !true) (ac (rfl : false = !true) (ar false an)))))))))))))))))))))))))))))))))))))))))))))))))))))))))))))))))))))) ?_
      cases h
      exact ⟨rfl, (sw [] [] [.s 0] [] an)⟩
    ·replace h := cond_f gg_12 h
     refine rg [(5, Ht), (9, Ht), (11, Hg), (12, Hg), (13, Hf), (15, Hg), (16, Hg), (17, Hf), (19, Hg), (20, Hg), (21, Hg), (22, Hf), (24, Hg), (25, Hg), (26, Hg), (27, Hf), (29, Hg), (30, Hg), (31, Hg), (32, Hf), (34, Hg), (35, Hg), (36, Hg), (37, Hf), (39, Hg), (40, Hg), (41, Hg), (42, Hf), (44, Hg), (45, Hg), (46, Hf), (48, Hg), (49, Hg), (50, Hf), (52, Hg), (53, Hg), (54, Hg), (55, Hf), (57, Hg), (58, Hg), (59, Hg), (60, Hf), (62, Hg), (63, Hg), (64, Hg), (65, Hg), (66, Hg), (67, Hf), (69, Hg), (70, Hg), (71, Hg), (72, Hg), (73, Hg), (74, Hf), (76, Hg), (77, Hg), (78, Hg), (79, Hf), (81, Hg), (82, Hg), (83, Hg), (84, Hf), (86, Hg), (87, Hg), (88, Hg), (89, Hf)] [0] [] 7 [.bool false] [] hmix (ac gg_10 (ac gg_10 (ac gg_10 (ac gg_11 (ac gg_11 (ac gg_11 (ac gg_12 (ac gg_12 (ac gg_12 (ac (rfl : false = !true) (ac (rfl : false = !true) (ar false (ac (rfl : false = !true) (ac (rfl : false = !true) (ac (rfl : false = !true) (ar false (ac (rfl : false = !true) (ac (rfl : false = !true) (ac (rfl : false = !true) (ar false (ac (rfl : false = !true) (ac (rfl : false = !true) (ac (rfl : false = !true) (ar false (ac (rfl : false = !true) (ac (rfl : false = !true) (ac (rfl : false = !true) (ar false (ac (rfl : false = !true) (ac (rfl : false = !true) (ac (rfl : false = !true) (ar false (ac (rfl : false = !true) (ac (rfl : false = !true) (ar false (ac (rfl : false = !true) (ac (rfl : false = !true) (ar false (ac (rfl : false = !true) (ac (rfl : false = !true) (ac (rfl : false = !true) (ar false (ac (rfl : false = !true) (ac (rfl : false = !true) (ac (rfl : false = !true) (ar false (ac (rfl : false = !true) (ac (rfl : false = !true) (ac (rfl : false = !true) (ac (rfl : false = !true) (ac (rfl : false = !true) (ar false (ac (rfl : false = !true) (ac (rfl : false = !true) (ac (rfl : false = !true) (ac (rfl : false = !true) (ac (rfl : false = !true) (ar false (ac (rfl : false = !true) (ac (rfl : false = !true) (ac (rfl : false = !true) (ar false (ac (rfl : false = !true) (ac (rfl : false = !true) (ac (rfl : false = !true) (ar false (ac (rfl : false = !true) (ac (rfl : false = !true) (ac (rfl : false = !true) (ar false an)))))))))))))))))))))))))))))))))))))))))))))))))))))))))))))))))))))) ?_
     cases h
     exact ⟨rfl, (sw [] [] [.s 0] [] an)⟩
   ·replace h := cond_f gg_11 h
    refine rg [(5, Ht), (7, Hg), (8, Hg), (9, Hf), (11, Hg), (12, Hg), (13, Hf), (15, Hg), (16, Hg), (17, Hf), (19, Hg), (20, Hg), (21, Hg), (22, Hf), (24, Hg), (25, Hg), (26, Hg), (27, Hf), (29, Hg), (30, Hg), (31, Hg), (32, Hf), (34, Hg), (35, Hg), (36, Hg), (37, Hf), (39, Hg), (40, Hg), (41, Hg), (42, Hf), (44, Hg), (45, Hg), (46, Hf), (48, Hg), (49, Hg), (50, Hf), (52, Hg), (53, Hg), (54, Hg), (55, Hf), (57, Hg), (58, Hg), (59, Hg), (60, Hf), (62, Hg), (63, Hg), (64, Hg), (65, Hg), (66, Hg), (67, Hf), (69, Hg), (70, Hg), (71, Hg), (72, Hg), (73, Hg), (74, Hf), (76, Hg), (77, Hg), (78, Hg), (79, Hf), (81, Hg), (82, Hg), (83, Hg), (84, Hf), (86, Hg), (87, Hg), (88, Hg), (89, Hf)] [0] [] 7 [.bool false] [] hmix (ac gg_10 (ac gg_10 (ac gg_10 (ac gg_11 (ac gg_11 (ac gg_11 (ac (rfl : false = !true) (ac (rfl : false = !true) (ar false (ac (rfl : false = !true) (ac (rfl : false = !true) (ar false (ac (rfl : false = !true) (ac (rfl : false = !true) (ac (rfl : false = !true) (ar false (ac (rfl : false = !true) (ac (rfl : false = !true) (ac (rfl : false = !true) (ar false (ac (rfl : false = !true) (ac (rfl : false = !true) (ac (rfl : false = !true) (ar false (ac (rfl : false = !true) (ac (rfl : false = !true) (ac (rfl : false = !true) (ar false (ac (rfl : false = !true) (ac (rfl : false = !true) (ac (rfl : false = !true) (ar false (ac (rfl : false = !true) (ac (rfl : false = !true) (ar false (ac (rfl : false = !true) (ac (rfl : false = !true) (ar false (ac (rfl : false = !true) (ac (rfl : false = !true) (ac (rfl : false = !true) (ar false (ac (rfl : false = !true) (ac (rfl : false = !true) (ac (rfl : false = !true) (ar false (ac (rfl : false = !true) (ac (rfl : false = !true) (ac (rfl : false = !true) (ac (rfl : false = !true) (ac (rfl : false = !true) (ar false (ac (rfl : false = !true) (ac (rfl : false = !true) (ac (rfl : false = !true) (ac (rfl : false = !true) (ac (rfl : false = !true) (ar false (ac (rfl : false = !true) (ac (rfl : false = !true) (ac (rfl : false = !true) (ar false (ac (rfl : false = !true) (ac (rfl : false = !true) (ac (rfl : false = !true) (ar false (ac (rfl : false = !true) (ac (rfl : false = !true) (ac (rfl : false = !true) (ar false an)))))))))))))))))))))))))))))))))))))))))))))))))))))))))))))))))))))) ?_
    cases h
    exact ⟨rfl, (sw [] [] [.s 0] [] an)⟩
  ·replace h := cond_f gg_10 h
   refine rg [(3, Hg), (4, Hg), (5, Hf), (7, Hg), (8, Hg), (9, Hf), (11, Hg), (12, Hg), (13, Hf), (15, Hg), (16, Hg), (17, Hf), (19, Hg), (20, Hg), (21, Hg), (22, Hf), (24, Hg), (25, Hg), (26, Hg), (27, Hf), (29, Hg), (30, Hg), (31, Hg), (32, Hf), (34, Hg), (35, Hg), (36, Hg), (37, Hf), (39, Hg), (40, Hg), (41, Hg), (42, Hf), (44, Hg), (45, Hg), (46, Hf), (48, Hg), (49, Hg), (50, Hf), (52, Hg), (53, Hg), (54, Hg), (55, Hf), (57, Hg), (58, Hg), (59, Hg), (60, Hf), (62, Hg), (63, Hg), (64, Hg), (65, Hg), (66, Hg), (67, Hf), (69, Hg), (70, Hg), (71, Hg), (72, Hg), (73, Hg), (74, Hf), (76, Hg), (77, Hg), (78, Hg), (79, Hf), (81, Hg), (82, Hg), (83, Hg), (84, Hf), (86, Hg), (87, Hg), (88, Hg), (89, Hf)] [0] [] 7 [.bool false] [] hmix (ac gg_10 (ac gg_10 (ac gg_10 (ac (rfl : false = !true) (ac (rfl : false = !true) (ar false (ac (rfl : false = !true) (ac (rfl : false = !true) (ar false (ac (rfl : false = !true) (ac (rfl : false = !true) (ar false (ac (rfl : false = !true) (ac (rfl : false = !true) (ac (rfl : false = !true) (ar false (ac (rfl : false = !true) (ac (rfl : false = !true) (ac (rfl : false = !true) (ar false (ac (rfl : false = !true) (ac (rfl : false = !true) (ac (rfl : false = !true) (ar false (ac (rfl : false = !true) (ac (rfl : false = !true) (ac (rfl : false = !true) (ar false (ac (rfl : false = !true) (ac (rfl : false = !true) (ac (rfl : false = !true) (ar false (ac (rfl : false = !true) (ac (rfl : false = !true) (ar false (ac (rfl : false = !true) (ac (rfl : false = !true) (ar false (ac (rfl : false = !true) (ac (rfl : false = !true) (ac (rfl : false = !true) (ar false (ac (rfl : false = !true) (ac (rfl : false = !true) (ac (rfl : false = !true) (ar false (ac (rfl : false = !true) (ac (rfl : false = !true) (ac (rfl : false = !true) (ac (rfl : false = !true) (ac (rfl : false = !true) (ar false (ac (rfl : false = !true) (ac (rfl : false = !true) (ac (rfl : false = !true) (ac (rfl : false = !true) (ac (rfl : false = !true) (ar false (ac (rfl : false = !true) (ac (rfl : false = !true) (ac (rfl : false = !true) (ar false (ac (rfl : false = !true) (ac (rfl : false = !true) (ac (rfl : false = !true) (ar false (ac (rfl : false = !true) (ac (rfl : false = !true) (ac (rfl : false = !true) (ar false an)))))))))))))))))))))))))))))))))))))))))))))))))))))))))))))))))))))) ?_
   cases h
   exact ⟨rfl, (sw [] [] [.s 0] [] an)⟩
 refine rt ?_
 cases h
 exact ⟨.inr rfl, Nat.le_of_ble_eq_true rfl, by kernel_rfl⟩

theorem L09_small_ok (r_1 : T_api_Ring) (b_1 : List (Int)) (r : Bool) (h : L09_small r_1 b_1 = some r) : TripleG prog 15 [] [] [e_T_api_Ring r_1, .sl false 1 (Mb b_1)] [] (.bool r) := by
 refine triple_intro (fn := Go.Proofs.Try.f15) (code := codeOf Go.Proofs.Try.f15) (by kernel_rfl) (by kernel_rfl) (Nat.le_of_ble_eq_true (by kernel_rfl)) ?_
 unfold L09_small at h
 refine sr [(0, { id := 0 })] [1, 2] [0] 1 [.sl false 1 (Mb b_1), Pp 0] [Vb 25 (v_T_api_Ring r_1)] hmix an ?_
 refine sq ?_
 refine aw_mid (mk [(4, .bool (decide ((lN (r_1.Data)) ≤ (70000 : Int)) && decide ((lN (b_1)) ≤ (70000 : Int))))] [] 0) ?_ ?_
 ·rcases bft (decide ((lN (r_1.Data)) ≤ (70000 : Int))) with gg_1 | gg_1
  ·refine rg [(2, { n := (r_1.Data).length }), (6, { n := (b_1).length }), (8, Ht)] [4] [] 1 [.bool (decide ((lN (b_1)) ≤ (70000 : Int)))] [] hmix (ac (vc_len _ : ((Mb r_1.Data)).length = (r_1.Data).length) (ac gg_1 (ac gg_1 (ac (vc_len _ : ((Mb b_1)).length = (b_1).length) (ac gg_1 (ac gg_1 an)))))) ?_
   exact ⟨rfl, (sw [] [] [.a 4 (.bool (decide ((lN (r_1.Data)) ≤ (70000 : Int)) && decide ((lN (b_1)) ≤ (70000 : Int))))] [] (ac (congrArg AV.bool (andt gg_1 rfl) : (.bool (decide ((lN (b_1)) ≤ (70000 : Int))) : AV) = .bool (decide ((lN (r_1.Data)) ≤ (70000 : Int)) && decide ((lN (b_1)) ≤ (70000 : Int)))) an))⟩
  ·refine rg [(2, { n := (r_1.Data).length }), (5, Hg), (6, Hg), (7, Hg), (8, Hf)] [4] [] 1 [.bool false] [] hmix (ac (vc_len _ : ((Mb r_1.Data)).length = (r_1.Data).length) (ac gg_1 (ac gg_1 (ac gg_1 (ac gg_1 an))))) ?_
   exact ⟨rfl, (sw [] [] [.a 4 (.bool (decide ((lN (r_1.Data)) ≤ (70000 : Int)) && decide ((lN (b_1)) ≤ (70000 : Int))))] [] (ac (congrArg AV.bool (andf gg_1) : (.bool false : AV) = .bool (decide ((lN (r_1.Data)) ≤ (70000 : Int)) && decide ((lN (b_1)) ≤ (70000 : Int)))) an))⟩
 refine rt ?_
 cases h
 exact ⟨.inr rfl, Nat.le_of_ble_eq_true rfl, by kernel_rfl⟩

end Go.Ab
