/- Printed: the typed Lean functions of the Go functions, or the proofs that the Go functions meet them. No conditions but those that the theorems name. -/
import Derived.Test.YtlnlcciflpncmaaP11x4
namespace Go.Ab
open Go
set_option linter.unusedVariables false
theorem L11_PacketEncodes_ok (F : Nat) (p_1 : T_api_Packet) (r : Bool) (h : L11_PacketEncodes F p_1 = some r) : TripleG prog 5 [] [] [e_T_api_Packet p_1] [] (.bool r) := by
 refine triple_intro (fn := Go.Proofs.Try.f5) (code := codeOf Go.Proofs.Try.f5) (by kernel_rfl) (by kernel_rfl) (Nat.le_of_ble_eq_true (by kernel_rfl)) ?_
 unfold L11_PacketEncodes at h
 refine sr [(0, { id := 0 })] [1] [0] 1 [Pp 0] [Vb 24 (v_T_api_Packet p_1)] hmix an ?_
 refine sq ?_
 refine sq ?_
 obtain ⟨r_1, h_1, h⟩ := bind_some h
 refine rg [(1, { av := .bool r_1, l := [e_T_api_Packet p_1] })] [1, 9] [0] 1 [Pp 0, .bool (!r_1)] [Vb 24 (v_T_api_Packet p_1)] hmix (ar ([e_T_api_Packet p_1] : List AV) (ac (rfl : ([] : List BoxSt) = []) (ac (L11_few_ok F p_1 r_1 h_1 : TripleG prog 11 [] [] [e_T_api_Packet p_1] [] (.bool r_1)) an))) ?_
 refine cd 9 (!r_1) ?_ ?_
 ·intro g_1; replace h := cond_t g_1 h
  refine sq ?_
  obtain ⟨r_2, h_2, h⟩ := bind_some h
  refine rg [(0, { av := .bool r_2, l := [] })] [2] [] 1 [.bool r_2] [] hmix (ar ([] : List AV) (ac (rfl : ([] : List BoxSt) = []) (ac (L11_lives_ok F r_2 h_2 : TripleG prog 12 [] [] [] [] (.bool r_2)) an))) ?_
  refine rt ?_
  cases h
  exact ⟨.inr rfl, Nat.le_of_ble_eq_true rfl, by kernel_rfl⟩
 intro g_1; replace h := cond_f g_1 h
 refine sk ?_
 refine sq ?_
 obtain ⟨r_3, h_3, h⟩ := bind_some h
 refine rg [(1, { av := .tuple [.own 0 ((r_3.1).length), Ii r_3.2], ids := [1], l := [e_T_api_Packet p_1], post := [(.row 5 1 (Mb r_3.1))] })] [1, 3, 4] [0, 1] 2 [Pp 0, .own 1 ((r_3.1).length), Ii r_3.2] [Vb 24 (v_T_api_Packet p_1), Rb 5 1 (Mb r_3.1)] hmix (ar ([e_T_api_Packet p_1] : List AV) (ac (rfl : ([] : List BoxSt) = []) (ac (packet_Encode_ok F p_1 r_3 h_3 : TripleG prog 17 [] [] [e_T_api_Packet p_1] [(.row 5 1 (Mb r_3.1))] (.tuple [.own 0 ((r_3.1).length), Ii r_3.2])) an))) ?_
 refine sq ?_
 obtain ⟨r_4, h_4, h⟩ := bind_some h
 refine rg [(1, { av := .tuple [.own 0 ((r_4.1).length), Ii r_4.2], ids := [2], l := [e_T_api_Packet p_1], post := [(.row 5 1 (Mb r_4.1))] })] [3, 4, 5, 6] [1, 2] 3 [.own 1 ((r_3.1).length), Ii r_3.2, .own 2 ((r_4.1).length), Ii r_4.2] [Rb 5 1 (Mb r_3.1), Rb 5 1 (Mb r_4.1)] hmix (ar ([e_T_api_Packet p_1] : List AV) (ac (rfl : ([] : List BoxSt) = []) (ac (R11_Encode_ok F p_1 r_4 h_4 : TripleG prog 18 [] [] [e_T_api_Packet p_1] [(.row 5 1 (Mb r_4.1))] (.tuple [.own 0 ((r_4.1).length), Ii r_4.2])) an))) ?_
 refine sq ?_
 obtain ⟨p_2, h_6, h⟩ := bind_some h
 refine aw_mid (mk [(2, .bool p_2)] [] 0) ?_ ?_
 ·replace h := h_6
  rcases bft (r_3.1 == r_4.1) with gg_1 | gg_1
  ·replace h := cond_t gg_1 h
   rcases bft (r_3.2 == r_4.2) with gg_2 | gg_2
   ·replace h := cond_t gg_2 h
    obtain ⟨r_5, h_5, h⟩ := bind_some h
    refine rg [(1, { s := r_3.1 }), (3, { s := r_4.1 }), (9, Ht), (11, { av := .bool r_5, l := [] }), (12, Ht)] [2] [] 3 [.bool r_5] [] hmix (ac (by first | (simp; done) | (simp; omega) : (r_3.1).length = ((List.map (AV.int .u8) r_3.1)).length) (ac (rfl : (Mb r_3.1) = List.map (AV.int .u8) r_3.1) (ac (by first | (simp; done) | (simp; omega) : (r_4.1).length = ((List.map (AV.int .u8) r_4.1)).length) (ac (rfl : (Mb r_4.1) = List.map (AV.int .u8) r_4.1) (ac gg_1 (ac gg_1 (ac gg_1 (ac gg_1 (ac gg_2 (ar ([] : List AV) (ac (rfl : ([] : List BoxSt) = []) (ac (L11_lives_ok F r_5 h_5 : TripleG prog 12 [] [] [] [] (.bool r_5)) (ac gg_2 an))))))))))))) ?_
    cases h
    exact ⟨rfl, (sw [] [] [.s 2] [] an)⟩
   ·replace h := cond_f gg_2 h
    refine rg [(1, { s := r_3.1 }), (3, { s := r_4.1 }), (9, Ht), (11, Hg), (12, Hf)] [2] [] 3 [.bool false] [] hmix (ac (by first | (simp; done) | (simp; omega) : (r_3.1).length = ((List.map (AV.int .u8) r_3.1)).length) (ac (rfl : (Mb r_3.1) = List.map (AV.int .u8) r_3.1) (ac (by first | (simp; done) | (simp; omega) : (r_4.1).length = ((List.map (AV.int .u8) r_4.1)).length) (ac (rfl : (Mb r_4.1) = List.map (AV.int .u8) r_4.1) (ac gg_1 (ac gg_1 (ac gg_1 (ac gg_1 (ac gg_2 (ac gg_2 an)))))))))) ?_
    cases h
    exact ⟨rfl, (sw [] [] [.s 2] [] an)⟩
  ·replace h := cond_f gg_1 h
   refine rg [(1, { s := r_3.1 }), (3, { s := r_4.1 }), (6, Hg), (7, Hg), (8, Hg), (9, Hf), (11, Hg), (12, Hf)] [2] [] 3 [.bool false] [] hmix (ac (by first | (simp; done) | (simp; omega) : (r_3.1).length = ((List.map (AV.int .u8) r_3.1)).length) (ac (rfl : (Mb r_3.1) = List.map (AV.int .u8) r_3.1) (ac (by first | (simp; done) | (simp; omega) : (r_4.1).length = ((List.map (AV.int .u8) r_4.1)).length) (ac (rfl : (Mb r_4.1) = List.map (AV.int .u8) r_4.1) (ac gg_1 (ac gg_1 (ac gg_1 (ac gg_1 (ac (rfl : false = !true) (ar false an)))))))))) ?_
   cases h
   exact ⟨rfl, (sw [] [] [.s 2] [] an)⟩
 refine rt ?_
 cases h
 exact ⟨.inr rfl, Nat.le_of_ble_eq_true rfl, by kernel_rfl⟩
end Go.Ab
