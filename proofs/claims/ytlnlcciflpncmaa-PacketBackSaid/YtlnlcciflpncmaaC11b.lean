/- Packets: back and unique. -/
import Derived.Test.YtlnlcciflpncmaaB11j
import Derived.Test.YtlnlcciflpncmaaC11
namespace Go.Ab
open Go
set_option linter.unusedVariables false

theorem L11_PacketBack_plain : ∀ (a0 : T_api_Packet) (a1 : List (Int)), ok_T_api_Packet a0 → (okSl okU8) a1 → ∃ F, L11_PacketBack F a0 a1 = some true := by
  intro p more _ hm
  refine ⟨200000, ?_⟩
  unfold L11_PacketBack
  rcases few_cases p with h | ⟨h, h1, h2⟩
  · rw [h]; simp only [Option.bind_some, Bool.not_false, cond_true, lives11]
  by_cases hl : (more.length : Int) > 100
  · rw [h]; simp only [Option.bind_some, Bool.not_true, cond_false, dec_t hl, cond_true, lives11]
  have hs : ∀ e ∈ p.Events, e.Stack.length ≤ 100000 := fun e he => by have := h2 e he; omega
  rw [h, packet_Encode_eq (by omega)]
  simp only [Option.bind_some, Bool.not_true, cond_false, dec_f hl]
  rcases pEncS_props (p := p) with ⟨k1, k2⟩ | ⟨k1, k2, n, s, q, g, k, k3, k4⟩
  · rw [bne_t k1, k2]; simp only [cond_true, List.length_nil, lives11, Option.bind_some]; rfl
  · have hb := headB_len (p := p) g
    have hlen : (pEncS p).1.length ≤ 82000 := by rw [k3, List.length_append]; omega
    rw [bne_f k1, cond_false, need_t (by simp; omega), Option.bind_some, need_t (by simp; omega), Option.bind_some, List.nil_append, packet_Decode_eq (fun x hx => (List.mem_append.1 hx).elim (pEncS_ok x) (hm.1 x)) (by rw [List.length_append]; omega), Option.bind_some, pDec_back k1]
    simp only
    rw [R11_Same_eq (by omega) hs]
    simp only [Option.bind_some, decide_true, cond_true, BEq.rfl, lives11]
end Go.Ab
