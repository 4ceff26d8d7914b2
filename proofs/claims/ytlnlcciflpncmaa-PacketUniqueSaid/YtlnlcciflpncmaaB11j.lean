/- Plain laws of the functions below this seat's, laid anew from another seat's text. No conditions but those that the theorems name. -/
import Derived.Test.YtlnlcciflpncmaaP11xD
import Derived.Test.YtlnlcciflpncmaaB11a
import Derived.Test.YtlnlcciflpncmaaB11b
import Derived.Test.YtlnlcciflpncmaaB11c
import Derived.Test.YtlnlcciflpncmaaB11d
import Derived.Test.YtlnlcciflpncmaaB11e
import Derived.Test.YtlnlcciflpncmaaB11f
import Derived.Test.YtlnlcciflpncmaaB11g
import Derived.Test.YtlnlcciflpncmaaB11h
import Derived.Test.YtlnlcciflpncmaaB11i
namespace Go.Ab
open Go
set_option linter.unusedVariables false
theorem pEncS_props {p : T_api_Packet} : ((pEncS p).2 ≠ 0 ∧ (pEncS p).1 = []) ∨ ((pEncS p).2 = 0 ∧ packS p = 0 ∧ ∃ n s q, Good n s ∧ KeptR n s p.Events q ∧ (pEncS p).1 = headB p n s ++ q.flatMap encI ∧ (q.flatMap encI).length ≤ 50 * p.Events.length) := by
  unfold pEncS
  by_cases hp : packS p ≠ 0
  · rw [if_pos hp]; exact .inl ⟨hp, rfl⟩
  rw [if_neg hp]
  rcases encAll_props p.Events [] [] [] good_nil with ⟨e, h1, h2⟩ | ⟨n', s', row', q, h1, h2, h3, h4, h5, h6, h7⟩
  · rw [h1]; exact .inl ⟨h2, rfl⟩
  · rw [h1]
    refine .inr ⟨rfl, by omega, n', s', q, h2, h6, by rw [h5]; rfl, ?_⟩
    rw [h5] at h7; simpa using h7
theorem headB_len {p : T_api_Packet} {n : List (List Int)} {s : List Arr2_Int} (g : Good n s) : 5 ≤ (headB p n s).length ∧ (headB p n s).length ≤ 80000 := by
  have l1 := encI_len [p.Thread, p.Serial, p.Lost, (n.length : Int)]
  have l2 := namesB_len (g.lens).1
  have l3 := (encI_len [(s.length : Int)])
  have l4 := stacksB_len (s := s)
  have l5 := (encI_len [(p.Events.length : Int)])
  have h1 := g.n1
  have h2 := g.s1
  unfold headB
  simp only [List.length_cons, List.length_nil, List.length_append] at *
  omega
theorem pDec_zero {b : List Int} (hb : ∀ x ∈ b, okU8 x) (h : (pDecS b).2.2 = 0) : packS (pDecS b).1 = 0 ∧ (pEncS (pDecS b).1).2 = 0 ∧ 0 < (pDecS b).2.1 ∧ (pDecS b).2.1 ≤ b.length ∧ (pEncS (pDecS b).1).1 = b.take (pDecS b).2.1.toNat := by
  obtain ⟨_, _, _, _, _, _, _, _, ⟨r1, r2, _⟩, _⟩ := pd_ranges hb
  unfold pDecS at *
  by_cases h1 : dF5 b ≠ 0
  · rw [if_pos h1] at h; exact absurd h h1
  rw [if_neg h1] at *
  by_cases h2 : (pEncS (dP b)).2 ≠ 0 ∨ (pEncS (dP b)).1 ≠ b.take (dE b).1.toNat
  · rw [if_pos h2] at h; simp at h
  rw [if_neg h2] at *
  have e2 : (pEncS (dP b)).2 = 0 := by
    by_cases g : (pEncS (dP b)).2 = 0
    · exact g
    · exact absurd (.inl g) h2
  have e1 : (pEncS (dP b)).1 = b.take (dE b).1.toNat := by
    by_cases g : (pEncS (dP b)).1 = b.take (dE b).1.toNat
    · exact g
    · exact absurd (.inr g) h2
  rcases pEncS_props (p := dP b) with ⟨h0, _⟩ | ⟨_, hp, n, s, q, g, k, h3, _⟩
  · exact absurd e2 h0
  refine ⟨hp, e2, ?_, r2, e1⟩
  have := congrArg List.length e1
  rw [h3, List.length_append, List.length_take] at this
  have := (headB_len (p := dP b) g).1
  simp only; omega
theorem pDec_fail {b : List Int} (h : (pDecS b).2.2 ≠ 0) : (pDecS b).2.1 = 0 ∧ (pDecS b).1 = pk0 := by
  revert h
  unfold pDecS
  split
  · intro _; exact ⟨rfl, rfl⟩
  split
  · intro _; exact ⟨rfl, rfl⟩
  · intro h; exact absurd rfl h
end Go.Ab
