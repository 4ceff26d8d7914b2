/- Plain laws of the functions below this seat's, laid anew from another seat's text. No conditions but those that the theorems name. -/
import Derived.Test.YtlnlcciflpncmaaP11xD
import Derived.Test.YtlnlcciflpncmaaB11a
import Derived.Test.YtlnlcciflpncmaaB11b
import Derived.Test.YtlnlcciflpncmaaB11c
import Derived.Test.YtlnlcciflpncmaaB11d
import Derived.Test.YtlnlcciflpncmaaB11e
namespace Go.Ab
open Go
set_option linter.unusedVariables false
/-- Reading an integer at a place, unless something failed before. -/
def numF (b : List Int) (u f : Int) : Int × Int × Int := if f ≠ 0 then (0, u, f) else ((vrd (b.drop u.toNat) 0 0).1, u + (vrd (b.drop u.toNat) 0 0).2.1, (vrd (b.drop u.toNat) 0 0).2.2)
theorem drop_ok {b : List Int} (hb : ∀ x ∈ b, okU8 x) (n : Nat) : ∀ x ∈ b.drop n, okU8 x := fun x hx => hb x (List.mem_of_mem_drop hx)
theorem numF_range {b : List Int} {u f : Int} (hb : ∀ x ∈ b, okU8 x) (h0 : 0 ≤ u) (h1 : u ≤ b.length) : okI64 (numF b u f).1 ∧ u ≤ (numF b u f).2.1 ∧ (numF b u f).2.1 ≤ b.length ∧ ((numF b u f).2.2 = 0 → f = 0 ∧ u < (numF b u f).2.1) := by
  unfold numF
  split
  · exact ⟨by simp [okI64], Int.le_refl _, h1, fun h => absurd h (by assumption)⟩
  · have hv := vrd_range (l := b.drop u.toNat) (i := 0) (u := 0) (drop_ok hb _) (by omega) (by omega) (by simp)
    obtain ⟨v1, v2, v3⟩ := hv
    simp only
    have hl : (b.drop u.toNat).length = b.length - u.toNat := List.length_drop
    refine ⟨v1, ?_, ?_, fun h => ⟨by omega, by have := (v2 h).1; omega⟩⟩
    · rcases v3 with h | h
      · have := (v2 h).1; omega
      · omega
    · rcases v3 with h | h
      · have := (v2 h).2.2; omega
      · omega
theorem sub_drop (b : List Int) {u : Int} (h0 : 0 ≤ u) : sub b u (b.length : Int) = b.drop u.toNat := by
  unfold sub; rw [Int.toNat_natCast, List.take_length]
theorem record_input_num_eq {b : List Int} {u f : Int} (hb : ∀ x ∈ b, okU8 x) (hl : b.length ≤ 100000) (h0 : 0 ≤ u) (h1 : u ≤ b.length) :
    record_input_num 200000 ⟨b, u, f⟩ = some ((numF b u f).1, ⟨b, (numF b u f).2.1, (numF b u f).2.2⟩) := by
  unfold record_input_num
  have hr := numF_range (f := f) hb h0 h1
  unfold numF at *
  by_cases hf : f ≠ 0
  · rw [bne_t hf, if_pos hf]; rfl
  · rw [if_neg hf] at hr ⊢
    rw [bne_f (show f = 0 by omega), cond_false, need_t ⟨h0, h1⟩, Option.bind_some, sub_drop b h0, codec_Int_eq (drop_ok hb _) (by rw [List.length_drop]; omega) (by rw [List.length_drop]; omega), Option.bind_some]
    simp only at hr
    show some (_, (⟨b, w_i64 (u + _), _⟩ : T_record_input)) = _
    rw [w64 (by omega) (by omega)]
end Go.Ab
