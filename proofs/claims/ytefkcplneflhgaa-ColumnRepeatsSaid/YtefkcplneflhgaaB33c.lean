/- Plain laws of the functions below this seat's, laid anew from another seat's text. No conditions but those that the theorems name. -/
import Derived.Test.YtefkcplneflhgaaP33xD
import Derived.Test.YtefkcplneflhgaaB33a
namespace Go.Ab
open Go
set_option linter.unusedVariables false
theorem R05_PutText_loop {F : Nat} {s : List Int} (hs : s.length ≤ 140737488000000) : ∀ (n i : Nat) (row : List Int), (s.drop i).length < n → row.length + (s.drop i).length ≤ 140737488355000 →
    R05_PutText_L1 F s n (i : Int) row = some (row ++ s.drop i) := by
  intro n
  induction n with
  | zero => intro i row h; omega
  | succ n ih =>
    intro i row hn hr
    show R05_PutText_L1_body F s (R05_PutText_L1 F s n) i row = _
    unfold R05_PutText_L1_body
    rcases hd : s.drop i with _ | ⟨c, r⟩
    · have := drop_nil hd
      rw [dec_f (by omega), cond_false]; simp
    · have hlt := drop_lt hd
      rw [hd] at hr hn
      simp only [List.length_cons] at hr hn
      rw [dec_t (by omega), cond_true, idxL_drop hd, Option.bind_some, need_t (by simp; omega), Option.bind_some, w64 (by omega) (by omega), show (i : Int) + 1 = ((i + 1 : Nat) : Int) by omega,
        ih (i + 1) _ (by rw [drop_step hd]; omega) (by rw [drop_step hd]; simp; omega), drop_step hd]
      simp
theorem R05_PutText_eq {F : Nat} {b s : List Int} (hl : b.length ≤ 100000000) (hs : s.length ≤ 100000000) (hF : s.length < F) (hF2 : 9 < F) : R05_PutText F b s = some (b ++ venc 9 (zenc s.length) ++ s) := by
  unfold R05_PutText
  have hv := (venc_len 9 (zenc s.length)).2
  rw [R05_PutInt_eq (by unfold okI64; omega) (by omega) hF2, Option.bind_some, show R05_PutText_L1 F s F 0 (b ++ venc 9 (zenc s.length)) = some (b ++ venc 9 (zenc s.length) ++ s.drop 0) from R05_PutText_loop (by omega) F 0 _ (by simpa using hF) (by simp; omega)]
  rfl

theorem codec_PutText_eq {F : Nat} {b s : List Int} (hl : b.length ≤ 100000000) (hs : s.length ≤ 100000000) (hF2 : 9 < F) : codec_PutText F b s = some (b ++ venc 9 (zenc s.length) ++ s) := by
  unfold codec_PutText
  have hv := (venc_len 9 (zenc s.length)).2
  rw [codec_PutInt_eq (by unfold okI64; omega) (by omega) hF2, Option.bind_some]
  generalize hr : b ++ venc 9 (zenc s.length) = r
  have hrl : r.length ≤ 100000010 := by rw [← hr]; simp; omega
  have e1 : w_i64 ((r.length : Int) + (s.length : Int)) = ((r.length + s.length : Nat) : Int) := by rw [w64 (by omega) (by omega)]; omega
  have c1 : cpy (List.replicate (r.length + s.length) (0 : Int)) 0 (r.length + s.length) r = r ++ List.replicate s.length 0 := by
    unfold cpy
    rw [show min r.length (r.length + s.length - 0) = r.length by omega, List.take_length, List.drop_replicate, show r.length + s.length - (0 + r.length) = s.length by omega]; rfl
  have c2 : cpy (r ++ List.replicate s.length (0 : Int)) r.length (r.length + s.length) s = r ++ s := by
    unfold cpy
    rw [show min s.length (r.length + s.length - r.length) = s.length by omega, List.take_length, List.take_left, List.drop_eq_nil_of_le (by simp), List.append_nil]
  simp only [e1, Int.toNat_natCast, c1, c2, List.length_append, List.length_replicate]
  rw [need_t (by omega), Option.bind_some, need_t (by omega), Option.bind_some, need_t (by omega), Option.bind_some, need_t (by omega), Option.bind_some]

/-- The text at the beginning. -/
def txt (b : List Int) (most : Int) : List Int × Int × Int :=
  let r := vrd b 0 0
  if r.2.2 ≠ 0 then ([], 0, r.2.2) else if r.1 < 0 then ([], 0, 10) else if r.1 > most then ([], 0, 7) else if r.1 > b.length - r.2.1 then ([], 0, 8) else
  (sub b r.2.1 (r.2.1 + r.1), r.2.1 + r.1, 0)

theorem codec_Text_eq {F : Nat} {b : List Int} {most : Int} (hb : ∀ x ∈ b, okU8 x) (hl : b.length ≤ 4611686018427387904) (hF : b.length < F) : codec_Text F b most = some (txt b most) := by
  unfold codec_Text txt
  rw [codec_Int_eq hb hl hF, Option.bind_some]
  obtain ⟨k1, k2, k3⟩ := vrd_range (i := 0) (u := 0) hb (by omega) (by omega) (by decide)
  generalize vrd b 0 0 = r at *
  unfold okI64 at k1
  simp only [Bool.cond_eq_ite, bne_iff_ne, decide_eq_true_eq]
  by_cases g0 : r.2.2 ≠ 0
  · rw [if_pos g0, if_pos g0]
  rw [if_neg g0, if_neg g0]
  have := k2 (by omega)
  by_cases g1 : r.1 < 0
  · rw [if_pos g1, if_pos g1]
  rw [if_neg g1, if_neg g1]
  by_cases g2 : r.1 > most
  · rw [if_pos g2, if_pos g2]
  rw [if_neg g2, if_neg g2, w64 (by omega) (by omega)]
  by_cases g3 : r.1 > b.length - r.2.1
  · rw [if_pos g3, if_pos g3]
  rw [if_neg g3, if_neg g3, w64 (by omega) (by omega), need_t (by omega), Option.bind_some]
theorem R05_Text_eq {F : Nat} {b : List Int} {most : Int} (hb : ∀ x ∈ b, okU8 x) (hl : b.length ≤ 4611686018427387904) (hF : b.length < F) (hF2 : 10 < F) : R05_Text F b most = some (txt b most) := by
  have h := codec_Text_eq (most := most) hb hl hF
  unfold codec_Text at h
  unfold R05_Text
  rw [codec_Int_eq hb hl hF] at h
  rw [R05_Int_eq hb hl hF2]
  exact h
end Go.Ab
