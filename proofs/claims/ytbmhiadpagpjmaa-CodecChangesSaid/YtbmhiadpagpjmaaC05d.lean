/- Codec: the plain laws. -/
import Derived.Test.YtbmhiadpagpjmaaC05b
import Derived.Test.YtbmhiadpagpjmaaC05c
import Derived.KernelRfl
namespace Go.Ab
open Go
set_option linter.unusedVariables false

theorem lives_true : lives 1000 = some true := by kernel_rfl
theorem len_gt {α : Type} {l : List α} {n : Nat} : (decide ((l.length : Int) > (n : Int)) = true) = (n < l.length) := by
  rw [decide_eq_true_eq]; exact propext ⟨fun h => by omega, fun h => by omega⟩

theorem lReads_plain : ∀ (a0 : List Int) (a1 : Int), (okSl okU8) a0 → okI64 a1 → ∃ F, lReads F a0 a1 = some true := by
  intro a0 a1 h0 h1
  refine ⟨1000, ?_⟩
  unfold lReads
  by_cases hl : (a0.length : Int) > 300
  · rw [dec_t hl, cond_true, lives_true]; rfl
  · rw [dec_f hl, cond_false, cInt_eq h0.1 (by omega) (by omega), Option.bind_some, rInt_eq h0.1 (by omega) (by omega), Option.bind_some, cText_eq h0.1 (by omega) (by omega), Option.bind_some, rText_eq h0.1 (by omega) (by omega) (by omega), Option.bind_some]
    simp only [BEq.rfl, cond_true, lives_true, Option.bind_some]

theorem lSums_plain : ∀ (a0 : List Int), (okSl okU8) a0 → ∃ F, lSums F a0 = some true := by
  intro a0 h0
  refine ⟨1000, ?_⟩
  unfold lSums
  by_cases hl : (a0.length : Int) > 600
  · rw [dec_t hl, cond_true, lives_true]; rfl
  · rw [dec_f hl, cond_false, cSum_eq h0.1 (by omega) (by omega) (by omega), Option.bind_some, rSum_eq h0.1 (by omega) (by omega) (by omega), Option.bind_some]
    simp only [BEq.rfl, cond_true, lives_true, Option.bind_some]

theorem lWrites_plain : ∀ (a0 : List Int) (a1 : Int) (a2 : List Int), (okSl okU8) a0 → okI64 a1 → okStr a2 → ∃ F, lWrites F a0 a1 a2 = some true := by
  intro a0 a1 a2 h0 h1 h2
  refine ⟨1000, ?_⟩
  unfold lWrites
  by_cases hl : (a0.length : Int) > 300 ∨ (a2.length : Int) > 300
  · rw [show (decide ((a0.length : Int) > 300) || decide ((a2.length : Int) > 300)) = true by simpa using hl, cond_true, lives_true]; rfl
  · rw [show (decide ((a0.length : Int) > 300) || decide ((a2.length : Int) > 300)) = false by simpa using hl, cond_false, cPutInt_eq h1 (by omega) (by omega), Option.bind_some, cPutText_eq (by omega) (by omega) (by omega), Option.bind_some,
      rPutInt_eq h1 (by omega) (by omega), Option.bind_some, rPutText_eq (by omega) (by omega) (by omega) (by omega)]
    simp only [BEq.rfl, cond_true, lives_true, Option.bind_some]

theorem vrd_put {n : Int} {more : List Int} (hn : okI64 n) : vrd (venc 9 (zenc n) ++ more) 0 0 = (n, ((venc 9 (zenc n)).length : Int), 0) := by
  have hz := zenc_range hn
  have := vrd_venc (k := 9) (i := 0) (u := 0) (v := zenc n) (more := more) (by omega) hz.1 (u64_128 hz.2) (fun _ => rfl) (by have := hz.2; simpa using this) (by omega)
  rw [this]
  simp [zdec_zenc]
theorem txt_put {s more : List Int} {most : Int} (hl : s.length ≤ 1000000) : txt (venc 9 (zenc s.length) ++ s ++ more) most = if (s.length : Int) > most then ([], 0, 7) else (s, (((venc 9 (zenc s.length)) ++ s).length : Int), 0) := by
  unfold txt
  rw [List.append_assoc, vrd_put (by unfold okI64; omega)]
  simp only
  generalize venc 9 (zenc s.length) = v
  rw [if_neg (by simp), if_neg (by omega)]
  split
  · rfl
  · rw [if_neg (by simp only [List.length_append]; omega)]
    congr 1
    · unfold sub
      rw [show ((v.length : Int) + (s.length : Int)).toNat = v.length + s.length by omega, Int.toNat_natCast, ← List.append_assoc, List.take_left' (by simp), List.drop_left' rfl]
    · simp
theorem venc_okZ {n : Int} (hn : okI64 n) : ∀ x ∈ venc 9 (zenc n), okU8 x := venc_ok (zenc_range hn).1 (u64_128 (zenc_range hn).2)
theorem ok_app {l m : List Int} (hl : ∀ x ∈ l, okU8 x) (hm : ∀ x ∈ m, okU8 x) : ∀ x ∈ l ++ m, okU8 x := by
  intro x hx; rcases List.mem_append.1 hx with h | h
  · exact hl x h
  · exact hm x h

theorem lBack_plain : ∀ (a0 : Int) (a1 : List Int) (a2 : List Int) (a3 : Int), okI64 a0 → okStr a1 → (okSl okU8) a2 → okI64 a3 → ∃ F, lBack F a0 a1 a2 a3 = some true := by
  intro a0 a1 a2 a3 h0 h1 h2 h3
  refine ⟨1000, ?_⟩
  unfold lBack
  have v1 := venc_len 9 (zenc a0)
  have v2 := venc_len 9 (zenc a1.length)
  have o1 := venc_okZ h0
  by_cases hl : (a1.length : Int) > 300 ∨ (a2.length : Int) > 300
  · rw [show (decide ((a1.length : Int) > 300) || decide ((a2.length : Int) > 300)) = true by simpa using hl, cond_true, lives_true]; rfl
  · have o2 := venc_okZ (n := a1.length) (by unfold okI64; omega)
    rw [show (decide ((a1.length : Int) > 300) || decide ((a2.length : Int) > 300)) = false by simpa using hl, cond_false, cPutInt_eq h0 (by simp) (by omega), Option.bind_some]
    simp only [List.nil_append]
    rw [need_t (by simp; omega), Option.bind_some, need_t (by simp; omega), Option.bind_some, cInt_eq (ok_app o1 h2.1) (by simp; omega) (by simp; omega), Option.bind_some, vrd_put h0]
    simp only
    have hlast : ((a0 != a0) || ((((venc 9 (zenc a0)).length : Int) != ((venc 9 (zenc a0)).length : Int)) || (((0 : Int) != 0) || (decide (((venc 9 (zenc a0)).length : Int) < 1) || decide (((venc 9 (zenc a0)).length : Int) > 10))))) = false := by
      rw [bne_f rfl, bne_f rfl, bne_f rfl, dec_f (by omega), dec_f (by omega)]; rfl
    rw [hlast, cond_false, cPutText_eq (by simp) (by omega) (by omega), Option.bind_some]
    simp only [List.nil_append]
    have ht := txt_put (s := a1) (more := a2) (most := a3) (by omega)
    generalize venc 9 (zenc (a1.length : Int)) = w at *
    have n1 : (([] : List Int).length + (w ++ a1).length) * 1 ≤ 140737488355328 := by simp only [List.length_append, List.length_nil]; omega
    have n2 : ((w ++ a1).length + a2.length) * 1 ≤ 140737488355328 := by simp only [List.length_append]; omega
    rw [need_t n1, Option.bind_some, need_t n2, Option.bind_some, cText_eq (ok_app (ok_app o2 h1.1) h2.1) (by simp; omega) (by simp; omega), Option.bind_some, ht]
    by_cases hm : (a1.length : Int) > a3
    · rw [if_pos hm, dec_t hm, cond_true]
      simp only [BEq.rfl, cond_true, lives_true, Option.bind_some]
    · rw [if_neg hm, dec_f hm, cond_false]
      simp only [BEq.rfl, cond_true, lives_true, Option.bind_some]

theorem lUnique_plain : ∀ (a0 : List Int) (a1 : Int), (okSl okU8) a0 → okI64 a1 → ∃ F, lUnique F a0 a1 = some true := by
  intro b most h0 h1
  refine ⟨1000, ?_⟩
  unfold lUnique
  by_cases hl : (b.length : Int) > 300
  · rw [dec_t hl, cond_true, lives_true]; rfl
  rw [dec_f hl, cond_false, cInt_eq h0.1 (by omega) (by omega), Option.bind_some, cText_eq h0.1 (by omega) (by omega)]
  obtain ⟨k1, k2, k3⟩ := vrd_range (i := 0) (u := 0) h0.1 (by omega) (by omega) (by decide)
  have hu : (vrd b 0 0).2.2 = 0 → venc 9 (zenc (vrd b 0 0).1) = sub b 0 (vrd b 0 0).2.1 ∧ 0 < zenc (vrd b 0 0).1 + 1 := by
    intro he
    obtain ⟨v, g1, g2, g3, g4, g5⟩ := vrd_unique (i := 0) (u := 0) h0.1 (by omega) (by omega) (by decide) he
    have e : (0 : Int) + v * 2 ^ (7 * 0) = v := by simp
    rw [e] at g4
    rw [g4, zenc_zdec g1]
    refine ⟨?_, by omega⟩
    unfold sub
    simp only [Int.toNat_zero, List.drop_zero]
    simpa using g5.symm
  have p1 : (bif ((vrd b 0 0).2.2 == (0 : Int)) then (bif decide ((vrd b 0 0).2.1 < (1 : Int)) then (some true) else (bif decide ((vrd b 0 0).2.1 > ((b.length : Nat) : Int)) then (some true) else ((cPutInt 1000 [] (vrd b 0 0).1).bind fun r_3 => (need ((0 : Int) ≤ (vrd b 0 0).2.1 ∧ (vrd b 0 0).2.1 ≤ ((b.length : Nat) : Int))).bind fun _ => some !(r_3 == (sub b (0 : Int) (vrd b 0 0).2.1))))) else (some false)) = some false := by
    by_cases he : (vrd b 0 0).2.2 = 0
    · have k2 := k2 he
      rw [beq_t he, cond_true, dec_f (by omega), cond_false, dec_f (by omega), cond_false, cPutInt_eq k1 (by simp) (by omega), Option.bind_some, need_t (by omega), Option.bind_some, List.nil_append, (hu he).1, BEq.rfl]; rfl
    · rw [beq_f he, cond_false]
  rw [p1, Option.bind_some, cond_false, Option.bind_some]
  have p2 : (bif ((txt b most).2.2 == (0 : Int)) then (bif decide ((txt b most).2.1 < (1 : Int)) then (some true) else (bif decide ((txt b most).2.1 > ((b.length : Nat) : Int)) then (some true) else ((cPutText 1000 [] (txt b most).1).bind fun r_5 => (need ((0 : Int) ≤ (txt b most).2.1 ∧ (txt b most).2.1 ≤ ((b.length : Nat) : Int))).bind fun _ => some !(r_5 == (sub b (0 : Int) (txt b most).2.1))))) else (some false)) = some false := by
    by_cases he : (txt b most).2.2 = 0
    · rw [beq_t he, cond_true]
      unfold txt at he ⊢
      generalize hr : vrd b 0 0 = r at *
      simp only at he ⊢
      by_cases c0 : r.2.2 ≠ 0
      · rw [if_pos c0] at he; exact absurd he c0
      rw [if_neg c0] at he ⊢
      by_cases c1 : r.1 < 0
      · rw [if_pos c1] at he; simp at he
      rw [if_neg c1] at he ⊢
      by_cases c2 : r.1 > most
      · rw [if_pos c2] at he; simp at he
      rw [if_neg c2] at he ⊢
      by_cases c3 : r.1 > b.length - r.2.1
      · rw [if_pos c3] at he; simp at he
      rw [if_neg c3] at he ⊢
      have k2 := k2 (by omega)
      simp only
      have hsl : (sub b r.2.1 (r.2.1 + r.1)).length = r.1.toNat := by unfold sub; simp; omega
      rw [dec_f (by omega), cond_false, dec_f (by omega), cond_false, cPutText_eq (by simp) (by omega) (by omega), Option.bind_some, need_t (by omega), Option.bind_some, List.nil_append]
      have e1 : (((sub b r.2.1 (r.2.1 + r.1)).length : Nat) : Int) = r.1 := by omega
      rw [e1, (hu (by omega)).1]
      have e2 : sub b 0 r.2.1 ++ sub b r.2.1 (r.2.1 + r.1) = sub b 0 (r.2.1 + r.1) := by
        unfold sub
        simp only [Int.toNat_zero, List.drop_zero]
        have e3 : (r.2.1 + r.1).toNat = r.2.1.toNat + r.1.toNat := by omega
        rw [e3, List.take_add, List.drop_append_of_le_length (by simp; omega)]
        rw [List.drop_take_self, List.nil_append]
      rw [e2, BEq.rfl]; rfl
    · rw [beq_f he, cond_false]
  rw [p2, Option.bind_some, cond_false, lives_true]; rfl

theorem lShort_plain : ∀ (a0 : Int) (a1 : List Int) (a2 : Int), okI64 a0 → okStr a1 → okI64 a2 → ∃ F, lShort F a0 a1 a2 = some true := by
  intro n s cut h0 h1 h2
  refine ⟨1000, ?_⟩
  unfold lShort
  by_cases hl : (s.length : Int) > 300
  · rw [dec_t hl, cond_true, lives_true]; rfl
  have v1 := venc_len 9 (zenc n)
  have v2 := venc_len 9 (zenc s.length)
  have o1 := venc_okZ h0
  have o2 := venc_okZ (n := s.length) (by unfold okI64; omega)
  have hz := zenc_range h0
  have hz2 := zenc_range (n := s.length) (by unfold okI64; omega)
  rw [dec_f hl, cond_false, cPutInt_eq h0 (by simp) (by omega), Option.bind_some, cPutText_eq (by simp) (by omega) (by omega), Option.bind_some, List.nil_append, List.nil_append]
  have hvr : vrd (venc 9 (zenc s.length) ++ (s.take (cut.toNat - (venc 9 (zenc s.length)).length))) 0 0 = ((s.length : Int), ((venc 9 (zenc s.length)).length : Int), 0) := vrd_put (by unfold okI64; omega)
  have hvs : ∀ j, j < (venc 9 (zenc s.length)).length → vrd ((venc 9 (zenc s.length)).take j) 0 0 = (0, 0, 8) := fun j hj => vrd_short hj (by omega) hz2.1
  have hvn : ∀ j, j < (venc 9 (zenc n)).length → vrd ((venc 9 (zenc n)).take j) 0 0 = (0, 0, 8) := fun j hj => vrd_short hj (by omega) hz.1
  generalize venc 9 (zenc n) = v at *
  generalize venc 9 (zenc s.length) = w at *
  have q1 : ((bif (decide (cut ≥ (0 : Int)) && decide (cut < ((v.length : Nat) : Int))) then (need ((0 : Int) ≤ cut ∧ cut ≤ ((v.length : Nat) : Int))).bind fun _ => (cInt 1000 (sub v (0 : Int) cut)).bind fun r_4 =>
    (bif ((r_4.2.1 != (0 : Int)) || (r_4.2.2 != (8 : Int))) then some (.inr false) else some (.inl ())) else some (.inl ())) : Option (Unit ⊕ Bool)) = some (.inl ()) := by
    by_cases hc : 0 ≤ cut ∧ cut < (v.length : Int)
    · rw [show (decide (cut ≥ (0 : Int)) && decide (cut < ((v.length : Nat) : Int))) = true by simpa using hc, cond_true, need_t (by omega), Option.bind_some]
      have e : sub v 0 cut = v.take cut.toNat := by unfold sub; simp
      rw [e, cInt_eq (fun x hx => o1 x (List.mem_of_mem_take hx)) (by simp; omega) (by simp; omega), Option.bind_some, hvn _ (by omega)]
      rfl
    · rw [show (decide (cut ≥ (0 : Int)) && decide (cut < ((v.length : Nat) : Int))) = false by simpa using hc, cond_false]
  rw [q1, Option.bind_some]
  simp only
  have q2 : ((bif (decide (cut ≥ (0 : Int)) && decide (cut < (((w ++ s).length : Nat) : Int))) then (need ((0 : Int) ≤ cut ∧ cut ≤ (((w ++ s).length : Nat) : Int))).bind fun _ => (need (0 ≤ (cut.toNat) ∧ (cut.toNat) ≤ (w ++ s).length)).bind fun _ => (cText 1000 (((w ++ s).take (cut.toNat)).drop 0) (300 : Int)).bind fun r_5 =>
    (bif ((r_5.2.1 != (0 : Int)) || (r_5.2.2 != (8 : Int))) then some (.inr false) else some (.inl ())) else some (.inl ())) : Option (Unit ⊕ Bool)) = some (.inl ()) := by
    by_cases hc : 0 ≤ cut ∧ cut < ((w ++ s).length : Int)
    · have hc2 := hc.2
      simp only [List.length_append] at hc2
      rw [show (decide (cut ≥ (0 : Int)) && decide (cut < (((w ++ s).length : Nat) : Int))) = true by rw [dec_t hc.1, dec_t hc.2]; rfl, cond_true, need_t (by omega), Option.bind_some, need_t (by omega), Option.bind_some, List.drop_zero,
        cText_eq (fun x hx => ok_app o2 h1.1 x (List.mem_of_mem_take hx)) (by simp; omega) (by simp; omega), Option.bind_some]
      have e : txt ((w ++ s).take cut.toNat) 300 = ([], 0, 8) := by
        unfold txt
        rw [List.take_append]
        rcases Nat.lt_or_ge cut.toNat w.length with hh | hh
        · rw [show cut.toNat - w.length = 0 by omega, List.take_zero, List.append_nil, hvs _ hh]; rfl
        · rw [List.take_of_length_le hh, hvr]
          simp only
          rw [if_neg (by simp), if_neg (by omega), if_neg (by omega), if_pos (by simp; omega)]
      rw [e]; rfl
    · rw [show (decide (cut ≥ (0 : Int)) && decide (cut < (((w ++ s).length : Nat) : Int))) = false by
        rw [Bool.and_eq_false_iff]; rcases Int.lt_or_le cut 0 with g | g
        · exact .inl (dec_f (by omega))
        · exact .inr (dec_f (by omega)), cond_false]
  rw [q2, Option.bind_some]
  simp only
  rw [dec_t (by omega), cond_true, dec_t (by simp; omega), cond_true, lives_true]; rfl
end Go.Ab
