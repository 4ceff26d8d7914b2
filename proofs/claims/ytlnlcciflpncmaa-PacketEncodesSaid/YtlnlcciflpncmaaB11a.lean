/- Plain laws of the functions below this seat's, laid anew from another seat's text. No conditions but those that the theorems name. -/
import Derived.Test.YtlnlcciflpncmaaP11xD
import Derived.Test.YtlnlcciflpncmaaA35
namespace Go.Ab
open Go
set_option linter.unusedVariables false
def zenc (n : Int) : Int := if n < 0 then -2 * n - 1 else 2 * n
def zdec (u : Int) : Int := if u % 2 = 1 then -(u / 2) - 1 else u / 2
theorem zenc_range {n : Int} (h : okI64 n) : okU64 (zenc n) := by unfold okI64 at h; unfold okU64 zenc; split <;> omega
theorem codec_number_eq {n : Int} (h : okI64 n) : codec_number n = some (zenc n) := by
 unfold okI64 at h
 unfold codec_number
 have e2 : ishr .i64 n 63 = if n < 0 then -1 else 0 := by
  unfold ishr
  simp only [IntKind.bits]
  rw [Int.fdiv_eq_ediv_of_nonneg _ (by decide)]
  split <;> simp <;> omega
 rw [e2]
 unfold zenc
 have e1 : ishl .u64 (w_u64 n) 1 = 2 * w_u64 n % 18446744073709551616 := by
  unfold ishl
  have := wu64_mod (w_u64 n * 2 ^ (min (1 : Int).toNat IntKind.u64.bits))
  simp only [w_u64] at this ⊢
  rw [this]; simp [IntKind.bits]; omega
 rw [e1, wu64_mod n]
 split
 ·rw [wu64_mod (-1), show (-1 : Int) % 18446744073709551616 = 18446744073709551615 by decide, ixor_u64_ones (by omega) (by omega)]
  congr 1; omega
 ·rw [wu64_mod 0, show (0 : Int) % 18446744073709551616 = 0 by decide, ixor_u64_zero (by omega) (by omega)]
  congr 1; omega
theorem R05_number_eq {n : Int} (h : okI64 n) : R05_number n = some (zenc n) := by
 unfold okI64 at h
 unfold R05_number zenc
 simp only [Bool.cond_eq_ite, decide_eq_true_eq]
 split
 ·simp (disch := omega) only [w64, wu64]; congr 1; omega
 ·simp (disch := omega) only [wu64]
def vrd : List Int → Nat → Int → Int × Int × Int
 | [], _, _ => (0, 0, 8)
 | c :: r, i, u =>
  if i = 9 ∧ 1 < c then (0, 0, 10) else
  if 128 ≤ c then vrd r (i + 1) (u + (c - 128) * 2 ^ (7 * i)) else
  if c = 0 ∧ 0 < i then (0, 0, 10) else (zdec (u + c * 2 ^ (7 * i)), (i : Int) + 1, 0)
def venc : Nat → Int → List Int
 | 0, u => [u]
 | k + 1, u => if u < 128 then [u] else (u % 128 + 128) :: venc k (u / 128)
theorem venc_len (k : Nat) (u : Int) : 1 ≤ (venc k u).length ∧ (venc k u).length ≤ k + 1 := by
 induction k generalizing u with
 | zero => simp [venc]
 | succ k ih =>
  simp only [venc]; split
  ·simp
  ·have := ih (u / 128); simp; omega
theorem pow128 (k : Nat) : (128 : Int) ^ (k + 1) = 128 * 128 ^ k := by rw [Int.pow_succ]; omega
theorem div128 {k : Nat} {u : Int} (h : u < 128 ^ (k + 1 + 1)) : u / 128 < 128 ^ (k + 1) := by
 have := pow128 (k + 1); omega
theorem venc_ok {k : Nat} {u : Int} (h0 : 0 ≤ u) (h : u < 128 ^ (k + 1)) : ∀ x ∈ venc k u, okU8 x := by
 induction k generalizing u with
 | zero => intro x hx; simp [venc] at hx; subst hx; simp at h; unfold okU8; omega
 | succ k ih =>
  intro x hx
  simp only [venc] at hx
  split at hx
  ·simp at hx; subst hx; unfold okU8; omega
  ·rcases List.mem_cons.1 hx with rfl | hx
   ·unfold okU8; omega
   ·exact ih (by omega) (div128 h) x hx
theorem R05_PutInt_loop {F : Nat} : ∀ (k n : Nat) (u : Int) (row : List Int), 0 ≤ u → u ≤ 18446744073709551615 → u < 128 ^ (k + 1) → k < n → row.length + k + 2 ≤ 140737488355328 →
  ∃ a l, R05_PutInt_L1 F n u row = some (a, l) ∧ l ++ [a] = row ++ venc k u ∧ 0 ≤ a ∧ a < 128 ∧ l.length ≤ row.length + k := by
 intro k
 induction k with
 | zero =>
  intro n u row h0 h1 h2 hn hr
  obtain ⟨n, rfl⟩ : ∃ m, n = m + 1 := ⟨n - 1, by omega⟩
  simp at h2
  show ∃ a l, R05_PutInt_L1_body F (R05_PutInt_L1 F n) u row = some (a, l) ∧ _
  unfold R05_PutInt_L1_body
  rw [dec_f (show ¬ (u ≥ 128) by omega), cond_false]
  exact ⟨u, row, rfl, rfl, h0, h2, by simp⟩
 | succ k ih =>
  intro n u row h0 h1 h2 hn hr
  obtain ⟨n, rfl⟩ : ∃ m, n = m + 1 := ⟨n - 1, by omega⟩
  show ∃ a l, R05_PutInt_L1_body F (R05_PutInt_L1 F n) u row = some (a, l) ∧ _
  unfold R05_PutInt_L1_body
  by_cases hu : u < 128
  ·rw [dec_f (show ¬ (u ≥ 128) by omega), cond_false]
   exact ⟨u, row, rfl, by simp [venc, hu], h0, hu, by simp⟩
  ·rw [dec_t (show u ≥ 128 by omega), cond_true, need_t (by simp; omega), Option.bind_some, iquo_div (k := .u64) h0 (show u < 2 ^ 64 by omega) (by omega), irem_mod h0]
   simp (disch := omega) only [wu8]
   obtain ⟨a, l, e1, e2, e3, e4, e5⟩ := ih n (u / 128) (row ++ [u % 128 + 128]) (by omega) (by omega) (div128 h2) (by omega) (by simp; omega)
   refine ⟨a, l, e1, ?_, e3, e4, by simp at e5; omega⟩
   rw [e2]; simp only [venc, if_neg hu, List.append_assoc, List.singleton_append]
theorem u64_128 {u : Int} (h : u ≤ 18446744073709551615) : u < 128 ^ (9 + 1) := by
 have : (128 : Int) ^ (9 + 1) = 1180591620717411303424 := by decide
 omega
theorem R05_PutInt_eq {F : Nat} {b : List Int} {n : Int} (hn : okI64 n) (hl : b.length ≤ 140737488355000) (hF : 9 < F) : R05_PutInt F b n = some (b ++ venc 9 (zenc n)) := by
 have hz := zenc_range hn
 unfold R05_PutInt
 obtain ⟨a, l, e1, e2, e3, e4, e5⟩ := R05_PutInt_loop (F := F) 9 F (zenc n) b hz.1 hz.2 (u64_128 hz.2) hF (by omega)
 rw [need_t (by simp; omega), Option.bind_some, R05_number_eq hn, Option.bind_some, List.nil_append, e1, Option.bind_some, need_t (by simp; omega), Option.bind_some]
 simp (disch := omega) only [wu8]
 rw [e2]
theorem set_mid (p r : List Int) (x v : Int) : (p ++ x :: r).set p.length v = p ++ v :: r := by
 rw [List.set_append_right _ _ (Nat.le_refl _)]; simp
theorem get_mid (p r : List Int) (x : Int) : (p ++ x :: r)[p.length]? = some x := by
 rw [List.getElem?_append_right (Nat.le_refl _)]; simp
theorem codec_PutInt_loop {F : Nat} : ∀ (k n : Nat) (u : Int) (p r : List Int), 0 ≤ u → u ≤ 18446744073709551615 → u < 128 ^ (k + 1) → k < n → p.length + k + 1 = 10 → r.length = k + 1 →
  ∃ (m : Nat) (l : List Int), codec_PutInt_L1 F n (p.length : Int) u (p ++ r) = some (((m : Nat) : Int), l) ∧ l.take m = p ++ venc k u ∧ m ≤ 10 ∧ l.length = 10 := by
 intro k
 induction k with
 | zero =>
  intro n u p r h0 h1 h2 hn hp hr
  obtain ⟨n, rfl⟩ : ∃ m, n = m + 1 := ⟨n - 1, by omega⟩
  simp at h2
  match r, hr with
  | x :: r, hr =>
   show ∃ (m : Nat) (l : List Int), codec_PutInt_L1_body F (codec_PutInt_L1 F n) (p.length : Int) u (p ++ x :: r) = some (((m : Nat) : Int), l) ∧ _
   unfold codec_PutInt_L1_body
   rw [need_t (by omega), Option.bind_some, Int.toNat_natCast, get_mid, Option.bind_some, dec_t h2, cond_true, iand_127_64 h0 h1, set_mid]
   simp (disch := omega) only [w64, wu8]
   refine ⟨p.length + 1, _, rfl, ?_, by omega, by simp only [List.length_append, List.length_cons] at hr ⊢; omega⟩
   rw [show u % 128 = u by omega, show p ++ u :: r = (p ++ [u]) ++ r by simp, List.take_left' (by simp)]
   rfl
 | succ k ih =>
  intro n u p r h0 h1 h2 hn hp hr
  obtain ⟨n, rfl⟩ : ∃ m, n = m + 1 := ⟨n - 1, by omega⟩
  match r, hr with
  | x :: r, hr =>
   show ∃ (m : Nat) (l : List Int), codec_PutInt_L1_body F (codec_PutInt_L1 F n) (p.length : Int) u (p ++ x :: r) = some (((m : Nat) : Int), l) ∧ _
   unfold codec_PutInt_L1_body
   rw [need_t (by omega), Option.bind_some, Int.toNat_natCast, get_mid, Option.bind_some, iand_127_64 h0 h1, set_mid]
   by_cases hu : u < 128
   ·rw [dec_t hu, cond_true]
    simp (disch := omega) only [w64, wu8]
    refine ⟨p.length + 1, _, rfl, ?_, by omega, by simp only [List.length_append, List.length_cons] at hr ⊢; omega⟩
    rw [show u % 128 = u by omega, show p ++ u :: r = (p ++ [u]) ++ r by simp, List.take_left' (by simp)]
    simp [venc, hu]
   ·rw [dec_f hu, cond_false]
    simp (disch := omega) only [w64, wu8]
    rw [show (p.length : Int) + 1 - 1 = (p.length : Int) by omega, need_t (by omega), Option.bind_some, Int.toNat_natCast, get_mid, Option.bind_some, Option.bind_some, Option.bind_some, set_mid, ior_128 (by omega) (by omega)]
    have e1 : ishr .u64 u 7 = u / 128 := by
     have := ishr_div (k := .u64) (x := u) (s := 7) h0 (by decide)
     simpa using this
    rw [e1, show p ++ (u % 128 + 128) :: r = (p ++ [u % 128 + 128]) ++ r by simp]
    obtain ⟨m, l, q1, q2, q3, q4⟩ := ih n (u / 128) (p ++ [u % 128 + 128]) r (by omega) (by omega) (div128 h2) (by omega) (by simp; omega) (by simpa using hr)
    refine ⟨m, l, ?_, ?_, q3, q4⟩
    ·rw [← q1]; simp
    ·rw [q2]; simp only [venc, if_neg hu, List.append_assoc, List.singleton_append]
theorem sub_all {α : Type} (l : List α) : sub l 0 (l.length : Int) = l := by simp [sub]
theorem codec_PutInt_eq {F : Nat} {b : List Int} {n : Int} (hn : okI64 n) (hl : b.length ≤ 140737488355000) (hF : 9 < F) : codec_PutInt F b n = some (b ++ venc 9 (zenc n)) := by
 have hz := zenc_range hn
 unfold codec_PutInt
 obtain ⟨m, l, e1, e2, e3, e4⟩ := codec_PutInt_loop (F := F) 9 F (zenc n) [] (List.replicate 10 0) hz.1 hz.2 (u64_128 hz.2) hF (by rfl) (by rfl)
 rw [List.nil_append] at e1 e2
 rw [codec_number_eq hn, Option.bind_some, show codec_PutInt_L1 F F 0 (zenc n) (List.replicate 10 0) = some ((m : Int), l) from e1, Option.bind_some]
 have hv := (venc_len 9 (zenc n)).2
 simp only [Int.toNat_natCast, List.drop_zero, sub_all, e2]
 have hv1 := (venc_len 9 (zenc n)).1
 rw [need_t (by omega), Option.bind_some, need_t (by omega), Option.bind_some, need_t (by omega), Option.bind_some, need_t (.inl hv1), Option.bind_some]
theorem venc_okZ {n : Int} (hn : okI64 n) : ∀ x ∈ venc 9 (zenc n), okU8 x := venc_ok (zenc_range hn).1 (u64_128 (zenc_range hn).2)
end Go.Ab
