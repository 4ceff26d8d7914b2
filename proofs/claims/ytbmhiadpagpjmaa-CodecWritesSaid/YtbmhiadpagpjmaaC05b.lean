/- Codec: what is written, and how it reads back. -/
import Derived.Test.YtbmhiadpagpjmaaC05
namespace Go.Ab
open Go
set_option linter.unusedVariables false

/-- The bytes of a number with at most k + 1 groups. -/
def venc : Nat → Int → List Int
  | 0, u => [u]
  | k + 1, u => if u < 128 then [u] else (u % 128 + 128) :: venc k (u / 128)

theorem venc_len (k : Nat) (u : Int) : 1 ≤ (venc k u).length ∧ (venc k u).length ≤ k + 1 := by
  induction k generalizing u with
  | zero => simp [venc]
  | succ k ih =>
    simp only [venc]; split
    · simp
    · have := ih (u / 128); simp; omega
theorem pow128 (k : Nat) : (128 : Int) ^ (k + 1) = 128 * 128 ^ k := by rw [Int.pow_succ]; omega
theorem pow128_pos (k : Nat) : (1 : Int) ≤ 128 ^ k := by
  have : (0 : Int) < 128 ^ k := Int.pow_pos (by decide)
  omega
theorem div128 {k : Nat} {u : Int} (h : u < 128 ^ (k + 1 + 1)) : u / 128 < 128 ^ (k + 1) := by
  have := pow128 (k + 1); omega
theorem venc_ok {k : Nat} {u : Int} (h0 : 0 ≤ u) (h : u < 128 ^ (k + 1)) : ∀ x ∈ venc k u, okU8 x := by
  induction k generalizing u with
  | zero => intro x hx; simp [venc] at hx; subst hx; simp at h; unfold okU8; omega
  | succ k ih =>
    intro x hx
    simp only [venc] at hx
    split at hx
    · simp at hx; subst hx; unfold okU8; omega
    · rcases List.mem_cons.1 hx with rfl | hx
      · unfold okU8; omega
      · exact ih (by omega) (div128 h) x hx

theorem rPutInt_loop {F : Nat} : ∀ (k n : Nat) (u : Int) (row : List Int), 0 ≤ u → u ≤ 18446744073709551615 → u < 128 ^ (k + 1) → k < n → row.length + k + 2 ≤ 140737488355328 →
    ∃ a l, rPutInt_L1 F n u row = some (a, l) ∧ l ++ [a] = row ++ venc k u ∧ 0 ≤ a ∧ a < 128 ∧ l.length ≤ row.length + k := by
  intro k
  induction k with
  | zero =>
    intro n u row h0 h1 h2 hn hr
    obtain ⟨n, rfl⟩ : ∃ m, n = m + 1 := ⟨n - 1, by omega⟩
    simp at h2
    show ∃ a l, rPutInt_L1_body F (rPutInt_L1 F n) u row = some (a, l) ∧ _
    unfold rPutInt_L1_body
    rw [dec_f (show ¬ (u ≥ 128) by omega), cond_false]
    exact ⟨u, row, rfl, rfl, h0, h2, by simp⟩
  | succ k ih =>
    intro n u row h0 h1 h2 hn hr
    obtain ⟨n, rfl⟩ : ∃ m, n = m + 1 := ⟨n - 1, by omega⟩
    show ∃ a l, rPutInt_L1_body F (rPutInt_L1 F n) u row = some (a, l) ∧ _
    unfold rPutInt_L1_body
    by_cases hu : u < 128
    · rw [dec_f (show ¬ (u ≥ 128) by omega), cond_false]
      exact ⟨u, row, rfl, by simp [venc, hu], h0, hu, by simp⟩
    · rw [dec_t (show u ≥ 128 by omega), cond_true, need_t (by simp; omega), Option.bind_some, iquo_div (k := .u64) h0 (show u < 2 ^ 64 by omega) (by omega), irem_mod h0]
      simp (disch := omega) only [wu8]
      obtain ⟨a, l, e1, e2, e3, e4, e5⟩ := ih n (u / 128) (row ++ [u % 128 + 128]) (by omega) (by omega) (div128 h2) (by omega) (by simp; omega)
      refine ⟨a, l, e1, ?_, e3, e4, by simp at e5; omega⟩
      rw [e2]; simp only [venc, if_neg hu, List.append_assoc, List.singleton_append]

theorem u64_128 {u : Int} (h : u ≤ 18446744073709551615) : u < 128 ^ (9 + 1) := by
  have : (128 : Int) ^ (9 + 1) = 1180591620717411303424 := by decide
  omega
theorem rPutInt_eq {F : Nat} {b : List Int} {n : Int} (hn : okI64 n) (hl : b.length ≤ 140737488355000) (hF : 9 < F) : rPutInt F b n = some (b ++ venc 9 (zenc n)) := by
  have hz := zenc_range hn
  unfold rPutInt
  obtain ⟨a, l, e1, e2, e3, e4, e5⟩ := rPutInt_loop (F := F) 9 F (zenc n) b hz.1 hz.2 (u64_128 hz.2) hF (by omega)
  rw [need_t (by simp; omega), Option.bind_some, rn_eq hn, Option.bind_some, List.nil_append, e1, Option.bind_some, need_t (by simp; omega), Option.bind_some]
  simp (disch := omega) only [wu8]
  rw [e2]

theorem set_mid (p r : List Int) (x v : Int) : (p ++ x :: r).set p.length v = p ++ v :: r := by
  rw [List.set_append_right _ _ (Nat.le_refl _)]; simp
theorem get_mid (p r : List Int) (x : Int) : (p ++ x :: r)[p.length]? = some x := by
  rw [List.getElem?_append_right (Nat.le_refl _)]; simp

theorem cPutInt_loop {F : Nat} : ∀ (k n : Nat) (u : Int) (p r : List Int), 0 ≤ u → u ≤ 18446744073709551615 → u < 128 ^ (k + 1) → k < n → p.length + k + 1 = 10 → r.length = k + 1 →
    ∃ (m : Nat) (l : List Int), cPutInt_L1 F n (p.length : Int) u (p ++ r) = some (((m : Nat) : Int), l) ∧ l.take m = p ++ venc k u ∧ m ≤ 10 ∧ l.length = 10 := by
  intro k
  induction k with
  | zero =>
    intro n u p r h0 h1 h2 hn hp hr
    obtain ⟨n, rfl⟩ : ∃ m, n = m + 1 := ⟨n - 1, by omega⟩
    simp at h2
    match r, hr with
    | x :: r, hr =>
      show ∃ (m : Nat) (l : List Int), cPutInt_L1_body F (cPutInt_L1 F n) (p.length : Int) u (p ++ x :: r) = some (((m : Nat) : Int), l) ∧ _
      unfold cPutInt_L1_body
      rw [need_t (by omega), Option.bind_some, Int.toNat_natCast, get_mid, Option.bind_some, dec_t h2, cond_true, iand_127_64 h0 h1, set_mid]
      simp (disch := omega) only [w64, wu8]
      refine ⟨p.length + 1, _, rfl, ?_, by omega, by simp only [List.length_append, List.length_cons] at hr ⊢; omega⟩
      rw [show u % 128 = u by omega, show p ++ u :: r = (p ++ [u]) ++ r by simp, List.take_left' (by simp)]
      rfl
  | succ k ih =>
    intro n u p r h0 h1 h2 hn hp hr
    obtain ⟨n, rfl⟩ : ∃ m, n = m + 1 := ⟨n - 1, by omega⟩
    match r, hr with
    | x :: r, hr =>
      show ∃ (m : Nat) (l : List Int), cPutInt_L1_body F (cPutInt_L1 F n) (p.length : Int) u (p ++ x :: r) = some (((m : Nat) : Int), l) ∧ _
      unfold cPutInt_L1_body
      rw [need_t (by omega), Option.bind_some, Int.toNat_natCast, get_mid, Option.bind_some, iand_127_64 h0 h1, set_mid]
      by_cases hu : u < 128
      · rw [dec_t hu, cond_true]
        simp (disch := omega) only [w64, wu8]
        refine ⟨p.length + 1, _, rfl, ?_, by omega, by simp only [List.length_append, List.length_cons] at hr ⊢; omega⟩
        rw [show u % 128 = u by omega, show p ++ u :: r = (p ++ [u]) ++ r by simp, List.take_left' (by simp)]
        simp [venc, hu]
      · rw [dec_f hu, cond_false]
        simp (disch := omega) only [w64, wu8]
        rw [show (p.length : Int) + 1 - 1 = (p.length : Int) by omega, need_t (by omega), Option.bind_some, Int.toNat_natCast, get_mid, Option.bind_some, Option.bind_some, Option.bind_some, set_mid, ior_128 (by omega) (by omega)]
        have e1 : ishr .u64 u 7 = u / 128 := by
          have := ishr_div (k := .u64) (x := u) (s := 7) h0 (by decide)
          simpa using this
        rw [e1, show p ++ (u % 128 + 128) :: r = (p ++ [u % 128 + 128]) ++ r by simp]
        obtain ⟨m, l, q1, q2, q3, q4⟩ := ih n (u / 128) (p ++ [u % 128 + 128]) r (by omega) (by omega) (div128 h2) (by omega) (by simp; omega) (by simpa using hr)
        refine ⟨m, l, ?_, ?_, q3, q4⟩
        · rw [← q1]; simp
        · rw [q2]; simp only [venc, if_neg hu, List.append_assoc, List.singleton_append]

theorem sub_all {α : Type} (l : List α) : sub l 0 (l.length : Int) = l := by simp [sub]
theorem cPutInt_eq {F : Nat} {b : List Int} {n : Int} (hn : okI64 n) (hl : b.length ≤ 140737488355000) (hF : 9 < F) : cPutInt F b n = some (b ++ venc 9 (zenc n)) := by
  have hz := zenc_range hn
  unfold cPutInt
  obtain ⟨m, l, e1, e2, e3, e4⟩ := cPutInt_loop (F := F) 9 F (zenc n) [] (List.replicate 10 0) hz.1 hz.2 (u64_128 hz.2) hF (by rfl) (by rfl)
  rw [List.nil_append] at e1 e2
  rw [cn_eq hn, Option.bind_some, show cPutInt_L1 F F 0 (zenc n) (List.replicate 10 0) = some ((m : Int), l) from e1, Option.bind_some]
  have hv := (venc_len 9 (zenc n)).2
  simp only [Int.toNat_natCast, List.drop_zero, sub_all, e2]
  rw [need_t (by omega), Option.bind_some, need_t (by omega), Option.bind_some, need_t (by omega), Option.bind_some]

theorem rPutText_loop {F : Nat} {s : List Int} (hs : s.length ≤ 140737488000000) : ∀ (n i : Nat) (row : List Int), (s.drop i).length < n → row.length + (s.drop i).length ≤ 140737488355000 →
    rPutText_L1 F s n (i : Int) row = some (row ++ s.drop i) := by
  intro n
  induction n with
  | zero => intro i row h; omega
  | succ n ih =>
    intro i row hn hr
    show rPutText_L1_body F s (rPutText_L1 F s n) i row = _
    unfold rPutText_L1_body
    rcases hd : s.drop i with _ | ⟨c, r⟩
    · have := drop_nil hd
      rw [dec_f (by omega), cond_false]; simp
    · have hlt := drop_lt hd
      rw [hd] at hr hn
      simp only [List.length_cons] at hr hn
      rw [dec_t (by omega), cond_true, idxL_drop hd, Option.bind_some, need_t (by simp; omega), Option.bind_some, w64 (by omega) (by omega), show (i : Int) + 1 = ((i + 1 : Nat) : Int) by omega,
        ih (i + 1) _ (by rw [drop_step hd]; omega) (by rw [drop_step hd]; simp; omega), drop_step hd]
      simp
theorem rPutText_eq {F : Nat} {b s : List Int} (hl : b.length ≤ 1000000) (hs : s.length ≤ 1000000) (hF : s.length < F) (hF2 : 9 < F) : rPutText F b s = some (b ++ venc 9 (zenc s.length) ++ s) := by
  unfold rPutText
  have hv := (venc_len 9 (zenc s.length)).2
  rw [rPutInt_eq (by unfold okI64; omega) (by omega) hF2, Option.bind_some, show rPutText_L1 F s F 0 (b ++ venc 9 (zenc s.length)) = some (b ++ venc 9 (zenc s.length) ++ s.drop 0) from rPutText_loop (by omega) F 0 _ (by simpa using hF) (by simp; omega)]
  rfl

theorem cPutText_eq {F : Nat} {b s : List Int} (hl : b.length ≤ 1000000) (hs : s.length ≤ 1000000) (hF2 : 9 < F) : cPutText F b s = some (b ++ venc 9 (zenc s.length) ++ s) := by
  unfold cPutText
  have hv := (venc_len 9 (zenc s.length)).2
  rw [cPutInt_eq (by unfold okI64; omega) (by omega) hF2, Option.bind_some]
  generalize hr : b ++ venc 9 (zenc s.length) = r
  have hrl : r.length ≤ 1000010 := by rw [← hr]; simp; omega
  have e1 : w_i64 ((r.length : Int) + (s.length : Int)) = ((r.length + s.length : Nat) : Int) := by rw [w64 (by omega) (by omega)]; omega
  simp only [e1, Int.toNat_natCast, List.take_zero, List.nil_append, Nat.sub_zero, Nat.zero_add, List.length_replicate]
  have e2 : min r.length (r.length + s.length) = r.length := by omega
  simp only [e2, List.take_length, List.drop_replicate, Nat.add_sub_cancel_left, List.length_append, List.length_replicate]
  rw [need_t (by omega), Option.bind_some, need_t (by omega), Option.bind_some, need_t (by omega), Option.bind_some, need_t (by omega), Option.bind_some]
  simp

/-- The text at the beginning. -/
def txt (b : List Int) (most : Int) : List Int × Int × Int :=
  let r := vrd b 0 0
  if r.2.2 ≠ 0 then ([], 0, r.2.2) else if r.1 < 0 then ([], 0, 10) else if r.1 > most then ([], 0, 7) else if r.1 > b.length - r.2.1 then ([], 0, 8) else
  (sub b r.2.1 (r.2.1 + r.1), r.2.1 + r.1, 0)

theorem vrd_range {l : List Int} {i : Nat} {u : Int} (hl : ∀ x ∈ l, okU8 x) (hi : i ≤ 9) (h0 : 0 ≤ u) (h1 : u < 2 ^ (7 * i)) :
    okI64 (vrd l i u).1 ∧ ((vrd l i u).2.2 = 0 → (i : Int) < (vrd l i u).2.1 ∧ (vrd l i u).2.1 ≤ 10 ∧ (vrd l i u).2.1 ≤ i + l.length) ∧ ((vrd l i u).2.2 = 0 ∨ (vrd l i u).1 = 0 ∧ (vrd l i u).2.1 = 0 ∧ ((vrd l i u).2.2 = 8 ∨ (vrd l i u).2.2 = 10)) := by
  induction l generalizing i u with
  | nil => simp [vrd, okI64]
  | cons c r ih =>
    have hc : okU8 c := hl c (by simp)
    unfold okU8 at hc
    have hp := pow7_pos i
    simp only [vrd]
    by_cases h9 : i = 9 ∧ 1 < c
    · rw [if_pos h9]; simp [okI64]
    rw [if_neg h9]
    obtain ⟨b1, b2⟩ := vbound (c := c) (a := c % 128) hi (by omega) h1 h0 (by omega) (by omega) (by omega)
    by_cases hc1 : 128 ≤ c
    · rw [if_pos hc1]
      have := pow7 i
      have h2 := mulle (show c - 128 ≤ 127 by omega) (show 0 ≤ (2 : Int) ^ (7 * i) by omega)
      have h3 : 0 ≤ (c - 128) * (2 : Int) ^ (7 * i) := Int.mul_nonneg (by omega) (by omega)
      obtain ⟨k1, k2, k3⟩ := ih (i := i + 1) (u := u + (c - 128) * 2 ^ (7 * i)) (fun x hx => hl x (by simp [hx])) (by omega) (by omega) (by omega)
      refine ⟨k1, fun h => ?_, k3⟩
      have := k2 h
      simp only [List.length_cons]; omega
    · rw [if_neg hc1]
      by_cases h0 : c = 0 ∧ 0 < i
      · rw [if_pos h0]; simp [okI64]
      · rw [if_neg h0]
        rw [show c % 128 = c by omega] at b1 b2
        refine ⟨zdec_range ⟨by omega, b2⟩, fun _ => ?_, .inl rfl⟩
        simp only [List.length_cons]; omega
theorem cText_eq {F : Nat} {b : List Int} {most : Int} (hb : ∀ x ∈ b, okU8 x) (hl : b.length ≤ 4611686018427387904) (hF : b.length < F) : cText F b most = some (txt b most) := by
  unfold cText txt
  rw [cInt_eq hb hl hF, Option.bind_some]
  obtain ⟨k1, k2, k3⟩ := vrd_range (i := 0) (u := 0) hb (by omega) (by omega) (by decide)
  generalize vrd b 0 0 = r at *
  unfold okI64 at k1
  simp only [Bool.cond_eq_ite, bne_iff_ne, decide_eq_true_eq]
  by_cases g0 : r.2.2 ≠ 0
  · rw [if_pos g0, if_pos g0]
  rw [if_neg g0, if_neg g0]
  have := k2 (by omega)
  by_cases g1 : r.1 < 0
  · rw [if_pos g1, if_pos g1]
  rw [if_neg g1, if_neg g1]
  by_cases g2 : r.1 > most
  · rw [if_pos g2, if_pos g2]
  rw [if_neg g2, if_neg g2, w64 (by omega) (by omega)]
  by_cases g3 : r.1 > b.length - r.2.1
  · rw [if_pos g3, if_pos g3]
  rw [if_neg g3, if_neg g3, w64 (by omega) (by omega), need_t (by omega), Option.bind_some]
theorem rText_eq {F : Nat} {b : List Int} {most : Int} (hb : ∀ x ∈ b, okU8 x) (hl : b.length ≤ 4611686018427387904) (hF : b.length < F) (hF2 : 10 < F) : rText F b most = some (txt b most) := by
  have h := cText_eq (most := most) hb hl hF
  unfold cText at h
  unfold rText
  rw [cInt_eq hb hl hF] at h
  rw [rInt_eq hb hl hF2]
  exact h

/-- What was written reads back. -/
theorem vrd_venc {k : Nat} {i : Nat} {u v : Int} {more : List Int} (hi : i + k ≤ 9) (hv0 : 0 ≤ v) (hv : v < 128 ^ (k + 1)) (hz : v = 0 → i = 0) (hb : u + v * 2 ^ (7 * i) ≤ 18446744073709551615) (h0 : 0 ≤ u) :
    vrd (venc k v ++ more) i u = (zdec (u + v * 2 ^ (7 * i)), ((i + (venc k v).length : Nat) : Int), 0) := by
  have last : ∀ {i : Nat} {u v : Int} {more : List Int}, i ≤ 9 → 0 ≤ v → v < 128 → (v = 0 → i = 0) → u + v * 2 ^ (7 * i) ≤ 18446744073709551615 → 0 ≤ u → vrd (v :: more) i u = (zdec (u + v * 2 ^ (7 * i)), ((i + 1 : Nat) : Int), 0) := by
    intro i u v more hi hv0 hv hz hb h0
    simp only [vrd]
    have h9 : ¬(i = 9 ∧ 1 < v) := by
      rintro ⟨rfl, h⟩
      have := mulle (show 2 ≤ v by omega) (show (0 : Int) ≤ 2 ^ (7 * 9) by decide)
      omega
    rw [if_neg h9, if_neg (by omega), if_neg (by omega)]
    rfl
  induction k generalizing i u v with
  | zero => exact last (by omega) hv0 (by simpa using hv) hz hb h0
  | succ k ih =>
    simp only [venc]
    by_cases hs : v < 128
    · rw [if_pos hs]; exact last (by omega) hv0 hs hz hb h0
    · rw [if_neg hs, List.cons_append]
      simp only [vrd]
      rw [if_neg (by omega), if_pos (by omega), show v % 128 + 128 - 128 = v % 128 by omega]
      have e : u + v % 128 * 2 ^ (7 * i) + v / 128 * 2 ^ (7 * (i + 1)) = u + v * 2 ^ (7 * i) := by
        have h1 : v * (2 : Int) ^ (7 * i) = (v % 128 + 128 * (v / 128)) * 2 ^ (7 * i) := by rw [Int.emod_add_mul_ediv]
        rw [h1, pow7, Int.add_mul, Int.add_assoc, ← Int.mul_assoc, Int.mul_comm (v / 128) 128]
      have hp : (0 : Int) ≤ v % 128 * 2 ^ (7 * i) := Int.mul_nonneg (by omega) (by have := pow7_pos i; omega)
      rw [ih (i := i + 1) (u := u + v % 128 * 2 ^ (7 * i)) (v := v / 128) (by omega) (by omega) (div128 hv) (by omega) (by rw [e]; exact hb) (by omega), e]
      simp only [List.length_cons]
      congr 3; omega
theorem vrd_short {k : Nat} {i j : Nat} {u v : Int} (hj : j < (venc k v).length) (hi : i + k ≤ 9) (hv0 : 0 ≤ v) : vrd ((venc k v).take j) i u = (0, 0, 8) := by
  induction k generalizing i j u v with
  | zero =>
    simp [venc] at hj; subst hj; rfl
  | succ k ih =>
    cases j with
    | zero => rfl
    | succ j =>
      simp only [venc] at hj ⊢
      split at hj
      · simp at hj
      · rename_i hs
        rw [if_neg hs, List.take_succ_cons]
        simp only [vrd]
        rw [if_neg (by omega), if_pos (by omega)]
        exact ih (by simpa using hj) (by omega) (by omega)
/-- What is accepted is what is written. -/
theorem vrd_unique {l : List Int} {i : Nat} {u : Int} (hl : ∀ x ∈ l, okU8 x) (hi : i ≤ 9) (h0 : 0 ≤ u) (h1 : u < 2 ^ (7 * i)) (he : (vrd l i u).2.2 = 0) :
    ∃ v, 0 ≤ v ∧ (v = 0 → i = 0) ∧ u + v * 2 ^ (7 * i) ≤ 18446744073709551615 ∧ (vrd l i u).1 = zdec (u + v * 2 ^ (7 * i)) ∧ l.take ((vrd l i u).2.1 - i).toNat = venc (9 - i) v := by
  induction l generalizing i u with
  | nil => simp [vrd] at he
  | cons c r ih =>
    have hc : okU8 c := hl c (by simp)
    unfold okU8 at hc
    have hp := pow7_pos i
    simp only [vrd] at he ⊢
    by_cases h9 : i = 9 ∧ 1 < c
    · rw [if_pos h9] at he; simp at he
    rw [if_neg h9] at he ⊢
    obtain ⟨b1, b2⟩ := vbound (c := c) (a := c % 128) hi (by omega) h1 h0 (by omega) (by omega) (by omega)
    by_cases hc1 : 128 ≤ c
    · rw [if_pos hc1] at he ⊢
      have := pow7 i
      have h2 := mulle (show c - 128 ≤ 127 by omega) (show 0 ≤ (2 : Int) ^ (7 * i) by omega)
      have h3 : 0 ≤ (c - 128) * (2 : Int) ^ (7 * i) := Int.mul_nonneg (by omega) (by omega)
      have hr : ∀ x ∈ r, okU8 x := fun x hx => hl x (by simp [hx])
      obtain ⟨v, k1, k2, k3, k4, k5⟩ := ih (i := i + 1) (u := u + (c - 128) * 2 ^ (7 * i)) hr (by omega) (by omega) (by omega) he
      obtain ⟨_, r2, _⟩ := vrd_range (i := i + 1) (u := u + (c - 128) * 2 ^ (7 * i)) hr (by omega) (by omega) (by omega)
      have r2 := r2 he
      have e : u + (c - 128 + 128 * v) * 2 ^ (7 * i) = u + (c - 128) * 2 ^ (7 * i) + v * 2 ^ (7 * (i + 1)) := by
        rw [pow7, Int.add_mul, Int.add_assoc, ← Int.mul_assoc, Int.mul_comm v 128]
      refine ⟨c - 128 + 128 * v, by omega, by omega, by rw [e]; exact k3, by rw [e]; exact k4, ?_⟩
      generalize vrd r (i + 1) (u + (c - 128) * 2 ^ (7 * i)) = q at *
      obtain ⟨m, hm⟩ : ∃ m : Nat, q.2.1 = i + 1 + m := ⟨(q.2.1 - (i + 1)).toNat, by omega⟩
      rw [hm] at k5 ⊢
      rw [show ((i : Int) + 1 + m - i).toNat = m + 1 by omega, List.take_succ_cons]
      rw [show ((i : Int) + 1 + m - ((i + 1 : Nat) : Int)).toNat = m by omega] at k5
      rw [k5, show 9 - i = (9 - (i + 1)) + 1 by omega]
      simp only [venc]
      rw [if_neg (by omega)]
      congr 1
      · omega
      · congr 1; omega
    · rw [if_neg hc1] at he ⊢
      by_cases hz : c = 0 ∧ 0 < i
      · rw [if_pos hz] at he; simp at he
      · rw [if_neg hz] at he ⊢
        rw [show c % 128 = c by omega] at b1 b2
        refine ⟨c, by omega, by omega, b2, rfl, ?_⟩
        simp only
        rw [show ((i : Int) + 1 - i).toNat = 1 by omega]
        show [c] = _
        rcases hk : 9 - i with _ | k
        · rfl
        · simp only [venc]; rw [if_pos (by omega)]
end Go.Ab
