/- Codec: what the printed functions compute. -/
import Derived.Test.YtldkljbmhfiboaaA32
import Derived.Test.YtldkljbmhfiboaaP09xD
namespace Go.Ab
open Go
set_option linter.unusedVariables false

/-- The number of an integer, and back. -/
def zenc (n : Int) : Int := if n < 0 then -2 * n - 1 else 2 * n
def zdec (u : Int) : Int := if u % 2 = 1 then -(u / 2) - 1 else u / 2
theorem zenc_range {n : Int} (h : okI64 n) : okU64 (zenc n) := by unfold okI64 at h; unfold okU64 zenc; split <;> omega
theorem zdec_range {u : Int} (h : okU64 u) : okI64 (zdec u) := by unfold okU64 at h; unfold okI64 zdec; split <;> omega
theorem zdec_zenc (n : Int) : zdec (zenc n) = n := by unfold zdec zenc; split <;> split <;> omega
theorem zenc_zdec {u : Int} (h : 0 ≤ u) : zenc (zdec u) = u := by unfold zdec zenc; split <;> split <;> omega

theorem codec_integer_eq {u : Int} (h : okU64 u) : codec_integer u = some (zdec u) := by
  unfold okU64 at h
  unfold codec_integer
  have e1 : ishr .u64 u 1 = u / 2 := by
    have := ishr_div (k := .u64) (x := u) (s := 1) h.1 (by decide)
    simpa using this
  rw [e1, iand_1_64 h.1 h.2, w64 (x := u / 2) (by omega) (by omega), w64 (x := u % 2) (by omega) (by omega), w64 (x := 0 - u % 2) (by omega) (by omega)]
  unfold zdec
  split
  · rename_i h1
    rw [h1, show (0 : Int) - 1 = -1 from rfl, ixor_i64_neg (by omega) (by omega)]
  · rename_i h1
    rw [show (0 : Int) - u % 2 = 0 by omega, ixor_i64_zero (by omega) (by omega)]
theorem R05_integer_eq {u : Int} (h : okU64 u) : R05_integer u = some (zdec u) := by
  unfold okU64 at h
  unfold R05_integer
  rw [irem_mod h.1, iquo_div (k := .u64) h.1 (show u < 2 ^ 64 by omega) (by omega)]
  simp only [Bool.cond_eq_ite, beq_iff_eq]
  unfold zdec
  simp (disch := omega) only [w64, Int.zero_sub]
  split <;> rfl
theorem codec_number_eq {n : Int} (h : okI64 n) : codec_number n = some (zenc n) := by
  unfold okI64 at h
  unfold codec_number
  have e2 : ishr .i64 n 63 = if n < 0 then -1 else 0 := by
    unfold ishr
    simp only [IntKind.bits]
    rw [Int.fdiv_eq_ediv_of_nonneg _ (by decide)]
    split <;> simp <;> omega
  rw [e2]
  unfold zenc
  have e1 : ishl .u64 (w_u64 n) 1 = 2 * w_u64 n % 18446744073709551616 := by
    unfold ishl
    have := wu64_mod (w_u64 n * 2 ^ (min (1 : Int).toNat IntKind.u64.bits))
    simp only [w_u64] at this ⊢
    rw [this]; simp [IntKind.bits]; omega
  rw [e1, wu64_mod n]
  split
  · rw [wu64_mod (-1), show (-1 : Int) % 18446744073709551616 = 18446744073709551615 by decide, ixor_u64_ones (by omega) (by omega)]
    congr 1; omega
  · rw [wu64_mod 0, show (0 : Int) % 18446744073709551616 = 0 by decide, ixor_u64_zero (by omega) (by omega)]
    congr 1; omega
theorem R05_number_eq {n : Int} (h : okI64 n) : R05_number n = some (zenc n) := by
  unfold okI64 at h
  unfold R05_number zenc
  simp only [Bool.cond_eq_ite, decide_eq_true_eq]
  split
  · simp (disch := omega) only [w64, wu64]; congr 1; omega
  · simp (disch := omega) only [wu64]

/-- The integer at the beginning: behind i bytes of which u is known. -/
def vrd : List Int → Nat → Int → Int × Int × Int
  | [], _, _ => (0, 0, 8)
  | c :: r, i, u =>
    if i = 9 ∧ 1 < c then (0, 0, 10) else
    if 128 ≤ c then vrd r (i + 1) (u + (c - 128) * 2 ^ (7 * i)) else
    if c = 0 ∧ 0 < i then (0, 0, 10) else (zdec (u + c * 2 ^ (7 * i)), (i : Int) + 1, 0)

theorem pow7 (i : Nat) : (2 : Int) ^ (7 * (i + 1)) = 128 * 2 ^ (7 * i) := by
  rw [Nat.mul_add, Int.pow_add]; omega
theorem pow7_pos (i : Nat) : (1 : Int) ≤ 2 ^ (7 * i) := by
  have : (0 : Int) < 2 ^ (7 * i) := Int.pow_pos (by decide)
  omega
theorem pow7_le {i : Nat} (h : i ≤ 9) : (2 : Int) ^ (7 * i) ≤ 9223372036854775808 := by
  have := Nat.pow_le_pow_right (n := 2) (by decide) (show 7 * i ≤ 63 by omega)
  have h2 : (((2 ^ (7 * i) : Nat)) : Int) = 2 ^ (7 * i) := by simp
  have h3 : (2 : Nat) ^ 63 = 9223372036854775808 := rfl
  omega
theorem pow7_le8 {i : Nat} (h : i ≤ 8) : (2 : Int) ^ (7 * i) ≤ 72057594037927936 := by
  have := Nat.pow_le_pow_right (n := 2) (by decide) (show 7 * i ≤ 56 by omega)
  have h2 : (((2 ^ (7 * i) : Nat)) : Int) = 2 ^ (7 * i) := by simp
  have h3 : (2 : Nat) ^ 56 = 72057594037927936 := rfl
  omega
theorem mulle {a m q : Int} (h : a ≤ m) (hq : 0 ≤ q) : a * q ≤ m * q := Int.mul_le_mul_of_nonneg_right h hq
/-- What is added stays in range. -/
theorem vbound {i : Nat} {u a c : Int} (hi : i ≤ 9) (h9 : ¬((i : Int) = 9 ∧ c > 1)) (hu : u < 2 ^ (7 * i)) (hu0 : 0 ≤ u) (ha : 0 ≤ a) (ha1 : a ≤ 127) (hac : a ≤ c) :
    0 ≤ a * 2 ^ (7 * i) ∧ u + a * 2 ^ (7 * i) ≤ 18446744073709551615 := by
  have hp := pow7_pos i
  refine ⟨Int.mul_nonneg ha (by omega), ?_⟩
  rcases Nat.lt_or_ge i 9 with h | h
  · have := pow7_le8 (show i ≤ 8 by omega)
    have := mulle ha1 (show 0 ≤ (2 : Int) ^ (7 * i) by omega)
    omega
  · obtain rfl : i = 9 := by omega
    have := mulle (show a ≤ 1 by omega) (show 0 ≤ (2 : Int) ^ (7 * 9) by omega)
    omega

def vout (e : Int × Int × Int) (o : Unit ⊕ (Int × Int × Int)) : Int × Int × Int := match o with | .inl _ => e | .inr q => q

theorem codec_Int_loop {F : Nat} {b : List Int} (hb : ∀ x ∈ b, okU8 x) (hl : b.length ≤ 4611686018427387904) : ∀ (n i : Nat) (u : Int), i ≤ 9 → 0 ≤ u → u < 2 ^ (7 * i) → (b.drop i).length < n →
    ∃ o, codec_Int_L1 F b n u i = some o ∧ vout (0, 0, 8) o = vrd (b.drop i) i u := by
  intro n
  induction n with
  | zero => intro i u _ _ _ h; omega
  | succ n ih =>
    intro i u hi hu0 hu hn
    show ∃ o, codec_Int_L1_body F b (codec_Int_L1 F b n) u i = some o ∧ _
    unfold codec_Int_L1_body
    rcases hd : b.drop i with _ | ⟨c, r⟩
    · have := drop_nil hd
      simp (disch := omega) only [dec_f, cond_false]
      exact ⟨_, rfl, rfl⟩
    · have hlt := drop_lt hd
      have hc : okU8 c := hb c (List.mem_of_mem_drop (hd ▸ List.mem_cons_self))
      unfold okU8 at hc
      have hp := pow7_pos i
      rw [dec_t (show (i : Int) < (b.length : Int) by omega), cond_true]
      simp (disch := omega) only [idxL_drop hd, Option.bind_some, Bool.cond_eq_ite, Bool.and_eq_true, beq_iff_eq, decide_eq_true_eq, vrd, w64, need_t, iand_127, wu64]
      have h7 : (7 : Int) * (i : Int) = ((7 * i : Nat) : Int) := by omega
      by_cases h9 : (i : Int) = 9 ∧ c > 1
      · simp (disch := omega) only [if_pos]
        exact ⟨_, rfl, rfl⟩
      rw [if_neg h9, if_neg (show ¬(i = 9 ∧ 1 < c) by omega)]
      have hm : 0 ≤ c % 128 ∧ c % 128 ≤ 127 ∧ c % 128 ≤ c := by omega
      obtain ⟨b1, b2⟩ := vbound hi h9 hu hu0 hm.1 hm.2.1 hm.2.2
      have e1 : ior .u64 u (ishl .u64 (c % 128) (7 * (i : Int))) = u + c % 128 * 2 ^ (7 * i) := by
        rw [h7, ishl_mul (k := .u64) hm.1 (by simp only [IntKind.bits]; omega) (show c % 128 * 2 ^ (7 * i) < 18446744073709551616 by omega), ior_add (k := .u64) hu0 hu hm.1 (show u + c % 128 * 2 ^ (7 * i) < 18446744073709551616 by omega)]
      rw [e1]
      by_cases hc1 : c ≥ 128
      · rw [show c % 128 = c - 128 by omega]
        simp (disch := omega) only [if_pos]
        rw [show c % 128 = c - 128 by omega] at b1 b2
        have hi8 : i ≤ 8 := by omega
        have := pow7 i
        have h2 := mulle (show c - 128 ≤ 127 by omega) (show 0 ≤ (2 : Int) ^ (7 * i) by omega)
        have := ih (i + 1) (u + (c - 128) * 2 ^ (7 * i)) (by omega) (by omega) (by omega) (by rw [drop_step hd]; rw [hd] at hn; simp at hn; omega)
        rw [drop_step hd] at this
        exact this
      · rw [show c % 128 = c by omega] at b1 b2 ⊢
        by_cases h0 : c = 0 ∧ (i : Int) > 0
        · simp (disch := omega) only [if_pos, if_neg]
          exact ⟨_, rfl, rfl⟩
        · rw [codec_integer_eq ⟨by omega, b2⟩]
          simp (disch := omega) only [if_neg]
          exact ⟨_, rfl, rfl⟩

theorem R05_Int_loop {F : Nat} {b : List Int} (hb : ∀ x ∈ b, okU8 x) (hl : b.length ≤ 4611686018427387904) : ∀ (n i : Nat) (u : Int), i ≤ 9 → 0 ≤ u → u < 2 ^ (7 * i) → 10 - i < n →
    ∃ o, R05_Int_L1 F b n u (2 ^ (7 * i)) i = some o ∧ vout (0, 0, 10) o = vrd (b.drop i) i u := by
  intro n
  induction n with
  | zero => intro i u _ _ _ h; omega
  | succ n ih =>
    intro i u hi hu0 hu hn
    show ∃ o, R05_Int_L1_body F b (R05_Int_L1 F b n) u (2 ^ (7 * i)) i = some o ∧ _
    unfold R05_Int_L1_body
    rw [dec_t (show (i : Int) < 10 by omega), cond_true]
    rcases hd : b.drop i with _ | ⟨c, r⟩
    · have := drop_nil hd
      simp (disch := omega) only [dec_t, cond_true]
      exact ⟨_, rfl, rfl⟩
    · have hlt := drop_lt hd
      have hc : okU8 c := hb c (List.mem_of_mem_drop (hd ▸ List.mem_cons_self))
      unfold okU8 at hc
      have hp := pow7_pos i
      have hm : 0 ≤ c % 128 ∧ c % 128 ≤ 127 ∧ c % 128 ≤ c := by omega
      rw [dec_f (show ¬ ((i : Int) ≥ (b.length : Int)) by omega), cond_false]
      simp (disch := omega) only [idxL_drop hd, Option.bind_some, Bool.cond_eq_ite, Bool.and_eq_true, beq_iff_eq, decide_eq_true_eq, vrd, w64, wu64, irem_mod]
      by_cases h9 : (i : Int) = 9 ∧ c > 1
      · simp (disch := omega) only [if_pos]
        exact ⟨_, rfl, rfl⟩
      rw [if_neg h9, if_neg (show ¬(i = 9 ∧ 1 < c) by omega)]
      obtain ⟨b1, b2⟩ := vbound hi h9 hu hu0 hm.1 hm.2.1 hm.2.2
      simp (disch := omega) only [wu64]
      by_cases h0 : c = 0 ∧ (i : Int) > 0
      · simp (disch := omega) only [if_pos, if_neg]
        exact ⟨_, rfl, rfl⟩
      by_cases hc1 : c ≥ 128
      · rw [show c % 128 = c - 128 by omega]
        have hi8 : i ≤ 8 := by omega
        have := pow7 i
        have := pow7_le8 hi8
        have h2 := mulle (show c - 128 ≤ 127 by omega) (show 0 ≤ (2 : Int) ^ (7 * i) by omega)
        have h3 : 0 ≤ (c - 128) * (2 : Int) ^ (7 * i) := Int.mul_nonneg (by omega) (by omega)
        rw [wu64 (x := 2 ^ (7 * i) * 128) (by omega) (by omega), show (2 : Int) ^ (7 * i) * 128 = 2 ^ (7 * (i + 1)) by omega]
        simp (disch := omega) only [if_pos, if_neg]
        have := ih (i + 1) (u + (c - 128) * 2 ^ (7 * i)) (by omega) (by omega) (by omega) (by omega)
        rw [drop_step hd] at this
        exact this
      · rw [show c % 128 = c by omega] at b1 b2 ⊢
        rw [R05_integer_eq ⟨by omega, b2⟩]
        simp (disch := omega) only [if_pos, if_neg]
        exact ⟨_, rfl, rfl⟩

theorem codec_Int_eq {F : Nat} {b : List Int} (hb : ∀ x ∈ b, okU8 x) (hl : b.length ≤ 4611686018427387904) (hF : b.length < F) : codec_Int F b = some (vrd b 0 0) := by
  obtain ⟨o, h1, h2⟩ := codec_Int_loop (F := F) hb hl F 0 0 (by omega) (by omega) (by decide) (by simpa using hF)
  unfold codec_Int
  simp only [List.drop_zero] at h2
  rw [show codec_Int_L1 F b F (0 : Int) 0 = some o from h1, ← h2]
  cases o <;> rfl
theorem R05_Int_eq {F : Nat} {b : List Int} (hb : ∀ x ∈ b, okU8 x) (hl : b.length ≤ 4611686018427387904) (hF : 10 < F) : R05_Int F b = some (vrd b 0 0) := by
  obtain ⟨o, h1, h2⟩ := R05_Int_loop (F := F) hb hl F 0 0 (by omega) (by omega) (by decide) (by omega)
  unfold R05_Int
  simp only [List.drop_zero] at h2
  rw [show R05_Int_L1 F b F (0 : Int) 1 0 = some o from h1, ← h2]
  cases o <;> rfl
/-- The bytes of a number with at most k + 1 groups. -/
def venc : Nat → Int → List Int
  | 0, u => [u]
  | k + 1, u => if u < 128 then [u] else (u % 128 + 128) :: venc k (u / 128)

theorem venc_len (k : Nat) (u : Int) : 1 ≤ (venc k u).length ∧ (venc k u).length ≤ k + 1 := by
  induction k generalizing u with
  | zero => simp [venc]
  | succ k ih =>
    simp only [venc]; split
    · simp
    · have := ih (u / 128); simp; omega
theorem pow128 (k : Nat) : (128 : Int) ^ (k + 1) = 128 * 128 ^ k := by rw [Int.pow_succ]; omega
theorem pow128_pos (k : Nat) : (1 : Int) ≤ 128 ^ k := by
  have : (0 : Int) < 128 ^ k := Int.pow_pos (by decide)
  omega
theorem div128 {k : Nat} {u : Int} (h : u < 128 ^ (k + 1 + 1)) : u / 128 < 128 ^ (k + 1) := by
  have := pow128 (k + 1); omega
theorem venc_ok {k : Nat} {u : Int} (h0 : 0 ≤ u) (h : u < 128 ^ (k + 1)) : ∀ x ∈ venc k u, okU8 x := by
  induction k generalizing u with
  | zero => intro x hx; simp [venc] at hx; subst hx; simp at h; unfold okU8; omega
  | succ k ih =>
    intro x hx
    simp only [venc] at hx
    split at hx
    · simp at hx; subst hx; unfold okU8; omega
    · rcases List.mem_cons.1 hx with rfl | hx
      · unfold okU8; omega
      · exact ih (by omega) (div128 h) x hx

theorem R05_PutInt_loop {F : Nat} : ∀ (k n : Nat) (u : Int) (row : List Int), 0 ≤ u → u ≤ 18446744073709551615 → u < 128 ^ (k + 1) → k < n → row.length + k + 2 ≤ 140737488355328 →
    ∃ a l, R05_PutInt_L1 F n u row = some (a, l) ∧ l ++ [a] = row ++ venc k u ∧ 0 ≤ a ∧ a < 128 ∧ l.length ≤ row.length + k := by
  intro k
  induction k with
  | zero =>
    intro n u row h0 h1 h2 hn hr
    obtain ⟨n, rfl⟩ : ∃ m, n = m + 1 := ⟨n - 1, by omega⟩
    simp at h2
    show ∃ a l, R05_PutInt_L1_body F (R05_PutInt_L1 F n) u row = some (a, l) ∧ _
    unfold R05_PutInt_L1_body
    rw [dec_f (show ¬ (u ≥ 128) by omega), cond_false]
    exact ⟨u, row, rfl, rfl, h0, h2, by simp⟩
  | succ k ih =>
    intro n u row h0 h1 h2 hn hr
    obtain ⟨n, rfl⟩ : ∃ m, n = m + 1 := ⟨n - 1, by omega⟩
    show ∃ a l, R05_PutInt_L1_body F (R05_PutInt_L1 F n) u row = some (a, l) ∧ _
    unfold R05_PutInt_L1_body
    by_cases hu : u < 128
    · rw [dec_f (show ¬ (u ≥ 128) by omega), cond_false]
      exact ⟨u, row, rfl, by simp [venc, hu], h0, hu, by simp⟩
    · rw [dec_t (show u ≥ 128 by omega), cond_true, need_t (by simp; omega), Option.bind_some, iquo_div (k := .u64) h0 (show u < 2 ^ 64 by omega) (by omega), irem_mod h0]
      simp (disch := omega) only [wu8]
      obtain ⟨a, l, e1, e2, e3, e4, e5⟩ := ih n (u / 128) (row ++ [u % 128 + 128]) (by omega) (by omega) (div128 h2) (by omega) (by simp; omega)
      refine ⟨a, l, e1, ?_, e3, e4, by simp at e5; omega⟩
      rw [e2]; simp only [venc, if_neg hu, List.append_assoc, List.singleton_append]

theorem u64_128 {u : Int} (h : u ≤ 18446744073709551615) : u < 128 ^ (9 + 1) := by
  have : (128 : Int) ^ (9 + 1) = 1180591620717411303424 := by decide
  omega
theorem R05_PutInt_eq {F : Nat} {b : List Int} {n : Int} (hn : okI64 n) (hl : b.length ≤ 140737488355000) (hF : 9 < F) : R05_PutInt F b n = some (b ++ venc 9 (zenc n)) := by
  have hz := zenc_range hn
  unfold R05_PutInt
  obtain ⟨a, l, e1, e2, e3, e4, e5⟩ := R05_PutInt_loop (F := F) 9 F (zenc n) b hz.1 hz.2 (u64_128 hz.2) hF (by omega)
  rw [need_t (by simp; omega), Option.bind_some, R05_number_eq hn, Option.bind_some, List.nil_append, e1, Option.bind_some, need_t (by simp; omega), Option.bind_some]
  simp (disch := omega) only [wu8]
  rw [e2]

theorem set_mid (p r : List Int) (x v : Int) : (p ++ x :: r).set p.length v = p ++ v :: r := by
  rw [List.set_append_right _ _ (Nat.le_refl _)]; simp
theorem get_mid (p r : List Int) (x : Int) : (p ++ x :: r)[p.length]? = some x := by
  rw [List.getElem?_append_right (Nat.le_refl _)]; simp

theorem codec_PutInt_loop {F : Nat} : ∀ (k n : Nat) (u : Int) (p r : List Int), 0 ≤ u → u ≤ 18446744073709551615 → u < 128 ^ (k + 1) → k < n → p.length + k + 1 = 10 → r.length = k + 1 →
    ∃ (m : Nat) (l : List Int), codec_PutInt_L1 F n (p.length : Int) u (p ++ r) = some (((m : Nat) : Int), l) ∧ l.take m = p ++ venc k u ∧ m ≤ 10 ∧ l.length = 10 := by
  intro k
  induction k with
  | zero =>
    intro n u p r h0 h1 h2 hn hp hr
    obtain ⟨n, rfl⟩ : ∃ m, n = m + 1 := ⟨n - 1, by omega⟩
    simp at h2
    match r, hr with
    | x :: r, hr =>
      show ∃ (m : Nat) (l : List Int), codec_PutInt_L1_body F (codec_PutInt_L1 F n) (p.length : Int) u (p ++ x :: r) = some (((m : Nat) : Int), l) ∧ _
      unfold codec_PutInt_L1_body
      rw [need_t (by omega), Option.bind_some, Int.toNat_natCast, get_mid, Option.bind_some, dec_t h2, cond_true, iand_127_64 h0 h1, set_mid]
      simp (disch := omega) only [w64, wu8]
      refine ⟨p.length + 1, _, rfl, ?_, by omega, by simp only [List.length_append, List.length_cons] at hr ⊢; omega⟩
      rw [show u % 128 = u by omega, show p ++ u :: r = (p ++ [u]) ++ r by simp, List.take_left' (by simp)]
      rfl
  | succ k ih =>
    intro n u p r h0 h1 h2 hn hp hr
    obtain ⟨n, rfl⟩ : ∃ m, n = m + 1 := ⟨n - 1, by omega⟩
    match r, hr with
    | x :: r, hr =>
      show ∃ (m : Nat) (l : List Int), codec_PutInt_L1_body F (codec_PutInt_L1 F n) (p.length : Int) u (p ++ x :: r) = some (((m : Nat) : Int), l) ∧ _
      unfold codec_PutInt_L1_body
      rw [need_t (by omega), Option.bind_some, Int.toNat_natCast, get_mid, Option.bind_some, iand_127_64 h0 h1, set_mid]
      by_cases hu : u < 128
      · rw [dec_t hu, cond_true]
        simp (disch := omega) only [w64, wu8]
        refine ⟨p.length + 1, _, rfl, ?_, by omega, by simp only [List.length_append, List.length_cons] at hr ⊢; omega⟩
        rw [show u % 128 = u by omega, show p ++ u :: r = (p ++ [u]) ++ r by simp, List.take_left' (by simp)]
        simp [venc, hu]
      · rw [dec_f hu, cond_false]
        simp (disch := omega) only [w64, wu8]
        rw [show (p.length : Int) + 1 - 1 = (p.length : Int) by omega, need_t (by omega), Option.bind_some, Int.toNat_natCast, get_mid, Option.bind_some, Option.bind_some, Option.bind_some, set_mid, ior_128 (by omega) (by omega)]
        have e1 : ishr .u64 u 7 = u / 128 := by
          have := ishr_div (k := .u64) (x := u) (s := 7) h0 (by decide)
          simpa using this
        rw [e1, show p ++ (u % 128 + 128) :: r = (p ++ [u % 128 + 128]) ++ r by simp]
        obtain ⟨m, l, q1, q2, q3, q4⟩ := ih n (u / 128) (p ++ [u % 128 + 128]) r (by omega) (by omega) (div128 h2) (by omega) (by simp; omega) (by simpa using hr)
        refine ⟨m, l, ?_, ?_, q3, q4⟩
        · rw [← q1]; simp
        · rw [q2]; simp only [venc, if_neg hu, List.append_assoc, List.singleton_append]

theorem sub_all {α : Type} (l : List α) : sub l 0 (l.length : Int) = l := by simp [sub]
theorem codec_PutInt_eq {F : Nat} {b : List Int} {n : Int} (hn : okI64 n) (hl : b.length ≤ 140737488355000) (hF : 9 < F) : codec_PutInt F b n = some (b ++ venc 9 (zenc n)) := by
  have hz := zenc_range hn
  unfold codec_PutInt
  obtain ⟨m, l, e1, e2, e3, e4⟩ := codec_PutInt_loop (F := F) 9 F (zenc n) [] (List.replicate 10 0) hz.1 hz.2 (u64_128 hz.2) hF (by rfl) (by rfl)
  rw [List.nil_append] at e1 e2
  rw [codec_number_eq hn, Option.bind_some, show codec_PutInt_L1 F F 0 (zenc n) (List.replicate 10 0) = some ((m : Int), l) from e1, Option.bind_some]
  have hv := (venc_len 9 (zenc n)).2
  simp only [Int.toNat_natCast, List.drop_zero, sub_all, e2]
  have hv1 := (venc_len 9 (zenc n)).1
  rw [need_t (by omega), Option.bind_some, need_t (by omega), Option.bind_some, need_t (by omega), Option.bind_some, need_t (.inl hv1), Option.bind_some]

theorem vrd_range {l : List Int} {i : Nat} {u : Int} (hl : ∀ x ∈ l, okU8 x) (hi : i ≤ 9) (h0 : 0 ≤ u) (h1 : u < 2 ^ (7 * i)) :
    okI64 (vrd l i u).1 ∧ ((vrd l i u).2.2 = 0 → (i : Int) < (vrd l i u).2.1 ∧ (vrd l i u).2.1 ≤ 10 ∧ (vrd l i u).2.1 ≤ i + l.length) ∧ ((vrd l i u).2.2 = 0 ∨ (vrd l i u).1 = 0 ∧ (vrd l i u).2.1 = 0 ∧ ((vrd l i u).2.2 = 8 ∨ (vrd l i u).2.2 = 10)) := by
  induction l generalizing i u with
  | nil => simp [vrd, okI64]
  | cons c r ih =>
    have hc : okU8 c := hl c (by simp)
    unfold okU8 at hc
    have hp := pow7_pos i
    simp only [vrd]
    by_cases h9 : i = 9 ∧ 1 < c
    · rw [if_pos h9]; simp [okI64]
    rw [if_neg h9]
    obtain ⟨b1, b2⟩ := vbound (c := c) (a := c % 128) hi (by omega) h1 h0 (by omega) (by omega) (by omega)
    by_cases hc1 : 128 ≤ c
    · rw [if_pos hc1]
      have := pow7 i
      have h2 := mulle (show c - 128 ≤ 127 by omega) (show 0 ≤ (2 : Int) ^ (7 * i) by omega)
      have h3 : 0 ≤ (c - 128) * (2 : Int) ^ (7 * i) := Int.mul_nonneg (by omega) (by omega)
      obtain ⟨k1, k2, k3⟩ := ih (i := i + 1) (u := u + (c - 128) * 2 ^ (7 * i)) (fun x hx => hl x (by simp [hx])) (by omega) (by omega) (by omega)
      refine ⟨k1, fun h => ?_, k3⟩
      have := k2 h
      simp only [List.length_cons]; omega
    · rw [if_neg hc1]
      by_cases h0 : c = 0 ∧ 0 < i
      · rw [if_pos h0]; simp [okI64]
      · rw [if_neg h0]
        rw [show c % 128 = c by omega] at b1 b2
        refine ⟨zdec_range ⟨by omega, b2⟩, fun _ => ?_, .inl rfl⟩
        simp only [List.length_cons]; omega
/-- What was written reads back. -/
theorem vrd_venc {k : Nat} {i : Nat} {u v : Int} {more : List Int} (hi : i + k ≤ 9) (hv0 : 0 ≤ v) (hv : v < 128 ^ (k + 1)) (hz : v = 0 → i = 0) (hb : u + v * 2 ^ (7 * i) ≤ 18446744073709551615) (h0 : 0 ≤ u) :
    vrd (venc k v ++ more) i u = (zdec (u + v * 2 ^ (7 * i)), ((i + (venc k v).length : Nat) : Int), 0) := by
  have last : ∀ {i : Nat} {u v : Int} {more : List Int}, i ≤ 9 → 0 ≤ v → v < 128 → (v = 0 → i = 0) → u + v * 2 ^ (7 * i) ≤ 18446744073709551615 → 0 ≤ u → vrd (v :: more) i u = (zdec (u + v * 2 ^ (7 * i)), ((i + 1 : Nat) : Int), 0) := by
    intro i u v more hi hv0 hv hz hb h0
    simp only [vrd]
    have h9 : ¬(i = 9 ∧ 1 < v) := by
      rintro ⟨rfl, h⟩
      have := mulle (show 2 ≤ v by omega) (show (0 : Int) ≤ 2 ^ (7 * 9) by decide)
      omega
    rw [if_neg h9, if_neg (by omega), if_neg (by omega)]
    rfl
  induction k generalizing i u v with
  | zero => exact last (by omega) hv0 (by simpa using hv) hz hb h0
  | succ k ih =>
    simp only [venc]
    by_cases hs : v < 128
    · rw [if_pos hs]; exact last (by omega) hv0 hs hz hb h0
    · rw [if_neg hs, List.cons_append]
      simp only [vrd]
      rw [if_neg (by omega), if_pos (by omega), show v % 128 + 128 - 128 = v % 128 by omega]
      have e : u + v % 128 * 2 ^ (7 * i) + v / 128 * 2 ^ (7 * (i + 1)) = u + v * 2 ^ (7 * i) := by
        have h1 : v * (2 : Int) ^ (7 * i) = (v % 128 + 128 * (v / 128)) * 2 ^ (7 * i) := by rw [Int.emod_add_mul_ediv]
        rw [h1, pow7, Int.add_mul, Int.add_assoc, ← Int.mul_assoc, Int.mul_comm (v / 128) 128]
      have hp : (0 : Int) ≤ v % 128 * 2 ^ (7 * i) := Int.mul_nonneg (by omega) (by have := pow7_pos i; omega)
      rw [ih (i := i + 1) (u := u + v % 128 * 2 ^ (7 * i)) (v := v / 128) (by omega) (by omega) (div128 hv) (by omega) (by rw [e]; exact hb) (by omega), e]
      simp only [List.length_cons]
      congr 3; omega
theorem vrd_short {k : Nat} {i j : Nat} {u v : Int} (hj : j < (venc k v).length) (hi : i + k ≤ 9) (hv0 : 0 ≤ v) : vrd ((venc k v).take j) i u = (0, 0, 8) := by
  induction k generalizing i j u v with
  | zero =>
    simp [venc] at hj; subst hj; rfl
  | succ k ih =>
    cases j with
    | zero => rfl
    | succ j =>
      simp only [venc] at hj ⊢
      split at hj
      · simp at hj
      · rename_i hs
        rw [if_neg hs, List.take_succ_cons]
        simp only [vrd]
        rw [if_neg (by omega), if_pos (by omega)]
        exact ih (by simpa using hj) (by omega) (by omega)
/-- What is accepted is what is written. -/
theorem vrd_unique {l : List Int} {i : Nat} {u : Int} (hl : ∀ x ∈ l, okU8 x) (hi : i ≤ 9) (h0 : 0 ≤ u) (h1 : u < 2 ^ (7 * i)) (he : (vrd l i u).2.2 = 0) :
    ∃ v, 0 ≤ v ∧ (v = 0 → i = 0) ∧ u + v * 2 ^ (7 * i) ≤ 18446744073709551615 ∧ (vrd l i u).1 = zdec (u + v * 2 ^ (7 * i)) ∧ l.take ((vrd l i u).2.1 - i).toNat = venc (9 - i) v := by
  induction l generalizing i u with
  | nil => simp [vrd] at he
  | cons c r ih =>
    have hc : okU8 c := hl c (by simp)
    unfold okU8 at hc
    have hp := pow7_pos i
    simp only [vrd] at he ⊢
    by_cases h9 : i = 9 ∧ 1 < c
    · rw [if_pos h9] at he; simp at he
    rw [if_neg h9] at he ⊢
    obtain ⟨b1, b2⟩ := vbound (c := c) (a := c % 128) hi (by omega) h1 h0 (by omega) (by omega) (by omega)
    by_cases hc1 : 128 ≤ c
    · rw [if_pos hc1] at he ⊢
      have := pow7 i
      have h2 := mulle (show c - 128 ≤ 127 by omega) (show 0 ≤ (2 : Int) ^ (7 * i) by omega)
      have h3 : 0 ≤ (c - 128) * (2 : Int) ^ (7 * i) := Int.mul_nonneg (by omega) (by omega)
      have hr : ∀ x ∈ r, okU8 x := fun x hx => hl x (by simp [hx])
      obtain ⟨v, k1, k2, k3, k4, k5⟩ := ih (i := i + 1) (u := u + (c - 128) * 2 ^ (7 * i)) hr (by omega) (by omega) (by omega) he
      obtain ⟨_, r2, _⟩ := vrd_range (i := i + 1) (u := u + (c - 128) * 2 ^ (7 * i)) hr (by omega) (by omega) (by omega)
      have r2 := r2 he
      have e : u + (c - 128 + 128 * v) * 2 ^ (7 * i) = u + (c - 128) * 2 ^ (7 * i) + v * 2 ^ (7 * (i + 1)) := by
        rw [pow7, Int.add_mul, Int.add_assoc, ← Int.mul_assoc, Int.mul_comm v 128]
      refine ⟨c - 128 + 128 * v, by omega, by omega, by rw [e]; exact k3, by rw [e]; exact k4, ?_⟩
      generalize vrd r (i + 1) (u + (c - 128) * 2 ^ (7 * i)) = q at *
      obtain ⟨m, hm⟩ : ∃ m : Nat, q.2.1 = i + 1 + m := ⟨(q.2.1 - (i + 1)).toNat, by omega⟩
      rw [hm] at k5 ⊢
      rw [show ((i : Int) + 1 + m - i).toNat = m + 1 by omega, List.take_succ_cons]
      rw [show ((i : Int) + 1 + m - ((i + 1 : Nat) : Int)).toNat = m by omega] at k5
      rw [k5, show 9 - i = (9 - (i + 1)) + 1 by omega]
      simp only [venc]
      rw [if_neg (by omega)]
      congr 1
      · omega
      · congr 1; omega
    · rw [if_neg hc1] at he ⊢
      by_cases hz : c = 0 ∧ 0 < i
      · rw [if_pos hz] at he; simp at he
      · rw [if_neg hz] at he ⊢
        rw [show c % 128 = c by omega] at b1 b2
        refine ⟨c, by omega, by omega, b2, rfl, ?_⟩
        simp only
        rw [show ((i : Int) + 1 - i).toNat = 1 by omega]
        show [c] = _
        rcases hk : 9 - i with _ | k
        · rfl
        · simp only [venc]; rw [if_pos (by omega)]
theorem vrd_put {n : Int} {more : List Int} (hn : okI64 n) : vrd (venc 9 (zenc n) ++ more) 0 0 = (n, ((venc 9 (zenc n)).length : Int), 0) := by
  have hz := zenc_range hn
  have := vrd_venc (k := 9) (i := 0) (u := 0) (v := zenc n) (more := more) (by omega) hz.1 (u64_128 hz.2) (fun _ => rfl) (by have := hz.2; simpa using this) (by omega)
  rw [this]
  simp [zdec_zenc]
theorem venc_okZ {n : Int} (hn : okI64 n) : ∀ x ∈ venc 9 (zenc n), okU8 x := venc_ok (zenc_range hn).1 (u64_128 (zenc_range hn).2)
theorem ok_app {l m : List Int} (hl : ∀ x ∈ l, okU8 x) (hm : ∀ x ∈ m, okU8 x) : ∀ x ∈ l ++ m, okU8 x := by
  intro x hx; rcases List.mem_append.1 hx with h | h
  · exact hl x h
  · exact hm x h
end Go.Ab
