/- Plain laws of the functions below this seat's, laid anew from another seat's text. No conditions but those that the theorems name. -/
import Derived.Test.YtollmoogggcmaaaP08xD
import Derived.Test.YtollmoogggcmaaaA37
namespace Go.Ab
open Go
set_option linter.unusedVariables false
def zdec (u : Int) : Int := if u % 2 = 1 then -(u / 2) - 1 else u / 2
theorem zdec_range {u : Int} (h : okU64 u) : okI64 (zdec u) := by unfold okU64 at h; unfold okI64 zdec; split <;> omega
theorem codec_integer_eq {u : Int} (h : okU64 u) : codec_integer u = some (zdec u) := by
  unfold okU64 at h
  unfold codec_integer
  have e1 : ishr .u64 u 1 = u / 2 := by
    have := ishr_div (k := .u64) (x := u) (s := 1) h.1 (by decide)
    simpa using this
  rw [e1, iand_1_64 h.1 h.2, w64 (x := u / 2) (by omega) (by omega), w64 (x := u % 2) (by omega) (by omega), w64 (x := 0 - u % 2) (by omega) (by omega)]
  unfold zdec
  split
  · rename_i h1
    rw [h1, show (0 : Int) - 1 = -1 from rfl, ixor_i64_neg (by omega) (by omega)]
  · rename_i h1
    rw [show (0 : Int) - u % 2 = 0 by omega, ixor_i64_zero (by omega) (by omega)]
theorem R05_integer_eq {u : Int} (h : okU64 u) : R05_integer u = some (zdec u) := by
  unfold okU64 at h
  unfold R05_integer
  rw [irem_mod h.1, iquo_div (k := .u64) h.1 (show u < 2 ^ 64 by omega) (by omega)]
  simp only [Bool.cond_eq_ite, beq_iff_eq]
  unfold zdec
  simp (disch := omega) only [w64, Int.zero_sub]
  split <;> rfl
/-- The integer at the beginning: behind i bytes of which u is known. -/
def vrd : List Int → Nat → Int → Int × Int × Int
  | [], _, _ => (0, 0, 8)
  | c :: r, i, u =>
    if i = 9 ∧ 1 < c then (0, 0, 10) else
    if 128 ≤ c then vrd r (i + 1) (u + (c - 128) * 2 ^ (7 * i)) else
    if c = 0 ∧ 0 < i then (0, 0, 10) else (zdec (u + c * 2 ^ (7 * i)), (i : Int) + 1, 0)

theorem pow7 (i : Nat) : (2 : Int) ^ (7 * (i + 1)) = 128 * 2 ^ (7 * i) := by
  rw [Nat.mul_add, Int.pow_add]; omega
theorem pow7_pos (i : Nat) : (1 : Int) ≤ 2 ^ (7 * i) := by
  have : (0 : Int) < 2 ^ (7 * i) := Int.pow_pos (by decide)
  omega
theorem pow7_le8 {i : Nat} (h : i ≤ 8) : (2 : Int) ^ (7 * i) ≤ 72057594037927936 := by
  have := Nat.pow_le_pow_right (n := 2) (by decide) (show 7 * i ≤ 56 by omega)
  have h2 : (((2 ^ (7 * i) : Nat)) : Int) = 2 ^ (7 * i) := by simp
  have h3 : (2 : Nat) ^ 56 = 72057594037927936 := rfl
  omega
theorem mulle {a m q : Int} (h : a ≤ m) (hq : 0 ≤ q) : a * q ≤ m * q := Int.mul_le_mul_of_nonneg_right h hq
/-- What is added stays in range. -/
theorem vbound {i : Nat} {u a c : Int} (hi : i ≤ 9) (h9 : ¬((i : Int) = 9 ∧ c > 1)) (hu : u < 2 ^ (7 * i)) (hu0 : 0 ≤ u) (ha : 0 ≤ a) (ha1 : a ≤ 127) (hac : a ≤ c) :
    0 ≤ a * 2 ^ (7 * i) ∧ u + a * 2 ^ (7 * i) ≤ 18446744073709551615 := by
  have hp := pow7_pos i
  refine ⟨Int.mul_nonneg ha (by omega), ?_⟩
  rcases Nat.lt_or_ge i 9 with h | h
  · have := pow7_le8 (show i ≤ 8 by omega)
    have := mulle ha1 (show 0 ≤ (2 : Int) ^ (7 * i) by omega)
    omega
  · obtain rfl : i = 9 := by omega
    have := mulle (show a ≤ 1 by omega) (show 0 ≤ (2 : Int) ^ (7 * 9) by omega)
    omega

def vout (e : Int × Int × Int) (o : Unit ⊕ (Int × Int × Int)) : Int × Int × Int := match o with | .inl _ => e | .inr q => q

theorem codec_Int_loop {F : Nat} {b : List Int} (hb : ∀ x ∈ b, okU8 x) (hl : b.length ≤ 4611686018427387904) : ∀ (n i : Nat) (u : Int), i ≤ 9 → 0 ≤ u → u < 2 ^ (7 * i) → (b.drop i).length < n →
    ∃ o, codec_Int_L1 F b n u i = some o ∧ vout (0, 0, 8) o = vrd (b.drop i) i u := by
  intro n
  induction n with
  | zero => intro i u _ _ _ h; omega
  | succ n ih =>
    intro i u hi hu0 hu hn
    show ∃ o, codec_Int_L1_body F b (codec_Int_L1 F b n) u i = some o ∧ _
    unfold codec_Int_L1_body
    rcases hd : b.drop i with _ | ⟨c, r⟩
    · have := drop_nil hd
      simp (disch := omega) only [dec_f, cond_false]
      exact ⟨_, rfl, rfl⟩
    · have hlt := drop_lt hd
      have hc : okU8 c := hb c (List.mem_of_mem_drop (hd ▸ List.mem_cons_self))
      unfold okU8 at hc
      have hp := pow7_pos i
      rw [dec_t (show (i : Int) < (b.length : Int) by omega), cond_true]
      simp (disch := omega) only [idxL_drop hd, Option.bind_some, Bool.cond_eq_ite, Bool.and_eq_true, beq_iff_eq, decide_eq_true_eq, vrd, w64, need_t, iand_127, wu64]
      have h7 : (7 : Int) * (i : Int) = ((7 * i : Nat) : Int) := by omega
      by_cases h9 : (i : Int) = 9 ∧ c > 1
      · simp (disch := omega) only [if_pos]
        exact ⟨_, rfl, rfl⟩
      rw [if_neg h9, if_neg (show ¬(i = 9 ∧ 1 < c) by omega)]
      have hm : 0 ≤ c % 128 ∧ c % 128 ≤ 127 ∧ c % 128 ≤ c := by omega
      obtain ⟨b1, b2⟩ := vbound hi h9 hu hu0 hm.1 hm.2.1 hm.2.2
      have e1 : ior .u64 u (ishl .u64 (c % 128) (7 * (i : Int))) = u + c % 128 * 2 ^ (7 * i) := by
        rw [h7, ishl_mul (k := .u64) hm.1 (by simp only [IntKind.bits]; omega) (show c % 128 * 2 ^ (7 * i) < 18446744073709551616 by omega), ior_add (k := .u64) hu0 hu hm.1 (show u + c % 128 * 2 ^ (7 * i) < 18446744073709551616 by omega)]
      rw [e1]
      by_cases hc1 : c ≥ 128
      · rw [show c % 128 = c - 128 by omega]
        simp (disch := omega) only [if_pos]
        rw [show c % 128 = c - 128 by omega] at b1 b2
        have hi8 : i ≤ 8 := by omega
        have := pow7 i
        have h2 := mulle (show c - 128 ≤ 127 by omega) (show 0 ≤ (2 : Int) ^ (7 * i) by omega)
        have := ih (i + 1) (u + (c - 128) * 2 ^ (7 * i)) (by omega) (by omega) (by omega) (by rw [drop_step hd]; rw [hd] at hn; simp at hn; omega)
        rw [drop_step hd] at this
        exact this
      · rw [show c % 128 = c by omega] at b1 b2 ⊢
        by_cases h0 : c = 0 ∧ (i : Int) > 0
        · simp (disch := omega) only [if_pos, if_neg]
          exact ⟨_, rfl, rfl⟩
        · rw [codec_integer_eq ⟨by omega, b2⟩]
          simp (disch := omega) only [if_neg]
          exact ⟨_, rfl, rfl⟩

theorem R05_Int_loop {F : Nat} {b : List Int} (hb : ∀ x ∈ b, okU8 x) (hl : b.length ≤ 4611686018427387904) : ∀ (n i : Nat) (u : Int), i ≤ 9 → 0 ≤ u → u < 2 ^ (7 * i) → 10 - i < n →
    ∃ o, R05_Int_L1 F b n u (2 ^ (7 * i)) i = some o ∧ vout (0, 0, 10) o = vrd (b.drop i) i u := by
  intro n
  induction n with
  | zero => intro i u _ _ _ h; omega
  | succ n ih =>
    intro i u hi hu0 hu hn
    show ∃ o, R05_Int_L1_body F b (R05_Int_L1 F b n) u (2 ^ (7 * i)) i = some o ∧ _
    unfold R05_Int_L1_body
    rw [dec_t (show (i : Int) < 10 by omega), cond_true]
    rcases hd : b.drop i with _ | ⟨c, r⟩
    · have := drop_nil hd
      simp (disch := omega) only [dec_t, cond_true]
      exact ⟨_, rfl, rfl⟩
    · have hlt := drop_lt hd
      have hc : okU8 c := hb c (List.mem_of_mem_drop (hd ▸ List.mem_cons_self))
      unfold okU8 at hc
      have hp := pow7_pos i
      have hm : 0 ≤ c % 128 ∧ c % 128 ≤ 127 ∧ c % 128 ≤ c := by omega
      rw [dec_f (show ¬ ((i : Int) ≥ (b.length : Int)) by omega), cond_false]
      simp (disch := omega) only [idxL_drop hd, Option.bind_some, Bool.cond_eq_ite, Bool.and_eq_true, beq_iff_eq, decide_eq_true_eq, vrd, w64, wu64, irem_mod]
      by_cases h9 : (i : Int) = 9 ∧ c > 1
      · simp (disch := omega) only [if_pos]
        exact ⟨_, rfl, rfl⟩
      rw [if_neg h9, if_neg (show ¬(i = 9 ∧ 1 < c) by omega)]
      obtain ⟨b1, b2⟩ := vbound hi h9 hu hu0 hm.1 hm.2.1 hm.2.2
      simp (disch := omega) only [wu64]
      by_cases h0 : c = 0 ∧ (i : Int) > 0
      · simp (disch := omega) only [if_pos, if_neg]
        exact ⟨_, rfl, rfl⟩
      by_cases hc1 : c ≥ 128
      · rw [show c % 128 = c - 128 by omega]
        have hi8 : i ≤ 8 := by omega
        have := pow7 i
        have := pow7_le8 hi8
        have h2 := mulle (show c - 128 ≤ 127 by omega) (show 0 ≤ (2 : Int) ^ (7 * i) by omega)
        have h3 : 0 ≤ (c - 128) * (2 : Int) ^ (7 * i) := Int.mul_nonneg (by omega) (by omega)
        rw [wu64 (x := 2 ^ (7 * i) * 128) (by omega) (by omega), show (2 : Int) ^ (7 * i) * 128 = 2 ^ (7 * (i + 1)) by omega]
        simp (disch := omega) only [if_pos, if_neg]
        have := ih (i + 1) (u + (c - 128) * 2 ^ (7 * i)) (by omega) (by omega) (by omega) (by omega)
        rw [drop_step hd] at this
        exact this
      · rw [show c % 128 = c by omega] at b1 b2 ⊢
        rw [R05_integer_eq ⟨by omega, b2⟩]
        simp (disch := omega) only [if_pos, if_neg]
        exact ⟨_, rfl, rfl⟩

theorem codec_Int_eq {F : Nat} {b : List Int} (hb : ∀ x ∈ b, okU8 x) (hl : b.length ≤ 4611686018427387904) (hF : b.length < F) : codec_Int F b = some (vrd b 0 0) := by
  obtain ⟨o, h1, h2⟩ := codec_Int_loop (F := F) hb hl F 0 0 (by omega) (by omega) (by decide) (by simpa using hF)
  unfold codec_Int
  simp only [List.drop_zero] at h2
  rw [show codec_Int_L1 F b F (0 : Int) 0 = some o from h1, ← h2]
  cases o <;> rfl
theorem R05_Int_eq {F : Nat} {b : List Int} (hb : ∀ x ∈ b, okU8 x) (hl : b.length ≤ 4611686018427387904) (hF : 10 < F) : R05_Int F b = some (vrd b 0 0) := by
  obtain ⟨o, h1, h2⟩ := R05_Int_loop (F := F) hb hl F 0 0 (by omega) (by omega) (by decide) (by omega)
  unfold R05_Int
  simp only [List.drop_zero] at h2
  rw [show R05_Int_L1 F b F (0 : Int) 1 0 = some o from h1, ← h2]
  cases o <;> rfl
theorem vrd_range {l : List Int} {i : Nat} {u : Int} (hl : ∀ x ∈ l, okU8 x) (hi : i ≤ 9) (h0 : 0 ≤ u) (h1 : u < 2 ^ (7 * i)) :
    okI64 (vrd l i u).1 ∧ ((vrd l i u).2.2 = 0 → (i : Int) < (vrd l i u).2.1 ∧ (vrd l i u).2.1 ≤ 10 ∧ (vrd l i u).2.1 ≤ i + l.length) ∧ ((vrd l i u).2.2 = 0 ∨ (vrd l i u).1 = 0 ∧ (vrd l i u).2.1 = 0 ∧ ((vrd l i u).2.2 = 8 ∨ (vrd l i u).2.2 = 10)) := by
  induction l generalizing i u with
  | nil => simp [vrd, okI64]
  | cons c r ih =>
    have hc : okU8 c := hl c (by simp)
    unfold okU8 at hc
    have hp := pow7_pos i
    simp only [vrd]
    by_cases h9 : i = 9 ∧ 1 < c
    · rw [if_pos h9]; simp [okI64]
    rw [if_neg h9]
    obtain ⟨b1, b2⟩ := vbound (c := c) (a := c % 128) hi (by omega) h1 h0 (by omega) (by omega) (by omega)
    by_cases hc1 : 128 ≤ c
    · rw [if_pos hc1]
      have := pow7 i
      have h2 := mulle (show c - 128 ≤ 127 by omega) (show 0 ≤ (2 : Int) ^ (7 * i) by omega)
      have h3 : 0 ≤ (c - 128) * (2 : Int) ^ (7 * i) := Int.mul_nonneg (by omega) (by omega)
      obtain ⟨k1, k2, k3⟩ := ih (i := i + 1) (u := u + (c - 128) * 2 ^ (7 * i)) (fun x hx => hl x (by simp [hx])) (by omega) (by omega) (by omega)
      refine ⟨k1, fun h => ?_, k3⟩
      have := k2 h
      simp only [List.length_cons]; omega
    · rw [if_neg hc1]
      by_cases h0 : c = 0 ∧ 0 < i
      · rw [if_pos h0]; simp [okI64]
      · rw [if_neg h0]
        rw [show c % 128 = c by omega] at b1 b2
        refine ⟨zdec_range ⟨by omega, b2⟩, fun _ => ?_, .inl rfl⟩
        simp only [List.length_cons]; omega
end Go.Ab
