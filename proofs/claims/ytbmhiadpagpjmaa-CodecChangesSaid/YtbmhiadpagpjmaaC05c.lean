/- Codec: the sum. -/
import Derived.Test.YtbmhiadpagpjmaaC05
namespace Go.Ab
open Go
set_option linter.unusedVariables false

abbrev cpoly : BitVec 32 := 0xedb88320#32
def cstep (x : BitVec 32) : BitVec 32 := (x >>> 1) ^^^ (bif x.getLsbD 0 then cpoly else 0#32)
def cstepN : Nat → BitVec 32 → BitVec 32
  | 0, x => x
  | n + 1, x => cstepN n (cstep x)
def cbyte (x : BitVec 32) (c : Int) : BitVec 32 := cstepN 8 (x ^^^ BitVec.ofInt 32 c)
def crun : BitVec 32 → List Int → BitVec 32
  | x, [] => x
  | x, c :: r => crun (cbyte x c) r
def csum (l : List Int) : BitVec 32 := crun (BitVec.allOnes 32) l ^^^ BitVec.allOnes 32

def i32 (x : BitVec 32) : Int := (x.toNat : Int)
theorem i32_range (x : BitVec 32) : 0 ≤ i32 x ∧ i32 x ≤ 4294967295 := by
  unfold i32; have := x.isLt; omega
theorem i32_inj {x y : BitVec 32} (h : i32 x = i32 y) : x = y := by
  unfold i32 at h; exact BitVec.eq_of_toNat_eq (by omega)
theorem i32_xor (x y : BitVec 32) : ixor .u32 (i32 x) (i32 y) = i32 (x ^^^ y) := by
  unfold i32
  rw [ixor_nat (k := .u32) (show _ < 2 ^ 32 from x.isLt) (show _ < 2 ^ 32 from y.isLt), BitVec.toNat_xor]
theorem i32_xor64 (x y : BitVec 32) : ixor .i64 (i32 x) (i32 y) = i32 (x ^^^ y) := by
  unfold i32
  have := x.isLt
  have := y.isLt
  rw [ixor_nat (k := .i64) (show _ < 2 ^ 63 by omega) (show _ < 2 ^ 63 by omega), BitVec.toNat_xor]
theorem i32_lsb (x : BitVec 32) : x.getLsbD 0 = decide (i32 x % 2 = 1) := by
  unfold i32 BitVec.getLsbD
  rw [Nat.testBit_zero]
  congr 1
  exact propext ⟨fun h => by omega, fun h => by omega⟩
theorem i32_half (x : BitVec 32) : i32 x / (2 : Int) = i32 (x >>> (1 : Nat)) := by
  unfold i32
  rw [BitVec.toNat_ushiftRight, Nat.shiftRight_eq_div_pow]; omega
theorem i32_step (x : BitVec 32) : (if i32 x % 2 = 1 then ixor .u32 (i32 x / 2) 3988292384 else i32 x / 2) = i32 (cstep x) := by
  unfold cstep
  rw [i32_lsb, i32_half]
  split
  · rename_i h
    rw [dec_t h, cond_true, show (3988292384 : Int) = i32 cpoly by decide, i32_xor]
  · rename_i h
    rw [dec_f h, cond_false, BitVec.xor_zero]
theorem i32_byte {c : Int} (h : okU8 c) : c = i32 (BitVec.ofInt 32 c) := by
  unfold okU8 at h; unfold i32
  rw [BitVec.toNat_ofInt]
  have : (2 ^ 32 : Nat) = 4294967296 := rfl
  omega

theorem cSum_L2_eq {F : Nat} : ∀ (k n : Nat) (x : BitVec 32), k ≤ 8 → k < n → cSum_L2 F n (i32 x) (8 - (k : Int)) = some (i32 (cstepN k x)) := by
  intro k
  induction k with
  | zero =>
    intro n x _ hn
    obtain ⟨n, rfl⟩ : ∃ m, n = m + 1 := ⟨n - 1, by omega⟩
    show cSum_L2_body F (cSum_L2 F n) _ _ = _
    unfold cSum_L2_body
    rw [dec_f (by omega), cond_false]; rfl
  | succ k ih =>
    intro n x hk hn
    obtain ⟨n, rfl⟩ : ∃ m, n = m + 1 := ⟨n - 1, by omega⟩
    show cSum_L2_body F (cSum_L2 F n) _ _ = _
    have hr := i32_range x
    unfold cSum_L2_body
    have e1 : ishr .u32 (i32 x) 1 = i32 x / 2 := by
      have := ishr_div (k := .u32) (x := i32 x) (s := 1) hr.1 (by decide)
      simpa using this
    rw [dec_t (by omega), cond_true, iand_1_32 hr.1 hr.2, e1, w64 (by omega) (by omega), show 8 - ((k + 1 : Nat) : Int) + 1 = 8 - (k : Int) by omega]
    have := ih n (cstep x) (by omega) (by omega)
    rw [← i32_step] at this
    simp only [Bool.cond_eq_ite, beq_iff_eq]
    simp only [cstepN]
    rw [← this]
    split <;> rfl
theorem rSum_L2_eq {F : Nat} : ∀ (k n : Nat) (x : BitVec 32), k ≤ 8 → k < n → rSum_L2 F n (i32 x) (8 - (k : Int)) = some (i32 (cstepN k x)) := by
  intro k
  induction k with
  | zero =>
    intro n x _ hn
    obtain ⟨n, rfl⟩ : ∃ m, n = m + 1 := ⟨n - 1, by omega⟩
    show rSum_L2_body F (rSum_L2 F n) _ _ = _
    unfold rSum_L2_body
    rw [dec_f (by omega), cond_false]; rfl
  | succ k ih =>
    intro n x hk hn
    obtain ⟨n, rfl⟩ : ∃ m, n = m + 1 := ⟨n - 1, by omega⟩
    show rSum_L2_body F (rSum_L2 F n) _ _ = _
    have hr := i32_range x
    have hq : i32 x < (half .u32 : Nat) := by rw [show half .u32 = 4294967296 from rfl]; omega
    unfold rSum_L2_body
    rw [dec_t (by omega), cond_true, irem_mod hr.1, iquo_div (k := .u32) hr.1 hq (by omega), w64 (by omega) (by omega), show 8 - ((k + 1 : Nat) : Int) + 1 = 8 - (k : Int) by omega]
    have := ih n (cstep x) (by omega) (by omega)
    rw [← i32_step] at this
    simp only [Bool.cond_eq_ite, beq_iff_eq]
    simp only [cstepN]
    rw [← this]
    split <;> rfl

theorem cSum_L1_eq {F : Nat} {b : List Int} (hb : ∀ x ∈ b, okU8 x) (hl : b.length ≤ 4611686018427387904) (hF : 8 < F) : ∀ (n i : Nat) (x : BitVec 32), (b.drop i).length < n → cSum_L1 F b n (i32 x) i = some (i32 (crun x (b.drop i))) := by
  intro n
  induction n with
  | zero => intro i x h; omega
  | succ n ih =>
    intro i x hn
    show cSum_L1_body F b (cSum_L1 F b n) _ _ = _
    unfold cSum_L1_body
    rcases hd : b.drop i with _ | ⟨c, r⟩
    · have := drop_nil hd
      rw [dec_f (by omega), cond_false]; rfl
    · have hlt := drop_lt hd
      have hc : okU8 c := hb c (List.mem_of_mem_drop (hd ▸ List.mem_cons_self))
      have hc' := hc; unfold okU8 at hc'
      rw [hd] at hn; simp only [List.length_cons] at hn
      rw [dec_t (by omega), cond_true, idxL_drop hd, Option.bind_some, wu32 (by omega) (by omega)]
      have e := cSum_L2_eq (F := F) 8 F (x ^^^ BitVec.ofInt 32 c) (by omega) hF
      rw [← i32_xor, ← i32_byte hc] at e
      rw [show cSum_L2 F F (ixor .u32 (i32 x) c) 0 = _ from e, Option.bind_some, w64 (by omega) (by omega), show (i : Int) + 1 = ((i + 1 : Nat) : Int) by omega, ih (i + 1) _ (by rw [drop_step hd]; omega), drop_step hd]
      rfl
theorem rSum_L1_eq {F : Nat} {b : List Int} (hb : ∀ x ∈ b, okU8 x) (hl : b.length ≤ 4611686018427387904) (hF : 8 < F) : ∀ (n i : Nat) (x : BitVec 32), (b.drop i).length < n → rSum_L1 F b n (i32 x) i = some (i32 (crun x (b.drop i))) := by
  intro n
  induction n with
  | zero => intro i x h; omega
  | succ n ih =>
    intro i x hn
    show rSum_L1_body F b (rSum_L1 F b n) _ _ = _
    unfold rSum_L1_body
    rcases hd : b.drop i with _ | ⟨c, r⟩
    · have := drop_nil hd
      rw [dec_f (by omega), cond_false]; rfl
    · have hlt := drop_lt hd
      have hc : okU8 c := hb c (List.mem_of_mem_drop (hd ▸ List.mem_cons_self))
      have hc' := hc; unfold okU8 at hc'
      rw [hd] at hn; simp only [List.length_cons] at hn
      rw [dec_t (by omega), cond_true, idxL_drop hd, Option.bind_some, wu32 (by omega) (by omega)]
      have e := rSum_L2_eq (F := F) 8 F (x ^^^ BitVec.ofInt 32 c) (by omega) hF
      rw [← i32_xor, ← i32_byte hc] at e
      rw [show rSum_L2 F F (ixor .u32 (i32 x) c) 0 = _ from e, Option.bind_some, w64 (by omega) (by omega), show (i : Int) + 1 = ((i + 1 : Nat) : Int) by omega, ih (i + 1) _ (by rw [drop_step hd]; omega), drop_step hd]
      rfl
theorem cSum_eq {F : Nat} {b : List Int} (hb : ∀ x ∈ b, okU8 x) (hl : b.length ≤ 4611686018427387904) (hF : 8 < F) (hF2 : b.length < F) : cSum F b = some (i32 (csum b)) := by
  unfold cSum
  have e := cSum_L1_eq (F := F) hb hl hF F 0 (BitVec.allOnes 32) (by simpa using hF2)
  rw [show cSum_L1 F b F 4294967295 0 = _ from e, Option.bind_some, show (4294967295 : Int) = i32 (BitVec.allOnes 32) by decide, i32_xor, BitVec.xor_comm, List.drop_zero]
  have hr := i32_range (csum b)
  rw [w64 (by show _ ≤ i32 (csum b); omega) (by show i32 (csum b) ≤ _; omega)]
  rfl
theorem rSum_eq {F : Nat} {b : List Int} (hb : ∀ x ∈ b, okU8 x) (hl : b.length ≤ 4611686018427387904) (hF : 8 < F) (hF2 : b.length < F) : rSum F b = some (i32 (csum b)) := by
  unfold rSum
  have e := rSum_L1_eq (F := F) hb hl hF F 0 (BitVec.allOnes 32) (by simpa using hF2)
  rw [show rSum_L1 F b F 4294967295 0 = _ from e, Option.bind_some, show (4294967295 : Int) = i32 (BitVec.allOnes 32) by decide, i32_xor, List.drop_zero]
  have hr := i32_range (csum b)
  rw [w64 (by show _ ≤ i32 (csum b); omega) (by show i32 (csum b) ≤ _; omega)]
  rfl

/- The sum is linear, and a step loses nothing. -/
theorem cstep_xor (x y : BitVec 32) : cstep (x ^^^ y) = cstep x ^^^ cstep y := by
  unfold cstep
  rw [BitVec.ushiftRight_xor_distrib, BitVec.getLsbD_xor]
  generalize x >>> 1 = a
  generalize y >>> 1 = b
  cases x.getLsbD 0 <;> cases y.getLsbD 0
  · simp
  · simp [BitVec.xor_assoc]
  · simp only [Bool.xor_false, cond_true, cond_false, BitVec.xor_zero]
    rw [BitVec.xor_assoc, BitVec.xor_assoc, BitVec.xor_comm b]
  · simp only [Bool.xor_true, Bool.not_true, cond_true, cond_false, BitVec.xor_zero]
    rw [BitVec.xor_assoc, ← BitVec.xor_assoc cpoly, BitVec.xor_comm cpoly b, BitVec.xor_assoc b, BitVec.xor_self, BitVec.xor_zero]
theorem cstepN_xor (n : Nat) (x y : BitVec 32) : cstepN n (x ^^^ y) = cstepN n x ^^^ cstepN n y := by
  induction n generalizing x y with
  | zero => rfl
  | succ n ih => simp only [cstepN, cstep_xor, ih]
theorem cstep_zero {x : BitVec 32} (h : cstep x = 0#32) : x = 0#32 := by
  unfold cstep at h
  have h31 := congrArg (fun z => BitVec.getLsbD z 31) h
  simp only [BitVec.getLsbD_xor, BitVec.getLsbD_ushiftRight] at h31
  have e0 : x.getLsbD 0 = false := by
    cases hx : x.getLsbD 0
    · rfl
    · rw [hx] at h31
      rw [BitVec.getLsbD_of_ge x (1 + 31) (by decide)] at h31
      exact absurd h31 (by decide)
  rw [e0, cond_false, BitVec.xor_zero] at h
  apply BitVec.eq_of_toNat_eq
  have h2 := congrArg BitVec.toNat h
  rw [BitVec.toNat_ushiftRight, Nat.shiftRight_eq_div_pow] at h2
  have h3 := i32_lsb x
  rw [e0] at h3
  have h4 : ¬(i32 x % 2 = 1) := of_decide_eq_false h3.symm
  unfold i32 at h4
  simp at h2 ⊢
  omega
theorem cstepN_zero {n : Nat} {x : BitVec 32} (h : cstepN n x = 0#32) : x = 0#32 := by
  induction n generalizing x with
  | zero => exact h
  | succ n ih => exact cstep_zero (ih h)
theorem cstep_00 : cstep 0#32 = 0#32 := by decide
theorem cstepN_00 (n : Nat) : cstepN n 0#32 = 0#32 := by
  induction n with
  | zero => rfl
  | succ n ih => simp only [cstepN, cstep_00, ih]
/-- Eight steps take what was shifted by eight back. -/
theorem cstep_shl {z : Nat} (h : z < 2147483648) : cstep (BitVec.ofNat 32 (2 * z)) = BitVec.ofNat 32 z := by
  unfold cstep
  have e : (BitVec.ofNat 32 (2 * z)).getLsbD 0 = false := by
    rw [i32_lsb]; unfold i32
    rw [BitVec.toNat_ofNat, Nat.mod_eq_of_lt (by omega)]
    exact dec_f (by omega)
  rw [e, cond_false, BitVec.xor_zero]
  apply BitVec.eq_of_toNat_eq
  rw [BitVec.toNat_ushiftRight, Nat.shiftRight_eq_div_pow, BitVec.toNat_ofNat, BitVec.toNat_ofNat, Nat.mod_eq_of_lt (by omega), Nat.mod_eq_of_lt (by omega)]
  omega
theorem cstepN_shl {z : Nat} (h : z < 16777216) : cstepN 8 (BitVec.ofNat 32 (256 * z)) = BitVec.ofNat 32 z := by
  simp only [cstepN]
  rw [show 256 * z = 2 * (128 * z) by omega, cstep_shl (by omega), show 128 * z = 2 * (64 * z) by omega, cstep_shl (by omega), show 64 * z = 2 * (32 * z) by omega, cstep_shl (by omega), show 32 * z = 2 * (16 * z) by omega, cstep_shl (by omega),
    show 16 * z = 2 * (8 * z) by omega, cstep_shl (by omega), show 8 * z = 2 * (4 * z) by omega, cstep_shl (by omega), show 4 * z = 2 * (2 * z) by omega, cstep_shl (by omega), cstep_shl (by omega)]
theorem cstepN_inj {n : Nat} {x y : BitVec 32} (h : cstepN n x = cstepN n y) : x = y := by
  have h2 : cstepN n (x ^^^ y) = 0#32 := by rw [cstepN_xor, h, BitVec.xor_self]
  have := cstepN_zero h2
  exact BitVec.xor_eq_zero_iff.1 this

def zipx : List Int → List Int → List Int
  | a :: r, b :: s => ixor .u8 a b :: zipx r s
  | _, _ => []
theorem byte_xor {a b : Int} (ha : okU8 a) (hb : okU8 b) : BitVec.ofInt 32 (ixor .u8 a b) = BitVec.ofInt 32 a ^^^ BitVec.ofInt 32 b ∧ okU8 (ixor .u8 a b) := by
  unfold okU8 at *
  obtain ⟨m, rfl⟩ := Int.eq_ofNat_of_zero_le ha.1
  obtain ⟨n, rfl⟩ := Int.eq_ofNat_of_zero_le hb.1
  have hm : m < 2 ^ 8 := by omega
  have hn : n < 2 ^ 8 := by omega
  have hx := Nat.xor_lt_two_pow hm hn
  rw [ixor_nat (k := .u8) hm hn]
  refine ⟨?_, by omega, by omega⟩
  apply BitVec.eq_of_toNat_eq
  rw [BitVec.toNat_xor, ofInt_toNat (n := 32) (by omega), ofInt_toNat (n := 32) (by omega), ofInt_toNat (n := 32) (by omega)]
theorem cbyte_xor {x y : BitVec 32} {a b : Int} (ha : okU8 a) (hb : okU8 b) : cbyte (x ^^^ y) (ixor .u8 a b) = cbyte x a ^^^ cbyte y b := by
  unfold cbyte
  rw [(byte_xor ha hb).1, ← cstepN_xor]
  congr 1
  rw [BitVec.xor_assoc, BitVec.xor_assoc, ← BitVec.xor_assoc y, BitVec.xor_comm y, BitVec.xor_assoc (BitVec.ofInt 32 a)]
theorem crun_xor {x y : BitVec 32} {l m : List Int} (h : l.length = m.length) (hl : ∀ x ∈ l, okU8 x) (hm : ∀ x ∈ m, okU8 x) : crun (x ^^^ y) (zipx l m) = crun x l ^^^ crun y m := by
  induction l generalizing m x y with
  | nil => cases m with
    | nil => rfl
    | cons b s => simp at h
  | cons a r ih =>
    cases m with
    | nil => simp at h
    | cons b s =>
      simp only [zipx, crun]
      rw [cbyte_xor (hl a (by simp)) (hm b (by simp)), ih (by simpa using h) (fun x hx => hl x (by simp [hx])) (fun x hx => hm x (by simp [hx]))]
theorem zipx_ok {l m : List Int} (hl : ∀ x ∈ l, okU8 x) (hm : ∀ x ∈ m, okU8 x) : ∀ x ∈ zipx l m, okU8 x := by
  induction l generalizing m with
  | nil => intro x hx; simp [zipx] at hx
  | cons a r ih =>
    cases m with
    | nil => intro x hx; simp [zipx] at hx
    | cons b s =>
      intro x hx
      simp only [zipx, List.mem_cons] at hx
      rcases hx with rfl | hx
      · exact (byte_xor (hl a (by simp)) (hm b (by simp))).2
      · exact ih (fun x hx => hl x (by simp [hx])) (fun x hx => hm x (by simp [hx])) x hx
theorem zipx_len {l m : List Int} (h : l.length ≤ m.length) : (zipx l m).length = l.length := by
  induction l generalizing m with
  | nil => simp [zipx]
  | cons a r ih =>
    cases m with
    | nil => simp at h
    | cons b s => simp only [zipx, List.length_cons]; rw [ih (by simpa using h)]
theorem crun_app (x : BitVec 32) (l m : List Int) : crun x (l ++ m) = crun (crun x l) m := by
  induction l generalizing x with
  | nil => rfl
  | cons a r ih => simp only [List.cons_append, crun, ih]
theorem crun_inj {x y : BitVec 32} {l : List Int} (h : crun x l = crun y l) : x = y := by
  induction l generalizing x y with
  | nil => exact h
  | cons a r ih =>
    have := cstepN_inj (ih h)
    have h2 : (x ^^^ BitVec.ofInt 32 a) ^^^ BitVec.ofInt 32 a = (y ^^^ BitVec.ofInt 32 a) ^^^ BitVec.ofInt 32 a := by rw [this]
    rwa [BitVec.xor_assoc, BitVec.xor_self, BitVec.xor_zero, BitVec.xor_assoc, BitVec.xor_self, BitVec.xor_zero] at h2
def word : List Int → Nat
  | [] => 0
  | a :: r => a.toNat + 256 * word r
theorem word_lt {l : List Int} (hl : ∀ x ∈ l, okU8 x) : word l < 256 ^ l.length := by
  induction l with
  | nil => decide
  | cons a r ih =>
    have ha := hl a (by simp)
    unfold okU8 at ha
    have := ih (fun x hx => hl x (by simp [hx]))
    simp only [word, List.length_cons, Nat.pow_succ]
    omega
/-- If at most four bytes lead to zero, then they were what they were led from. -/
theorem crun_zero {y : BitVec 32} {l : List Int} (hl : ∀ x ∈ l, okU8 x) (h4 : l.length ≤ 4) (h : crun y l = 0#32) : y = BitVec.ofNat 32 (word l) := by
  induction l generalizing y with
  | nil => exact h
  | cons a r ih =>
    have ha := hl a (by simp)
    have hr : ∀ x ∈ r, okU8 x := fun x hx => hl x (by simp [hx])
    simp only [List.length_cons] at h4
    have h1 := ih hr (by omega) h
    have hw := word_lt hr
    have hw2 : word r < 16777216 := Nat.lt_of_lt_of_le hw (Nat.pow_le_pow_right (n := 256) (by decide) (show r.length ≤ 3 by omega))
    rw [← cstepN_shl hw2] at h1
    have h2 := cstepN_inj h1
    have h3 : (y ^^^ BitVec.ofInt 32 a) ^^^ BitVec.ofInt 32 a = BitVec.ofNat 32 (256 * word r) ^^^ BitVec.ofInt 32 a := by rw [h2]
    rw [BitVec.xor_assoc, BitVec.xor_self, BitVec.xor_zero] at h3
    rw [h3]
    unfold okU8 at ha
    obtain ⟨m, rfl⟩ := Int.eq_ofNat_of_zero_le ha.1
    apply BitVec.eq_of_toNat_eq
    rw [BitVec.toNat_xor, ofInt_toNat (n := 32) (by omega), BitVec.toNat_ofNat, BitVec.toNat_ofNat, Nat.mod_eq_of_lt (by omega)]
    simp only [word, Int.toNat_natCast]
    rw [Nat.mod_eq_of_lt (by omega)]
    apply Nat.eq_of_testBit_eq
    intro i
    have t1 := Nat.testBit_two_pow_mul_add (word r) (b := 0) (i := 8) (by decide) i
    have t2 := Nat.testBit_two_pow_mul_add (word r) (b := m) (i := 8) (by omega) i
    have t3 : (256 * word r).testBit i = (2 ^ 8 * word r + 0).testBit i := rfl
    have t4 : (m + 256 * word r).testBit i = (2 ^ 8 * word r + m).testBit i := by rw [Nat.add_comm]
    rw [Nat.testBit_xor, t3, t4, t1, t2]
    split
    · simp
    · rename_i hi
      rw [Nat.testBit_lt_two_pow (x := m) (i := i) (Nat.lt_of_lt_of_le (show m < 2 ^ 8 by omega) (Nat.pow_le_pow_right (by decide) (by omega)))]
      simp
theorem word_zero {l : List Int} (hl : ∀ x ∈ l, okU8 x) (h : word l = 0) : ∀ x ∈ l, x = 0 := by
  induction l with
  | nil => simp
  | cons a r ih =>
    have ha := hl a (by simp)
    unfold okU8 at ha
    simp only [word] at h
    intro x hx
    rcases List.mem_cons.1 hx with rfl | hx
    · omega
    · exact ih (fun x hx => hl x (by simp [hx])) (by omega) x hx
/-- Two byte strings of one length, at most four, that lead from one state to one state are equal. -/
theorem crun_four {y : BitVec 32} {l m : List Int} (hlen : l.length = m.length) (h4 : l.length ≤ 4) (hl : ∀ x ∈ l, okU8 x) (hm : ∀ x ∈ m, okU8 x) (h : crun y l = crun y m) : ∀ x ∈ zipx l m, x = 0 := by
  have h1 : crun (y ^^^ y) (zipx l m) = 0#32 := by rw [crun_xor hlen hl hm, h, BitVec.xor_self]
  rw [BitVec.xor_self] at h1
  have hz := zipx_ok hl hm
  have hzl := zipx_len (l := l) (m := m) (by omega)
  have h2 := crun_zero hz (by omega) h1
  have hw := word_lt hz
  have hw2 : word (zipx l m) < 4294967296 := Nat.lt_of_lt_of_le hw (Nat.pow_le_pow_right (n := 256) (by decide) (show (zipx l m).length ≤ 4 by omega))
  have h3 := congrArg BitVec.toNat h2
  rw [BitVec.toNat_ofNat, BitVec.toNat_ofNat, Nat.mod_eq_of_lt (a := word _) hw2, Nat.zero_mod] at h3
  exact word_zero hz h3.symm
end Go.Ab
