/- Codec: the plain laws of the sum. -/
import Derived.Test.YtbmhiadpagpjmaaC05d
namespace Go.Ab
open Go
set_option linter.unusedVariables false

def xtake : List Int → List Int → List Int
  | [], _ => []
  | d :: D, [] => d :: D
  | d :: D, x :: B => ixor .u8 d x :: xtake D B
def xany : List Int → List Int → Bool
  | _ :: D, x :: B => x != 0 || xany D B
  | _, _ => false

theorem lChanges_loop {F : Nat} {b : List Int} {m : Nat} {B : Arr4_Int} (hl : b.length ≤ 300) (hm : m < 300) : ∀ (n i : Nat) (v : Bool) (P : List Int), P.length = m + i → 4 - i < n → i ≤ 4 →
    lChanges_L1 F b m B n v i (P ++ b.drop (m + i)) = some (v || xany (b.drop (m + i)) ([B.c0, B.c1, B.c2, B.c3].drop i), P ++ xtake (b.drop (m + i)) ([B.c0, B.c1, B.c2, B.c3].drop i)) := by
  intro n
  induction n with
  | zero => intro i v P _ h; omega
  | succ n ih =>
    intro i v P hP hn hi
    show lChanges_L1_body F b m B (lChanges_L1 F b m B n) v i (P ++ b.drop (m + i)) = _
    unfold lChanges_L1_body
    have ew : w_i64 ((m : Int) + (i : Int)) = ((m + i : Nat) : Int) := by rw [w64 (by omega) (by omega)]; omega
    have ew2 : w_i64 ((i : Int) + 1) = ((i + 1 : Nat) : Int) := by rw [w64 (by omega) (by omega)]; omega
    simp only [ew, ew2, Int.toNat_natCast, idxL_nat]
    generalize hL : [B.c0, B.c1, B.c2, B.c3] = L at *
    have hLl : L.length = 4 := by rw [← hL]; rfl
    rcases hd : b.drop (m + i) with _ | ⟨d, D⟩
    · have := drop_nil hd
      rw [dec_f (p := ((m + i : Nat) : Int) < (b.length : Int)) (by omega), Bool.and_false, cond_false]
      simp [xany, xtake]
    · have hlt := drop_lt hd
      rcases hB : L.drop i with _ | ⟨x, X⟩
      · have := drop_nil hB
        rw [dec_f (p := (i : Int) < 4) (by omega), Bool.false_and, cond_false]
        simp [xany, xtake]
      · have hlt2 := drop_lt hB
        have g1 : b[m + i]? = some d := by rw [← idxL_nat]; exact idxL_drop hd
        have g2 : L[i]? = some x := by rw [← idxL_nat]; exact idxL_drop hB
        have g3 : (P ++ d :: D)[m + i]? = some d := by rw [← hP]; exact get_mid _ _ _
        rw [dec_t (p := (i : Int) < 4) (by omega), dec_t (p := ((m + i : Nat) : Int) < (b.length : Int)) (by omega), Bool.and_true, cond_true, g1, Option.bind_some, need_t (by omega), Option.bind_some, g2, Option.bind_some, g3, Option.bind_some]
        have e1 : (bif v then (some true) else ((some ()).bind fun _ => (some x).bind fun x_4 => some (x_4 != (0 : Int)))) = some (v || x != 0) := by cases v <;> rfl
        rw [e1, Option.bind_some]
        have e2 : (P ++ d :: D).set (m + i) (ixor .u8 d x) = (P ++ [ixor .u8 d x]) ++ b.drop (m + (i + 1)) := by
          rw [← hP, set_mid, ← Nat.add_assoc, drop_step hd]; simp
        rw [e2, ih (i + 1) _ _ (by simp; omega) (by omega) (by omega), ← Nat.add_assoc, drop_step hd, drop_step hB]
        simp [xany, xtake, Bool.or_assoc]

theorem xtake_split (D L : List Int) : xtake D L = zipx (D.take L.length) L ++ D.drop L.length := by
  induction L generalizing D with
  | nil => cases D <;> simp [xtake, zipx]
  | cons x X ih =>
    cases D with
    | nil => simp [xtake, zipx]
    | cons d D => simp [xtake, zipx, ih]
theorem ixor8_zero {a : Int} (h : okU8 a) : ixor .u8 a 0 = a := by
  unfold okU8 at h
  obtain ⟨n, rfl⟩ := Int.eq_ofNat_of_zero_le h.1
  rw [show (0 : Int) = ((0 : Nat) : Int) from rfl, ixor_nat (k := .u8) (show n < 2 ^ 8 by omega) (show 0 < 2 ^ 8 by omega)]
  simp
theorem ixor8_back {a b : Int} (ha : okU8 a) (hb : okU8 b) (h : ixor .u8 a (ixor .u8 a b) = 0) : b = 0 := by
  unfold okU8 at ha hb
  obtain ⟨m, rfl⟩ := Int.eq_ofNat_of_zero_le ha.1
  obtain ⟨n, rfl⟩ := Int.eq_ofNat_of_zero_le hb.1
  have hm : m < 2 ^ 8 := by omega
  have hn : n < 2 ^ 8 := by omega
  rw [ixor_nat (k := .u8) hm hn, ixor_nat (k := .u8) hm (Nat.xor_lt_two_pow hm hn), ← Nat.xor_assoc, Nat.xor_self, Nat.zero_xor] at h
  exact h
theorem xtake_same {D L : List Int} (hD : ∀ x ∈ D, okU8 x) (h : xany D L = false) : xtake D L = D := by
  induction L generalizing D with
  | nil => cases D <;> rfl
  | cons x X ih =>
    cases D with
    | nil => rfl
    | cons d D =>
      simp only [xany, Bool.or_eq_false_iff, bne_eq_false_iff_eq] at h
      simp only [xtake]
      rw [h.1, ixor8_zero (hD d (by simp)), ih (fun y hy => hD y (by simp [hy])) h.2]
theorem xany_none {D L : List Int} (hD : ∀ x ∈ D, okU8 x) (hL : ∀ x ∈ L, okU8 x) (h : ∀ x ∈ zipx (D.take L.length) (zipx (D.take L.length) L), x = 0) : xany D L = false := by
  induction L generalizing D with
  | nil => cases D <;> rfl
  | cons x X ih =>
    cases D with
    | nil => rfl
    | cons d D =>
      simp only [List.length_cons, List.take_succ_cons, zipx, List.mem_cons, forall_eq_or_imp] at h
      simp only [xany, Bool.or_eq_false_iff, bne_eq_false_iff_eq]
      exact ⟨ixor8_back (hD d (by simp)) (hL x (by simp)) h.1, ih (fun y hy => hD y (by simp [hy])) (fun y hy => hL y (by simp [hy])) h.2⟩

theorem crun_xtake {y : BitVec 32} {D L : List Int} (hD : ∀ x ∈ D, okU8 x) (hL : ∀ x ∈ L, okU8 x) (h4 : L.length ≤ 4) : (crun y D = crun y (xtake D L)) ↔ xany D L = false := by
  constructor
  · intro h
    have e : D = D.take L.length ++ D.drop L.length := (List.take_append_drop _ _).symm
    rw [xtake_split, crun_app] at h
    have h1 : crun (crun y (D.take L.length)) (D.drop L.length) = crun (crun y (zipx (D.take L.length) L)) (D.drop L.length) := by rw [← crun_app, ← e]; exact h
    have h2 := crun_inj h1
    have hT : ∀ x ∈ D.take L.length, okU8 x := fun x hx => hD x (List.mem_of_mem_take hx)
    refine xany_none hD hL (crun_four ?_ (by simp; omega) hT (zipx_ok hT hL) h2)
    rw [zipx_len]; simp; omega
  · intro h
    rw [xtake_same hD h]
theorem xor_right {x y z : BitVec 32} (h : x ^^^ z = y ^^^ z) : x = y := by
  have h2 : (x ^^^ z) ^^^ z = (y ^^^ z) ^^^ z := by rw [h]
  rwa [BitVec.xor_assoc, BitVec.xor_self, BitVec.xor_zero, BitVec.xor_assoc, BitVec.xor_self, BitVec.xor_zero] at h2

theorem lChanges_plain : ∀ (a0 : List Int) (a1 : Int) (a2 : Arr4_Int), (okSl okU8) a0 → okI64 a1 → (okU8 a2.c0 ∧ okU8 a2.c1 ∧ okU8 a2.c2 ∧ okU8 a2.c3) → ∃ F, lChanges F a0 a1 a2 = some true := by
  intro b at_ B h0 h1 hB
  refine ⟨1000, ?_⟩
  unfold lChanges
  by_cases hl : (b.length : Int) > 300 ∨ at_ < 0 ∨ at_ ≥ (b.length : Int)
  · rw [show (decide ((b.length : Int) > 300) || (decide (at_ < 0) || decide (at_ ≥ (b.length : Int)))) = true by simpa using hl, cond_true, lives_true]; rfl
  rw [show (decide ((b.length : Int) > 300) || (decide (at_ < 0) || decide (at_ ≥ (b.length : Int)))) = false by
    rw [dec_f (by omega), dec_f (by omega), dec_f (by omega)]; rfl, cond_false]
  obtain ⟨m, rfl⟩ := Int.eq_ofNat_of_zero_le (show 0 ≤ at_ by omega)
  have n1 : (([] : List Int).length + b.length) * 1 ≤ 140737488355328 := by simp only [List.length_nil]; omega
  rw [need_t n1, Option.bind_some, List.nil_append]
  have hlp := lChanges_loop (F := 1000) (b := b) (m := m) (B := B) (by omega) (by omega) 1000 0 false (b.take m) (by simp; omega) (by omega) (by omega)
  rw [Nat.add_zero, List.take_append_drop, List.drop_zero, Bool.false_or] at hlp
  have hbm : ∀ x ∈ b.drop m, okU8 x := fun x hx => h0.1 x (List.mem_of_mem_drop hx)
  have hLok : ∀ x ∈ [B.c0, B.c1, B.c2, B.c3], okU8 x := by
    intro x hx
    simp only [List.mem_cons, List.not_mem_nil, or_false] at hx
    rcases hx with rfl | rfl | rfl | rfl
    · exact hB.1
    · exact hB.2.1
    · exact hB.2.2.1
    · exact hB.2.2.2
  have hk := crun_xtake (y := crun (BitVec.allOnes 32) (b.take m)) hbm hLok (Nat.le_refl 4)
  have hxo : ∀ x ∈ xtake (b.drop m) [B.c0, B.c1, B.c2, B.c3], okU8 x := by
    rw [xtake_split]
    exact ok_app (zipx_ok (fun x hx => hbm x (List.mem_of_mem_take hx)) hLok) (fun x hx => hbm x (List.mem_of_mem_drop hx))
  have hxl : (xtake (b.drop m) [B.c0, B.c1, B.c2, B.c3]).length ≤ b.length := by
    rw [xtake_split, List.length_append, zipx_len]
    · simp; omega
    · simp; omega
  generalize [B.c0, B.c1, B.c2, B.c3] = L at *
  rw [show lChanges_L1 1000 b m B 1000 false 0 b = _ from hlp, Option.bind_some]
  simp only
  rw [cSum_eq h0.1 (by omega) (by omega) (by omega), Option.bind_some, cSum_eq (ok_app (fun x hx => h0.1 x (List.mem_of_mem_take hx)) hxo) (by simp; omega) (by omega) (by simp; omega), Option.bind_some]
  have hr := i32_range (csum b)
  have hs : (csum b = csum (b.take m ++ xtake (b.drop m) L)) ↔ xany (b.drop m) L = false := by
    rw [← hk]
    unfold csum
    rw [crun_app]
    constructor
    · intro h
      have := xor_right h
      rwa [← crun_app, List.take_append_drop]
    · intro h
      rw [← h, ← crun_app, List.take_append_drop]
  have e : ((i32 (csum b) != i32 (csum (b.take m ++ xtake (b.drop m) L))) == xany (b.drop m) L) = true := by
    cases hx : xany (b.drop m) L
    · rw [bne_f (by rw [hs.2 hx])]; rfl
    · have : i32 (csum b) ≠ i32 (csum (b.take m ++ xtake (b.drop m) L)) := fun h => by
        have := hs.1 (i32_inj h)
        rw [hx] at this; cases this
      rw [bne_t this]; rfl
  rw [e, cond_true, dec_t (by omega), cond_true, dec_t (by omega), cond_true, lives_true]; rfl

theorem lLinear_loop {F : Nat} {a b c : List Int} (hl : a.length ≤ 300) (hb : a.length ≤ b.length) (hc : a.length ≤ c.length) : ∀ (n i : Nat) (P : List Int), P.length = i → (a.drop i).length < n →
    lLinear_L1 F a b c n i (P ++ a.drop i) = some (P ++ zipx (zipx (a.drop i) (b.drop i)) (c.drop i)) := by
  intro n
  induction n with
  | zero => intro i P _ h; omega
  | succ n ih =>
    intro i P hP hn
    show lLinear_L1_body F a b c (lLinear_L1 F a b c n) i (P ++ a.drop i) = _
    unfold lLinear_L1_body
    rcases hd : a.drop i with _ | ⟨x, X⟩
    · have := drop_nil hd
      rw [dec_f (by omega), cond_false]; simp [zipx]
    · have hlt := drop_lt hd
      rcases hd2 : b.drop i with _ | ⟨y, Y⟩
      · have := drop_nil hd2; omega
      rcases hd3 : c.drop i with _ | ⟨z, Z⟩
      · have := drop_nil hd3; omega
      rw [hd] at hn; simp only [List.length_cons] at hn
      have ew2 : w_i64 ((i : Int) + 1) = ((i + 1 : Nat) : Int) := by rw [w64 (by omega) (by omega)]; omega
      have g3 : (P ++ x :: X)[i]? = some x := by rw [← hP]; exact get_mid _ _ _
      rw [dec_t (by omega), cond_true, idxL_drop hd, Option.bind_some, idxL_drop hd2, Option.bind_some, idxL_drop hd3, Option.bind_some, idxL_nat, g3, Option.bind_some, ew2, Int.toNat_natCast]
      have e2 : (P ++ x :: X).set i (ixor .u8 (ixor .u8 x y) z) = (P ++ [ixor .u8 (ixor .u8 x y) z]) ++ a.drop (i + 1) := by
        rw [← hP, set_mid, hP, drop_step hd]; simp
      rw [e2, ih (i + 1) _ (by simp; omega) (by rw [drop_step hd]; omega), drop_step hd, drop_step hd2, drop_step hd3]
      simp [zipx]
theorem zipx_take (l m : List Int) : zipx l m = zipx l (m.take l.length) := by
  induction l generalizing m with
  | nil => simp [zipx]
  | cons a r ih =>
    cases m with
    | nil => simp [zipx]
    | cons b s => simp only [zipx, List.length_cons, List.take_succ_cons]; rw [← ih]

theorem lLinear_plain : ∀ (a0 a1 a2 : List Int), (okSl okU8) a0 → (okSl okU8) a1 → (okSl okU8) a2 → ∃ F, lLinear F a0 a1 a2 = some true := by
  intro a b c h0 h1 h2
  refine ⟨1000, ?_⟩
  unfold lLinear
  by_cases hl : (a.length : Int) > 300 ∨ (b.length : Int) < (a.length : Int) ∨ (c.length : Int) < (a.length : Int)
  · rw [show (decide ((a.length : Int) > 300) || (decide ((b.length : Int) < (a.length : Int)) || decide ((c.length : Int) < (a.length : Int)))) = true by simpa using hl, cond_true, lives_true]; rfl
  rw [show (decide ((a.length : Int) > 300) || (decide ((b.length : Int) < (a.length : Int)) || decide ((c.length : Int) < (a.length : Int)))) = false by
    rw [dec_f (by omega), dec_f (by omega), dec_f (by omega)]; rfl, cond_false]
  have n1 : (([] : List Int).length + a.length) * 1 ≤ 140737488355328 := by simp only [List.length_nil]; omega
  rw [need_t n1, Option.bind_some, List.nil_append]
  have hlp := lLinear_loop (F := 1000) (a := a) (b := b) (c := c) (by omega) (by omega) (by omega) 1000 0 [] rfl (by simp; omega)
  simp only [List.drop_zero, List.nil_append] at hlp
  rw [zipx_take (zipx a b), zipx_len (by omega), zipx_take a b] at hlp
  have e1 : sub b 0 (a.length : Int) = b.take a.length := by simp [sub]
  have e2 : sub c 0 (a.length : Int) = c.take a.length := by simp [sub]
  have o1 : ∀ x ∈ b.take a.length, okU8 x := fun x hx => h1.1 x (List.mem_of_mem_take hx)
  have o2 : ∀ x ∈ c.take a.length, okU8 x := fun x hx => h2.1 x (List.mem_of_mem_take hx)
  have l1 : (b.take a.length).length = a.length := by simp; omega
  have l2 : (c.take a.length).length = a.length := by simp; omega
  rw [show lLinear_L1 1000 a b c 1000 0 a = _ from hlp, Option.bind_some, e1, e2]
  generalize b.take a.length = b' at *
  generalize c.take a.length = c' at *
  have z1 := zipx_ok h0.1 o1
  have zl : (zipx a b').length = a.length := zipx_len (by omega)
  have zl2 : (zipx (zipx a b') c').length = a.length := by rw [zipx_len (by omega), zl]
  rw [cSum_eq (zipx_ok z1 o2) (by omega) (by omega) (by omega), Option.bind_some, cSum_eq h0.1 (by omega) (by omega) (by omega), Option.bind_some, need_t (by omega), Option.bind_some, cSum_eq o1 (by omega) (by omega) (by omega), Option.bind_some, need_t (by omega), Option.bind_some, cSum_eq o2 (by omega) (by omega) (by omega), Option.bind_some,
    i32_xor64, i32_xor64]
  have key : csum (zipx (zipx a b') c') = (csum a ^^^ csum b') ^^^ csum c' := by
    unfold csum
    have h1 := crun_xor (x := BitVec.allOnes 32 ^^^ BitVec.allOnes 32) (y := BitVec.allOnes 32) (l := zipx a b') (m := c') (by omega) z1 o2
    rw [crun_xor (by omega) h0.1 o1, BitVec.xor_self, BitVec.zero_xor] at h1
    rw [h1]
    generalize crun (BitVec.allOnes 32) a = p
    generalize crun (BitVec.allOnes 32) b' = q
    generalize crun (BitVec.allOnes 32) c' = r
    generalize BitVec.allOnes 32 = o
    apply BitVec.eq_of_getLsbD_eq
    intro i _
    simp only [BitVec.getLsbD_xor]
    cases p.getLsbD i <;> cases q.getLsbD i <;> cases r.getLsbD i <;> cases o.getLsbD i <;> rfl
  rw [key, BEq.rfl, cond_true, lives_true]; rfl
end Go.Ab
