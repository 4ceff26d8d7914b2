/- InternFull. -/
import Derived.Test.YtngjbadoekamcaaC06f
namespace Go.Ab
open Go
set_option linter.unusedVariables false

/-- The number that a word is for. -/
def unword (l : List Int) : Int := match l with
  | _ :: d :: r => r.foldl (fun n c => 10 * n + (c - 48)) (d - 48)
  | _ => -1
def wordS (i : Int) : List Int := (L06_word 200000 i).getD []
theorem words_ok : (List.range 1003).all (fun i => match L06_word 200000 (i : Int) with
  | some w => decide (unword w = (i : Int)) && decide (nameS w = 0)
  | none => false) = true := by decide +kernel
theorem word_eq {i : Nat} (h : i < 1003) : L06_word 200000 (i : Int) = some (wordS i) ∧ unword (wordS i) = i ∧ nameS (wordS i) = 0 := by
  have := List.all_eq_true.1 words_ok i (by simpa using h)
  unfold wordS
  cases hw : L06_word 200000 (i : Int) with
  | none => rw [hw] at this; cases this
  | some w => rw [hw] at this; simp at this; exact ⟨rfl, by simpa using this⟩
theorem word_inj {i j : Nat} (hi : i < 1003) (hj : j < 1003) (h : wordS (i : Int) = wordS (j : Int)) : i = j := by
  have h1 := (word_eq hi).2.1
  have h2 := (word_eq hj).2.1
  rw [h] at h1; omega
def wn (i : Nat) : List (List Int) := (List.range i).map fun (k : Nat) => wordS (k : Int)
def ws (i : Nat) : List Arr2_Int := (List.range i).map fun (k : Nat) => ⟨-1, (k : Int)⟩
theorem wn_len (i : Nat) : (wn i).length = i := by simp [wn]
theorem ws_len (i : Nat) : (ws i).length = i := by simp [ws]
theorem wn_succ (i : Nat) : wn (i + 1) = wn i ++ [wordS (i : Int)] := by simp [wn, List.range_succ]
theorem ws_succ (i : Nat) : ws (i + 1) = ws i ++ [⟨-1, (i : Int)⟩] := by simp [ws, List.range_succ]
theorem framesS_one {i : Nat} (h : i < 1003) : framesS [wordS (i : Int)] = 0 := framesS_zero.2 ⟨by simp, fun x hx => by simp at hx; rw [hx]; exact (word_eq h).2.2⟩
theorem find_new {i k : Nat} (h : i < 1003) (hk : k ≤ i) : findI (wordS (i : Int)) 0 (wn k) = -1 := by
  rcases findI_spec (wordS (i : Int)) (wn k) 0 with ⟨h1, _⟩ | ⟨j, h1, _⟩
  · exact h1
  · exfalso
    have hj := (List.getElem?_eq_some_iff.1 h1).1
    rw [wn_len] at hj
    simp [wn, hj] at h1
    have := word_inj (by omega) h h1
    omega
theorem find_newS {i : Nat} : findI (⟨-1, (i : Int)⟩ : Arr2_Int) 0 (ws i) = -1 := by
  rcases findI_spec (⟨-1, (i : Int)⟩ : Arr2_Int) (ws i) 0 with ⟨h1, _⟩ | ⟨j, h1, _⟩
  · exact h1
  · exfalso
    have hj := (List.getElem?_eq_some_iff.1 h1).1
    rw [ws_len] at hj
    simp [ws, hj] at h1
    omega
theorem put_new {i : Nat} (h : i < 1000) : putStackS (wn i) (ws i) [wordS (i : Int)] = ((i : Int), wn (i + 1), ws (i + 1), 0) := by
  unfold putStackS
  rw [framesS_one (by omega), if_neg (by decide)]
  have e : putS06 (wn i) (wordS (i : Int)) = ((i : Int), wn (i + 1), 0) := by
    unfold putS06
    rw [(word_eq (by omega)).2.2, if_neg (by decide), find_new (by omega) (Nat.le_refl _), if_neg (by decide), wn_len, if_neg (by omega), wn_succ]
  simp only [putL]
  rw [e]
  simp only
  rw [if_neg (by decide), find_newS, if_neg (by decide), ws_len, if_neg (by omega), ws_succ]
theorem put_full {i : Nat} (h : 1000 ≤ i) (h2 : i < 1003) : putStackS (wn 1000) (ws 1000) [wordS (i : Int)] = (0, wn 1000, ws 1000, 6) := by
  unfold putStackS
  rw [framesS_one h2, if_neg (by decide)]
  have e : putS06 (wn 1000) (wordS (i : Int)) = (0, wn 1000, 6) := by
    unfold putS06
    rw [(word_eq h2).2.2, if_neg (by decide), find_new h2 h, if_neg (by decide), wn_len, if_pos (by omega)]
  simp only [putL]
  rw [e]
  simp only
  rw [if_pos (by decide)]
theorem put_old {i : Nat} (h : 5 < i) (h2 : i ≤ 1000) : putStackS (wn i) (ws i) [wordS 5] = (5, wn i, ws i, 0) := by
  unfold putStackS
  have hw : (5 : Int) = ((5 : Nat) : Int) := rfl
  rw [hw, framesS_one (i := 5) (by omega), if_neg (by decide)]
  have e : putS06 (wn i) (wordS ((5 : Nat) : Int)) = (((5 : Nat) : Int), wn i, 0) := by
    unfold putS06
    rw [(word_eq (i := 5) (by omega)).2.2, if_neg (by decide), findI_of (a := 5) ?_ (by simp [wn, h]), if_pos (by decide)]
    intro a b ha hb
    have la := (List.getElem?_eq_some_iff.1 ha).1
    have lb := (List.getElem?_eq_some_iff.1 hb).1
    rw [wn_len] at la lb
    simp only [wn, List.getElem?_map, List.getElem?_range la, Option.map_some, Option.some.injEq] at ha
    simp only [wn, List.getElem?_map, List.getElem?_range lb, Option.map_some, Option.some.injEq] at hb
    have := word_inj (by omega) (by omega) (ha.trans hb.symm)
    exact this
  simp only [putL]
  rw [e]
  simp only
  rw [if_neg (by decide), findI_of (a := 5) ?_ (by simp [ws, h]), if_pos (by decide)]
  intro a b ha hb
  have la := (List.getElem?_eq_some_iff.1 ha).1
  have lb := (List.getElem?_eq_some_iff.1 hb).1
  rw [ws_len] at la lb
  simp [ws, la] at ha
  simp [ws, lb] at hb
  omega
theorem full_loop {k : Int} {c : Nat} (hc : w_i64 ((997 : Int) + (w_i64 (irem k (7 : Int)))) = (c : Int)) (h1 : c ≤ 1003) : ∀ (n i : Nat), i ≤ c → c - i < n →
    L06_InternFull_L1 200000 k n (wn (min i 1000)) (ws (min i 1000)) (i : Int) = some (.inl (wn (min c 1000), ws (min c 1000))) := by
  intro n
  induction n with
  | zero => intro i _ h; omega
  | succ n ih =>
    intro i hi hn
    show L06_InternFull_L1_body _ _ _ _ _ _ = _
    unfold L06_InternFull_L1_body
    rw [hc]
    by_cases hic : i = c
    · subst hic; rw [dec_f (by omega), cond_false]
    rw [dec_t (by omega), cond_true, (word_eq (by omega)).1, Option.bind_some, intern_PutStack_eq (by rw [wn_len]; omega) (by rw [ws_len]; omega), Option.bind_some]
    have := ih (i + 1) (by omega) (by omega)
    by_cases hf : 1000 ≤ i
    · rw [Nat.min_eq_right hf] 
      rw [Nat.min_eq_right (show 1000 ≤ i + 1 by omega)] at this
      rw [put_full hf (by omega)]
      simp (disch := omega) only [dec_t, bne_f, BEq.rfl, Bool.or_self, Bool.not_true, Bool.or_false, cond_false, Bool.and_false, step64, this]
    · rw [Nat.min_eq_left (show i ≤ 1000 by omega)]
      rw [Nat.min_eq_left (show i + 1 ≤ 1000 by omega)] at this
      rw [put_new (by omega)]
      simp (disch := omega) only [dec_f, bne_f, Bool.or_self, Bool.false_and, step64, this]
      rfl
theorem L06_InternFull_plain : ∀ (a0 : Int), okU8 a0 → ∃ F, L06_InternFull F a0 = some true := by
  intro k hk
  refine ⟨200000, ?_⟩
  have hk0 : 0 ≤ k ∧ k ≤ 255 := by unfold okU8 at hk; omega
  obtain ⟨c, hc⟩ := Int.eq_ofNat_of_zero_le (show 0 ≤ 997 + k % 7 by omega)
  have hce : w_i64 ((997 : Int) + (w_i64 (irem k (7 : Int)))) = (c : Int) := by
    rw [irem_mod hk0.1, w64 (x := k % 7) (by omega) (by omega), w64 (by omega) (by omega), hc]
  unfold L06_InternFull
  have := full_loop hce (by omega) 200000 0 (by omega) (by omega)
  rw [show L06_InternFull_L1 200000 k 200000 [] [] 0 = _ from this, Option.bind_some]
  simp only
  have h5 := word_eq (i := 5) (by omega)
  rw [show L06_word 200000 (5 : Int) = some (wordS 5) from h5.1, Option.bind_some, intern_PutStack_eq (by rw [wn_len]; omega) (by rw [ws_len]; omega), Option.bind_some, put_old (by omega) (by omega), hce]
  simp only [BEq.rfl, cond_true, wn_len]
  have hm : (((min c 1000 : Nat) : Int) == imin (c : Int) 1000) = true := by
    unfold imin; simp; omega
  rw [hm]
  simp only [cond_true, awake06, Option.bind_some]
end Go.Ab
