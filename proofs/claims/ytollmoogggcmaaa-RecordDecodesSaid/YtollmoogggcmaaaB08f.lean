/- Plain laws of the functions below this seat's, laid anew from another seat's text. No conditions but those that the theorems name. -/
import Derived.Test.YtollmoogggcmaaaP08xD
import Derived.Test.YtollmoogggcmaaaB08a
import Derived.Test.YtollmoogggcmaaaB08b
import Derived.Test.YtollmoogggcmaaaB08c
import Derived.Test.YtollmoogggcmaaaB08d
import Derived.Test.YtollmoogggcmaaaB08e
namespace Go.Ab
open Go
set_option linter.unusedVariables false
def numO (c : Bool) (d : Int) (b : List Int) (u f : Int) : Int × Int × Int := if c then numF b u f else (d, u, f)
def ev0 : T_api_Event := ⟨0, 0, [], 0, 0, []⟩
def decK (b : List Int) : Int × Int × Int := numF b 0 0
def decA (b : List Int) : Int × Int × Int := numF b (decK b).2.1 (decK b).2.2
def decF (b : List Int) : Int := if (decA b).2.2 = 0 ∧ ((decK b).1 < 1 ∨ (decK b).1 > 12) then 10 else (decA b).2.2
def decNm (b : List Int) : Int × Int × Int := numO (useName (decK b).1) 0 b (decA b).2.1 (decF b)
def decN (b : List Int) : Int × Int × Int := numO (useN (decK b).1) 0 b (decNm b).2.1 (decNm b).2.2
def decM (b : List Int) : Int × Int × Int := numO (useM (decK b).1) 0 b (decN b).2.1 (decN b).2.2
def decSt (b : List Int) : Int × Int × Int := numO (useStack (decK b).1) (-1) b (decM b).2.1 (decM b).2.2
def decE (names : List (List Int)) (stacks : List Arr2_Int) (b : List Int) : T_api_Event :=
  ⟨(decA b).1, (decK b).1, if useName (decK b).1 then (names[(decNm b).1.toNat]?).getD [] else [], (decN b).1, (decM b).1, (stackV names stacks (decSt b).1).1⟩
def decS (names : List (List Int)) (stacks : List Arr2_Int) (b : List Int) : T_api_Event × Int × Int :=
  if checkS names stacks ≠ 0 then (ev0, 0, 1) else
  if (decSt b).2.2 ≠ 0 then (ev0, 0, (decSt b).2.2) else
  if useName (decK b).1 = true ∧ ((decNm b).1 < 0 ∨ (decNm b).1 ≥ names.length) then (ev0, 0, 2) else
  if (decSt b).1 < -1 ∨ (decSt b).1 ≥ stacks.length then (ev0, 0, 2) else
  if evS (decE names stacks b) ≠ 0 then (ev0, 0, 10) else (decE names stacks b, (decSt b).2.1, 0)
theorem numO_range {c : Bool} {d : Int} {b : List Int} {u f : Int} (hb : ∀ x ∈ b, okU8 x) (h0 : 0 ≤ u) (h1 : u ≤ b.length) : u ≤ (numO c d b u f).2.1 ∧ (numO c d b u f).2.1 ≤ b.length := by
  unfold numO
  split
  · exact ⟨(numF_range hb h0 h1).2.1, (numF_range hb h0 h1).2.2.1⟩
  · exact ⟨Int.le_refl _, h1⟩
theorem numF_fault {b : List Int} {u f : Int} (h : f ≠ 0) : numF b u f = (0, u, f) := if_pos h
theorem numO_fault {c : Bool} {d : Int} {b : List Int} {u f : Int} (h : f ≠ 0) : (numO c d b u f).2.2 = f := by
  unfold numO; split
  · rw [numF_fault h]
  · rfl
theorem dec_ranges {b : List Int} (hb : ∀ x ∈ b, okU8 x) :
    (0 ≤ (decK b).2.1 ∧ (decK b).2.1 ≤ b.length) ∧ (0 ≤ (decA b).2.1 ∧ (decA b).2.1 ≤ b.length) ∧ (0 ≤ (decNm b).2.1 ∧ (decNm b).2.1 ≤ b.length) ∧ (0 ≤ (decN b).2.1 ∧ (decN b).2.1 ≤ b.length) ∧ (0 ≤ (decM b).2.1 ∧ (decM b).2.1 ≤ b.length) ∧ (0 ≤ (decSt b).2.1 ∧ (decSt b).2.1 ≤ b.length) := by
  have k := numF_range (u := 0) (f := 0) hb (by omega) (by omega)
  have a := numF_range (u := (decK b).2.1) (f := (decK b).2.2) hb (by unfold decK; omega) (by unfold decK; omega)
  have n1 : _ := numO_range (c := useName (decK b).1) (d := 0) (u := (decA b).2.1) (f := decF b) hb (by unfold decA; have := k.2; unfold decK at *; omega) (by unfold decA; omega)
  have ha : 0 ≤ (decA b).2.1 := by unfold decA; have := k.2.1; unfold decK at *; omega
  have n2 := numO_range (c := useN (decK b).1) (d := 0) (u := (decNm b).2.1) (f := (decNm b).2.2) hb (by unfold decNm; omega) (by unfold decNm; omega)
  have h2 : 0 ≤ (decNm b).2.1 := by unfold decNm; omega
  have n3 := numO_range (c := useM (decK b).1) (d := 0) (u := (decN b).2.1) (f := (decN b).2.2) hb (by unfold decN; omega) (by unfold decN; omega)
  have h3 : 0 ≤ (decN b).2.1 := by unfold decN; omega
  have n4 := numO_range (c := useStack (decK b).1) (d := -1) (u := (decM b).2.1) (f := (decM b).2.2) hb (by unfold decM; omega) (by unfold decM; omega)
  have h4 : 0 ≤ (decM b).2.1 := by unfold decM; omega
  exact ⟨⟨k.2.1, k.2.2.1⟩, ⟨ha, a.2.2.1⟩, ⟨h2, n1.2⟩, ⟨h3, n2.2⟩, ⟨h4, n3.2⟩, ⟨by unfold decSt; omega, n4.2⟩⟩
theorem record_Decode_eq {names : List (List Int)} {stacks : List Arr2_Int} {b : List Int} (hb : ∀ x ∈ b, okU8 x) (hl : b.length ≤ 100000) : record_Decode 200000 names stacks b = some (decS names stacks b) := by
  unfold record_Decode decS
  rw [intern_Check_eq, Option.bind_some]
  by_cases hc : checkS names stacks ≠ 0
  · rw [bne_t hc, if_pos hc]; rfl
  rw [bne_f (by omega), cond_false, if_neg hc]
  obtain ⟨⟨k0, k1⟩, ⟨a0, a1⟩, ⟨m0, m1⟩, ⟨n0, n1⟩, ⟨p0, p1⟩, _⟩ := dec_ranges hb
  rw [record_input_num_eq hb hl (by omega) (by omega), Option.bind_some]
  show (record_input_num 200000 ⟨b, (decK b).2.1, (decK b).2.2⟩).bind _ = _
  rw [record_input_num_eq hb hl k0 k1, Option.bind_some]
  have hf : (((bif (((decA b).2.2 == (0 : Int)) && (decide ((decK b).1 < (1 : Int)) || decide ((decK b).1 > (12 : Int)))) then some (10 : Int) else some (decA b).2.2) : Option Int)) = some (decF b) := by
    unfold decF
    by_cases h1 : (decA b).2.2 = 0
    · by_cases h2 : (decK b).1 < 1 ∨ (decK b).1 > 12
      · rw [if_pos ⟨h1, h2⟩, or_t h2, h1]; rfl
      · rw [if_neg (fun h => h2 h.2), or_f h2, h1]; rfl
    · rw [if_neg (fun h => h1 h.1), show ((decA b).2.2 == (0 : Int)) = false by simpa using h1]; rfl
  refine (congrArg (fun o => Option.bind o _) hf).trans ?_
  rw [Option.bind_some]
  show (some (useName (decK b).1, useN (decK b).1, useM (decK b).1, useStack (decK b).1)).bind _ = _
  rw [Option.bind_some]
  have hA : ∀ (c : Bool) (d u f : Int), 0 ≤ u → u ≤ b.length → (bif c then (record_input_num 200000 (⟨b, u, f⟩ : T_record_input)).bind (fun r_5 => some (r_5.1, r_5.2.b, r_5.2.used, r_5.2.fault)) else some (d, b, u, f)) = some ((numO c d b u f).1, b, (numO c d b u f).2.1, (numO c d b u f).2.2) := by
    intro c d u f h0 h1
    cases c
    · rfl
    · rw [cond_true, record_input_num_eq hb hl h0 h1, Option.bind_some]; rfl
  have hB : ∀ (c : Bool) (d u f : Int), 0 ≤ u → u ≤ b.length → (bif c then (record_input_num 200000 (⟨b, u, f⟩ : T_record_input)).bind (fun r_5 => some (r_5.2.b, r_5.2.used, r_5.2.fault, r_5.1)) else some (b, u, f, d)) = some (b, (numO c d b u f).2.1, (numO c d b u f).2.2, (numO c d b u f).1) := by
    intro c d u f h0 h1
    cases c
    · rfl
    · rw [cond_true, record_input_num_eq hb hl h0 h1, Option.bind_some]; rfl
  refine (congrArg (fun o => Option.bind o _) (hA (useName (decK b).1) 0 (decA b).2.1 (decF b) a0 a1)).trans ?_
  rw [Option.bind_some]
  refine (congrArg (fun o => Option.bind o _) (hB (useN (decK b).1) 0 (decNm b).2.1 (decNm b).2.2 m0 m1)).trans ?_
  rw [Option.bind_some]
  refine (congrArg (fun o => Option.bind o _) (hB (useM (decK b).1) 0 (decN b).2.1 (decN b).2.2 n0 n1)).trans ?_
  rw [Option.bind_some]
  refine (congrArg (fun o => Option.bind o _) (hA (useStack (decK b).1) (-1) (decM b).2.1 (decM b).2.2 p0 p1)).trans ?_
  rw [Option.bind_some]
  show (Option.bind (bif ((decSt b).2.2 != 0) then _ else (bif (useName (decK b).1 && (decide ((decNm b).1 < 0) || decide ((decNm b).1 ≥ names.length))) then _ else (bif (decide ((decSt b).1 < -1) || decide ((decSt b).1 ≥ stacks.length)) then _ else _))) _) = _
  by_cases h1 : (decSt b).2.2 ≠ 0
  · rw [bne_t h1, if_pos h1]; rfl
  rw [bne_f (by omega), cond_false, if_neg h1]
  by_cases h2 : useName (decK b).1 = true ∧ ((decNm b).1 < 0 ∨ (decNm b).1 ≥ names.length)
  · rw [if_pos h2, h2.1, or_t h2.2]; rfl
  rw [if_neg h2, show (useName (decK b).1 && (decide ((decNm b).1 < 0) || decide ((decNm b).1 ≥ names.length))) = false by
    cases hu : useName (decK b).1
    · rfl
    · rw [Bool.true_and]; exact or_f (fun h => h2 ⟨hu, h⟩)]
  rw [cond_false]
  by_cases h3 : (decSt b).1 < -1 ∨ (decSt b).1 ≥ stacks.length
  · rw [if_pos h3, or_t h3]; rfl
  rw [if_neg h3, or_f h3, cond_false, Option.bind_some]
  have hn : (((bif useName (decK b).1 then (idxL names (decNm b).1).bind fun x_1 => some x_1 else some ([] : List Int)) : Option (List Int))) = some (if useName (decK b).1 then (names[(decNm b).1.toNat]?).getD [] else []) := by
    cases hu : useName (decK b).1
    · rfl
    · rw [hu] at h2
      simp only [true_and] at h2
      rw [cond_true, idxL_at (by omega), List.getElem?_eq_getElem (by omega)]; rfl
  refine (congrArg (fun o => Option.bind o _) hn).trans ?_
  rw [Option.bind_some]
  show ((intern_Stack 200000 names stacks (decSt b).1).bind _) = _
  rw [intern_Stack_eq, Option.bind_some]
  show ((event_Check 200000 (decE names stacks b)).bind _) = _
  rw [event_Check_eq, Option.bind_some]
  by_cases h4 : evS (decE names stacks b) ≠ 0
  · rw [bne_t h4, if_pos h4]; rfl
  · rw [bne_f (by omega), if_neg h4]; rfl
theorem bind_to {α β : Type} {A : Option α} {f : α → Option β} {r : Option β} (x : α) (h : A = some x) (hr : f x = r) : A.bind f = r := by rw [h]; exact hr
def rdN (b : List Int) : Nat → Int → List Int → (Int × List Int) ⊕ Int
  | 0, u, row => .inl (u, row)
  | k + 1, u, row => if (numF b u 0).2.2 ≠ 0 then .inr (numF b u 0).2.2 else rdN b k (numF b u 0).2.1 (row ++ [(numF b u 0).1])
def intsV (o : (Int × List Int) ⊕ Int) : List Int × Int × Int := match o with | .inl q => (q.2, q.1, 0) | .inr e => ([], 0, e)
def intsR (o : (Int × List Int) ⊕ Int) : (Int × List Int) ⊕ (List Int × Int × Int) := match o with | .inl q => .inl q | .inr e => .inr ([], 0, e)
theorem ints_loop {b : List Int} {c : Nat} (hb : ∀ x ∈ b, okU8 x) (hl : b.length ≤ 100000) (hc : c ≤ 10) : ∀ (k n i : Nat) (u : Int) (row : List Int), i + k = c → k < n → 0 ≤ u → u ≤ b.length → row.length = i →
    R08_ints_L1 200000 b (c : Int) n u (i : Nat) row = some (intsR (rdN b k u row)) := by
  intro k
  induction k with
  | zero =>
    intro n i u row hi hn h0 h1 hr
    obtain ⟨m, rfl⟩ : ∃ m, n = m + 1 := ⟨n - 1, by omega⟩
    show R08_ints_L1_body _ _ _ _ _ _ _ = _
    unfold R08_ints_L1_body
    rw [dec_f (by omega)]; rfl
  | succ k ih =>
    intro n i u row hi hn h0 h1 hr
    obtain ⟨m, rfl⟩ : ∃ m, n = m + 1 := ⟨n - 1, by omega⟩
    show R08_ints_L1_body _ _ _ _ _ _ _ = _
    unfold R08_ints_L1_body
    have hq := numF_range (f := 0) hb h0 h1
    have hN : numF b u 0 = ((vrd (b.drop u.toNat) 0 0).1, u + (vrd (b.drop u.toNat) 0 0).2.1, (vrd (b.drop u.toNat) 0 0).2.2) := rfl
    rw [dec_t (by omega), cond_true, need_t ⟨h0, h1⟩, Option.bind_some, sub_drop b h0, R05_Int_eq (drop_ok hb _) (by rw [List.length_drop]; omega) (by omega), Option.bind_some]
    show (bif ((numF b u 0).2.2 != 0) then _ else _) = some (intsR (if (numF b u 0).2.2 ≠ 0 then _ else _))
    by_cases h : (numF b u 0).2.2 ≠ 0
    · rw [bne_t h, if_pos h]; rfl
    · have := ih m (i + 1) (numF b u 0).2.1 (row ++ [(numF b u 0).1]) (by omega) (by omega) (by omega) (by omega) (by simp [hr])
      rw [bne_f (by omega), if_neg h, cond_false, need_t (by simp; omega), Option.bind_some, step64 (by omega), ← this, w64 (by rw [hN] at hq; simp only at hq; omega) (by rw [hN] at hq; simp only at hq; omega)]
      rfl
theorem R08_ints_eq {b : List Int} {c : Nat} (hb : ∀ x ∈ b, okU8 x) (hl : b.length ≤ 100000) (hc : c ≤ 10) : R08_ints 200000 b (c : Int) = some (intsV (rdN b c 0 [])) := by
  unfold R08_ints
  have := ints_loop hb hl hc c 200000 0 0 [] (by omega) (by omega) (by omega) (by omega) rfl
  rw [show R08_ints_L1 200000 b (c : Int) 200000 0 0 [] = _ from this, Option.bind_some]
  cases rdN b c 0 [] <;> rfl
def rdF (b : List Int) (k : Nat) (u f : Int) (row : List Int) : (Int × List Int) ⊕ Int := if f ≠ 0 then .inr f else rdN b k u row
def oneN (c : Bool) : Nat := if c then 1 else 0
theorem rdF_step {b : List Int} {c : Bool} {d : Int} {k : Nat} {u f : Int} {row : List Int} :
    rdF b (k + oneN c) u f row = rdF b k (numO c d b u f).2.1 (numO c d b u f).2.2 (row ++ if c then [(numO c d b u f).1] else []) := by
  by_cases hf : f ≠ 0
  · unfold rdF; rw [if_pos hf, if_pos (by rw [numO_fault hf]; exact hf), numO_fault hf]
  · have h0 : f = 0 := by omega
    subst h0
    cases c
    · simp [numO, oneN]
    · show rdF b (k + 1) u 0 row = rdF b k (numF b u 0).2.1 (numF b u 0).2.2 (row ++ [(numF b u 0).1])
      unfold rdF
      rw [if_neg (by simp)]; rfl
theorem rdN_two {b : List Int} {k : Nat} : rdN b (k + 2) 0 [] = rdF b k (decA b).2.1 (decA b).2.2 [(decK b).1, (decA b).1] := by
  have h1 := rdF_step (b := b) (c := true) (d := 0) (k := k + 1) (u := 0) (f := 0) (row := [])
  have h2 := rdF_step (b := b) (c := true) (d := 0) (k := k) (u := (decK b).2.1) (f := (decK b).2.2) (row := [(decK b).1])
  exact h1.trans h2
def decRow (b : List Int) : List Int := [(decK b).1, (decA b).1] ++ (if useName (decK b).1 then [(decNm b).1] else []) ++ (if useN (decK b).1 then [(decN b).1] else []) ++ (if useM (decK b).1 then [(decM b).1] else []) ++ (if useStack (decK b).1 then [(decSt b).1] else [])
theorem rdN_all {b : List Int} (h : (decA b).2.2 = decF b) : rdN b (0 + oneN (useStack (decK b).1) + oneN (useM (decK b).1) + oneN (useN (decK b).1) + oneN (useName (decK b).1) + 2) 0 [] =
    if (decSt b).2.2 ≠ 0 then .inr (decSt b).2.2 else .inl ((decSt b).2.1, decRow b) := by
  rw [rdN_two, h, rdF_step (d := 0)]
  show rdF b _ (decNm b).2.1 (decNm b).2.2 _ = _
  rw [rdF_step (d := 0)]
  show rdF b _ (decN b).2.1 (decN b).2.2 _ = _
  rw [rdF_step (d := 0)]
  show rdF b _ (decM b).2.1 (decM b).2.2 _ = _
  rw [rdF_step (d := -1)]
  rfl
theorem R08_Decode_eq {names : List (List Int)} {stacks : List Arr2_Int} {b : List Int} (hb : ∀ x ∈ b, okU8 x) (hl : b.length ≤ 100000) : R08_Decode 200000 names stacks b = some (decS names stacks b) := by
  unfold R08_Decode decS
  rw [show R06_Check 200000 names stacks = some (checkS names stacks) from R06_Check_eq, Option.bind_some]
  by_cases hc : checkS names stacks ≠ 0
  · rw [bne_t hc, if_pos hc]; rfl
  rw [bne_f (by omega), cond_false, if_neg hc]
  rw [show R08_ints 200000 b 2 = _ from R08_ints_eq (c := 2) hb hl (by omega), Option.bind_some, show rdN b 2 0 [] = rdF b 0 (decA b).2.1 (decA b).2.2 [(decK b).1, (decA b).1] from rdN_two]
  by_cases ha : (decA b).2.2 ≠ 0
  · have hF : decF b ≠ 0 := by unfold decF; rw [if_neg (fun h => ha h.1)]; exact ha
    have hS : (decSt b).2.2 = decF b := by
      have h1 : (decNm b).2.2 = decF b := numO_fault hF
      have h2 : (decN b).2.2 = decF b := (numO_fault (by rw [h1]; exact hF)).trans h1
      have h3 : (decM b).2.2 = decF b := (numO_fault (by rw [h2]; exact hF)).trans h2
      exact (numO_fault (by rw [h3]; exact hF)).trans h3
    have hG : decF b = (decA b).2.2 := by unfold decF; rw [if_neg (fun h => ha h.1)]
    rw [show rdF b 0 (decA b).2.1 (decA b).2.2 [(decK b).1, (decA b).1] = .inr (decA b).2.2 from if_pos ha]
    rw [hS, if_pos hF, hG]
    show (bif ((decA b).2.2 != 0) then _ else _) = _
    rw [bne_t ha]; rfl
  have ha0 : (decA b).2.2 = 0 := by omega
  rw [show rdF b 0 (decA b).2.1 (decA b).2.2 [(decK b).1, (decA b).1] = .inl ((decA b).2.1, [(decK b).1, (decA b).1]) from if_neg ha]
  show (Option.bind (bif decide ((decK b).1 < 1) then some true else some (decide ((decK b).1 > 12))) fun p_1 => bif p_1 then _ else (R08_Uses (decK b).1).bind _) = _
  by_cases hk : (decK b).1 < 1 ∨ (decK b).1 > 12
  · have hF : decF b = 10 := by unfold decF; rw [if_pos ⟨ha0, hk⟩]
    have hF' : decF b ≠ 0 := by omega
    have hS : (decSt b).2.2 = decF b := by
      have h1 : (decNm b).2.2 = decF b := numO_fault hF'
      have h2 : (decN b).2.2 = decF b := (numO_fault (by rw [h1]; exact hF')).trans h1
      have h3 : (decM b).2.2 = decF b := (numO_fault (by rw [h2]; exact hF')).trans h2
      exact (numO_fault (by rw [h3]; exact hF')).trans h3
    rw [hS, hF, if_pos (by omega)]
    rcases hk with hk | hk
    · rw [dec_t hk]; rfl
    · rw [dec_f (show ¬ (decK b).1 < 1 by omega), dec_t hk]; rfl
  have hF : (decA b).2.2 = decF b := by unfold decF; rw [if_neg (fun h => hk h.2)]
  rw [dec_f (show ¬ (decK b).1 < 1 by omega), dec_f (show ¬ (decK b).1 > 12 by omega), cond_false, Option.bind_some, cond_false, R08_Uses_eq (by omega), Option.bind_some]
  have hcnt : w_i64 ((w_i64 ((w_i64 ((w_i64 ((2 : Int) + (oneN (useName (decK b).1) : Int))) + (oneN (useN (decK b).1) : Int))) + (oneN (useM (decK b).1) : Int))) + (oneN (useStack (decK b).1) : Int)) = ((0 + oneN (useStack (decK b).1) + oneN (useM (decK b).1) + oneN (useN (decK b).1) + oneN (useName (decK b).1) + 2 : Nat) : Int) := by
    cases useName (decK b).1 <;> cases useN (decK b).1 <;> cases useM (decK b).1 <;> cases useStack (decK b).1 <;> rfl
  have hcl : 0 + oneN (useStack (decK b).1) + oneN (useM (decK b).1) + oneN (useN (decK b).1) + oneN (useName (decK b).1) + 2 ≤ 10 := by
    cases useName (decK b).1 <;> cases useN (decK b).1 <;> cases useM (decK b).1 <;> cases useStack (decK b).1 <;> decide
  have ho : ∀ c : Bool, R08_one c = some (oneN c : Int) := by intro c; cases c <;> rfl
  simp only [ho, Option.bind_some]
  rw [show w_i64 (w_i64 (w_i64 (w_i64 ((2 : Int) + (oneN (useName (decK b).1) : Int)) + (oneN (useN (decK b).1) : Int)) + (oneN (useM (decK b).1) : Int)) + (oneN (useStack (decK b).1) : Int)) = _ from hcnt, R08_ints_eq hb hl hcl, Option.bind_some, rdN_all hF]
  by_cases hs : (decSt b).2.2 ≠ 0
  · rw [if_pos hs, if_pos hs]
    show (bif ((decSt b).2.2 != 0) then _ else _) = _
    rw [bne_t hs]; rfl
  rw [if_neg hs, if_neg hs]
  simp only [intsV, bne_self_eq_false, cond_false]
  have d0 : idxL (decRow b) 0 = some (decK b).1 := rfl
  have d1 : idxL (decRow b) 1 = some (decA b).1 := rfl
  have d2 : useName (decK b).1 = true → idxL (decRow b) 2 = some (decNm b).1 := fun h => by unfold decRow; rw [h]; rfl
  have d3 : useN (decK b).1 = true → idxL (decRow b) (2 + (oneN (useName (decK b).1) : Int)) = some (decN b).1 := fun h => by unfold decRow; rw [h]; cases useName (decK b).1 <;> rfl
  have d4 : useM (decK b).1 = true → idxL (decRow b) (2 + (oneN (useName (decK b).1) : Int) + (oneN (useN (decK b).1) : Int)) = some (decM b).1 := fun h => by unfold decRow; rw [h]; cases useName (decK b).1 <;> cases useN (decK b).1 <;> rfl
  have d5 : useStack (decK b).1 = true → idxL (decRow b) (2 + (oneN (useName (decK b).1) : Int) + (oneN (useN (decK b).1) : Int) + (oneN (useM (decK b).1) : Int)) = some (decSt b).1 := fun h => by unfold decRow; rw [h]; cases useName (decK b).1 <;> cases useN (decK b).1 <;> cases useM (decK b).1 <;> rfl
  refine bind_to _ d0 (bind_to _ d1 ?_)
  have hcc : checkS names stacks = 0 := by omega
  refine bind_to (if useName (decK b).1 = true ∧ ((decNm b).1 < 0 ∨ (decNm b).1 ≥ names.length) then Sum.inr (ev0, 0, 2) else Sum.inl (2 + (oneN (useName (decK b).1) : Int), if useName (decK b).1 then (names[(decNm b).1.toNat]?).getD [] else [])) ?_ ?_
  · cases hu : useName (decK b).1
    · rw [if_neg (by simp)]; rfl
    · rw [cond_true, d2 hu]
      simp only [Option.bind_some, true_and]
      by_cases h1 : (decNm b).1 < 0
      · rw [dec_t h1, if_pos (by omega)]; rfl
      rw [dec_f h1, cond_false, Option.bind_some]
      by_cases h2 : (decNm b).1 ≥ names.length
      · rw [dec_t h2, if_pos (by omega)]; rfl
      rw [dec_f h2, if_neg (by omega), cond_false, idxL_at (by omega), List.getElem?_eq_getElem (by omega)]; rfl
  by_cases hn : useName (decK b).1 = true ∧ ((decNm b).1 < 0 ∨ (decNm b).1 ≥ names.length)
  · rw [if_pos hn, if_pos hn]
  rw [if_neg hn, if_neg hn]
  simp only
  refine bind_to (2 + (oneN (useName (decK b).1) : Int) + (oneN (useN (decK b).1) : Int), (decN b).1) ?_ ?_
  · cases hu : useN (decK b).1
    · show some (_, (0 : Int)) = _
      rw [show (decN b).1 = 0 by unfold decN numO; rw [hu]; rfl]
      simp [oneN]
    · rw [cond_true, d3 hu]
      cases useName (decK b).1 <;> rfl
  refine bind_to (2 + (oneN (useName (decK b).1) : Int) + (oneN (useN (decK b).1) : Int) + (oneN (useM (decK b).1) : Int), (decM b).1) ?_ ?_
  · simp only
    cases hu : useM (decK b).1
    · show some (_, (0 : Int)) = _
      rw [show (decM b).1 = 0 by unfold decM numO; rw [hu]; rfl]
      simp [oneN]
    · rw [cond_true, d4 hu]
      cases useName (decK b).1 <;> cases useN (decK b).1 <;> rfl
  refine bind_to (if (decSt b).1 < -1 ∨ (decSt b).1 ≥ stacks.length then Sum.inr (ev0, 0, 2) else Sum.inl (stackV names stacks (decSt b).1).1) ?_ ?_
  · simp only
    cases hu : useStack (decK b).1
    · have h0 : (decSt b).1 = -1 := by unfold decSt numO; rw [hu]; rfl
      rw [h0, if_neg (by omega)]
      unfold stackV
      rw [if_neg (by omega), if_neg (by omega), pathN_none]; rfl
    · rw [cond_true, d5 hu, Option.bind_some, R06_Stack_eq, Option.bind_some]
      unfold stackV
      rw [if_neg (by omega)]
      by_cases h1 : (decSt b).1 < -1 ∨ (decSt b).1 ≥ stacks.length
      · rw [if_pos h1, if_pos h1]; rfl
      · rw [if_neg h1, if_neg h1]; rfl
  by_cases h3 : (decSt b).1 < -1 ∨ (decSt b).1 ≥ stacks.length
  · rw [if_pos h3, if_pos h3]
  rw [if_neg h3, if_neg h3]
  show ((R07_Check 200000 (decE names stacks b)).bind _) = _
  rw [R07_Check_eq, Option.bind_some]
  by_cases h4 : evS (decE names stacks b) ≠ 0
  · rw [bne_t h4, if_pos h4]; rfl
  · rw [bne_f (by omega), if_neg h4]; rfl
end Go.Ab
