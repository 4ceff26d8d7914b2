/- Plain laws of the functions below this seat's, laid anew from another seat's text. No conditions but those that the theorems name. -/
import Derived.Test.YtlnlcciflpncmaaP11xD
import Derived.Test.YtlnlcciflpncmaaA35
namespace Go.Ab
open Go
set_option linter.unusedVariables false
def signs06 : List Int := [95, 46, 58, 47, 60, 62, 36, 42, 126, 45]
def letterB (c : Int) : Bool := decide (97 ≤ c ∧ c ≤ 122) || decide (65 ≤ c ∧ c ≤ 90) || decide (48 ≤ c ∧ c ≤ 57) || signs06.contains c
def findI {α : Type} [DecidableEq α] (s : α) : Nat → List α → Int
 | _, [] => -1
 | i, x :: r => if x = s then (i : Int) else findI s (i + 1) r
theorem findI_spec {α : Type} [DecidableEq α] (s : α) : ∀ (l : List α) (i : Nat), (findI s i l = -1 ∧ s ∉ l) ∨ ∃ j, l[j]? = some s ∧ findI s i l = ((i + j : Nat) : Int) := by
 intro l
 induction l with
 | nil => intro i; exact .inl ⟨rfl, by simp⟩
 | cons x r ih =>
  intro i
  unfold findI
  by_cases h : x = s
  ·exact .inr ⟨0, by simp [h], by simp [h]⟩
  ·rw [if_neg h]
   rcases ih (i + 1) with ⟨h1, h2⟩ | ⟨j, h1, h2⟩
   ·exact .inl ⟨h1, by simp [h2, Ne.symm h]⟩
   ·exact .inr ⟨j + 1, by simpa using h1, by rw [h2]; omega⟩
def nameS (s : List Int) : Int := if s = [] ∨ 40 < s.length then 3 else if s.all letterB then 0 else 3
theorem bad_loop {α R : Type} {l : List α} (L : Nat → Int → Option (Unit ⊕ R)) (f : Nat → α → Option R)
  (h0 : ∀ n i, l.length ≤ i → L (n + 1) (i : Nat) = some (.inl ()))
  (h1 : ∀ n i x r, l.drop i = x :: r → i < l.length → (∀ b, f i x = some b → L (n + 1) (i : Nat) = some (.inr b)) ∧ (f i x = none → L (n + 1) (i : Nat) = L n ((i + 1 : Nat) : Int)))
  {n : Nat} (hn : l.length < n) : L n 0 = some (firstBad f 0 l) := by
 have := loopL0 (l := l) (σ := Unit) (fun n i _ => L n i) (fun i r _ => firstBad f i r) (fun _ _ => True) (fun n i _ hi _ => h0 n i hi) ?_ (n := n) (s := ()) trivial hn
 ·exact this
 ·intro n i _ x r hd hlt _ ih
  obtain ⟨k1, k2⟩ := h1 n i x r hd hlt
  simp only [firstBad]
  cases hf : f i x with
  | none => rw [k2 hf]; exact ih () trivial
  | some b => rw [k1 b hf]
theorem firstBad_any {α : Type} (p : α → Bool) : ∀ (l : List α) (i : Nat), firstBad (fun _ x => if p x then some true else none) i l = if l.any p then .inr true else .inl () := by
 intro l
 induction l with
 | nil => intro i; rfl
 | cons x r ih =>
  intro i
  simp only [firstBad]
  by_cases hp : p x = true
  ·have ea : (x :: r).any p = true := by simp [hp]
   rw [if_pos hp, if_pos ea]
  ·have ea : (x :: r).any p = r.any p := by simp [hp]
   rw [if_neg hp, ih (i + 1), ea]
theorem R06_letter_loop {c : Int} : R06_letter_L1 200000 c 200000 0 = some (if signs06.contains c then .inr true else .inl ()) := by
 have := bad_loop (l := signs06) (R06_letter_L1 200000 c) (fun _ x => if x == c then some true else none) ?_ ?_ (n := 200000) (by decide)
 ·rw [this, firstBad_any (fun x => x == c)]
  have e : signs06.any (fun x => x == c) = signs06.contains c := by
   rw [List.contains_eq_any_beq]; congr 1; funext x; exact BEq.comm
  rw [e]
 ·intro n i hi
  show R06_letter_L1_body 200000 c _ _ = _
  unfold R06_letter_L1_body
  change signs06.length ≤ i at hi
  have h10 : signs06.length = 10 := rfl
  rw [dec_f (by rw [show ([95, 46, 58, 47, 60, 62, 36, 42, 126, 45] : List Int) = signs06 from rfl]; omega), cond_false]
 ·intro n i x r hd hlt
  have h10 : signs06.length = 10 := rfl
  have e : R06_letter_L1 200000 c (n + 1) (i : Nat) = (bif (x == c) then some (.inr true) else R06_letter_L1 200000 c n ((i + 1 : Nat) : Int)) := by
   show R06_letter_L1_body 200000 c _ _ = _
   unfold R06_letter_L1_body
   rw [show ([95, 46, 58, 47, 60, 62, 36, 42, 126, 45] : List Int) = signs06 from rfl, dec_t (by omega), cond_true, idxL_drop hd, Option.bind_some, step64 (by omega)]
  rw [e]
  constructor
  ·intro b hb
   by_cases hx : (x == c) = true
   ·rw [if_pos hx] at hb; injection hb with hb; subst hb; rw [hx]; rfl
   ·rw [if_neg hx] at hb; cases hb
  ·intro hb
   by_cases hx : (x == c) = true
   ·rw [if_pos hx] at hb; cases hb
   ·rw [Bool.not_eq_true] at hx; rw [hx]; rfl
theorem idxByte_pos (c : Int) : ∀ l : List Int, -1 ≤ idxByte l c ∧ decide (idxByte l c ≥ 0) = l.contains c := by
 intro l
 induction l with
 | nil => simp [idxByte]
 | cons b l ih =>
  unfold idxByte
  rw [List.contains_cons]
  by_cases h : b = c
  ·rw [if_pos h]; subst h; simp
  ·rw [if_neg h]
   have hb : (c == b) = false := by simpa using Ne.symm h
   rw [hb, Bool.false_or]
   by_cases h2 : idxByte l c = -1
   ·rw [if_pos h2]
    have := ih.2; rw [h2] at this
    exact ⟨by omega, this⟩
   ·rw [if_neg h2]
    refine ⟨by omega, ?_⟩
    rw [← ih.2]
    have := ih.1
    rw [dec_t (by omega), dec_t (by omega)]
theorem idxByte_signs {c : Int} : decide (idxByte signs06 c ≥ 0) = signs06.contains c := (idxByte_pos c signs06).2
theorem intern_letter_eq {c : Int} : intern_letter c = some (letterB c) := by
 unfold intern_letter strings_IndexByte stringslite_IndexByte
 have h := idxByte_signs (c := c)
 unfold signs06 at h
 unfold letterB signs06
 simp only [Option.bind_some, h]
 by_cases c1 : c ≥ 97 <;> by_cases c2 : c ≤ 122 <;> by_cases c3 : c ≥ 65 <;> by_cases c4 : c ≤ 90 <;> by_cases c5 : c ≥ 48 <;> by_cases c6 : c ≤ 57 <;> simp [c1, c2, c3, c4, c5, c6] <;> omega
theorem R06_letter_eq {c : Int} : R06_letter 200000 c = some (letterB c) := by
 unfold R06_letter
 rw [R06_letter_loop]
 unfold letterB
 by_cases hs : signs06.contains c = true
 ·rw [if_pos hs]
  simp only [hs, Bool.or_true, Option.bind_some]
  cases (bif decide (c ≥ (97 : Int)) then (decide (c ≤ (122 : Int)) || (bif decide (c ≥ (65 : Int)) then (decide (c ≤ (90 : Int)) || (decide (c ≥ (48 : Int)) && decide (c ≤ (57 : Int)))) else (decide (c ≥ (48 : Int)) && decide (c ≤ (57 : Int))))) else (bif decide (c ≥ (65 : Int)) then (decide (c ≤ (90 : Int)) || (decide (c ≥ (48 : Int)) && decide (c ≤ (57 : Int)))) else (decide (c ≥ (48 : Int)) && decide (c ≤ (57 : Int))))) <;> rfl
 ·rw [if_neg hs]
  rw [Bool.not_eq_true] at hs
  simp only [hs, Bool.or_false, Option.bind_some]
  by_cases c1 : c ≥ 97 <;> by_cases c2 : c ≤ 122 <;> by_cases c3 : c ≥ 65 <;> by_cases c4 : c ≤ 90 <;> by_cases c5 : c ≥ 48 <;> by_cases c6 : c ≤ 57 <;> simp [c1, c2, c3, c4, c5, c6] <;> omega
theorem firstBad_not {α R : Type} (p : α → Bool) (v : R) : ∀ (l : List α) (i : Nat), firstBad (fun _ x => if p x = false then some v else none) i l = if l.all p = true then .inl () else .inr v := by
 intro l
 induction l with
 | nil => intro i; rfl
 | cons x r ih =>
  intro i
  simp only [firstBad]
  by_cases hp : p x = false
  ·have ea : ¬(x :: r).all p = true := by simp [hp]
   rw [if_pos hp, if_neg ea]
  ·have ea : (x :: r).all p = r.all p := by simp at hp; simp [hp]
   rw [if_neg hp, ih (i + 1), ea]
theorem Name_step {l : List Int} (L : Nat → Int → Option (Unit ⊕ Int)) (hl : l.length ≤ 40)
  (e : ∀ n i, L (n + 1) (i : Nat) = bif decide (((i : Nat) : Int) < ((l.length : Nat) : Int)) then (idxL l (i : Nat)).bind fun c => (bif !(letterB c) then some (.inr (3 : Int)) else L n (w_i64 ((i : Nat) + (1 : Int)))) else some (.inl ())) :
  L 200000 0 = some (if l.all letterB = true then .inl () else .inr 3) := by
 have := bad_loop (l := l) L (fun _ x => if letterB x = false then some 3 else none) ?_ ?_ (n := 200000) (by omega)
 ·rw [this, firstBad_not]
 ·intro n i hi
  rw [e, dec_f (by omega), cond_false]
 ·intro n i x r hd hlt
  rw [e, dec_t (by omega), cond_true, idxL_drop hd, Option.bind_some, step64 (by omega)]
  cases letterB x <;> simp
theorem intern_Name_eq {l : List Int} : intern_Name 200000 l = some (nameS l) := by
 unfold intern_Name nameS
 by_cases h : l = [] ∨ 40 < l.length
 ·have : ((l == ([] : List Int)) || decide ((((l).length : Nat) : Int) > (40 : Int))) = true := by
   rcases h with h | h
   ·rw [h]; rfl
   ·rw [dec_t (p := ((l.length : Nat) : Int) > 40) (by omega), Bool.or_true]
  rw [this, cond_true, if_pos h]
 ·have : ((l == ([] : List Int)) || decide ((((l).length : Nat) : Int) > (40 : Int))) = false := by
   have hb : (l == ([] : List Int)) = false := by
    cases l with
    | nil => exact absurd (.inl rfl) h
    | cons a r => rfl
   rw [hb, dec_f (by omega)]; rfl
  rw [this, cond_false, if_neg h, Name_step (l := l) (intern_Name_L1 200000 l) (by omega) (fun n i => by
   show intern_Name_L1_body 200000 l _ _ = _
   unfold intern_Name_L1_body
   simp only [intern_letter_eq, Option.bind_some]), Option.bind_some]
  by_cases ha : l.all letterB = true
  ·rw [if_pos ha, if_pos ha]
  ·rw [if_neg ha, if_neg ha]
theorem R06_Name_eq {l : List Int} : R06_Name 200000 l = some (nameS l) := by
 unfold R06_Name nameS
 by_cases h : l = [] ∨ 40 < l.length
 ·have : (decide ((((l).length : Nat) : Int) < (1 : Int)) || decide ((((l).length : Nat) : Int) > (40 : Int))) = true := by
   rcases h with h | h
   ·rw [h]; rfl
   ·rw [dec_t (p := ((l.length : Nat) : Int) > 40) (by omega), Bool.or_true]
  rw [this, cond_true, if_pos h]
 ·have hp : 0 < l.length := List.length_pos_iff.2 (fun hc => h (.inl hc))
  have : (decide ((((l).length : Nat) : Int) < (1 : Int)) || decide ((((l).length : Nat) : Int) > (40 : Int))) = false := by
   rw [dec_f (by omega), dec_f (by omega)]; rfl
  rw [this, cond_false, if_neg h, Name_step (l := l) (R06_Name_L1 200000 l) (by omega) (fun n i => by
   show R06_Name_L1_body 200000 l _ _ = _
   unfold R06_Name_L1_body
   simp only [R06_letter_eq, Option.bind_some]), Option.bind_some]
  by_cases ha : l.all letterB = true
  ·rw [if_pos ha, if_pos ha]
  ·rw [if_neg ha, if_neg ha]
def framesS (l : List (List Int)) : Int := if 32 < l.length then 7 else if l.all (fun s => decide (nameS s = 0)) then 0 else 3
theorem nameS_03 (s : List Int) : nameS s = 0 ∨ nameS s = 3 := by
 unfold nameS; split
 ·exact .inr rfl
 ·split
  ·exact .inl rfl
  ·exact .inr rfl
theorem Frames_step {l : List (List Int)} (L : Nat → Int → Option (Unit ⊕ Int)) (hl : l.length ≤ 100000)
  (e : ∀ n i, L (n + 1) (i : Nat) = bif decide (((i : Nat) : Int) < ((l.length : Nat) : Int)) then (idxL l (i : Nat)).bind fun c => (bif (nameS c != (0 : Int)) then some (.inr (3 : Int)) else L n (w_i64 ((i : Nat) + (1 : Int)))) else some (.inl ())) :
  L 200000 0 = some (if l.all (fun s => decide (nameS s = 0)) = true then .inl () else .inr 3) := by
 have := bad_loop (l := l) L (fun _ x => if decide (nameS x = 0) = false then some 3 else none) ?_ ?_ (n := 200000) (by omega)
 ·rw [this, firstBad_not (fun s => decide (nameS s = 0))]
 ·intro n i hi
  rw [e, dec_f (by omega), cond_false]
 ·intro n i x r hd hlt
  rw [e, dec_t (p := ((i : Nat) : Int) < ((l.length : Nat) : Int)) (by omega), cond_true, idxL_drop hd, Option.bind_some, step64 (by omega)]
  rcases nameS_03 x with h | h <;> simp [h]
theorem intern_Frames_eq {l : List (List Int)} : intern_Frames 200000 l = some (framesS l) := by
 unfold intern_Frames framesS
 by_cases h : 32 < l.length
 ·rw [dec_t (by omega), cond_true, if_pos h]
 ·rw [dec_f (by omega), cond_false, if_neg h, Frames_step (l := l) (intern_Frames_L1 200000 l) (by omega) (fun n i => by
   show intern_Frames_L1_body 200000 l _ _ = _
   unfold intern_Frames_L1_body
   simp only [intern_Name_eq, Option.bind_some]
   congr 1; congr 1; funext c
   rcases nameS_03 c with h | h <;> rw [h] <;> rfl), Option.bind_some]
  by_cases ha : l.all (fun s => decide (nameS s = 0)) = true
  ·rw [if_pos ha, if_pos ha]
  ·rw [if_neg ha, if_neg ha]
theorem R06_Frames_eq {l : List (List Int)} : R06_Frames 200000 l = some (framesS l) := by
 unfold R06_Frames framesS
 by_cases h : 32 < l.length
 ·rw [dec_t (by omega), cond_true, if_pos h]
 ·rw [dec_f (by omega), cond_false, if_neg h, Frames_step (l := l) (R06_Frames_L1 200000 l) (by omega) (fun n i => by
   show R06_Frames_L1_body 200000 l _ _ = _
   unfold R06_Frames_L1_body
   simp only [R06_Name_eq, Option.bind_some]), Option.bind_some]
  by_cases ha : l.all (fun s => decide (nameS s = 0)) = true
  ·rw [if_pos ha, if_pos ha]
  ·rw [if_neg ha, if_neg ha]
theorem find_loop {α : Type} [DecidableEq α] {l : List α} {s : α} (L : Nat → Int → Option (Unit ⊕ Int)) (hl : l.length ≤ 100000)
  (e : ∀ n i x r, l.drop i = x :: r → i < l.length → L (n + 1) (i : Nat) = if x = s then some (.inr (i : Int)) else L n ((i + 1 : Nat) : Int))
  (e0 : ∀ n i, l.length ≤ i → L (n + 1) (i : Nat) = some (.inl ())) : L 200000 0 = some (if findI s 0 l = -1 then .inl () else .inr (findI s 0 l)) := by
 have := loopL0 (l := l) (σ := Unit) (fun n i _ => L n i) (fun i r _ => if findI s i r = -1 then .inl () else .inr (findI s i r)) (fun _ _ => True) (fun n i _ hi _ => by simpa [findI] using e0 n i hi) ?_ (n := 200000) (s := ()) trivial (by omega)
 ·exact this
 ·intro n i _ x r hd hlt _ ih
  show L (n + 1) (i : Nat) = _
  rw [e n i x r hd hlt]
  by_cases h : x = s
  ·have : findI s i (x :: r) = (i : Int) := by simp [findI, h]
   rw [if_pos h, this, if_neg (by omega)]
  ·have : findI s i (x :: r) = findI s (i + 1) r := by simp [findI, h]
   rw [if_neg h, this]; exact ih () trivial
theorem slices_Index_string_string_eq {l : List (List Int)} {s : List Int} (hl : l.length ≤ 100000) : slices_Index_string_string 200000 l s = some (findI s 0 l) := by
 unfold slices_Index_string_string
 rw [find_loop (l := l) (s := s) (slices_Index_string_string_L1 200000 l s) hl (fun n i x r hd hlt => by
  show slices_Index_string_string_L1_body 200000 l s _ _ = _
  unfold slices_Index_string_string_L1_body
  rw [dec_t (p := ((i : Nat) : Int) < ((l.length : Nat) : Int)) (by omega), cond_true, idxL_drop hd, Option.bind_some, step64 (by omega)]
  by_cases h : x = s
  ·rw [if_pos h, beqA_t h.symm]; rfl
  ·rw [if_neg h, beqA_f (fun hc => h hc.symm)]; rfl) (fun n i hi => by
  show slices_Index_string_string_L1_body 200000 l s _ _ = _
  unfold slices_Index_string_string_L1_body
  rw [dec_f (p := ((i : Nat) : Int) < ((l.length : Nat) : Int)) (by omega), cond_false]), Option.bind_some]
 by_cases h : findI s 0 l = -1
 ·rw [if_pos h, h]
 ·rw [if_neg h]
theorem R06_Find_eq {l : List (List Int)} {s : List Int} (hl : l.length ≤ 100000) : R06_Find 200000 l s = some (findI s 0 l) := by
 unfold R06_Find
 rw [find_loop (l := l) (s := s) (R06_Find_L1 200000 l s) hl (fun n i x r hd hlt => by
  show R06_Find_L1_body 200000 l s _ _ = _
  unfold R06_Find_L1_body
  rw [dec_t (p := ((i : Nat) : Int) < ((l.length : Nat) : Int)) (by omega), cond_true, idxL_drop hd, Option.bind_some, step64 (by omega)]
  by_cases h : x = s
  ·rw [if_pos h, beqA_t h]; rfl
  ·rw [if_neg h, beqA_f h]; rfl) (fun n i hi => by
  show R06_Find_L1_body 200000 l s _ _ = _
  unfold R06_Find_L1_body
  rw [dec_f (p := ((i : Nat) : Int) < ((l.length : Nat) : Int)) (by omega), cond_false]), Option.bind_some]
 by_cases h : findI s 0 l = -1
 ·rw [if_pos h, h]
 ·rw [if_neg h]
theorem slices_Index_2_int_2_int_eq {l : List (Arr2_Int)} {s : Arr2_Int} (hl : l.length ≤ 100000) : slices_Index_2_int_2_int 200000 l s = some (findI s 0 l) := by
 unfold slices_Index_2_int_2_int
 rw [find_loop (l := l) (s := s) (slices_Index_2_int_2_int_L1 200000 l s) hl (fun n i x r hd hlt => by
  show slices_Index_2_int_2_int_L1_body 200000 l s _ _ = _
  unfold slices_Index_2_int_2_int_L1_body
  rw [dec_t (p := ((i : Nat) : Int) < ((l.length : Nat) : Int)) (by omega), cond_true, idxL_drop hd, Option.bind_some, step64 (by omega)]
  by_cases h : x = s
  ·rw [if_pos h, dec_t h.symm]; rfl
  ·rw [if_neg h, dec_f (fun hc => h hc.symm)]; rfl) (fun n i hi => by
  show slices_Index_2_int_2_int_L1_body 200000 l s _ _ = _
  unfold slices_Index_2_int_2_int_L1_body
  rw [dec_f (p := ((i : Nat) : Int) < ((l.length : Nat) : Int)) (by omega), cond_false]), Option.bind_some]
 by_cases h : findI s 0 l = -1
 ·rw [if_pos h, h]
 ·rw [if_neg h]
theorem R06_FindStack_eq {l : List (Arr2_Int)} {s : Arr2_Int} (hl : l.length ≤ 100000) : R06_FindStack 200000 l s = some (findI s 0 l) := by
 unfold R06_FindStack
 rw [find_loop (l := l) (s := s) (R06_FindStack_L1 200000 l s) hl (fun n i x r hd hlt => by
  show R06_FindStack_L1_body 200000 l s _ _ = _
  unfold R06_FindStack_L1_body
  rw [dec_t (p := ((i : Nat) : Int) < ((l.length : Nat) : Int)) (by omega), cond_true, idxL_drop hd, Option.bind_some, step64 (by omega)]
  by_cases h : x = s
  ·rw [if_pos h, dec_t h]; rfl
  ·rw [if_neg h, dec_f h]; rfl) (fun n i hi => by
  show R06_FindStack_L1_body 200000 l s _ _ = _
  unfold R06_FindStack_L1_body
  rw [dec_f (p := ((i : Nat) : Int) < ((l.length : Nat) : Int)) (by omega), cond_false]), Option.bind_some]
 by_cases h : findI s 0 l = -1
 ·rw [if_pos h, h]
 ·rw [if_neg h]
def putS06 (names : List (List Int)) (s : List Int) : Int × List (List Int) × Int :=
 if nameS s ≠ 0 then (0, names, nameS s) else if findI s 0 names ≠ -1 then (findI s 0 names, names, 0) else if 1000 ≤ names.length then (0, names, 6) else ((names.length : Int), names ++ [s], 0)
theorem findI_range {α : Type} [DecidableEq α] (s : α) (l : List α) : -1 ≤ findI s 0 l := by
 rcases findI_spec s l 0 with ⟨h, _⟩ | ⟨j, _, h⟩ <;> omega
theorem intern_Put_eq {names : List (List Int)} {s : List Int} (hl : names.length ≤ 100000) : intern_Put 200000 names s = some (putS06 names s) := by
 unfold intern_Put putS06
 have hr := findI_range s names
 rw [intern_Name_eq, Option.bind_some]
 by_cases h : nameS s ≠ 0
 ·rw [bne_t h, if_pos h]; rfl
 rw [bne_f (by omega), if_neg h, cond_false, slices_Index_string_string_eq hl, Option.bind_some]
 by_cases h1 : findI s 0 names ≠ -1
 ·rw [dec_t (by omega), if_pos h1, cond_true]
 rw [dec_f (by omega), if_neg h1, cond_false]
 by_cases h2 : 1000 ≤ names.length
 ·rw [dec_t (by omega), if_pos h2, cond_true]
 rw [dec_f (by omega), if_neg h2, cond_false]
 unfold slices_Clone_string_string
 rw [need_t (by simp only [List.length_nil]; omega), Option.bind_some, Option.bind_some, List.nil_append, need_t (by simp only [List.length_singleton]; omega), Option.bind_some]
theorem R06_Put_eq {names : List (List Int)} {s : List Int} (hl : names.length ≤ 100000) : R06_Put 200000 names s = some (putS06 names s) := by
 unfold R06_Put putS06
 have hr := findI_range s names
 have h03 := nameS_03 s
 rw [R06_Name_eq, Option.bind_some]
 by_cases h : nameS s ≠ 0
 ·rw [bne_t h, if_pos h, show nameS s = 3 by omega]; rfl
 rw [bne_f (by omega), if_neg h, cond_false, R06_Find_eq hl, Option.bind_some]
 by_cases h1 : findI s 0 names ≠ -1
 ·rw [dec_t (by omega), if_pos h1, cond_true]
 rw [dec_f (by omega), if_neg h1, cond_false]
 by_cases h2 : 1000 ≤ names.length
 ·rw [dec_t (by omega), if_pos h2, cond_true]
 rw [dec_f (by omega), if_neg h2, cond_false]
 rw [need_t (by simp only [List.length_nil]; omega), Option.bind_some, List.nil_append, need_t (by simp only [List.length_singleton]; omega), Option.bind_some]
theorem putS06_len (names : List (List Int)) (s : List Int) : (putS06 names s).2.1.length ≤ names.length + 1 := by
 unfold putS06; split
 ·simp
 ·split
  ·simp
  ·split <;> simp
def putL (names0 : List (List Int)) (stacks0 : List Arr2_Int) : List (List Int) → Int → List (List Int) → List Arr2_Int → Int × List (List Int) × List Arr2_Int × Int
 | [], at_, n, s => (at_, n, s, 0)
 | x :: r, at_, n, s =>
  if (putS06 n x).2.2 ≠ 0 then (0, names0, stacks0, (putS06 n x).2.2) else
  if findI (⟨at_, (putS06 n x).1⟩ : Arr2_Int) 0 s ≠ -1 then putL names0 stacks0 r (findI (⟨at_, (putS06 n x).1⟩ : Arr2_Int) 0 s) (putS06 n x).2.1 s else
  if 1000 ≤ s.length then (0, names0, stacks0, 6) else putL names0 stacks0 r (s.length : Int) (putS06 n x).2.1 (s ++ [⟨at_, (putS06 n x).1⟩])
def putStackS (names : List (List Int)) (stacks : List Arr2_Int) (l : List (List Int)) : Int × List (List Int) × List Arr2_Int × Int :=
 if framesS l ≠ 0 then (0, names, stacks, framesS l) else putL names stacks l (-1) names stacks
def unloop (o : (Int × List (List Int) × List Arr2_Int) ⊕ (Int × List (List Int) × List Arr2_Int × Int)) : Int × List (List Int) × List Arr2_Int × Int := match o with | .inl q => (q.1, q.2.1, q.2.2, 0) | .inr q => q
theorem intern_PutStack_loop {names0 : List (List Int)} {stacks0 : List Arr2_Int} {l : List (List Int)} (hl : l.length ≤ 40) : ∀ (m i : Nat) (at_ : Int) (n : List (List Int)) (s : List Arr2_Int), (l.drop i).length < m → n.length + (l.drop i).length ≤ 100000 → s.length + (l.drop i).length ≤ 100000 →
  ∃ o, intern_PutStack_L1 200000 names0 stacks0 l m at_ n (i : Int) s = some o ∧ unloop o = putL names0 stacks0 (l.drop i) at_ n s := by
 intro m
 induction m with
 | zero => intro i at_ n s h; omega
 | succ m ih =>
  intro i at_ n s hm hn hs
  show ∃ o, intern_PutStack_L1_body 200000 names0 stacks0 l _ at_ n (i : Int) s = some o ∧ _
  unfold intern_PutStack_L1_body
  rcases hd : l.drop i with _ | ⟨x, r⟩
  ·have := drop_nil hd
   rw [dec_f (by omega), cond_false]
   exact ⟨_, rfl, rfl⟩
  ·have hlt := drop_lt hd
   rw [hd] at hm hn hs
   simp only [List.length_cons] at hm hn hs
   have hstep := drop_step hd
   rw [dec_t (by omega), cond_true, idxL_drop hd, Option.bind_some, intern_Put_eq (by omega), Option.bind_some]
   have hpl := putS06_len n x
   simp only [putL]
   generalize putS06 n x = q at *
   by_cases h : q.2.2 ≠ 0
   ·rw [bne_t h, cond_true, if_pos h]; exact ⟨_, rfl, rfl⟩
   rw [bne_f (by omega), cond_false, if_neg h, slices_Index_2_int_2_int_eq (by omega), Option.bind_some]
   have hr := findI_range (⟨at_, q.1⟩ : Arr2_Int) s
   by_cases h1 : findI (⟨at_, q.1⟩ : Arr2_Int) 0 s ≠ -1
   ·rw [dec_t (by omega), cond_true, if_pos h1, step64 (by omega), ← hstep]
    exact ih (i + 1) _ _ _ (by rw [hstep]; omega) (by rw [hstep]; omega) (by rw [hstep]; omega)
   rw [dec_f (by omega), cond_false, if_neg h1]
   by_cases h2 : 1000 ≤ s.length
   ·rw [dec_t (by omega), cond_true, if_pos h2]; exact ⟨_, rfl, rfl⟩
   rw [dec_f (by omega), cond_false, if_neg h2, need_t (by simp only [List.length_singleton]; omega), Option.bind_some, step64 (by omega), ← hstep]
   exact ih (i + 1) _ _ _ (by rw [hstep]; omega) (by rw [hstep]; omega) (by rw [hstep]; simp only [List.length_append, List.length_singleton]; omega)
theorem intern_PutStack_eq {names : List (List Int)} {stacks : List Arr2_Int} {l : List (List Int)} (hn : names.length ≤ 50000) (hs : stacks.length ≤ 50000) : intern_PutStack 200000 names stacks l = some (putStackS names stacks l) := by
 unfold intern_PutStack putStackS
 rw [intern_Frames_eq, Option.bind_some]
 by_cases h : framesS l ≠ 0
 ·rw [bne_t h, cond_true, if_pos h]
 have hl : l.length ≤ 32 := by
  unfold framesS at h
  by_cases hc : 32 < l.length
  ·rw [if_pos hc] at h; omega
  ·omega
 rw [bne_f (by omega), cond_false, if_neg h]
 unfold slices_Clone_2_int_2_int
 rw [need_t (by simp only [List.length_nil]; omega), Option.bind_some, Option.bind_some, List.nil_append]
 obtain ⟨o, h1, h2⟩ := intern_PutStack_loop (names0 := names) (stacks0 := stacks) (l := l) (by omega) 200000 0 (-1) names stacks (by simp; omega) (by simp; omega) (by simp; omega)
 rw [show intern_PutStack_L1 200000 names stacks l 200000 (-1) names 0 stacks = some o from h1, Option.bind_some]
 rw [List.drop_zero] at h2
 rw [← h2]
 cases o <;> rfl
theorem R06_PutStack_loop {names0 : List (List Int)} {stacks0 : List Arr2_Int} {l : List (List Int)} (hl : l.length ≤ 40) : ∀ (m i : Nat) (at_ : Int) (n : List (List Int)) (s : List Arr2_Int), (l.drop i).length < m → n.length + (l.drop i).length ≤ 100000 → s.length + (l.drop i).length ≤ 100000 →
  ∃ o, R06_PutStack_L1 200000 names0 stacks0 l m at_ n (i : Int) s = some o ∧ unloop o = putL names0 stacks0 (l.drop i) at_ n s := by
 intro m
 induction m with
 | zero => intro i at_ n s h; omega
 | succ m ih =>
  intro i at_ n s hm hn hs
  show ∃ o, R06_PutStack_L1_body 200000 names0 stacks0 l _ at_ n (i : Int) s = some o ∧ _
  unfold R06_PutStack_L1_body
  rcases hd : l.drop i with _ | ⟨x, r⟩
  ·have := drop_nil hd
   rw [dec_f (by omega), cond_false]
   exact ⟨_, rfl, rfl⟩
  ·have hlt := drop_lt hd
   rw [hd] at hm hn hs
   simp only [List.length_cons] at hm hn hs
   have hstep := drop_step hd
   rw [dec_t (by omega), cond_true, idxL_drop hd, Option.bind_some, R06_Put_eq (by omega), Option.bind_some]
   have hpl := putS06_len n x
   simp only [putL]
   generalize putS06 n x = q at *
   by_cases h : q.2.2 ≠ 0
   ·rw [bne_t h, cond_true, if_pos h]; exact ⟨_, rfl, rfl⟩
   rw [bne_f (by omega), cond_false, if_neg h, R06_FindStack_eq (by omega), Option.bind_some]
   have hr := findI_range (⟨at_, q.1⟩ : Arr2_Int) s
   by_cases h1 : findI (⟨at_, q.1⟩ : Arr2_Int) 0 s ≠ -1
   ·rw [dec_t (by omega), cond_true, if_pos h1, Option.bind_some]
    simp only
    rw [step64 (by omega), ← hstep]
    exact ih (i + 1) _ _ _ (by rw [hstep]; omega) (by rw [hstep]; omega) (by rw [hstep]; omega)
   rw [dec_f (by omega), cond_false, if_neg h1]
   by_cases h2 : 1000 ≤ s.length
   ·rw [dec_t (by omega), cond_true, if_pos h2]; exact ⟨_, rfl, rfl⟩
   rw [dec_f (by omega), cond_false, if_neg h2, need_t (by simp only [List.length_singleton]; omega), Option.bind_some, Option.bind_some]
   simp only
   rw [step64 (by omega), ← hstep]
   exact ih (i + 1) _ _ _ (by rw [hstep]; omega) (by rw [hstep]; omega) (by rw [hstep]; simp only [List.length_append, List.length_singleton]; omega)
theorem R06_PutStack_eq {names : List (List Int)} {stacks : List Arr2_Int} {l : List (List Int)} (hn : names.length ≤ 50000) (hs : stacks.length ≤ 50000) : R06_PutStack 200000 names stacks l = some (putStackS names stacks l) := by
 unfold R06_PutStack putStackS
 rw [R06_Frames_eq, Option.bind_some]
 by_cases h : framesS l ≠ 0
 ·rw [bne_t h, cond_true, if_pos h]
 have hl : l.length ≤ 32 := by
  unfold framesS at h
  by_cases hc : 32 < l.length
  ·rw [if_pos hc] at h; omega
  ·omega
 rw [bne_f (by omega), cond_false, if_neg h]
 rw [need_t (by simp only [List.length_nil]; omega), Option.bind_some, List.nil_append]
 obtain ⟨o, h1, h2⟩ := R06_PutStack_loop (names0 := names) (stacks0 := stacks) (l := l) (by omega) 200000 0 (-1) names stacks (by simp; omega) (by simp; omega) (by simp; omega)
 rw [show R06_PutStack_L1 200000 names stacks l 200000 (-1) names 0 stacks = some o from h1, Option.bind_some]
 rw [List.drop_zero] at h2
 rw [← h2]
 cases o <;> rfl
def toO (v : Int) : Unit ⊕ Int := if v = 0 then .inl () else .inr v
theorem toO_0 : toO 0 = .inl () := rfl
theorem toO_ne {v : Int} (h : v ≠ 0) : toO v = .inr v := if_neg h
def namesS (seen : List (List Int)) : List (List Int) → Int
 | [] => 0
 | x :: r => if nameS x ≠ 0 then 3 else if x ∈ seen then 4 else namesS (seen ++ [x]) r
theorem checkNames_loop {l : List (List Int)} (hl : l.length ≤ 1000) : intern_checkNames_L1 200000 l 200000 0 [] = some (toO (namesS [] l)) := by
 have := loopL0 (l := l) (fun n i s => intern_checkNames_L1 200000 l n i s) (fun i r _ => toO (namesS (l.take i) r)) (fun i s => Seen s (l.take i)) ?_ ?_ (n := 200000) (s := []) seen_nil (by omega)
 ·simpa using this
 ·intro n i s hi _
  show intern_checkNames_L1_body _ _ _ _ _ = _
  unfold intern_checkNames_L1_body
  simp (disch := omega) only [dec_f, cond_false]; rfl
 ·intro n i s x r hd hlt hS ih
  show intern_checkNames_L1_body _ _ _ _ _ = _
  unfold intern_checkNames_L1_body
  have hs := hS.1
  rw [take_len hd] at hs
  simp only [namesS]
  simp (disch := omega) only [dec_t, cond_true, idxL_drop hd, Option.bind_some, intern_Name_eq, hS.2, need_t, step64]
  rw [ih _ (by rw [take_step hd]; exact seen_put hS x)]
  rcases nameS_03 x with h | h
  ·by_cases h2 : x ∈ l.take i <;> simp [h, h2, take_step hd, toO]
  ·simp [h, toO]
theorem intern_checkNames_eq {l : List (List Int)} (hl : l.length ≤ 1000) : intern_checkNames 200000 l = some (namesS [] l) := by
 unfold intern_checkNames
 rw [checkNames_loop hl, Option.bind_some]
 unfold toO
 by_cases h : namesS [] l = 0
 ·rw [if_pos h, h]
 ·rw [if_neg h]
theorem findI_ge {α : Type} [DecidableEq α] (s : α) (l : List α) : decide (findI s 0 l ≥ 0) = decide (s ∈ l) := by
 rcases findI_spec s l 0 with ⟨h, h2⟩ | ⟨j, h1, h⟩
 ·rw [h]; simp [h2]
 ·rw [h, dec_t (by omega), dec_t (List.mem_of_getElem? h1)]
theorem R06_Check_loop1 {l : List (List Int)} (hl : l.length ≤ 1000) : R06_Check_L1 200000 l 200000 0 = some (toO (namesS [] l)) := by
 have := loopL0 (l := l) (fun n i (_ : Unit) => R06_Check_L1 200000 l n i) (fun i r _ => toO (namesS (l.take i) r)) (fun i s => True) ?_ ?_ (n := 200000) (s := ()) trivial (by omega)
 ·simpa using this
 ·intro n i s hi _
  show R06_Check_L1_body _ _ _ _ = _
  unfold R06_Check_L1_body
  simp (disch := omega) only [dec_f, cond_false]; rfl
 ·intro n i s x r hd hlt hS ih
  show R06_Check_L1_body _ _ _ _ = _
  unfold R06_Check_L1_body
  have ht := List.length_take_le i l
  simp only [namesS]
  simp (disch := omega) only [dec_t, cond_true, idxL_drop hd, Option.bind_some, R06_Name_eq, need_t, step64, sub_take, R06_Find_eq, findI_ge, ih () trivial]
  rcases nameS_03 x with h | h
  ·by_cases h2 : x ∈ l.take i <;> simp [h, h2, take_step hd, toO]
  ·simp [h, toO]
def dOf (ds : List Int) (i : Int) : Int := if i = -1 then 0 else (ds[i.toNat]?).getD 0
def DI (st : List Arr2_Int) (ds : List Int) : Prop := ∀ (j : Nat) (d : Int), ds[j]? = some d → ∃ p, st[j]? = some p ∧ -1 ≤ p.c0 ∧ p.c0 < j ∧ d = 1 + dOf ds p.c0 ∧ 1 ≤ d ∧ d ≤ 32
theorem dOf_app {ds : List Int} {d c : Int} (h : c < ds.length) (h0 : -1 ≤ c) : dOf (ds ++ [d]) c = dOf ds c := by
 unfold dOf
 split
 ·rfl
 ·rw [List.getElem?_append_left (by omega)]
theorem DI.range {st : List Arr2_Int} {ds : List Int} (h : DI st ds) (c : Int) : 0 ≤ dOf ds c ∧ dOf ds c ≤ 32 := by
 unfold dOf
 split
 ·omega
 ·cases hd : ds[c.toNat]? with
  | none => simp
  | some d => obtain ⟨p, _, _, _, _, h1, h2⟩ := h _ _ hd; simp; omega
theorem DI.push {st : List Arr2_Int} {ds : List Int} {p : Arr2_Int} (h : DI st ds) (hp : st[ds.length]? = some p) (h0 : -1 ≤ p.c0) (h1 : p.c0 < ds.length) (h2 : 1 + dOf ds p.c0 ≤ 32) : DI st (ds ++ [1 + dOf ds p.c0]) := by
 intro j d hj
 rcases Nat.lt_or_ge j ds.length with hlt | hge
 ·rw [List.getElem?_append_left hlt] at hj
  obtain ⟨q, h3, h4, h5, h6, h7⟩ := h j d hj
  exact ⟨q, h3, h4, h5, by rw [dOf_app (by omega) h4]; exact h6, h7⟩
 ·have hj' : j = ds.length := by
   have := (List.getElem?_eq_some_iff.1 hj).1
   simp at this; omega
  subst hj'
  simp at hj
  subst hj
  have := h.range p.c0
  exact ⟨p, hp, h0, by omega, by rw [dOf_app h1 h0], by omega, h2⟩
theorem DI.nil {st : List Arr2_Int} : DI st [] := fun j d h => by simp at h
theorem R06_depth_go {st : List Arr2_Int} {ds : List Int} (h : DI st ds) : ∀ (n : Nat) (i acc : Int), -1 ≤ i → i < ds.length → i + 1 < n → 0 ≤ acc → acc + i ≤ 5000 → R06_depth_L1 200000 st n i acc = some (acc + dOf ds i) := by
 intro n
 induction n with
 | zero => intro i acc h0 h1 h2; omega
 | succ n ih =>
  intro i acc h0 h1 h2 h3 h4
  show R06_depth_L1_body _ _ _ _ _ = _
  unfold R06_depth_L1_body
  by_cases hi : i = -1
  ·rw [dec_f (by omega), cond_false, hi]; simp [dOf]
  ·obtain ⟨m, rfl⟩ := Int.eq_ofNat_of_zero_le (show 0 ≤ i by omega)
   obtain ⟨d, hd⟩ : ∃ d, ds[m]? = some d := ⟨ds[m]'(by omega), List.getElem?_eq_getElem _⟩
   obtain ⟨p, hp, k0, k1, k2, k3, k4⟩ := h m d hd
   have key : dOf ds (m : Int) = d := by simp [dOf, hd]
   rw [dec_t (by omega), cond_true, idxL_nat, hp, Option.bind_some, w64 (by omega) (by omega), key, ih p.c0 (acc + 1) k0 (by omega) (by omega) (by omega) (by omega)]
   congr 1; omega
def stackS (nn : Nat) (ds : List Int) (seen : List Arr2_Int) : List Arr2_Int → Int
 | [] => 0
 | p :: r => if p.c0 < -1 ∨ p.c0 ≥ seen.length ∨ p.c1 < 0 ∨ p.c1 ≥ nn then 2 else if p ∈ seen then 4 else if 1 + dOf ds p.c0 > 32 then 7 else stackS nn (ds ++ [1 + dOf ds p.c0]) (seen ++ [p]) r
theorem R06_Check_loop2 {names : List (List Int)} {l : List Arr2_Int} (hl : l.length ≤ 1000) : ∀ (n i : Nat) (ds : List Int), DI l ds → ds.length = i → i ≤ l.length → (l.drop i).length < n → R06_Check_L2 200000 names l n (i : Nat) = some (toO (stackS names.length ds (l.take i) (l.drop i))) := by
 intro n
 induction n with
 | zero => intro i ds _ _ _ h; omega
 | succ n ih =>
  intro i ds hD hdl hil hn
  show R06_Check_L2_body _ _ _ _ _ = _
  unfold R06_Check_L2_body
  rcases hd : l.drop i with _ | ⟨p, r⟩
  ·have := drop_nil hd
   simp (disch := omega) only [dec_f, cond_false]; rfl
  have hlt := drop_lt hd
  have ht := take_len hd
  rw [hd] at hn
  simp only [List.length_cons] at hn
  simp only [stackS, ht]
  simp (disch := omega) only [dec_t, cond_true, idxL_drop hd, Option.bind_some, need_t, sub_take, R06_FindStack_eq, findI_ge]
  by_cases c1 : p.c0 < -1 ∨ p.c0 ≥ i ∨ p.c1 < 0 ∨ p.c1 ≥ names.length
  ·rw [if_pos c1, toO_ne (by decide)]
   have : (decide (p.c0 < (-1 : Int)) || (decide (p.c0 ≥ (i : Int)) || (decide (p.c1 < (0 : Int)) || decide (p.c1 ≥ ((names.length : Nat) : Int))))) = true := by simpa using c1
   rw [this]; rfl
  ·rw [if_neg c1]
   simp (disch := omega) only [dec_f, Bool.or_false, cond_false]
   by_cases c2 : p ∈ l.take i
   ·rw [if_pos c2, dec_t c2]; rfl
   ·rw [if_neg c2, dec_f c2, cond_false]
    unfold R06_depth
    have hr := hD.range p.c0
    have hdep : R06_depth_L1 200000 l 200000 (i : Int) 0 = some (1 + dOf ds p.c0) := by
     show R06_depth_L1_body _ _ _ _ _ = _
     unfold R06_depth_L1_body
     simp (disch := omega) only [dec_t, cond_true, idxL_drop hd, Option.bind_some, w64]
     rw [R06_depth_go hD _ _ _ (by omega) (by omega) (by omega) (by omega) (by omega)]; rfl
    rw [hdep, Option.bind_some, Option.bind_some]
    by_cases c3 : 1 + dOf ds p.c0 > 32
    ·rw [if_pos c3, dec_t c3]; rfl
    ·rw [if_neg c3, dec_f c3, cond_false, step64 (by omega), ih (i + 1) (ds ++ [1 + dOf ds p.c0]) (hD.push (by rw [hdl]; exact get_drop hd) (by omega) (by omega) (by omega)) (by simp [hdl]) (by omega) (by rw [drop_step hd]; omega), take_step hd, drop_step hd]
theorem R06_Check_eq {names : List (List Int)} {l : List Arr2_Int} : R06_Check 200000 names l = some (if 1000 < names.length ∨ 1000 < l.length then 7 else if namesS [] names ≠ 0 then namesS [] names else stackS names.length [] [] l) := by
 unfold R06_Check
 by_cases h : 1000 < names.length ∨ 1000 < l.length
 ·rw [if_pos h]
  have : (decide ((((names).length : Nat) : Int) > (1000 : Int)) || decide ((((l).length : Nat) : Int) > (1000 : Int))) = true := by simp; omega
  rw [this]; rfl
 rw [if_neg h]
 simp (disch := omega) only [dec_f, Bool.or_false, cond_false]
 rw [R06_Check_loop1 (by omega), Option.bind_some]
 by_cases h1 : namesS [] names ≠ 0
 ·rw [toO_ne h1, if_pos h1]
 have h1' : namesS [] names = 0 := by omega
 have := R06_Check_loop2 (names := names) (l := l) (by omega) 200000 0 [] DI.nil rfl (by omega) (by simp; omega)
 rw [h1', toO_0, if_neg (by omega)]
 simp only
 rw [show R06_Check_L2 200000 names l 200000 0 = _ from this]
 simp only [List.take_zero, List.drop_zero, Option.bind_some]
 generalize stackS names.length [] [] l = v
 unfold toO
 by_cases hv : v = 0
 ·rw [if_pos hv, hv]
 ·rw [if_neg hv]
theorem take_set_succ {α : Type} {l : List α} {i : Nat} (v : α) (h : i < l.length) : (l.set i v).take (i + 1) = l.take i ++ [v] := by
 rw [List.take_add_one, List.take_set_of_le (Nat.le_refl _), List.getElem?_set_self h]; rfl
theorem intern_Check_loop {names : List (List Int)} {l : List Arr2_Int} (hl : l.length ≤ 1000) : ∀ (n i : Nat) (s : List (Arr2_Int × Bool)) (t : List Int), Seen s (l.take i) → t.length = l.length → DI l (t.take i) → i ≤ l.length → (l.drop i).length < n → intern_Check_L1 200000 names l n (i : Nat) s t = some (toO (stackS names.length (t.take i) (l.take i) (l.drop i))) := by
 intro n
 induction n with
 | zero => intro i s t _ _ _ _ h; omega
 | succ n ih =>
  intro i s t hS htl hD hil hn
  show intern_Check_L1_body _ _ _ _ _ _ _ = _
  unfold intern_Check_L1_body
  rcases hd : l.drop i with _ | ⟨p, r⟩
  ·have := drop_nil hd
   simp (disch := omega) only [dec_f, cond_false]; rfl
  have hlt := drop_lt hd
  have ht := take_len hd
  have hs := hS.1
  rw [ht] at hs
  rw [hd] at hn
  simp only [List.length_cons] at hn
  simp only [stackS, ht]
  obtain ⟨y, hy⟩ : ∃ y, t[i]? = some y := ⟨t[i]'(by omega), List.getElem?_eq_getElem _⟩
  simp (disch := omega) only [dec_t, cond_true, idxL_drop hd, Option.bind_some, hS.2, need_t, idxL_nat, hy]
  by_cases c1 : p.c0 < -1 ∨ p.c0 ≥ i ∨ p.c1 < 0 ∨ p.c1 ≥ names.length
  ·rw [if_pos c1, toO_ne (by decide)]
   have : (decide (p.c0 < (-1 : Int)) || (decide (p.c0 ≥ (i : Int)) || (decide (p.c1 < (0 : Int)) || decide (p.c1 ≥ ((names.length : Nat) : Int))))) = true := by simpa using c1
   rw [this]; rfl
  ·rw [if_neg c1]
   simp (disch := omega) only [dec_f, Bool.or_false, cond_false]
   by_cases c2 : p ∈ l.take i
   ·rw [if_pos c2, dec_t c2]; rfl
   ·rw [if_neg c2, dec_f c2, cond_false]
    have hr := hD.range p.c0
    have htt : (t.take i).length = i := by rw [List.length_take]; omega
    have hstep : ((bif (p.c0 != (-1 : Int)) then ((t.set ((i : Int)).toNat (1 : Int))[i]?).bind fun x_3 => (idxL (t.set ((i : Int)).toNat (1 : Int)) p.c0).bind fun x_4 => ((t.set ((i : Int)).toNat (1 : Int))[i]?).bind fun x_5 =>
      some ((t.set ((i : Int)).toNat (1 : Int)).set ((i : Int)).toNat (w_i64 (x_3 + x_4))) else some (t.set ((i : Int)).toNat (1 : Int))) : Option (List Int)) = some (t.set i (1 + dOf (t.take i) p.c0)) := by
     rw [Int.toNat_natCast]
     by_cases hc : p.c0 = -1
     ·rw [bne_f hc, cond_false]; simp [dOf, hc]
     ·rw [bne_t hc, cond_true, List.getElem?_set_self (by omega), Option.bind_some]
      have e : idxL (t.set i 1) p.c0 = some (dOf (t.take i) p.c0) := by
       obtain ⟨m, hm⟩ := Int.eq_ofNat_of_zero_le (show 0 ≤ p.c0 by omega)
       rw [hm, idxL_nat, List.getElem?_set_ne (by omega)]
       have : (t.take i)[m]? = t[m]? := by rw [List.getElem?_take_of_lt (by omega)]
       have hml : m < t.length := by omega
       simp only [dOf]
       rw [if_neg (by omega), Int.toNat_natCast, this, List.getElem?_eq_getElem hml]; rfl
      rw [e, Option.bind_some, Option.bind_some, w64 (by omega) (by omega), List.set_set]
    rw [hstep, Option.bind_some, List.getElem?_set_self (by omega), Option.bind_some]
    by_cases c3 : 1 + dOf (t.take i) p.c0 > 32
    ·rw [if_pos c3, dec_t c3]; rfl
    ·rw [if_neg c3, dec_f c3, cond_false, step64 (by omega)]
     have hts := take_set_succ (i := i) (1 + dOf (t.take i) p.c0) (show i < t.length by omega)
     rw [ih (i + 1) _ _ (by rw [take_step hd]; exact seen_put hS p) (by simp [htl]) (by rw [hts]; exact hD.push (by rw [htt]; exact get_drop hd) (by omega) (by omega) (by omega)) (by omega) (by rw [drop_step hd]; omega), take_step hd, drop_step hd, hts]
def checkS (names : List (List Int)) (l : List Arr2_Int) : Int := if 1000 < names.length ∨ 1000 < l.length then 7 else if namesS [] names ≠ 0 then namesS [] names else stackS names.length [] [] l
theorem intern_Check_eq {names : List (List Int)} {l : List Arr2_Int} : intern_Check 200000 names l = some (checkS names l) := by
 unfold intern_Check checkS
 by_cases h : 1000 < names.length ∨ 1000 < l.length
 ·rw [if_pos h]
  have : (decide ((((names).length : Nat) : Int) > (1000 : Int)) || decide ((((l).length : Nat) : Int) > (1000 : Int))) = true := by simp; omega
  rw [this]; rfl
 rw [if_neg h]
 simp (disch := omega) only [dec_f, Bool.or_false, cond_false]
 rw [intern_checkNames_eq (by omega), Option.bind_some]
 by_cases h1 : namesS [] names ≠ 0
 ·rw [bne_t h1, if_pos h1]; rfl
 have h1' : namesS [] names = 0 := by omega
 have := intern_Check_loop (names := names) (l := l) (by omega) 200000 0 [] (List.replicate l.length 0) seen_nil (by simp) DI.nil (by omega) (by simp; omega)
 rw [h1', bne_f rfl, cond_false, if_neg (by omega), need_t (by omega), Option.bind_some]
 rw [show intern_Check_L1 200000 names l 200000 0 [] (List.replicate l.length 0) = _ from this]
 simp only [List.take_zero, List.drop_zero, Option.bind_some]
 generalize stackS names.length [] [] l = v
 unfold toO
 by_cases hv : v = 0
 ·rw [if_pos hv, hv]
 ·rw [if_neg hv]
def dsF (l : List Arr2_Int) : List Int := l.foldl (fun ds p => ds ++ [1 + dOf ds p.c0]) []
theorem foldl_len : ∀ (l : List Arr2_Int) (ds : List Int), (l.foldl (fun ds p => ds ++ [1 + dOf ds p.c0]) ds).length = ds.length + l.length := by
 intro l
 induction l with
 | nil => intro ds; rfl
 | cons p r ih => intro ds; rw [List.foldl_cons, ih]; simp; omega
theorem dsF_len (l : List Arr2_Int) : (dsF l).length = l.length := by simp [dsF, foldl_len]
theorem dsF_snoc (l : List Arr2_Int) (p : Arr2_Int) : dsF (l ++ [p]) = dsF l ++ [1 + dOf (dsF l) p.c0] := by simp [dsF]
theorem namesS_zero : ∀ (l seen : List (List Int)), namesS seen l = 0 ↔ (∀ x ∈ l, nameS x = 0 ∧ x ∉ seen) ∧ l.Nodup := by
 intro l
 induction l with
 | nil => intro seen; simp [namesS]
 | cons x r ih =>
  intro seen
  simp only [namesS]
  by_cases h : nameS x ≠ 0
  ·rw [if_pos h]; simp [h]
  rw [if_neg h]
  by_cases h2 : x ∈ seen
  ·rw [if_pos h2]; simp [h2]
  rw [if_neg h2, ih]
  simp only [List.mem_cons, List.nodup_cons, forall_eq_or_imp, List.mem_append, List.not_mem_nil, or_false, not_or]
  constructor
  ·rintro ⟨h3, h4⟩
   exact ⟨⟨⟨by omega, h2⟩, fun y hy => ⟨(h3 y hy).1, (h3 y hy).2.1⟩⟩, fun hx => (h3 x hx).2.2 rfl, h4⟩
  ·rintro ⟨⟨_, h3⟩, h4, h5⟩
   exact ⟨fun y hy => ⟨(h3 y hy).1, (h3 y hy).2, fun e => h4 (e ▸ hy)⟩, h5⟩
structure PairOk (nn k : Nat) (ds : List Int) (seen : List Arr2_Int) (p : Arr2_Int) : Prop where
 lo : -1 ≤ p.c0
 hi : p.c0 < k
 lo1 : 0 ≤ p.c1
 hi1 : p.c1 < nn
 new : p ∉ seen
 deep : 1 + dOf ds p.c0 ≤ 32
theorem stackS_snoc {nn : Nat} : ∀ (r : List Arr2_Int) (ds : List Int) (seen : List Arr2_Int) (p : Arr2_Int), stackS nn ds seen (r ++ [p]) = 0 ↔ stackS nn ds seen r = 0 ∧ PairOk nn (seen ++ r).length (r.foldl (fun ds p => ds ++ [1 + dOf ds p.c0]) ds) (seen ++ r) p := by
 intro r
 induction r with
 | nil =>
  intro ds seen p
  simp only [List.nil_append, stackS, List.append_nil, List.foldl_nil, true_and]
  constructor
  ·intro h
   split at h
   ·cases h
   split at h
   ·cases h
   split at h
   ·cases h
   exact ⟨by omega, by omega, by omega, by omega, by assumption, by omega⟩
  ·rintro ⟨h1, h2, h3, h4, h5, h6⟩
   rw [if_neg (by omega), if_neg h5, if_neg (by omega)]
 | cons q r ih =>
  intro ds seen p
  simp only [List.cons_append, stackS, List.foldl_cons]
  split
  ·simp
  split
  ·simp
  split
  ·simp
  rw [ih]; simp
theorem stackS_mono {nn mm : Nat} (h : nn ≤ mm) : ∀ (r : List Arr2_Int) (ds : List Int) (seen : List Arr2_Int), stackS nn ds seen r = 0 → stackS mm ds seen r = 0 := by
 intro r
 induction r with
 | nil => intro ds seen _; rfl
 | cons q r ih =>
  intro ds seen hz
  simp only [stackS] at hz ⊢
  split at hz
  ·cases hz
  rename_i h1
  rw [if_neg (by omega)]
  split at hz
  ·cases hz
  rename_i h2
  rw [if_neg h2]
  split at hz
  ·cases hz
  rename_i h3
  rw [if_neg h3]
  exact ih _ _ hz
structure Good (n : List (List Int)) (s : List Arr2_Int) : Prop where
 n1 : n.length ≤ 1000
 s1 : s.length ≤ 1000
 names : namesS [] n = 0
 st : stackS n.length [] [] s = 0
theorem good_iff {n : List (List Int)} {s : List Arr2_Int} : checkS n s = 0 ↔ Good n s := by
 unfold checkS
 constructor
 ·intro h
  split at h
  ·cases h
  split at h
  ·omega
  exact ⟨by omega, by omega, by omega, h⟩
 ·rintro ⟨h1, h2, h3, h4⟩
  rw [if_neg (by omega), if_neg (by omega), h4]
theorem Good.nodup {n : List (List Int)} {s : List Arr2_Int} (h : Good n s) : n.Nodup := ((namesS_zero _ _).1 h.names).2
theorem Good.valid {n : List (List Int)} {s : List Arr2_Int} (h : Good n s) {x : List Int} (hx : x ∈ n) : nameS x = 0 := (((namesS_zero _ _).1 h.names).1 x hx).1
theorem Good.name {n : List (List Int)} {s : List Arr2_Int} (h : Good n s) {x : List Int} (hx : nameS x = 0) (hn : x ∉ n) (hl : n.length < 1000) : Good (n ++ [x]) s := by
 refine ⟨by simp; omega, h.s1, ?_, stackS_mono (by simp) _ _ _ h.st⟩
 rw [namesS_zero]
 have h2 := (namesS_zero _ _).1 h.names
 refine ⟨fun y hy => ⟨?_, by simp⟩, ?_⟩
 ·rcases List.mem_append.1 hy with hy | hy
  ·exact h.valid hy
  ·simp at hy; rw [hy]; exact hx
 ·rw [List.nodup_append]
  exact ⟨h.nodup, by simp, fun a ha b hb => by simp at hb; rw [hb]; exact fun e => hn (e ▸ ha)⟩
theorem Good.push {n : List (List Int)} {s : List Arr2_Int} {p : Arr2_Int} (h : Good n s) (hp : PairOk n.length s.length (dsF s) s p) (hl : s.length < 1000) : Good n (s ++ [p]) :=
 ⟨h.n1, by simp; omega, h.names, by rw [stackS_snoc]; exact ⟨h.st, by rw [List.nil_append]; exact hp⟩⟩
theorem stackS_pairs {nn : Nat} (s : List Arr2_Int) (h : stackS nn [] [] s = 0) : ∀ (i : Nat), i < s.length → ∃ p, s[i]? = some p ∧ PairOk nn i (dsF (s.take i)) (s.take i) p := by
 intro i hi
 have e : s = s.take i ++ (s[i] :: s.drop (i + 1)) := by simp
 have : ∀ (m : Nat) (r : List Arr2_Int), r.length = m → stackS nn [] [] (s.take i ++ s[i] :: r) = 0 → stackS nn [] [] (s.take i ++ [s[i]]) = 0 := by
  intro m
  induction m with
  | zero => intro r hr h; rw [List.length_eq_zero_iff.1 hr] at h; exact h
  | succ m ih =>
   intro r hr h
   rcases List.eq_nil_or_concat r with h0 | ⟨r', y, h0⟩
   ·rw [h0] at hr; simp at hr
   ·rw [h0] at h hr
    simp at hr
    rw [show s.take i ++ s[i] :: r'.concat y = (s.take i ++ s[i] :: r') ++ [y] by simp] at h
    exact ih r' hr ((stackS_snoc _ _ _ _).1 h).1
 have h2 := (stackS_snoc _ _ _ _).1 (this _ _ rfl (by rw [← e]; exact h))
 refine ⟨s[i], List.getElem?_eq_getElem hi, ?_⟩
 have h3 := h2.2
 simp only [List.nil_append, List.length_take, Nat.min_eq_left (Nat.le_of_lt hi)] at h3
 exact h3
theorem dsF_take (s : List Arr2_Int) (i : Nat) : dsF (s.take i) = (dsF s).take i := by
 induction i with
 | zero => rfl
 | succ i ih =>
  rcases hd : s.drop i with _ | ⟨x, r⟩
  ·have := drop_nil hd
   rw [List.take_of_length_le (by omega), List.take_of_length_le (by rw [dsF_len]; omega)]
  ·have e : s = s.take i ++ ([x] ++ r) := by rw [List.singleton_append, ← hd, List.take_append_drop]
   have hlt := drop_lt hd
   have e2 : ∃ t, dsF s = dsF (s.take i ++ [x]) ++ t := by
    have hg : ∀ (r : List Arr2_Int) (ds : List Int), ∃ t, r.foldl (fun ds p => ds ++ [1 + dOf ds p.c0]) ds = ds ++ t := by
     intro r
     induction r with
     | nil => intro ds; exact ⟨[], by simp⟩
     | cons y r ih2 => intro ds; obtain ⟨t, ht⟩ := ih2 (ds ++ [1 + dOf ds y.c0]); exact ⟨_, by rw [List.foldl_cons, ht, List.append_assoc]⟩
    have : dsF s = r.foldl (fun ds p => ds ++ [1 + dOf ds p.c0]) (dsF (s.take i ++ [x])) := by
     have h3 : dsF (s.take i ++ [x] ++ r) = r.foldl (fun ds p => ds ++ [1 + dOf ds p.c0]) (dsF (s.take i ++ [x])) := by unfold dsF; rw [List.foldl_append]
     rwa [List.append_assoc, ← e] at h3
    rw [this]; exact hg _ _
   obtain ⟨t, ht⟩ := e2
   rw [take_step hd, ht, List.take_append_of_le_length (by simp [dsF_len]; omega)]
   exact (List.take_of_length_le (by simp [dsF_len]; omega)).symm
theorem dOf_take {ds : List Int} {i : Nat} {c : Int} (h : c < i) (h0 : -1 ≤ c) : dOf (ds.take i) c = dOf ds c := by
 unfold dOf
 split
 ·rfl
 ·rw [List.getElem?_take_of_lt (by omega)]
theorem Good.pair {n : List (List Int)} {s : List Arr2_Int} (h : Good n s) {i : Nat} {p : Arr2_Int} (hp : s[i]? = some p) :
  -1 ≤ p.c0 ∧ p.c0 < i ∧ 0 ≤ p.c1 ∧ p.c1 < n.length ∧ dOf (dsF s) (i : Int) = 1 + dOf (dsF s) p.c0 ∧ dOf (dsF s) (i : Int) ≤ 32 ∧ p ∉ s.take i := by
 have hi : i < s.length := (List.getElem?_eq_some_iff.1 hp).1
 obtain ⟨q, hq, h1, h2, h3, h4, h5, h6⟩ := stackS_pairs s h.st i hi
 rw [hp] at hq; injection hq with hq; subst hq
 rw [dsF_take, dOf_take h2 h1] at h6
 have e : dOf (dsF s) (i : Int) = 1 + dOf (dsF s) p.c0 := by
  have e1 : dsF (s.take (i + 1)) = dsF (s.take i) ++ [1 + dOf (dsF (s.take i)) p.c0] := by
   rw [List.take_add_one, hp]; exact dsF_snoc _ _
  have e2 : (dsF s)[i]? = some (1 + dOf (dsF s) p.c0) := by
   have : ((dsF s).take (i + 1))[i]? = (dsF s)[i]? := List.getElem?_take_of_lt (by omega)
   rw [← this, ← dsF_take, e1, dsF_take, dOf_take h2 h1]
   have hl : ((dsF s).take i).length = i := by rw [List.length_take, dsF_len]; omega
   rw [List.getElem?_append_right (by omega), hl]; simp
  unfold dOf
  rw [if_neg (by omega), Int.toNat_natCast, e2]; rfl
 exact ⟨h1, h2, h3, h4, e, by omega, h5⟩
theorem Good.snodup {n : List (List Int)} {s : List Arr2_Int} (h : Good n s) {i j : Nat} {p : Arr2_Int} (hi : s[i]? = some p) (hj : s[j]? = some p) : i = j := by
 rcases Nat.lt_trichotomy i j with hlt | he | hlt
 ·exact absurd (List.mem_of_getElem? (show (s.take j)[i]? = some p by rw [List.getElem?_take_of_lt hlt]; exact hi)) (h.pair hj).2.2.2.2.2.2
 ·exact he
 ·exact absurd (List.mem_of_getElem? (show (s.take i)[j]? = some p by rw [List.getElem?_take_of_lt hlt]; exact hj)) (h.pair hi).2.2.2.2.2.2
theorem Good.depth0 {n : List (List Int)} {s : List Arr2_Int} (h : Good n s) {c : Int} (h0 : -1 ≤ c) (h1 : c < s.length) : 0 ≤ dOf (dsF s) c ∧ dOf (dsF s) c ≤ 32 ∧ (dOf (dsF s) c = 0 ↔ c = -1) := by
 have key : ∀ (m : Nat) (c : Int), c + 1 < m → -1 ≤ c → c < s.length → 0 ≤ dOf (dsF s) c ∧ dOf (dsF s) c ≤ 32 ∧ (dOf (dsF s) c = 0 ↔ c = -1) := by
  intro m
  induction m with
  | zero => intro c h1 h2; omega
  | succ m ih =>
   intro c h1 h2 h3
   by_cases hc : c = -1
   ·subst hc; simp [dOf]
   ·obtain ⟨i, rfl⟩ := Int.eq_ofNat_of_zero_le (show 0 ≤ c by omega)
    have hi : i < s.length := by omega
    obtain ⟨k1, k2, k3, k4, k5, k6, k7⟩ := h.pair (List.getElem?_eq_getElem hi)
    have := ih (s[i]).c0 (by omega) k1 (by omega)
    omega
 exact key (c.toNat + 3) c (by omega) h0 h1
def pathN (n : List (List Int)) (s : List Arr2_Int) : Nat → Int → List (List Int)
 | 0, _ => []
 | k + 1, i => if i < 0 then [] else match s[i.toNat]? with
  | none => []
  | some p => (n[p.c1.toNat]?).getD [] :: pathN n s k p.c0
theorem pre_get {α : Type} {l m : List α} (h : l <+: m) {i : Nat} {x : α} (hx : l[i]? = some x) : m[i]? = some x := by
 obtain ⟨t, rfl⟩ := h
 rw [List.getElem?_append_left (List.getElem?_eq_some_iff.1 hx).1]; exact hx
theorem putS06_good {n : List (List Int)} {s : List Arr2_Int} {x : List Int} (h : Good n s) (hx : nameS x = 0) :
  ((putS06 n x).2.2 = 6 ∧ x ∉ n ∧ n.length = 1000) ∨ ((putS06 n x).2.2 = 0 ∧ (∃ a : Nat, (putS06 n x).1 = a ∧ (putS06 n x).2.1[a]? = some x) ∧ Good (putS06 n x).2.1 s ∧ n <+: (putS06 n x).2.1 ∧ (x ∈ n → (putS06 n x).2.1 = n)) := by
 unfold putS06
 have hn1 := h.n1
 rw [if_neg (by omega)]
 rcases findI_spec x n 0 with ⟨h1, h2⟩ | ⟨j, h1, h2⟩
 ·rw [if_neg (by omega)]
  by_cases h3 : 1000 ≤ n.length
  ·rw [if_pos h3]; exact .inl ⟨rfl, h2, by omega⟩
  ·rw [if_neg h3]
   exact .inr ⟨rfl, ⟨n.length, rfl, by simp⟩, h.name hx h2 (by omega), List.prefix_append _ _, fun hm => absurd hm h2⟩
 ·rw [if_pos (by omega)]
  exact .inr ⟨rfl, ⟨j, by rw [h2]; simp, h1⟩, h, List.prefix_refl _, fun _ => rfl⟩
def Has (n : List (List Int)) (s : List Arr2_Int) : Int → List (List Int) → Int → Prop
 | at_, [], i => i = at_
 | at_, x :: r, i => ∃ a b : Nat, n[a]? = some x ∧ s[b]? = some ⟨at_, (a : Int)⟩ ∧ Has n s (b : Int) r i
theorem Has.mono {n n' : List (List Int)} {s s' : List Arr2_Int} (hn : n <+: n') (hs : s <+: s') : ∀ {l : List (List Int)} {at_ i : Int}, Has n s at_ l i → Has n' s' at_ l i := by
 intro l
 induction l with
 | nil => intro at_ i h; exact h
 | cons x r ih =>
  rintro at_ i ⟨a, b, h1, h2, h3⟩
  exact ⟨a, b, pre_get hn h1, pre_get hs h2, ih h3⟩
theorem dOf_last {s : List Arr2_Int} {p : Arr2_Int} : dOf (dsF (s ++ [p])) (s.length : Int) = 1 + dOf (dsF s) p.c0 := by
 rw [dsF_snoc]
 unfold dOf
 rw [if_neg (by omega), Int.toNat_natCast, List.getElem?_append_right (by rw [dsF_len]; exact Nat.le_refl _), dsF_len]
 simp
theorem putL_good {n0 : List (List Int)} {s0 : List Arr2_Int} : ∀ (l : List (List Int)) (at_ : Int) (n : List (List Int)) (s : List Arr2_Int), Good n s → (∀ x ∈ l, nameS x = 0) → -1 ≤ at_ → at_ < s.length → dOf (dsF s) at_ + l.length ≤ 32 →
  ((putL n0 s0 l at_ n s).2.2.2 ≠ 0 ∧ putL n0 s0 l at_ n s = (0, n0, s0, (putL n0 s0 l at_ n s).2.2.2)) ∨
  ((putL n0 s0 l at_ n s).2.2.2 = 0 ∧ Good (putL n0 s0 l at_ n s).2.1 (putL n0 s0 l at_ n s).2.2.1 ∧ n <+: (putL n0 s0 l at_ n s).2.1 ∧ s <+: (putL n0 s0 l at_ n s).2.2.1 ∧
   Has (putL n0 s0 l at_ n s).2.1 (putL n0 s0 l at_ n s).2.2.1 at_ l (putL n0 s0 l at_ n s).1 ∧ -1 ≤ (putL n0 s0 l at_ n s).1 ∧ (putL n0 s0 l at_ n s).1 < (putL n0 s0 l at_ n s).2.2.1.length) := by
 intro l
 induction l with
 | nil => intro at_ n s h hv h0 h1 h2; exact .inr ⟨rfl, h, List.prefix_refl _, List.prefix_refl _, rfl, h0, h1⟩
 | cons x r ih =>
  intro at_ n s h hv h0 h1 h2
  simp only [List.length_cons] at h2
  have hd0 := h.depth0 h0 h1
  simp only [putL]
  rcases putS06_good h (hv x (by simp)) with ⟨k1, _, _⟩ | ⟨k1, ⟨a, k2, k3⟩, k4, k5, _⟩
  ·rw [k1, if_pos (by decide)]; exact .inl ⟨(by decide : (6 : Int) ≠ 0), rfl⟩
  rw [k1, if_neg (by decide), k2]
  have hal : (a : Int) < (putS06 n x).2.1.length := by have := (List.getElem?_eq_some_iff.1 k3).1; omega
  rcases findI_spec (⟨at_, (a : Int)⟩ : Arr2_Int) s 0 with ⟨g1, g2⟩ | ⟨j, g1, g2⟩
  ·rw [g1, if_neg (by decide)]
   by_cases hf : 1000 ≤ s.length
   ·rw [if_pos hf]; exact .inl ⟨(by decide : (6 : Int) ≠ 0), rfl⟩
   rw [if_neg hf]
   have hg2 : Good (putS06 n x).2.1 (s ++ [⟨at_, (a : Int)⟩]) := k4.push ⟨h0, h1, Int.natCast_nonneg _, hal, g2, by simp only; omega⟩ (by omega)
   have hl := dOf_last (s := s) (p := ⟨at_, (a : Int)⟩)
   rcases ih (s.length : Int) _ _ hg2 (fun y hy => hv y (by simp [hy])) (by omega) (by simp; omega) (by rw [hl]; simp only; omega) with h3 | ⟨h3, h4, h5, h6, h7, h8⟩
   ·exact .inl h3
   ·exact .inr ⟨h3, h4, k5.trans h5, (List.prefix_append _ _).trans h6, ⟨a, s.length, pre_get h5 k3, pre_get h6 (by simp), h7⟩, h8⟩
  ·rw [g2, Nat.zero_add, if_pos (by omega)]
   have hp := h.pair g1
   have hjl := (List.getElem?_eq_some_iff.1 g1).1
   simp only at hp
   rcases ih (j : Int) _ _ k4 (fun y hy => hv y (by simp [hy])) (by omega) (by omega) (by omega) with h3 | ⟨h3, h4, h5, h6, h7, h8⟩
   ·exact .inl h3
   ·exact .inr ⟨h3, h4, k5.trans h5, h6, ⟨a, j, pre_get h5 k3, pre_get h6 g1, h7⟩, h8⟩
theorem findI_of {α : Type} [DecidableEq α] {l : List α} {x : α} (hu : ∀ i j : Nat, l[i]? = some x → l[j]? = some x → i = j) {a : Nat} (h : l[a]? = some x) : findI x 0 l = (a : Int) := by
 rcases findI_spec x l 0 with ⟨_, h2⟩ | ⟨j, h1, h2⟩
 ·exact absurd (List.mem_of_getElem? h) h2
 ·rw [h2, Nat.zero_add, hu _ _ h1 h]
theorem nodup_get {α : Type} {l : List α} (h : l.Nodup) {x : α} : ∀ i j : Nat, l[i]? = some x → l[j]? = some x → i = j := by
 intro i j hi hj
 obtain ⟨h1, h2⟩ := List.getElem?_eq_some_iff.1 hi
 obtain ⟨h3, h4⟩ := List.getElem?_eq_some_iff.1 hj
 exact (List.getElem_inj h).1 (h2.trans h4.symm)
theorem putL_has {n0 : List (List Int)} {s0 : List Arr2_Int} {n : List (List Int)} {s : List Arr2_Int} (h : Good n s) : ∀ (l : List (List Int)) (at_ i : Int), Has n s at_ l i → putL n0 s0 l at_ n s = (i, n, s, 0) := by
 intro l
 induction l with
 | nil => intro at_ i hi; simp only [Has] at hi; simp only [putL, hi]
 | cons x r ih =>
  rintro at_ i ⟨a, b, h1, h2, h3⟩
  have e : putS06 n x = ((a : Int), n, 0) := by
   have hv := h.valid (List.mem_of_getElem? h1)
   unfold putS06
   rw [if_neg (by omega), findI_of (nodup_get h.nodup) h1, if_pos (by omega)]
  simp only [putL]
  rw [e]
  simp only
  rw [if_neg (by decide), findI_of (fun i j hi hj => h.snodup hi hj) h2, if_pos (by omega)]
  exact ih _ _ h3
theorem Has.fn {n : List (List Int)} {s : List Arr2_Int} (h : Good n s) : ∀ {l : List (List Int)} {at_ i j : Int}, Has n s at_ l i → Has n s at_ l j → i = j := by
 intro l at_ i j h1 h2
 have e1 := putL_has (n0 := []) (s0 := []) h l at_ i h1
 have e2 := putL_has (n0 := []) (s0 := []) h l at_ j h2
 rw [e1] at e2
 exact (Prod.mk.inj e2).1
theorem Has.path {n : List (List Int)} {s : List Arr2_Int} : ∀ {l : List (List Int)} {at_ i : Int} {k : Nat}, Has n s at_ l i → pathN n s (k + l.length) i = l.reverse ++ pathN n s k at_ := by
 intro l
 induction l with
 | nil => intro at_ i k h; simp only [Has] at h; simp [h]
 | cons x r ih =>
  rintro at_ i k ⟨a, b, h1, h2, h3⟩
  have := ih (k := k + 1) h3
  rw [show k + (x :: r).length = k + 1 + r.length by simp only [List.length_cons]; omega, this]
  simp only [pathN]
  rw [if_neg (by omega), Int.toNat_natCast, h2]
  simp [h1]
theorem pathN_none (n : List (List Int)) (s : List Arr2_Int) (k : Nat) : pathN n s k (-1) = [] := by
 cases k <;> simp [pathN]
theorem Has.list {n : List (List Int)} {s : List Arr2_Int} {l : List (List Int)} {i : Int} (h : Has n s (-1) l i) (hl : l.length ≤ 32) : (pathN n s 32 i).reverse = l := by
 have := Has.path (k := 32 - l.length) h
 rw [Nat.sub_add_cancel hl, pathN_none, List.append_nil] at this
 rw [this, List.reverse_reverse]
theorem Has.names {n : List (List Int)} {s : List Arr2_Int} : ∀ {l : List (List Int)} {at_ i : Int}, Has n s at_ l i → ∀ x ∈ l, x ∈ n := by
 intro l
 induction l with
 | nil => intro at_ i _ x hx; cases hx
 | cons y r ih =>
  rintro at_ i ⟨a, b, h1, h2, h3⟩ x hx
  rcases List.mem_cons.1 hx with rfl | hx
  ·exact List.mem_of_getElem? h1
  ·exact ih h3 x hx
theorem framesS_zero {l : List (List Int)} : framesS l = 0 ↔ l.length ≤ 32 ∧ ∀ x ∈ l, nameS x = 0 := by
 unfold framesS
 by_cases h : 32 < l.length
 ·rw [if_pos h]; constructor
  ·intro h; cases h
  ·omega
 rw [if_neg h]
 by_cases h2 : l.all (fun s => decide (nameS s = 0)) = true
 ·rw [if_pos h2]; simp at h2; exact ⟨fun _ => ⟨by omega, h2⟩, fun _ => rfl⟩
 ·rw [if_neg h2]; simp only [List.all_eq_true, decide_eq_true_eq] at h2
  constructor
  ·intro h; cases h
  ·intro h3; exact absurd h3.2 h2
theorem putStackS_good {n : List (List Int)} {s : List Arr2_Int} {l : List (List Int)} (h : Good n s) :
  ((putStackS n s l).2.2.2 ≠ 0 ∧ putStackS n s l = (0, n, s, (putStackS n s l).2.2.2)) ∨
  ((putStackS n s l).2.2.2 = 0 ∧ l.length ≤ 32 ∧ (∀ x ∈ l, nameS x = 0) ∧ Good (putStackS n s l).2.1 (putStackS n s l).2.2.1 ∧ n <+: (putStackS n s l).2.1 ∧ s <+: (putStackS n s l).2.2.1 ∧
   Has (putStackS n s l).2.1 (putStackS n s l).2.2.1 (-1) l (putStackS n s l).1 ∧ -1 ≤ (putStackS n s l).1 ∧ (putStackS n s l).1 < (putStackS n s l).2.2.1.length) := by
 unfold putStackS
 by_cases hf : framesS l ≠ 0
 ·rw [if_pos hf]; exact .inl ⟨hf, rfl⟩
 rw [if_neg hf]
 obtain ⟨hl, hv⟩ := framesS_zero.1 (show framesS l = 0 by omega)
 rcases putL_good (n0 := n) (s0 := s) l (-1) n s h hv (by omega) (by omega) (by simp [dOf]; omega) with h1 | ⟨h1, h2⟩
 ·exact .inl h1
 ·exact .inr ⟨h1, hl, hv, h2⟩
end Go.Ab
