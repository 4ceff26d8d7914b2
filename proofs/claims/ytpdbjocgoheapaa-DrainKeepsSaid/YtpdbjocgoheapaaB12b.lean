/- Plain laws of the functions below this seat's, laid anew from another seat's text. No conditions but those that the theorems name. -/
import Derived.Test.YtpdbjocgoheapaaP12xD
import Derived.Test.YtpdbjocgoheapaaA30
namespace Go.Ab
open Go
set_option linter.unusedVariables false
def signs06 : List Int := [95, 46, 58, 47, 60, 62, 36, 42, 126, 45]
def letterB (c : Int) : Bool := decide (97 ≤ c ∧ c ≤ 122) || decide (65 ≤ c ∧ c ≤ 90) || decide (48 ≤ c ∧ c ≤ 57) || signs06.contains c
def findI {α : Type} [DecidableEq α] (s : α) : Nat → List α → Int
  | _, [] => -1
  | i, x :: r => if x = s then (i : Int) else findI s (i + 1) r
theorem findI_spec {α : Type} [DecidableEq α] (s : α) : ∀ (l : List α) (i : Nat), (findI s i l = -1 ∧ s ∉ l) ∨ ∃ j, l[j]? = some s ∧ findI s i l = ((i + j : Nat) : Int) := by
  intro l
  induction l with
  | nil => intro i; exact .inl ⟨rfl, by simp⟩
  | cons x r ih =>
    intro i
    unfold findI
    by_cases h : x = s
    · exact .inr ⟨0, by simp [h], by simp [h]⟩
    · rw [if_neg h]
      rcases ih (i + 1) with ⟨h1, h2⟩ | ⟨j, h1, h2⟩
      · exact .inl ⟨h1, by simp [h2, Ne.symm h]⟩
      · exact .inr ⟨j + 1, by simpa using h1, by rw [h2]; omega⟩
def nameS (s : List Int) : Int := if s = [] ∨ 40 < s.length then 3 else if s.all letterB then 0 else 3

/-- A loop that goes through a list and stops at the first that is bad. -/
theorem bad_loop {α R : Type} {l : List α} (L : Nat → Int → Option (Unit ⊕ R)) (f : Nat → α → Option R)
    (h0 : ∀ n i, l.length ≤ i → L (n + 1) (i : Nat) = some (.inl ()))
    (h1 : ∀ n i x r, l.drop i = x :: r → i < l.length → (∀ b, f i x = some b → L (n + 1) (i : Nat) = some (.inr b)) ∧ (f i x = none → L (n + 1) (i : Nat) = L n ((i + 1 : Nat) : Int)))
    {n : Nat} (hn : l.length < n) : L n 0 = some (firstBad f 0 l) := by
  have := loopL0 (l := l) (σ := Unit) (fun n i _ => L n i) (fun i r _ => firstBad f i r) (fun _ _ => True) (fun n i _ hi _ => h0 n i hi) ?_ (n := n) (s := ()) trivial hn
  · exact this
  · intro n i _ x r hd hlt _ ih
    obtain ⟨k1, k2⟩ := h1 n i x r hd hlt
    simp only [firstBad]
    cases hf : f i x with
    | none => rw [k2 hf]; exact ih () trivial
    | some b => rw [k1 b hf]
theorem firstBad_any {α : Type} (p : α → Bool) : ∀ (l : List α) (i : Nat), firstBad (fun _ x => if p x then some true else none) i l = if l.any p then .inr true else .inl () := by
  intro l
  induction l with
  | nil => intro i; rfl
  | cons x r ih =>
    intro i
    simp only [firstBad]
    by_cases hp : p x = true
    · have ea : (x :: r).any p = true := by simp [hp]
      rw [if_pos hp, if_pos ea]
    · have ea : (x :: r).any p = r.any p := by simp [hp]
      rw [if_neg hp, ih (i + 1), ea]
theorem idxByte_pos (c : Int) : ∀ l : List Int, -1 ≤ idxByte l c ∧ decide (idxByte l c ≥ 0) = l.contains c := by
  intro l
  induction l with
  | nil => simp [idxByte]
  | cons b l ih =>
    unfold idxByte
    rw [List.contains_cons]
    by_cases h : b = c
    · rw [if_pos h]; subst h; simp
    · rw [if_neg h]
      have hb : (c == b) = false := by simpa using Ne.symm h
      rw [hb, Bool.false_or]
      by_cases h2 : idxByte l c = -1
      · rw [if_pos h2]
        have := ih.2; rw [h2] at this
        exact ⟨by omega, this⟩
      · rw [if_neg h2]
        refine ⟨by omega, ?_⟩
        rw [← ih.2]
        have := ih.1
        rw [dec_t (by omega), dec_t (by omega)]
theorem idxByte_signs {c : Int} : decide (idxByte signs06 c ≥ 0) = signs06.contains c := (idxByte_pos c signs06).2
theorem intern_letter_eq {c : Int} : intern_letter c = some (letterB c) := by
  unfold intern_letter strings_IndexByte stringslite_IndexByte
  have h := idxByte_signs (c := c)
  unfold signs06 at h
  unfold letterB signs06
  simp only [Option.bind_some, h]
  by_cases c1 : c ≥ 97 <;> by_cases c2 : c ≤ 122 <;> by_cases c3 : c ≥ 65 <;> by_cases c4 : c ≤ 90 <;> by_cases c5 : c ≥ 48 <;> by_cases c6 : c ≤ 57 <;> simp [c1, c2, c3, c4, c5, c6] <;> omega
theorem firstBad_not {α R : Type} (p : α → Bool) (v : R) : ∀ (l : List α) (i : Nat), firstBad (fun _ x => if p x = false then some v else none) i l = if l.all p = true then .inl () else .inr v := by
  intro l
  induction l with
  | nil => intro i; rfl
  | cons x r ih =>
    intro i
    simp only [firstBad]
    by_cases hp : p x = false
    · have ea : ¬(x :: r).all p = true := by simp [hp]
      rw [if_pos hp, if_neg ea]
    · have ea : (x :: r).all p = r.all p := by simp at hp; simp [hp]
      rw [if_neg hp, ih (i + 1), ea]
theorem Name_step {l : List Int} (L : Nat → Int → Option (Unit ⊕ Int)) (hl : l.length ≤ 40)
    (e : ∀ n i, L (n + 1) (i : Nat) = bif decide (((i : Nat) : Int) < ((l.length : Nat) : Int)) then (idxL l (i : Nat)).bind fun c => (bif !(letterB c) then some (.inr (3 : Int)) else L n (w_i64 ((i : Nat) + (1 : Int)))) else some (.inl ())) :
    L 200000 0 = some (if l.all letterB = true then .inl () else .inr 3) := by
  have := bad_loop (l := l) L (fun _ x => if letterB x = false then some 3 else none) ?_ ?_ (n := 200000) (by omega)
  · rw [this, firstBad_not]
  · intro n i hi
    rw [e, dec_f (by omega), cond_false]
  · intro n i x r hd hlt
    rw [e, dec_t (by omega), cond_true, idxL_drop hd, Option.bind_some, step64 (by omega)]
    cases letterB x <;> simp
theorem intern_Name_eq {l : List Int} : intern_Name 200000 l = some (nameS l) := by
  unfold intern_Name nameS
  by_cases h : l = [] ∨ 40 < l.length
  · have : ((l == ([] : List Int)) || decide ((((l).length : Nat) : Int) > (40 : Int))) = true := by
      rcases h with h | h
      · rw [h]; rfl
      · rw [dec_t (p := ((l.length : Nat) : Int) > 40) (by omega), Bool.or_true]
    rw [this, cond_true, if_pos h]
  · have : ((l == ([] : List Int)) || decide ((((l).length : Nat) : Int) > (40 : Int))) = false := by
      have hb : (l == ([] : List Int)) = false := by
        cases l with
        | nil => exact absurd (.inl rfl) h
        | cons a r => rfl
      rw [hb, dec_f (by omega)]; rfl
    rw [this, cond_false, if_neg h, Name_step (l := l) (intern_Name_L1 200000 l) (by omega) (fun n i => by
      show intern_Name_L1_body 200000 l _ _ = _
      unfold intern_Name_L1_body
      simp only [intern_letter_eq, Option.bind_some]), Option.bind_some]
    by_cases ha : l.all letterB = true
    · rw [if_pos ha, if_pos ha]
    · rw [if_neg ha, if_neg ha]
/-- A stack's check. -/
def framesS (l : List (List Int)) : Int := if 32 < l.length then 7 else if l.all (fun s => decide (nameS s = 0)) then 0 else 3
theorem nameS_03 (s : List Int) : nameS s = 0 ∨ nameS s = 3 := by
  unfold nameS; split
  · exact .inr rfl
  · split
    · exact .inl rfl
    · exact .inr rfl
theorem Frames_step {l : List (List Int)} (L : Nat → Int → Option (Unit ⊕ Int)) (hl : l.length ≤ 100000)
    (e : ∀ n i, L (n + 1) (i : Nat) = bif decide (((i : Nat) : Int) < ((l.length : Nat) : Int)) then (idxL l (i : Nat)).bind fun c => (bif (nameS c != (0 : Int)) then some (.inr (3 : Int)) else L n (w_i64 ((i : Nat) + (1 : Int)))) else some (.inl ())) :
    L 200000 0 = some (if l.all (fun s => decide (nameS s = 0)) = true then .inl () else .inr 3) := by
  have := bad_loop (l := l) L (fun _ x => if decide (nameS x = 0) = false then some 3 else none) ?_ ?_ (n := 200000) (by omega)
  · rw [this, firstBad_not (fun s => decide (nameS s = 0))]
  · intro n i hi
    rw [e, dec_f (by omega), cond_false]
  · intro n i x r hd hlt
    rw [e, dec_t (p := ((i : Nat) : Int) < ((l.length : Nat) : Int)) (by omega), cond_true, idxL_drop hd, Option.bind_some, step64 (by omega)]
    rcases nameS_03 x with h | h <;> simp [h]
theorem intern_Frames_eq {l : List (List Int)} : intern_Frames 200000 l = some (framesS l) := by
  unfold intern_Frames framesS
  by_cases h : 32 < l.length
  · rw [dec_t (by omega), cond_true, if_pos h]
  · rw [dec_f (by omega), cond_false, if_neg h, Frames_step (l := l) (intern_Frames_L1 200000 l) (by omega) (fun n i => by
      show intern_Frames_L1_body 200000 l _ _ = _
      unfold intern_Frames_L1_body
      simp only [intern_Name_eq, Option.bind_some]
      congr 1; congr 1; funext c
      rcases nameS_03 c with h | h <;> rw [h] <;> rfl), Option.bind_some]
    by_cases ha : l.all (fun s => decide (nameS s = 0)) = true
    · rw [if_pos ha, if_pos ha]
    · rw [if_neg ha, if_neg ha]
def toO (v : Int) : Unit ⊕ Int := if v = 0 then .inl () else .inr v
theorem toO_ne {v : Int} (h : v ≠ 0) : toO v = .inr v := if_neg h
end Go.Ab
