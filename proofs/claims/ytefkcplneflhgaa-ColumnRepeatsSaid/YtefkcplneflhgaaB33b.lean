/- Plain laws of the functions below this seat's, laid anew from another seat's text. No conditions but those that the theorems name. -/
import Derived.Test.YtefkcplneflhgaaP33xD
import Derived.Test.YtefkcplneflhgaaA37
namespace Go.Ab
open Go
set_option linter.unusedVariables false
def signs06 : List Int := [95, 46, 58, 47, 60, 62, 36, 42, 126, 45]
def letterB (c : Int) : Bool := decide (97 ≤ c ∧ c ≤ 122) || decide (65 ≤ c ∧ c ≤ 90) || decide (48 ≤ c ∧ c ≤ 57) || signs06.contains c
def findI {α : Type} [DecidableEq α] (s : α) : Nat → List α → Int
  | _, [] => -1
  | i, x :: r => if x = s then (i : Int) else findI s (i + 1) r
theorem findI_spec {α : Type} [DecidableEq α] (s : α) : ∀ (l : List α) (i : Nat), (findI s i l = -1 ∧ s ∉ l) ∨ ∃ j, l[j]? = some s ∧ findI s i l = ((i + j : Nat) : Int) := by
  intro l
  induction l with
  | nil => intro i; exact .inl ⟨rfl, by simp⟩
  | cons x r ih =>
    intro i
    unfold findI
    by_cases h : x = s
    · exact .inr ⟨0, by simp [h], by simp [h]⟩
    · rw [if_neg h]
      rcases ih (i + 1) with ⟨h1, h2⟩ | ⟨j, h1, h2⟩
      · exact .inl ⟨h1, by simp [h2, Ne.symm h]⟩
      · exact .inr ⟨j + 1, by simpa using h1, by rw [h2]; omega⟩
def nameS (s : List Int) : Int := if s = [] ∨ 40 < s.length then 3 else if s.all letterB then 0 else 3

/-- A loop that goes through a list and stops at the first that is bad. -/
theorem bad_loop {α R : Type} {l : List α} (L : Nat → Int → Option (Unit ⊕ R)) (f : Nat → α → Option R)
    (h0 : ∀ n i, l.length ≤ i → L (n + 1) (i : Nat) = some (.inl ()))
    (h1 : ∀ n i x r, l.drop i = x :: r → i < l.length → (∀ b, f i x = some b → L (n + 1) (i : Nat) = some (.inr b)) ∧ (f i x = none → L (n + 1) (i : Nat) = L n ((i + 1 : Nat) : Int)))
    {n : Nat} (hn : l.length < n) : L n 0 = some (firstBad f 0 l) := by
  have := loopL0 (l := l) (σ := Unit) (fun n i _ => L n i) (fun i r _ => firstBad f i r) (fun _ _ => True) (fun n i _ hi _ => h0 n i hi) ?_ (n := n) (s := ()) trivial hn
  · exact this
  · intro n i _ x r hd hlt _ ih
    obtain ⟨k1, k2⟩ := h1 n i x r hd hlt
    simp only [firstBad]
    cases hf : f i x with
    | none => rw [k2 hf]; exact ih () trivial
    | some b => rw [k1 b hf]
theorem firstBad_any {α : Type} (p : α → Bool) : ∀ (l : List α) (i : Nat), firstBad (fun _ x => if p x then some true else none) i l = if l.any p then .inr true else .inl () := by
  intro l
  induction l with
  | nil => intro i; rfl
  | cons x r ih =>
    intro i
    simp only [firstBad]
    by_cases hp : p x = true
    · have ea : (x :: r).any p = true := by simp [hp]
      rw [if_pos hp, if_pos ea]
    · have ea : (x :: r).any p = r.any p := by simp [hp]
      rw [if_neg hp, ih (i + 1), ea]
theorem idxByte_pos (c : Int) : ∀ l : List Int, -1 ≤ idxByte l c ∧ decide (idxByte l c ≥ 0) = l.contains c := by
  intro l
  induction l with
  | nil => simp [idxByte]
  | cons b l ih =>
    unfold idxByte
    rw [List.contains_cons]
    by_cases h : b = c
    · rw [if_pos h]; subst h; simp
    · rw [if_neg h]
      have hb : (c == b) = false := by simpa using Ne.symm h
      rw [hb, Bool.false_or]
      by_cases h2 : idxByte l c = -1
      · rw [if_pos h2]
        have := ih.2; rw [h2] at this
        exact ⟨by omega, this⟩
      · rw [if_neg h2]
        refine ⟨by omega, ?_⟩
        rw [← ih.2]
        have := ih.1
        rw [dec_t (by omega), dec_t (by omega)]
theorem idxByte_signs {c : Int} : decide (idxByte signs06 c ≥ 0) = signs06.contains c := (idxByte_pos c signs06).2
theorem firstBad_not {α R : Type} (p : α → Bool) (v : R) : ∀ (l : List α) (i : Nat), firstBad (fun _ x => if p x = false then some v else none) i l = if l.all p = true then .inl () else .inr v := by
  intro l
  induction l with
  | nil => intro i; rfl
  | cons x r ih =>
    intro i
    simp only [firstBad]
    by_cases hp : p x = false
    · have ea : ¬(x :: r).all p = true := by simp [hp]
      rw [if_pos hp, if_neg ea]
    · have ea : (x :: r).all p = r.all p := by simp at hp; simp [hp]
      rw [if_neg hp, ih (i + 1), ea]
theorem Name_step {l : List Int} (L : Nat → Int → Option (Unit ⊕ Int)) (hl : l.length ≤ 40)
    (e : ∀ n i, L (n + 1) (i : Nat) = bif decide (((i : Nat) : Int) < ((l.length : Nat) : Int)) then (idxL l (i : Nat)).bind fun c => (bif !(letterB c) then some (.inr (3 : Int)) else L n (w_i64 ((i : Nat) + (1 : Int)))) else some (.inl ())) :
    L 200000 0 = some (if l.all letterB = true then .inl () else .inr 3) := by
  have := bad_loop (l := l) L (fun _ x => if letterB x = false then some 3 else none) ?_ ?_ (n := 200000) (by omega)
  · rw [this, firstBad_not]
  · intro n i hi
    rw [e, dec_f (by omega), cond_false]
  · intro n i x r hd hlt
    rw [e, dec_t (by omega), cond_true, idxL_drop hd, Option.bind_some, step64 (by omega)]
    cases letterB x <;> simp
/-- A stack's check. -/
def framesS (l : List (List Int)) : Int := if 32 < l.length then 7 else if l.all (fun s => decide (nameS s = 0)) then 0 else 3
theorem nameS_03 (s : List Int) : nameS s = 0 ∨ nameS s = 3 := by
  unfold nameS; split
  · exact .inr rfl
  · split
    · exact .inl rfl
    · exact .inr rfl
theorem Frames_step {l : List (List Int)} (L : Nat → Int → Option (Unit ⊕ Int)) (hl : l.length ≤ 100000)
    (e : ∀ n i, L (n + 1) (i : Nat) = bif decide (((i : Nat) : Int) < ((l.length : Nat) : Int)) then (idxL l (i : Nat)).bind fun c => (bif (nameS c != (0 : Int)) then some (.inr (3 : Int)) else L n (w_i64 ((i : Nat) + (1 : Int)))) else some (.inl ())) :
    L 200000 0 = some (if l.all (fun s => decide (nameS s = 0)) = true then .inl () else .inr 3) := by
  have := bad_loop (l := l) L (fun _ x => if decide (nameS x = 0) = false then some 3 else none) ?_ ?_ (n := 200000) (by omega)
  · rw [this, firstBad_not (fun s => decide (nameS s = 0))]
  · intro n i hi
    rw [e, dec_f (by omega), cond_false]
  · intro n i x r hd hlt
    rw [e, dec_t (p := ((i : Nat) : Int) < ((l.length : Nat) : Int)) (by omega), cond_true, idxL_drop hd, Option.bind_some, step64 (by omega)]
    rcases nameS_03 x with h | h <;> simp [h]
/-- A search loop. -/
theorem find_loop {α : Type} [DecidableEq α] {l : List α} {s : α} (L : Nat → Int → Option (Unit ⊕ Int)) (hl : l.length ≤ 100000)
    (e : ∀ n i x r, l.drop i = x :: r → i < l.length → L (n + 1) (i : Nat) = if x = s then some (.inr (i : Int)) else L n ((i + 1 : Nat) : Int))
    (e0 : ∀ n i, l.length ≤ i → L (n + 1) (i : Nat) = some (.inl ())) : L 200000 0 = some (if findI s 0 l = -1 then .inl () else .inr (findI s 0 l)) := by
  have := loopL0 (l := l) (σ := Unit) (fun n i _ => L n i) (fun i r _ => if findI s i r = -1 then .inl () else .inr (findI s i r)) (fun _ _ => True) (fun n i _ hi _ => by simpa [findI] using e0 n i hi) ?_ (n := 200000) (s := ()) trivial (by omega)
  · exact this
  · intro n i _ x r hd hlt _ ih
    show L (n + 1) (i : Nat) = _
    rw [e n i x r hd hlt]
    by_cases h : x = s
    · have : findI s i (x :: r) = (i : Int) := by simp [findI, h]
      rw [if_pos h, this, if_neg (by omega)]
    · have : findI s i (x :: r) = findI s (i + 1) r := by simp [findI, h]
      rw [if_neg h, this]; exact ih () trivial


def putS06 (names : List (List Int)) (s : List Int) : Int × List (List Int) × Int :=
  if nameS s ≠ 0 then (0, names, nameS s) else if findI s 0 names ≠ -1 then (findI s 0 names, names, 0) else if 1000 ≤ names.length then (0, names, 6) else ((names.length : Int), names ++ [s], 0)
theorem findI_range {α : Type} [DecidableEq α] (s : α) (l : List α) : -1 ≤ findI s 0 l := by
  rcases findI_spec s l 0 with ⟨h, _⟩ | ⟨j, _, h⟩ <;> omega
theorem putS06_len (names : List (List Int)) (s : List Int) : (putS06 names s).2.1.length ≤ names.length + 1 := by
  unfold putS06; split
  · simp
  · split
    · simp
    · split <;> simp
def toO (v : Int) : Unit ⊕ Int := if v = 0 then .inl () else .inr v
theorem toO_0 : toO 0 = .inl () := rfl
theorem toO_ne {v : Int} (h : v ≠ 0) : toO v = .inr v := if_neg h
def namesS (seen : List (List Int)) : List (List Int) → Int
  | [] => 0
  | x :: r => if nameS x ≠ 0 then 3 else if x ∈ seen then 4 else namesS (seen ++ [x]) r
theorem findI_ge {α : Type} [DecidableEq α] (s : α) (l : List α) : decide (findI s 0 l ≥ 0) = decide (s ∈ l) := by
  rcases findI_spec s l 0 with ⟨h, h2⟩ | ⟨j, h1, h⟩
  · rw [h]; simp [h2]
  · rw [h, dec_t (by omega), dec_t (List.mem_of_getElem? h1)]
def dOf (ds : List Int) (i : Int) : Int := if i = -1 then 0 else (ds[i.toNat]?).getD 0
theorem dOf_app {ds : List Int} {d c : Int} (h : c < ds.length) (h0 : -1 ≤ c) : dOf (ds ++ [d]) c = dOf ds c := by
  unfold dOf
  split
  · rfl
  · rw [List.getElem?_append_left (by omega)]
theorem take_set_succ {α : Type} {l : List α} {i : Nat} (v : α) (h : i < l.length) : (l.set i v).take (i + 1) = l.take i ++ [v] := by
  rw [List.take_add_one, List.take_set_of_le (Nat.le_refl _), List.getElem?_set_self h]; rfl
theorem namesS_zero : ∀ (l seen : List (List Int)), namesS seen l = 0 ↔ (∀ x ∈ l, nameS x = 0 ∧ x ∉ seen) ∧ l.Nodup := by
  intro l
  induction l with
  | nil => intro seen; simp [namesS]
  | cons x r ih =>
    intro seen
    simp only [namesS]
    by_cases h : nameS x ≠ 0
    · rw [if_pos h]; simp [h]
    rw [if_neg h]
    by_cases h2 : x ∈ seen
    · rw [if_pos h2]; simp [h2]
    rw [if_neg h2, ih]
    simp only [List.mem_cons, List.nodup_cons, forall_eq_or_imp, List.mem_append, List.not_mem_nil, or_false, not_or]
    constructor
    · rintro ⟨h3, h4⟩
      exact ⟨⟨⟨by omega, h2⟩, fun y hy => ⟨(h3 y hy).1, (h3 y hy).2.1⟩⟩, fun hx => (h3 x hx).2.2 rfl, h4⟩
    · rintro ⟨⟨_, h3⟩, h4, h5⟩
      exact ⟨fun y hy => ⟨(h3 y hy).1, (h3 y hy).2, fun e => h4 (e ▸ hy)⟩, h5⟩
theorem dOf_take {ds : List Int} {i : Nat} {c : Int} (h : c < i) (h0 : -1 ≤ c) : dOf (ds.take i) c = dOf ds c := by
  unfold dOf
  split
  · rfl
  · rw [List.getElem?_take_of_lt (by omega)]
theorem pre_get {α : Type} {l m : List α} (h : l <+: m) {i : Nat} {x : α} (hx : l[i]? = some x) : m[i]? = some x := by
  obtain ⟨t, rfl⟩ := h
  rw [List.getElem?_append_left (List.getElem?_eq_some_iff.1 hx).1]; exact hx
theorem findI_of {α : Type} [DecidableEq α] {l : List α} {x : α} (hu : ∀ i j : Nat, l[i]? = some x → l[j]? = some x → i = j) {a : Nat} (h : l[a]? = some x) : findI x 0 l = (a : Int) := by
  rcases findI_spec x l 0 with ⟨_, h2⟩ | ⟨j, h1, h2⟩
  · exact absurd (List.mem_of_getElem? h) h2
  · rw [h2, Nat.zero_add, hu _ _ h1 h]
theorem nodup_get {α : Type} {l : List α} (h : l.Nodup) {x : α} : ∀ i j : Nat, l[i]? = some x → l[j]? = some x → i = j := by
  intro i j hi hj
  obtain ⟨h1, h2⟩ := List.getElem?_eq_some_iff.1 hi
  obtain ⟨h3, h4⟩ := List.getElem?_eq_some_iff.1 hj
  exact (List.getElem_inj h).1 (h2.trans h4.symm)
theorem framesS_zero {l : List (List Int)} : framesS l = 0 ↔ l.length ≤ 32 ∧ ∀ x ∈ l, nameS x = 0 := by
  unfold framesS
  by_cases h : 32 < l.length
  · rw [if_pos h]; constructor
    · intro h; cases h
    · omega
  rw [if_neg h]
  by_cases h2 : l.all (fun s => decide (nameS s = 0)) = true
  · rw [if_pos h2]; simp at h2; exact ⟨fun _ => ⟨by omega, h2⟩, fun _ => rfl⟩
  · rw [if_neg h2]; simp only [List.all_eq_true, decide_eq_true_eq] at h2
    constructor
    · intro h; cases h
    · intro h3; exact absurd h3.2 h2
theorem pre_sub {α : Type} {l m : List α} (h : l <+: m) : sub m 0 (l.length : Int) = l := by
  rw [sub_take]; exact (List.prefix_iff_eq_take.1 h).symm
end Go.Ab
