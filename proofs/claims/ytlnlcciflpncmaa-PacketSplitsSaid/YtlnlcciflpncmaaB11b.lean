/- Plain laws of the functions below this seat's, laid anew from another seat's text. No conditions but those that the theorems name. -/
import Derived.Test.YtlnlcciflpncmaaP11xD
import Derived.Test.YtlnlcciflpncmaaA37
namespace Go.Ab
open Go
set_option linter.unusedVariables false
def signs06 : List Int := [95, 46, 58, 47, 60, 62, 36, 42, 126, 45]
def letterB (c : Int) : Bool := decide (97 ≤ c ∧ c ≤ 122) || decide (65 ≤ c ∧ c ≤ 90) || decide (48 ≤ c ∧ c ≤ 57) || signs06.contains c
def findI {α : Type} [DecidableEq α] (s : α) : Nat → List α → Int
  | _, [] => -1
  | i, x :: r => if x = s then (i : Int) else findI s (i + 1) r
theorem findI_spec {α : Type} [DecidableEq α] (s : α) : ∀ (l : List α) (i : Nat), (findI s i l = -1 ∧ s ∉ l) ∨ ∃ j, l[j]? = some s ∧ findI s i l = ((i + j : Nat) : Int) := by
  intro l
  induction l with
  | nil => intro i; exact .inl ⟨rfl, by simp⟩
  | cons x r ih =>
    intro i
    unfold findI
    by_cases h : x = s
    · exact .inr ⟨0, by simp [h], by simp [h]⟩
    · rw [if_neg h]
      rcases ih (i + 1) with ⟨h1, h2⟩ | ⟨j, h1, h2⟩
      · exact .inl ⟨h1, by simp [h2, Ne.symm h]⟩
      · exact .inr ⟨j + 1, by simpa using h1, by rw [h2]; omega⟩
def nameS (s : List Int) : Int := if s = [] ∨ 40 < s.length then 3 else if s.all letterB then 0 else 3

/-- A loop that goes through a list and stops at the first that is bad. -/
theorem bad_loop {α R : Type} {l : List α} (L : Nat → Int → Option (Unit ⊕ R)) (f : Nat → α → Option R)
    (h0 : ∀ n i, l.length ≤ i → L (n + 1) (i : Nat) = some (.inl ()))
    (h1 : ∀ n i x r, l.drop i = x :: r → i < l.length → (∀ b, f i x = some b → L (n + 1) (i : Nat) = some (.inr b)) ∧ (f i x = none → L (n + 1) (i : Nat) = L n ((i + 1 : Nat) : Int)))
    {n : Nat} (hn : l.length < n) : L n 0 = some (firstBad f 0 l) := by
  have := loopL0 (l := l) (σ := Unit) (fun n i _ => L n i) (fun i r _ => firstBad f i r) (fun _ _ => True) (fun n i _ hi _ => h0 n i hi) ?_ (n := n) (s := ()) trivial hn
  · exact this
  · intro n i _ x r hd hlt _ ih
    obtain ⟨k1, k2⟩ := h1 n i x r hd hlt
    simp only [firstBad]
    cases hf : f i x with
    | none => rw [k2 hf]; exact ih () trivial
    | some b => rw [k1 b hf]
theorem firstBad_any {α : Type} (p : α → Bool) : ∀ (l : List α) (i : Nat), firstBad (fun _ x => if p x then some true else none) i l = if l.any p then .inr true else .inl () := by
  intro l
  induction l with
  | nil => intro i; rfl
  | cons x r ih =>
    intro i
    simp only [firstBad]
    by_cases hp : p x = true
    · have ea : (x :: r).any p = true := by simp [hp]
      rw [if_pos hp, if_pos ea]
    · have ea : (x :: r).any p = r.any p := by simp [hp]
      rw [if_neg hp, ih (i + 1), ea]
theorem R06_letter_loop {c : Int} : R06_letter_L1 200000 c 200000 0 = some (if signs06.contains c then .inr true else .inl ()) := by
  have := bad_loop (l := signs06) (R06_letter_L1 200000 c) (fun _ x => if x == c then some true else none) ?_ ?_ (n := 200000) (by decide)
  · rw [this, firstBad_any (fun x => x == c)]
    have e : signs06.any (fun x => x == c) = signs06.contains c := by
      rw [List.contains_eq_any_beq]; congr 1; funext x; exact BEq.comm
    rw [e]
  · intro n i hi
    show R06_letter_L1_body 200000 c _ _ = _
    unfold R06_letter_L1_body
    change signs06.length ≤ i at hi
    have h10 : signs06.length = 10 := rfl
    rw [dec_f (by rw [show ([95, 46, 58, 47, 60, 62, 36, 42, 126, 45] : List Int) = signs06 from rfl]; omega), cond_false]
  · intro n i x r hd hlt
    have h10 : signs06.length = 10 := rfl
    have e : R06_letter_L1 200000 c (n + 1) (i : Nat) = (bif (x == c) then some (.inr true) else R06_letter_L1 200000 c n ((i + 1 : Nat) : Int)) := by
      show R06_letter_L1_body 200000 c _ _ = _
      unfold R06_letter_L1_body
      rw [show ([95, 46, 58, 47, 60, 62, 36, 42, 126, 45] : List Int) = signs06 from rfl, dec_t (by omega), cond_true, idxL_drop hd, Option.bind_some, step64 (by omega)]
    rw [e]
    constructor
    · intro b hb
      by_cases hx : (x == c) = true
      · rw [if_pos hx] at hb; injection hb with hb; subst hb; rw [hx]; rfl
      · rw [if_neg hx] at hb; cases hb
    · intro hb
      by_cases hx : (x == c) = true
      · rw [if_pos hx] at hb; cases hb
      · rw [Bool.not_eq_true] at hx; rw [hx]; rfl
theorem idxByte_pos (c : Int) : ∀ l : List Int, -1 ≤ idxByte l c ∧ decide (idxByte l c ≥ 0) = l.contains c := by
  intro l
  induction l with
  | nil => simp [idxByte]
  | cons b l ih =>
    unfold idxByte
    rw [List.contains_cons]
    by_cases h : b = c
    · rw [if_pos h]; subst h; simp
    · rw [if_neg h]
      have hb : (c == b) = false := by simpa using Ne.symm h
      rw [hb, Bool.false_or]
      by_cases h2 : idxByte l c = -1
      · rw [if_pos h2]
        have := ih.2; rw [h2] at this
        exact ⟨by omega, this⟩
      · rw [if_neg h2]
        refine ⟨by omega, ?_⟩
        rw [← ih.2]
        have := ih.1
        rw [dec_t (by omega), dec_t (by omega)]
theorem idxByte_signs {c : Int} : decide (idxByte signs06 c ≥ 0) = signs06.contains c := (idxByte_pos c signs06).2
theorem intern_letter_eq {c : Int} : intern_letter c = some (letterB c) := by
  unfold intern_letter strings_IndexByte stringslite_IndexByte
  have h := idxByte_signs (c := c)
  unfold signs06 at h
  unfold letterB signs06
  simp only [Option.bind_some, h]
  by_cases c1 : c ≥ 97 <;> by_cases c2 : c ≤ 122 <;> by_cases c3 : c ≥ 65 <;> by_cases c4 : c ≤ 90 <;> by_cases c5 : c ≥ 48 <;> by_cases c6 : c ≤ 57 <;> simp [c1, c2, c3, c4, c5, c6] <;> omega
theorem R06_letter_eq {c : Int} : R06_letter 200000 c = some (letterB c) := by
  unfold R06_letter
  rw [R06_letter_loop]
  unfold letterB
  by_cases hs : signs06.contains c = true
  · rw [if_pos hs]
    simp only [hs, Bool.or_true, Option.bind_some]
    cases (bif decide (c ≥ (97 : Int)) then (decide (c ≤ (122 : Int)) || (bif decide (c ≥ (65 : Int)) then (decide (c ≤ (90 : Int)) || (decide (c ≥ (48 : Int)) && decide (c ≤ (57 : Int)))) else (decide (c ≥ (48 : Int)) && decide (c ≤ (57 : Int))))) else (bif decide (c ≥ (65 : Int)) then (decide (c ≤ (90 : Int)) || (decide (c ≥ (48 : Int)) && decide (c ≤ (57 : Int)))) else (decide (c ≥ (48 : Int)) && decide (c ≤ (57 : Int))))) <;> rfl
  · rw [if_neg hs]
    rw [Bool.not_eq_true] at hs
    simp only [hs, Bool.or_false, Option.bind_some]
    by_cases c1 : c ≥ 97 <;> by_cases c2 : c ≤ 122 <;> by_cases c3 : c ≥ 65 <;> by_cases c4 : c ≤ 90 <;> by_cases c5 : c ≥ 48 <;> by_cases c6 : c ≤ 57 <;> simp [c1, c2, c3, c4, c5, c6] <;> omega
theorem firstBad_not {α R : Type} (p : α → Bool) (v : R) : ∀ (l : List α) (i : Nat), firstBad (fun _ x => if p x = false then some v else none) i l = if l.all p = true then .inl () else .inr v := by
  intro l
  induction l with
  | nil => intro i; rfl
  | cons x r ih =>
    intro i
    simp only [firstBad]
    by_cases hp : p x = false
    · have ea : ¬(x :: r).all p = true := by simp [hp]
      rw [if_pos hp, if_neg ea]
    · have ea : (x :: r).all p = r.all p := by simp at hp; simp [hp]
      rw [if_neg hp, ih (i + 1), ea]
theorem Name_step {l : List Int} (L : Nat → Int → Option (Unit ⊕ Int)) (hl : l.length ≤ 40)
    (e : ∀ n i, L (n + 1) (i : Nat) = bif decide (((i : Nat) : Int) < ((l.length : Nat) : Int)) then (idxL l (i : Nat)).bind fun c => (bif !(letterB c) then some (.inr (3 : Int)) else L n (w_i64 ((i : Nat) + (1 : Int)))) else some (.inl ())) :
    L 200000 0 = some (if l.all letterB = true then .inl () else .inr 3) := by
  have := bad_loop (l := l) L (fun _ x => if letterB x = false then some 3 else none) ?_ ?_ (n := 200000) (by omega)
  · rw [this, firstBad_not]
  · intro n i hi
    rw [e, dec_f (by omega), cond_false]
  · intro n i x r hd hlt
    rw [e, dec_t (by omega), cond_true, idxL_drop hd, Option.bind_some, step64 (by omega)]
    cases letterB x <;> simp
theorem intern_Name_eq {l : List Int} : intern_Name 200000 l = some (nameS l) := by
  unfold intern_Name nameS
  by_cases h : l = [] ∨ 40 < l.length
  · have : ((l == ([] : List Int)) || decide ((((l).length : Nat) : Int) > (40 : Int))) = true := by
      rcases h with h | h
      · rw [h]; rfl
      · rw [dec_t (p := ((l.length : Nat) : Int) > 40) (by omega), Bool.or_true]
    rw [this, cond_true, if_pos h]
  · have : ((l == ([] : List Int)) || decide ((((l).length : Nat) : Int) > (40 : Int))) = false := by
      have hb : (l == ([] : List Int)) = false := by
        cases l with
        | nil => exact absurd (.inl rfl) h
        | cons a r => rfl
      rw [hb, dec_f (by omega)]; rfl
    rw [this, cond_false, if_neg h, Name_step (l := l) (intern_Name_L1 200000 l) (by omega) (fun n i => by
      show intern_Name_L1_body 200000 l _ _ = _
      unfold intern_Name_L1_body
      simp only [intern_letter_eq, Option.bind_some]), Option.bind_some]
    by_cases ha : l.all letterB = true
    · rw [if_pos ha, if_pos ha]
    · rw [if_neg ha, if_neg ha]
theorem R06_Name_eq {l : List Int} : R06_Name 200000 l = some (nameS l) := by
  unfold R06_Name nameS
  by_cases h : l = [] ∨ 40 < l.length
  · have : (decide ((((l).length : Nat) : Int) < (1 : Int)) || decide ((((l).length : Nat) : Int) > (40 : Int))) = true := by
      rcases h with h | h
      · rw [h]; rfl
      · rw [dec_t (p := ((l.length : Nat) : Int) > 40) (by omega), Bool.or_true]
    rw [this, cond_true, if_pos h]
  · have hp : 0 < l.length := List.length_pos_iff.2 (fun hc => h (.inl hc))
    have : (decide ((((l).length : Nat) : Int) < (1 : Int)) || decide ((((l).length : Nat) : Int) > (40 : Int))) = false := by
      rw [dec_f (by omega), dec_f (by omega)]; rfl
    rw [this, cond_false, if_neg h, Name_step (l := l) (R06_Name_L1 200000 l) (by omega) (fun n i => by
      show R06_Name_L1_body 200000 l _ _ = _
      unfold R06_Name_L1_body
      simp only [R06_letter_eq, Option.bind_some]), Option.bind_some]
    by_cases ha : l.all letterB = true
    · rw [if_pos ha, if_pos ha]
    · rw [if_neg ha, if_neg ha]
/-- A stack's check. -/
def framesS (l : List (List Int)) : Int := if 32 < l.length then 7 else if l.all (fun s => decide (nameS s = 0)) then 0 else 3
theorem nameS_03 (s : List Int) : nameS s = 0 ∨ nameS s = 3 := by
  unfold nameS; split
  · exact .inr rfl
  · split
    · exact .inl rfl
    · exact .inr rfl
theorem Frames_step {l : List (List Int)} (L : Nat → Int → Option (Unit ⊕ Int)) (hl : l.length ≤ 100000)
    (e : ∀ n i, L (n + 1) (i : Nat) = bif decide (((i : Nat) : Int) < ((l.length : Nat) : Int)) then (idxL l (i : Nat)).bind fun c => (bif (nameS c != (0 : Int)) then some (.inr (3 : Int)) else L n (w_i64 ((i : Nat) + (1 : Int)))) else some (.inl ())) :
    L 200000 0 = some (if l.all (fun s => decide (nameS s = 0)) = true then .inl () else .inr 3) := by
  have := bad_loop (l := l) L (fun _ x => if decide (nameS x = 0) = false then some 3 else none) ?_ ?_ (n := 200000) (by omega)
  · rw [this, firstBad_not (fun s => decide (nameS s = 0))]
  · intro n i hi
    rw [e, dec_f (by omega), cond_false]
  · intro n i x r hd hlt
    rw [e, dec_t (p := ((i : Nat) : Int) < ((l.length : Nat) : Int)) (by omega), cond_true, idxL_drop hd, Option.bind_some, step64 (by omega)]
    rcases nameS_03 x with h | h <;> simp [h]
theorem intern_Frames_eq {l : List (List Int)} : intern_Frames 200000 l = some (framesS l) := by
  unfold intern_Frames framesS
  by_cases h : 32 < l.length
  · rw [dec_t (by omega), cond_true, if_pos h]
  · rw [dec_f (by omega), cond_false, if_neg h, Frames_step (l := l) (intern_Frames_L1 200000 l) (by omega) (fun n i => by
      show intern_Frames_L1_body 200000 l _ _ = _
      unfold intern_Frames_L1_body
      simp only [intern_Name_eq, Option.bind_some]
      congr 1; congr 1; funext c
      rcases nameS_03 c with h | h <;> rw [h] <;> rfl), Option.bind_some]
    by_cases ha : l.all (fun s => decide (nameS s = 0)) = true
    · rw [if_pos ha, if_pos ha]
    · rw [if_neg ha, if_neg ha]
theorem R06_Frames_eq {l : List (List Int)} : R06_Frames 200000 l = some (framesS l) := by
  unfold R06_Frames framesS
  by_cases h : 32 < l.length
  · rw [dec_t (by omega), cond_true, if_pos h]
  · rw [dec_f (by omega), cond_false, if_neg h, Frames_step (l := l) (R06_Frames_L1 200000 l) (by omega) (fun n i => by
      show R06_Frames_L1_body 200000 l _ _ = _
      unfold R06_Frames_L1_body
      simp only [R06_Name_eq, Option.bind_some]), Option.bind_some]
    by_cases ha : l.all (fun s => decide (nameS s = 0)) = true
    · rw [if_pos ha, if_pos ha]
    · rw [if_neg ha, if_neg ha]
def putS06 (names : List (List Int)) (s : List Int) : Int × List (List Int) × Int :=
  if nameS s ≠ 0 then (0, names, nameS s) else if findI s 0 names ≠ -1 then (findI s 0 names, names, 0) else if 1000 ≤ names.length then (0, names, 6) else ((names.length : Int), names ++ [s], 0)
/-- PutStack: what the loop does. -/
def putL (names0 : List (List Int)) (stacks0 : List Arr2_Int) : List (List Int) → Int → List (List Int) → List Arr2_Int → Int × List (List Int) × List Arr2_Int × Int
  | [], at_, n, s => (at_, n, s, 0)
  | x :: r, at_, n, s =>
    if (putS06 n x).2.2 ≠ 0 then (0, names0, stacks0, (putS06 n x).2.2) else
    if findI (⟨at_, (putS06 n x).1⟩ : Arr2_Int) 0 s ≠ -1 then putL names0 stacks0 r (findI (⟨at_, (putS06 n x).1⟩ : Arr2_Int) 0 s) (putS06 n x).2.1 s else
    if 1000 ≤ s.length then (0, names0, stacks0, 6) else putL names0 stacks0 r (s.length : Int) (putS06 n x).2.1 (s ++ [⟨at_, (putS06 n x).1⟩])
def toO (v : Int) : Unit ⊕ Int := if v = 0 then .inl () else .inr v
theorem toO_ne {v : Int} (h : v ≠ 0) : toO v = .inr v := if_neg h
def namesS (seen : List (List Int)) : List (List Int) → Int
  | [] => 0
  | x :: r => if nameS x ≠ 0 then 3 else if x ∈ seen then 4 else namesS (seen ++ [x]) r
def dOf (ds : List Int) (i : Int) : Int := if i = -1 then 0 else (ds[i.toNat]?).getD 0
def DI (st : List Arr2_Int) (ds : List Int) : Prop := ∀ (j : Nat) (d : Int), ds[j]? = some d → ∃ p, st[j]? = some p ∧ -1 ≤ p.c0 ∧ p.c0 < j ∧ d = 1 + dOf ds p.c0 ∧ 1 ≤ d ∧ d ≤ 32
theorem dOf_app {ds : List Int} {d c : Int} (h : c < ds.length) (h0 : -1 ≤ c) : dOf (ds ++ [d]) c = dOf ds c := by
  unfold dOf
  split
  · rfl
  · rw [List.getElem?_append_left (by omega)]
theorem DI.range {st : List Arr2_Int} {ds : List Int} (h : DI st ds) (c : Int) : 0 ≤ dOf ds c ∧ dOf ds c ≤ 32 := by
  unfold dOf
  split
  · omega
  · cases hd : ds[c.toNat]? with
    | none => simp
    | some d => obtain ⟨p, _, _, _, _, h1, h2⟩ := h _ _ hd; simp; omega
theorem DI.push {st : List Arr2_Int} {ds : List Int} {p : Arr2_Int} (h : DI st ds) (hp : st[ds.length]? = some p) (h0 : -1 ≤ p.c0) (h1 : p.c0 < ds.length) (h2 : 1 + dOf ds p.c0 ≤ 32) : DI st (ds ++ [1 + dOf ds p.c0]) := by
  intro j d hj
  rcases Nat.lt_or_ge j ds.length with hlt | hge
  · rw [List.getElem?_append_left hlt] at hj
    obtain ⟨q, h3, h4, h5, h6, h7⟩ := h j d hj
    exact ⟨q, h3, h4, h5, by rw [dOf_app (by omega) h4]; exact h6, h7⟩
  · have hj' : j = ds.length := by
      have := (List.getElem?_eq_some_iff.1 hj).1
      simp at this; omega
    subst hj'
    simp at hj
    subst hj
    have := h.range p.c0
    exact ⟨p, hp, h0, by omega, by rw [dOf_app h1 h0], by omega, h2⟩
theorem DI.nil {st : List Arr2_Int} : DI st [] := fun j d h => by simp at h
def stackS (nn : Nat) (ds : List Int) (seen : List Arr2_Int) : List Arr2_Int → Int
  | [] => 0
  | p :: r => if p.c0 < -1 ∨ p.c0 ≥ seen.length ∨ p.c1 < 0 ∨ p.c1 ≥ nn then 2 else if p ∈ seen then 4 else if 1 + dOf ds p.c0 > 32 then 7 else stackS nn (ds ++ [1 + dOf ds p.c0]) (seen ++ [p]) r
def dsF (l : List Arr2_Int) : List Int := l.foldl (fun ds p => ds ++ [1 + dOf ds p.c0]) []
theorem foldl_len : ∀ (l : List Arr2_Int) (ds : List Int), (l.foldl (fun ds p => ds ++ [1 + dOf ds p.c0]) ds).length = ds.length + l.length := by
  intro l
  induction l with
  | nil => intro ds; rfl
  | cons p r ih => intro ds; rw [List.foldl_cons, ih]; simp; omega
theorem dsF_len (l : List Arr2_Int) : (dsF l).length = l.length := by simp [dsF, foldl_len]
theorem dsF_snoc (l : List Arr2_Int) (p : Arr2_Int) : dsF (l ++ [p]) = dsF l ++ [1 + dOf (dsF l) p.c0] := by simp [dsF]
theorem namesS_zero : ∀ (l seen : List (List Int)), namesS seen l = 0 ↔ (∀ x ∈ l, nameS x = 0 ∧ x ∉ seen) ∧ l.Nodup := by
  intro l
  induction l with
  | nil => intro seen; simp [namesS]
  | cons x r ih =>
    intro seen
    simp only [namesS]
    by_cases h : nameS x ≠ 0
    · rw [if_pos h]; simp [h]
    rw [if_neg h]
    by_cases h2 : x ∈ seen
    · rw [if_pos h2]; simp [h2]
    rw [if_neg h2, ih]
    simp only [List.mem_cons, List.nodup_cons, forall_eq_or_imp, List.mem_append, List.not_mem_nil, or_false, not_or]
    constructor
    · rintro ⟨h3, h4⟩
      exact ⟨⟨⟨by omega, h2⟩, fun y hy => ⟨(h3 y hy).1, (h3 y hy).2.1⟩⟩, fun hx => (h3 x hx).2.2 rfl, h4⟩
    · rintro ⟨⟨_, h3⟩, h4, h5⟩
      exact ⟨fun y hy => ⟨(h3 y hy).1, (h3 y hy).2, fun e => h4 (e ▸ hy)⟩, h5⟩
structure PairOk (nn k : Nat) (ds : List Int) (seen : List Arr2_Int) (p : Arr2_Int) : Prop where
  lo : -1 ≤ p.c0
  hi : p.c0 < k
  lo1 : 0 ≤ p.c1
  hi1 : p.c1 < nn
  new : p ∉ seen
  deep : 1 + dOf ds p.c0 ≤ 32
theorem stackS_snoc {nn : Nat} : ∀ (r : List Arr2_Int) (ds : List Int) (seen : List Arr2_Int) (p : Arr2_Int), stackS nn ds seen (r ++ [p]) = 0 ↔ stackS nn ds seen r = 0 ∧ PairOk nn (seen ++ r).length (r.foldl (fun ds p => ds ++ [1 + dOf ds p.c0]) ds) (seen ++ r) p := by
  intro r
  induction r with
  | nil =>
    intro ds seen p
    simp only [List.nil_append, stackS, List.append_nil, List.foldl_nil, true_and]
    constructor
    · intro h
      split at h
      · cases h
      split at h
      · cases h
      split at h
      · cases h
      exact ⟨by omega, by omega, by omega, by omega, by assumption, by omega⟩
    · rintro ⟨h1, h2, h3, h4, h5, h6⟩
      rw [if_neg (by omega), if_neg h5, if_neg (by omega)]
  | cons q r ih =>
    intro ds seen p
    simp only [List.cons_append, stackS, List.foldl_cons]
    split
    · simp
    split
    · simp
    split
    · simp
    rw [ih]; simp
theorem stackS_mono {nn mm : Nat} (h : nn ≤ mm) : ∀ (r : List Arr2_Int) (ds : List Int) (seen : List Arr2_Int), stackS nn ds seen r = 0 → stackS mm ds seen r = 0 := by
  intro r
  induction r with
  | nil => intro ds seen _; rfl
  | cons q r ih =>
    intro ds seen hz
    simp only [stackS] at hz ⊢
    split at hz
    · cases hz
    rename_i h1
    rw [if_neg (by omega)]
    split at hz
    · cases hz
    rename_i h2
    rw [if_neg h2]
    split at hz
    · cases hz
    rename_i h3
    rw [if_neg h3]
    exact ih _ _ hz
structure Good (n : List (List Int)) (s : List Arr2_Int) : Prop where
  n1 : n.length ≤ 1000
  s1 : s.length ≤ 1000
  names : namesS [] n = 0
  st : stackS n.length [] [] s = 0
theorem Good.nodup {n : List (List Int)} {s : List Arr2_Int} (h : Good n s) : n.Nodup := ((namesS_zero _ _).1 h.names).2
theorem Good.valid {n : List (List Int)} {s : List Arr2_Int} (h : Good n s) {x : List Int} (hx : x ∈ n) : nameS x = 0 := (((namesS_zero _ _).1 h.names).1 x hx).1
theorem Good.name {n : List (List Int)} {s : List Arr2_Int} (h : Good n s) {x : List Int} (hx : nameS x = 0) (hn : x ∉ n) (hl : n.length < 1000) : Good (n ++ [x]) s := by
  refine ⟨by simp; omega, h.s1, ?_, stackS_mono (by simp) _ _ _ h.st⟩
  rw [namesS_zero]
  have h2 := (namesS_zero _ _).1 h.names
  refine ⟨fun y hy => ⟨?_, by simp⟩, ?_⟩
  · rcases List.mem_append.1 hy with hy | hy
    · exact h.valid hy
    · simp at hy; rw [hy]; exact hx
  · rw [List.nodup_append]
    exact ⟨h.nodup, by simp, fun a ha b hb => by simp at hb; rw [hb]; exact fun e => hn (e ▸ ha)⟩
theorem Good.push {n : List (List Int)} {s : List Arr2_Int} {p : Arr2_Int} (h : Good n s) (hp : PairOk n.length s.length (dsF s) s p) (hl : s.length < 1000) : Good n (s ++ [p]) :=
  ⟨h.n1, by simp; omega, h.names, by rw [stackS_snoc]; exact ⟨h.st, by rw [List.nil_append]; exact hp⟩⟩
/-- All pairs of a good table, one after the other. -/
theorem stackS_pairs {nn : Nat} (s : List Arr2_Int) (h : stackS nn [] [] s = 0) : ∀ (i : Nat), i < s.length → ∃ p, s[i]? = some p ∧ PairOk nn i (dsF (s.take i)) (s.take i) p := by
  intro i hi
  have e : s = s.take i ++ (s[i] :: s.drop (i + 1)) := by simp
  have : ∀ (m : Nat) (r : List Arr2_Int), r.length = m → stackS nn [] [] (s.take i ++ s[i] :: r) = 0 → stackS nn [] [] (s.take i ++ [s[i]]) = 0 := by
    intro m
    induction m with
    | zero => intro r hr h; rw [List.length_eq_zero_iff.1 hr] at h; exact h
    | succ m ih =>
      intro r hr h
      rcases List.eq_nil_or_concat r with h0 | ⟨r', y, h0⟩
      · rw [h0] at hr; simp at hr
      · rw [h0] at h hr
        simp at hr
        rw [show s.take i ++ s[i] :: r'.concat y = (s.take i ++ s[i] :: r') ++ [y] by simp] at h
        exact ih r' hr ((stackS_snoc _ _ _ _).1 h).1
  have h2 := (stackS_snoc _ _ _ _).1 (this _ _ rfl (by rw [← e]; exact h))
  refine ⟨s[i], List.getElem?_eq_getElem hi, ?_⟩
  have h3 := h2.2
  simp only [List.nil_append, List.length_take, Nat.min_eq_left (Nat.le_of_lt hi)] at h3
  exact h3
theorem dsF_take (s : List Arr2_Int) (i : Nat) : dsF (s.take i) = (dsF s).take i := by
  induction i with
  | zero => rfl
  | succ i ih =>
    rcases hd : s.drop i with _ | ⟨x, r⟩
    · have := drop_nil hd
      rw [List.take_of_length_le (by omega), List.take_of_length_le (by rw [dsF_len]; omega)]
    · have e : s = s.take i ++ ([x] ++ r) := by rw [List.singleton_append, ← hd, List.take_append_drop]
      have hlt := drop_lt hd
      have e2 : ∃ t, dsF s = dsF (s.take i ++ [x]) ++ t := by
        have hg : ∀ (r : List Arr2_Int) (ds : List Int), ∃ t, r.foldl (fun ds p => ds ++ [1 + dOf ds p.c0]) ds = ds ++ t := by
          intro r
          induction r with
          | nil => intro ds; exact ⟨[], by simp⟩
          | cons y r ih2 => intro ds; obtain ⟨t, ht⟩ := ih2 (ds ++ [1 + dOf ds y.c0]); exact ⟨_, by rw [List.foldl_cons, ht, List.append_assoc]⟩
        have : dsF s = r.foldl (fun ds p => ds ++ [1 + dOf ds p.c0]) (dsF (s.take i ++ [x])) := by
          have h3 : dsF (s.take i ++ [x] ++ r) = r.foldl (fun ds p => ds ++ [1 + dOf ds p.c0]) (dsF (s.take i ++ [x])) := by unfold dsF; rw [List.foldl_append]
          rwa [List.append_assoc, ← e] at h3
        rw [this]; exact hg _ _
      obtain ⟨t, ht⟩ := e2
      rw [take_step hd, ht, List.take_append_of_le_length (by simp [dsF_len]; omega)]
      exact (List.take_of_length_le (by simp [dsF_len]; omega)).symm
theorem dOf_take {ds : List Int} {i : Nat} {c : Int} (h : c < i) (h0 : -1 ≤ c) : dOf (ds.take i) c = dOf ds c := by
  unfold dOf
  split
  · rfl
  · rw [List.getElem?_take_of_lt (by omega)]
theorem Good.pair {n : List (List Int)} {s : List Arr2_Int} (h : Good n s) {i : Nat} {p : Arr2_Int} (hp : s[i]? = some p) :
    -1 ≤ p.c0 ∧ p.c0 < i ∧ 0 ≤ p.c1 ∧ p.c1 < n.length ∧ dOf (dsF s) (i : Int) = 1 + dOf (dsF s) p.c0 ∧ dOf (dsF s) (i : Int) ≤ 32 ∧ p ∉ s.take i := by
  have hi : i < s.length := (List.getElem?_eq_some_iff.1 hp).1
  obtain ⟨q, hq, h1, h2, h3, h4, h5, h6⟩ := stackS_pairs s h.st i hi
  rw [hp] at hq; injection hq with hq; subst hq
  rw [dsF_take, dOf_take h2 h1] at h6
  have e : dOf (dsF s) (i : Int) = 1 + dOf (dsF s) p.c0 := by
    have e1 : dsF (s.take (i + 1)) = dsF (s.take i) ++ [1 + dOf (dsF (s.take i)) p.c0] := by
      rw [List.take_add_one, hp]; exact dsF_snoc _ _
    have e2 : (dsF s)[i]? = some (1 + dOf (dsF s) p.c0) := by
      have : ((dsF s).take (i + 1))[i]? = (dsF s)[i]? := List.getElem?_take_of_lt (by omega)
      rw [← this, ← dsF_take, e1, dsF_take, dOf_take h2 h1]
      have hl : ((dsF s).take i).length = i := by rw [List.length_take, dsF_len]; omega
      rw [List.getElem?_append_right (by omega), hl]; simp
    unfold dOf
    rw [if_neg (by omega), Int.toNat_natCast, e2]; rfl
  exact ⟨h1, h2, h3, h4, e, by omega, h5⟩
theorem Good.snodup {n : List (List Int)} {s : List Arr2_Int} (h : Good n s) {i j : Nat} {p : Arr2_Int} (hi : s[i]? = some p) (hj : s[j]? = some p) : i = j := by
  rcases Nat.lt_trichotomy i j with hlt | he | hlt
  · exact absurd (List.mem_of_getElem? (show (s.take j)[i]? = some p by rw [List.getElem?_take_of_lt hlt]; exact hi)) (h.pair hj).2.2.2.2.2.2
  · exact he
  · exact absurd (List.mem_of_getElem? (show (s.take i)[j]? = some p by rw [List.getElem?_take_of_lt hlt]; exact hj)) (h.pair hi).2.2.2.2.2.2
/-- The names from a stack's last frame back to its first. -/
def pathN (n : List (List Int)) (s : List Arr2_Int) : Nat → Int → List (List Int)
  | 0, _ => []
  | k + 1, i => if i < 0 then [] else match s[i.toNat]? with
    | none => []
    | some p => (n[p.c1.toNat]?).getD [] :: pathN n s k p.c0
theorem pre_get {α : Type} {l m : List α} (h : l <+: m) {i : Nat} {x : α} (hx : l[i]? = some x) : m[i]? = some x := by
  obtain ⟨t, rfl⟩ := h
  rw [List.getElem?_append_left (List.getElem?_eq_some_iff.1 hx).1]; exact hx
def Has (n : List (List Int)) (s : List Arr2_Int) : Int → List (List Int) → Int → Prop
  | at_, [], i => i = at_
  | at_, x :: r, i => ∃ a b : Nat, n[a]? = some x ∧ s[b]? = some ⟨at_, (a : Int)⟩ ∧ Has n s (b : Int) r i
theorem Has.mono {n n' : List (List Int)} {s s' : List Arr2_Int} (hn : n <+: n') (hs : s <+: s') : ∀ {l : List (List Int)} {at_ i : Int}, Has n s at_ l i → Has n' s' at_ l i := by
  intro l
  induction l with
  | nil => intro at_ i h; exact h
  | cons x r ih =>
    rintro at_ i ⟨a, b, h1, h2, h3⟩
    exact ⟨a, b, pre_get hn h1, pre_get hs h2, ih h3⟩
theorem findI_of {α : Type} [DecidableEq α] {l : List α} {x : α} (hu : ∀ i j : Nat, l[i]? = some x → l[j]? = some x → i = j) {a : Nat} (h : l[a]? = some x) : findI x 0 l = (a : Int) := by
  rcases findI_spec x l 0 with ⟨_, h2⟩ | ⟨j, h1, h2⟩
  · exact absurd (List.mem_of_getElem? h) h2
  · rw [h2, Nat.zero_add, hu _ _ h1 h]
theorem nodup_get {α : Type} {l : List α} (h : l.Nodup) {x : α} : ∀ i j : Nat, l[i]? = some x → l[j]? = some x → i = j := by
  intro i j hi hj
  obtain ⟨h1, h2⟩ := List.getElem?_eq_some_iff.1 hi
  obtain ⟨h3, h4⟩ := List.getElem?_eq_some_iff.1 hj
  exact (List.getElem_inj h).1 (h2.trans h4.symm)
theorem putL_has {n0 : List (List Int)} {s0 : List Arr2_Int} {n : List (List Int)} {s : List Arr2_Int} (h : Good n s) : ∀ (l : List (List Int)) (at_ i : Int), Has n s at_ l i → putL n0 s0 l at_ n s = (i, n, s, 0) := by
  intro l
  induction l with
  | nil => intro at_ i hi; simp only [Has] at hi; simp only [putL, hi]
  | cons x r ih =>
    rintro at_ i ⟨a, b, h1, h2, h3⟩
    have e : putS06 n x = ((a : Int), n, 0) := by
      have hv := h.valid (List.mem_of_getElem? h1)
      unfold putS06
      rw [if_neg (by omega), findI_of (nodup_get h.nodup) h1, if_pos (by omega)]
    simp only [putL]
    rw [e]
    simp only
    rw [if_neg (by decide), findI_of (fun i j hi hj => h.snodup hi hj) h2, if_pos (by omega)]
    exact ih _ _ h3
theorem Has.fn {n : List (List Int)} {s : List Arr2_Int} (h : Good n s) : ∀ {l : List (List Int)} {at_ i j : Int}, Has n s at_ l i → Has n s at_ l j → i = j := by
  intro l at_ i j h1 h2
  have e1 := putL_has (n0 := []) (s0 := []) h l at_ i h1
  have e2 := putL_has (n0 := []) (s0 := []) h l at_ j h2
  rw [e1] at e2
  exact (Prod.mk.inj e2).1
theorem Has.path {n : List (List Int)} {s : List Arr2_Int} : ∀ {l : List (List Int)} {at_ i : Int} {k : Nat}, Has n s at_ l i → pathN n s (k + l.length) i = l.reverse ++ pathN n s k at_ := by
  intro l
  induction l with
  | nil => intro at_ i k h; simp only [Has] at h; simp [h]
  | cons x r ih =>
    rintro at_ i k ⟨a, b, h1, h2, h3⟩
    have := ih (k := k + 1) h3
    rw [show k + (x :: r).length = k + 1 + r.length by simp only [List.length_cons]; omega, this]
    simp only [pathN]
    rw [if_neg (by omega), Int.toNat_natCast, h2]
    simp [h1]
theorem pathN_none (n : List (List Int)) (s : List Arr2_Int) (k : Nat) : pathN n s k (-1) = [] := by
  cases k <;> simp [pathN]
theorem Has.list {n : List (List Int)} {s : List Arr2_Int} {l : List (List Int)} {i : Int} (h : Has n s (-1) l i) (hl : l.length ≤ 32) : (pathN n s 32 i).reverse = l := by
  have := Has.path (k := 32 - l.length) h
  rw [Nat.sub_add_cancel hl, pathN_none, List.append_nil] at this
  rw [this, List.reverse_reverse]
theorem Has.names {n : List (List Int)} {s : List Arr2_Int} : ∀ {l : List (List Int)} {at_ i : Int}, Has n s at_ l i → ∀ x ∈ l, x ∈ n := by
  intro l
  induction l with
  | nil => intro at_ i _ x hx; cases hx
  | cons y r ih =>
    rintro at_ i ⟨a, b, h1, h2, h3⟩ x hx
    rcases List.mem_cons.1 hx with rfl | hx
    · exact List.mem_of_getElem? h1
    · exact ih h3 x hx
end Go.Ab
