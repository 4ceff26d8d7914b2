/- Put and PutStack. -/
import Derived.Test.YtngjbadoekamcaaC06
import Derived.KernelRfl
namespace Go.Ab
open Go
set_option linter.unusedVariables false

def putS06 (names : List (List Int)) (s : List Int) : Int × List (List Int) × Int :=
  if nameS s ≠ 0 then (0, names, nameS s) else if findI s 0 names ≠ -1 then (findI s 0 names, names, 0) else if 1000 ≤ names.length then (0, names, 6) else ((names.length : Int), names ++ [s], 0)
theorem findI_range {α : Type} [DecidableEq α] (s : α) (l : List α) : -1 ≤ findI s 0 l := by
  rcases findI_spec s l 0 with ⟨h, _⟩ | ⟨j, _, h⟩ <;> omega
theorem intern_Put_eq {names : List (List Int)} {s : List Int} (hl : names.length ≤ 100000) : intern_Put 200000 names s = some (putS06 names s) := by
  unfold intern_Put putS06
  have hr := findI_range s names
  rw [intern_Name_eq, Option.bind_some]
  by_cases h : nameS s ≠ 0
  · rw [bne_t h, if_pos h]; rfl
  rw [bne_f (by omega), if_neg h, cond_false, slices_Index_string_string_eq hl, Option.bind_some]
  by_cases h1 : findI s 0 names ≠ -1
  · rw [dec_t (by omega), if_pos h1, cond_true]
  rw [dec_f (by omega), if_neg h1, cond_false]
  by_cases h2 : 1000 ≤ names.length
  · rw [dec_t (by omega), if_pos h2, cond_true]
  rw [dec_f (by omega), if_neg h2, cond_false]
  unfold slices_Clone_string_string
  rw [need_t (by simp only [List.length_nil]; omega), Option.bind_some, Option.bind_some, List.nil_append, need_t (by simp only [List.length_singleton]; omega), Option.bind_some]
theorem R06_Put_eq {names : List (List Int)} {s : List Int} (hl : names.length ≤ 100000) : R06_Put 200000 names s = some (putS06 names s) := by
  unfold R06_Put putS06
  have hr := findI_range s names
  have h03 := nameS_03 s
  rw [R06_Name_eq, Option.bind_some]
  by_cases h : nameS s ≠ 0
  · rw [bne_t h, if_pos h, show nameS s = 3 by omega]; rfl
  rw [bne_f (by omega), if_neg h, cond_false, R06_Find_eq hl, Option.bind_some]
  by_cases h1 : findI s 0 names ≠ -1
  · rw [dec_t (by omega), if_pos h1, cond_true]
  rw [dec_f (by omega), if_neg h1, cond_false]
  by_cases h2 : 1000 ≤ names.length
  · rw [dec_t (by omega), if_pos h2, cond_true]
  rw [dec_f (by omega), if_neg h2, cond_false]
  rw [need_t (by simp only [List.length_nil]; omega), Option.bind_some, List.nil_append, need_t (by simp only [List.length_singleton]; omega), Option.bind_some]
theorem putS06_len (names : List (List Int)) (s : List Int) : (putS06 names s).2.1.length ≤ names.length + 1 := by
  unfold putS06; split
  · simp
  · split
    · simp
    · split <;> simp
/-- PutStack: what the loop does. -/
def putL (names0 : List (List Int)) (stacks0 : List Arr2_Int) : List (List Int) → Int → List (List Int) → List Arr2_Int → Int × List (List Int) × List Arr2_Int × Int
  | [], at_, n, s => (at_, n, s, 0)
  | x :: r, at_, n, s =>
    if (putS06 n x).2.2 ≠ 0 then (0, names0, stacks0, (putS06 n x).2.2) else
    if findI (⟨at_, (putS06 n x).1⟩ : Arr2_Int) 0 s ≠ -1 then putL names0 stacks0 r (findI (⟨at_, (putS06 n x).1⟩ : Arr2_Int) 0 s) (putS06 n x).2.1 s else
    if 1000 ≤ s.length then (0, names0, stacks0, 6) else putL names0 stacks0 r (s.length : Int) (putS06 n x).2.1 (s ++ [⟨at_, (putS06 n x).1⟩])
def putStackS (names : List (List Int)) (stacks : List Arr2_Int) (l : List (List Int)) : Int × List (List Int) × List Arr2_Int × Int :=
  if framesS l ≠ 0 then (0, names, stacks, framesS l) else putL names stacks l (-1) names stacks
def unloop (o : (Int × List (List Int) × List Arr2_Int) ⊕ (Int × List (List Int) × List Arr2_Int × Int)) : Int × List (List Int) × List Arr2_Int × Int := match o with | .inl q => (q.1, q.2.1, q.2.2, 0) | .inr q => q
theorem intern_PutStack_loop {names0 : List (List Int)} {stacks0 : List Arr2_Int} {l : List (List Int)} (hl : l.length ≤ 40) : ∀ (m i : Nat) (at_ : Int) (n : List (List Int)) (s : List Arr2_Int), (l.drop i).length < m → n.length + (l.drop i).length ≤ 100000 → s.length + (l.drop i).length ≤ 100000 →
    ∃ o, intern_PutStack_L1 200000 names0 stacks0 l m at_ n (i : Int) s = some o ∧ unloop o = putL names0 stacks0 (l.drop i) at_ n s := by
  intro m
  induction m with
  | zero => intro i at_ n s h; omega
  | succ m ih =>
    intro i at_ n s hm hn hs
    show ∃ o, intern_PutStack_L1_body 200000 names0 stacks0 l _ at_ n (i : Int) s = some o ∧ _
    unfold intern_PutStack_L1_body
    rcases hd : l.drop i with _ | ⟨x, r⟩
    · have := drop_nil hd
      rw [dec_f (by omega), cond_false]
      exact ⟨_, rfl, rfl⟩
    · have hlt := drop_lt hd
      rw [hd] at hm hn hs
      simp only [List.length_cons] at hm hn hs
      have hstep := drop_step hd
      rw [dec_t (by omega), cond_true, idxL_drop hd, Option.bind_some, intern_Put_eq (by omega), Option.bind_some]
      have hpl := putS06_len n x
      simp only [putL]
      generalize putS06 n x = q at *
      by_cases h : q.2.2 ≠ 0
      · rw [bne_t h, cond_true, if_pos h]; exact ⟨_, rfl, rfl⟩
      rw [bne_f (by omega), cond_false, if_neg h, slices_Index_2_int_2_int_eq (by omega), Option.bind_some]
      have hr := findI_range (⟨at_, q.1⟩ : Arr2_Int) s
      by_cases h1 : findI (⟨at_, q.1⟩ : Arr2_Int) 0 s ≠ -1
      · rw [dec_t (by omega), cond_true, if_pos h1, step64 (by omega), ← hstep]
        exact ih (i + 1) _ _ _ (by rw [hstep]; omega) (by rw [hstep]; omega) (by rw [hstep]; omega)
      rw [dec_f (by omega), cond_false, if_neg h1]
      by_cases h2 : 1000 ≤ s.length
      · rw [dec_t (by omega), cond_true, if_pos h2]; exact ⟨_, rfl, rfl⟩
      rw [dec_f (by omega), cond_false, if_neg h2, need_t (by simp only [List.length_singleton]; omega), Option.bind_some, step64 (by omega), ← hstep]
      exact ih (i + 1) _ _ _ (by rw [hstep]; omega) (by rw [hstep]; omega) (by rw [hstep]; simp only [List.length_append, List.length_singleton]; omega)
theorem intern_PutStack_eq {names : List (List Int)} {stacks : List Arr2_Int} {l : List (List Int)} (hn : names.length ≤ 50000) (hs : stacks.length ≤ 50000) : intern_PutStack 200000 names stacks l = some (putStackS names stacks l) := by
  unfold intern_PutStack putStackS
  rw [intern_Frames_eq, Option.bind_some]
  by_cases h : framesS l ≠ 0
  · rw [bne_t h, cond_true, if_pos h]
  have hl : l.length ≤ 32 := by
    unfold framesS at h
    by_cases hc : 32 < l.length
    · rw [if_pos hc] at h; omega
    · omega
  rw [bne_f (by omega), cond_false, if_neg h]
  unfold slices_Clone_2_int_2_int
  rw [need_t (by simp only [List.length_nil]; omega), Option.bind_some, Option.bind_some, List.nil_append]
  obtain ⟨o, h1, h2⟩ := intern_PutStack_loop (names0 := names) (stacks0 := stacks) (l := l) (by omega) 200000 0 (-1) names stacks (by simp; omega) (by simp; omega) (by simp; omega)
  rw [show intern_PutStack_L1 200000 names stacks l 200000 (-1) names 0 stacks = some o from h1, Option.bind_some]
  rw [List.drop_zero] at h2
  rw [← h2]
  cases o <;> rfl
theorem R06_PutStack_loop {names0 : List (List Int)} {stacks0 : List Arr2_Int} {l : List (List Int)} (hl : l.length ≤ 40) : ∀ (m i : Nat) (at_ : Int) (n : List (List Int)) (s : List Arr2_Int), (l.drop i).length < m → n.length + (l.drop i).length ≤ 100000 → s.length + (l.drop i).length ≤ 100000 →
    ∃ o, R06_PutStack_L1 200000 names0 stacks0 l m at_ n (i : Int) s = some o ∧ unloop o = putL names0 stacks0 (l.drop i) at_ n s := by
  intro m
  induction m with
  | zero => intro i at_ n s h; omega
  | succ m ih =>
    intro i at_ n s hm hn hs
    show ∃ o, R06_PutStack_L1_body 200000 names0 stacks0 l _ at_ n (i : Int) s = some o ∧ _
    unfold R06_PutStack_L1_body
    rcases hd : l.drop i with _ | ⟨x, r⟩
    · have := drop_nil hd
      rw [dec_f (by omega), cond_false]
      exact ⟨_, rfl, rfl⟩
    · have hlt := drop_lt hd
      rw [hd] at hm hn hs
      simp only [List.length_cons] at hm hn hs
      have hstep := drop_step hd
      rw [dec_t (by omega), cond_true, idxL_drop hd, Option.bind_some, R06_Put_eq (by omega), Option.bind_some]
      have hpl := putS06_len n x
      simp only [putL]
      generalize putS06 n x = q at *
      by_cases h : q.2.2 ≠ 0
      · rw [bne_t h, cond_true, if_pos h]; exact ⟨_, rfl, rfl⟩
      rw [bne_f (by omega), cond_false, if_neg h, R06_FindStack_eq (by omega), Option.bind_some]
      have hr := findI_range (⟨at_, q.1⟩ : Arr2_Int) s
      by_cases h1 : findI (⟨at_, q.1⟩ : Arr2_Int) 0 s ≠ -1
      · rw [dec_t (by omega), cond_true, if_pos h1, Option.bind_some]
        simp only
        rw [step64 (by omega), ← hstep]
        exact ih (i + 1) _ _ _ (by rw [hstep]; omega) (by rw [hstep]; omega) (by rw [hstep]; omega)
      rw [dec_f (by omega), cond_false, if_neg h1]
      by_cases h2 : 1000 ≤ s.length
      · rw [dec_t (by omega), cond_true, if_pos h2]; exact ⟨_, rfl, rfl⟩
      rw [dec_f (by omega), cond_false, if_neg h2, need_t (by simp only [List.length_singleton]; omega), Option.bind_some, Option.bind_some]
      simp only
      rw [step64 (by omega), ← hstep]
      exact ih (i + 1) _ _ _ (by rw [hstep]; omega) (by rw [hstep]; omega) (by rw [hstep]; simp only [List.length_append, List.length_singleton]; omega)
theorem R06_PutStack_eq {names : List (List Int)} {stacks : List Arr2_Int} {l : List (List Int)} (hn : names.length ≤ 50000) (hs : stacks.length ≤ 50000) : R06_PutStack 200000 names stacks l = some (putStackS names stacks l) := by
  unfold R06_PutStack putStackS
  rw [R06_Frames_eq, Option.bind_some]
  by_cases h : framesS l ≠ 0
  · rw [bne_t h, cond_true, if_pos h]
  have hl : l.length ≤ 32 := by
    unfold framesS at h
    by_cases hc : 32 < l.length
    · rw [if_pos hc] at h; omega
    · omega
  rw [bne_f (by omega), cond_false, if_neg h]
  rw [need_t (by simp only [List.length_nil]; omega), Option.bind_some, List.nil_append]
  obtain ⟨o, h1, h2⟩ := R06_PutStack_loop (names0 := names) (stacks0 := stacks) (l := l) (by omega) 200000 0 (-1) names stacks (by simp; omega) (by simp; omega) (by simp; omega)
  rw [show R06_PutStack_L1 200000 names stacks l 200000 (-1) names 0 stacks = some o from h1, Option.bind_some]
  rw [List.drop_zero] at h2
  rw [← h2]
  cases o <;> rfl
theorem awake06 : L06_awake 200000 = some true := by kernel_rfl
end Go.Ab
