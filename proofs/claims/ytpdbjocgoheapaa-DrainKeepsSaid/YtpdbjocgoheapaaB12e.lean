/- Plain laws of the functions below this seat's, laid anew from another seat's text. No conditions but those that the theorems name. -/
import Derived.Test.YtpdbjocgoheapaaP12xD
import Derived.Test.YtpdbjocgoheapaaB12b
import Derived.Test.YtpdbjocgoheapaaB12c
import Derived.Test.YtpdbjocgoheapaaB12d
namespace Go.Ab
open Go
set_option linter.unusedVariables false
def threadBad (t : T_api_Thread) : Prop := t.Id < 0 ∨ t.Id > 1000000000000000 ∨ t.Domain < 0 ∨ t.Domain ≥ 8
instance decThreadBad {t : T_api_Thread} : Decidable (threadBad t) := inferInstanceAs (Decidable (_ ∨ _))
def threadS (t : T_api_Thread) : Int := if threadBad t then 2 else nameS t.Name
theorem thread_cond {t : T_api_Thread} : (decide (t.Id < (0 : Int)) || (decide (t.Id > (1000000000000000 : Int)) || (decide (t.Domain < (0 : Int)) || decide (t.Domain ≥ (8 : Int))))) = decide (threadBad t) := by
  by_cases h : threadBad t
  · rw [dec_t h]; unfold threadBad at h; simpa using h
  · rw [dec_f h]; unfold threadBad at h; simp; omega
theorem producer_Thread_eq {t : T_api_Thread} : producer_Thread 200000 t = some (threadS t) := by
  unfold producer_Thread threadS
  rw [thread_cond, intern_Name_eq]
  by_cases h : threadBad t
  · rw [dec_t h, if_pos h]; rfl
  · rw [dec_f h, if_neg h]; rfl
def idsL (l : List T_api_Thread) : List Int := l.map (·.Id)
/-- Where a thread stands. -/
def atS (l : List T_api_Thread) (id : Int) : Int := findI id 0 (idsL l)
theorem idx_loop {l : List T_api_Thread} {id : Int} (L : Nat → Int → Option (Unit ⊕ Int)) (hl : l.length ≤ 100000)
    (h0 : ∀ n i, l.length ≤ i → L (n + 1) (i : Nat) = some (.inl ()))
    (h1 : ∀ n i x r, l.drop i = x :: r → i < l.length → L (n + 1) (i : Nat) = if x.Id = id then some (.inr (i : Int)) else L n ((i + 1 : Nat) : Int)) :
    (L 200000 0).bind (fun o => match o with | .inl _ => some (-1 : Int) | .inr q => some q) = some (atS l id) := by
  have key : ∀ (n i : Nat), (l.drop i).length < n → (L n (i : Int)).bind (fun o => match o with | .inl _ => some (-1 : Int) | .inr q => some q) = some (findI id i (idsL (l.drop i))) := by
    intro n
    induction n with
    | zero => intro i h; omega
    | succ n ih =>
      intro i hn
      rcases hd : l.drop i with _ | ⟨x, r⟩
      · rw [h0 n i (drop_nil hd)]; rfl
      have hlt := drop_lt hd
      rw [hd] at hn
      simp only [List.length_cons] at hn
      rw [h1 n i x r hd hlt]
      simp only [idsL, List.map_cons, findI]
      by_cases h : x.Id = id
      · rw [if_pos h, if_pos h]; rfl
      · rw [if_neg h, if_neg h, ih (i + 1) (by rw [drop_step hd]; omega), drop_step hd]; rfl
  have := key 200000 0 (by simp; omega)
  simpa [atS] using this
theorem drain_find_eq {s : T_api_Service} {id : Int} (hl : s.Threads.length ≤ 100000) : drain_find 200000 s id = some (atS s.Threads id) := by
  unfold drain_find slices_IndexFunc_tracebook_api_Thread_tracebook_api_Thread
  have := idx_loop (l := s.Threads) (id := id) (slices_IndexFunc_tracebook_api_Thread_tracebook_api_Thread_L1 200000 s.Threads id) hl (fun n i hi => by
    show slices_IndexFunc_tracebook_api_Thread_tracebook_api_Thread_L1_body _ _ _ _ _ = _
    unfold slices_IndexFunc_tracebook_api_Thread_tracebook_api_Thread_L1_body
    rw [dec_f (by omega)]; rfl) (fun n i x r hd hlt => by
    show slices_IndexFunc_tracebook_api_Thread_tracebook_api_Thread_L1_body _ _ _ _ _ = _
    unfold slices_IndexFunc_tracebook_api_Thread_tracebook_api_Thread_L1_body drain_find_1
    rw [dec_t (by omega), cond_true, idxL_drop hd, Option.bind_some, Option.bind_some]
    by_cases h : x.Id = id
    · rw [beq_t h, if_pos h]; rfl
    · rw [beq_f h, if_neg h, cond_false, step64 (by omega)])
  refine Eq.trans (congrArg (fun o => Option.bind o _) (Eq.trans ?_ this)) rfl
  congr 1
def thrS (seen : List Int) : List T_api_Thread → Int
  | [] => 0
  | t :: r => if threadS t ≠ 0 then threadS t else if t.Id ∈ seen then 4 else thrS (seen ++ [t.Id]) r
def threadsS (l : List T_api_Thread) : Int := if l.length = 0 then 8 else if l.length > 64 then 7 else thrS [] l
theorem drain_threads_loop {l : List T_api_Thread} (hl : l.length ≤ 100000) : ∀ (n i : Nat) (row : List (Int × Bool)) (seen : List Int), Seen row seen → seen.length ≤ i → (l.drop i).length < n →
    drain_threads_L1 200000 l n (i : Nat) row = some (toO (thrS seen (l.drop i))) := by
  intro n
  induction n with
  | zero => intro i row seen _ _ h; omega
  | succ n ih =>
    intro i row seen hs hr hn
    show drain_threads_L1_body _ _ _ _ _ = _
    unfold drain_threads_L1_body
    rcases hd : l.drop i with _ | ⟨x, r⟩
    · have := drop_nil hd
      rw [dec_f (by omega)]; rfl
    have hlt := drop_lt hd
    rw [hd] at hn
    simp only [List.length_cons] at hn
    rw [dec_t (by omega), cond_true, idxL_drop hd, Option.bind_some, producer_Thread_eq, Option.bind_some]
    simp only [thrS]
    by_cases h1 : threadS x ≠ 0
    · rw [bne_t h1, if_pos h1, toO_ne h1]; rfl
    rw [bne_f (by omega), if_neg h1, cond_false]
    by_cases h2 : x.Id ∈ seen
    · rw [hs.2 x.Id, dec_t h2, if_pos h2]; rfl
    · have hsl := hs.1
      rw [hs.2 x.Id, dec_f h2, if_neg h2, cond_false, need_t (by omega), Option.bind_some, step64 (by omega), ih (i + 1) _ _ (seen_put hs x.Id) (by simp; omega) (by rw [drop_step hd]; omega), drop_step hd]
theorem drain_threads_eq {l : List T_api_Thread} : drain_threads 200000 l = some (threadsS l) := by
  unfold drain_threads threadsS
  by_cases h1 : l.length = 0
  · rw [beq_t (by omega), if_pos h1]; rfl
  rw [beq_f (by omega), if_neg h1, cond_false]
  by_cases h2 : l.length > 64
  · rw [dec_t (by omega), if_pos h2]; rfl
  rw [dec_f (by omega), if_neg h2, cond_false, show drain_threads_L1 200000 l 200000 0 [] = _ from drain_threads_loop (by omega) 200000 0 [] [] seen_nil (by simp) (by simp; omega), Option.bind_some, List.drop_zero]
  unfold toO
  by_cases h : thrS [] l = 0
  · rw [if_pos h, h]
  · rw [if_neg h]
def newS (l : List T_api_Thread) : T_api_Service × Int := if threadsS l ≠ 0 then (⟨[], [], []⟩, threadsS l) else (⟨l, List.replicate l.length 0, []⟩, 0)
theorem threadsS_len {l : List T_api_Thread} (h : threadsS l = 0) : 0 < l.length ∧ l.length ≤ 64 := by
  unfold threadsS at h
  by_cases h1 : l.length = 0
  · rw [if_pos h1] at h; cases h
  rw [if_neg h1] at h
  by_cases h2 : l.length > 64
  · rw [if_pos h2] at h; cases h
  omega
theorem drain_New_eq {l : List T_api_Thread} : drain_New 200000 l = some (newS l) := by
  unfold drain_New newS slices_Clone_tracebook_api_Thread_tracebook_api_Thread
  rw [drain_threads_eq, Option.bind_some]
  by_cases h : threadsS l ≠ 0
  · rw [bne_t h, if_pos h]; rfl
  have hl := threadsS_len (show threadsS l = 0 by omega)
  rw [bne_f (by omega), if_neg h, cond_false, need_t (by simp; omega), Option.bind_some, Option.bind_some, need_t (by omega), Option.bind_some]; rfl
end Go.Ab
