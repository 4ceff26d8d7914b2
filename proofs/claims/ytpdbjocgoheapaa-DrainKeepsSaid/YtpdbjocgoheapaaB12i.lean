/- Plain laws of the functions below this seat's, laid anew from another seat's text. No conditions but those that the theorems name. -/
import Derived.Test.YtpdbjocgoheapaaP12xD
import Derived.Test.YtpdbjocgoheapaaB12b
import Derived.Test.YtpdbjocgoheapaaB12c
import Derived.Test.YtpdbjocgoheapaaB12d
import Derived.Test.YtpdbjocgoheapaaB12e
import Derived.Test.YtpdbjocgoheapaaB12f
import Derived.Test.YtpdbjocgoheapaaB12g
import Derived.Test.YtpdbjocgoheapaaB12h
namespace Go.Ab
open Go
set_option linter.unusedVariables false
def pushS (out : List T_api_Packet) (p : T_api_Packet) : List T_api_Packet := match out.getLast? with
  | none => out ++ [p]
  | some q => bif (joinS q p).2 then out.set (out.length - 1) (joinS q p).1 else out ++ [p]
def flushT (s : T_api_Service) (out : List T_api_Packet) (t : T_api_Thread) : List T_api_Packet := (ofT t.Id s.Queue).foldl pushS out
def flushS (s : T_api_Service) : List T_api_Packet := s.Threads.foldl (flushT s) []
theorem pushS_len {out : List T_api_Packet} {p : T_api_Packet} : (pushS out p).length ≤ out.length + 1 := by
  unfold pushS
  cases out.getLast? with
  | none => simp
  | some q =>
    simp only
    cases (joinS q p).2
    · simp
    · simp
theorem joinS_ev {a b : T_api_Packet} : (joinS a b).1.Events.length ≤ 1000 := by
  unfold joinS
  by_cases hj : joinBad a b
  · rw [if_pos hj]; simp [pk0]
  rw [if_neg hj]
  by_cases h2 : headAt b.Events < lastAt a.Events ∨ a.Events.length + b.Events.length > 1000
  · rw [if_pos h2]; simp [pk0]
  · rw [if_neg h2]
    simp only [List.length_append]; omega
theorem joinS_thread {a b : T_api_Packet} (h : (joinS a b).2 = true) : (joinS a b).1.Thread = a.Thread ∧ a.Thread = b.Thread := by
  unfold joinS at *
  by_cases hj : joinBad a b
  · rw [if_pos hj] at h; cases h
  rw [if_neg hj] at *
  by_cases h2 : headAt b.Events < lastAt a.Events ∨ a.Events.length + b.Events.length > 1000
  · rw [if_pos h2] at h; cases h
  · rw [if_neg h2]
    unfold joinBad at hj
    exact ⟨rfl, by omega⟩
/-- What holds of what is out. -/
def OutI (T : List Int) (out : List T_api_Packet) : Prop := ∀ q ∈ out, q.Events.length ≤ 100000 ∧ q.Thread ∈ T
theorem OutI.push {T : List Int} {out : List T_api_Packet} {p : T_api_Packet} (h : OutI T out) (hp : p.Events.length ≤ 100000) (ht : p.Thread ∈ T) : OutI T (pushS out p) := by
  unfold pushS
  cases hl : out.getLast? with
  | none =>
    intro q hq
    rcases List.mem_append.1 hq with hq | hq
    · exact h q hq
    · simp at hq; subst hq; exact ⟨hp, ht⟩
  | some a =>
    simp only
    cases hj : (joinS a p).2
    · intro q hq
      rcases List.mem_append.1 hq with hq | hq
      · exact h q hq
      · simp at hq; subst hq; exact ⟨hp, ht⟩
    · intro q hq
      rcases List.mem_or_eq_of_mem_set hq with hq | hq
      · exact h q hq
      · subst hq
        have hm := h a (List.mem_of_getLast? hl)
        exact ⟨by have := joinS_ev (a := a) (b := p); omega, by rw [(joinS_thread hj).1]; exact hm.2⟩
theorem OutI.fold {T : List Int} : ∀ {l : List T_api_Packet} {out : List T_api_Packet}, OutI T out → (∀ p ∈ l, p.Events.length ≤ 100000 ∧ p.Thread ∈ T) → OutI T (l.foldl pushS out) := by
  intro l
  induction l with
  | nil => intro out h _; exact h
  | cons p r ih => intro out h hp; exact ih (h.push (hp p (by simp)).1 (hp p (by simp)).2) (fun q hq => hp q (by simp [hq]))
theorem fold_len : ∀ {l : List T_api_Packet} {out : List T_api_Packet}, (l.foldl pushS out).length ≤ out.length + l.length := by
  intro l
  induction l with
  | nil => intro out; simp
  | cons p r ih =>
    intro out
    have := ih (out := pushS out p)
    have := pushS_len (out := out) (p := p)
    simp only [List.foldl_cons, List.length_cons]; omega
theorem last_set {out : List T_api_Packet} (h : out ≠ []) (hl : out.length ≤ 100000000) : ∃ q, out.getLast? = some q ∧ idxL out (w_i64 ((out.length : Int) - 1)) = some q ∧ (w_i64 ((out.length : Int) - 1)).toNat = out.length - 1 := by
  have h0 : 0 < out.length := List.length_pos_iff.2 h
  refine ⟨_, List.getLast?_eq_some_getLast h, ?_, ?_⟩
  · rw [idxL_last (by omega) h, List.getLast?_eq_some_getLast h]
  · rw [w64 (by omega) (by omega)]; omega
theorem drain_Flush_loop2 {s : T_api_Service} {t : T_api_Thread} (hq : ∀ p ∈ s.Queue, p.Events.length ≤ 100000) (hl : s.Queue.length ≤ 100000) : ∀ (n i : Nat) (row : List T_api_Packet), (s.Queue.drop i).length < n → row.length + (s.Queue.drop i).length ≤ 100000000 → (∀ q ∈ row, q.Events.length ≤ 100000) →
    drain_Flush_L2 200000 s t n (i : Nat) row = some ((ofT t.Id (s.Queue.drop i)).foldl pushS row) := by
  intro n
  induction n with
  | zero => intro i row h; omega
  | succ n ih =>
    intro i row hn hr hev
    show drain_Flush_L2_body _ _ _ _ _ _ = _
    unfold drain_Flush_L2_body
    rcases hd : s.Queue.drop i with _ | ⟨x, r⟩
    · have := drop_nil hd
      rw [dec_f (by omega)]; rfl
    have hlt := drop_lt hd
    have hx := hq x (mem_drop hd)
    rw [hd] at hn hr
    simp only [List.length_cons] at hn hr
    rw [dec_t (by omega), cond_true, idxL_drop hd, Option.bind_some]
    by_cases ht : x.Thread = t.Id
    rotate_left
    · rw [bne_t ht, cond_true, step64 (by omega), ih (i + 1) row (by rw [drop_step hd]; omega) (by rw [drop_step hd]; omega) hev, drop_step hd, ofT, ofT, List.filter_cons_of_neg (by simpa using ht)]
    rw [bne_f ht, cond_false, ofT, List.filter_cons_of_pos (by simpa using ht), List.foldl_cons]
    have hI : OutI (t.Id :: row.map (·.Thread)) row := fun q hq => ⟨hev q hq, by simp; exact .inr ⟨q, hq, rfl⟩⟩
    have hpush : ∀ q ∈ pushS row x, q.Events.length ≤ 100000 := fun q hq => (hI.push hx (by simp [ht]) q hq).1
    have hpl := pushS_len (out := row) (p := x)
    have hih := ih (i + 1) (pushS row x) (by rw [drop_step hd]; omega) (by rw [drop_step hd]; omega) hpush
    rw [drop_step hd] at hih
    by_cases he : row = []
    · subst he
      rw [dec_f (by decide), cond_false, Option.bind_some, need_t (by simp), Option.bind_some, step64 (by omega)]
      exact hih
    · obtain ⟨q, e1, e2, e3⟩ := last_set he (by omega)
      have h0 : 0 < row.length := List.length_pos_iff.2 he
      have hqe := hev q (List.mem_of_getLast? e1)
      have hp : pushS row x = bif (joinS q x).2 then row.set (row.length - 1) (joinS q x).1 else row ++ [x] := by unfold pushS; rw [e1]
      rw [hp] at hih
      rw [dec_t (by rw [w64 (by omega) (by omega)]; omega), cond_true, e2, Option.bind_some, packet_Join_eq hqe hx, Option.bind_some, e3, Option.bind_some]
      cases hj : (joinS q x).2
      · rw [hj, cond_false] at hih
        rw [cond_false, Option.bind_some, need_t (by simp; omega), Option.bind_some, step64 (by omega), hp, hj, cond_false]
        exact hih
      · rw [hj, cond_true] at hih
        rw [cond_true, Option.bind_some, step64 (by omega), hp, hj, cond_true]
        exact hih
theorem drain_Flush_loop1 {s : T_api_Service} (hq : ∀ p ∈ s.Queue, p.Events.length ≤ 100000) (hl : s.Queue.length ≤ 100000) (ht : s.Threads.length ≤ 64) : ∀ (n i : Nat) (row : List T_api_Packet), (s.Threads.drop i).length < n → row.length ≤ i * 100000 → i ≤ s.Threads.length → (∀ q ∈ row, q.Events.length ≤ 100000) →
    drain_Flush_L1 200000 s n (i : Nat) row = some ((s.Threads.drop i).foldl (flushT s) row) := by
  intro n
  induction n with
  | zero => intro i row h; omega
  | succ n ih =>
    intro i row hn hr hi hev
    show drain_Flush_L1_body _ _ _ _ _ = _
    unfold drain_Flush_L1_body
    rcases hd : s.Threads.drop i with _ | ⟨x, r⟩
    · have := drop_nil hd
      rw [dec_f (by omega)]; rfl
    have hlt := drop_lt hd
    rw [hd] at hn
    simp only [List.length_cons] at hn
    have hI : OutI ((s.Queue ++ row).map (·.Thread)) row := fun q hq => ⟨hev q hq, by simp; exact .inr ⟨q, hq, rfl⟩⟩
    have hfl : ∀ q ∈ flushT s row x, q.Events.length ≤ 100000 := fun q hqq => ((hI.fold (l := ofT x.Id s.Queue) (fun p hp => ⟨hq p (List.mem_filter.1 hp).1, by simp; exact .inl ⟨p, (List.mem_filter.1 hp).1, rfl⟩⟩)) q hqq).1
    have hfl2 : (flushT s row x).length ≤ row.length + s.Queue.length := by
      have h1 := fold_len (l := ofT x.Id s.Queue) (out := row)
      have h2 : (ofT x.Id s.Queue).length ≤ s.Queue.length := List.length_filter_le _ _
      unfold flushT; omega
    rw [dec_t (by omega), cond_true, idxL_drop hd, Option.bind_some, show drain_Flush_L2 200000 s x 200000 0 row = _ from drain_Flush_loop2 hq hl 200000 0 row (by simp; omega) (by simp; omega) hev, Option.bind_some, List.drop_zero, step64 (by omega), List.foldl_cons]
    have := ih (i + 1) (flushT s row x) (by rw [drop_step hd]; omega) (by omega) (by omega) hfl
    rw [drop_step hd] at this
    exact this
def outS (s : T_api_Service) : List T_api_Packet × T_api_Service := if chkS s ≠ 0 then ([], s) else (flushS s, ⟨s.Threads, s.Next, []⟩)
theorem chk_threads {s : T_api_Service} (h : chkS s = 0) : threadsS s.Threads = 0 ∧ ¬ nextBad s ∧ qok s.Threads s.Next [] s.Queue = true := by
  unfold chkS at h
  by_cases h1 : threadsS s.Threads ≠ 0
  · rw [if_pos h1] at h; exact absurd h h1
  rw [if_neg h1] at h
  by_cases h2 : nextBad s
  · rw [if_pos h2] at h; cases h
  rw [if_neg h2] at h
  cases hq : qok s.Threads s.Next [] s.Queue
  · rw [hq] at h; cases h
  · exact ⟨by omega, h2, rfl⟩
theorem drain_Flush_eq {s : T_api_Service} (hq : ∀ p ∈ s.Queue, p.Events.length ≤ 100000) (hl : s.Queue.length ≤ 100000) (hn : s.Next.length ≤ 100000) : drain_Flush 200000 s = some (outS s) := by
  unfold drain_Flush outS
  rw [drain_Check_eq hq hl hn, Option.bind_some]
  by_cases h : chkS s ≠ 0
  · rw [bne_t h, if_pos h]; rfl
  have ht := threadsS_len (chk_threads (show chkS s = 0 by omega)).1
  rw [bne_f (by omega), if_neg h, cond_false, show drain_Flush_L1 200000 s 200000 0 [] = _ from drain_Flush_loop1 hq hl (by omega) 200000 0 [] (by simp; omega) (by simp) (by omega) (by simp), Option.bind_some, List.drop_zero]; rfl
theorem next_len {s : T_api_Service} (h : chkS s = 0) : s.Next.length = s.Threads.length := by
  have := (chk_threads h).2.1
  unfold nextBad at this
  by_cases hl : s.Next.length = s.Threads.length
  · exact hl
  · exact absurd (.inl hl) this
end Go.Ab
