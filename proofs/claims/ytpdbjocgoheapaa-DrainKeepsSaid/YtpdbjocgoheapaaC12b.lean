/- Drains: the order of two threads' packets does not matter. -/
import Derived.Test.YtpdbjocgoheapaaB12j
import Derived.Test.YtpdbjocgoheapaaC12
namespace Go.Ab
open Go
set_option linter.unusedVariables false

theorem small_cases {l : List T_api_Packet} (ho : ∀ p ∈ l, p.Events.length ≤ 140737488355328) : L12_small 200000 l = some false ∨ (L12_small 200000 l = some true ∧ l.length + evN' l ≤ 3000) := by
  unfold L12_small
  have key : l.length ≤ 3000 → ∀ (n i : Nat) (k : Nat), (l.drop i).length < n → k ≤ 140737488355328 + 3000 → ∃ r : Int, L12_small_L1 200000 l n (k : Int) (i : Nat) = some r ∧ (r ≤ 3000 → k + evN' (l.drop i) ≤ 3000) := by
    intro hl3 n
    induction n with
    | zero => intro i k h; omega
    | succ n ih =>
      intro i k hn hk
      show ∃ r : Int, L12_small_L1_body 200000 l _ _ _ = some r ∧ _
      unfold L12_small_L1_body
      by_cases h3 : (k : Int) ≤ 3000
      rotate_left
      · rw [dec_f h3, Bool.and_false, cond_false]
        exact ⟨_, rfl, fun h => absurd h h3⟩
      rw [dec_t h3, Bool.and_true]
      rcases hd : l.drop i with _ | ⟨x, r⟩
      · have := drop_nil hd
        rw [dec_f (by omega), cond_false]
        exact ⟨_, rfl, fun h => by simp [evN']; omega⟩
      have hlt := drop_lt hd
      have hx := ho x (mem_drop hd)
      rw [hd] at hn
      simp only [List.length_cons] at hn
      rw [dec_t (by omega), cond_true, idxL_drop hd, Option.bind_some, w64 (by omega) (by omega), step64 (by omega), show (k : Int) + (x.Events.length : Int) = ((k + x.Events.length : Nat) : Int) by omega]
      obtain ⟨r', h1, h2⟩ := ih (i + 1) (k + x.Events.length) (by rw [drop_step hd]; omega) (by omega)
      refine ⟨r', h1, fun h => ?_⟩
      have := h2 h
      rw [drop_step hd] at this
      rw [evN_cons]; omega
  by_cases hl : l.length ≤ 3000
  · obtain ⟨r, h1, h2⟩ := key hl 200000 0 l.length (by simp; omega) (by omega)
    rw [show L12_small_L1 200000 l 200000 (l.length : Int) 0 = _ from h1, Option.bind_some]
    by_cases h : r ≤ 3000
    · rw [dec_t h]; exact .inr ⟨rfl, by simpa using h2 h⟩
    · rw [dec_f h]; exact .inl rfl
  · left
    show (Option.bind (L12_small_L1_body 200000 l _ _ _) _) = _
    unfold L12_small_L1_body
    rw [dec_f (p := (l.length : Int) ≤ 3000) (by omega), Bool.and_false, cond_false, Option.bind_some, dec_f (by omega)]
def twoL : List T_api_Thread := [⟨1, [120], 0⟩, ⟨2, [121], 0⟩]
def reth (p : T_api_Packet) (t : Int) : T_api_Packet := ⟨t, p.Serial, p.Lost, p.Events⟩
/-- One thread's part: what comes next, and what is kept. -/
def part (s : T_api_Service) (t : Int) : Int × List T_api_Packet := (nextOf s t, ofT t s.Queue)
def accP (n : Int) (p : T_api_Packet) : Prop := packS p = 0 ∧ ¬ p.Serial < n ∧ p.Serial = n + p.Lost
instance decAcc {n : Int} {p : T_api_Packet} : Decidable (accP n p) := inferInstanceAs (Decidable (_ ∧ _))
def stp (t : Int) (st : Int × List T_api_Packet) (p : T_api_Packet) : Int × List T_api_Packet := if accP st.1 (reth p t) then (endP (reth p t), st.2 ++ [reth p t]) else st
def runT (t : Int) (l : List T_api_Packet) : Int × List T_api_Packet := l.foldl (stp t) (0, [])
structure Rv (s : T_api_Service) (a b : List T_api_Packet) : Prop where
  th : s.Threads = twoL
  chk : chkS s = 0
  sz : s.Queue.length + evN' s.Queue ≤ (a.length + evN' a) + (b.length + evN' b)
  p1 : part s 1 = runT 1 a
  p2 : part s 2 = runT 2 b
theorem evN_app (l m : List T_api_Packet) : evN' (l ++ m) = evN' l + evN' m := by simp [evN']
theorem Rv.bounds {s : T_api_Service} {a b : List T_api_Packet} (h : Rv s a b) (hs : (a.length + evN' a) + (b.length + evN' b) ≤ 6000) : (∀ p ∈ s.Queue, p.Events.length ≤ 100000) ∧ s.Queue.length ≤ 100000 ∧ s.Next.length ≤ 100000 ∧ evN' s.Queue ≤ 1000000 := by
  have hz := h.sz
  have hn := next_len h.chk
  rw [h.th] at hn
  have hn2 : s.Next.length = 2 := hn
  exact ⟨fun p hp => by have := evN_mem hp; omega, by omega, by omega, by omega⟩
theorem take_sz (l : List T_api_Packet) (i : Nat) : (l.take i).length + evN' (l.take i) ≤ l.length + evN' l := by
  have h1 : (l.take i).length ≤ l.length := by simp; omega
  have h2 : evN' (l.take i) + evN' (l.drop i) = evN' l := by rw [← evN_app, List.take_append_drop]
  omega
end Go.Ab
