/- Drains: the order of two threads' packets does not matter. -/
import Derived.Test.YtpdbjocgoheapaaB12j
import Derived.Test.YtpdbjocgoheapaaC12
namespace Go.Ab
open Go
set_option linter.unusedVariables false

theorem small_cases {l : List T_api_Packet} (ho : ∀ p ∈ l, p.Events.length ≤ 140737488355328) : L12_small 200000 l = some false ∨ (L12_small 200000 l = some true ∧ l.length + evN' l ≤ 3000) := by
  unfold L12_small
  have key : l.length ≤ 3000 → ∀ (n i : Nat) (k : Nat), (l.drop i).length < n → k ≤ 140737488355328 + 3000 → ∃ r : Int, L12_small_L1 200000 l n (k : Int) (i : Nat) = some r ∧ (r ≤ 3000 → k + evN' (l.drop i) ≤ 3000) := by
    intro hl3 n
    induction n with
    | zero => intro i k h; omega
    | succ n ih =>
      intro i k hn hk
      show ∃ r : Int, L12_small_L1_body 200000 l _ _ _ = some r ∧ _
      unfold L12_small_L1_body
      by_cases h3 : (k : Int) ≤ 3000
      rotate_left
      · rw [dec_f h3, Bool.and_false, cond_false]
        exact ⟨_, rfl, fun h => absurd h h3⟩
      rw [dec_t h3, Bool.and_true]
      rcases hd : l.drop i with _ | ⟨x, r⟩
      · have := drop_nil hd
        rw [dec_f (by omega), cond_false]
        exact ⟨_, rfl, fun h => by simp [evN']; omega⟩
      have hlt := drop_lt hd
      have hx := ho x (mem_drop hd)
      rw [hd] at hn
      simp only [List.length_cons] at hn
      rw [dec_t (by omega), cond_true, idxL_drop hd, Option.bind_some, w64 (by omega) (by omega), step64 (by omega), show (k : Int) + (x.Events.length : Int) = ((k + x.Events.length : Nat) : Int) by omega]
      obtain ⟨r', h1, h2⟩ := ih (i + 1) (k + x.Events.length) (by rw [drop_step hd]; omega) (by omega)
      refine ⟨r', h1, fun h => ?_⟩
      have := h2 h
      rw [drop_step hd] at this
      rw [evN_cons]; omega
  by_cases hl : l.length ≤ 3000
  · obtain ⟨r, h1, h2⟩ := key hl 200000 0 l.length (by simp; omega) (by omega)
    rw [show L12_small_L1 200000 l 200000 (l.length : Int) 0 = _ from h1, Option.bind_some]
    by_cases h : r ≤ 3000
    · rw [dec_t h]; exact .inr ⟨rfl, by simpa using h2 h⟩
    · rw [dec_f h]; exact .inl rfl
  · left
    show (Option.bind (L12_small_L1_body 200000 l _ _ _) _) = _
    unfold L12_small_L1_body
    rw [dec_f (p := (l.length : Int) ≤ 3000) (by omega), Bool.and_false, cond_false, Option.bind_some, dec_f (by omega)]
def twoL : List T_api_Thread := [⟨1, [120], 0⟩, ⟨2, [121], 0⟩]
def reth (p : T_api_Packet) (t : Int) : T_api_Packet := ⟨t, p.Serial, p.Lost, p.Events⟩
def aft (s : T_api_Service) (p : T_api_Packet) (t : Int) : T_api_Service := (collS s (reth p t)).1
/-- One thread's part: what comes next, and what is kept. -/
def part (s : T_api_Service) (t : Int) : Int × List T_api_Packet := (nextOf s t, ofT t s.Queue)
def accP (n : Int) (p : T_api_Packet) : Prop := packS p = 0 ∧ ¬ p.Serial < n ∧ p.Serial = n + p.Lost
instance decAcc {n : Int} {p : T_api_Packet} : Decidable (accP n p) := inferInstanceAs (Decidable (_ ∧ _))
def stp (t : Int) (st : Int × List T_api_Packet) (p : T_api_Packet) : Int × List T_api_Packet := if accP st.1 (reth p t) then (endP (reth p t), st.2 ++ [reth p t]) else st
def runT (t : Int) (l : List T_api_Packet) : Int × List T_api_Packet := l.foldl (stp t) (0, [])
structure Rv (s : T_api_Service) (a b : List T_api_Packet) : Prop where
  th : s.Threads = twoL
  chk : chkS s = 0
  sz : s.Queue.length + evN' s.Queue ≤ (a.length + evN' a) + (b.length + evN' b)
  p1 : part s 1 = runT 1 a
  p2 : part s 2 = runT 2 b
theorem evN_app (l m : List T_api_Packet) : evN' (l ++ m) = evN' l + evN' m := by simp [evN']
theorem coll_acc {s : T_api_Service} {p : T_api_Packet} (h0 : chkS s = 0) (h2 : 0 ≤ atS s.Threads p.Thread) (h5 : evN' s.Queue + p.Events.length ≤ 20000) :
    (collS s p).1 = if accP (nextOf s p.Thread) p then ⟨s.Threads, s.Next.set (atS s.Threads p.Thread).toNat (endP p), s.Queue ++ [p]⟩ else s := by
  unfold collS
  rw [if_neg (by omega)]
  by_cases h1 : packS p ≠ 0
  · rw [if_pos h1, if_neg (show ¬ accP _ _ from fun h => h1 h.1)]
  rw [if_neg h1, if_neg (by omega)]
  by_cases h3 : p.Serial < nextOf s p.Thread
  · rw [if_pos h3, if_neg (show ¬ accP _ _ from fun h => h.2.1 h3)]
  rw [if_neg h3]
  by_cases h4 : p.Serial ≠ nextOf s p.Thread + p.Lost
  · rw [if_pos h4, if_neg (show ¬ accP _ _ from fun h => h4 h.2.2)]
  rw [if_neg h4, if_neg (by omega), if_pos (show accP _ _ from ⟨by omega, h3, by omega⟩)]
theorem at1 : atS twoL 1 = 0 := by decide
theorem at2 : atS twoL 2 = 1 := by decide
theorem step1 {s : T_api_Service} {a b : List T_api_Packet} {p : T_api_Packet} (h : Rv s a b) (hs : (a.length + evN' a) + (b.length + evN' b) ≤ 6000) (hp : p.Events.length ≤ 3000) : Rv (aft s p 1) (a ++ [p]) b := by
  obtain ⟨th, chk, sz, p1, p2⟩ := h
  have hat : atS s.Threads (reth p 1).Thread = 0 := by rw [th]; exact at1
  have hnl := next_len chk
  rw [th] at hnl
  have hnl2 : s.Next.length = 2 := hnl
  have hc := coll_acc (s := s) (p := reth p 1) chk (by omega) (show evN' s.Queue + p.Events.length ≤ 20000 by omega)
  have hrun : runT 1 (a ++ [p]) = stp 1 (runT 1 a) p := by unfold runT; rw [List.foldl_append]; rfl
  have hch : chkS (aft s p 1) = 0 := by
    by_cases hz : (collS s (reth p 1)).2 = 0
    · exact chk_coll hz
    · unfold aft; rw [coll_fail hz]; exact chk
  have e1 : (runT 1 a).1 = nextOf s 1 := by rw [← p1]; rfl
  have e2 : (runT 1 a).2 = ofT 1 s.Queue := by rw [← p1]; rfl
  by_cases hacc : accP (nextOf s (reth p 1).Thread) (reth p 1)
  · rw [if_pos hacc] at hc
    have ha : aft s p 1 = ⟨s.Threads, s.Next.set 0 (endP (reth p 1)), s.Queue ++ [reth p 1]⟩ := by unfold aft; rw [hc, hat]; rfl
    refine ⟨by rw [ha]; exact th, hch, ?_, ?_, ?_⟩
    · rw [ha]; simp only [List.length_append, evN_app, List.length_singleton]
      have : evN' [reth p 1] = p.Events.length := by simp [evN', reth]
      have : evN' [p] = p.Events.length := by simp [evN']
      omega
    · rw [hrun]
      unfold stp
      rw [if_pos (show accP (runT 1 a).1 (reth p 1) by rw [e1]; exact hacc), e2, ha]
      unfold part nextOf
      simp only [th]
      rw [at1]
      refine Prod.ext ?_ ?_
      · show ((s.Next.set 0 _)[0]?).getD 0 = _
        rw [List.getElem?_set_self (by omega)]; rfl
      · show ofT 1 (s.Queue ++ [reth p 1]) = _
        simp [ofT, reth]
    · rw [← p2, ha]
      unfold part nextOf
      simp only [th]
      rw [at2]
      refine Prod.ext ?_ ?_
      · show ((s.Next.set 0 _)[1]?).getD 0 = _
        rw [List.getElem?_set_ne (by omega)]; rfl
      · show ofT 2 (s.Queue ++ [reth p 1]) = _
        simp [ofT, reth]
  · rw [if_neg hacc] at hc
    have ha : aft s p 1 = s := hc
    refine ⟨by rw [ha]; exact th, hch, ?_, ?_, by rw [ha]; exact p2⟩
    · rw [ha]; simp only [List.length_append, evN_app]; omega
    · rw [hrun, ha, p1]
      unfold stp
      rw [if_neg (show ¬ accP (runT 1 a).1 (reth p 1) by rw [e1]; exact hacc)]
theorem step2 {s : T_api_Service} {a b : List T_api_Packet} {p : T_api_Packet} (h : Rv s a b) (hs : (a.length + evN' a) + (b.length + evN' b) ≤ 6000) (hp : p.Events.length ≤ 3000) : Rv (aft s p 2) a (b ++ [p]) := by
  obtain ⟨th, chk, sz, p1, p2⟩ := h
  have hat : atS s.Threads (reth p 2).Thread = 1 := by rw [th]; exact at2
  have hnl := next_len chk
  rw [th] at hnl
  have hnl2 : s.Next.length = 2 := hnl
  have hc := coll_acc (s := s) (p := reth p 2) chk (by omega) (show evN' s.Queue + p.Events.length ≤ 20000 by omega)
  have hrun : runT 2 (b ++ [p]) = stp 2 (runT 2 b) p := by unfold runT; rw [List.foldl_append]; rfl
  have hch : chkS (aft s p 2) = 0 := by
    by_cases hz : (collS s (reth p 2)).2 = 0
    · exact chk_coll hz
    · unfold aft; rw [coll_fail hz]; exact chk
  have e1 : (runT 2 b).1 = nextOf s 2 := by rw [← p2]; rfl
  have e2 : (runT 2 b).2 = ofT 2 s.Queue := by rw [← p2]; rfl
  by_cases hacc : accP (nextOf s (reth p 2).Thread) (reth p 2)
  · rw [if_pos hacc] at hc
    have ha : aft s p 2 = ⟨s.Threads, s.Next.set 1 (endP (reth p 2)), s.Queue ++ [reth p 2]⟩ := by unfold aft; rw [hc, hat]; rfl
    refine ⟨by rw [ha]; exact th, hch, ?_, ?_, ?_⟩
    · rw [ha]; simp only [List.length_append, evN_app, List.length_singleton]
      have : evN' [reth p 2] = p.Events.length := by simp [evN', reth]
      have : evN' [p] = p.Events.length := by simp [evN']
      omega
    · rw [← p1, ha]
      unfold part nextOf
      simp only [th]
      rw [at1]
      refine Prod.ext ?_ ?_
      · show ((s.Next.set 1 _)[0]?).getD 0 = _
        rw [List.getElem?_set_ne (by omega)]; rfl
      · show ofT 1 (s.Queue ++ [reth p 2]) = _
        simp [ofT, reth]
    · rw [hrun]
      unfold stp
      rw [if_pos (show accP (runT 2 b).1 (reth p 2) by rw [e1]; exact hacc), e2, ha]
      unfold part nextOf
      simp only [th]
      rw [at2]
      refine Prod.ext ?_ ?_
      · show ((s.Next.set 1 _)[1]?).getD 0 = _
        rw [List.getElem?_set_self (by omega)]; rfl
      · show ofT 2 (s.Queue ++ [reth p 2]) = _
        simp [ofT, reth]
  · rw [if_neg hacc] at hc
    have ha : aft s p 2 = s := hc
    refine ⟨by rw [ha]; exact th, hch, ?_, by rw [ha]; exact p1, ?_⟩
    · rw [ha]; simp only [List.length_append, evN_app]; omega
    · rw [hrun, ha, p2]
      unfold stp
      rw [if_neg (show ¬ accP (runT 2 b).1 (reth p 2) by rw [e1]; exact hacc)]
theorem Rv.bounds {s : T_api_Service} {a b : List T_api_Packet} (h : Rv s a b) (hs : (a.length + evN' a) + (b.length + evN' b) ≤ 6000) : (∀ p ∈ s.Queue, p.Events.length ≤ 100000) ∧ s.Queue.length ≤ 100000 ∧ s.Next.length ≤ 100000 ∧ evN' s.Queue ≤ 1000000 := by
  have hz := h.sz
  have hn := next_len h.chk
  rw [h.th] at hn
  have hn2 : s.Next.length = 2 := hn
  exact ⟨fun p hp => by have := evN_mem hp; omega, by omega, by omega, by omega⟩
theorem after_eq {s : T_api_Service} {a b : List T_api_Packet} {p : T_api_Packet} {t : Int} (h : Rv s a b) (hs : (a.length + evN' a) + (b.length + evN' b) ≤ 6000) (hp : p.Events.length ≤ 3000) : L12_after 200000 s p t = some (aft s p t) := by
  obtain ⟨b1, b2, b3, b4⟩ := h.bounds hs
  unfold L12_after
  rw [show drain_Collect 200000 s ⟨t, p.Serial, p.Lost, p.Events⟩ = some (collS s (reth p t)) from drain_Collect_eq b1 b2 b3 b4 (show p.Events.length ≤ 100000 by omega), Option.bind_some]
  by_cases hz : (collS s (reth p t)).2 ≠ 0
  · rw [bne_t hz, cond_true]; unfold aft; rw [coll_fail hz]
  · rw [bne_f (by omega), cond_false]; rfl
theorem take_sz (l : List T_api_Packet) (i : Nat) : (l.take i).length + evN' (l.take i) ≤ l.length + evN' l := by
  have h1 : (l.take i).length ≤ l.length := by simp; omega
  have h2 : evN' (l.take i) + evN' (l.drop i) = evN' l := by rw [← evN_app, List.take_append_drop]
  omega
theorem order_loop2 {A : T_api_Service} {a b : List T_api_Packet} (hs : (a.length + evN' a) + (b.length + evN' b) ≤ 6000) (hb : ∀ p ∈ b, p.Events.length ≤ 3000) : ∀ (n i : Nat) (s : T_api_Service), Rv s a (b.take i) → (b.drop i).length < n →
    ∃ s', L12_DrainOrder_L2 200000 b n (i : Nat) s.Threads s.Next s.Queue = some (s'.Threads, s'.Next, s'.Queue) ∧ Rv s' a b := by
  intro n
  induction n with
  | zero => intro i s _ h; omega
  | succ n ih =>
    intro i s h hn
    show ∃ s', L12_DrainOrder_L2_body 200000 b _ _ _ _ _ = _ ∧ _
    unfold L12_DrainOrder_L2_body
    rcases hd : b.drop i with _ | ⟨x, r⟩
    · have := drop_nil hd
      rw [dec_f (by omega), cond_false]
      rw [List.take_of_length_le (by omega)] at h
      exact ⟨s, rfl, h⟩
    have hlt := drop_lt hd
    have htz := take_sz b i
    rw [hd] at hn
    simp only [List.length_cons] at hn
    have hx := hb x (mem_drop hd)
    have hst := step2 h (by omega) hx
    rw [← take_step hd] at hst
    rw [dec_t (by omega), cond_true, idxL_drop hd, Option.bind_some, show L12_after 200000 ⟨s.Threads, s.Next, s.Queue⟩ x 2 = _ from after_eq h (by omega) hx, Option.bind_some, step64 (by omega)]
    exact ih (i + 1) _ hst (by rw [drop_step hd]; omega)
theorem order_loop3 {a b : List T_api_Packet} (hs : (a.length + evN' a) + (b.length + evN' b) ≤ 6000) (ha : ∀ p ∈ a, p.Events.length ≤ 3000) : ∀ (n i : Nat) (s : T_api_Service), Rv s (a.take i) b → (a.drop i).length < n →
    ∃ s', L12_DrainOrder_L3 200000 a n (i : Nat) s.Threads s.Next s.Queue = some (s'.Threads, s'.Next, s'.Queue) ∧ Rv s' a b := by
  intro n
  induction n with
  | zero => intro i s _ h; omega
  | succ n ih =>
    intro i s h hn
    show ∃ s', L12_DrainOrder_L3_body 200000 a _ _ _ _ _ = _ ∧ _
    unfold L12_DrainOrder_L3_body
    rcases hd : a.drop i with _ | ⟨x, r⟩
    · have := drop_nil hd
      rw [dec_f (by omega), cond_false]
      rw [List.take_of_length_le (by omega)] at h
      exact ⟨s, rfl, h⟩
    have hlt := drop_lt hd
    have htz := take_sz a i
    rw [hd] at hn
    simp only [List.length_cons] at hn
    have hx := ha x (mem_drop hd)
    have hst := step1 h (by omega) hx
    rw [← take_step hd] at hst
    rw [dec_t (by omega), cond_true, idxL_drop hd, Option.bind_some, show L12_after 200000 ⟨s.Threads, s.Next, s.Queue⟩ x 1 = _ from after_eq h (by omega) hx, Option.bind_some, step64 (by omega)]
    exact ih (i + 1) _ hst (by rw [drop_step hd]; omega)
theorem order_loop1 {a b : List T_api_Packet} (hs : (a.length + evN' a) + (b.length + evN' b) ≤ 6000) (ha : ∀ p ∈ a, p.Events.length ≤ 3000) (hb : ∀ p ∈ b, p.Events.length ≤ 3000) : ∀ (n i : Nat) (A B C : T_api_Service), Rv A (a.take i) [] → Rv B [] (b.take i) → Rv C (a.take i) (b.take i) → (a.drop i).length + (b.drop i).length < n →
    ∃ A' B' C', L12_DrainOrder_L1 200000 a b n (i : Nat) A.Threads A.Next A.Queue B.Threads B.Next B.Queue C.Threads C.Next C.Queue = some (A'.Threads, A'.Next, A'.Queue, B'.Threads, B'.Next, B'.Queue, C'.Threads, C'.Next, C'.Queue) ∧ Rv A' a [] ∧ Rv B' [] b ∧ Rv C' a b := by
  intro n
  induction n with
  | zero => intro i A B C _ _ _ h; omega
  | succ n ih =>
    intro i A B C hA hB hC hn
    show ∃ A' B' C', L12_DrainOrder_L1_body 200000 a b _ _ _ _ _ _ _ _ _ _ _ = _ ∧ _
    unfold L12_DrainOrder_L1_body
    have hmax : (imax (a.length : Int) (b.length : Int)) = ((max a.length b.length : Nat) : Int) := by
      unfold imax; split <;> omega
    rw [hmax]
    have hta := take_sz a i
    have htb := take_sz b i
    by_cases hend : max a.length b.length ≤ i
    · rw [dec_f (by omega), cond_false]
      rw [List.take_of_length_le (by omega)] at hA hC
      rw [List.take_of_length_le (l := b) (by omega)] at hB hC
      exact ⟨A, B, C, rfl, hA, hB, hC⟩
    rw [dec_t (by omega), cond_true]
    have e0 : evN' ([] : List T_api_Packet) = 0 := rfl
    have hA2 : ∃ A2 C2 : T_api_Service, (bif decide ((i : Int) < (((a).length : Nat) : Int)) then (idxL a (i : Int)).bind fun x_1 => (L12_after 200000 (⟨A.Threads, A.Next, A.Queue⟩ : T_api_Service) x_1 (1 : Int)).bind fun r_10 =>
        (idxL a (i : Int)).bind fun x_2 => (L12_after 200000 (⟨C.Threads, C.Next, C.Queue⟩ : T_api_Service) x_2 (1 : Int)).bind fun r_11 =>
        some (r_10.Threads, r_10.Next, r_10.Queue, r_11.Threads, r_11.Next, r_11.Queue) else
        some (A.Threads, A.Next, A.Queue, C.Threads, C.Next, C.Queue)) = some (A2.Threads, A2.Next, A2.Queue, C2.Threads, C2.Next, C2.Queue) ∧ Rv A2 (a.take (i + 1)) [] ∧ Rv C2 (a.take (i + 1)) (b.take i) := by
      rcases hd : a.drop i with _ | ⟨x, r⟩
      · have := drop_nil hd
        rw [dec_f (by omega), cond_false]
        rw [List.take_of_length_le (by omega)] at hA hC
        exact ⟨A, C, rfl, by rw [List.take_of_length_le (by omega)]; exact hA, by rw [List.take_of_length_le (by omega)]; exact hC⟩
      · have hlt := drop_lt hd
        have hx := ha x (mem_drop hd)
        have s1 := step1 hA (by simp only [List.length_nil]; omega) hx
        have s2 := step1 hC (by omega) hx
        rw [← take_step hd] at s1 s2
        rw [dec_t (by omega), cond_true, idxL_drop hd, Option.bind_some, show L12_after 200000 ⟨A.Threads, A.Next, A.Queue⟩ x 1 = _ from after_eq hA (by simp only [List.length_nil]; omega) hx, Option.bind_some, Option.bind_some, show L12_after 200000 ⟨C.Threads, C.Next, C.Queue⟩ x 1 = _ from after_eq hC (by omega) hx, Option.bind_some]
        exact ⟨_, _, rfl, s1, s2⟩
    obtain ⟨A2, C2, g1, g2, g3⟩ := hA2
    have hta2 := take_sz a (i + 1)
    have hB2 : ∃ B2 C3 : T_api_Service, (bif decide ((i : Int) < (((b).length : Nat) : Int)) then (idxL b (i : Int)).bind fun x_3 => (L12_after 200000 (⟨B.Threads, B.Next, B.Queue⟩ : T_api_Service) x_3 (2 : Int)).bind fun r_12 =>
        (idxL b (i : Int)).bind fun x_4 => (L12_after 200000 (⟨C2.Threads, C2.Next, C2.Queue⟩ : T_api_Service) x_4 (2 : Int)).bind fun r_13 =>
        some (A2.Threads, A2.Next, A2.Queue, r_12.Threads, r_12.Next, r_12.Queue, r_13.Threads, r_13.Next, r_13.Queue) else
        some (A2.Threads, A2.Next, A2.Queue, B.Threads, B.Next, B.Queue, C2.Threads, C2.Next, C2.Queue)) = some (A2.Threads, A2.Next, A2.Queue, B2.Threads, B2.Next, B2.Queue, C3.Threads, C3.Next, C3.Queue) ∧ Rv B2 [] (b.take (i + 1)) ∧ Rv C3 (a.take (i + 1)) (b.take (i + 1)) := by
      rcases hd : b.drop i with _ | ⟨x, r⟩
      · have := drop_nil hd
        rw [dec_f (by omega), cond_false]
        rw [List.take_of_length_le (l := b) (by omega)] at hB g3
        exact ⟨B, C2, rfl, by rw [List.take_of_length_le (by omega)]; exact hB, by rw [List.take_of_length_le (l := b) (by omega)]; exact g3⟩
      · have hlt := drop_lt hd
        have hx := hb x (mem_drop hd)
        have s1 := step2 hB (by simp only [List.length_nil]; omega) hx
        have s2 := step2 g3 (by omega) hx
        rw [← take_step hd] at s1 s2
        rw [dec_t (by omega), cond_true, idxL_drop hd, Option.bind_some, show L12_after 200000 ⟨B.Threads, B.Next, B.Queue⟩ x 2 = _ from after_eq hB (by simp only [List.length_nil]; omega) hx, Option.bind_some, Option.bind_some, show L12_after 200000 ⟨C2.Threads, C2.Next, C2.Queue⟩ x 2 = _ from after_eq g3 (by omega) hx, Option.bind_some]
        exact ⟨_, _, rfl, s1, s2⟩
    obtain ⟨B2, C3, k1, k2, k3⟩ := hB2
    have hdl : (a.drop (i + 1)).length + (b.drop (i + 1)).length < n := by
      simp only [List.length_drop] at hn ⊢; omega
    obtain ⟨A', B', C', m1, m2⟩ := ih (i + 1) A2 B2 C3 g2 k2 k3 hdl
    refine ⟨A', B', C', ?_, m2⟩
    rw [← m1]
    refine (congrArg (fun o => Option.bind (Option.bind o _) _) g1).trans ?_
    rw [Option.bind_some]
    refine (congrArg (fun o => Option.bind o _) k1).trans ?_
    rw [Option.bind_some, step64 (by omega)]
theorem flush_parts {s : T_api_Service} {a b : List T_api_Packet} (h : Rv s a b) : flushS s = (runT 2 b).2.foldl pushS ((runT 1 a).2.foldl pushS []) := by
  have e1 : (runT 1 a).2 = ofT 1 s.Queue := by rw [← h.p1]; rfl
  have e2 : (runT 2 b).2 = ofT 2 s.Queue := by rw [← h.p2]; rfl
  unfold flushS
  rw [h.th, e1, e2]; rfl
theorem flush_ok {s : T_api_Service} {a b : List T_api_Packet} (h : Rv s a b) (hs : (a.length + evN' a) + (b.length + evN' b) ≤ 6000) : drain_Flush 200000 ⟨s.Threads, s.Next, s.Queue⟩ = some (flushS s, ⟨s.Threads, s.Next, []⟩) := by
  obtain ⟨b1, b2, b3, b4⟩ := h.bounds hs
  rw [show drain_Flush 200000 ⟨s.Threads, s.Next, s.Queue⟩ = _ from drain_Flush_eq b1 b2 b3]
  unfold outS
  rw [if_neg (by rw [h.chk]; simp)]
end Go.Ab
