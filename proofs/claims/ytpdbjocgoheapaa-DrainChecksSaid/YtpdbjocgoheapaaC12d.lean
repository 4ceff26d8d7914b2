/- Drains at any fuel: the three laws that look at unchecked packets. -/
import Derived.Test.YtpdbjocgoheapaaB12jF
import Derived.Test.YtpdbjocgoheapaaR12
namespace Go.Ab
open Go
set_option linter.unusedVariables false

theorem self_loop {α : Type} {a : List α} {F : Nat} (L : Nat → Int → Option (Unit ⊕ Bool)) (hl : a.length < F)
    (h0 : ∀ n i, a.length ≤ i → L (n + 1) (i : Nat) = some (.inl ())) (h1 : ∀ n i x r, a.drop i = x :: r → i < a.length → L (n + 1) (i : Nat) = L n ((i + 1 : Nat) : Int)) : L F 0 = some (.inl ()) := by
  rw [bad_loop (l := a) L (fun _ _ => none) h0 (fun n i x r hd hlt => ⟨fun b hb => (by cases hb), fun _ => h1 n i x r hd hlt⟩) hl, firstBad_all (fun _ _ _ => rfl)]
def B47 (F n : Nat) : Prop := n < F ∧ n ≤ 140737488355328
theorem Texts_self {F : Nat} {a : List (List Int)} (h : B47 F a.length) : R07_Texts F a a = some true := by
  obtain ⟨h1, h2⟩ := h
  unfold R07_Texts
  rw [bne_f rfl, cond_false, self_loop (a := a) (R07_Texts_L1 F a a) h1 (fun n i hi => by
    show R07_Texts_L1_body _ _ _ _ _ = _
    unfold R07_Texts_L1_body
    rw [dec_f (by omega)]; rfl) (fun n i x r hd hlt => by
    show R07_Texts_L1_body _ _ _ _ _ = _
    unfold R07_Texts_L1_body
    rw [dec_t (by omega), cond_true, idxL_drop hd, Option.bind_some, Option.bind_some, step64 (by omega), BEq.rfl]; rfl)]
  rfl
theorem ev_self {F : Nat} {e : T_api_Event} (h : B47 F e.Stack.length) : R07_Same F e e = some true := by
  unfold R07_Same
  rw [BEq.rfl, BEq.rfl, BEq.rfl, BEq.rfl, BEq.rfl, Texts_self h]; rfl
theorem pk_self {F : Nat} {p : T_api_Packet} (h : B47 F p.Events.length) (he : ∀ e ∈ p.Events, B47 F e.Stack.length) : R11_Same F p p = some true := by
  obtain ⟨h1, h2⟩ := h
  unfold R11_Same
  rw [bne_f rfl, bne_f rfl, bne_f rfl, bne_f rfl]
  simp only [Bool.or_self, cond_false]
  rw [self_loop (a := p.Events) (R11_Same_L1 F p p) h1 (fun n i hi => by
    show R11_Same_L1_body _ _ _ _ _ = _
    unfold R11_Same_L1_body
    rw [dec_f (by omega)]; rfl) (fun n i x r hd hlt => by
    show R11_Same_L1_body _ _ _ _ _ = _
    unfold R11_Same_L1_body
    rw [dec_t (by omega), cond_true, idxL_drop hd, Option.bind_some, Option.bind_some, ev_self (he x (mem_drop hd)), Option.bind_some, step64 (by omega)]; rfl)]
  rfl
def PkB (F : Nat) (p : T_api_Packet) : Prop := B47 F p.Events.length ∧ ∀ e ∈ p.Events, B47 F e.Stack.length
theorem pks_self {F : Nat} {l : List T_api_Packet} (h : B47 F l.length) (hp : ∀ p ∈ l, PkB F p) : R12_SamePackets F l l = some true := by
  obtain ⟨h1, h2⟩ := h
  unfold R12_SamePackets
  rw [bne_f rfl, cond_false, self_loop (a := l) (R12_SamePackets_L1 F l l) h1 (fun n i hi => by
    show R12_SamePackets_L1_body _ _ _ _ _ = _
    unfold R12_SamePackets_L1_body
    rw [dec_f (by omega)]; rfl) (fun n i x r hd hlt => by
    show R12_SamePackets_L1_body _ _ _ _ _ = _
    unfold R12_SamePackets_L1_body
    rw [dec_t (by omega), cond_true, idxL_drop hd, Option.bind_some, Option.bind_some, pk_self (hp x (mem_drop hd)).1 (hp x (mem_drop hd)).2, Option.bind_some, step64 (by omega)]; rfl)]
  rfl
theorem same_self {F : Nat} {s : T_api_Service} (h1 : B47 F s.Threads.length) (h2 : B47 F s.Next.length) (h3 : B47 F s.Queue.length) (hp : ∀ p ∈ s.Queue, PkB F p) : R12_Same F s s = some true := by
  obtain ⟨a1, a2⟩ := h1
  obtain ⟨b1, b2⟩ := h2
  unfold R12_Same
  rw [bne_f rfl, bne_f rfl, Bool.or_self, cond_false, self_loop (a := s.Threads) (R12_Same_L1 F s s) a1 (fun n i hi => by
    show R12_Same_L1_body _ _ _ _ _ = _
    unfold R12_Same_L1_body
    rw [dec_f (by omega)]; rfl) (fun n i x r hd hlt => by
    show R12_Same_L1_body _ _ _ _ _ = _
    unfold R12_Same_L1_body
    rw [dec_t (by omega), cond_true, idxL_drop hd, Option.bind_some, Option.bind_some, step64 (by omega), dec_t (rfl : x = x)]; rfl), Option.bind_some]
  simp only
  rw [self_loop (a := s.Next) (R12_Same_L2 F s s) b1 (fun n i hi => by
    show R12_Same_L2_body _ _ _ _ _ = _
    unfold R12_Same_L2_body
    rw [dec_f (by omega)]; rfl) (fun n i x r hd hlt => by
    show R12_Same_L2_body _ _ _ _ _ = _
    unfold R12_Same_L2_body
    rw [dec_t (by omega), cond_true, idxL_drop hd, Option.bind_some, Option.bind_some, step64 (by omega), bne_f rfl]; rfl), Option.bind_some]
  simp only
  rw [pks_self h3 hp]; rfl
theorem bound_all : ∀ l : List T_api_Packet, ∃ B : Nat, ∀ p ∈ l, p.Events.length ≤ B ∧ ∀ e ∈ p.Events, e.Stack.length ≤ B := by
  have hev : ∀ l : List T_api_Event, ∃ B : Nat, ∀ e ∈ l, e.Stack.length ≤ B := by
    intro l
    induction l with
    | nil => exact ⟨0, fun e h => by cases h⟩
    | cons x r ih =>
      obtain ⟨B, h⟩ := ih
      refine ⟨B + x.Stack.length, fun e he => ?_⟩
      rcases List.mem_cons.1 he with rfl | he
      · omega
      · have := h e he; omega
  intro l
  induction l with
  | nil => exact ⟨0, fun e h => by cases h⟩
  | cons x r ih =>
    obtain ⟨B, h⟩ := ih
    obtain ⟨C, h2⟩ := hev x.Events
    refine ⟨B + x.Events.length + C, fun p hp => ?_⟩
    rcases List.mem_cons.1 hp with rfl | hp
    · exact ⟨by omega, fun e he => by have := h2 e he; omega⟩
    · have := h p hp
      exact ⟨by omega, fun e he => by have := this.2 e he; omega⟩
def mkE (a : Int) : T_api_Event := ⟨a, 3, [97], 0, 0, []⟩
theorem some_two {F : Nat} (hF : 200000 ≤ F) : L12_some F 2 0 0 2 = some ⟨2, 0, 0, [mkE 10, mkE 11]⟩ := by
  obtain ⟨g, rfl⟩ : ∃ g, F = g + 3 := ⟨F - 3, by omega⟩
  rfl
theorem some_one {F : Nat} (hF : 200000 ≤ F) (t s l : Int) (h0 : 0 ≤ s) (h1 : s ≤ 100) : L12_some F t s l 1 = some ⟨t, s, l, [mkE (10 + s)]⟩ := by
  obtain ⟨g, rfl⟩ : ∃ g, F = g + 2 := ⟨F - 2, by omega⟩
  unfold L12_some
  have : L12_some_L1 (g + 2) s 1 (g + 2) 0 [] = some [mkE (10 + s)] := by
    show L12_some_L1_body _ _ _ _ _ _ = _
    unfold L12_some_L1_body L12_mark
    rw [dec_t (by omega), cond_true, Option.bind_some, need_t (by simp), Option.bind_some, show w_i64 (w_i64 ((10 : Int) + s) + (0 : Int)) = 10 + s by rw [w64 (x := 10 + s) (by omega) (by omega), Int.add_zero, w64 (by omega) (by omega)]]
    rfl
  rw [this]; rfl
def twoF : List T_api_Thread := [⟨1, [120], 0⟩, ⟨2, [121], 0⟩]
theorem awakeF {F : Nat} (hF : 200000 ≤ F) : L12_awake F = some true := by
  unfold L12_awake
  rw [show L12_two = some twoF from rfl, Option.bind_some]
  simp (disch := decide +kernel) only [drain_New_eq hF, Option.bind_some, some_two hF, some_one hF, drain_Collect_eq hF, drain_Flush_eq hF, drain_Expect_eq hF]
  decide +kernel
/-- The law's bound on a service. -/
theorem smallF {F : Nat} (hF : 200000 ≤ F) {l : List T_api_Packet} (ho : ∀ p ∈ l, p.Events.length ≤ 140737488355328) : L12_small F l = some false ∨ (L12_small F l = some true ∧ l.length + evN' l ≤ 3000) := by
  unfold L12_small
  have key : l.length ≤ 3000 → ∀ (n i : Nat) (k : Nat), (l.drop i).length < n → k ≤ 140737488355328 + 3000 → ∃ r : Int, L12_small_L1 F l n (k : Int) (i : Nat) = some r ∧ (r ≤ 3000 → k + evN' (l.drop i) ≤ 3000) := by
    intro hl3 n
    induction n with
    | zero => intro i k h; omega
    | succ n ih =>
      intro i k hn hk
      show ∃ r : Int, L12_small_L1_body F l _ _ _ = some r ∧ _
      unfold L12_small_L1_body
      by_cases h3 : (k : Int) ≤ 3000
      rotate_left
      · rw [dec_f h3, Bool.and_false, cond_false]
        exact ⟨_, rfl, fun h => absurd h h3⟩
      rw [dec_t h3, Bool.and_true]
      rcases hd : l.drop i with _ | ⟨x, r⟩
      · have := drop_nil hd
        rw [dec_f (by omega), cond_false]
        exact ⟨_, rfl, fun h => by simp [evN']; omega⟩
      have hlt := drop_lt hd
      have hx := ho x (mem_drop hd)
      rw [hd] at hn
      simp only [List.length_cons] at hn
      rw [dec_t (by omega), cond_true, idxL_drop hd, Option.bind_some, w64 (by omega) (by omega), step64 (by omega), show (k : Int) + (x.Events.length : Int) = ((k + x.Events.length : Nat) : Int) by omega]
      obtain ⟨r', h1, h2⟩ := ih (i + 1) (k + x.Events.length) (by rw [drop_step hd]; omega) (by omega)
      refine ⟨r', h1, fun h => ?_⟩
      have := h2 h
      rw [drop_step hd] at this
      rw [evN_cons]; omega
  by_cases hl : l.length ≤ 3000
  · obtain ⟨r, h1, h2⟩ := key hl F 0 l.length (by simp; omega) (by omega)
    rw [show L12_small_L1 F l F (l.length : Int) 0 = _ from h1, Option.bind_some]
    by_cases h : r ≤ 3000
    · rw [dec_t h]; exact .inr ⟨rfl, by simpa using h2 h⟩
    · rw [dec_f h]; exact .inl rfl
  · left
    obtain ⟨g, rfl⟩ : ∃ g, F = g + 1 := ⟨F - 1, by omega⟩
    show (Option.bind (L12_small_L1_body (g + 1) l _ _ _) _) = _
    unfold L12_small_L1_body
    rw [dec_f (p := (l.length : Int) ≤ 3000) (by omega), Bool.and_false, cond_false, Option.bind_some, dec_f (by omega)]
theorem fewF {F : Nat} (hF : 200000 ≤ F) {s : T_api_Service} (ho : ∀ p ∈ s.Queue, p.Events.length ≤ 140737488355328) : L12_few F s = some false ∨ (L12_few F s = some true ∧ s.Threads.length ≤ 70 ∧ s.Next.length ≤ 100 ∧ s.Queue.length + evN' s.Queue ≤ 3000) := by
  unfold L12_few
  by_cases h1 : (s.Threads.length : Int) ≤ 70
  rotate_left
  · rw [dec_f h1]; exact .inl rfl
  by_cases h2 : (s.Next.length : Int) ≤ 100
  rotate_left
  · rw [dec_t h1, dec_f h2]; exact .inl rfl
  rw [dec_t h1, dec_t h2]
  rcases smallF hF ho with h | ⟨h, h3⟩
  · rw [h]; exact .inl rfl
  · rw [h]; exact .inr ⟨rfl, by omega, by omega, h3⟩
def VP (q : T_api_Packet) : Prop := q.Events.length ≤ 100000 ∧ ∀ e ∈ q.Events, e.Stack.length ≤ 100000
theorem evS_stack {e : T_api_Event} (h : evS e = 0) : e.Stack.length ≤ 100000 := by
  unfold evS at h
  split at h
  · cases h
  split at h
  · cases h
  split at h
  · cases h
  rename_i hb
  split at h
  · rename_i ht; exact absurd h ht
  rename_i ht
  cases hu : useStack e.Kind
  · have : evBad e = false := by cases hx : evBad e <;> simp_all
    unfold evBad at this
    rw [hu] at this
    simp at this
    have h4 := this.2.2.2
    rw [h4]; simp
  · have hn : useName e.Kind = false := by
      cases hx : useName e.Kind
      · rfl
      · have := nameStack e.Kind hx; rw [hu] at this; cases this
    unfold evText at ht
    rw [hn, hu] at ht
    simp only [Bool.false_eq_true, if_false, if_true, ne_eq, Decidable.not_not] at ht
    unfold framesS at ht
    by_cases h32 : 32 < e.Stack.length
    · rw [if_pos h32] at ht; cases ht
    · omega
theorem VP_of {p : T_api_Packet} (h : packS p = 0) : VP p := by
  have hz := packS_zero h
  exact ⟨by omega, fun e he => evS_stack (allS_zero hz.2.2.2.2.2.2.2.2 e he)⟩
theorem VP_join {a b : T_api_Packet} (h : (joinS a b).2 = true) (ha : VP a) (hb : VP b) : VP (joinS a b).1 := by
  have hev := joinS_ev (a := a) (b := b)
  refine ⟨by omega, ?_⟩
  unfold joinS at *
  by_cases hj : joinBad a b
  · rw [if_pos hj] at h; cases h
  rw [if_neg hj] at *
  by_cases h2 : headAt b.Events < lastAt a.Events ∨ a.Events.length + b.Events.length > 1000
  · rw [if_pos h2] at h; cases h
  · rw [if_neg h2]
    intro e he
    rcases List.mem_append.1 he with he | he
    · exact ha.2 e he
    · exact hb.2 e he
theorem VP_push {out : List T_api_Packet} {p : T_api_Packet} (h : ∀ q ∈ out, VP q) (hp : VP p) : ∀ q ∈ pushS out p, VP q := by
  unfold pushS
  cases hl : out.getLast? with
  | none =>
    intro q hq
    rcases List.mem_append.1 hq with hq | hq
    · exact h q hq
    · simp at hq; subst hq; exact hp
  | some a =>
    simp only
    cases hj : (joinS a p).2
    · intro q hq
      rcases List.mem_append.1 hq with hq | hq
      · exact h q hq
      · simp at hq; subst hq; exact hp
    · intro q hq
      rcases List.mem_or_eq_of_mem_set hq with hq | hq
      · exact h q hq
      · subst hq; exact VP_join hj (h a (List.mem_of_getLast? hl)) hp
theorem VP_fold : ∀ {l : List T_api_Packet} {out : List T_api_Packet}, (∀ q ∈ out, VP q) → (∀ p ∈ l, VP p) → ∀ q ∈ l.foldl pushS out, VP q := by
  intro l
  induction l with
  | nil => intro out h _; exact h
  | cons p r ih => intro out h hp; exact ih (VP_push h (hp p (by simp))) (fun q hq => hp q (by simp [hq]))
theorem chk_valid {s : T_api_Service} (h : chkS s = 0) : ∀ p ∈ s.Queue, packS p = 0 := by
  intro p hp
  have hq := (chk_threads h).2.2
  by_cases hb : pkBad s.Threads p
  · rw [qok_bad hp hb] at hq; cases hq
  · unfold pkBad at hb; omega
theorem flush_VP {s : T_api_Service} (h : chkS s = 0) : (∀ q ∈ flushS s, VP q) ∧ (flushS s).length ≤ s.Threads.length * s.Queue.length := by
  have hv := chk_valid h
  have key : ∀ (l : List T_api_Thread) (out : List T_api_Packet), (∀ q ∈ out, VP q) → (∀ q ∈ l.foldl (flushT s) out, VP q) ∧ (l.foldl (flushT s) out).length ≤ out.length + l.length * s.Queue.length := by
    intro l
    induction l with
    | nil => intro out ho; exact ⟨ho, by simp⟩
    | cons t r ih =>
      intro out ho
      have hf : ∀ q ∈ flushT s out t, VP q := VP_fold ho (fun p hp => VP_of (hv p (List.mem_filter.1 hp).1))
      obtain ⟨k1, k2⟩ := ih (flushT s out t) hf
      refine ⟨k1, ?_⟩
      have h1 := fold_len (l := ofT t.Id s.Queue) (out := out)
      have h2 : (ofT t.Id s.Queue).length ≤ s.Queue.length := List.length_filter_le _ _
      have h3 : (flushT s out t).length ≤ out.length + s.Queue.length := by unfold flushT; omega
      rw [List.foldl_cons, List.length_cons, Nat.add_mul, Nat.one_mul]; omega
  have := key s.Threads [] (by simp)
  exact ⟨this.1, by have h2 := this.2; simp only [List.length_nil, Nat.zero_add] at h2; exact h2⟩
theorem L12_DrainChecks_plain : ∀ (a0 : T_api_Service) (a1 : Int), ok_T_api_Service a0 → okI64 a1 → ∃ F, L12_DrainChecks F a0 a1 = some true := by
  intro s id hs _
  obtain ⟨B, hB⟩ := bound_all s.Queue
  have hF : 300000 ≤ 300000 + B := by omega
  refine ⟨300000 + B, ?_⟩
  generalize hFe : 300000 + B = F at hF
  have hF2 : 200000 ≤ F := by omega
  have hqo : ∀ q ∈ s.Queue, q.Events.length ≤ 140737488355328 := fun q hq => (hs.2.2.1 q hq).2.2.2.2
  unfold L12_DrainChecks
  rcases fewF hF2 hqo with h | ⟨h, h1, h2, h3⟩
  · rw [h]; simp only [Option.bind_some, Bool.not_false, cond_true, awakeF hF2]
  have hev : ∀ q ∈ s.Queue, q.Events.length ≤ 100000 := fun q hq => by have := evN_mem hq; omega
  have hpk : ∀ q ∈ s.Queue, PkB F q := fun q hq => by
    have hb := hB q hq
    exact ⟨⟨by omega, hqo q hq⟩, fun e he => ⟨by have := hb.2 e he; omega, ((hs.2.2.1 q hq).2.2.2.1 e he).2.2.2.2.2.2⟩⟩
  rw [h]
  simp only [Option.bind_some, Bool.not_true, cond_false]
  rw [drain_Expect_eq hF2 hev (by omega) (by omega), R12_Expect_eq hF2 hev (by omega) (by omega), drain_Flush_eq hF2 hev (by omega) (by omega), R12_Flush_eq hF2 hev (by omega) (by omega), drain_Check_eq hF2 hev (by omega) (by omega), R12_Check_eq hF2 hev (by omega) (by omega)]
  have hs1 : R12_SamePackets F (outS s).1 (outS s).1 = some true := by
    unfold outS
    by_cases hc : chkS s ≠ 0
    · rw [if_pos hc]; exact pks_self ⟨by simp; omega, by simp⟩ (fun p hp => by cases hp)
    · rw [if_neg hc]
      have ht := threadsS_len (chk_threads (show chkS s = 0 by omega)).1
      obtain ⟨k1, k2⟩ := flush_VP (show chkS s = 0 by omega)
      have k3 : s.Threads.length * s.Queue.length ≤ 64 * 3000 := Nat.mul_le_mul ht.2 (by omega)
      exact pks_self ⟨by simp only; omega, by simp only; omega⟩ (fun p hp => ⟨⟨by have := (k1 p hp).1; omega, by have := (k1 p hp).1; omega⟩, fun e he => ⟨by have := (k1 p hp).2 e he; omega, by have := (k1 p hp).2 e he; omega⟩⟩)
  have hs2 : R12_Same F (outS s).2 (outS s).2 = some true := by
    unfold outS
    by_cases hc : chkS s ≠ 0
    · rw [if_pos hc]; exact same_self ⟨by simp only; omega, by simp only; omega⟩ ⟨by simp only; omega, by simp only; omega⟩ ⟨by simp only; omega, by simp only; omega⟩ hpk
    · rw [if_neg hc]; exact same_self ⟨by simp only; omega, by simp only; omega⟩ ⟨by simp only; omega, by simp only; omega⟩ ⟨by simp; omega, by simp⟩ (fun p hp => by cases hp)
  simp only [Option.bind_some, BEq.rfl, cond_true, hs1, hs2, awakeF hF2]
end Go.Ab
