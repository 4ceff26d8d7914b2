/- Drains: what is kept. -/
import Derived.Test.YtpdbjocgoheapaaB12m
import Derived.Test.YtpdbjocgoheapaaC12c
namespace Go.Ab
open Go
set_option linter.unusedVariables false

theorem lost_eq {l : List T_api_Packet} (hl : l.length ≤ 5000) (h : ∀ p ∈ l, 0 ≤ p.Lost ∧ p.Lost ≤ 1000000000000000) : L12_lost 200000 l = some (lostN l) := by
  unfold L12_lost
  have key : ∀ (n i : Nat) (k : Int), (l.drop i).length < n → 0 ≤ k → k ≤ (i : Int) * 1000000000000000 → i ≤ l.length → L12_lost_L1 200000 l n k (i : Nat) = some (k + lostN (l.drop i)) := by
    intro n
    induction n with
    | zero => intro i k h; omega
    | succ n ih =>
      intro i k hn h0 hk hi
      show L12_lost_L1_body _ _ _ _ _ = _
      unfold L12_lost_L1_body
      rcases hd : l.drop i with _ | ⟨x, r⟩
      · have := drop_nil hd
        rw [dec_f (by omega), cond_false]; simp [lostN]
      have hlt := drop_lt hd
      have hx := h x (mem_drop hd)
      rw [hd] at hn
      simp only [List.length_cons] at hn
      rw [dec_t (by omega), cond_true, idxL_drop hd, Option.bind_some, w64 (by omega) (by omega), step64 (by omega), ih (i + 1) _ (by rw [drop_step hd]; omega) (by omega) (by omega) (by omega), drop_step hd]
      simp [lostN]; omega
  rw [show L12_lost_L1 200000 l 200000 0 0 = _ from key 200000 0 0 (by simp; omega) (by omega) (by omega) (by omega), Option.bind_some]; simp
theorem sumev_eq {l : List T_api_Packet} (hl : l.length ≤ 100000) (he : evN' l ≤ 1000000) : L12_events 200000 l = some (evN' l : Int) := by
  unfold L12_events
  have key : ∀ (n i k : Nat), (l.drop i).length < n → k + evN' (l.drop i) ≤ 2000000 → L12_events_L1 200000 l n (k : Int) (i : Nat) = some ((k + evN' (l.drop i) : Nat) : Int) := by
    intro n
    induction n with
    | zero => intro i k h; omega
    | succ n ih =>
      intro i k hn hk
      show L12_events_L1_body _ _ _ _ _ = _
      unfold L12_events_L1_body
      rcases hd : l.drop i with _ | ⟨x, r⟩
      · have := drop_nil hd
        rw [dec_f (by omega), cond_false]; simp [evN']
      have hlt := drop_lt hd
      rw [hd] at hn hk
      rw [evN_cons] at hk
      simp only [List.length_cons] at hn
      rw [dec_t (by omega), cond_true, idxL_drop hd, Option.bind_some, w64 (by omega) (by omega), step64 (by omega), show (k : Int) + (x.Events.length : Int) = ((k + x.Events.length : Nat) : Int) by omega, ih (i + 1) _ (by rw [drop_step hd]; omega) (by rw [drop_step hd]; omega), drop_step hd, evN_cons, Nat.add_assoc]
  rw [show L12_events_L1 200000 l 200000 0 0 = _ from key 200000 0 0 (by simp; omega) (by simp; omega), Option.bind_some]; simp
/-- What the collecting loop keeps: the service, and its queue. -/
structure Kp (s : T_api_Service) (m : Nat) : Prop where
  chk : chkS s = 0
  sz : s.Queue.length + evN' s.Queue ≤ m
theorem Kp.bounds {s : T_api_Service} {m : Nat} (h : Kp s m) (hm : m ≤ 3000) : (∀ p ∈ s.Queue, p.Events.length ≤ 100000) ∧ s.Queue.length ≤ 100000 ∧ s.Next.length ≤ 100000 ∧ evN' s.Queue ≤ 1000000 ∧ s.Threads.length ≤ 64 := by
  have hz := h.sz
  have hn := next_len h.chk
  have ht := threadsS_len (chk_threads h.chk).1
  exact ⟨fun p hp => by have := evN_mem hp; omega, by omega, by omega, by omega, ht.2⟩
theorem keep_loop {l : List T_api_Packet} (hs : l.length + evN' l ≤ 3000) : ∀ (n i : Nat) (s : T_api_Service), Kp s ((l.take i).length + evN' (l.take i)) → (l.drop i).length < n → i ≤ l.length →
    ∃ s' : T_api_Service, L12_DrainKeeps_L1 200000 l n (i : Nat) s.Threads s.Next s.Queue s.Queue = some (s'.Threads, s'.Next, s'.Queue, s'.Queue) ∧ Kp s' 3000 := by
  intro n
  induction n with
  | zero => intro i s _ h; omega
  | succ n ih =>
    intro i s h hn hi
    show ∃ s' : T_api_Service, L12_DrainKeeps_L1_body 200000 l _ _ _ _ _ _ = _ ∧ _
    unfold L12_DrainKeeps_L1_body
    rcases hd : l.drop i with _ | ⟨x, r⟩
    · have := drop_nil hd
      rw [dec_f (by omega), cond_false]
      refine ⟨s, rfl, h.chk, ?_⟩
      have := h.sz
      rw [List.take_of_length_le (by omega)] at this
      omega
    have hlt := drop_lt hd
    have htz := take_sz l i
    rw [hd] at hn
    simp only [List.length_cons] at hn
    have hxe := evN_mem (mem_drop hd)
    obtain ⟨b1, b2, b3, b4, _⟩ := Kp.bounds (m := 3000) ⟨h.chk, by have := h.sz; omega⟩ (by omega)
    rw [dec_t (by omega), cond_true, idxL_drop hd, Option.bind_some, show drain_Collect 200000 ⟨s.Threads, s.Next, s.Queue⟩ x = some (collS s x) from drain_Collect_eq b1 b2 b3 b4 (by omega), Option.bind_some]
    have e1 : (l.take (i + 1)).length + evN' (l.take (i + 1)) = (l.take i).length + evN' (l.take i) + 1 + x.Events.length := by
      rw [take_step hd, evN_app]; simp [evN']; omega
    by_cases hz : (collS s x).2 = 0
    · obtain ⟨k0, k1, k2, k3, k4, k5⟩ := coll_ok hz
      have hck := chk_coll hz
      have hq : (collS s x).1.Queue = s.Queue ++ [x] := by rw [k5]
      have hsz := h.sz
      have hK : Kp (collS s x).1 ((l.take (i + 1)).length + evN' (l.take (i + 1))) := ⟨hck, by rw [hq, e1, evN_app]; simp [evN']; simp [evN'] at hsz; omega⟩
      rw [beq_t hz, cond_true, Option.bind_some, need_t (by simp; omega), Option.bind_some, Option.bind_some, step64 (by omega)]
      obtain ⟨s', g1, g2⟩ := ih (i + 1) _ hK (by rw [drop_step hd]; omega) (by omega)
      refine ⟨s', ?_, g2⟩
      rw [← g1]
      simp only [hq]
    · rw [beq_f hz, cond_false, Option.bind_some, step64 (by omega)]
      exact ih (i + 1) s ⟨h.chk, by have := h.sz; omega⟩ (by rw [drop_step hd]; omega) (by omega)
def hit (t s : Int) (e : T_api_Event) (x : T_api_Packet) : Bool := decide (x.Thread = t) && (decide (s - x.Serial ≥ 0) && (decide (s - x.Serial < x.Events.length) && decide (x.Events[(s - x.Serial).toNat]? = some e)))
theorem holds_eq {l : List T_api_Packet} {t s : Int} {e : T_api_Event} (hl : l.length ≤ 100000) (h0 : 0 ≤ s) (h1 : s ≤ 2000000000000000) (hp : ∀ p ∈ l, packS p = 0) : L12_holds 200000 l t s e = some (l.any (hit t s e)) := by
  unfold L12_holds
  rw [bad_loop (l := l) (L12_holds_L1 200000 l t s e) (fun _ x => if hit t s e x then some true else none) (fun n i hi => by
    show L12_holds_L1_body _ _ _ _ _ _ _ = _
    unfold L12_holds_L1_body
    rw [dec_f (by omega), cond_false]) (fun n i x r hd hlt => by
    have hx := packS_zero (hp x (mem_drop hd))
    have hv := VP_of (hp x (mem_drop hd))
    have key : ((idxL l (i : Int)).bind fun x_2 => bif (x_2.Thread == t) then ( bif decide ((w_i64 (s - x.Serial)) ≥ (0 : Int)) then ((idxL l (i : Int)).bind fun x_3 => bif decide ((w_i64 (s - x.Serial)) < (((x_3.Events).length : Nat) : Int)) then ((idxL l (i : Int)).bind fun x_4 => (idxL x_4.Events (w_i64 (s - x.Serial))).bind fun x_5 => (event_Same 200000 x_5 e).bind fun r_1 => some r_1) else ( some false)) else ( some false)) else ( some false)) = some (hit t s e x) := by
      rw [w64 (by omega) (by omega)]
      simp only [idxL_drop hd, Option.bind_some]
      unfold hit
      by_cases a1 : x.Thread = t
      case neg => rw [beq_f a1, dec_f a1]; rfl
      rw [beq_t a1, dec_t a1, cond_true, Bool.true_and]
      by_cases a2 : s - x.Serial ≥ 0
      case neg => rw [dec_f a2]; rfl
      rw [dec_t a2, cond_true, Bool.true_and]
      by_cases a3 : s - x.Serial < x.Events.length
      case neg => rw [dec_f a3]; rfl
      rw [dec_t a3, cond_true, Bool.true_and, idxL_at a2]
      have a4 : (s - x.Serial).toNat < x.Events.length := by omega
      rw [List.getElem?_eq_getElem a4, Option.bind_some, event_Same_eq (hv.2 _ (List.getElem_mem a4)), Option.bind_some]
      by_cases a5 : x.Events[(s - x.Serial).toNat] = e
      · rw [dec_t a5, a5, dec_t (rfl : some e = some e)]
      · rw [dec_f a5, dec_f (fun h => a5 (by injection h))]
    have hb : L12_holds_L1 200000 l t s e (n + 1) (i : Nat) = bif hit t s e x then some (.inr true) else L12_holds_L1 200000 l t s e n ((i + 1 : Nat) : Int) := by
      show L12_holds_L1_body _ _ _ _ _ _ _ = _
      unfold L12_holds_L1_body
      rw [dec_t (by omega), cond_true]
      rw [show idxL l (i : Int) = some x from idxL_drop hd] at key ⊢
      rw [Option.bind_some, key, Option.bind_some, step64 (by omega)]
    rw [hb]
    cases hit t s e x
    · exact ⟨fun b h => by simp at h, fun _ => rfl⟩
    · exact ⟨fun b h => by simp at h; subst h; rfl, fun h => by simp at h⟩) (by omega), firstBad_any]
  cases h : l.any (hit t s e)
  · rw [if_neg (by simp)]; rfl
  · rw [if_pos rfl]; rfl
theorem cov_hit {out : List T_api_Packet} {p : T_api_Packet} {k : Nat} {e : T_api_Event} (h : Cov out p) (hk : p.Events[k]? = some e) : out.any (hit p.Thread (p.Serial + k) e) = true := by
  obtain ⟨q, hq, h1, d, h2, h3⟩ := h
  have h4 := h3 k e hk
  have h5 := (List.getElem?_eq_some_iff.1 h4).1
  refine List.any_eq_true.2 ⟨q, hq, ?_⟩
  unfold hit
  rw [dec_t h1, dec_t (by omega), dec_t (by omega), show (p.Serial + k - q.Serial).toNat = d + k by omega, dec_t h4]; rfl
theorem keeps_L3 {O : List T_api_Thread × List Int × List T_api_Packet × List T_api_Packet} {R : List T_api_Packet × T_api_Service} {i : Nat} {p : T_api_Packet} (hi : O.2.2.2[i]? = some p) (hp : packS p = 0) (hl : R.1.length ≤ 100000) (ho : ∀ q ∈ R.1, packS q = 0) (hc : Cov R.1 p) : L12_DrainKeeps_L3 200000 O R (i : Nat) 200000 0 = some (.inl ()) := by
  have hz := packS_zero hp
  have hx : idxL O.2.2.2 (i : Int) = some p := by rw [idxL_nat]; exact hi
  rw [bad_loop (l := p.Events) (L12_DrainKeeps_L3 200000 O R (i : Nat)) (fun _ _ => none) (fun n k hk => by
    show L12_DrainKeeps_L3_body _ _ _ _ _ _ = _
    unfold L12_DrainKeeps_L3_body
    rw [hx, Option.bind_some, dec_f (by omega), cond_false]) (fun n k x r hd hlt => by
    refine ⟨fun b hb => (by cases hb), fun _ => ?_⟩
    show L12_DrainKeeps_L3_body _ _ _ _ _ _ = _
    unfold L12_DrainKeeps_L3_body
    rw [hx, Option.bind_some, dec_t (by omega), cond_true, Option.bind_some, Option.bind_some, Option.bind_some, idxL_drop hd, Option.bind_some, w64 (by omega) (by omega), holds_eq hl (by omega) (by omega) ho, Option.bind_some, cov_hit hc (get_drop hd), Bool.not_true, cond_false, step64 (by omega)]) (by omega), firstBad_all (fun _ _ _ => rfl)]
theorem keeps_L2 {O : List T_api_Thread × List Int × List T_api_Packet × List T_api_Packet} {R : List T_api_Packet × T_api_Service} (hn : O.2.2.2.length ≤ 100000) (hp : ∀ p ∈ O.2.2.2, packS p = 0) (hl : R.1.length ≤ 100000) (ho : ∀ q ∈ R.1, packS q = 0) (hc : ∀ p ∈ O.2.2.2, Cov R.1 p) : L12_DrainKeeps_L2 200000 O R 200000 0 = some (.inl ()) := by
  rw [bad_loop (l := O.2.2.2) (L12_DrainKeeps_L2 200000 O R) (fun _ _ => none) (fun n k hk => by
    show L12_DrainKeeps_L2_body _ _ _ _ _ = _
    unfold L12_DrainKeeps_L2_body
    rw [dec_f (by omega), cond_false]) (fun n k x r hd hlt => by
    refine ⟨fun b hb => (by cases hb), fun _ => ?_⟩
    show L12_DrainKeeps_L2_body _ _ _ _ _ = _
    unfold L12_DrainKeeps_L2_body
    rw [dec_t (by omega), cond_true, keeps_L3 (get_drop hd) (hp x (mem_drop hd)) hl ho (hc x (mem_drop hd)), Option.bind_some, step64 (by omega)]) (by omega), firstBad_all (fun _ _ _ => rfl)]
theorem keeps_L4 {R : List T_api_Packet × T_api_Service} (hl : R.1.length ≤ 100000) (hK : OutK R.1) : ∀ (n i : Nat), R.1.length - i < n → L12_DrainKeeps_L4 200000 R n ((i + 1 : Nat) : Int) = some (.inl ()) := by
  intro n
  induction n with
  | zero => intro i h; omega
  | succ n ih =>
    intro i hn
    show L12_DrainKeeps_L4_body _ _ _ _ = _
    unfold L12_DrainKeeps_L4_body
    by_cases h : i + 1 < R.1.length
    · have ha := List.getElem?_eq_getElem (show i < R.1.length by omega)
      have hb := List.getElem?_eq_getElem h
      have za := packS_zero (hK.ok _ (List.getElem_mem (show i < R.1.length by omega)))
      have zb := packS_zero (hK.ok _ (List.getElem_mem h))
      rw [dec_t (by omega), cond_true, w64 (by omega) (by omega), show ((i + 1 : Nat) : Int) - 1 = (i : Nat) by omega, idxL_nat, idxL_nat, ha, hb, Option.bind_some, Option.bind_some, packet_Join_eq (by omega) (by omega), Option.bind_some, hK.adj i _ _ ha hb, cond_false, step64 (by omega)]
      exact ih (i + 1) (by omega)
    · rw [dec_f (by omega), cond_false]
theorem L12_DrainKeeps_plain : ∀ (a0 : List T_api_Thread) (a1 : List T_api_Packet), okSl ok_T_api_Thread a0 → okSl ok_T_api_Packet a1 → ∃ F, L12_DrainKeeps F a0 a1 = some true := by
  intro ts l hts hl
  refine ⟨200000, ?_⟩
  unfold L12_DrainKeeps
  by_cases h1 : (ts.length : Int) > 70
  · rw [dec_t h1, cond_true, Option.bind_some, cond_true, awake12, Option.bind_some]
  rw [dec_f h1, cond_false]
  rcases small_cases (l := l) (fun p hp => (hl.1 p hp).2.2.2.2) with h | ⟨h, hs⟩
  · rw [h, Option.bind_some, Option.bind_some, Bool.not_false, cond_true, awake12, Option.bind_some]
  rw [h, Option.bind_some, Option.bind_some, Bool.not_true, cond_false, drain_New_eq, Option.bind_some]
  by_cases ht : threadsS ts ≠ 0
  · unfold newS; rw [if_pos ht, bne_t ht, cond_true, awake12, Option.bind_some]
  have ht0 : threadsS ts = 0 := by omega
  unfold newS
  rw [if_neg ht, bne_f rfl, cond_false]
  have e0 : evN' ([] : List T_api_Packet) = 0 := rfl
  obtain ⟨s, g1, gK⟩ := keep_loop hs 200000 0 ⟨ts, List.replicate ts.length 0, []⟩ ⟨chk_new ht0, by simp [evN']⟩ (by simp; omega) (by omega)
  simp only
  rw [show L12_DrainKeeps_L1 200000 l 200000 0 ts (List.replicate ts.length 0) [] [] = _ from g1, Option.bind_some]
  simp only
  obtain ⟨b1, b2, b3, b4, b5⟩ := gK.bounds (Nat.le_refl _)
  have hc := gK.chk
  obtain ⟨f1, f2, f3, f4⟩ := flush_keeps hc
  have hcm := chk_threads hc
  have hsz := gK.sz
  have hqv : ∀ p ∈ s.Queue, packS p = 0 := fun p hp => by
    by_cases hb : pkBad s.Threads p
    · have := qok_bad (ts := s.Threads) (next := s.Next) (row := []) hp hb
      rw [hcm.2.2] at this; cases this
    · unfold pkBad at hb; omega
  have hfl : (flushS s).length ≤ 100000 := by
    have hev : ∀ q ∈ flushS s, 1 ≤ q.Events.length := fun q hq => by have := packS_zero (f3.ok q hq); omega
    have hle : ∀ l : List T_api_Packet, (∀ q ∈ l, 1 ≤ q.Events.length) → l.length ≤ evN' l := by
      intro l
      induction l with
      | nil => intro _; simp
      | cons x r ih => intro h; have := ih (fun q hq => h q (by simp [hq])); have := h x (by simp); rw [evN_cons]; simp only [List.length_cons]; omega
    have := hle _ hev
    omega
  have hemp : chkS ⟨s.Threads, s.Next, []⟩ = 0 := by
    unfold chkS at hc ⊢
    simp only at hc ⊢
    rw [if_neg (by omega), if_neg (show ¬ nextBad ⟨s.Threads, s.Next, []⟩ from hcm.2.1)]; rfl
  have e2 : outS ⟨s.Threads, s.Next, []⟩ = ([], ⟨s.Threads, s.Next, []⟩) := by
    unfold outS
    rw [if_neg (by rw [hemp]; omega)]
    have : ∀ (ts : List T_api_Thread) (out : List T_api_Packet), ts.foldl (flushT ⟨s.Threads, s.Next, []⟩) out = out := by
      intro ts
      induction ts with
      | nil => intro out; rfl
      | cons x r ih => intro out; rw [List.foldl_cons]; exact ih _
    unfold flushS
    rw [this]
  rw [show drain_Flush 200000 ⟨s.Threads, s.Next, s.Queue⟩ = some (outS s) from drain_Flush_eq b1 b2 b3, Option.bind_some]
  have e1 : outS s = (flushS s, ⟨s.Threads, s.Next, []⟩) := by unfold outS; rw [if_neg (by omega)]
  rw [e1]
  simp only
  rw [drain_Flush_eq (s := ⟨s.Threads, s.Next, []⟩) (by simp) (by simp) b3, Option.bind_some, e2]
  simp only
  rw [show ((([] : List T_api_Packet).length : Int) != (0 : Int)) = false from rfl, cond_false, drain_Check_eq (s := ⟨s.Threads, s.Next, []⟩) (by simp) (by simp) b3, Option.bind_some, hemp, bne_f rfl, cond_false]
  have hlo : ∀ p : T_api_Packet, packS p = 0 → 0 ≤ p.Lost ∧ p.Lost ≤ 1000000000000000 := fun p hp => by have := packS_zero hp; omega
  have hq5 : s.Queue.length ≤ 5000 := by omega
  have hf5 : (flushS s).length ≤ 5000 := by
    have hev : ∀ q ∈ flushS s, 1 ≤ q.Events.length := fun q hq => by have := packS_zero (f3.ok q hq); omega
    have hle : ∀ l : List T_api_Packet, (∀ q ∈ l, 1 ≤ q.Events.length) → l.length ≤ evN' l := by
      intro l
      induction l with
      | nil => intro _; simp
      | cons x r ih => intro h; have := ih (fun q hq => h q (by simp [hq])); have := h x (by simp); rw [evN_cons]; simp only [List.length_cons]; omega
    have := hle _ hev
    omega
  rw [lost_eq hf5 (fun p hp => hlo p (f3.ok p hp)), Option.bind_some, lost_eq hq5 (fun p hp => hlo p (hqv p hp)), Option.bind_some, bne_f f1, cond_false, sumev_eq hfl (by omega), Option.bind_some, sumev_eq b2 b4, Option.bind_some, f2, bne_f rfl, Option.bind_some, cond_false]
  rw [keeps_L2 (by exact b2) (by exact hqv) (by exact hfl) (by exact f3.ok) (by exact f4), Option.bind_some]
  simp only
  rw [show L12_DrainKeeps_L4 200000 (flushS s, ⟨s.Threads, s.Next, []⟩) 200000 1 = _ from keeps_L4 hfl f3 200000 0 (by simp only; omega), Option.bind_some]
  simp only
  rw [awake12, Option.bind_some]
end Go.Ab
