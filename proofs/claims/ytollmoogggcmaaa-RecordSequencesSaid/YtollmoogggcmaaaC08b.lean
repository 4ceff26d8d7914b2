/- Records: sequences. -/
import Derived.Test.YtollmoogggcmaaaC08
namespace Go.Ab
open Go
set_option linter.unusedVariables false

/-- What the first loop kept: events and their integers, in order. -/
def KeptR (n : List (List Int)) (s : List Arr2_Int) : List T_api_Event → List (List Int) → Prop
  | [], [] => True
  | e :: r, L :: q => Coded n s e L ∧ KeptR n s r q
  | _, _ => False
theorem KeptR.mono {n n' : List (List Int)} {s s' : List Arr2_Int} (hn : n <+: n') (hs : s <+: s') : ∀ {l : List T_api_Event} {q : List (List Int)}, KeptR n s l q → KeptR n' s' l q
  | [], [], h => trivial
  | _ :: _, _ :: _, h => ⟨h.1.mono hn hs, KeptR.mono hn hs h.2⟩
theorem KeptR.snoc {n : List (List Int)} {s : List Arr2_Int} {e : T_api_Event} {L : List Int} (h : Coded n s e L) : ∀ {l : List T_api_Event} {q : List (List Int)}, KeptR n s l q → KeptR n s (l ++ [e]) (q ++ [L])
  | [], [], _ => ⟨h, trivial⟩
  | _ :: _, _ :: _, k => ⟨k.1, KeptR.snoc h k.2⟩
theorem KeptR.len {n : List (List Int)} {s : List Arr2_Int} : ∀ {l : List T_api_Event} {q : List (List Int)}, KeptR n s l q → l.length = q.length
  | [], [], _ => rfl
  | _ :: _, _ :: _, k => by simp [KeptR.len k.2]
theorem good_nil : Good [] [] := ⟨by simp, by simp, rfl, rfl⟩
theorem seq_loop1 {l : List T_api_Event} (hl : l.length ≤ 20) : ∀ (m i : Nat) (row : List Int) (ev : List T_api_Event) (n : List (List Int)) (s : List Arr2_Int) (q : List (List Int)), (l.drop i).length < m → i ≤ l.length → Good n s → KeptR n s ev q → row = q.flatMap encI → ev.length ≤ i → row.length ≤ 50 * ev.length →
    L08_RecordSequences_L1 200000 l m (i : Nat) row ev n s = some (.inr true) ∨ ∃ row' ev' n' s' q', L08_RecordSequences_L1 200000 l m (i : Nat) row ev n s = some (.inl (row', ev', n', s')) ∧ Good n' s' ∧ KeptR n' s' ev' q' ∧ row' = q'.flatMap encI ∧ ev'.length ≤ 20 ∧ row'.length ≤ 1000 := by
  intro m
  induction m with
  | zero => intro i row ev n s q h; omega
  | succ m ih =>
    intro i row ev n s q hm hi g k hr he hrl
    show L08_RecordSequences_L1_body 200000 l _ _ _ _ _ _ = _ ∨ ∃ row' ev' n' s' q', L08_RecordSequences_L1_body 200000 l _ _ _ _ _ _ = _ ∧ _
    unfold L08_RecordSequences_L1_body
    rcases hd : l.drop i with _ | ⟨x, r⟩
    · have := drop_nil hd
      rw [dec_f (by omega), cond_false]
      exact .inr ⟨row, ev, n, s, q, rfl, g, k, hr, by omega, by omega⟩
    have hlt := drop_lt hd
    rw [dec_t (by omega), cond_true, idxL_drop hd]
    unfold L08_short
    simp only [Option.bind_some]
    by_cases h3 : (x.Stack.length : Int) ≤ 40
    rotate_left
    · rw [dec_f h3]
      left
      simp only [Bool.not_false, cond_true, lives08, Option.bind_some]
    have g1 := g.n1
    have g2 := g.s1
    rw [dec_t h3, Bool.not_true, cond_false, record_Encode_eq (by omega) (by omega), Option.bind_some]
    have hmm : (l.drop (i + 1)).length < m := by rw [List.length_drop] at *; omega
    rcases encS_coded (n := n) (s := s) (e := x) with ⟨k1, k2⟩ | ⟨k1, k2, k3, k4, k5, L, k6, k7⟩
    · rw [bne_t k1, cond_true, Option.bind_some]
      simp only
      rw [step64 (by omega)]
      exact ih (i + 1) row ev n s q hmm (by omega) g k hr (by omega) (by omega)
    · obtain ⟨c1, c2, c3⟩ := coded_ok k3 k7
      rw [bne_f k1, cond_false, k6, need_t (by omega), Option.bind_some, need_t (by simp; omega), Option.bind_some, Option.bind_some]
      simp only
      rw [step64 (by omega)]
      refine ih (i + 1) _ _ _ _ (q ++ [L]) hmm (by omega) k3 ((k.mono k4 k5).snoc k7) ?_ (by simp; omega) ?_
      · rw [hr]; simp
      · simp only [List.length_append, List.length_singleton]; omega
theorem seq_loop2 {row : List Int} {ev : List T_api_Event} {n : List (List Int)} {s : List Arr2_Int} (g : Good n s) (hev : ev.length ≤ 20) (hrow : row.length ≤ 1000) : ∀ (m i : Nat) (at_ : Int) (q : List (List Int)), (ev.drop i).length < m → i ≤ ev.length → KeptR n s (ev.drop i) q → 0 ≤ at_ → at_ ≤ row.length → row.drop at_.toNat = q.flatMap encI →
    L08_RecordSequences_L2 200000 (row, ev, n, s) m at_ (i : Nat) = some (.inl (row.length : Int)) := by
  intro m
  induction m with
  | zero => intro i at_ q h; omega
  | succ m ih =>
    intro i at_ q hm hi k h0 h1 hr
    show L08_RecordSequences_L2_body 200000 _ _ _ _ = _
    unfold L08_RecordSequences_L2_body
    simp only
    rcases hd : ev.drop i with _ | ⟨e, r⟩
    · have hn := drop_nil hd
      rw [dec_f (by omega), cond_false]
      rw [hd] at k
      cases q with
      | cons _ _ => exact absurd k (by simp [KeptR])
      | nil =>
        have := congrArg List.length hr
        simp at this
        rw [show at_ = row.length by omega]
    have hlt := drop_lt hd
    rw [hd] at k
    cases q with
    | nil => exact absurd k (by simp [KeptR])
    | cons L q =>
      obtain ⟨k1, k2⟩ := k
      obtain ⟨c1, c2, c3⟩ := coded_ok g k1
      rw [dec_t (by omega), cond_true, need_t ⟨h0, h1⟩, Option.bind_some, sub_drop row h0, hr, List.flatMap_cons]
      have hok : ∀ x ∈ encI L ++ q.flatMap encI, okU8 x := by
        have : ∀ (l : List T_api_Event) (q : List (List Int)), KeptR n s l q → ∀ x ∈ q.flatMap encI, okU8 x := by
          intro l
          induction l with
          | nil => intro q h x hx; cases q with
            | nil => simp at hx
            | cons _ _ => exact absurd h (by simp [KeptR])
          | cons e l ih => intro q h x hx; cases q with
            | nil => simp at hx
            | cons L q =>
              rw [List.flatMap_cons] at hx
              rcases List.mem_append.1 hx with hx | hx
              · exact (coded_ok g h.1).1 x hx
              · exact ih q h.2 x hx
        intro x hx
        rcases List.mem_append.1 hx with hx | hx
        · exact c1 x hx
        · exact this _ _ k2 x hx
      have hlen := congrArg List.length hr
      rw [List.flatMap_cons, List.length_append, List.length_drop] at hlen
      rw [record_Decode_eq hok (by rw [List.length_append]; omega), Option.bind_some, dec_coded g k1]
      simp only
      have hst : e.Stack.length ≤ 100000 := by
        have := stack_dec (n := n) (s := s) (b := encI L ++ [])
        rw [dec_coded g k1] at this
        simp only at this; omega
      rw [bne_f rfl, cond_false, dec_f (by omega), cond_false, dec_f (by rw [w64 (by omega) (by omega)]; omega), cond_false, idxL_drop hd, Option.bind_some, event_Same_eq hst]
      simp only [Option.bind_some, decide_true, Bool.not_true, cond_false]
      rw [step64 (by omega), w64 (by omega) (by omega)]
      have hdr : ev.drop (i + 1) = r := by rw [← List.drop_drop, hd]; rfl
      refine ih (i + 1) _ q ?_ (by omega) (by rw [hdr]; exact k2) (by omega) (by omega) ?_
      · rw [hdr]; rw [hd] at hm; simp at hm; omega
      · rw [show (at_ + ((encI L).length : Int)).toNat = at_.toNat + (encI L).length by omega, ← List.drop_drop, hr, List.flatMap_cons, List.drop_left]
theorem L08_RecordSequences_plain : ∀ (a0 : List T_api_Event), okSl ok_T_api_Event a0 → ∃ F, L08_RecordSequences F a0 = some true := by
  intro l hl
  refine ⟨200000, ?_⟩
  unfold L08_RecordSequences
  by_cases h : (l.length : Int) > 20
  · rw [dec_t h, cond_true, lives08]; rfl
  rw [dec_f h, cond_false]
  rcases seq_loop1 (l := l) (by omega) 200000 0 [] [] [] [] [] (by simp; omega) (by omega) good_nil trivial rfl (by simp) (by simp) with h1 | ⟨row, ev, n, s, q, h1, g, k, hr, he, hl2⟩
  · rw [show L08_RecordSequences_L1 200000 l 200000 0 [] [] [] [] = _ from h1]; rfl
  · rw [show L08_RecordSequences_L1 200000 l 200000 0 [] [] [] [] = _ from h1, Option.bind_some]
    simp only
    rw [show L08_RecordSequences_L2 200000 (row, ev, n, s) 200000 0 0 = _ from seq_loop2 g he hl2 200000 0 0 q (by simp; omega) (by omega) (by simpa using k) (by omega) (by omega) (by simpa using hr), Option.bind_some]
    simp only [BEq.rfl, cond_true, lives08, Option.bind_some]
end Go.Ab
