/- Samples: the samples of ordered events, and the weights of last frames. -/
import Derived.Test.YtlepgljlnlfknaaC29b
namespace Go.Ab
open Go
set_option linter.unusedVariables false

/- SampleOrdered. -/
def single (x : T_api_Timed) : Int := checkS [⟨x.Id.Thread, 0, x.Event.N, x.Event.Stack⟩]
def outOf (o : List T_api_Timed) (i : Nat) (x : T_api_Timed) : Bool := !smallEv x.Event || decide (0 < i ∧ ∃ y, o[i - 1]? = some y ∧ x.When.Lo < y.When.Lo)
def ordG (o : List T_api_Timed) : Nat → List T_api_Timed → Int → Int ⊕ Bool
  | _, [], n => .inl n
  | i, x :: r, n => if !smallEv x.Event then .inr true else if 0 < i ∧ ∃ y, o[i - 1]? = some y ∧ x.When.Lo < y.When.Lo then .inr true else
      if x.Event.Kind = 5 then (if single x ≠ 0 then .inr true else ordG o (i + 1) r (n + 1)) else ordG o (i + 1) r n
theorem ordG_true {o : List T_api_Timed} {i : Nat} {l : List T_api_Timed} {n : Int} {b : Bool} (h : ordG o i l n = .inr b) : b = true := by
  induction l generalizing i n with
  | nil => cases h
  | cons x r ih =>
    simp only [ordG] at h
    split at h
    · injection h with h; exact h.symm
    · split at h
      · injection h with h; exact h.symm
      · split at h
        · split at h
          · injection h with h; exact h.symm
          · exact ih h
        · exact ih h
theorem ordG_count {o : List T_api_Timed} {i : Nat} {l : List T_api_Timed} {n m : Int} (h : ordG o i l n = .inl m) :
    m = n + ((samplesOf l).length : Int) ∧ (∀ x ∈ l, smallEv x.Event = true ∧ (x.Event.Kind = 5 → single x = 0)) ∧ ∀ j x, l[j]? = some x → 0 < i + j → ∀ y, o[i + j - 1]? = some y → y.When.Lo ≤ x.When.Lo := by
  induction l generalizing i n with
  | nil => injection h with h; subst h; simp [samplesOf]
  | cons x r ih =>
    simp only [ordG] at h
    split at h
    · cases h
    rename_i h1
    split at h
    · cases h
    rename_i h2
    have hs : smallEv x.Event = true := by cases hb : smallEv x.Event <;> simp_all
    have fin : ∀ {k : Int}, ordG o (i + 1) r k = .inl m → (x.Event.Kind = 5 → single x = 0) → k + ((samplesOf r).length : Int) = n + ((samplesOf (x :: r)).length : Int) →
        m = n + ((samplesOf (x :: r)).length : Int) ∧ (∀ y ∈ x :: r, smallEv y.Event = true ∧ (y.Event.Kind = 5 → single y = 0)) ∧ ∀ j z, (x :: r)[j]? = some z → 0 < i + j → ∀ y, o[i + j - 1]? = some y → y.When.Lo ≤ z.When.Lo := by
      intro k hk hx he
      obtain ⟨k1, k2, k3⟩ := ih hk
      refine ⟨by omega, fun y hy => ?_, fun j z hj h0 y hy => ?_⟩
      · rcases List.mem_cons.1 hy with rfl | hy
        · exact ⟨hs, hx⟩
        · exact k2 y hy
      · cases j with
        | zero =>
          simp at hj; subst hj
          rcases Int.lt_or_le x.When.Lo y.When.Lo with hlt | hle
          · exact absurd ⟨h0, y, hy, hlt⟩ h2
          · exact hle
        | succ j => exact k3 j z (by simpa using hj) (by omega) y (by rw [show i + 1 + j = i + (j + 1) by omega]; exact hy)
    split at h
    · rename_i hk
      split at h
      · cases h
      · rename_i h3
        exact fin h (fun _ => by omega) (by simp only [samplesOf, if_pos hk, List.length_cons]; omega)
    · rename_i hk
      exact fin h (fun h => absurd h hk) (by simp only [samplesOf, if_neg hk])

theorem single_ok {x : T_api_Timed} (h : single x = 0) : goodB (toSample x) = true ∧ framesErr x.Event.Stack = 0 := by
  unfold single checkS at h
  simp only [firstBad, checkF] at h
  cases hg : goodB ⟨x.Id.Thread, 0, x.Event.N, x.Event.Stack⟩
  · rw [hg] at h; simp at h
  · rw [hg] at h
    by_cases hf : framesErr x.Event.Stack ≠ 0
    · simp only [Bool.true_eq_false, if_false, if_pos hf] at h
      exact absurd h hf
    · have := goodB_iff.1 hg
      simp only at this
      have hc := clampT_range x.When.Lo
      exact ⟨goodB_iff.2 ⟨this.1, hc, this.2.2⟩, by omega⟩
theorem lo_mono {o : List T_api_Timed} (h : ∀ j x, o[j]? = some x → 0 < j → ∀ y, o[j - 1]? = some y → y.When.Lo ≤ x.When.Lo) : o.Pairwise fun a b => a.When.Lo ≤ b.When.Lo := by
  induction o with
  | nil => exact .nil
  | cons a r ih =>
    have ihr := ih fun j x hj h0 y hy => h (j + 1) x (by simpa using hj) (by omega) y (by
      rw [show j + 1 - 1 = (j - 1) + 1 by omega]; simpa using hy)
    refine .cons ?_ ihr
    intro b hb
    cases r with
    | nil => cases hb
    | cons c s =>
      have hc : a.When.Lo ≤ c.When.Lo := h 1 c rfl (by omega) a rfl
      rcases List.mem_cons.1 hb with rfl | hb
      · exact hc
      · exact Int.le_trans hc ((List.pairwise_cons.1 ihr).1 b hb)
theorem samples_mono {o : List T_api_Timed} (h : o.Pairwise fun a b => a.When.Lo ≤ b.When.Lo) : (samplesOf o).Pairwise fun a b => a.At ≤ b.At := by
  induction o with
  | nil => exact .nil
  | cons a r ih =>
    obtain ⟨h1, h2⟩ := List.pairwise_cons.1 h
    simp only [samplesOf]
    split
    · refine .cons ?_ (ih h2)
      intro b hb
      obtain ⟨x, hx, rfl, _⟩ := samplesOf_mem hb
      exact clampT_mono (h1 x hx)
    · exact ih h2
theorem checkS_zero {l : List T_api_Sample} (h1 : ∀ x ∈ l, goodB x = true ∧ framesErr x.Stack = 0) (h2 : l.Pairwise fun a b => a.At ≤ b.At) : checkS l = 0 := by
  unfold checkS
  rw [firstBad_all (f := checkF l) (i := 0)]
  intro j x hj
  obtain ⟨g1, g2⟩ := h1 x (List.mem_of_getElem? hj)
  unfold checkF
  rw [if_neg (by rw [g1]; decide), if_neg (by omega), if_neg]
  rintro ⟨h0, y, hy, hlt⟩
  obtain ⟨i1, e1⟩ := List.getElem?_eq_some_iff.1 hj
  obtain ⟨i2, e2⟩ := List.getElem?_eq_some_iff.1 hy
  have := List.pairwise_iff_getElem.1 h2 (0 + j - 1) j i2 i1 (by omega)
  rw [e1, e2] at this
  omega

theorem L29_SampleOrdered_plain : ∀ (a0 : List T_api_Timed), (okSl ok_T_api_Timed) a0 → ∃ F, L29_SampleOrdered F a0 = some true := by
  intro o h
  refine ⟨2000, ?_⟩
  unfold L29_SampleOrdered
  rw [awake_true]
  simp only [Option.bind_some, Bool.not_true, cond_false]
  by_cases hl : (o.length : Int) > 60
  · rw [dec_t hl, cond_true]
  rw [dec_f hl, cond_false]
  have hev : ∀ x ∈ o, okEv x.Event := fun x hx => okEv_of (h.1 x hx).2.1
  have := loopL0 (l := o) (fun n i s => L29_SampleOrdered_L1 2000 o n s i) (fun i l s => ordG o i l s) (fun i s => 0 ≤ s ∧ s ≤ i) ?_ ?_ (n := 2000) (s := 0) (by omega) (by omega)
  · rw [this, Option.bind_some]
    rcases hf : ordG o 0 o 0 with m | b
    · obtain ⟨k1, k2, k3⟩ := ordG_count hf
      have hsm : ∀ x ∈ o, x.Event.Stack.length ≤ 60 := fun x hx => small_stack (k2 x hx).1
      have hmono : o.Pairwise fun a b => a.When.Lo ≤ b.When.Lo := lo_mono fun j x hj h0 y hy => k3 j x hj (by omega) y (by rw [Nat.zero_add]; exact hy)
      have hlen := samplesOf_len o
      simp only
      rw [sample_Of_eq (by omega) hsm, Option.bind_some, beq_t (by omega), cond_true, sample_Check_eq (by omega) (fun s hs => by
        obtain ⟨x, hx, rfl, _⟩ := samplesOf_mem hs
        have := hsm x hx
        exact ⟨by simp only [toSample]; omega, (hev x hx).2.2⟩), Option.bind_some, checkS_zero (fun s hs => by
        obtain ⟨x, hx, rfl, hk⟩ := samplesOf_mem hs
        exact single_ok ((k2 x hx).2 hk)) (samples_mono hmono)]; rfl
    · rw [ordG_true hf]
  · intro n i s hi _
    show L29_SampleOrdered_L1_body 2000 o _ _ _ = _
    unfold L29_SampleOrdered_L1_body
    rw [dec_f (by omega), cond_false]; rfl
  · intro n i s x r hd hlt hI ih
    show L29_SampleOrdered_L1_body 2000 o _ _ _ = _
    unfold L29_SampleOrdered_L1_body
    have hx := hev x (mem_drop hd)
    rw [dec_t (by omega), cond_true, idxL_drop hd, Option.bind_some, small_eq hx, Option.bind_some, step64 (by omega)]
    simp only [ordG]
    cases hs : smallEv x.Event
    · rfl
    simp only [Bool.not_true, cond_false, Bool.false_eq_true, if_false]
    have hst := small_stack hs
    have e : (bif decide ((i : Int) > (0 : Int)) then ((some x).bind fun x_2 => (idxL o (w_i64 ((i : Int) - (1 : Int)))).bind fun x_3 => some (decide (x_2.When.Lo < x_3.When.Lo))) else (some false)) = some (decide (0 < i ∧ ∃ y, o[i - 1]? = some y ∧ x.When.Lo < y.When.Lo)) := by
      by_cases h0 : 0 < i
      · rw [dec_t (by omega), cond_true, Option.bind_some, idxL_prev h0 (by omega), List.getElem?_eq_getElem (show i - 1 < o.length by omega), Option.bind_some]
        congr 1
        by_cases hlt : x.When.Lo < o[i - 1].When.Lo
        · rw [dec_t hlt, dec_t ⟨h0, _, rfl, hlt⟩]
        · rw [dec_f hlt, dec_f]
          rintro ⟨_, y, hy, hlt'⟩; injection hy with hy; subst hy; exact hlt hlt'
      · rw [dec_f (by omega), cond_false, dec_f (fun h => h0 h.1)]
    rw [e, Option.bind_some]
    by_cases hb : 0 < i ∧ ∃ y, o[i - 1]? = some y ∧ x.When.Lo < y.When.Lo
    · rw [dec_t hb, cond_true, if_pos hb, Option.bind_some]
    rw [dec_f hb, cond_false, if_neg hb]
    by_cases hk : x.Event.Kind = 5
    · rw [beq_t hk, cond_true, if_pos hk, Option.bind_some, sample_Check_eq (by simp) (fun s hs => by
        simp only [List.mem_cons, List.not_mem_nil, or_false] at hs; subst hs
        exact ⟨by simp only; omega, hx.2.2⟩), Option.bind_some]
      show ((bif single x != 0 then _ else _) : Option (Int ⊕ Bool)).bind _ = _
      by_cases h3 : single x ≠ 0
      · rw [bne_t h3, cond_true, if_pos h3, Option.bind_some]
      · rw [bne_f (by omega), cond_false, if_neg h3, Option.bind_some]
        simp only
        rw [w64 (by omega) (by omega), ih _ (by omega)]
    · rw [beq_f hk, cond_false, if_neg hk, Option.bind_some]
      exact ih _ (by omega)

/- SampleLeaves. -/
def leavesG (l : List T_api_Sample) : List T_api_Sample → Int → List (List Int) → List T_api_Sample → Int × List T_api_Sample
  | [], sum, _, bare => (sum, bare)
  | x :: r, sum, seen, bare => match x.Stack.getLast? with
    | none => leavesG l r sum seen (bare ++ [x])
    | some nm => if seen.contains nm then leavesG l r sum seen bare else leavesG l r (sum + wsum (lastIs nm) l) (seen ++ [nm]) bare
def inSeen (seen : List (List Int)) (x : T_api_Sample) : Bool := match x.Stack.getLast? with | none => false | some nm => seen.contains nm
theorem wsum_seen {l : List T_api_Sample} {seen : List (List Int)} {nm : List Int} (h : seen.contains nm = false) : wsum (inSeen (seen ++ [nm])) l = wsum (inSeen seen) l + wsum (lastIs nm) l := by
  induction l with
  | nil => simp [wsum]
  | cons x r ih =>
    simp only [wsum, ih]
    have e : (inSeen (seen ++ [nm]) x = (inSeen seen x || lastIs nm x)) ∧ (inSeen seen x = true → lastIs nm x = false) := by
      unfold inSeen lastIs
      cases hl : x.Stack.getLast? with
      | none => simp
      | some k =>
        simp only [List.contains_append]
        have e2 : ([nm].contains k) = (k == nm) := by rw [Bool.eq_iff_iff]; simp
        rw [e2]
        refine ⟨rfl, fun hk => ?_⟩
        by_cases hn : k = nm
        · subst hn; rw [h] at hk; cases hk
        · simpa using hn
    rw [e.1]
    cases hg : goodB x <;> cases hi : inSeen seen x <;> cases hn : lastIs nm x <;> simp <;> first | omega | (have := e.2 hi; rw [hn] at this; cases this)
theorem wsum_congr {f g : T_api_Sample → Bool} {l : List T_api_Sample} (h : ∀ x ∈ l, f x = g x) : wsum f l = wsum g l := by
  induction l with
  | nil => rfl
  | cons x r ih =>
    simp only [wsum]
    rw [h x (by simp), ih fun y hy => h y (by simp [hy])]
def hasLast (x : T_api_Sample) : Bool := x.Stack.getLast?.isSome
theorem leavesG_spec {l : List T_api_Sample} (p : List T_api_Sample) : ∀ (r : List T_api_Sample) (sum : Int) (seen : List (List Int)) (bare : List T_api_Sample), sum = wsum (inSeen seen) l →
    (∀ x ∈ p, hasLast x = true → inSeen seen x = true) → bare = p.filter (fun x => !hasLast x) → p ++ r = l →
    (leavesG l r sum seen bare).1 = wsum hasLast l ∧ (leavesG l r sum seen bare).2 = l.filter (fun x => !hasLast x) := by
  intro r
  induction r generalizing p with
  | nil =>
    intro sum seen bare h1 h2 h3 h4
    rw [List.append_nil] at h4; subst h4
    simp only [leavesG]
    refine ⟨?_, h3⟩
    rw [h1]
    refine wsum_congr fun x hx => ?_
    cases hh : hasLast x
    · unfold hasLast at hh; unfold inSeen
      cases hl : x.Stack.getLast? with
      | none => rfl
      | some k => rw [hl] at hh; cases hh
    · exact h2 x hx hh
  | cons x r ih =>
    intro sum seen bare h1 h2 h3 h4
    have h4' : (p ++ [x]) ++ r = l := by simpa using h4
    simp only [leavesG]
    cases hl : x.Stack.getLast? with
    | none =>
      have hx : hasLast x = false := by unfold hasLast; rw [hl]; rfl
      refine ih (p ++ [x]) _ _ _ h1 ?_ ?_ h4'
      · intro y hy hh
        rcases List.mem_append.1 hy with hy | hy
        · exact h2 y hy hh
        · simp at hy; subst hy; rw [hx] at hh; cases hh
      · rw [h3, List.filter_append]; simp [hx]
    | some nm =>
      have hx : hasLast x = true := by unfold hasLast; rw [hl]; rfl
      simp only
      have hb : (p ++ [x]).filter (fun x => !hasLast x) = p.filter (fun x => !hasLast x) := by rw [List.filter_append]; simp [hx]
      split
      · rename_i hc
        refine ih (p ++ [x]) _ _ _ h1 ?_ (by rw [hb]; exact h3) h4'
        intro y hy hh
        rcases List.mem_append.1 hy with hy | hy
        · exact h2 y hy hh
        · simp at hy; subst hy; unfold inSeen; rw [hl]; exact hc
      · rename_i hc
        have hc : seen.contains nm = false := by simpa using hc
        refine ih (p ++ [x]) _ _ _ (by rw [wsum_seen hc, h1]) ?_ (by rw [hb]; exact h3) h4'
        intro y hy hh
        rcases List.mem_append.1 hy with hy | hy
        · have := h2 y hy hh
          unfold inSeen at this ⊢
          cases hly : y.Stack.getLast? with
          | none => rw [hly] at this; cases this
          | some k =>
            rw [hly] at this
            simp only at this ⊢
            rw [List.contains_append, this]; rfl
        · simp at hy; subst hy; unfold inSeen; rw [hl]; simp
theorem wsum_part (l : List T_api_Sample) : wsum hasLast l + wsum (fun _ => true) (l.filter fun x => !hasLast x) = wsum (fun _ => true) l := by
  induction l with
  | nil => rfl
  | cons x r ih =>
    simp only [List.filter_cons]
    cases hh : hasLast x
    · simp only [Bool.not_false, if_true, wsum, hh, Bool.and_false, Bool.false_eq_true, if_false]; omega
    · simp only [Bool.not_true, Bool.false_eq_true, if_false, wsum, hh]; omega

theorem leaves_L2 {row : List (List Int)} {nm : List Int} (hl : row.length ≤ 1000) : L29_SampleLeaves_L2 2000 row nm 2000 false 0 = some (row.contains nm) := by
  have := loopL0 (l := row) (fun n i s => L29_SampleLeaves_L2 2000 row nm n s i) (fun _ r s => s || r.contains nm) (fun _ _ => True) ?_ ?_ (n := 2000) (s := false) trivial (by omega)
  · rw [this]; simp
  · intro n i s hi _
    show L29_SampleLeaves_L2_body 2000 row nm _ _ _ = _
    unfold L29_SampleLeaves_L2_body
    rw [dec_f (by omega), cond_false]; simp
  · intro n i s x r hd hlt _ ih
    show L29_SampleLeaves_L2_body 2000 row nm _ _ _ = _
    unfold L29_SampleLeaves_L2_body
    rw [dec_t (by omega), cond_true, idxL_drop hd, step64 (by omega)]
    have e : (bif s then (some true) else ((some x).bind fun x_5 => some (x_5 == nm))) = some (s || x == nm) := by cases s <;> rfl
    rw [e, Option.bind_some, ih _ trivial, List.contains_cons, Bool.or_assoc]
    congr 2
    have : (x == nm) = (nm == x) := by rw [Bool.eq_iff_iff, beq_iff_eq, beq_iff_eq]; exact eq_comm
    rw [this]

theorem L29_SampleLeaves_plain : ∀ (a0 : List T_api_Sample), (okSl ok_T_api_Sample) a0 → ∃ F, L29_SampleLeaves F a0 = some true := by
  intro l h
  refine ⟨2000, ?_⟩
  unfold L29_SampleLeaves
  rw [awake_true, R29_Few_eq h]
  simp only [Option.bind_some, Bool.not_true, cond_false]
  cases hf : fewB l
  · rfl
  simp only [Bool.not_true, cond_false]
  obtain ⟨f1, f2⟩ := few_of hf
  have f4 : ∀ x ∈ l, x.Stack.length ≤ 9000000000000000000 := fun x hx => by have := f2 x hx; omega
  have hw : ∀ f, 0 ≤ wsum f l ∧ wsum f l ≤ 40000000000000 := fun f => by have := wsum_range f l; omega
  have := loopL0 (l := l) (fun n i (s : Int × List (List Int) × List T_api_Sample) => L29_SampleLeaves_L1 2000 l n s.1 i s.2.1 s.2.2) (fun _ r s => leavesG l r s.1 s.2.1 s.2.2) (fun i s => s.1 = wsum (inSeen s.2.1) l ∧ s.2.1.length ≤ i ∧ s.2.2.length ≤ i) ?_ ?_ (n := 2000) (s := (0, [], [])) ⟨?_, by simp, by simp⟩ (by omega)
  · rw [show L29_SampleLeaves_L1 2000 l 2000 0 0 [] [] = _ from this, Option.bind_some]
    obtain ⟨k1, k2⟩ := leavesG_spec (l := l) [] l 0 [] [] (by
      have : ∀ m : List T_api_Sample, wsum (inSeen []) m = 0 := by
        intro m
        induction m with
        | nil => rfl
        | cons x r ih => simp only [wsum, ih]; unfold inSeen; cases x.Stack.getLast? <;> simp
      exact (this l).symm) (by simp) rfl rfl
    simp only
    rw [k1, k2]
    have hfl := List.length_filter_le (fun x => !hasLast x) l
    rw [sample_Total_eq (by omega), Option.bind_some, sample_Total_eq (by omega), Option.bind_some]
    have hp := wsum_part l
    have w1 := hw hasLast
    have w2 := hw (fun _ => true)
    have w3 := wsum_range (fun _ => true) (l.filter fun x => !hasLast x)
    rw [beq_t]
    rw [w64 (by unfold imin; split <;> omega) (by unfold imin; split <;> omega)]
    unfold imin; repeat' split <;> omega
  · intro n i s hi _
    show L29_SampleLeaves_L1_body 2000 l _ _ _ _ _ = _
    unfold L29_SampleLeaves_L1_body
    rw [dec_f (by omega), cond_false]; rfl
  · intro n i s x r hd hlt hI ih
    obtain ⟨sum, seen, bare⟩ := s
    obtain ⟨hI1, hI2, hI3⟩ := hI
    simp only at hI1 hI2 hI3
    show L29_SampleLeaves_L1_body 2000 l _ sum i seen bare = _
    unfold L29_SampleLeaves_L1_body
    have hsx := f2 x (mem_drop hd)
    rw [dec_t (by omega), cond_true, idxL_drop hd, step64 (by omega)]
    simp only [Option.bind_some]
    by_cases he : x.Stack = []
    · rw [he]
      simp only [List.length_nil]
      rw [beq_t (by rfl), cond_true, need_t (by simp only [List.length_cons, List.length_nil]; omega), Option.bind_some, Option.bind_some]
      have e2 : leavesG l (x :: r) sum seen bare = leavesG l r sum seen (bare ++ [x]) := by simp only [leavesG]; rw [he]; rfl
      rw [e2]
      exact ih (sum, seen, bare ++ [x]) ⟨hI1, by simp only; omega, by simp; omega⟩
    · have hp := List.length_pos_iff.2 he
      have hgl := List.getLast?_eq_some_getLast he
      rw [beq_f (by omega), cond_false, idxL_last (by omega) he, hgl, Option.bind_some, leaves_L2 (by omega), Option.bind_some]
      generalize x.Stack.getLast he = nm at hgl
      have e2 : leavesG l (x :: r) sum seen bare = if seen.contains nm then leavesG l r sum seen bare else leavesG l r (sum + wsum (lastIs nm) l) (seen ++ [nm]) bare := by simp only [leavesG]; rw [hgl]
      rw [e2]
      cases hc : seen.contains nm
      · simp only [Bool.not_false, cond_true, Bool.false_eq_true, if_false]
        have w1 := hw (inSeen seen)
        have w2 := hw (lastIs nm)
        rw [need_t (by simp only [List.length_cons, List.length_nil]; omega), Option.bind_some, sample_Leaf_eq (by omega) f4, Option.bind_some, Option.bind_some]
        have e3 : imin (wsum (lastIs nm) l) 1000000000000000 = wsum (lastIs nm) l := by unfold imin; split <;> omega
        rw [e3, w64 (by omega) (by omega)]
        exact ih (sum + wsum (lastIs nm) l, seen ++ [nm], bare) ⟨by simp only; rw [wsum_seen hc, hI1], by simp; omega, by simp only; omega⟩
      · simp only [Bool.not_true, cond_false, if_true, Option.bind_some]
        exact ih (sum, seen, bare) ⟨hI1, by simp only; omega, by simp only; omega⟩
  · have : ∀ m : List T_api_Sample, wsum (inSeen []) m = 0 := by
      intro m
      induction m with
      | nil => rfl
      | cons x r ih => simp only [wsum, ih]; unfold inSeen; cases x.Stack.getLast? <;> simp
    exact (this l).symm
end Go.Ab
