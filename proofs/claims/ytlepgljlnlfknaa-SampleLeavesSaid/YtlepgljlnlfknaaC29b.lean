/- Samples: Check, Within, Leaf, Total, and the plain laws on them. -/
import Derived.Test.YtlepgljlnlfknaaC29
namespace Go.Ab
open Go
set_option linter.unusedVariables false

def goodB (s : T_api_Sample) : Bool := decide (s.Thread ≥ 0) && (decide (s.Thread ≤ 1000000000000000) && (decide (s.At ≥ 0) && (decide (s.At ≤ 1000000000000) && (decide (s.Weight ≥ 1) && decide (s.Weight ≤ 1000000000000)))))
theorem sample_good_eq (s : T_api_Sample) : sample_good s = some (goodB s) := rfl
theorem R29_inRange_eq (s : T_api_Sample) : R29_inRange s = some (goodB s) := rfl
theorem goodB_iff {s : T_api_Sample} : goodB s = true ↔ (0 ≤ s.Thread ∧ s.Thread ≤ 1000000000000000) ∧ (0 ≤ s.At ∧ s.At ≤ 1000000000000) ∧ 1 ≤ s.Weight ∧ s.Weight ≤ 1000000000000 := by
  unfold goodB
  simp only [Bool.and_eq_true, decide_eq_true_eq]
  constructor
  · rintro ⟨h1, h2, h3, h4, h5, h6⟩; omega
  · rintro ⟨h1, h2, h3⟩; omega

def okSm (s : T_api_Sample) : Prop := s.Stack.length ≤ 9000000000000000000 ∧ ∀ f ∈ s.Stack, okStr f
def checkF (l : List T_api_Sample) (i : Nat) (x : T_api_Sample) : Option Int :=
  if goodB x = false then some 2 else if framesErr x.Stack ≠ 0 then some (framesErr x.Stack) else if 0 < i ∧ ∃ y, l[i - 1]? = some y ∧ x.At < y.At then some 11 else none
def checkS (l : List T_api_Sample) : Int := match firstBad (checkF l) 0 l with | .inl _ => 0 | .inr q => q
theorem sample_Check_eq {l : List T_api_Sample} (hl : l.length ≤ 1000) (hs : ∀ x ∈ l, okSm x) : sample_Check 2000 l = some (checkS l) := by
  unfold sample_Check checkS
  have := loopL0 (l := l) (σ := Unit) (fun n i _ => sample_Check_L1 2000 l n i) (fun i r _ => firstBad (checkF l) i r) (fun _ _ => True) ?_ ?_ (n := 2000) (s := ()) trivial (by omega)
  · rw [this, Option.bind_some]; cases firstBad (checkF l) 0 l <;> rfl
  · intro n i _ hi _
    show sample_Check_L1_body 2000 l _ _ = _
    unfold sample_Check_L1_body
    rw [dec_f (by omega), cond_false]; rfl
  · intro n i _ x r hd hlt _ ih
    show sample_Check_L1_body 2000 l _ _ = _
    unfold sample_Check_L1_body
    have hx := hs x (mem_drop hd)
    rw [dec_t (by omega), cond_true, idxL_drop hd, Option.bind_some, sample_good_eq, Option.bind_some, intern_Frames_eq hx.2 hx.1, Option.bind_some, step64 (by omega), ih () trivial]
    simp only [firstBad, checkF]
    cases hg : goodB x
    · rfl
    simp only [Bool.not_true, cond_false, Bool.true_eq_false, if_false]
    by_cases hf : framesErr x.Stack ≠ 0
    · rw [bne_t hf, cond_true, if_pos hf]
    rw [bne_f (by omega), cond_false, if_neg hf]
    by_cases h0 : 0 < i
    · rw [dec_t (by omega), cond_true, idxL_prev h0 (by omega), List.getElem?_eq_getElem (show i - 1 < l.length by omega), Option.bind_some, Option.bind_some]
      by_cases hlt : x.At < l[i - 1].At
      · rw [dec_t hlt, cond_true, if_pos ⟨h0, _, rfl, hlt⟩]
      · rw [dec_f hlt, cond_false, if_neg (by rintro ⟨_, y, hy, hlt'⟩; injection hy with hy; subst hy; exact hlt hlt')]
    · rw [dec_f (by omega), cond_false, Option.bind_some, cond_false, if_neg (by omega)]
theorem R29_Check_eq {l : List T_api_Sample} (hl : l.length ≤ 1000) (hs : ∀ x ∈ l, okSm x) : R29_Check 2000 l = some (checkS l) := by
  unfold R29_Check checkS
  have := loopL0 (l := l) (σ := Unit) (fun n i _ => R29_Check_L1 2000 l n i) (fun i r _ => firstBad (checkF l) i r) (fun _ _ => True) ?_ ?_ (n := 2000) (s := ()) trivial (by omega)
  · rw [this, Option.bind_some]; cases firstBad (checkF l) 0 l <;> rfl
  · intro n i _ hi _
    show R29_Check_L1_body 2000 l _ _ = _
    unfold R29_Check_L1_body
    rw [dec_f (by omega), cond_false]; rfl
  · intro n i _ x r hd hlt _ ih
    show R29_Check_L1_body 2000 l _ _ = _
    unfold R29_Check_L1_body
    have hx := hs x (mem_drop hd)
    rw [dec_t (by omega), cond_true, idxL_drop hd, Option.bind_some, R29_inRange_eq, Option.bind_some, Option.bind_some, R06_Frames_eq hx.2 hx.1, Option.bind_some, step64 (by omega), ih () trivial]
    simp only [firstBad, checkF]
    cases hg : goodB x
    · rfl
    simp only [Bool.not_true, cond_false, Bool.true_eq_false, if_false]
    by_cases hf : framesErr x.Stack ≠ 0
    · rw [bne_t hf, cond_true, if_pos hf]
    rw [bne_f (by omega), cond_false, if_neg hf]
    by_cases h0 : 0 < i
    · rw [dec_t (by omega), cond_true, Option.bind_some, idxL_prev h0 (by omega), List.getElem?_eq_getElem (show i - 1 < l.length by omega), Option.bind_some, Option.bind_some]
      by_cases hlt : x.At < l[i - 1].At
      · rw [dec_t hlt, cond_true, if_pos ⟨h0, _, rfl, hlt⟩]
      · rw [dec_f hlt, cond_false, if_neg (by rintro ⟨_, y, hy, hlt'⟩; injection hy with hy; subst hy; exact hlt hlt')]
    · rw [dec_f (by omega), cond_false, Option.bind_some, cond_false, if_neg (by omega)]

def inSpan (s : T_api_Span) (x : T_api_Sample) : Bool := decide (s.From ≤ x.At) && decide (x.At < s.To)
theorem sample_Within_eq {l : List T_api_Sample} {s : T_api_Span} (hl : l.length ≤ 1000) : sample_Within 2000 l s = some (l.filter (inSpan s)) := by
  unfold sample_Within
  have := loopL0 (l := l) (fun n i row => sample_Within_L1 2000 l s n i row) (fun _ r row => row ++ r.filter (inSpan s)) (fun i row => row.length ≤ i) ?_ ?_ (n := 2000) (s := []) (by simp) (by omega)
  · rw [this]; rfl
  · intro n i row hi _
    show sample_Within_L1_body 2000 l s _ _ _ = _
    unfold sample_Within_L1_body
    rw [dec_f (by omega), cond_false]; simp
  · intro n i row x r hd hlt hI ih
    show sample_Within_L1_body 2000 l s _ _ _ = _
    unfold sample_Within_L1_body
    rw [dec_t (by omega), cond_true, idxL_drop hd, Option.bind_some, step64 (by omega), List.filter_cons]
    show (bif inSpan s x then _ else _) = _
    cases inSpan s x
    · rw [cond_false, ih _ (by omega)]; rfl
    · rw [cond_true, need_t (by simp only [List.length_cons, List.length_nil]; omega), Option.bind_some, ih _ (by simp; omega)]; simp
theorem R29_Within_eq {l : List T_api_Sample} {s : T_api_Span} (hl : l.length ≤ 1000) : R29_Within 2000 l s = some (l.filter (inSpan s)) := by
  unfold R29_Within
  have := loopL0 (l := l) (fun n i row => R29_Within_L1 2000 l s n i row) (fun _ r row => row ++ r.filter (inSpan s)) (fun i row => row.length ≤ i) ?_ ?_ (n := 2000) (s := []) (by simp) (by omega)
  · rw [this]; rfl
  · intro n i row hi _
    show R29_Within_L1_body 2000 l s _ _ _ = _
    unfold R29_Within_L1_body
    rw [dec_f (by omega), cond_false]; simp
  · intro n i row x r hd hlt hI ih
    show R29_Within_L1_body 2000 l s _ _ _ = _
    unfold R29_Within_L1_body
    rw [dec_t (by omega), cond_true, idxL_drop hd, step64 (by omega), List.filter_cons]
    simp only [Option.bind_some]
    have e : (bif decide (s.From ≤ x.At) then some (decide (x.At < s.To)) else some false) = some (inSpan s x) := by
      unfold inSpan; cases decide (s.From ≤ x.At) <;> rfl
    rw [e, Option.bind_some]
    cases inSpan s x
    · rw [cond_false, Option.bind_some, ih _ (by omega)]; rfl
    · rw [cond_true, need_t (by simp only [List.length_cons, List.length_nil]; omega), Option.bind_some, Option.bind_some, ih _ (by simp; omega)]; simp

/- Weights. -/
def satW (f : T_api_Sample → Bool) : List T_api_Sample → Int → Int
  | [], n => n
  | x :: r, n => if goodB x && f x then satW f r (imin (n + x.Weight) 1000000000000000) else satW f r n
def wsum (f : T_api_Sample → Bool) : List T_api_Sample → Int
  | [] => 0
  | x :: r => (if goodB x && f x then x.Weight else 0) + wsum f r
theorem wsum_range (f : T_api_Sample → Bool) (l : List T_api_Sample) : 0 ≤ wsum f l ∧ wsum f l ≤ 1000000000000 * (l.length : Int) := by
  induction l with
  | nil => simp [wsum]
  | cons x r ih =>
    simp only [wsum, List.length_cons]
    split
    · rename_i h
      simp only [Bool.and_eq_true] at h
      have := goodB_iff.1 h.1
      omega
    · omega
theorem satW_eq {f : T_api_Sample → Bool} {l : List T_api_Sample} {n : Int} (h0 : 0 ≤ n) (h1 : n ≤ 1000000000000000) : satW f l n = imin (n + wsum f l) 1000000000000000 := by
  induction l generalizing n with
  | nil => unfold satW wsum imin; split <;> omega
  | cons x r ih =>
    simp only [satW, wsum]
    split
    · rename_i h
      simp only [Bool.and_eq_true] at h
      have := goodB_iff.1 h.1
      have hr := wsum_range f r
      rw [ih (by unfold imin; split <;> omega) (by unfold imin; split <;> omega)]
      unfold imin; repeat' split <;> omega
    · rw [ih h0 h1, Int.zero_add]
def lastIs (name : List Int) (x : T_api_Sample) : Bool := x.Stack.getLast? == some name
theorem sample_Leaf_1_eq {x : T_api_Sample} {name : List Int} (h : x.Stack.length ≤ 9000000000000000000) : sample_Leaf_1 x name = some (lastIs name x) := by
  unfold sample_Leaf_1 lastIs
  by_cases he : x.Stack = []
  · rw [he]; rfl
  · have hp := List.length_pos_iff.2 he
    rw [dec_t (by omega), cond_true, idxL_last (by omega) he, List.getLast?_eq_some_getLast he, Option.bind_some, Option.bind_some]
    simp
theorem sample_Total_eq {l : List T_api_Sample} (hl : l.length ≤ 1000) : sample_Total 2000 l = some (imin (wsum (fun _ => true) l) 1000000000000000) := by
  unfold sample_Total sample_weigh_v2
  have := loopL0 (l := l) (fun n i s => sample_weigh_v2_L1 2000 l n s i) (fun _ r s => satW (fun _ => true) r s) (fun _ s => 0 ≤ s ∧ s ≤ 1000000000000000) ?_ ?_ (n := 2000) (s := 0) (by omega) (by omega)
  · rw [this]
    simp only [Option.bind_some]
    rw [satW_eq (by omega) (by omega), Int.zero_add]
  · intro n i s hi _
    show sample_weigh_v2_L1_body 2000 l _ _ _ = _
    unfold sample_weigh_v2_L1_body
    rw [dec_f (by omega), cond_false]; rfl
  · intro n i s x r hd hlt hI ih
    show sample_weigh_v2_L1_body 2000 l _ _ _ = _
    unfold sample_weigh_v2_L1_body
    rw [dec_t (by omega), cond_true, idxL_drop hd, Option.bind_some, step64 (by omega), sample_good_eq]
    simp only [satW]
    cases hg : goodB x
    · simp only [Option.bind_some, cond_false, Bool.false_and]
      rw [ih _ hI]; rfl
    · have := goodB_iff.1 hg
      show sample_weigh_v2_L1 2000 l n (imin (w_i64 (s + x.Weight)) 1000000000000000) _ = _
      rw [w64 (by omega) (by omega), ih _ (by unfold imin; split <;> omega)]; rfl
theorem sample_Leaf_eq {l : List T_api_Sample} {name : List Int} (hl : l.length ≤ 1000) (hs : ∀ x ∈ l, x.Stack.length ≤ 9000000000000000000) : sample_Leaf 2000 l name = some (imin (wsum (lastIs name) l) 1000000000000000) := by
  unfold sample_Leaf sample_weigh
  have := loopL0 (l := l) (fun n i s => sample_weigh_L1 2000 l name n s i) (fun _ r s => satW (lastIs name) r s) (fun _ s => 0 ≤ s ∧ s ≤ 1000000000000000) ?_ ?_ (n := 2000) (s := 0) (by omega) (by omega)
  · rw [this]
    simp only [Option.bind_some]
    rw [satW_eq (by omega) (by omega), Int.zero_add]
  · intro n i s hi _
    show sample_weigh_L1_body 2000 l name _ _ _ = _
    unfold sample_weigh_L1_body
    rw [dec_f (by omega), cond_false]; rfl
  · intro n i s x r hd hlt hI ih
    show sample_weigh_L1_body 2000 l name _ _ _ = _
    unfold sample_weigh_L1_body
    rw [dec_t (by omega), cond_true, idxL_drop hd, Option.bind_some, step64 (by omega), sample_good_eq, sample_Leaf_1_eq (hs x (mem_drop hd))]
    simp only [satW, Option.bind_some]
    cases hg : goodB x
    · simp only [Option.bind_some, cond_false, Bool.false_and]
      rw [ih _ hI]; rfl
    · have := goodB_iff.1 hg
      cases hn : lastIs name x
      · simp only [Option.bind_some, cond_true, cond_false, Bool.true_and]
        rw [ih _ hI]; rfl
      · simp only [Option.bind_some, cond_true, Bool.true_and, if_true]
        rw [w64 (by omega) (by omega), ih _ (by unfold imin; split <;> omega)]
theorem imin_comm (a b : Int) : imin a b = imin b a := by unfold imin; split <;> split <;> omega
theorem R29_Total_eq {l : List T_api_Sample} (hl : l.length ≤ 1000) : R29_Total 2000 l = some (imin (wsum (fun _ => true) l) 1000000000000000) := by
  unfold R29_Total
  have := loopL0 (l := l) (fun n i s => R29_Total_L1 2000 l n s i) (fun _ r s => satW (fun _ => true) r s) (fun _ s => 0 ≤ s ∧ s ≤ 1000000000000000) ?_ ?_ (n := 2000) (s := 0) (by omega) (by omega)
  · rw [this]
    simp only [Option.bind_some]
    rw [satW_eq (by omega) (by omega), Int.zero_add]
  · intro n i s hi _
    show R29_Total_L1_body 2000 l _ _ _ = _
    unfold R29_Total_L1_body
    rw [dec_f (by omega), cond_false]; rfl
  · intro n i s x r hd hlt hI ih
    show R29_Total_L1_body 2000 l _ _ _ = _
    unfold R29_Total_L1_body
    rw [dec_t (by omega), cond_true, idxL_drop hd, step64 (by omega)]
    simp only [satW, Option.bind_some, R29_inRange_eq]
    cases hg : goodB x
    · simp only [Option.bind_some, cond_false, Bool.false_and]
      rw [ih _ hI]; rfl
    · have := goodB_iff.1 hg
      simp only [Option.bind_some, cond_true, Bool.true_and, if_true]
      rw [w64 (x := s + x.Weight) (by omega) (by omega), imin_comm, ih _ (by unfold imin; split <;> omega)]
theorem R29_Leaf_eq {l : List T_api_Sample} {name : List Int} (hl : l.length ≤ 1000) (hs : ∀ x ∈ l, x.Stack.length ≤ 9000000000000000000) : R29_Leaf 2000 l name = some (imin (wsum (lastIs name) l) 1000000000000000) := by
  unfold R29_Leaf
  have := loopL0 (l := l) (fun n i s => R29_Leaf_L1 2000 l name n s i) (fun _ r s => satW (lastIs name) r s) (fun _ s => 0 ≤ s ∧ s ≤ 1000000000000000) ?_ ?_ (n := 2000) (s := 0) (by omega) (by omega)
  · rw [this]
    simp only [Option.bind_some]
    rw [satW_eq (by omega) (by omega), Int.zero_add]
  · intro n i s hi _
    show R29_Leaf_L1_body 2000 l name _ _ _ = _
    unfold R29_Leaf_L1_body
    rw [dec_f (by omega), cond_false]; rfl
  · intro n i s x r hd hlt hI ih
    show R29_Leaf_L1_body 2000 l name _ _ _ = _
    unfold R29_Leaf_L1_body
    have hsx := hs x (mem_drop hd)
    rw [dec_t (by omega), cond_true, idxL_drop hd, step64 (by omega)]
    simp only [satW, Option.bind_some, R29_inRange_eq]
    have e : (bif decide (((x.Stack.length : Nat) : Int) > (0 : Int)) then ((idxL x.Stack (w_i64 (((x.Stack.length : Nat) : Int) - (1 : Int)))).bind fun x_4 => some (x_4 == name)) else (some false)) = some (lastIs name x) := by
      have := sample_Leaf_1_eq (name := name) hsx
      unfold sample_Leaf_1 at this
      rw [← this]
      cases decide (((x.Stack.length : Nat) : Int) > (0 : Int))
      · rfl
      · simp only [cond_true]
        cases idxL x.Stack (w_i64 (((x.Stack.length : Nat) : Int) - (1 : Int))) <;> rfl
    rw [e]
    cases hg : goodB x
    · simp only [Option.bind_some, cond_false, Bool.false_and]
      rw [ih _ hI]; rfl
    · have := goodB_iff.1 hg
      cases hn : lastIs name x
      · simp only [Option.bind_some, cond_true, cond_false, Bool.true_and]
        rw [ih _ hI]; rfl
      · simp only [Option.bind_some, cond_true, Bool.true_and, if_true]
        rw [w64 (x := s + x.Weight) (by omega) (by omega), imin_comm, ih _ (by unfold imin; split <;> omega)]

/- At most forty samples. -/
def notFew (_ : Nat) (x : T_api_Sample) : Option Bool := if smallEv ⟨0, 0, [], 0, 0, x.Stack⟩ then none else some false
def fewB (l : List T_api_Sample) : Bool := if 40 < l.length then false else match firstBad notFew 0 l with | .inl _ => true | .inr q => q
theorem notFew_false {i : Nat} {l : List T_api_Sample} {q : Bool} (h : firstBad notFew i l = .inr q) : q = false := by
  induction l generalizing i with
  | nil => cases h
  | cons c r ih =>
    simp only [firstBad, notFew] at h
    cases hc : smallEv ⟨0, 0, [], 0, 0, c.Stack⟩ <;> rw [hc] at h
    · simpa using h.symm
    · exact ih h
theorem okSm_of {s : T_api_Sample} (h : ok_T_api_Sample s) : s.Stack.length ≤ 9223372036854775807 ∧ ∀ f ∈ s.Stack, okStr f := by
  unfold ok_T_api_Sample at h
  exact ⟨h.2.2.2.2, h.2.2.2.1⟩
theorem R29_Few_eq {l : List T_api_Sample} (h : okSl ok_T_api_Sample l) : R29_Few 2000 l = some (fewB l) := by
  unfold R29_Few fewB
  have hb := h.2
  by_cases hl : 40 < l.length
  · rw [dec_t (by omega), cond_true, if_pos hl]
  rw [dec_f (by omega), cond_false, if_neg hl]
  have := loopL0 (l := l) (σ := Unit) (fun n i _ => R29_Few_L1 2000 l n i) (fun i r _ => firstBad notFew i r) (fun _ _ => True) ?_ ?_ (n := 2000) (s := ()) trivial (by omega)
  · rw [this, Option.bind_some]; cases firstBad notFew 0 l <;> rfl
  · intro n i _ hi _
    show R29_Few_L1_body 2000 l _ _ = _
    unfold R29_Few_L1_body
    rw [dec_f (by omega), cond_false]; rfl
  · intro n i _ x r hd hlt _ ih
    show R29_Few_L1_body 2000 l _ _ = _
    unfold R29_Few_L1_body
    have hx := okSm_of (h.1 x (mem_drop hd))
    rw [dec_t (by omega), cond_true, idxL_drop hd, Option.bind_some, R07_Small_eq (by simp) hx.1 (fun s hs => (hx.2 s hs).2), Option.bind_some, step64 (by omega), ih () trivial]
    simp only [firstBad, notFew]
    cases smallEv ⟨0, 0, [], 0, 0, x.Stack⟩ <;> rfl
theorem few_of {l : List T_api_Sample} (h : fewB l = true) : l.length ≤ 40 ∧ ∀ x ∈ l, x.Stack.length ≤ 60 := by
  unfold fewB at h
  by_cases hl : 40 < l.length
  · rw [if_pos hl] at h; cases h
  · rw [if_neg hl] at h
    refine ⟨by omega, fun x hx => ?_⟩
    rcases hf : firstBad notFew 0 l with u | q
    · obtain ⟨j, hj⟩ := List.mem_iff_getElem?.1 hx
      have := firstBad_none hf j x hj
      unfold notFew at this
      split at this
      · rename_i hs; exact small_stack hs
      · cases this
    · rw [hf] at h
      have := notFew_false hf
      rw [this] at h; cases h

theorem L29_SampleChecks_plain : ∀ (a0 : List T_api_Sample) (a1 : T_api_Span) (a2 : List Int), (okSl ok_T_api_Sample) a0 → ok_T_api_Span a1 → okStr a2 → ∃ F, L29_SampleChecks F a0 a1 a2 = some true := by
  intro l s name h h1 h2
  refine ⟨2000, ?_⟩
  unfold L29_SampleChecks
  rw [awake_true, R29_Few_eq h]
  simp only [Option.bind_some, Bool.not_true, cond_false]
  cases hf : fewB l
  · rfl
  simp only [Bool.not_true, cond_false, Option.bind_some]
  cases decide ((name.length : Int) > 200)
  · obtain ⟨f1, f2⟩ := few_of hf
    have f3 : ∀ x ∈ l, okSm x := fun x hx => ⟨by have := f2 x hx; omega, (okSm_of (h.1 x hx)).2⟩
    have f4 : ∀ x ∈ l, x.Stack.length ≤ 9000000000000000000 := fun x hx => (f3 x hx).1
    have f5 := List.length_filter_le (inSpan s) l
    rw [sample_Check_eq (by omega) f3, R29_Check_eq (by omega) f3, sample_Within_eq (by omega), R29_Within_eq (by omega), sample_Leaf_eq (by omega) f4, R29_Leaf_eq (by omega) f4, sample_Total_eq (by omega), R29_Total_eq (by omega)]
    simp only [cond_false, Option.bind_some, BEq.rfl, cond_true]
    rw [R29_Same_self (by omega) (fun x hx => by have := f2 x (List.mem_filter.1 hx).1; omega)]; rfl
  · rfl

theorem span_split {c0 c1 c2 : Int} (h01 : c0 ≤ c1) (h12 : c1 ≤ c2) (l : List T_api_Sample) :
    (l.filter (inSpan ⟨c0, c1⟩)).length + (l.filter (inSpan ⟨c1, c2⟩)).length = (l.filter (inSpan ⟨c0, c2⟩)).length ∧
    wsum (fun _ => true) (l.filter (inSpan ⟨c0, c1⟩)) + wsum (fun _ => true) (l.filter (inSpan ⟨c1, c2⟩)) = wsum (fun _ => true) (l.filter (inSpan ⟨c0, c2⟩)) := by
  induction l with
  | nil => simp [wsum]
  | cons x r ih =>
    obtain ⟨i1, i2⟩ := ih
    simp only [List.filter_cons]
    have e : ∀ a b : Int, inSpan ⟨a, b⟩ x = true ↔ a ≤ x.At ∧ x.At < b := by intro a b; simp [inSpan]
    by_cases k1 : c0 ≤ x.At ∧ x.At < c1
    · rw [if_pos ((e _ _).2 k1), if_neg (by rw [e]; omega), if_pos ((e _ _).2 (by omega))]
      simp only [List.length_cons, wsum]; omega
    · by_cases k2 : c1 ≤ x.At ∧ x.At < c2
      · rw [if_neg (by rw [e]; exact k1), if_pos ((e _ _).2 k2), if_pos ((e _ _).2 (by omega))]
        simp only [List.length_cons, wsum]; omega
      · rw [if_neg (by rw [e]; exact k1), if_neg (by rw [e]; exact k2), if_neg (by rw [e]; omega)]
        exact ⟨i1, i2⟩

theorem L29_SampleDivides_plain : ∀ (a0 : List T_api_Sample) (a1 : Arr3_Int), (okSl ok_T_api_Sample) a0 → ok_Arr3_Int a1 → ∃ F, L29_SampleDivides F a0 a1 = some true := by
  intro l c h h1
  refine ⟨2000, ?_⟩
  unfold L29_SampleDivides
  rw [awake_true, R29_Few_eq h]
  simp only [Option.bind_some, Bool.not_true, cond_false]
  cases hf : fewB l
  · rfl
  simp only [Bool.not_true, cond_false]
  by_cases c1 : c.c0 > c.c1
  · rw [dec_t c1]; rfl
  rw [dec_f c1, cond_false, Option.bind_some]
  by_cases c2 : c.c1 > c.c2
  · rw [dec_t c2]; rfl
  rw [dec_f c2, cond_false]
  obtain ⟨f1, f2⟩ := few_of hf
  have g := fun s => List.length_filter_le (inSpan s) l
  have g1 := g ⟨c.c0, c.c1⟩
  have g2 := g ⟨c.c1, c.c2⟩
  have g3 := g ⟨c.c0, c.c2⟩
  obtain ⟨s1, s2⟩ := span_split (c0 := c.c0) (c1 := c.c1) (c2 := c.c2) (by omega) (by omega) l
  rw [sample_Within_eq (by omega), Option.bind_some, sample_Within_eq (by omega), Option.bind_some, sample_Within_eq (by omega), Option.bind_some, sample_Total_eq (by omega), sample_Total_eq (by omega), sample_Total_eq (by omega)]
  simp only [Option.bind_some]
  have r1 := wsum_range (fun _ => true) (l.filter (inSpan ⟨c.c0, c.c1⟩))
  have r2 := wsum_range (fun _ => true) (l.filter (inSpan ⟨c.c1, c.c2⟩))
  rw [w64 (x := ((l.filter (inSpan ⟨c.c0, c.c1⟩)).length : Int) + ((l.filter (inSpan ⟨c.c1, c.c2⟩)).length : Int)) (by omega) (by omega), beq_t (by omega), cond_true]
  have e : imin 1000000000000000 (w_i64 (imin (wsum (fun _ => true) (l.filter (inSpan ⟨c.c0, c.c1⟩))) 1000000000000000 + imin (wsum (fun _ => true) (l.filter (inSpan ⟨c.c1, c.c2⟩))) 1000000000000000)) = imin (wsum (fun _ => true) (l.filter (inSpan ⟨c.c0, c.c2⟩))) 1000000000000000 := by
    rw [w64 (by unfold imin; repeat' split <;> omega) (by unfold imin; repeat' split <;> omega)]
    unfold imin; repeat' split <;> omega
  rw [e, BEq.rfl]; rfl
end Go.Ab
