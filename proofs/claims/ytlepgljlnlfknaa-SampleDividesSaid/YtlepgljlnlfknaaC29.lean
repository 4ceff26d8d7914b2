/- Samples: what the printed functions compute. -/
import Derived.Test.YtlepgljlnlfknaaA32
import Derived.Test.YtlepgljlnlfknaaP29xD
import Derived.Test.YtlepgljlnlfknaaR29
import Derived.KernelRfl
namespace Go.Ab
open Go
set_option linter.unusedVariables false

theorem awake_true : L29_awake 2000 = some true := by kernel_rfl

/- Names and stacks. -/
theorem letters_all : ((List.range 256).all fun c => intern_letter (c : Nat) == R06_letter 2000 (c : Nat) && (intern_letter (c : Nat)).isSome) = true := by kernel_rfl
def isLetter (c : Int) : Bool := (intern_letter c).getD false
theorem letter_eq {c : Int} (h : okU8 c) : intern_letter c = some (isLetter c) ∧ R06_letter 2000 c = some (isLetter c) := by
  unfold okU8 at h
  obtain ⟨n, rfl⟩ := Int.eq_ofNat_of_zero_le h.1
  have := List.all_eq_true.1 letters_all n (List.mem_range.2 (by omega))
  simp only [Bool.and_eq_true, beq_iff_eq, Option.isSome_iff_exists] at this
  obtain ⟨h1, b, h2⟩ := this
  unfold isLetter
  rw [← h1, h2]; simp
def badLetter (_ : Nat) (c : Int) : Option Int := bif isLetter c then none else some 3
theorem intern_Name_loop {s : List Int} (hs : okStr s) (hl : s.length < 1000) : intern_Name_L1 2000 s 2000 0 = some (firstBad badLetter 0 s) := by
  refine loopL0 (σ := Unit) (fun n i _ => intern_Name_L1 2000 s n i) (fun i l _ => firstBad badLetter i l) (fun _ _ => True) ?_ ?_ (n := 2000) (s := ()) trivial (by omega)
  · intro n i _ hi _
    show intern_Name_L1_body 2000 s _ _ = _
    unfold intern_Name_L1_body
    rw [dec_f (by omega), cond_false]; rfl
  · intro n i _ x r hd hlt _ ih
    show intern_Name_L1_body 2000 s _ _ = _
    unfold intern_Name_L1_body
    rw [dec_t (by omega), cond_true, idxL_drop hd, Option.bind_some, (letter_eq (hs.1 x (mem_drop hd))).1, Option.bind_some, step64 (by omega), ih () trivial]
    simp only [firstBad, badLetter]
    cases isLetter x <;> rfl
theorem R06_Name_loop {s : List Int} (hs : okStr s) (hl : s.length < 1000) : R06_Name_L1 2000 s 2000 0 = some (firstBad badLetter 0 s) := by
  refine loopL0 (σ := Unit) (fun n i _ => R06_Name_L1 2000 s n i) (fun i l _ => firstBad badLetter i l) (fun _ _ => True) ?_ ?_ (n := 2000) (s := ()) trivial (by omega)
  · intro n i _ hi _
    show R06_Name_L1_body 2000 s _ _ = _
    unfold R06_Name_L1_body
    rw [dec_f (by omega), cond_false]; rfl
  · intro n i _ x r hd hlt _ ih
    show R06_Name_L1_body 2000 s _ _ = _
    unfold R06_Name_L1_body
    rw [dec_t (by omega), cond_true, idxL_drop hd, Option.bind_some, (letter_eq (hs.1 x (mem_drop hd))).2, Option.bind_some, step64 (by omega), ih () trivial]
    simp only [firstBad, badLetter]
    cases isLetter x <;> rfl
/-- The error of a name. -/
def nameErr (s : List Int) : Int := if s.length < 1 ∨ 40 < s.length then 3 else match firstBad badLetter 0 s with | .inl _ => 0 | .inr q => q
theorem badLetter_3 {i : Nat} {l : List Int} {q : Int} (h : firstBad badLetter i l = .inr q) : q = 3 := by
  induction l generalizing i with
  | nil => cases h
  | cons c r ih =>
    simp only [firstBad, badLetter] at h
    cases hc : isLetter c <;> rw [hc] at h
    · simp at h; exact h.symm
    · exact ih h
theorem nameErr_03 (s : List Int) : nameErr s = 0 ∨ nameErr s = 3 := by
  unfold nameErr
  split
  · exact .inr rfl
  · split
    · exact .inl rfl
    · rename_i q hq; exact .inr (badLetter_3 hq)
theorem intern_Name_eq {s : List Int} (hs : okStr s) : intern_Name 2000 s = some (nameErr s) := by
  unfold intern_Name nameErr
  by_cases h : s.length < 1 ∨ 40 < s.length
  · rw [if_pos h]
    have : ((s == ([] : List Int)) || decide ((s.length : Int) > 40)) = true := by
      rw [Bool.or_eq_true]
      rcases h with h | h
      · left
        have : s = [] := List.length_eq_zero_iff.1 (by omega)
        rw [this]; rfl
      · right; exact dec_t (by omega)
    rw [this, cond_true]
  · rw [if_neg h]
    have : ((s == ([] : List Int)) || decide ((s.length : Int) > 40)) = false := by
      rw [Bool.or_eq_false_iff]
      refine ⟨?_, dec_f (by omega)⟩
      cases s with
      | nil => simp at h
      | cons a r => rfl
    rw [this, cond_false, intern_Name_loop hs (by omega), Option.bind_some]
    cases firstBad badLetter 0 s <;> rfl
theorem R06_Name_eq {s : List Int} (hs : okStr s) : R06_Name 2000 s = some (nameErr s) := by
  unfold R06_Name nameErr
  by_cases h : s.length < 1 ∨ 40 < s.length
  · rw [if_pos h]
    have : (decide ((s.length : Int) < 1) || decide ((s.length : Int) > 40)) = true := by
      rw [Bool.or_eq_true, decide_eq_true_eq, decide_eq_true_eq]; omega
    rw [this, cond_true]
  · rw [if_neg h]
    have : (decide ((s.length : Int) < 1) || decide ((s.length : Int) > 40)) = false := by
      rw [dec_f (by omega), dec_f (by omega)]; rfl
    rw [this, cond_false, R06_Name_loop hs (by omega), Option.bind_some]
    cases firstBad badLetter 0 s <;> rfl
def badName (_ : Nat) (s : List Int) : Option Int := if nameErr s ≠ 0 then some 3 else none
/-- The error of a stack. -/
def framesErr (l : List (List Int)) : Int := if 32 < l.length then 7 else match firstBad badName 0 l with | .inl _ => 0 | .inr q => q
theorem intern_Frames_eq {l : List (List Int)} (hs : ∀ s ∈ l, okStr s) (hl : l.length ≤ 9000000000000000000) : intern_Frames 2000 l = some (framesErr l) := by
  unfold intern_Frames framesErr
  by_cases h : 32 < l.length
  · rw [if_pos h, dec_t (by omega), cond_true]
  · rw [if_neg h, dec_f (by omega), cond_false]
    have := loopL0 (l := l) (σ := Unit) (fun n i _ => intern_Frames_L1 2000 l n i) (fun i l _ => firstBad badName i l) (fun _ _ => True) ?_ ?_ (n := 2000) (s := ()) trivial (by omega)
    · rw [this, Option.bind_some]; cases firstBad badName 0 l <;> rfl
    · intro n i _ hi _
      show intern_Frames_L1_body 2000 l _ _ = _
      unfold intern_Frames_L1_body
      rw [dec_f (by omega), cond_false]; rfl
    · intro n i _ x r hd hlt _ ih
      show intern_Frames_L1_body 2000 l _ _ = _
      unfold intern_Frames_L1_body
      rw [dec_t (by omega), cond_true, idxL_drop hd, Option.bind_some, intern_Name_eq (hs x (mem_drop hd)), Option.bind_some, step64 (by omega), ih () trivial]
      simp only [firstBad, badName]
      rcases nameErr_03 x with e | e <;> rw [e] <;> rfl
theorem R06_Frames_eq {l : List (List Int)} (hs : ∀ s ∈ l, okStr s) (hl : l.length ≤ 9000000000000000000) : R06_Frames 2000 l = some (framesErr l) := by
  unfold R06_Frames framesErr
  by_cases h : 32 < l.length
  · rw [if_pos h, dec_t (by omega), cond_true]
  · rw [if_neg h, dec_f (by omega), cond_false]
    have := loopL0 (l := l) (σ := Unit) (fun n i _ => R06_Frames_L1 2000 l n i) (fun i l _ => firstBad badName i l) (fun _ _ => True) ?_ ?_ (n := 2000) (s := ()) trivial (by omega)
    · rw [this, Option.bind_some]; cases firstBad badName 0 l <;> rfl
    · intro n i _ hi _
      show R06_Frames_L1_body 2000 l _ _ = _
      unfold R06_Frames_L1_body
      rw [dec_f (by omega), cond_false]; rfl
    · intro n i _ x r hd hlt _ ih
      show R06_Frames_L1_body 2000 l _ _ = _
      unfold R06_Frames_L1_body
      rw [dec_t (by omega), cond_true, idxL_drop hd, Option.bind_some, R06_Name_eq (hs x (mem_drop hd)), Option.bind_some, step64 (by omega), ih () trivial]
      simp only [firstBad, badName]
      rcases nameErr_03 x with e | e <;> rw [e] <;> rfl

/- Small events. -/
def longText (_ : Nat) (s : List Int) : Option Bool := if 200 < s.length then some false else none
def smallEv (e : T_api_Event) : Bool := if 200 < e.Name.length ∨ 60 < e.Stack.length then false else match firstBad longText 0 e.Stack with | .inl _ => true | .inr q => q
theorem R07_Small_eq {e : T_api_Event} (h1 : e.Name.length ≤ 9223372036854775807) (h2 : e.Stack.length ≤ 9223372036854775807) (h3 : ∀ s ∈ e.Stack, s.length ≤ 9223372036854775807) : R07_Small 2000 e = some (smallEv e) := by
  unfold R07_Small smallEv
  by_cases h : 200 < e.Name.length ∨ 60 < e.Stack.length
  · rw [if_pos h]
    have : (decide ((e.Name.length : Int) > 200) || decide ((e.Stack.length : Int) > 60)) = true := by
      rw [Bool.or_eq_true, decide_eq_true_eq, decide_eq_true_eq]; omega
    rw [this, cond_true]
  · rw [if_neg h]
    have : (decide ((e.Name.length : Int) > 200) || decide ((e.Stack.length : Int) > 60)) = false := by
      rw [dec_f (by omega), dec_f (by omega)]; rfl
    rw [this, cond_false]
    have := loopL0 (l := e.Stack) (σ := Unit) (fun n i _ => R07_Small_L1 2000 e n i) (fun i l _ => firstBad longText i l) (fun _ _ => True) ?_ ?_ (n := 2000) (s := ()) trivial (by omega)
    · rw [this, Option.bind_some]; cases firstBad longText 0 e.Stack <;> rfl
    · intro n i _ hi _
      show R07_Small_L1_body 2000 e _ _ = _
      unfold R07_Small_L1_body
      rw [dec_f (by omega), cond_false]; rfl
    · intro n i _ x r hd hlt _ ih
      show R07_Small_L1_body 2000 e _ _ = _
      unfold R07_Small_L1_body
      rw [dec_t (by omega), cond_true, idxL_drop hd, Option.bind_some, step64 (by omega), ih () trivial]
      simp only [firstBad, longText]
      by_cases hx : 200 < x.length
      · rw [dec_t (by omega), cond_true, if_pos hx]
      · rw [dec_f (by omega), cond_false, if_neg hx]
theorem small_stack {e : T_api_Event} (h : smallEv e = true) : e.Stack.length ≤ 60 := by
  unfold smallEv at h
  by_cases h1 : 200 < e.Name.length ∨ 60 < e.Stack.length
  · rw [if_pos h1] at h; cases h
  · omega

/- Texts and samples compared with themselves. -/
theorem R07_Texts_self {l : List (List Int)} (hl : l.length < 1000) : R07_Texts 2000 l l = some true := by
  unfold R07_Texts
  rw [bne_f rfl, cond_false]
  have := loopL0 (l := l) (σ := Unit) (fun n i _ => R07_Texts_L1 2000 l l n i) (fun _ _ _ => .inl ()) (fun _ _ => True) ?_ ?_ (n := 2000) (s := ()) trivial (by omega)
  · rw [this]; rfl
  · intro n i _ hi _
    show R07_Texts_L1_body 2000 l l _ _ = _
    unfold R07_Texts_L1_body
    rw [dec_f (by omega), cond_false]
  · intro n i _ x r hd hlt _ ih
    show R07_Texts_L1_body 2000 l l _ _ = _
    unfold R07_Texts_L1_body
    rw [dec_t (by omega), cond_true, idxL_drop hd, Option.bind_some, Option.bind_some, step64 (by omega), ih () trivial, BEq.rfl]; rfl
theorem R29_Same_self {l : List T_api_Sample} (hl : l.length < 1000) (hs : ∀ x ∈ l, x.Stack.length < 1000) : R29_Same 2000 l l = some true := by
  unfold R29_Same
  rw [bne_f rfl, cond_false]
  have := loopL0 (l := l) (σ := Unit) (fun n i _ => R29_Same_L1 2000 l l n i) (fun _ _ _ => .inl ()) (fun _ _ => True) ?_ ?_ (n := 2000) (s := ()) trivial (by omega)
  · rw [this]; rfl
  · intro n i _ hi _
    show R29_Same_L1_body 2000 l l _ _ = _
    unfold R29_Same_L1_body
    rw [dec_f (by omega), cond_false]
  · intro n i _ x r hd hlt _ ih
    show R29_Same_L1_body 2000 l l _ _ = _
    unfold R29_Same_L1_body
    rw [dec_t (by omega), cond_true, idxL_drop hd]
    simp only [Option.bind_some, bne_self_eq_false, cond_false]
    rw [R07_Texts_self (hs x (mem_drop hd)), step64 (by omega), ih () trivial]; rfl

/- The samples of events. -/
def clampT (t : Int) : Int := imin (imax t 0) 1000000000000
theorem clampT_eq (t : Int) : imax 0 (imin t 1000000000000) = clampT t := by
  unfold clampT imin imax; split <;> split <;> (try split) <;> omega
theorem clampT_range (t : Int) : 0 ≤ clampT t ∧ clampT t ≤ 1000000000000 := by
  unfold clampT imin imax; split <;> split <;> omega
theorem clampT_mono {a b : Int} (h : a ≤ b) : clampT a ≤ clampT b := by
  unfold clampT imin imax; repeat' split <;> omega
def toSample (x : T_api_Timed) : T_api_Sample := ⟨x.Id.Thread, clampT x.When.Lo, x.Event.N, x.Event.Stack⟩
def samplesOf : List T_api_Timed → List T_api_Sample
  | [] => []
  | x :: r => if x.Event.Kind = 5 then toSample x :: samplesOf r else samplesOf r
theorem sample_Of_eq {o : List T_api_Timed} (hl : o.length ≤ 60) (hs : ∀ x ∈ o, x.Event.Stack.length ≤ 60) : sample_Of 2000 o = some (samplesOf o) := by
  unfold sample_Of
  have := loopL0 (l := o) (fun n i row => sample_Of_L1 2000 o n i row) (fun _ l row => row ++ samplesOf l) (fun i row => row.length ≤ i) ?_ ?_ (n := 2000) (s := []) (by simp) (by omega)
  · rw [this]; rfl
  · intro n i row hi _
    show sample_Of_L1_body 2000 o _ _ _ = _
    unfold sample_Of_L1_body
    rw [dec_f (by omega), cond_false]; simp [samplesOf]
  · intro n i row x r hd hlt hI ih
    show sample_Of_L1_body 2000 o _ _ _ = _
    unfold sample_Of_L1_body
    have hx := hs x (mem_drop hd)
    rw [dec_t (by omega), cond_true, idxL_drop hd, Option.bind_some, step64 (by omega)]
    simp only [samplesOf]
    by_cases hk : x.Event.Kind = 5
    · rw [beq_t hk, cond_true, if_pos hk, need_t (by simp only [List.length_nil]; omega), Option.bind_some, need_t (by simp only [List.length_cons, List.length_nil]; omega), Option.bind_some, List.nil_append, ih _ (by simp; omega)]
      simp [toSample, clampT]
    · rw [beq_f hk, cond_false, if_neg hk, ih _ (by omega)]
theorem R29_Of_eq {o : List T_api_Timed} (hl : o.length ≤ 60) : R29_Of 2000 o = some (samplesOf o) := by
  unfold R29_Of
  have := loopL0 (l := o) (fun n i row => R29_Of_L1 2000 o n i row) (fun _ l row => row ++ samplesOf l) (fun i row => row.length ≤ i) ?_ ?_ (n := 2000) (s := []) (by simp) (by omega)
  · rw [this]; rfl
  · intro n i row hi _
    show R29_Of_L1_body 2000 o _ _ _ = _
    unfold R29_Of_L1_body
    rw [dec_f (by omega), cond_false]; simp [samplesOf]
  · intro n i row x r hd hlt hI ih
    show R29_Of_L1_body 2000 o _ _ _ = _
    unfold R29_Of_L1_body R29_Time
    rw [dec_t (by omega), cond_true, idxL_drop hd, step64 (by omega)]
    simp only [samplesOf, Option.bind_some, clampT_eq]
    by_cases hk : x.Event.Kind = 5
    · rw [beq_t hk, cond_true, if_pos hk, need_t (by simp only [List.length_cons, List.length_nil]; omega), Option.bind_some, Option.bind_some, ih _ (by simp; omega)]
      simp [toSample]
    · rw [beq_f hk, cond_false, if_neg hk, Option.bind_some, ih _ (by omega)]
theorem samplesOf_len (o : List T_api_Timed) : (samplesOf o).length ≤ o.length := by
  induction o with
  | nil => simp [samplesOf]
  | cons x r ih => simp only [samplesOf]; split <;> simp <;> omega
theorem samplesOf_mem {o : List T_api_Timed} {s : T_api_Sample} (h : s ∈ samplesOf o) : ∃ x ∈ o, s = toSample x ∧ x.Event.Kind = 5 := by
  induction o with
  | nil => simp [samplesOf] at h
  | cons x r ih =>
    simp only [samplesOf] at h
    split at h
    · rename_i hk
      rcases List.mem_cons.1 h with rfl | h
      · exact ⟨x, by simp, rfl, hk⟩
      · obtain ⟨y, hy, e⟩ := ih h; exact ⟨y, by simp [hy], e⟩
    · obtain ⟨y, hy, e⟩ := ih h; exact ⟨y, by simp [hy], e⟩

def okEv (e : T_api_Event) : Prop := e.Name.length ≤ 9223372036854775807 ∧ e.Stack.length ≤ 9223372036854775807 ∧ ∀ s ∈ e.Stack, okStr s
theorem okEv_of {e : T_api_Event} (h : ok_T_api_Event e) : okEv e := by
  unfold ok_T_api_Event at h
  exact ⟨h.2.2.1.2, h.2.2.2.2.2.2, h.2.2.2.2.2.1⟩
theorem small_eq {e : T_api_Event} (h : okEv e) : R07_Small 2000 e = some (smallEv e) := R07_Small_eq h.1 h.2.1 fun s hs => (h.2.2 s hs).2

def notSmall (_ : Nat) (x : T_api_Timed) : Option Bool := if smallEv x.Event then none else some true
theorem L29_SampleOf_plain : ∀ (a0 : List T_api_Timed), (okSl ok_T_api_Timed) a0 → ∃ F, L29_SampleOf F a0 = some true := by
  intro o h
  refine ⟨2000, ?_⟩
  unfold L29_SampleOf
  rw [awake_true]
  simp only [Option.bind_some, Bool.not_true, cond_false]
  by_cases hl : (o.length : Int) > 60
  · rw [dec_t hl, cond_true]
  rw [dec_f hl, cond_false]
  have hev : ∀ x ∈ o, okEv x.Event := fun x hx => okEv_of (h.1 x hx).2.1
  have := loopL0 (l := o) (σ := Unit) (fun n i _ => L29_SampleOf_L1 2000 o n i) (fun i l _ => firstBad notSmall i l) (fun _ _ => True) ?_ ?_ (n := 2000) (s := ()) trivial (by omega)
  · rw [this, Option.bind_some]
    rcases hf : firstBad notSmall 0 o with u | q
    · have hsm : ∀ x ∈ o, x.Event.Stack.length ≤ 60 := by
        intro x hx
        obtain ⟨j, hj⟩ := List.mem_iff_getElem?.1 hx
        have := firstBad_none hf j x hj
        unfold notSmall at this
        split at this
        · rename_i hs; exact small_stack hs
        · cases this
      simp only
      rw [sample_Of_eq (by omega) hsm, Option.bind_some, R29_Of_eq (by omega), Option.bind_some, R29_Same_self (by have := samplesOf_len o; omega) (fun s hs => by
        obtain ⟨x, hx, rfl, _⟩ := samplesOf_mem hs
        have := hsm x hx
        simp only [toSample]; omega)]; rfl
    · simp only
      have : q = true := by
        clear this
        revert hf
        generalize 0 = i
        intro hf
        clear hl hev h
        induction o generalizing i with
        | nil => cases hf
        | cons x r ih =>
          simp only [firstBad, notSmall] at hf
          split at hf
          · exact ih _ hf
          · rename_i b hb
            split at hb
            · cases hb
            · injection hb with hb; injection hf with hf; rw [← hf, ← hb]
      rw [this]
  · intro n i _ hi _
    show L29_SampleOf_L1_body 2000 o _ _ = _
    unfold L29_SampleOf_L1_body
    rw [dec_f (by omega), cond_false]; rfl
  · intro n i _ x r hd hlt _ ih
    show L29_SampleOf_L1_body 2000 o _ _ = _
    unfold L29_SampleOf_L1_body
    rw [dec_t (by omega), cond_true, idxL_drop hd, Option.bind_some, small_eq (hev x (mem_drop hd)), Option.bind_some, step64 (by omega), ih () trivial]
    simp only [firstBad, notSmall]
    cases smallEv x.Event <;> rfl
end Go.Ab
