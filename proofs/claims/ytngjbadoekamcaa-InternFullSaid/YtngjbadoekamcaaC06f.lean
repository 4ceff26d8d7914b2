/- InternBack and InternAgain. -/
import Derived.Test.YtngjbadoekamcaaC06e
namespace Go.Ab
open Go
set_option linter.unusedVariables false

theorem pre_get {α : Type} {l m : List α} (h : l <+: m) {i : Nat} {x : α} (hx : l[i]? = some x) : m[i]? = some x := by
  obtain ⟨t, rfl⟩ := h
  rw [List.getElem?_append_left (List.getElem?_eq_some_iff.1 hx).1]; exact hx
theorem putS06_good {n : List (List Int)} {s : List Arr2_Int} {x : List Int} (h : Good n s) (hx : nameS x = 0) :
    ((putS06 n x).2.2 = 6 ∧ x ∉ n ∧ n.length = 1000) ∨ ((putS06 n x).2.2 = 0 ∧ (∃ a : Nat, (putS06 n x).1 = a ∧ (putS06 n x).2.1[a]? = some x) ∧ Good (putS06 n x).2.1 s ∧ n <+: (putS06 n x).2.1 ∧ (x ∈ n → (putS06 n x).2.1 = n)) := by
  unfold putS06
  have hn1 := h.n1
  rw [if_neg (by omega)]
  rcases findI_spec x n 0 with ⟨h1, h2⟩ | ⟨j, h1, h2⟩
  · rw [if_neg (by omega)]
    by_cases h3 : 1000 ≤ n.length
    · rw [if_pos h3]; exact .inl ⟨rfl, h2, by omega⟩
    · rw [if_neg h3]
      exact .inr ⟨rfl, ⟨n.length, rfl, by simp⟩, h.name hx h2 (by omega), List.prefix_append _ _, fun hm => absurd hm h2⟩
  · rw [if_pos (by omega)]
    exact .inr ⟨rfl, ⟨j, by rw [h2]; simp, h1⟩, h, List.prefix_refl _, fun _ => rfl⟩
def Has (n : List (List Int)) (s : List Arr2_Int) : Int → List (List Int) → Int → Prop
  | at_, [], i => i = at_
  | at_, x :: r, i => ∃ a b : Nat, n[a]? = some x ∧ s[b]? = some ⟨at_, (a : Int)⟩ ∧ Has n s (b : Int) r i
theorem Has.mono {n n' : List (List Int)} {s s' : List Arr2_Int} (hn : n <+: n') (hs : s <+: s') : ∀ {l : List (List Int)} {at_ i : Int}, Has n s at_ l i → Has n' s' at_ l i := by
  intro l
  induction l with
  | nil => intro at_ i h; exact h
  | cons x r ih =>
    rintro at_ i ⟨a, b, h1, h2, h3⟩
    exact ⟨a, b, pre_get hn h1, pre_get hs h2, ih h3⟩
theorem dOf_snoc {s : List Arr2_Int} {p : Arr2_Int} {c : Int} (h0 : -1 ≤ c) (h : c < s.length) : dOf (dsF (s ++ [p])) c = dOf (dsF s) c := by
  rw [dsF_snoc]; exact dOf_app (by rw [dsF_len]; exact h) h0
theorem dOf_last {s : List Arr2_Int} {p : Arr2_Int} : dOf (dsF (s ++ [p])) (s.length : Int) = 1 + dOf (dsF s) p.c0 := by
  rw [dsF_snoc]
  unfold dOf
  rw [if_neg (by omega), Int.toNat_natCast, List.getElem?_append_right (by rw [dsF_len]; exact Nat.le_refl _), dsF_len]
  simp
theorem putL_good {n0 : List (List Int)} {s0 : List Arr2_Int} : ∀ (l : List (List Int)) (at_ : Int) (n : List (List Int)) (s : List Arr2_Int), Good n s → (∀ x ∈ l, nameS x = 0) → -1 ≤ at_ → at_ < s.length → dOf (dsF s) at_ + l.length ≤ 32 →
    ((putL n0 s0 l at_ n s).2.2.2 ≠ 0 ∧ putL n0 s0 l at_ n s = (0, n0, s0, (putL n0 s0 l at_ n s).2.2.2)) ∨
    ((putL n0 s0 l at_ n s).2.2.2 = 0 ∧ Good (putL n0 s0 l at_ n s).2.1 (putL n0 s0 l at_ n s).2.2.1 ∧ n <+: (putL n0 s0 l at_ n s).2.1 ∧ s <+: (putL n0 s0 l at_ n s).2.2.1 ∧
      Has (putL n0 s0 l at_ n s).2.1 (putL n0 s0 l at_ n s).2.2.1 at_ l (putL n0 s0 l at_ n s).1 ∧ -1 ≤ (putL n0 s0 l at_ n s).1 ∧ (putL n0 s0 l at_ n s).1 < (putL n0 s0 l at_ n s).2.2.1.length) := by
  intro l
  induction l with
  | nil => intro at_ n s h hv h0 h1 h2; exact .inr ⟨rfl, h, List.prefix_refl _, List.prefix_refl _, rfl, h0, h1⟩
  | cons x r ih =>
    intro at_ n s h hv h0 h1 h2
    simp only [List.length_cons] at h2
    have hd0 := h.depth0 h0 h1
    simp only [putL]
    rcases putS06_good h (hv x (by simp)) with ⟨k1, _, _⟩ | ⟨k1, ⟨a, k2, k3⟩, k4, k5, _⟩
    · rw [k1, if_pos (by decide)]; exact .inl ⟨(by decide : (6 : Int) ≠ 0), rfl⟩
    rw [k1, if_neg (by decide), k2]
    have hal : (a : Int) < (putS06 n x).2.1.length := by have := (List.getElem?_eq_some_iff.1 k3).1; omega
    rcases findI_spec (⟨at_, (a : Int)⟩ : Arr2_Int) s 0 with ⟨g1, g2⟩ | ⟨j, g1, g2⟩
    · rw [g1, if_neg (by decide)]
      by_cases hf : 1000 ≤ s.length
      · rw [if_pos hf]; exact .inl ⟨(by decide : (6 : Int) ≠ 0), rfl⟩
      rw [if_neg hf]
      have hg2 : Good (putS06 n x).2.1 (s ++ [⟨at_, (a : Int)⟩]) := k4.push ⟨h0, h1, Int.natCast_nonneg _, hal, g2, by simp only; omega⟩ (by omega)
      have hl := dOf_last (s := s) (p := ⟨at_, (a : Int)⟩)
      rcases ih (s.length : Int) _ _ hg2 (fun y hy => hv y (by simp [hy])) (by omega) (by simp; omega) (by rw [hl]; simp only; omega) with h3 | ⟨h3, h4, h5, h6, h7, h8⟩
      · exact .inl h3
      · exact .inr ⟨h3, h4, k5.trans h5, (List.prefix_append _ _).trans h6, ⟨a, s.length, pre_get h5 k3, pre_get h6 (by simp), h7⟩, h8⟩
    · rw [g2, Nat.zero_add, if_pos (by omega)]
      have hp := h.pair g1
      have hjl := (List.getElem?_eq_some_iff.1 g1).1
      simp only at hp
      rcases ih (j : Int) _ _ k4 (fun y hy => hv y (by simp [hy])) (by omega) (by omega) (by omega) with h3 | ⟨h3, h4, h5, h6, h7, h8⟩
      · exact .inl h3
      · exact .inr ⟨h3, h4, k5.trans h5, h6, ⟨a, j, pre_get h5 k3, pre_get h6 g1, h7⟩, h8⟩
theorem findI_of {α : Type} [DecidableEq α] {l : List α} {x : α} (hu : ∀ i j : Nat, l[i]? = some x → l[j]? = some x → i = j) {a : Nat} (h : l[a]? = some x) : findI x 0 l = (a : Int) := by
  rcases findI_spec x l 0 with ⟨_, h2⟩ | ⟨j, h1, h2⟩
  · exact absurd (List.mem_of_getElem? h) h2
  · rw [h2, Nat.zero_add, hu _ _ h1 h]
theorem nodup_get {α : Type} {l : List α} (h : l.Nodup) {x : α} : ∀ i j : Nat, l[i]? = some x → l[j]? = some x → i = j := by
  intro i j hi hj
  obtain ⟨h1, h2⟩ := List.getElem?_eq_some_iff.1 hi
  obtain ⟨h3, h4⟩ := List.getElem?_eq_some_iff.1 hj
  exact (List.getElem_inj h).1 (h2.trans h4.symm)
theorem putL_has {n0 : List (List Int)} {s0 : List Arr2_Int} {n : List (List Int)} {s : List Arr2_Int} (h : Good n s) : ∀ (l : List (List Int)) (at_ i : Int), Has n s at_ l i → putL n0 s0 l at_ n s = (i, n, s, 0) := by
  intro l
  induction l with
  | nil => intro at_ i hi; simp only [Has] at hi; simp only [putL, hi]
  | cons x r ih =>
    rintro at_ i ⟨a, b, h1, h2, h3⟩
    have e : putS06 n x = ((a : Int), n, 0) := by
      have hv := h.valid (List.mem_of_getElem? h1)
      unfold putS06
      rw [if_neg (by omega), findI_of (nodup_get h.nodup) h1, if_pos (by omega)]
    simp only [putL]
    rw [e]
    simp only
    rw [if_neg (by decide), findI_of (fun i j hi hj => h.snodup hi hj) h2, if_pos (by omega)]
    exact ih _ _ h3
theorem Has.fn {n : List (List Int)} {s : List Arr2_Int} (h : Good n s) : ∀ {l : List (List Int)} {at_ i j : Int}, Has n s at_ l i → Has n s at_ l j → i = j := by
  intro l at_ i j h1 h2
  have e1 := putL_has (n0 := []) (s0 := []) h l at_ i h1
  have e2 := putL_has (n0 := []) (s0 := []) h l at_ j h2
  rw [e1] at e2
  exact (Prod.mk.inj e2).1
theorem Has.path {n : List (List Int)} {s : List Arr2_Int} : ∀ {l : List (List Int)} {at_ i : Int} {k : Nat}, Has n s at_ l i → pathN n s (k + l.length) i = l.reverse ++ pathN n s k at_ := by
  intro l
  induction l with
  | nil => intro at_ i k h; simp only [Has] at h; simp [h]
  | cons x r ih =>
    rintro at_ i k ⟨a, b, h1, h2, h3⟩
    have := ih (k := k + 1) h3
    rw [show k + (x :: r).length = k + 1 + r.length by simp only [List.length_cons]; omega, this]
    simp only [pathN]
    rw [if_neg (by omega), Int.toNat_natCast, h2]
    simp [h1]
theorem pathN_none (n : List (List Int)) (s : List Arr2_Int) (k : Nat) : pathN n s k (-1) = [] := by
  cases k <;> simp [pathN]
theorem Has.list {n : List (List Int)} {s : List Arr2_Int} {l : List (List Int)} {i : Int} (h : Has n s (-1) l i) (hl : l.length ≤ 32) : (pathN n s 32 i).reverse = l := by
  have := Has.path (k := 32 - l.length) h
  rw [Nat.sub_add_cancel hl, pathN_none, List.append_nil] at this
  rw [this, List.reverse_reverse]
theorem Has.names {n : List (List Int)} {s : List Arr2_Int} : ∀ {l : List (List Int)} {at_ i : Int}, Has n s at_ l i → ∀ x ∈ l, x ∈ n := by
  intro l
  induction l with
  | nil => intro at_ i _ x hx; cases hx
  | cons y r ih =>
    rintro at_ i ⟨a, b, h1, h2, h3⟩ x hx
    rcases List.mem_cons.1 hx with rfl | hx
    · exact List.mem_of_getElem? h1
    · exact ih h3 x hx
theorem framesS_zero {l : List (List Int)} : framesS l = 0 ↔ l.length ≤ 32 ∧ ∀ x ∈ l, nameS x = 0 := by
  unfold framesS
  by_cases h : 32 < l.length
  · rw [if_pos h]; constructor
    · intro h; cases h
    · omega
  rw [if_neg h]
  by_cases h2 : l.all (fun s => decide (nameS s = 0)) = true
  · rw [if_pos h2]; simp at h2; exact ⟨fun _ => ⟨by omega, h2⟩, fun _ => rfl⟩
  · rw [if_neg h2]; simp only [List.all_eq_true, decide_eq_true_eq] at h2
    constructor
    · intro h; cases h
    · intro h3; exact absurd h3.2 h2
/-- What putting a stack into good tables gives. -/
theorem putStackS_good {n : List (List Int)} {s : List Arr2_Int} {l : List (List Int)} (h : Good n s) :
    ((putStackS n s l).2.2.2 ≠ 0 ∧ putStackS n s l = (0, n, s, (putStackS n s l).2.2.2)) ∨
    ((putStackS n s l).2.2.2 = 0 ∧ l.length ≤ 32 ∧ (∀ x ∈ l, nameS x = 0) ∧ Good (putStackS n s l).2.1 (putStackS n s l).2.2.1 ∧ n <+: (putStackS n s l).2.1 ∧ s <+: (putStackS n s l).2.2.1 ∧
      Has (putStackS n s l).2.1 (putStackS n s l).2.2.1 (-1) l (putStackS n s l).1 ∧ -1 ≤ (putStackS n s l).1 ∧ (putStackS n s l).1 < (putStackS n s l).2.2.1.length) := by
  unfold putStackS
  by_cases hf : framesS l ≠ 0
  · rw [if_pos hf]; exact .inl ⟨hf, rfl⟩
  rw [if_neg hf]
  obtain ⟨hl, hv⟩ := framesS_zero.1 (show framesS l = 0 by omega)
  rcases putL_good (n0 := n) (s0 := s) l (-1) n s h hv (by omega) (by omega) (by simp [dOf]; omega) with h1 | ⟨h1, h2⟩
  · exact .inl h1
  · exact .inr ⟨h1, hl, hv, h2⟩
theorem pre_sub {α : Type} {l m : List α} (h : l <+: m) : sub m 0 (l.length : Int) = l := by
  rw [sub_take]; exact (List.prefix_iff_eq_take.1 h).symm
theorem guard06 {t : T_tracebooklaw06_Tables} {l : List (List Int)} : (((L06_small t).bind fun r_1 => bif !r_1 then ( some true) else ( bif decide ((((l).length : Nat) : Int) > (100 : Int)) then ( some true) else ((intern_Check 200000 t.Names t.Stacks).bind fun r_2 => some (r_2 != (0 : Int))))))
    = some true ∨ ((((L06_small t).bind fun r_1 => bif !r_1 then ( some true) else ( bif decide ((((l).length : Nat) : Int) > (100 : Int)) then ( some true) else ((intern_Check 200000 t.Names t.Stacks).bind fun r_2 => some (r_2 != (0 : Int)))))) = some false ∧
      t.Names.length ≤ 1100 ∧ t.Stacks.length ≤ 1100 ∧ l.length ≤ 100 ∧ Good t.Names t.Stacks) := by
  rw [small06, Option.bind_some]
  by_cases h : (t.Names.length : Int) ≤ 1100 ∧ (t.Stacks.length : Int) ≤ 1100
  case neg =>
    have : (decide ((t.Names.length : Int) ≤ 1100) && decide ((t.Stacks.length : Int) ≤ 1100)) = false := by simpa using h
    rw [this]; exact .inl rfl
  rw [dec_t h.1, dec_t h.2]
  simp only [Bool.and_self, Bool.not_true, cond_false]
  by_cases hl : (l.length : Int) > 100
  · rw [dec_t hl]; exact .inl rfl
  rw [dec_f hl, cond_false, intern_Check_eq, Option.bind_some]
  by_cases hc : checkS t.Names t.Stacks = 0
  · rw [bne_f hc]; exact .inr ⟨rfl, by omega, by omega, by omega, good_iff.1 hc⟩
  · rw [bne_t hc]; exact .inl rfl
theorem L06_InternBack_plain : ∀ (a0 : T_tracebooklaw06_Tables) (a1 : List (List Int)), ok_T_tracebooklaw06_Tables a0 → (okSl okStr) a1 → ∃ F, L06_InternBack F a0 a1 = some true := by
  intro t l _ _
  refine ⟨200000, ?_⟩
  unfold L06_InternBack
  rcases guard06 (t := t) (l := l) with h | ⟨h, h1, h2, h3, h4⟩
  · rw [h]; simp only [Option.bind_some, cond_true, awake06]
  rw [h]
  simp (disch := omega) only [Option.bind_some, cond_false, intern_PutStack_eq]
  have hlen := putStackS_len (names := t.Names) (stacks := t.Stacks) (l := l)
  rcases putStackS_good (l := l) h4 with ⟨k1, k2⟩ | ⟨k1, k2, k3, k4, k5, k6, k7, k8⟩
  · generalize (putStackS t.Names t.Stacks l).2.2.2 = e at k1 k2
    rw [k2]
    simp only
    have e1 := pre_sub (List.prefix_refl t.Names)
    have e2 := pre_sub (List.prefix_refl t.Stacks)
    simp (disch := omega) only [dec_f, cond_false, need_t, Option.bind_some, e1, e2, SameNames_self, SameStacks_self, Bool.not_true, intern_Check_eq, bne_f, good_iff.2 h4, bne_t, cond_true, BEq.rfl, awake06]
  · have g1 := List.IsPrefix.length_le k5
    have g2 := List.IsPrefix.length_le k6
    have e1 := pre_sub k5
    have e2 := pre_sub k6
    rw [k1]
    simp (disch := omega) only [dec_f, cond_false, need_t, Option.bind_some, e1, e2, SameNames_self, SameStacks_self, Bool.not_true, intern_Check_eq, bne_f, good_iff.2 k4]
    rw [intern_Stack_eq]
    unfold stackV
    rw [good_iff.2 k4, if_neg (by omega), if_neg (by omega), k7.list k2]
    simp (disch := omega) only [Option.bind_some, SameNames_self, BEq.rfl, cond_true, awake06]
theorem SameNames_eq {a b : List (List Int)} (ha : a.length ≤ 100000) : R06_SameNames 200000 a b = some (decide (a = b)) := by
  unfold R06_SameNames
  by_cases hl : (a.length : Int) ≠ b.length
  · rw [bne_t hl, cond_true, dec_f (fun e => hl (by rw [e]))]
  rw [bne_f (by omega), cond_false]
  have key : ∀ (n i : Nat), (a.drop i).length < n → a.length = b.length → ∃ o, R06_SameNames_L1 200000 a b n (i : Int) = some o ∧ (match o with | .inl _ => a.drop i = b.drop i | .inr q => q = false ∧ a.drop i ≠ b.drop i) := by
    intro n
    induction n with
    | zero => intro i h; omega
    | succ n ih =>
      intro i hn hab
      show ∃ o, R06_SameNames_L1_body 200000 a b _ _ = _ ∧ _
      unfold R06_SameNames_L1_body
      rcases hd : a.drop i with _ | ⟨x, r⟩
      · have := drop_nil hd
        rw [dec_f (by omega), cond_false]
        exact ⟨_, rfl, by simp only; rw [List.drop_eq_nil_of_le (by omega)]⟩
      rcases hd2 : b.drop i with _ | ⟨y, r2⟩
      · have := drop_nil hd2; have := drop_lt hd; omega
      have := drop_lt hd
      rw [hd] at hn
      simp only [List.length_cons] at hn
      simp (disch := omega) only [dec_t, cond_true, idxL_drop hd, idxL_drop hd2, Option.bind_some, step64]
      by_cases hxy : x = y
      · rw [beqA_t hxy]
        simp only [Bool.not_true, cond_false]
        obtain ⟨o, h1, h2⟩ := ih (i + 1) (by rw [drop_step hd]; omega) hab
        rw [drop_step hd, drop_step hd2] at h2
        refine ⟨o, h1, ?_⟩
        cases o with
        | inl u => simp only at h2 ⊢; rw [hxy, h2]
        | inr q => simp only at h2 ⊢; exact ⟨h2.1, by simp [hxy, h2.2]⟩
      · rw [beqA_f hxy]
        exact ⟨_, rfl, rfl, by simp [hxy]⟩
  obtain ⟨o, h1, h2⟩ := key 200000 0 (by simp; omega) (by omega)
  rw [show R06_SameNames_L1 200000 a b 200000 0 = some o from h1, Option.bind_some]
  simp only [List.drop_zero] at h2
  cases o with
  | inl u => simp only at h2 ⊢; rw [dec_t h2]
  | inr q => simp only at h2 ⊢; rw [dec_f h2.2, h2.1]
theorem L06_InternAgain_plain : ∀ (a0 : T_tracebooklaw06_Tables) (a1 : List (List Int)) (a2 : List (List Int)), ok_T_tracebooklaw06_Tables a0 → (okSl okStr) a1 → (okSl okStr) a2 → ∃ F, L06_InternAgain F a0 a1 a2 = some true := by
  intro t l m _ _ _
  refine ⟨200000, ?_⟩
  unfold L06_InternAgain
  have hg : (((L06_small t).bind fun r_1 => bif !r_1 then ( some true) else ( bif decide ((((l).length : Nat) : Int) > (100 : Int)) then ( some true) else ( bif decide ((((m).length : Nat) : Int) > (100 : Int)) then ( some true) else ((intern_Check 200000 t.Names t.Stacks).bind fun r_2 => some (r_2 != (0 : Int)))))))
    = some true ∨ ((((L06_small t).bind fun r_1 => bif !r_1 then ( some true) else ( bif decide ((((l).length : Nat) : Int) > (100 : Int)) then ( some true) else ( bif decide ((((m).length : Nat) : Int) > (100 : Int)) then ( some true) else ((intern_Check 200000 t.Names t.Stacks).bind fun r_2 => some (r_2 != (0 : Int)))))))
      = some false ∧ t.Names.length ≤ 1100 ∧ t.Stacks.length ≤ 1100 ∧ l.length ≤ 100 ∧ m.length ≤ 100 ∧ Good t.Names t.Stacks) := by
    by_cases hm : (m.length : Int) > 100
    · left
      rw [small06, Option.bind_some, dec_t hm]
      cases (decide ((t.Names.length : Int) ≤ 1100) && decide ((t.Stacks.length : Int) ≤ 1100)) <;> cases decide ((l.length : Int) > 100) <;> rfl
    · rw [dec_f hm]
      rcases guard06 (t := t) (l := l) with h | ⟨h, h1, h2, h3, h4⟩
      · exact .inl h
      · exact .inr ⟨h, h1, h2, h3, by omega, h4⟩
  rcases hg with h | ⟨h, h1, h2, h3, h3', h4⟩
  · rw [h]; simp only [Option.bind_some, cond_true, awake06]
  rw [h]
  simp (disch := omega) only [Option.bind_some, cond_false, intern_PutStack_eq]
  have hlen := putStackS_len (names := t.Names) (stacks := t.Stacks) (l := l)
  rcases putStackS_good (l := l) h4 with ⟨k1, k2⟩ | ⟨k1, k2, k3, k4, k5, k6, k7, k8⟩
  · rw [intern_PutStack_eq (by omega) (by omega), Option.bind_some, bne_t k1, Bool.true_or]
    simp only [cond_true, awake06, Option.bind_some]
  generalize putStackS t.Names t.Stacks l = q at *
  have hlen2 := putStackS_len (names := q.2.1) (stacks := q.2.2.1) (l := m)
  rw [intern_PutStack_eq (by omega) (by omega), Option.bind_some, bne_f k1, Bool.false_or]
  rcases putStackS_good (l := m) k4 with ⟨g1, g2⟩ | ⟨g1, g2, g3, g4, g5, g6, g7, g8⟩
  · rw [bne_t g1]
    simp only [cond_true, awake06, Option.bind_some]
  rw [bne_f g1, cond_false]
  generalize putStackS q.2.1 q.2.2.1 m = w at *
  have hh := k7.mono g5 g6
  have e : putStackS w.2.1 w.2.2.1 l = (q.1, w.2.1, w.2.2.1, 0) := by
    unfold putStackS
    rw [framesS_zero.2 ⟨k2, k3⟩, if_neg (by decide)]
    exact putL_has g4 _ _ _ hh
  have hiff : (q.1 == w.1) = decide (l = m) := by
    by_cases hlm : l = m
    · rw [dec_t hlm, beq_t]
      subst hlm
      exact Has.fn g4 hh g7
    · rw [dec_f hlm, beq_f]
      intro hc
      rw [hc] at hh
      exact hlm ((hh.list k2).symm.trans (g7.list g2))
  rw [intern_PutStack_eq (by omega) (by omega), Option.bind_some, e]
  simp (disch := omega) only [bne_f, cond_false, SameNames_eq, Option.bind_some, hiff, BEq.rfl, Bool.not_true]
  have hloop := bad_loop (l := l) (L06_InternAgain_L1 200000 l w) (fun _ _ => none) (fun n i hi => by
    show L06_InternAgain_L1_body 200000 l w _ _ = _
    unfold L06_InternAgain_L1_body
    rw [dec_f (by omega), cond_false]) (fun n i x r hd hlt => ⟨fun b hb => (by cases hb), fun _ => by
    show L06_InternAgain_L1_body 200000 l w _ _ = _
    unfold L06_InternAgain_L1_body
    have hx := hh.names x (mem_drop hd)
    obtain ⟨a, ha⟩ := List.getElem?_of_mem hx
    have hal := (List.getElem?_eq_some_iff.1 ha).1
    have ep : putS06 w.2.1 x = ((a : Int), w.2.1, 0) := by
      have hv := g4.valid hx
      unfold putS06
      rw [if_neg (by omega), findI_of (nodup_get g4.nodup) ha, if_pos (by omega)]
    simp (disch := omega) only [dec_t, cond_true, idxL_drop hd, Option.bind_some, intern_Put_eq, ep, bne_f, cond_false, dec_f, idxL_nat, ha, BEq.rfl, Bool.not_true, step64]⟩) (n := 200000) (by omega)
  rw [hloop, firstBad_all (fun _ _ _ => rfl)]
  simp only [Option.bind_some, awake06]
end Go.Ab
