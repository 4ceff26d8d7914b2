/- Plain laws of the functions below this seat's, laid anew from another seat's text. No conditions but those that the theorems name. -/
import Derived.Test.YtlnlcciflpncmaaP11xD
import Derived.Test.YtlnlcciflpncmaaB11a
import Derived.Test.YtlnlcciflpncmaaB11b
import Derived.Test.YtlnlcciflpncmaaB11c
import Derived.Test.YtlnlcciflpncmaaB11d
import Derived.Test.YtlnlcciflpncmaaB11e
import Derived.Test.YtlnlcciflpncmaaB11f
namespace Go.Ab
open Go
set_option linter.unusedVariables false
def numO (c : Bool) (d : Int) (b : List Int) (u f : Int) : Int × Int × Int := if c then numF b u f else (d, u, f)
def ev0 : T_api_Event := ⟨0, 0, [], 0, 0, []⟩
def decK (b : List Int) : Int × Int × Int := numF b 0 0
def decA (b : List Int) : Int × Int × Int := numF b (decK b).2.1 (decK b).2.2
def decF (b : List Int) : Int := if (decA b).2.2 = 0 ∧ ((decK b).1 < 1 ∨ (decK b).1 > 12) then 10 else (decA b).2.2
def decNm (b : List Int) : Int × Int × Int := numO (useName (decK b).1) 0 b (decA b).2.1 (decF b)
def decN (b : List Int) : Int × Int × Int := numO (useN (decK b).1) 0 b (decNm b).2.1 (decNm b).2.2
def decM (b : List Int) : Int × Int × Int := numO (useM (decK b).1) 0 b (decN b).2.1 (decN b).2.2
def decSt (b : List Int) : Int × Int × Int := numO (useStack (decK b).1) (-1) b (decM b).2.1 (decM b).2.2
def decE (names : List (List Int)) (stacks : List Arr2_Int) (b : List Int) : T_api_Event :=
  ⟨(decA b).1, (decK b).1, if useName (decK b).1 then (names[(decNm b).1.toNat]?).getD [] else [], (decN b).1, (decM b).1, (stackV names stacks (decSt b).1).1⟩
def decS (names : List (List Int)) (stacks : List Arr2_Int) (b : List Int) : T_api_Event × Int × Int :=
  if checkS names stacks ≠ 0 then (ev0, 0, 1) else
  if (decSt b).2.2 ≠ 0 then (ev0, 0, (decSt b).2.2) else
  if useName (decK b).1 = true ∧ ((decNm b).1 < 0 ∨ (decNm b).1 ≥ names.length) then (ev0, 0, 2) else
  if (decSt b).1 < -1 ∨ (decSt b).1 ≥ stacks.length then (ev0, 0, 2) else
  if evS (decE names stacks b) ≠ 0 then (ev0, 0, 10) else (decE names stacks b, (decSt b).2.1, 0)
theorem numO_range {c : Bool} {d : Int} {b : List Int} {u f : Int} (hb : ∀ x ∈ b, okU8 x) (h0 : 0 ≤ u) (h1 : u ≤ b.length) : u ≤ (numO c d b u f).2.1 ∧ (numO c d b u f).2.1 ≤ b.length := by
  unfold numO
  split
  · exact ⟨(numF_range hb h0 h1).2.1, (numF_range hb h0 h1).2.2.1⟩
  · exact ⟨Int.le_refl _, h1⟩
theorem dec_ranges {b : List Int} (hb : ∀ x ∈ b, okU8 x) :
    (0 ≤ (decK b).2.1 ∧ (decK b).2.1 ≤ b.length) ∧ (0 ≤ (decA b).2.1 ∧ (decA b).2.1 ≤ b.length) ∧ (0 ≤ (decNm b).2.1 ∧ (decNm b).2.1 ≤ b.length) ∧ (0 ≤ (decN b).2.1 ∧ (decN b).2.1 ≤ b.length) ∧ (0 ≤ (decM b).2.1 ∧ (decM b).2.1 ≤ b.length) ∧ (0 ≤ (decSt b).2.1 ∧ (decSt b).2.1 ≤ b.length) := by
  have k := numF_range (u := 0) (f := 0) hb (by omega) (by omega)
  have a := numF_range (u := (decK b).2.1) (f := (decK b).2.2) hb (by unfold decK; omega) (by unfold decK; omega)
  have n1 : _ := numO_range (c := useName (decK b).1) (d := 0) (u := (decA b).2.1) (f := decF b) hb (by unfold decA; have := k.2; unfold decK at *; omega) (by unfold decA; omega)
  have ha : 0 ≤ (decA b).2.1 := by unfold decA; have := k.2.1; unfold decK at *; omega
  have n2 := numO_range (c := useN (decK b).1) (d := 0) (u := (decNm b).2.1) (f := (decNm b).2.2) hb (by unfold decNm; omega) (by unfold decNm; omega)
  have h2 : 0 ≤ (decNm b).2.1 := by unfold decNm; omega
  have n3 := numO_range (c := useM (decK b).1) (d := 0) (u := (decN b).2.1) (f := (decN b).2.2) hb (by unfold decN; omega) (by unfold decN; omega)
  have h3 : 0 ≤ (decN b).2.1 := by unfold decN; omega
  have n4 := numO_range (c := useStack (decK b).1) (d := -1) (u := (decM b).2.1) (f := (decM b).2.2) hb (by unfold decM; omega) (by unfold decM; omega)
  have h4 : 0 ≤ (decM b).2.1 := by unfold decM; omega
  exact ⟨⟨k.2.1, k.2.2.1⟩, ⟨ha, a.2.2.1⟩, ⟨h2, n1.2⟩, ⟨h3, n2.2⟩, ⟨h4, n3.2⟩, ⟨by unfold decSt; omega, n4.2⟩⟩
theorem record_Decode_eq {names : List (List Int)} {stacks : List Arr2_Int} {b : List Int} (hb : ∀ x ∈ b, okU8 x) (hl : b.length ≤ 100000) : record_Decode 200000 names stacks b = some (decS names stacks b) := by
  unfold record_Decode decS
  rw [intern_Check_eq, Option.bind_some]
  by_cases hc : checkS names stacks ≠ 0
  · rw [bne_t hc, if_pos hc]; rfl
  rw [bne_f (by omega), cond_false, if_neg hc]
  obtain ⟨⟨k0, k1⟩, ⟨a0, a1⟩, ⟨m0, m1⟩, ⟨n0, n1⟩, ⟨p0, p1⟩, _⟩ := dec_ranges hb
  rw [record_input_num_eq hb hl (by omega) (by omega), Option.bind_some]
  show (record_input_num 200000 ⟨b, (decK b).2.1, (decK b).2.2⟩).bind _ = _
  rw [record_input_num_eq hb hl k0 k1, Option.bind_some]
  have hf : (((bif (((decA b).2.2 == (0 : Int)) && (decide ((decK b).1 < (1 : Int)) || decide ((decK b).1 > (12 : Int)))) then some (10 : Int) else some (decA b).2.2) : Option Int)) = some (decF b) := by
    unfold decF
    by_cases h1 : (decA b).2.2 = 0
    · by_cases h2 : (decK b).1 < 1 ∨ (decK b).1 > 12
      · rw [if_pos ⟨h1, h2⟩, or_t h2, h1]; rfl
      · rw [if_neg (fun h => h2 h.2), or_f h2, h1]; rfl
    · rw [if_neg (fun h => h1 h.1), show ((decA b).2.2 == (0 : Int)) = false by simpa using h1]; rfl
  refine (congrArg (fun o => Option.bind o _) hf).trans ?_
  rw [Option.bind_some]
  show (some (useName (decK b).1, useN (decK b).1, useM (decK b).1, useStack (decK b).1)).bind _ = _
  rw [Option.bind_some]
  have hA : ∀ (c : Bool) (d u f : Int), 0 ≤ u → u ≤ b.length → (bif c then (record_input_num 200000 (⟨b, u, f⟩ : T_record_input)).bind (fun r_5 => some (r_5.1, r_5.2.b, r_5.2.used, r_5.2.fault)) else some (d, b, u, f)) = some ((numO c d b u f).1, b, (numO c d b u f).2.1, (numO c d b u f).2.2) := by
    intro c d u f h0 h1
    cases c
    · rfl
    · rw [cond_true, record_input_num_eq hb hl h0 h1, Option.bind_some]; rfl
  have hB : ∀ (c : Bool) (d u f : Int), 0 ≤ u → u ≤ b.length → (bif c then (record_input_num 200000 (⟨b, u, f⟩ : T_record_input)).bind (fun r_5 => some (r_5.2.b, r_5.2.used, r_5.2.fault, r_5.1)) else some (b, u, f, d)) = some (b, (numO c d b u f).2.1, (numO c d b u f).2.2, (numO c d b u f).1) := by
    intro c d u f h0 h1
    cases c
    · rfl
    · rw [cond_true, record_input_num_eq hb hl h0 h1, Option.bind_some]; rfl
  refine (congrArg (fun o => Option.bind o _) (hA (useName (decK b).1) 0 (decA b).2.1 (decF b) a0 a1)).trans ?_
  rw [Option.bind_some]
  refine (congrArg (fun o => Option.bind o _) (hB (useN (decK b).1) 0 (decNm b).2.1 (decNm b).2.2 m0 m1)).trans ?_
  rw [Option.bind_some]
  refine (congrArg (fun o => Option.bind o _) (hB (useM (decK b).1) 0 (decN b).2.1 (decN b).2.2 n0 n1)).trans ?_
  rw [Option.bind_some]
  refine (congrArg (fun o => Option.bind o _) (hA (useStack (decK b).1) (-1) (decM b).2.1 (decM b).2.2 p0 p1)).trans ?_
  rw [Option.bind_some]
  show (Option.bind (bif ((decSt b).2.2 != 0) then _ else (bif (useName (decK b).1 && (decide ((decNm b).1 < 0) || decide ((decNm b).1 ≥ names.length))) then _ else (bif (decide ((decSt b).1 < -1) || decide ((decSt b).1 ≥ stacks.length)) then _ else _))) _) = _
  by_cases h1 : (decSt b).2.2 ≠ 0
  · rw [bne_t h1, if_pos h1]; rfl
  rw [bne_f (by omega), cond_false, if_neg h1]
  by_cases h2 : useName (decK b).1 = true ∧ ((decNm b).1 < 0 ∨ (decNm b).1 ≥ names.length)
  · rw [if_pos h2, h2.1, or_t h2.2]; rfl
  rw [if_neg h2, show (useName (decK b).1 && (decide ((decNm b).1 < 0) || decide ((decNm b).1 ≥ names.length))) = false by
    cases hu : useName (decK b).1
    · rfl
    · rw [Bool.true_and]; exact or_f (fun h => h2 ⟨hu, h⟩)]
  rw [cond_false]
  by_cases h3 : (decSt b).1 < -1 ∨ (decSt b).1 ≥ stacks.length
  · rw [if_pos h3, or_t h3]; rfl
  rw [if_neg h3, or_f h3, cond_false, Option.bind_some]
  have hn : (((bif useName (decK b).1 then (idxL names (decNm b).1).bind fun x_1 => some x_1 else some ([] : List Int)) : Option (List Int))) = some (if useName (decK b).1 then (names[(decNm b).1.toNat]?).getD [] else []) := by
    cases hu : useName (decK b).1
    · rfl
    · rw [hu] at h2
      simp only [true_and] at h2
      rw [cond_true, idxL_at (by omega), List.getElem?_eq_getElem (by omega)]; rfl
  refine (congrArg (fun o => Option.bind o _) hn).trans ?_
  rw [Option.bind_some]
  show ((intern_Stack 200000 names stacks (decSt b).1).bind _) = _
  rw [intern_Stack_eq, Option.bind_some]
  show ((event_Check 200000 (decE names stacks b)).bind _) = _
  rw [event_Check_eq, Option.bind_some]
  by_cases h4 : evS (decE names stacks b) ≠ 0
  · rw [bne_t h4, if_pos h4]; rfl
  · rw [bne_f (by omega), if_neg h4]; rfl
def Coded (n : List (List Int)) (s : List Arr2_Int) (e : T_api_Event) (L : List Int) : Prop :=
  evS e = 0 ∧ ∃ a st : Int, L = recInts a e st ∧ (useName e.Kind = true → ∃ j : Nat, a = (j : Int) ∧ n[j]? = some e.Name) ∧ (useStack e.Kind = true → Has n s (-1) e.Stack st ∧ e.Stack.length ≤ 32)
theorem Coded.mono {n n' : List (List Int)} {s s' : List Arr2_Int} {e : T_api_Event} {L : List Int} (h : Coded n s e L) (hn : n <+: n') (hs : s <+: s') : Coded n' s' e L := by
  obtain ⟨h0, a, st, h1, h2, h3⟩ := h
  exact ⟨h0, a, st, h1, fun u => let ⟨j, e, g⟩ := h2 u; ⟨j, e, pre_get hn g⟩, fun u => ⟨(h3 u).1.mono hn hs, (h3 u).2⟩⟩
theorem encS_coded {n : List (List Int)} {s : List Arr2_Int} {e : T_api_Event} :
    ((encS n s e).2.2.2 ≠ 0 ∧ encS n s e = ([], [], [], (encS n s e).2.2.2)) ∨
    ((encS n s e).2.2.2 = 0 ∧ Good n s ∧ Good (encS n s e).2.1 (encS n s e).2.2.1 ∧ n <+: (encS n s e).2.1 ∧ s <+: (encS n s e).2.2.1 ∧
      ∃ L, (encS n s e).1 = encI L ∧ Coded (encS n s e).2.1 (encS n s e).2.2.1 e L) := by
  unfold encS
  by_cases hc : checkS n s ≠ 0
  · rw [if_pos hc]; exact .inl ⟨by simp, rfl⟩
  rw [if_neg hc]
  have g : Good n s := good_iff.1 (by omega)
  by_cases he : evS e ≠ 0
  · rw [if_pos he]; exact .inl ⟨he, rfl⟩
  rw [if_neg he]
  have he0 : evS e = 0 := by omega
  obtain ⟨_, _, _, _, _, ht, _⟩ := evS_zero he0
  have hN : (putN n e).2.2 ≠ 0 ∨ (putN n e).2.2 = 0 ∧ Good (putN n e).2.1 s ∧ n <+: (putN n e).2.1 ∧ (useName e.Kind = true → ∃ j : Nat, (putN n e).1 = (j : Int) ∧ (putN n e).2.1[j]? = some e.Name) := by
    unfold putN
    cases hu : useName e.Kind
    · exact .inr ⟨rfl, g, List.prefix_refl _, fun h => by cases h⟩
    · unfold evText at ht
      rw [hu] at ht
      rcases putS06_good g (x := e.Name) (by simpa using ht) with h | h
      · exact .inl (by simp [h.1])
      · exact .inr ⟨h.1, h.2.2.1, h.2.2.2.1, fun _ => h.2.1⟩
  rcases hN with hN | ⟨h1, h2, h3, h4⟩
  · rw [if_pos hN]; exact .inl ⟨hN, rfl⟩
  rw [if_neg (by omega)]
  have hT : (putT (putN n e).2.1 s e).2.2.2 ≠ 0 ∨ (putT (putN n e).2.1 s e).2.2.2 = 0 ∧ Good (putT (putN n e).2.1 s e).2.1 (putT (putN n e).2.1 s e).2.2.1 ∧ (putN n e).2.1 <+: (putT (putN n e).2.1 s e).2.1 ∧ s <+: (putT (putN n e).2.1 s e).2.2.1 ∧
      (useStack e.Kind = true → Has (putT (putN n e).2.1 s e).2.1 (putT (putN n e).2.1 s e).2.2.1 (-1) e.Stack (putT (putN n e).2.1 s e).1 ∧ e.Stack.length ≤ 32) := by
    unfold putT
    cases hu : useStack e.Kind
    · exact .inr ⟨rfl, h2, List.prefix_refl _, List.prefix_refl _, fun h => by cases h⟩
    · rcases putStackS_good (l := e.Stack) h2 with h | h
      · exact .inl h.1
      · exact .inr ⟨h.1, h.2.2.2.1, h.2.2.2.2.1, h.2.2.2.2.2.1, fun _ => ⟨h.2.2.2.2.2.2.1, h.2.1⟩⟩
  rcases hT with hT | ⟨k1, k2, k3, k4, k5⟩
  · rw [if_pos hT]; exact .inl ⟨hT, rfl⟩
  rw [if_neg (by omega)]
  exact .inr ⟨rfl, g, k2, h3.trans k3, k4, _, rfl, he0, _, _, rfl, fun u => let ⟨j, e, g⟩ := h4 u; ⟨j, e, pre_get k3 g⟩, k5⟩
theorem Has.idx {n : List (List Int)} {s : List Arr2_Int} : ∀ {l : List (List Int)} {at_ i : Int}, Has n s at_ l i → -1 ≤ at_ → at_ < s.length → -1 ≤ i ∧ i < s.length := by
  intro l
  induction l with
  | nil => intro at_ i h h0 h1; simp only [Has] at h; omega
  | cons x r ih =>
    rintro at_ i ⟨a, b, h1, h2, h3⟩ _ _
    have := (List.getElem?_eq_some_iff.1 h2).1
    exact ih h3 (by omega) (by omega)
theorem Has.snoc {n : List (List Int)} {s : List Arr2_Int} {x : List Int} {a b : Nat} {c : Int} (ha : n[a]? = some x) (hb : s[b]? = some ⟨c, (a : Int)⟩) : ∀ {l : List (List Int)} {at_ : Int}, Has n s at_ l c → Has n s at_ (l ++ [x]) (b : Int) := by
  intro l
  induction l with
  | nil => intro at_ h; simp only [Has] at h; subst h; exact ⟨a, b, ha, hb, rfl⟩
  | cons y r ih =>
    rintro at_ ⟨a2, b2, h1, h2, h3⟩
    exact ⟨a2, b2, h1, h2, ih h3⟩
theorem Good.path {n : List (List Int)} {s : List Arr2_Int} (g : Good n s) : ∀ (k : Nat) (i : Int), -1 ≤ i → i < s.length → dOf (dsF s) i ≤ k → Has n s (-1) (pathN n s k i).reverse i := by
  intro k
  induction k with
  | zero =>
    intro i h0 h1 hd
    have := g.depth0 h0 h1
    have hi : i = -1 := by omega
    subst hi; rfl
  | succ k ih =>
    intro i h0 h1 hd
    by_cases hi : i < 0
    · have hi : i = -1 := by omega
      subst hi; rfl
    obtain ⟨j, rfl⟩ := Int.eq_ofNat_of_zero_le (show 0 ≤ i by omega)
    have hj : j < s.length := by omega
    have hp := List.getElem?_eq_getElem hj
    obtain ⟨q1, q2, q3, q4, q5, q6, _⟩ := g.pair hp
    simp only [pathN]
    rw [if_neg hi, Int.toNat_natCast, hp]
    simp only [List.reverse_cons]
    have h := ih (s[j]).c0 q1 (by omega) (by omega)
    have hn : n[(s[j]).c1.toNat]? = some ((n[(s[j]).c1.toNat]?).getD []) := by rw [List.getElem?_eq_getElem (by omega)]; rfl
    refine Has.snoc hn ?_ h
    rw [hp, Int.toNat_of_nonneg q3]
theorem coded_ok {n : List (List Int)} {s : List Arr2_Int} {e : T_api_Event} {L : List Int} (g : Good n s) (h : Coded n s e L) : (∀ x ∈ encI L, okU8 x) ∧ 2 ≤ (encI L).length ∧ (encI L).length ≤ 50 := by
  obtain ⟨h0, a, st, rfl, hn, hs⟩ := h
  obtain ⟨r1, r2, r3, r4⟩ := evS_range h0
  have hg1 := g.n1
  have hg2 := g.s1
  have ea : useName e.Kind = true → okI64 a := fun u => by
    obtain ⟨j, rfl, hj⟩ := hn u
    have := (List.getElem?_eq_some_iff.1 hj).1
    unfold okI64; omega
  have es : useStack e.Kind = true → okI64 st := fun u => by
    have := (hs u).1.idx (by omega) (by omega)
    unfold okI64; omega
  refine ⟨encI_ok ?_, ?_⟩
  · intro x hx
    unfold recInts at hx
    simp only [List.mem_append] at hx
    rcases hx with ((((hx | hx) | hx) | hx))
    · rcases hx with hx | hx
      · simp at hx; rcases hx with rfl | rfl <;> assumption
      · split at hx
        · simp at hx; subst hx; exact ea (by assumption)
        · cases hx
    · split at hx
      · simp at hx; subst hx; exact r3
      · cases hx
    · split at hx
      · simp at hx; subst hx; exact r4
      · cases hx
    · split at hx
      · simp at hx; subst hx; exact es (by assumption)
      · cases hx
  · have := encI_len (recInts a e st)
    have hl : 2 ≤ (recInts a e st).length ∧ (recInts a e st).length ≤ 5 := by
      have := nameStack e.Kind
      unfold recInts
      cases h1 : useName e.Kind <;> cases h2 : useN e.Kind <;> cases h3 : useM e.Kind <;> cases h4 : useStack e.Kind <;> simp_all
    omega
end Go.Ab
