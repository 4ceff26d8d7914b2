/- Plain laws of the functions below this seat's, laid anew from another seat's text. No conditions but those that the theorems name. -/
import Derived.Test.YtollmoogggcmaaaP08xD
import Derived.Test.YtollmoogggcmaaaB08a
import Derived.Test.YtollmoogggcmaaaB08b
import Derived.Test.YtollmoogggcmaaaB08c
import Derived.Test.YtollmoogggcmaaaB08d
import Derived.Test.YtollmoogggcmaaaB08e
import Derived.Test.YtollmoogggcmaaaB08f
namespace Go.Ab
open Go
set_option linter.unusedVariables false
def Coded (n : List (List Int)) (s : List Arr2_Int) (e : T_api_Event) (L : List Int) : Prop :=
  evS e = 0 ∧ ∃ a st : Int, L = recInts a e st ∧ (useName e.Kind = true → ∃ j : Nat, a = (j : Int) ∧ n[j]? = some e.Name) ∧ (useStack e.Kind = true → Has n s (-1) e.Stack st ∧ e.Stack.length ≤ 32)
theorem Coded.mono {n n' : List (List Int)} {s s' : List Arr2_Int} {e : T_api_Event} {L : List Int} (h : Coded n s e L) (hn : n <+: n') (hs : s <+: s') : Coded n' s' e L := by
  obtain ⟨h0, a, st, h1, h2, h3⟩ := h
  exact ⟨h0, a, st, h1, fun u => let ⟨j, e, g⟩ := h2 u; ⟨j, e, pre_get hn g⟩, fun u => ⟨(h3 u).1.mono hn hs, (h3 u).2⟩⟩
theorem Has.idx {n : List (List Int)} {s : List Arr2_Int} : ∀ {l : List (List Int)} {at_ i : Int}, Has n s at_ l i → -1 ≤ at_ → at_ < s.length → -1 ≤ i ∧ i < s.length := by
  intro l
  induction l with
  | nil => intro at_ i h h0 h1; simp only [Has] at h; omega
  | cons x r ih =>
    rintro at_ i ⟨a, b, h1, h2, h3⟩ _ _
    have := (List.getElem?_eq_some_iff.1 h2).1
    exact ih h3 (by omega) (by omega)
theorem Has.snoc {n : List (List Int)} {s : List Arr2_Int} {x : List Int} {a b : Nat} {c : Int} (ha : n[a]? = some x) (hb : s[b]? = some ⟨c, (a : Int)⟩) : ∀ {l : List (List Int)} {at_ : Int}, Has n s at_ l c → Has n s at_ (l ++ [x]) (b : Int) := by
  intro l
  induction l with
  | nil => intro at_ h; simp only [Has] at h; subst h; exact ⟨a, b, ha, hb, rfl⟩
  | cons y r ih =>
    rintro at_ ⟨a2, b2, h1, h2, h3⟩
    exact ⟨a2, b2, h1, h2, ih h3⟩
theorem Good.path {n : List (List Int)} {s : List Arr2_Int} (g : Good n s) : ∀ (k : Nat) (i : Int), -1 ≤ i → i < s.length → dOf (dsF s) i ≤ k → Has n s (-1) (pathN n s k i).reverse i := by
  intro k
  induction k with
  | zero =>
    intro i h0 h1 hd
    have := g.depth0 h0 h1
    have hi : i = -1 := by omega
    subst hi; rfl
  | succ k ih =>
    intro i h0 h1 hd
    by_cases hi : i < 0
    · have hi : i = -1 := by omega
      subst hi; rfl
    obtain ⟨j, rfl⟩ := Int.eq_ofNat_of_zero_le (show 0 ≤ i by omega)
    have hj : j < s.length := by omega
    have hp := List.getElem?_eq_getElem hj
    obtain ⟨q1, q2, q3, q4, q5, q6, _⟩ := g.pair hp
    simp only [pathN]
    rw [if_neg hi, Int.toNat_natCast, hp]
    simp only [List.reverse_cons]
    have h := ih (s[j]).c0 q1 (by omega) (by omega)
    have hn : n[(s[j]).c1.toNat]? = some ((n[(s[j]).c1.toNat]?).getD []) := by rw [List.getElem?_eq_getElem (by omega)]; rfl
    refine Has.snoc hn ?_ h
    rw [hp, Int.toNat_of_nonneg q3]
theorem enc_back {n : List (List Int)} {s : List Arr2_Int} {e : T_api_Event} {L : List Int} (g : Good n s) (h : Coded n s e L) : encS n s e = (encI L, n, s, 0) := by
  obtain ⟨h0, a, st, rfl, hn, hs⟩ := h
  have eN : putN n e = (if useName e.Kind then a else 0, n, 0) := by
    unfold putN
    cases hu : useName e.Kind
    · rfl
    · obtain ⟨j, rfl, hj⟩ := hn hu
      have hv := g.valid (List.mem_of_getElem? hj)
      simp only [if_true]
      unfold putS06
      rw [if_neg (by omega), findI_of (nodup_get g.nodup) hj, if_pos (by omega)]
  have eT : putT n s e = (if useStack e.Kind then st else 0, n, s, 0) := by
    unfold putT
    cases hu : useStack e.Kind
    · rfl
    · simp only [if_true]
      unfold putStackS
      rw [framesS_zero.2 ⟨(hs hu).2, fun x hx => g.valid ((hs hu).1.names x hx)⟩, if_neg (by decide)]
      exact putL_has g _ _ _ (hs hu).1
  unfold encS
  rw [if_neg (by rw [good_iff.2 g]; simp), if_neg (by omega), eN]
  simp only
  rw [if_neg (by simp), eT]
  simp only
  rw [if_neg (by simp)]
  unfold recInts
  cases useName e.Kind <;> cases useStack e.Kind <;> rfl
def PreB (b L : List Int) (u : Int) : Prop := u = ((encI L).length : Int) ∧ b.take (encI L).length = encI L
theorem numF_pre {b L : List Int} {u f : Int} (hb : ∀ x ∈ b, okU8 x) (h : PreB b L u) (hf : (numF b u f).2.2 = 0) : f = 0 ∧ PreB b (L ++ [(numF b u f).1]) (numF b u f).2.1 := by
  obtain ⟨rfl, h2⟩ := h
  have hf0 : f = 0 := by
    by_cases h : f = 0
    · exact h
    · rw [numF_fault h] at hf; exact absurd hf h
  subst hf0
  refine ⟨rfl, ?_⟩
  unfold numF at *
  rw [if_neg (by simp)] at *
  simp only [Int.toNat_natCast] at *
  have hd := drop_ok hb (encI L).length
  obtain ⟨v, h0, _, hv, h3, h4⟩ := vrd_unique hd (i := 0) (u := 0) (by omega) (by omega) (by simp) hf
  have hr := (vrd_range hd (i := 0) (u := 0) (by omega) (by omega) (by simp)).2.1 hf
  simp only [Int.zero_add, Nat.mul_zero, Int.pow_zero, Int.mul_one] at h3 hv
  have hz : zenc (vrd (List.drop (encI L).length b) 0 0).1 = v := by rw [h3]; exact zenc_zdec h0
  have hl : (venc 9 v).length = (vrd (List.drop (encI L).length b) 0 0).2.1.toNat := by
    have := congrArg List.length h4
    rw [List.length_take] at this
    simp at this hr ⊢
    omega
  unfold PreB
  rw [encI_snoc, hz, List.length_append, hl]
  refine ⟨by omega, ?_⟩
  rw [List.take_add, h2]
  congr 1
  simpa using h4
theorem numO_pre {b L : List Int} {c : Bool} {d u f : Int} (hb : ∀ x ∈ b, okU8 x) (h : PreB b L u) (hf : (numO c d b u f).2.2 = 0) : f = 0 ∧ PreB b (L ++ if c then [(numO c d b u f).1] else []) (numO c d b u f).2.1 := by
  cases c
  · simp only [numO, Bool.false_eq_true, if_false, List.append_nil] at *
    exact ⟨hf, h⟩
  · exact numF_pre hb h hf
theorem dec_back {n : List (List Int)} {s : List Arr2_Int} {b : List Int} (hb : ∀ x ∈ b, okU8 x) (h : (decS n s b).2.2 = 0) :
    Good n s ∧ ∃ L, Coded n s (decS n s b).1 L ∧ (decS n s b).2.1 = ((encI L).length : Int) ∧ b.take (encI L).length = encI L := by
  unfold decS at *
  by_cases hc : checkS n s ≠ 0
  · rw [if_pos hc] at h; simp at h
  rw [if_neg hc] at *
  by_cases hs : (decSt b).2.2 ≠ 0
  · rw [if_pos hs] at h; exact absurd h hs
  rw [if_neg hs] at *
  by_cases hn : useName (decK b).1 = true ∧ ((decNm b).1 < 0 ∨ (decNm b).1 ≥ n.length)
  · rw [if_pos hn] at h; simp at h
  rw [if_neg hn] at *
  by_cases ht : (decSt b).1 < -1 ∨ (decSt b).1 ≥ s.length
  · rw [if_pos ht] at h; simp at h
  rw [if_neg ht] at *
  by_cases he : evS (decE n s b) ≠ 0
  · rw [if_pos he] at h; simp at h
  rw [if_neg he] at *
  have g : Good n s := good_iff.1 (by omega)
  have z4 : (decM b).2.2 = 0 := numO_zero (show (decSt b).2.2 = 0 by omega)
  have z3 : (decN b).2.2 = 0 := numO_zero z4
  have z2 : (decNm b).2.2 = 0 := numO_zero z3
  have z1 : decF b = 0 := numO_zero z2
  have za : (decA b).2.2 = 0 := by
    unfold decF at z1
    split at z1
    · simp at z1
    · exact z1
  have p0 : PreB b [] 0 := ⟨rfl, rfl⟩
  have zk : (decK b).2.2 = 0 := by
    by_cases hk : (decK b).2.2 = 0
    · exact hk
    · unfold decA at za; rw [numF_fault hk] at za; exact za
  have p1 := (numF_pre hb p0 zk).2
  have p2 := (numF_pre hb p1 za).2
  have p3 := (numO_pre hb p2 z2).2
  have p4 := (numO_pre hb p3 z3).2
  have p5 := (numO_pre hb p4 z4).2
  have p6 := (numO_pre hb p5 (show (decSt b).2.2 = 0 by omega)).2
  refine ⟨g, decRow b, ⟨by simpa using he, (decNm b).1, (decSt b).1, rfl, fun u => ?_, fun u => ?_⟩, p6.1, p6.2⟩
  · simp only [decE] at u
    rw [u] at hn
    simp only [true_and] at hn
    refine ⟨(decNm b).1.toNat, by omega, ?_⟩
    simp only [decE, u, if_true]
    rw [List.getElem?_eq_getElem (by omega)]; rfl
  · have hd := (g.depth0 (c := (decSt b).1) (by omega) (by omega)).2.1
    have := g.path 32 (decSt b).1 (by omega) (by omega) (by omega)
    simp only [decE, stackV]
    rw [if_neg (by omega), if_neg (by omega)]
    exact ⟨this, by simpa using pathN_len n s 32 _⟩
theorem coded_ok {n : List (List Int)} {s : List Arr2_Int} {e : T_api_Event} {L : List Int} (g : Good n s) (h : Coded n s e L) : (∀ x ∈ encI L, okU8 x) ∧ 2 ≤ (encI L).length ∧ (encI L).length ≤ 50 := by
  obtain ⟨h0, a, st, rfl, hn, hs⟩ := h
  obtain ⟨r1, r2, r3, r4⟩ := evS_range h0
  have hg1 := g.n1
  have hg2 := g.s1
  have ea : useName e.Kind = true → okI64 a := fun u => by
    obtain ⟨j, rfl, hj⟩ := hn u
    have := (List.getElem?_eq_some_iff.1 hj).1
    unfold okI64; omega
  have es : useStack e.Kind = true → okI64 st := fun u => by
    have := (hs u).1.idx (by omega) (by omega)
    unfold okI64; omega
  refine ⟨encI_ok ?_, ?_⟩
  · intro x hx
    unfold recInts at hx
    simp only [List.mem_append] at hx
    rcases hx with ((((hx | hx) | hx) | hx))
    · rcases hx with hx | hx
      · simp at hx; rcases hx with rfl | rfl <;> assumption
      · split at hx
        · simp at hx; subst hx; exact ea (by assumption)
        · cases hx
    · split at hx
      · simp at hx; subst hx; exact r3
      · cases hx
    · split at hx
      · simp at hx; subst hx; exact r4
      · cases hx
    · split at hx
      · simp at hx; subst hx; exact es (by assumption)
      · cases hx
  · have := encI_len (recInts a e st)
    have hl : 2 ≤ (recInts a e st).length ∧ (recInts a e st).length ≤ 5 := by
      have := nameStack e.Kind
      unfold recInts
      cases h1 : useName e.Kind <;> cases h2 : useN e.Kind <;> cases h3 : useM e.Kind <;> cases h4 : useStack e.Kind <;> simp_all
    omega
end Go.Ab
