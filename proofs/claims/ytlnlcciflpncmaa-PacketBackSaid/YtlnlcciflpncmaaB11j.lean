/- Plain laws of the functions below this seat's, laid anew from another seat's text. No conditions but those that the theorems name. -/
import Derived.Test.YtlnlcciflpncmaaP11xD
import Derived.Test.YtlnlcciflpncmaaB11a
import Derived.Test.YtlnlcciflpncmaaB11b
import Derived.Test.YtlnlcciflpncmaaB11c
import Derived.Test.YtlnlcciflpncmaaB11d
import Derived.Test.YtlnlcciflpncmaaB11e
import Derived.Test.YtlnlcciflpncmaaB11f
import Derived.Test.YtlnlcciflpncmaaB11g
import Derived.Test.YtlnlcciflpncmaaB11h
import Derived.Test.YtlnlcciflpncmaaB11i
namespace Go.Ab
open Go
set_option linter.unusedVariables false
theorem numF_raw {pre post : List Int} {x : Int} (hx : okI64 x) : numF (pre ++ (venc 9 (zenc x) ++ post)) (pre.length : Int) 0 = (x, ((pre ++ venc 9 (zenc x)).length : Int), 0) := by
  unfold numF
  rw [if_neg (by simp), Int.toNat_natCast, List.drop_left, vrd_put hx]
  simp
theorem cntF_raw {pre post : List Int} {k : Nat} (hk : k ≤ 1000) : cntF (pre ++ (venc 9 (zenc (k : Int)) ++ post)) (pre.length : Int) 0 1000 = ((k : Int), ((pre ++ venc 9 (zenc (k : Int))).length : Int), 0) := by
  unfold cntF
  rw [numF_raw (by unfold okI64; omega), if_neg (by simp), if_neg (by simp only; omega), if_neg (by simp only; omega)]
theorem txtF_raw {pre post x : List Int} (hx : x.length ≤ 40) : txtF (pre ++ (textB x ++ post)) (pre.length : Int) 0 = (x, ((pre ++ textB x).length : Int), 0) := by
  unfold txtF
  rw [if_neg (by simp), Int.toNat_natCast, List.drop_left]
  have ht : txt (textB x ++ post) 40 = (x, ((textB x).length : Int), 0) := by
    unfold txt textB
    rw [List.append_assoc, vrd_put (show okI64 (x.length : Int) by unfold okI64; omega)]
    simp only
    rw [if_neg (by simp), if_neg (by omega), if_neg (by omega), if_neg (by simp only [List.length_append]; omega)]
    unfold sub
    rw [show (((venc 9 (zenc (x.length : Int))).length : Int) + (x.length : Int)).toNat = (venc 9 (zenc (x.length : Int)) ++ x).length by simp only [List.length_append]; omega, ← List.append_assoc, List.take_left, Int.toNat_natCast, List.drop_left]
    simp
  rw [ht]
  simp
theorem namesF_raw : ∀ (n : List (List Int)) (pre post : List Int) (row : List (List Int)), (∀ x ∈ n, x.length ≤ 40) → namesF (pre ++ (namesB n ++ post)) n.length (pre.length : Int) 0 row = (((pre ++ namesB n).length : Int), 0, row ++ n) := by
  intro n
  induction n with
  | nil => intro pre post row _; simp [namesF, namesB]
  | cons x r ih =>
    intro pre post row h
    have e : pre ++ (namesB (x :: r) ++ post) = pre ++ (textB x ++ (namesB r ++ post)) := by simp [namesB]
    rw [e, List.length_cons]
    simp only [namesF]
    rw [if_neg (by simp), txtF_raw (h x (by simp))]
    simp only
    have := ih (pre ++ textB x) post (row ++ [x]) (fun y hy => h y (by simp [hy]))
    rw [List.append_assoc] at this
    rw [this]
    simp [namesB]
theorem two_raw {pre post : List Int} {x : Arr2_Int} (h0 : okI64 x.c0) (h1 : okI64 x.c1) : two (pre ++ (encI [x.c0, x.c1] ++ post)) (pre.length : Int) 0 = (x.c1, ((pre ++ encI [x.c0, x.c1]).length : Int), 0) ∧ (numF (pre ++ (encI [x.c0, x.c1] ++ post)) (pre.length : Int) 0).1 = x.c0 := by
  have e : pre ++ (encI [x.c0, x.c1] ++ post) = pre ++ (venc 9 (zenc x.c0) ++ (venc 9 (zenc x.c1) ++ post)) := by simp [encI]
  have e2 : pre ++ (venc 9 (zenc x.c0) ++ (venc 9 (zenc x.c1) ++ post)) = (pre ++ venc 9 (zenc x.c0)) ++ (venc 9 (zenc x.c1) ++ post) := by simp
  unfold two
  rw [e, numF_raw h0]
  refine ⟨?_, rfl⟩
  simp only
  rw [e2, numF_raw h1]
  simp [encI]
theorem stacksF_raw : ∀ (s : List Arr2_Int) (pre post : List Int) (row : List Arr2_Int), (∀ x ∈ s, okI64 x.c0 ∧ okI64 x.c1) → stacksF (pre ++ (stacksB s ++ post)) s.length (pre.length : Int) 0 row = (((pre ++ stacksB s).length : Int), 0, row ++ s) := by
  intro s
  induction s with
  | nil => intro pre post row _; simp [stacksF, stacksB]
  | cons x r ih =>
    intro pre post row h
    have e : pre ++ (stacksB (x :: r) ++ post) = pre ++ (encI [x.c0, x.c1] ++ (stacksB r ++ post)) := by simp [stacksB]
    obtain ⟨h1, h2⟩ := two_raw (pre := pre) (post := stacksB r ++ post) (h x (by simp)).1 (h x (by simp)).2
    rw [e, List.length_cons]
    simp only [stacksF]
    rw [if_neg (by simp), h1, h2]
    simp only
    have := ih (pre ++ encI [x.c0, x.c1]) post (row ++ [⟨x.c0, x.c1⟩]) (fun y hy => h y (by simp [hy]))
    rw [List.append_assoc] at this
    rw [this]
    simp [stacksB]
theorem eventsF_raw {n : List (List Int)} {s : List Arr2_Int} (g : Good n s) : ∀ (l : List T_api_Event) (q : List (List Int)) (pre post : List Int) (row : List T_api_Event), KeptR n s l q → eventsF n s (pre ++ (q.flatMap encI ++ post)) l.length (pre.length : Int) 0 row = (((pre ++ q.flatMap encI).length : Int), 0, row ++ l) := by
  intro l
  induction l with
  | nil =>
    intro q pre post row h
    cases q with
    | nil => simp [eventsF]
    | cons _ _ => exact absurd h (by simp [KeptR])
  | cons x r ih =>
    intro q pre post row h
    cases q with
    | nil => exact absurd h (by simp [KeptR])
    | cons L q =>
      have e : pre ++ ((L :: q).flatMap encI ++ post) = pre ++ (encI L ++ (q.flatMap encI ++ post)) := by simp
      rw [e, List.length_cons]
      simp only [eventsF]
      rw [if_neg (by simp), Int.toNat_natCast, List.drop_left, dec_coded g h.1]
      simp only
      have := ih q (pre ++ encI L) post (row ++ [x]) h.2
      rw [List.append_assoc, List.length_append] at this
      rw [← Int.natCast_add, this]
      simp
theorem pEncS_props {p : T_api_Packet} : ((pEncS p).2 ≠ 0 ∧ (pEncS p).1 = []) ∨ ((pEncS p).2 = 0 ∧ packS p = 0 ∧ ∃ n s q, Good n s ∧ KeptR n s p.Events q ∧ (pEncS p).1 = headB p n s ++ q.flatMap encI ∧ (q.flatMap encI).length ≤ 50 * p.Events.length) := by
  unfold pEncS
  by_cases hp : packS p ≠ 0
  · rw [if_pos hp]; exact .inl ⟨hp, rfl⟩
  rw [if_neg hp]
  rcases encAll_props p.Events [] [] [] good_nil with ⟨e, h1, h2⟩ | ⟨n', s', row', q, h1, h2, h3, h4, h5, h6, h7⟩
  · rw [h1]; exact .inl ⟨h2, rfl⟩
  · rw [h1]
    refine .inr ⟨rfl, by omega, n', s', q, h2, h6, by rw [h5]; rfl, ?_⟩
    rw [h5] at h7; simpa using h7
theorem headB_ok {p : T_api_Packet} {n : List (List Int)} {s : List Arr2_Int} (hp : packS p = 0) (g : Good n s) (ht : ∀ x ∈ n, ∀ c ∈ x, okU8 c) : ∀ x ∈ headB p n s, okU8 x := by
  have h1 := g.n1
  have h2 := g.s1
  have hz := packS_zero hp
  unfold headB
  intro x hx
  simp only [List.mem_append] at hx
  rcases hx with (((hx | hx) | hx) | hx) | hx
  · exact encI_ok (pk_ints hp (by omega) (by omega)) x hx
  · obtain ⟨y, hy, hxy⟩ := List.mem_flatMap.1 hx
    unfold textB at hxy
    rcases List.mem_append.1 hxy with h | h
    · have := (g.lens).1 y hy
      exact venc_okZ (show okI64 (y.length : Int) by unfold okI64; omega) x h
    · exact ht y hy x h
  · exact encI_ok (fun y hy => by simp at hy; subst hy; unfold okI64; omega) x hx
  · obtain ⟨y, hy, hxy⟩ := List.mem_flatMap.1 hx
    exact encI_ok (fun z hz => by simp at hz; rcases hz with rfl | rfl; exact ((g.lens).2 y hy).1; exact ((g.lens).2 y hy).2) x hxy
  · exact encI_ok (fun y hy => by simp at hy; subst hy; unfold okI64; omega) x hx
theorem headB_len {p : T_api_Packet} {n : List (List Int)} {s : List Arr2_Int} (g : Good n s) : 5 ≤ (headB p n s).length ∧ (headB p n s).length ≤ 80000 := by
  have l1 := encI_len [p.Thread, p.Serial, p.Lost, (n.length : Int)]
  have l2 := namesB_len (g.lens).1
  have l3 := (encI_len [(s.length : Int)])
  have l4 := stacksB_len (s := s)
  have l5 := (encI_len [(p.Events.length : Int)])
  have h1 := g.n1
  have h2 := g.s1
  unfold headB
  simp only [List.length_cons, List.length_nil, List.length_append] at *
  omega
theorem letter_ok {c : Int} (h : letterB c = true) : okU8 c := by
  unfold letterB at h
  simp only [Bool.or_eq_true, decide_eq_true_eq] at h
  unfold okU8
  rcases h with ((h | h) | h) | h
  · omega
  · omega
  · omega
  · unfold signs06 at h; simp at h; omega
theorem name_ok {x : List Int} (h : nameS x = 0) : ∀ c ∈ x, okU8 c := by
  unfold nameS at h
  by_cases hx : x = [] ∨ 40 < x.length
  · rw [if_pos hx] at h; cases h
  rw [if_neg hx] at h
  by_cases ha : x.all letterB = true
  · intro c hc; exact letter_ok (List.all_eq_true.1 ha c hc)
  · rw [if_neg ha] at h; cases h
theorem pEncS_ok {p : T_api_Packet} : ∀ x ∈ (pEncS p).1, okU8 x := by
  rcases pEncS_props (p := p) with ⟨_, h⟩ | ⟨h1, h2, n, s, q, g, k, h3, h4⟩
  · rw [h]; intro x hx; cases hx
  · rw [h3]
    intro x hx
    rcases List.mem_append.1 hx with hx | hx
    · exact headB_ok h2 g (fun y hy => name_ok (g.valid hy)) x hx
    · have : ∀ (l : List T_api_Event) (q : List (List Int)), KeptR n s l q → ∀ x ∈ q.flatMap encI, okU8 x := by
        intro l
        induction l with
        | nil => intro q h x hx; cases q with
          | nil => simp at hx
          | cons _ _ => exact absurd h (by simp [KeptR])
        | cons e l ih => intro q h x hx; cases q with
          | nil => simp at hx
          | cons L q =>
            rw [List.flatMap_cons] at hx
            rcases List.mem_append.1 hx with hx | hx
            · exact (coded_ok g h.1).1 x hx
            · exact ih q h.2 x hx
      exact this _ _ k x hx
theorem pDec_back {p : T_api_Packet} {more : List Int} (h : (pEncS p).2 = 0) : pDecS ((pEncS p).1 ++ more) = (p, ((pEncS p).1.length : Int), 0) := by
  rcases pEncS_props (p := p) with ⟨h0, _⟩ | ⟨_, hp, n, s, q, g, k, h3, _⟩
  · exact absurd h h0
  have hz := packS_zero hp
  have h1 := g.n1
  have h2 := g.s1
  obtain ⟨g1, g2⟩ := g.lens
  generalize hB : (pEncS p).1 ++ more = B
  have eB : B = encI [p.Thread, p.Serial, p.Lost, (n.length : Int)] ++ (namesB n ++ (encI [(s.length : Int)] ++ (stacksB s ++ (encI [(p.Events.length : Int)] ++ (q.flatMap encI ++ more))))) := by rw [← hB, h3]; simp [headB]
  have i0 : okI64 p.Thread ∧ okI64 p.Serial ∧ okI64 p.Lost := by unfold okI64; omega
  have tT : dT B = (p.Thread, ((encI [p.Thread]).length : Int), 0) := by
    have := numF_raw (pre := []) (post := encI [p.Serial, p.Lost, (n.length : Int)] ++ (namesB n ++ (encI [(s.length : Int)] ++ (stacksB s ++ (encI [(p.Events.length : Int)] ++ (q.flatMap encI ++ more)))))) i0.1
    unfold dT; rw [eB]; simpa [encI] using this
  have tS : dS B = (p.Serial, ((encI [p.Thread, p.Serial]).length : Int), 0) := by
    have := numF_raw (pre := encI [p.Thread]) (post := encI [p.Lost, (n.length : Int)] ++ (namesB n ++ (encI [(s.length : Int)] ++ (stacksB s ++ (encI [(p.Events.length : Int)] ++ (q.flatMap encI ++ more)))))) i0.2.1
    unfold dS; rw [tT, eB]; simpa [encI] using this
  have tL : dL B = (p.Lost, ((encI [p.Thread, p.Serial, p.Lost]).length : Int), 0) := by
    have := numF_raw (pre := encI [p.Thread, p.Serial]) (post := encI [(n.length : Int)] ++ (namesB n ++ (encI [(s.length : Int)] ++ (stacksB s ++ (encI [(p.Events.length : Int)] ++ (q.flatMap encI ++ more)))))) i0.2.2
    unfold dL; rw [tS, eB]; simpa [encI] using this
  have tC1 : dC1 B = ((n.length : Int), ((encI [p.Thread, p.Serial, p.Lost, (n.length : Int)]).length : Int), 0) := by
    have := cntF_raw (pre := encI [p.Thread, p.Serial, p.Lost]) (k := n.length) (post := (namesB n ++ (encI [(s.length : Int)] ++ (stacksB s ++ (encI [(p.Events.length : Int)] ++ (q.flatMap encI ++ more)))))) h1
    unfold dC1; rw [tL, eB]; simpa [encI] using this
  have tN : dN B = (((encI [p.Thread, p.Serial, p.Lost, (n.length : Int)] ++ namesB n).length : Int), 0, n) := by
    have := namesF_raw n (encI [p.Thread, p.Serial, p.Lost, (n.length : Int)]) (encI [(s.length : Int)] ++ (stacksB s ++ (encI [(p.Events.length : Int)] ++ (q.flatMap encI ++ more)))) [] g1
    unfold dN; rw [tC1, eB]; simp only [Int.toNat_natCast]; exact this
  have tC2 : dC2 B = ((s.length : Int), ((encI [p.Thread, p.Serial, p.Lost, (n.length : Int)] ++ namesB n ++ encI [(s.length : Int)]).length : Int), 0) := by
    have := cntF_raw (pre := encI [p.Thread, p.Serial, p.Lost, (n.length : Int)] ++ namesB n) (k := s.length) (post := (stacksB s ++ (encI [(p.Events.length : Int)] ++ (q.flatMap encI ++ more)))) h2
    have e1 : encI [(s.length : Int)] = venc 9 (zenc (s.length : Int)) := by simp [encI]
    unfold dC2; rw [tN, eB, e1]
    simp only [List.append_assoc] at this ⊢
    exact this
  have tSt : dSt B = (((encI [p.Thread, p.Serial, p.Lost, (n.length : Int)] ++ namesB n ++ encI [(s.length : Int)] ++ stacksB s).length : Int), 0, s) := by
    have := stacksF_raw s (encI [p.Thread, p.Serial, p.Lost, (n.length : Int)] ++ namesB n ++ encI [(s.length : Int)]) (encI [(p.Events.length : Int)] ++ (q.flatMap encI ++ more)) [] g2
    unfold dSt; rw [tC2, eB]; simp only [Int.toNat_natCast]
    simp only [List.append_assoc, List.nil_append] at this ⊢
    exact this
  have tF3 : dF3 B = 0 := by unfold dF3; rw [tSt, tN, if_pos rfl]; exact good_iff.2 g
  have tC3 : dC3 B = ((p.Events.length : Int), ((headB p n s).length : Int), 0) := by
    have := cntF_raw (pre := encI [p.Thread, p.Serial, p.Lost, (n.length : Int)] ++ namesB n ++ encI [(s.length : Int)] ++ stacksB s) (k := p.Events.length) (post := (q.flatMap encI ++ more)) hz.2.2.2.2.2.2.2.1
    have e1 : encI [(p.Events.length : Int)] = venc 9 (zenc (p.Events.length : Int)) := by simp [encI]
    unfold dC3; rw [tSt, tF3, eB]
    unfold headB
    rw [e1]
    simp only [List.append_assoc] at this ⊢
    exact this
  have tE : dE B = (((pEncS p).1.length : Int), 0, p.Events) := by
    have := eventsF_raw g p.Events q (headB p n s) more [] k
    unfold dE; rw [tC3, tN, tSt, h3]; simp only [Int.toNat_natCast]
    have e2 : B = headB p n s ++ (q.flatMap encI ++ more) := by rw [← hB, h3, List.append_assoc]
    rw [e2]; exact this
  have tP : dP B = p := by unfold dP; rw [tT, tS, tL, tE]
  have tF5 : dF5 B = 0 := by unfold dF5; rw [tE, if_pos rfl, tP]; exact hp
  unfold pDecS
  rw [if_neg (by omega), tP, tE, if_neg]
  rintro (hc | hc)
  · exact hc h
  · apply hc
    rw [← hB, Int.toNat_natCast, List.take_left]
end Go.Ab
