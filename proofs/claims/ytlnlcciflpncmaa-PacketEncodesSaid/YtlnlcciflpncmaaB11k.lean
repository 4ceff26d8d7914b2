/- Plain laws of the functions below this seat's, laid anew from another seat's text. No conditions but those that the theorems name. -/
import Derived.Test.YtlnlcciflpncmaaP11xD
import Derived.Test.YtlnlcciflpncmaaB11a
import Derived.Test.YtlnlcciflpncmaaB11b
import Derived.Test.YtlnlcciflpncmaaB11c
import Derived.Test.YtlnlcciflpncmaaB11d
import Derived.Test.YtlnlcciflpncmaaB11e
import Derived.Test.YtlnlcciflpncmaaB11f
import Derived.Test.YtlnlcciflpncmaaB11g
import Derived.Test.YtlnlcciflpncmaaB11h
import Derived.Test.YtlnlcciflpncmaaB11i
import Derived.Test.YtlnlcciflpncmaaB11j
namespace Go.Ab
open Go
set_option linter.unusedVariables false
theorem R11_Encode_loop1 {p : T_api_Packet} (hl : p.Events.length ≤ 1000) : ∀ (m i : Nat) (n : List (List Int)) (s : List Arr2_Int) (row : List Int), (p.Events.drop i).length < m → n.length ≤ 1000 → s.length ≤ 1000 → row.length + 50 * (p.Events.drop i).length ≤ 100000 →
  R11_Encode_L1 200000 p m n s (i : Nat) row = some (encR (encAll n s row (p.Events.drop i))) := by
 intro m
 induction m with
 | zero => intro i n s row h; omega
 | succ m ih =>
  intro i n s row hm hn hs hr
  show R11_Encode_L1_body _ _ _ _ _ _ _ = _
  unfold R11_Encode_L1_body
  rcases hd : p.Events.drop i with _ | ⟨x, r⟩
  ·have := drop_nil hd
   rw [dec_f (by omega)]; rfl
  have hlt := drop_lt hd
  rw [hd] at hm hr
  simp only [List.length_cons] at hm hr
  rw [dec_t (by omega), cond_true, idxL_drop hd, Option.bind_some, R08_Encode_eq (by omega) (by omega), Option.bind_some]
  simp only [encAll]
  rcases encS_coded (n := n) (s := s) (e := x) with ⟨k1, k2⟩ | ⟨k1, k2, k3, k4, k5, L, k6, k7⟩
  ·rw [bne_t k1, if_pos k1]; rfl
  ·obtain ⟨c1, c2, c3⟩ := coded_ok k3 k7
   have g1 := k3.n1
   have g2 := k3.s1
   rw [bne_f k1, if_neg (by omega), cond_false, k6, need_t (by omega), Option.bind_some, step64 (by omega), ih (i + 1) _ _ _ (by rw [drop_step hd]; omega) g1 g2 (by rw [drop_step hd, List.length_append]; omega), drop_step hd]
theorem R11_Encode_loop2 {q : (List (List Int)) × (List Arr2_Int) × (List Int)} (hn : ∀ x ∈ q.1, x.length ≤ 40) (hl : q.1.length ≤ 1000) : ∀ (m i : Nat) (row : List Int), (q.1.drop i).length < m → row.length + 50 * (q.1.drop i).length ≤ 200000 →
  R11_Encode_L2 200000 q m (i : Nat) row = some (row ++ namesB (q.1.drop i)) := by
 intro m
 induction m with
 | zero => intro i row h; omega
 | succ m ih =>
  intro i row hm hr
  show R11_Encode_L2_body _ _ _ _ _ = _
  unfold R11_Encode_L2_body
  rcases hd : q.1.drop i with _ | ⟨x, r⟩
  ·have := drop_nil hd
   rw [dec_f (by omega), cond_false]; simp [namesB]
  have hlt := drop_lt hd
  rw [hd] at hm hr
  simp only [List.length_cons] at hm hr
  have hx := hn x (mem_drop hd)
  have hv := (venc_len 9 (zenc x.length)).2
  rw [dec_t (by omega), cond_true, idxL_drop hd, Option.bind_some, R05_PutText_eq (by omega) (by omega) (by omega) (by omega), Option.bind_some, step64 (by omega), ih (i + 1) _ (by rw [drop_step hd]; omega) (by rw [drop_step hd, List.length_append, List.length_append]; omega), drop_step hd]
  simp [namesB, textB]
theorem R11_Encode_loop3 {q : (List (List Int)) × (List Arr2_Int) × (List Int)} (hn : ∀ x ∈ q.2.1, okI64 x.c0 ∧ okI64 x.c1) (hl : q.2.1.length ≤ 1000) : ∀ (m i : Nat) (row : List Int), (q.2.1.drop i).length < m → row.length + 20 * (q.2.1.drop i).length ≤ 200000 →
  R11_Encode_L3 200000 q m (i : Nat) row = some (row ++ stacksB (q.2.1.drop i)) := by
 intro m
 induction m with
 | zero => intro i row h; omega
 | succ m ih =>
  intro i row hm hr
  show R11_Encode_L3_body _ _ _ _ _ = _
  unfold R11_Encode_L3_body
  rcases hd : q.2.1.drop i with _ | ⟨x, r⟩
  ·have := drop_nil hd
   rw [dec_f (by omega), cond_false]; simp [stacksB]
  have hlt := drop_lt hd
  rw [hd] at hm hr
  simp only [List.length_cons] at hm hr
  have hx := hn x (mem_drop hd)
  have hv := (encI_len [x.c0, x.c1]).2
  simp only [List.length_cons, List.length_nil] at hv
  have hv0 := (venc_len 9 (zenc x.c0)).2
  have e : row ++ venc 9 (zenc x.c0) ++ venc 9 (zenc x.c1) = row ++ encI [x.c0, x.c1] := by simp [encI]
  rw [dec_t (by omega), cond_true, idxL_drop hd, Option.bind_some, R05_PutInt_eq hx.1 (by omega) (by omega), Option.bind_some, Option.bind_some, R05_PutInt_eq hx.2 (by rw [List.length_append]; omega) (by omega), Option.bind_some, step64 (by omega), e, ih (i + 1) _ (by rw [drop_step hd]; omega) (by rw [drop_step hd, List.length_append]; omega), drop_step hd]
  simp [stacksB]
theorem R11_Encode_eq {p : T_api_Packet} (hl : p.Events.length ≤ 100000) : R11_Encode 200000 p = some (pEncS p) := by
 unfold R11_Encode pEncS
 rw [R11_Check_eq hl, Option.bind_some]
 by_cases hp : packS p ≠ 0
 ·rw [bne_t hp, if_pos hp]; rfl
 have hp0 : packS p = 0 := by omega
 have hz := packS_zero hp0
 rw [bne_f hp0, if_neg hp, cond_false, show R11_Encode_L1 200000 p 200000 [] [] 0 [] = _ from R11_Encode_loop1 (by omega) 200000 0 [] [] [] (by simp; omega) (by simp) (by simp) (by simp; omega), Option.bind_some, List.drop_zero]
 rcases encAll_props p.Events [] [] [] good_nil with ⟨e, h1, h2⟩ | ⟨n', s', row', q, h1, h2, h3, h4, h5, h6, h7⟩
 ·rw [h1]; rfl
 ·rw [h1]
  simp only [encR]
  obtain ⟨g1, g2⟩ := h2.lens
  have h8 := h2.n1
  have h9 := h2.s1
  have l1 := (encI_len [p.Thread, p.Serial, p.Lost, (n'.length : Int)]).2
  have l2 := namesB_len g1
  have l3 := (encI_len [(s'.length : Int)]).2
  have l4 := stacksB_len (s := s')
  have l5 := (encI_len [(p.Events.length : Int)]).2
  have v1 := (venc_len 9 (zenc p.Thread)).2
  have v2 := (venc_len 9 (zenc p.Serial)).2
  have v3 := (venc_len 9 (zenc p.Lost)).2
  simp only [List.length_cons, List.length_nil] at l1 l3 l5 h7
  have e1 : [] ++ venc 9 (zenc p.Thread) ++ venc 9 (zenc p.Serial) ++ venc 9 (zenc p.Lost) ++ venc 9 (zenc (n'.length : Int)) = encI [p.Thread, p.Serial, p.Lost, (n'.length : Int)] := by simp [encI]
  have e2 : ∀ (r : List Int) (k : Int), r ++ venc 9 (zenc k) = r ++ encI [k] := by intro r k; simp [encI]
  rw [R05_PutInt_eq (by unfold okI64; omega) (by simp) (by omega), Option.bind_some, R05_PutInt_eq (by unfold okI64; omega) (by simp; omega) (by omega), Option.bind_some, R05_PutInt_eq (by unfold okI64; omega) (by simp; omega) (by omega), Option.bind_some, R05_PutInt_eq (by unfold okI64; omega) (by simp; omega) (by omega), Option.bind_some, e1,
   show R11_Encode_L2 200000 (n', s', row') 200000 0 (encI [p.Thread, p.Serial, p.Lost, (n'.length : Int)]) = _ from R11_Encode_loop2 (q := (n', s', row')) g1 h8 200000 0 _ (by simp; omega) (by simp; omega), Option.bind_some, List.drop_zero,
   R05_PutInt_eq (by unfold okI64; omega) (by simp only [List.length_append]; omega) (by omega), Option.bind_some, e2,
   show R11_Encode_L3 200000 (n', s', row') 200000 0 _ = _ from R11_Encode_loop3 (q := (n', s', row')) g2 h9 200000 0 _ (by simp; omega) (by simp only [List.drop_zero, List.length_append]; omega), Option.bind_some, List.drop_zero,
   R05_PutInt_eq (by unfold okI64; omega) (by simp only [List.length_append]; omega) (by omega), Option.bind_some, e2, need_t (by simp only [List.length_append]; omega), Option.bind_some]
  simp only [headB, List.append_assoc]
end Go.Ab
