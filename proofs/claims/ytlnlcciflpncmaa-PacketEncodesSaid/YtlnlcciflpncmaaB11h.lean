/- Plain laws of the functions below this seat's, laid anew from another seat's text. No conditions but those that the theorems name. -/
import Derived.Test.YtlnlcciflpncmaaP11xD
import Derived.Test.YtlnlcciflpncmaaB11a
import Derived.Test.YtlnlcciflpncmaaB11b
import Derived.Test.YtlnlcciflpncmaaB11c
import Derived.Test.YtlnlcciflpncmaaB11d
import Derived.Test.YtlnlcciflpncmaaB11e
import Derived.Test.YtlnlcciflpncmaaB11f
import Derived.Test.YtlnlcciflpncmaaB11g
namespace Go.Ab
open Go
set_option linter.unusedVariables false
def KeptR (n : List (List Int)) (s : List Arr2_Int) : List T_api_Event → List (List Int) → Prop
 | [], [] => True
 | e :: r, L :: q => Coded n s e L ∧ KeptR n s r q
 | _, _ => False
theorem KeptR.mono {n n' : List (List Int)} {s s' : List Arr2_Int} (hn : n <+: n') (hs : s <+: s') : ∀ {l : List T_api_Event} {q : List (List Int)}, KeptR n s l q → KeptR n' s' l q
 | [], [], h => trivial
 | _ :: _, _ :: _, h => ⟨h.1.mono hn hs, KeptR.mono hn hs h.2⟩
theorem good_nil : Good [] [] := ⟨by simp, by simp, rfl, rfl⟩
def encAll : List (List Int) → List Arr2_Int → List Int → List T_api_Event → ((List (List Int)) × (List Arr2_Int) × (List Int)) ⊕ Int
 | n, s, row, [] => .inl (n, s, row)
 | n, s, row, e :: r => if (encS n s e).2.2.2 ≠ 0 then .inr (encS n s e).2.2.2 else encAll (encS n s e).2.1 (encS n s e).2.2.1 (row ++ (encS n s e).1) r
def encR (o : ((List (List Int)) × (List Arr2_Int) × (List Int)) ⊕ Int) : ((List (List Int)) × (List Arr2_Int) × (List Int)) ⊕ (List Int × Int) := match o with | .inl q => .inl q | .inr e => .inr ([], e)
theorem encAll_props : ∀ (l : List T_api_Event) (n : List (List Int)) (s : List Arr2_Int) (row : List Int), Good n s →
  (∃ e, encAll n s row l = .inr e ∧ e ≠ 0) ∨ (∃ n' s' row' q, encAll n s row l = .inl (n', s', row') ∧ Good n' s' ∧ n <+: n' ∧ s <+: s' ∧ row' = row ++ q.flatMap encI ∧ KeptR n' s' l q ∧ row'.length ≤ row.length + 50 * l.length) := by
 intro l
 induction l with
 | nil => intro n s row g; exact .inr ⟨n, s, row, [], rfl, g, List.prefix_refl _, List.prefix_refl _, by simp, trivial, by simp⟩
 | cons x r ih =>
  intro n s row g
  simp only [encAll]
  rcases encS_coded (n := n) (s := s) (e := x) with ⟨k1, _⟩ | ⟨k1, k2, k3, k4, k5, L, k6, k7⟩
  ·rw [if_pos k1]; exact .inl ⟨_, rfl, k1⟩
  ·rw [if_neg (by omega), k6]
   obtain ⟨c1, c2, c3⟩ := coded_ok k3 k7
   rcases ih _ _ (row ++ encI L) k3 with ⟨e, h1, h2⟩ | ⟨n', s', row', q, h1, h2, h3, h4, h5, h6, h7⟩
   ·exact .inl ⟨e, h1, h2⟩
   ·refine .inr ⟨n', s', row', L :: q, h1, h2, k4.trans h3, k5.trans h4, by rw [h5]; simp, ⟨k7.mono h3 h4, h6⟩, ?_⟩
    rw [List.length_append] at h7; simp only [List.length_cons]; omega
theorem packet_Encode_loop1 {p : T_api_Packet} (hl : p.Events.length ≤ 1000) : ∀ (m i : Nat) (n : List (List Int)) (s : List Arr2_Int) (row : List Int), (p.Events.drop i).length < m → n.length ≤ 1000 → s.length ≤ 1000 → row.length + 50 * (p.Events.drop i).length ≤ 100000 →
  packet_Encode_L1 200000 p m n s (i : Nat) row = some (encR (encAll n s row (p.Events.drop i))) := by
 intro m
 induction m with
 | zero => intro i n s row h; omega
 | succ m ih =>
  intro i n s row hm hn hs hr
  show packet_Encode_L1_body _ _ _ _ _ _ _ = _
  unfold packet_Encode_L1_body
  rcases hd : p.Events.drop i with _ | ⟨x, r⟩
  ·have := drop_nil hd
   rw [dec_f (by omega)]; rfl
  have hlt := drop_lt hd
  rw [hd] at hm hr
  simp only [List.length_cons] at hm hr
  rw [dec_t (by omega), cond_true, idxL_drop hd, Option.bind_some, record_Encode_eq (by omega) (by omega), Option.bind_some]
  simp only [encAll]
  rcases encS_coded (n := n) (s := s) (e := x) with ⟨k1, k2⟩ | ⟨k1, k2, k3, k4, k5, L, k6, k7⟩
  ·rw [bne_t k1, if_pos k1]; rfl
  ·obtain ⟨c1, c2, c3⟩ := coded_ok k3 k7
   have g1 := k3.n1
   have g2 := k3.s1
   rw [bne_f k1, if_neg (by omega), cond_false, k6, need_t (by omega), Option.bind_some, step64 (by omega), ih (i + 1) _ _ _ (by rw [drop_step hd]; omega) g1 g2 (by rw [drop_step hd, List.length_append]; omega), drop_step hd]
theorem packet_puts_v2_eq {l : List Int} (h : ∀ x ∈ l, okI64 x) (hl : l.length ≤ 1000) : packet_puts_v2 200000 l = some (encI l) := by
 unfold packet_puts_v2
 have key : ∀ (m i : Nat) (row : List Int), (l.drop i).length < m → row.length + 10 * (l.drop i).length ≤ 1000000 → packet_puts_v2_L1 200000 l m (i : Nat) row = some (row ++ encI (l.drop i)) := by
  intro m
  induction m with
  | zero => intro i row h; omega
  | succ m ih =>
   intro i row hm hr
   show packet_puts_v2_L1_body _ _ _ _ _ = _
   unfold packet_puts_v2_L1_body
   rcases hd : l.drop i with _ | ⟨x, r⟩
   ·have := drop_nil hd
    rw [dec_f (by omega), cond_false, encI_nil, List.append_nil]
   have hlt := drop_lt hd
   rw [hd] at hm hr
   simp only [List.length_cons] at hm hr
   have hv := (venc_len 9 (zenc x)).2
   rw [dec_t (by omega), cond_true, idxL_drop hd, Option.bind_some, codec_PutInt_eq (h x (mem_drop hd)) (by omega) (by omega), Option.bind_some, step64 (by omega), ih (i + 1) _ (by rw [drop_step hd]; omega) (by rw [drop_step hd, List.length_append]; omega), drop_step hd, encI_cons, List.append_assoc]
 rw [show packet_puts_v2_L1 200000 l 200000 0 [] = _ from key 200000 0 [] (by simp; omega) (by simp; omega)]; simp
theorem packet_puts_v3_eq {l b : List Int} (h : ∀ x ∈ l, okI64 x) (hl : l.length ≤ 1000) (hb : b.length ≤ 900000) : packet_puts_v3 200000 b l = some (b ++ encI l) := by
 unfold packet_puts_v3
 have key : ∀ (m i : Nat) (row : List Int), (l.drop i).length < m → row.length + 10 * (l.drop i).length ≤ 1000000 → packet_puts_v3_L1 200000 l m (i : Nat) row = some (row ++ encI (l.drop i)) := by
  intro m
  induction m with
  | zero => intro i row h; omega
  | succ m ih =>
   intro i row hm hr
   show packet_puts_v3_L1_body _ _ _ _ _ = _
   unfold packet_puts_v3_L1_body
   rcases hd : l.drop i with _ | ⟨x, r⟩
   ·have := drop_nil hd
    rw [dec_f (by omega), cond_false, encI_nil, List.append_nil]
   have hlt := drop_lt hd
   rw [hd] at hm hr
   simp only [List.length_cons] at hm hr
   have hv := (venc_len 9 (zenc x)).2
   rw [dec_t (by omega), cond_true, idxL_drop hd, Option.bind_some, codec_PutInt_eq (h x (mem_drop hd)) (by omega) (by omega), Option.bind_some, step64 (by omega), ih (i + 1) _ (by rw [drop_step hd]; omega) (by rw [drop_step hd, List.length_append]; omega), drop_step hd, encI_cons, List.append_assoc]
 rw [show packet_puts_v3_L1 200000 l 200000 0 b = _ from key 200000 0 b (by simp; omega) (by simp; omega)]; simp
def textB (x : List Int) : List Int := venc 9 (zenc x.length) ++ x
def namesB (n : List (List Int)) : List Int := n.flatMap textB
def stacksB (s : List Arr2_Int) : List Int := s.flatMap fun p => encI [p.c0, p.c1]
theorem nameS_len {x : List Int} (h : nameS x = 0) : x.length ≤ 40 := by
 unfold nameS at h
 by_cases hx : x = [] ∨ 40 < x.length
 ·rw [if_pos hx] at h; cases h
 ·omega
theorem packet_Encode_loop2 {q : (List (List Int)) × (List Arr2_Int) × (List Int)} (hn : ∀ x ∈ q.1, x.length ≤ 40) (hl : q.1.length ≤ 1000) : ∀ (m i : Nat) (row : List Int), (q.1.drop i).length < m → row.length + 50 * (q.1.drop i).length ≤ 200000 →
  packet_Encode_L2 200000 q m (i : Nat) row = some (row ++ namesB (q.1.drop i)) := by
 intro m
 induction m with
 | zero => intro i row h; omega
 | succ m ih =>
  intro i row hm hr
  show packet_Encode_L2_body _ _ _ _ _ = _
  unfold packet_Encode_L2_body
  rcases hd : q.1.drop i with _ | ⟨x, r⟩
  ·have := drop_nil hd
   rw [dec_f (by omega), cond_false]; simp [namesB]
  have hlt := drop_lt hd
  rw [hd] at hm hr
  simp only [List.length_cons] at hm hr
  have hx := hn x (mem_drop hd)
  have hv := (venc_len 9 (zenc x.length)).2
  rw [dec_t (by omega), cond_true, idxL_drop hd, Option.bind_some, codec_PutText_eq (by omega) (by omega) (by omega), Option.bind_some, step64 (by omega), ih (i + 1) _ (by rw [drop_step hd]; omega) (by rw [drop_step hd, List.length_append, List.length_append]; omega), drop_step hd]
  simp [namesB, textB]
theorem packet_Encode_loop3 {q : (List (List Int)) × (List Arr2_Int) × (List Int)} (hn : ∀ x ∈ q.2.1, okI64 x.c0 ∧ okI64 x.c1) (hl : q.2.1.length ≤ 1000) : ∀ (m i : Nat) (row : List Int), (q.2.1.drop i).length < m → row.length + 20 * (q.2.1.drop i).length ≤ 200000 →
  packet_Encode_L3 200000 q m (i : Nat) row = some (row ++ stacksB (q.2.1.drop i)) := by
 intro m
 induction m with
 | zero => intro i row h; omega
 | succ m ih =>
  intro i row hm hr
  show packet_Encode_L3_body _ _ _ _ _ = _
  unfold packet_Encode_L3_body
  rcases hd : q.2.1.drop i with _ | ⟨x, r⟩
  ·have := drop_nil hd
   rw [dec_f (by omega), cond_false]; simp [stacksB]
  have hlt := drop_lt hd
  rw [hd] at hm hr
  simp only [List.length_cons] at hm hr
  have hx := hn x (mem_drop hd)
  have hv := (encI_len [x.c0, x.c1]).2
  simp only [List.length_cons, List.length_nil] at hv
  rw [dec_t (by omega), cond_true, idxL_drop hd, Option.bind_some, packet_puts_v3_eq (fun y hy => by simp at hy; rcases hy with rfl | rfl; exact hx.1; exact hx.2) (by simp) (by omega), Option.bind_some, step64 (by omega), ih (i + 1) _ (by rw [drop_step hd]; omega) (by rw [drop_step hd, List.length_append]; omega), drop_step hd]
  simp [stacksB]
def headB (p : T_api_Packet) (n : List (List Int)) (s : List Arr2_Int) : List Int := encI [p.Thread, p.Serial, p.Lost, (n.length : Int)] ++ namesB n ++ encI [(s.length : Int)] ++ stacksB s ++ encI [(p.Events.length : Int)]
def pEncS (p : T_api_Packet) : List Int × Int :=
 if packS p ≠ 0 then ([], packS p) else match encAll [] [] [] p.Events with
 | .inr e => ([], e)
 | .inl q => (headB p q.1 q.2.1 ++ q.2.2, 0)
theorem namesB_len : ∀ {n : List (List Int)}, (∀ x ∈ n, x.length ≤ 40) → (namesB n).length ≤ 50 * n.length := by
 intro n
 induction n with
 | nil => intro _; simp [namesB]
 | cons x r ih =>
  intro h
  have h1 := ih (fun y hy => h y (by simp [hy]))
  have h2 := h x (by simp)
  have h3 := (venc_len 9 (zenc x.length)).2
  simp only [namesB, textB, List.flatMap_cons, List.length_append, List.length_cons] at *
  omega
theorem stacksB_len : ∀ {s : List Arr2_Int}, (stacksB s).length ≤ 20 * s.length := by
 intro s
 induction s with
 | nil => simp [stacksB]
 | cons x r ih =>
  have hv := (encI_len [x.c0, x.c1]).2
  simp only [stacksB, List.flatMap_cons, List.length_append, List.length_cons, List.length_nil] at *
  omega
theorem Good.lens {n : List (List Int)} {s : List Arr2_Int} (g : Good n s) : (∀ x ∈ n, x.length ≤ 40) ∧ (∀ x ∈ s, okI64 x.c0 ∧ okI64 x.c1) := by
 refine ⟨fun x hx => nameS_len (g.valid hx), fun x hx => ?_⟩
 obtain ⟨i, hi⟩ := List.getElem?_of_mem hx
 have hil := (List.getElem?_eq_some_iff.1 hi).1
 have := g.pair hi
 have h1 := g.n1
 have h2 := g.s1
 unfold okI64; omega
theorem pk_ints {p : T_api_Packet} (hp : packS p = 0) {k : Int} (h0 : 0 ≤ k) (h1 : k ≤ 1000) : ∀ x ∈ [p.Thread, p.Serial, p.Lost, k], okI64 x := by
 have := packS_zero hp
 intro x hx
 simp at hx
 unfold okI64
 rcases hx with rfl | rfl | rfl | rfl <;> omega
theorem packet_Encode_eq {p : T_api_Packet} (hl : p.Events.length ≤ 100000) : packet_Encode 200000 p = some (pEncS p) := by
 unfold packet_Encode pEncS
 rw [packet_Check_eq hl, Option.bind_some]
 by_cases hp : packS p ≠ 0
 ·rw [bne_t hp, if_pos hp]; rfl
 have hp0 : packS p = 0 := by omega
 have hz := packS_zero hp0
 rw [bne_f hp0, if_neg hp, cond_false, show packet_Encode_L1 200000 p 200000 [] [] 0 [] = _ from packet_Encode_loop1 (by omega) 200000 0 [] [] [] (by simp; omega) (by simp) (by simp) (by simp; omega), Option.bind_some, List.drop_zero]
 rcases encAll_props p.Events [] [] [] good_nil with ⟨e, h1, h2⟩ | ⟨n', s', row', q, h1, h2, h3, h4, h5, h6, h7⟩
 ·rw [h1]; rfl
 ·rw [h1]
  simp only [encR]
  obtain ⟨g1, g2⟩ := h2.lens
  have h8 := h2.n1
  have h9 := h2.s1
  have l1 := (encI_len [p.Thread, p.Serial, p.Lost, (n'.length : Int)]).2
  have l2 := namesB_len g1
  have l3 := (encI_len [(s'.length : Int)]).2
  have l4 := stacksB_len (s := s')
  have l5 := (encI_len [(p.Events.length : Int)]).2
  simp only [List.length_cons, List.length_nil] at l1 l3 l5 h7
  rw [packet_puts_v2_eq (pk_ints hp0 (by omega) (by omega)) (by simp), Option.bind_some,
   show packet_Encode_L2 200000 (n', s', row') 200000 0 (encI [p.Thread, p.Serial, p.Lost, (n'.length : Int)]) = _ from packet_Encode_loop2 (q := (n', s', row')) g1 h8 200000 0 _ (by simp; omega) (by simp; omega), Option.bind_some, List.drop_zero,
   packet_puts_v3_eq (fun x hx => by simp at hx; subst hx; unfold okI64; omega) (by simp) (by rw [List.length_append]; simp only; omega), Option.bind_some,
   show packet_Encode_L3 200000 (n', s', row') 200000 0 _ = _ from packet_Encode_loop3 (q := (n', s', row')) g2 h9 200000 0 _ (by simp; omega) (by simp only [List.drop_zero, List.length_append]; omega), Option.bind_some, List.drop_zero,
   packet_puts_v3_eq (fun x hx => by simp at hx; subst hx; unfold okI64; omega) (by simp) (by simp only [List.length_append]; omega), Option.bind_some, need_t (by simp only [List.length_append]; omega), Option.bind_some]
  simp only [headB, List.append_assoc]
end Go.Ab
