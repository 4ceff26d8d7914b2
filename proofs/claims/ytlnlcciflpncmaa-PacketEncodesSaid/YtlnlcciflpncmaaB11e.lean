/- Plain laws of the functions below this seat's, laid anew from another seat's text. No conditions but those that the theorems name. -/
import Derived.Test.YtlnlcciflpncmaaP11xD
import Derived.Test.YtlnlcciflpncmaaB11a
import Derived.Test.YtlnlcciflpncmaaB11b
import Derived.Test.YtlnlcciflpncmaaB11c
import Derived.Test.YtlnlcciflpncmaaB11d
namespace Go.Ab
open Go
set_option linter.unusedVariables false
theorem R05_PutText_loop {F : Nat} {s : List Int} (hs : s.length ≤ 140737488000000) : ∀ (n i : Nat) (row : List Int), (s.drop i).length < n → row.length + (s.drop i).length ≤ 140737488355000 →
  R05_PutText_L1 F s n (i : Int) row = some (row ++ s.drop i) := by
 intro n
 induction n with
 | zero => intro i row h; omega
 | succ n ih =>
  intro i row hn hr
  show R05_PutText_L1_body F s (R05_PutText_L1 F s n) i row = _
  unfold R05_PutText_L1_body
  rcases hd : s.drop i with _ | ⟨c, r⟩
  ·have := drop_nil hd
   rw [dec_f (by omega), cond_false]; simp
  ·have hlt := drop_lt hd
   rw [hd] at hr hn
   simp only [List.length_cons] at hr hn
   rw [dec_t (by omega), cond_true, idxL_drop hd, Option.bind_some, need_t (by simp; omega), Option.bind_some, w64 (by omega) (by omega), show (i : Int) + 1 = ((i + 1 : Nat) : Int) by omega,
    ih (i + 1) _ (by rw [drop_step hd]; omega) (by rw [drop_step hd]; simp; omega), drop_step hd]
   simp
theorem R05_PutText_eq {F : Nat} {b s : List Int} (hl : b.length ≤ 1000000) (hs : s.length ≤ 1000000) (hF : s.length < F) (hF2 : 9 < F) : R05_PutText F b s = some (b ++ venc 9 (zenc s.length) ++ s) := by
 unfold R05_PutText
 have hv := (venc_len 9 (zenc s.length)).2
 rw [R05_PutInt_eq (by unfold okI64; omega) (by omega) hF2, Option.bind_some, show R05_PutText_L1 F s F 0 (b ++ venc 9 (zenc s.length)) = some (b ++ venc 9 (zenc s.length) ++ s.drop 0) from R05_PutText_loop (by omega) F 0 _ (by simpa using hF) (by simp; omega)]
 rfl
theorem codec_PutText_eq {F : Nat} {b s : List Int} (hl : b.length ≤ 1000000) (hs : s.length ≤ 1000000) (hF2 : 9 < F) : codec_PutText F b s = some (b ++ venc 9 (zenc s.length) ++ s) := by
 unfold codec_PutText
 have hv := (venc_len 9 (zenc s.length)).2
 rw [codec_PutInt_eq (by unfold okI64; omega) (by omega) hF2, Option.bind_some]
 generalize hr : b ++ venc 9 (zenc s.length) = r
 have hrl : r.length ≤ 1000010 := by rw [← hr]; simp; omega
 have e1 : w_i64 ((r.length : Int) + (s.length : Int)) = ((r.length + s.length : Nat) : Int) := by rw [w64 (by omega) (by omega)]; omega
 have c1 : cpy (List.replicate (r.length + s.length) (0 : Int)) 0 (r.length + s.length) r = r ++ List.replicate s.length 0 := by
  unfold cpy
  rw [show min r.length (r.length + s.length - 0) = r.length by omega, List.take_length, List.drop_replicate, show r.length + s.length - (0 + r.length) = s.length by omega]; rfl
 have c2 : cpy (r ++ List.replicate s.length (0 : Int)) r.length (r.length + s.length) s = r ++ s := by
  unfold cpy
  rw [show min s.length (r.length + s.length - r.length) = s.length by omega, List.take_length, List.take_left, List.drop_eq_nil_of_le (by simp), List.append_nil]
 simp only [e1, Int.toNat_natCast, c1, c2, List.length_append, List.length_replicate]
 rw [need_t (by omega), Option.bind_some, need_t (by omega), Option.bind_some, need_t (by omega), Option.bind_some, need_t (by omega), Option.bind_some]
def encI (l : List Int) : List Int := l.flatMap fun n => venc 9 (zenc n)
theorem encI_nil : encI [] = [] := rfl
theorem encI_snoc (l : List Int) (n : Int) : encI (l ++ [n]) = encI l ++ venc 9 (zenc n) := by simp [encI]
theorem encI_cons (n : Int) (l : List Int) : encI (n :: l) = venc 9 (zenc n) ++ encI l := by simp [encI]
theorem encI_len (l : List Int) : l.length ≤ (encI l).length ∧ (encI l).length ≤ 10 * l.length := by
 induction l with
 | nil => simp [encI]
 | cons n l ih =>
  have := venc_len 9 (zenc n)
  rw [encI_cons]
  simp only [List.length_append, List.length_cons]
  omega
theorem encI_ok {l : List Int} (h : ∀ x ∈ l, okI64 x) : ∀ x ∈ encI l, okU8 x := by
 intro x hx
 obtain ⟨n, hn, hx⟩ := List.mem_flatMap.1 hx
 exact venc_okZ (h n hn) x hx
def recInts (names : Int) (e : T_api_Event) (st : Int) : List Int :=
 [e.Kind, e.At] ++ (if useName e.Kind then [names] else []) ++ (if useN e.Kind then [e.N] else []) ++ (if useM e.Kind then [e.M] else []) ++ (if useStack e.Kind then [st] else [])
def putN (names : List (List Int)) (e : T_api_Event) : Int × List (List Int) × Int := if useName e.Kind then putS06 names e.Name else (0, names, 0)
def putT (names : List (List Int)) (stacks : List Arr2_Int) (e : T_api_Event) : Int × List (List Int) × List Arr2_Int × Int := if useStack e.Kind then putStackS names stacks e.Stack else (0, names, stacks, 0)
def encS (names : List (List Int)) (stacks : List Arr2_Int) (e : T_api_Event) : List Int × List (List Int) × List Arr2_Int × Int :=
 if checkS names stacks ≠ 0 then ([], [], [], 1) else if evS e ≠ 0 then ([], [], [], evS e) else
 if (putN names e).2.2 ≠ 0 then ([], [], [], (putN names e).2.2) else
 if (putT (putN names e).2.1 stacks e).2.2.2 ≠ 0 then ([], [], [], (putT (putN names e).2.1 stacks e).2.2.2) else
 (encI (recInts (putN names e).1 e (putT (putN names e).2.1 stacks e).1), (putT (putN names e).2.1 stacks e).2.1, (putT (putN names e).2.1 stacks e).2.2.1, 0)
theorem withinS_zero {n lo hi : Int} : withinS n lo hi = 0 ↔ lo ≤ n ∧ n ≤ hi := by
 unfold withinS
 split
 ·constructor
  ·intro h; cases h
  ·omega
 ·constructor
  ·omega
  ·intro _; rfl
theorem evS_zero {e : T_api_Event} (h : evS e = 0) : 0 ≤ e.At ∧ e.At ≤ 1000000000000 ∧ 1 ≤ e.Kind ∧ e.Kind ≤ 12 ∧ evBad e = false ∧ evText e = 0 ∧ evNum e = 0 := by
 unfold evS at h
 split at h
 ·cases h
 split at h
 ·cases h
 split at h
 ·cases h
 split at h
 ·contradiction
 rename_i h1 h2 h3 h4
 exact ⟨by omega, by omega, by omega, by omega, by simpa using h3, by omega, h⟩
theorem evS_range {e : T_api_Event} (h : evS e = 0) : okI64 e.At ∧ okI64 e.Kind ∧ okI64 e.N ∧ okI64 e.M := by
 obtain ⟨h1, h2, h3, h4, h5, h6, h7⟩ := evS_zero h
 unfold evBad at h5
 simp only [Bool.or_eq_false_iff, Bool.and_eq_false_iff, Bool.not_eq_false', bne_eq_false_iff_eq] at h5
 have w : ∀ {n lo hi : Int}, withinS n lo hi = 0 → lo ≤ n ∧ n ≤ hi := fun h => withinS_zero.1 h
 have hN : okI64 e.N := by
  rcases h5.2.1 with h | h
  case inr => unfold okI64; omega
  unfold useN at h
  simp only [decide_eq_true_eq] at h
  unfold evNum at h7
  unfold okI64
  split at h7
  ·omega
  split at h7
  ·have := w h7; omega
  split at h7
  ·have := w h7; omega
  split at h7
  ·have := w h7; omega
  split at h7
  ·split at h7
   ·rename_i h8; have := w h8.1; omega
   ·split at h7
    ·cases h7
    ·have := w h7; omega
  ·split at h7
   ·rename_i h8; have := w h8.1; omega
   ·have := w h7; omega
 have hM : okI64 e.M := by
  rcases h5.2.2.1 with h | h
  case inr => unfold okI64; omega
  have hk : e.Kind = 9 ∨ e.Kind = 11 := by unfold useM at h; simpa using h
  unfold evNum at h7
  unfold okI64
  rcases hk with hk | hk
  ·simp [hk] at h7
   split at h7
   ·have := w h7; omega
   ·split at h7
    ·cases h7
    ·rename_i h8; have : e.M = 0 := Classical.byContradiction fun hc => h8 ⟨h7, hc⟩
     omega
  ·simp [hk] at h7
   split at h7
   ·have := w h7; omega
   ·contradiction
 exact ⟨by unfold okI64; omega, by unfold okI64; omega, hN, hM⟩
theorem R08_Uses_eq {k : Int} (h : 1 ≤ k ∧ k ≤ 12) : R08_Uses k = some (useName k, useN k, useM k, useStack k) := by
 have : k = 1 ∨ k = 2 ∨ k = 3 ∨ k = 4 ∨ k = 5 ∨ k = 6 ∨ k = 7 ∨ k = 8 ∨ k = 9 ∨ k = 10 ∨ k = 11 ∨ k = 12 := by omega
 rcases this with h | h | h | h | h | h | h | h | h | h | h | h <;> subst h <;> rfl
theorem putS06_idx {n : List (List Int)} {x : List Int} (hl : n.length ≤ 100000) : okI64 (putS06 n x).1 := by
 have hr := findI_range x n
 have : findI x 0 n ≤ n.length := by
  rcases findI_spec x n 0 with ⟨h, _⟩ | ⟨j, h1, h⟩
  ·omega
  ·have := (List.getElem?_eq_some_iff.1 h1).1; omega
 unfold putS06 okI64
 split
 ·simp
 split
 ·simp only; omega
 split
 ·simp
 ·simp only; omega
theorem putL_idx {n0 : List (List Int)} {s0 : List Arr2_Int} : ∀ (l : List (List Int)) (at_ : Int) (n : List (List Int)) (s : List Arr2_Int), -1 ≤ at_ → at_ ≤ 100000 → s.length + l.length ≤ 100000 → okI64 (putL n0 s0 l at_ n s).1 := by
 intro l
 induction l with
 | nil => intro at_ n s h0 h1 _; simp only [putL, okI64]; omega
 | cons x r ih =>
  intro at_ n s h0 h1 h2
  simp only [List.length_cons] at h2
  simp only [putL]
  generalize putS06 n x = q
  have hr := findI_range (⟨at_, q.1⟩ : Arr2_Int) s
  have : findI (⟨at_, q.1⟩ : Arr2_Int) 0 s ≤ s.length := by
   rcases findI_spec (⟨at_, q.1⟩ : Arr2_Int) s 0 with ⟨h, _⟩ | ⟨j, h1, h⟩
   ·omega
   ·have := (List.getElem?_eq_some_iff.1 h1).1; omega
  split
  ·simp [okI64]
  split
  ·exact ih _ _ _ (by omega) (by omega) (by omega)
  split
  ·simp [okI64]
  ·exact ih _ _ _ (by omega) (by omega) (by simp only [List.length_append, List.length_singleton]; omega)
theorem putStackS_idx {n : List (List Int)} {s : List Arr2_Int} {l : List (List Int)} (hs : s.length ≤ 50000) : okI64 (putStackS n s l).1 := by
 unfold putStackS
 split
 ·simp [okI64]
 ·rename_i h
  have := (framesS_zero.1 (show framesS l = 0 by omega)).1
  exact putL_idx l (-1) n s (by omega) (by omega) (by omega)
theorem record_Encode_eq {names : List (List Int)} {stacks : List Arr2_Int} {e : T_api_Event} (hn : names.length ≤ 40000) (hs : stacks.length ≤ 40000) : record_Encode 200000 names stacks e = some (encS names stacks e) := by
 unfold record_Encode encS
 rw [intern_Check_eq, Option.bind_some]
 by_cases hc : checkS names stacks ≠ 0
 ·rw [bne_t hc, if_pos hc]; rfl
 rw [bne_f (by omega), cond_false, if_neg hc, event_Check_eq, Option.bind_some]
 by_cases he : evS e ≠ 0
 ·rw [bne_t he, if_pos he]; rfl
 rw [bne_f (by omega), cond_false, if_neg he]
 obtain ⟨r1, r2, r3, r4⟩ := evS_range (show evS e = 0 by omega)
 rw [show record_uses e.Kind = some (useName e.Kind, useN e.Kind, useM e.Kind, useStack e.Kind) from rfl, Option.bind_some]
 have hpn := putS06_len names e.Name
 have hpi := putS06_idx (n := names) (x := e.Name) (by omega)
 have l2 := venc_len 9 (zenc e.Kind)
 have l3 := venc_len 9 (zenc e.At)
 have l5 := venc_len 9 (zenc e.N)
 have l6 := venc_len 9 (zenc e.M)
 rw [codec_PutInt_eq r2 (by simp) (by omega), Option.bind_some, codec_PutInt_eq r1 (by simp; omega) (by omega), Option.bind_some]
 simp only [List.nil_append, intern_Put_eq (show names.length ≤ 100000 by omega), Option.bind_some]
 have e0 : encI [e.Kind, e.At] = venc 9 (zenc e.Kind) ++ venc 9 (zenc e.At) := by simp [encI]
 rw [← e0]
 unfold putN recInts
 have tail : ∀ (i : Int) (pre : List Int) (nm : List (List Int)), pre.length ≤ 3 → nm.length ≤ 50000 → 
   ((((bif useN e.Kind then (codec_PutInt 200000 (encI pre) e.N).bind fun r_8 => some r_8 else some (encI pre)) : Option (List Int))).bind fun (o_2 : (List Int)) =>
   (((bif useM e.Kind then (codec_PutInt 200000 o_2 e.M).bind fun r_9 => some r_9 else some o_2) : Option (List Int))).bind fun (o_3 : (List Int)) =>
   (((bif useStack e.Kind then (intern_PutStack 200000 nm stacks e.Stack).bind fun r_10 =>
   (bif (r_10.2.2.2 != (0 : Int)) then some (.inr ([], [], [], r_10.2.2.2)) else
   (codec_PutInt 200000 o_3 r_10.1).bind fun r_11 =>
   some (.inl (r_10.2.1, r_10.2.2.1, r_11))) else
   some (.inl (nm, stacks, o_3))) : Option (((List (List Int)) × (List Arr2_Int) × (List Int)) ⊕ ((List (Int)) × (List (List Int)) × (List (Arr2_Int)) × Int)))).bind fun (o_4 : ((List (List Int)) × (List Arr2_Int) × (List Int)) ⊕ ((List (Int)) × (List (List Int)) × (List (Arr2_Int)) × Int)) =>
   (match o_4 with
   | (.inl q_3) => some (q_3.2.2, q_3.1, q_3.2.1, (0 : Int))
   | (.inr q_4) => some q_4)) =
   some (if (putT nm stacks e).2.2.2 ≠ 0 then ([], [], [], (putT nm stacks e).2.2.2) else
    (encI (pre ++ (if useN e.Kind then [e.N] else []) ++ (if useM e.Kind then [e.M] else []) ++ (if useStack e.Kind then [(putT nm stacks e).1] else [])), (putT nm stacks e).2.1, (putT nm stacks e).2.2.1, 0)) := by
  intro i pre nm hp hnm
  have h1 : (((bif useN e.Kind then (codec_PutInt 200000 (encI pre) e.N).bind fun r_8 => some r_8 else some (encI pre)) : Option (List Int))) = some (encI (pre ++ (if useN e.Kind then [e.N] else []))) := by
   have := encI_len pre
   cases useN e.Kind
   ·simp
   ·rw [cond_true, codec_PutInt_eq r3 (by omega) (by omega), Option.bind_some]; simp [encI_snoc]
  rw [h1, Option.bind_some]
  have hq : (pre ++ (if useN e.Kind then [e.N] else [])).length ≤ 4 := by cases useN e.Kind <;> simp <;> omega
  generalize pre ++ (if useN e.Kind then [e.N] else []) = q at *
  have h2 : (((bif useM e.Kind then (codec_PutInt 200000 (encI q) e.M).bind fun r_9 => some r_9 else some (encI q)) : Option (List Int))) = some (encI (q ++ (if useM e.Kind then [e.M] else []))) := by
   have := encI_len q
   cases useM e.Kind
   ·simp
   ·rw [cond_true, codec_PutInt_eq r4 (by omega) (by omega), Option.bind_some]; simp [encI_snoc]
  rw [h2, Option.bind_some]
  have hq2 : (q ++ (if useM e.Kind then [e.M] else [])).length ≤ 5 := by cases useM e.Kind <;> simp <;> omega
  generalize q ++ (if useM e.Kind then [e.M] else []) = p at *
  have := encI_len p
  unfold putT
  cases useStack e.Kind
  ·simp
  ·have hpx := putStackS_idx (n := nm) (s := stacks) (l := e.Stack) (by omega)
   simp only [cond_true, if_true]
   rw [intern_PutStack_eq (by omega) (by omega), Option.bind_some]
   by_cases hz : (putStackS nm stacks e.Stack).2.2.2 ≠ 0
   ·rw [bne_t hz, if_pos hz]; rfl
   ·rw [bne_f (by omega), if_neg hz, cond_false, codec_PutInt_eq hpx (by omega) (by omega)]
    simp [encI_snoc]
 cases hun : useName e.Kind
 ·have := tail 0 [e.Kind, e.At] names (by simp) (by omega)
  simp only [cond_false, Bool.false_eq_true, if_false, List.append_nil, Option.bind_some, ne_eq, not_true_eq_false]
  exact this
 ·have l7 := venc_len 9 (zenc (putS06 names e.Name).1)
  simp only [cond_true, if_true]
  by_cases hp : (putS06 names e.Name).2.2 ≠ 0
  ·rw [bne_t hp, if_pos hp]; rfl
  ·have := tail 0 ([e.Kind, e.At] ++ [(putS06 names e.Name).1]) (putS06 names e.Name).2.1 (by simp) (by omega)
   rw [bne_f (by omega), if_neg hp, cond_false, codec_PutInt_eq hpi (by rw [e0]; simp; omega) (by omega), Option.bind_some, ← encI_snoc, Option.bind_some]
   exact this
end Go.Ab
