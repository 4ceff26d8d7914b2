/- Plain laws of the functions below this seat's, laid anew from another seat's text. No conditions but those that the theorems name. -/
import Derived.Test.YtlnlcciflpncmaaP11xD
import Derived.Test.YtlnlcciflpncmaaB11a
import Derived.Test.YtlnlcciflpncmaaB11b
import Derived.Test.YtlnlcciflpncmaaB11c
import Derived.Test.YtlnlcciflpncmaaB11d
import Derived.Test.YtlnlcciflpncmaaB11e
namespace Go.Ab
open Go
set_option linter.unusedVariables false
theorem R08_joined_eq {l : List Int} (hl : l.length ≤ 1000) (h : ∀ x ∈ l, okI64 x) : R08_joined 200000 l = some (encI l) := by
 unfold R08_joined
 have := loopL0 (l := l) (fun n i s => R08_joined_L1 200000 l n s i) (fun i r _ => encI l) (fun i s => s = encI (l.take i)) ?_ ?_ (n := 200000) (s := []) rfl (by omega)
 ·rw [this]; rfl
 ·intro n i s hi hs
  show R08_joined_L1_body _ _ _ _ _ = _
  unfold R08_joined_L1_body
  rw [dec_f (by omega), cond_false, hs, List.take_of_length_le hi]
 ·intro n i s x r hd hlt hs ih
  show R08_joined_L1_body _ _ _ _ _ = _
  unfold R08_joined_L1_body
  have := encI_len (l.take i)
  rw [List.length_take] at this
  simp (disch := omega) only [dec_t, cond_true, idxL_drop hd, Option.bind_some, step64]
  rw [hs, R05_PutInt_eq (h x (mem_drop hd)) (by omega) (by omega), Option.bind_some]
  exact ih _ (by rw [take_step hd, encI_snoc])
theorem R08_Encode_eq {names : List (List Int)} {stacks : List Arr2_Int} {e : T_api_Event} (hn : names.length ≤ 40000) (hs : stacks.length ≤ 40000) : R08_Encode 200000 names stacks e = some (encS names stacks e) := by
 unfold R08_Encode encS
 rw [show R06_Check 200000 names stacks = some (checkS names stacks) from R06_Check_eq, Option.bind_some]
 by_cases hc : checkS names stacks ≠ 0
 ·rw [bne_t hc, if_pos hc]; rfl
 rw [bne_f (by omega), cond_false, if_neg hc, R07_Check_eq, Option.bind_some]
 by_cases he : evS e ≠ 0
 ·rw [bne_t he, if_pos he]; rfl
 rw [bne_f (by omega), cond_false, if_neg he]
 obtain ⟨r1, r2, r3, r4⟩ := evS_range (show evS e = 0 by omega)
 obtain ⟨_, _, k1, k2, _⟩ := evS_zero (show evS e = 0 by omega)
 rw [R08_Uses_eq ⟨k1, k2⟩, Option.bind_some]
 have hpn := putS06_len names e.Name
 have hpi := putS06_idx (n := names) (x := e.Name) (by omega)
 simp only [R06_Put_eq (show names.length ≤ 100000 by omega), Option.bind_some]
 unfold putN recInts
 have tail : ∀ (pre : List Int) (nm : List (List Int)), pre.length ≤ 3 → (∀ x ∈ pre, okI64 x) → nm.length ≤ 50000 →
   ((((bif useN e.Kind then (need (((pre).length + (([e.N] : List Int)).length) * 8 ≤ 140737488355328)).bind fun _ => some (pre ++ ([e.N] : List Int)) else some pre) : Option (List Int))).bind fun (o_2 : (List Int)) =>
   (((bif useM e.Kind then (need (((o_2).length + (([e.M] : List Int)).length) * 8 ≤ 140737488355328)).bind fun _ => some (o_2 ++ ([e.M] : List Int)) else some o_2) : Option (List Int))).bind fun (o_3 : (List Int)) =>
   (((bif useStack e.Kind then (R06_PutStack 200000 nm stacks e.Stack).bind fun r_5 =>
   (bif (r_5.2.2.2 != (0 : Int)) then some (.inr ([], [], [], r_5.2.2.2)) else
   (need (((o_3).length + (([r_5.1] : List Int)).length) * 8 ≤ 140737488355328)).bind fun _ =>
   some (.inl (r_5.2.1, r_5.2.2.1, (o_3 ++ ([r_5.1] : List Int))))) else
   some (.inl (nm, stacks, o_3))) : Option (((List (List Int)) × (List Arr2_Int) × (List Int)) ⊕ ((List (Int)) × (List (List Int)) × (List (Arr2_Int)) × Int)))).bind fun (o_4 : ((List (List Int)) × (List Arr2_Int) × (List Int)) ⊕ ((List (Int)) × (List (List Int)) × (List (Arr2_Int)) × Int)) =>
   (match o_4 with
   | (.inl q_3) => (R08_joined 200000 q_3.2.2).bind fun r_6 => some (r_6, q_3.1, q_3.2.1, (0 : Int))
   | (.inr q_4) => some q_4)) =
   some (if (putT nm stacks e).2.2.2 ≠ 0 then ([], [], [], (putT nm stacks e).2.2.2) else
    (encI (pre ++ (if useN e.Kind then [e.N] else []) ++ (if useM e.Kind then [e.M] else []) ++ (if useStack e.Kind then [(putT nm stacks e).1] else [])), (putT nm stacks e).2.1, (putT nm stacks e).2.2.1, 0)) := by
  intro pre nm hp hok hnm
  have h1 : (((bif useN e.Kind then (need (((pre).length + (([e.N] : List Int)).length) * 8 ≤ 140737488355328)).bind fun _ => some (pre ++ ([e.N] : List Int)) else some pre) : Option (List Int))) = some (pre ++ (if useN e.Kind then [e.N] else [])) := by
   cases useN e.Kind
   ·simp
   ·rw [cond_true, need_t (by simp; omega), Option.bind_some]; rfl
  rw [h1, Option.bind_some]
  have hq : (pre ++ (if useN e.Kind then [e.N] else [])).length ≤ 4 := by cases useN e.Kind <;> simp <;> omega
  have hqo : ∀ x ∈ (pre ++ (if useN e.Kind then [e.N] else [])), okI64 x := by
   intro x hx
   rcases List.mem_append.1 hx with hx | hx
   ·exact hok x hx
   ·cases hu : useN e.Kind <;> rw [hu] at hx <;> simp at hx
    rw [hx]; exact r3
  generalize pre ++ (if useN e.Kind then [e.N] else []) = q at *
  have h2 : (((bif useM e.Kind then (need (((q).length + (([e.M] : List Int)).length) * 8 ≤ 140737488355328)).bind fun _ => some (q ++ ([e.M] : List Int)) else some q) : Option (List Int))) = some (q ++ (if useM e.Kind then [e.M] else [])) := by
   cases useM e.Kind
   ·simp
   ·rw [cond_true, need_t (by simp; omega), Option.bind_some]; rfl
  rw [h2, Option.bind_some]
  have hq2 : (q ++ (if useM e.Kind then [e.M] else [])).length ≤ 5 := by cases useM e.Kind <;> simp <;> omega
  have hqo2 : ∀ x ∈ (q ++ (if useM e.Kind then [e.M] else [])), okI64 x := by
   intro x hx
   rcases List.mem_append.1 hx with hx | hx
   ·exact hqo x hx
   ·cases hu : useM e.Kind <;> rw [hu] at hx <;> simp at hx
    rw [hx]; exact r4
  generalize q ++ (if useM e.Kind then [e.M] else []) = p at *
  unfold putT
  cases useStack e.Kind
  ·simp only [cond_false, Option.bind_some]
   rw [R08_joined_eq (by omega) hqo2]; simp
  ·have hpx := putStackS_idx (n := nm) (s := stacks) (l := e.Stack) (by omega)
   simp only [cond_true, if_true]
   rw [R06_PutStack_eq (by omega) (by omega), Option.bind_some]
   by_cases hz : (putStackS nm stacks e.Stack).2.2.2 ≠ 0
   ·rw [bne_t hz, if_pos hz]; rfl
   ·rw [bne_f (by omega), if_neg hz, cond_false, need_t (by simp; omega), Option.bind_some, Option.bind_some]
    simp only
    rw [R08_joined_eq (by simp; omega) (fun x hx => by
     rcases List.mem_append.1 hx with hx | hx
     ·exact hqo2 x hx
     ·simp at hx; rw [hx]; exact hpx)]
    rfl
 have hbase : ∀ x ∈ [e.Kind, e.At], okI64 x := fun x hx => by
  simp at hx
  rcases hx with rfl | rfl
  ·exact r2
  ·exact r1
 cases hun : useName e.Kind
 ·have := tail [e.Kind, e.At] names (by simp) hbase (by omega)
  simp only [cond_false, Bool.false_eq_true, if_false, List.append_nil, Option.bind_some, ne_eq, not_true_eq_false]
  exact this
 ·simp only [cond_true, if_true]
  by_cases hp : (putS06 names e.Name).2.2 ≠ 0
  ·rw [bne_t hp, if_pos hp]; rfl
  ·have := tail ([e.Kind, e.At] ++ [(putS06 names e.Name).1]) (putS06 names e.Name).2.1 (by simp) (fun x hx => by
    rcases List.mem_append.1 hx with hx | hx
    ·exact hbase x hx
    ·simp at hx; rw [hx]; exact hpi) (by omega)
   rw [bne_f (by omega), if_neg hp, cond_false, need_t (by simp), Option.bind_some, Option.bind_some]
   exact this
def numF (b : List Int) (u f : Int) : Int × Int × Int := if f ≠ 0 then (0, u, f) else ((vrd (b.drop u.toNat) 0 0).1, u + (vrd (b.drop u.toNat) 0 0).2.1, (vrd (b.drop u.toNat) 0 0).2.2)
end Go.Ab
