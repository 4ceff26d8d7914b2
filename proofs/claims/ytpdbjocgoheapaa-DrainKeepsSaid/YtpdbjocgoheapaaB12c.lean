/- Plain laws of the functions below this seat's, laid anew from another seat's text. No conditions but those that the theorems name. -/
import Derived.Test.YtpdbjocgoheapaaP12xD
import Derived.Test.YtpdbjocgoheapaaB12b
namespace Go.Ab
open Go
set_option linter.unusedVariables false
def useName (k : Int) : Bool := (k == 1) || ((k == 3) || (k == 4))
def useN (k : Int) : Bool := decide (k ≥ 4)
def useM (k : Int) : Bool := (k == 9) || (k == 11)
def useStack (k : Int) : Bool := (k == 5) || (k == 11)
def withinS (n lo hi : Int) : Int := if n < lo ∨ n > hi then 2 else 0
def evNum (e : T_api_Event) : Int :=
  if e.Kind = 1 ∨ e.Kind = 2 ∨ e.Kind = 3 then 0 else if e.Kind = 4 then withinS e.N (-1000000000000000) 1000000000000000 else if e.Kind = 5 then withinS e.N 1 1000000000000 else
  if e.Kind = 8 then withinS e.N 0 63 else
  if e.Kind = 9 then (if withinS e.N 0 3 = 0 ∧ e.N = 2 then withinS e.M 0 1000000000000000 else if withinS e.N 0 3 = 0 ∧ e.M ≠ 0 then 1 else withinS e.N 0 3) else
  if withinS e.N 0 1000000000000000 = 0 ∧ e.Kind = 11 then withinS e.M 1 1000000000000 else withinS e.N 0 1000000000000000
/-- Fields that the kind does not use are empty. -/
def evBad (e : T_api_Event) : Bool :=
  (!useName e.Kind && !(e.Name == [])) || ((!useN e.Kind && (e.N != 0)) || ((!useM e.Kind && (e.M != 0)) || (!useStack e.Kind && decide (0 < e.Stack.length))))
def evText (e : T_api_Event) : Int := if useName e.Kind then nameS e.Name else if useStack e.Kind then framesS e.Stack else 0
def evS (e : T_api_Event) : Int :=
  if e.At < 0 ∨ e.At > 1000000000000 then 2 else if e.Kind < 1 ∨ e.Kind > 12 then 1 else if evBad e then 1 else if evText e ≠ 0 then evText e else evNum e
theorem tree07 (a b c d p q r s : Bool) : ((bif !a then (bif !p then some true else (bif !b then (bif q then some true else (bif !c then (bif r then some true else (bif !d then some s else some false)) else (bif !d then some s else some false))) else
    (bif !c then (bif r then some true else (bif !d then some s else some false)) else (bif !d then some s else some false)))) else (bif !b then (bif q then some true else (bif !c then (bif r then some true else (bif !d then some s else some false)) else (bif !d then some s else some false))) else
    (bif !c then (bif r then some true else (bif !d then some s else some false)) else (bif !d then some s else some false)))) : Option Bool) = some ((!a && !p) || ((!b && q) || ((!c && r) || (!d && s)))) := by
  cases a <;> cases b <;> cases c <;> cases d <;> cases p <;> cases q <;> cases r <;> cases s <;> rfl
theorem evBad_eq (e : T_api_Event) : evBad e = ((!useName e.Kind && !(e.Name == ([] : List Int))) || ((!useN e.Kind && (e.N != (0 : Int))) || ((!useM e.Kind && (e.M != (0 : Int))) || (!useStack e.Kind && decide ((((e.Stack).length : Nat) : Int) > (0 : Int)))))) := by
  unfold evBad
  have : decide (0 < e.Stack.length) = decide ((((e.Stack).length : Nat) : Int) > (0 : Int)) := by
    by_cases h : 0 < e.Stack.length
    · rw [dec_t h, dec_t (by omega)]
    · rw [dec_f h, dec_f (by omega)]
  rw [this]
theorem nameStack (k : Int) (h : useName k = true) : useStack k = false := by
  unfold useName useStack at *
  simp at *
  omega
/-- What the form of a kind says. -/
def formS (k : Int) : T_event_form := (idxL (match event_forms with | some l => l | none => []) k).getD ⟨[], false, false, false, false, 0, 0, 0, 0⟩
theorem event_formOf_eq {k : Int} : event_formOf k = some (if k < 1 ∨ k > 12 then ((⟨[], false, false, false, false, 0, 0, 0, 0⟩ : T_event_form), false) else (formS k, true)) := by
  by_cases h : k < 1 ∨ k > 12
  · rw [if_pos h]
    unfold event_formOf event_forms
    rw [Option.bind_some]
    exact cond_tt (or_t (show k < 1 ∨ k ≥ ((13 : Nat) : Int) by omega)) rfl
  · rw [if_neg h]
    have : k = 1 ∨ k = 2 ∨ k = 3 ∨ k = 4 ∨ k = 5 ∨ k = 6 ∨ k = 7 ∨ k = 8 ∨ k = 9 ∨ k = 10 ∨ k = 11 ∨ k = 12 := by omega
    rcases this with h | h | h | h | h | h | h | h | h | h | h | h <;> subst h <;> rfl
theorem formS_uses {k : Int} (h : 1 ≤ k ∧ k ≤ 12) : (formS k).name = useName k ∧ (formS k).n = useN k ∧ (formS k).m = useM k ∧ (formS k).stack = useStack k := by
  have : k = 1 ∨ k = 2 ∨ k = 3 ∨ k = 4 ∨ k = 5 ∨ k = 6 ∨ k = 7 ∨ k = 8 ∨ k = 9 ∨ k = 10 ∨ k = 11 ∨ k = 12 := by omega
  rcases this with h | h | h | h | h | h | h | h | h | h | h | h <;> subst h <;> exact ⟨rfl, rfl, rfl, rfl⟩
theorem framesS_nil {l : List (List Int)} (h : ¬ 0 < l.length) : framesS l = 0 := by
  have : l = [] := List.eq_nil_of_length_eq_zero (by omega)
  rw [this]; rfl
theorem evBad_stack {e : T_api_Event} (h : evBad e = false) (hs : useStack e.Kind = false) : ¬ 0 < e.Stack.length := by
  unfold evBad at h
  rw [hs] at h
  simp at h
  simp [h.2.2.2]
theorem event_names_eq {e : T_api_Event} (hk : 1 ≤ e.Kind ∧ e.Kind ≤ 12) (hb : evBad e = false) : event_names 200000 (formS e.Kind) e = some (evText e) := by
  unfold event_names evText
  rw [(formS_uses hk).1, intern_Name_eq, intern_Frames_eq]
  cases hn : useName e.Kind
  · cases hs : useStack e.Kind
    · rw [framesS_nil (evBad_stack hb hs)]; rfl
    · rfl
  · rfl
theorem evNum_form {e : T_api_Event} (hk : 1 ≤ e.Kind ∧ e.Kind ≤ 12) (hb : evBad e = false) :
    (bif ((formS e.Kind).n && (decide (e.N < (formS e.Kind).least) || decide (e.N > (formS e.Kind).most))) then some (2 : Int) else
    (bif ((e.Kind == (9 : Int)) && ((e.N != (2 : Int)) && (e.M != (0 : Int)))) then some (1 : Int) else
    (bif ((formS e.Kind).m && (bif decide (e.M < (formS e.Kind).mLeast) then ((e.Kind != (9 : Int)) || (e.N == (2 : Int))) else (decide (e.M > (formS e.Kind).mMost) && ((e.Kind != (9 : Int)) || (e.N == (2 : Int)))))) then some (2 : Int) else
    some (0 : Int)))) = some (evNum e) := by
  have : e.Kind = 1 ∨ e.Kind = 2 ∨ e.Kind = 3 ∨ e.Kind = 4 ∨ e.Kind = 5 ∨ e.Kind = 6 ∨ e.Kind = 7 ∨ e.Kind = 8 ∨ e.Kind = 9 ∨ e.Kind = 10 ∨ e.Kind = 11 ∨ e.Kind = 12 := by omega
  unfold evNum
  rcases this with h | h | h | h | h | h | h | h | h | h | h | h <;> rw [h] <;> simp [formS, event_forms, idxL, withinS, Bool.cond_eq_ite] <;> (repeat' split) <;> first | rfl | omega | (simp at *; omega)
theorem event_Check_eq {e : T_api_Event} : event_Check 200000 e = some (evS e) := by
  unfold event_Check evS
  by_cases h1 : e.At < 0 ∨ e.At > 1000000000000
  · rw [if_pos h1]
    have : (decide (e.At < (0 : Int)) || decide (e.At > (1000000000000 : Int))) = true := by simpa using h1
    rw [this]; rfl
  rw [if_neg h1]
  have g1 : (decide (e.At < (0 : Int)) || decide (e.At > (1000000000000 : Int))) = false := by simp; omega
  rw [g1, cond_false, event_formOf_eq, Option.bind_some]
  by_cases h2 : e.Kind < 1 ∨ e.Kind > 12
  · rw [if_pos h2, if_pos h2]; rfl
  rw [if_neg h2, if_neg h2]
  have hu := formS_uses (k := e.Kind) (by omega)
  simp only [Bool.not_true, cond_false]
  rw [hu.1, hu.2.1, hu.2.2.1, hu.2.2.2, tree07, Option.bind_some, ← evBad_eq]
  cases hb : evBad e
  case true => rfl
  simp only [cond_false]
  rw [event_names_eq (by omega) hb, Option.bind_some]
  by_cases ht : evText e = 0
  · rw [bne_f ht, cond_false, ← hu.2.1, ← hu.2.2.1, evNum_form (by omega) hb]; simp [ht]
  · rw [bne_t ht, cond_true]; simp [ht]
theorem slices_Equal_string_string_eq {a b : List (List Int)} (ha : a.length ≤ 100000) : slices_Equal_string_string 200000 a b = some (decide (a = b)) := by
  unfold slices_Equal_string_string
  by_cases hl : (a.length : Int) ≠ b.length
  · rw [bne_t hl, cond_true, dec_f (fun e => hl (by rw [e]))]
  rw [bne_f (by omega), cond_false, same_loop (a := a) (b := b) (slices_Equal_string_string_L1 200000 a b) (by omega) ha (fun n i hi => by
    show slices_Equal_string_string_L1_body _ _ _ _ _ = _
    unfold slices_Equal_string_string_L1_body
    simp (disch := omega) only [dec_f, cond_false]) (fun n i x y r r2 hd hd2 hlt => by
    show slices_Equal_string_string_L1_body _ _ _ _ _ = _
    unfold slices_Equal_string_string_L1_body
    simp (disch := omega) only [dec_t, cond_true, idxL_drop hd, idxL_drop hd2, Option.bind_some, step64]
    by_cases h : x = y
    · rw [beqA_t h, if_pos h]; rfl
    · rw [beqA_f h, if_neg h]; rfl), Option.bind_some]
  by_cases h : a = b
  · rw [if_pos h, dec_t h]
  · rw [if_neg h, dec_f h]
theorem ev_same (a b : T_api_Event) : (bif (a.At == b.At) then (bif (a.Kind == b.Kind) then (bif (a.Name == b.Name) then (bif (a.N == b.N) then (bif (a.M == b.M) then some (decide (a.Stack = b.Stack)) else some false) else some false) else some false) else some false) else some false) = some (decide (a = b)) := by
  by_cases h1 : a.At = b.At
  case neg => rw [beq_f h1, dec_f (p := a = b) (fun e => h1 (by rw [e]))]; rfl
  by_cases h2 : a.Kind = b.Kind
  case neg => rw [beq_t h1, beq_f h2, dec_f (p := a = b) (fun e => h2 (by rw [e]))]; rfl
  by_cases h3 : a.Name = b.Name
  case neg => rw [beq_t h1, beq_t h2, beqA_f h3, dec_f (p := a = b) (fun e => h3 (by rw [e]))]; rfl
  by_cases h4 : a.N = b.N
  case neg => rw [beq_t h1, beq_t h2, beqA_t h3, beq_f h4, dec_f (p := a = b) (fun e => h4 (by rw [e]))]; rfl
  by_cases h5 : a.M = b.M
  case neg => rw [beq_t h1, beq_t h2, beqA_t h3, beq_t h4, beq_f h5, dec_f (p := a = b) (fun e => h5 (by rw [e]))]; rfl
  rw [beq_t h1, beq_t h2, beqA_t h3, beq_t h4, beq_t h5]
  simp only [cond_true]
  by_cases h6 : a.Stack = b.Stack
  · have : a = b := by cases a; cases b; simp_all
    rw [dec_t h6, dec_t this]
  · rw [dec_f h6, dec_f (p := a = b) (fun e => h6 (by rw [e]))]
theorem event_Same_eq {a b : T_api_Event} (ha : a.Stack.length ≤ 100000) : event_Same 200000 a b = some (decide (a = b)) := by
  unfold event_Same
  simp only [slices_Equal_string_string_eq ha, Option.bind_some]
  rw [ev_same, Option.bind_some]
end Go.Ab
