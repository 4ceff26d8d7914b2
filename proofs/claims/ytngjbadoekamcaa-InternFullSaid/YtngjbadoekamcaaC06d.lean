/- Check and Stack. -/
import Derived.Test.YtngjbadoekamcaaC06c
import Derived.Test.YtngjbadoekamcaaA37
namespace Go.Ab
open Go
set_option linter.unusedVariables false

def toO (v : Int) : Unit ⊕ Int := if v = 0 then .inl () else .inr v
theorem toO_0 : toO 0 = .inl () := rfl
theorem toO_ne {v : Int} (h : v ≠ 0) : toO v = .inr v := if_neg h
def namesS (seen : List (List Int)) : List (List Int) → Int
  | [] => 0
  | x :: r => if nameS x ≠ 0 then 3 else if x ∈ seen then 4 else namesS (seen ++ [x]) r
theorem checkNames_loop {l : List (List Int)} (hl : l.length ≤ 1000) : intern_checkNames_L1 200000 l 200000 0 [] = some (toO (namesS [] l)) := by
  have := loopL0 (l := l) (fun n i s => intern_checkNames_L1 200000 l n i s) (fun i r _ => toO (namesS (l.take i) r)) (fun i s => Seen s (l.take i)) ?_ ?_ (n := 200000) (s := []) seen_nil (by omega)
  · simpa using this
  · intro n i s hi _
    show intern_checkNames_L1_body _ _ _ _ _ = _
    unfold intern_checkNames_L1_body
    simp (disch := omega) only [dec_f, cond_false]; rfl
  · intro n i s x r hd hlt hS ih
    show intern_checkNames_L1_body _ _ _ _ _ = _
    unfold intern_checkNames_L1_body
    have hs := hS.1
    rw [take_len hd] at hs
    simp only [namesS]
    simp (disch := omega) only [dec_t, cond_true, idxL_drop hd, Option.bind_some, intern_Name_eq, hS.2, need_t, step64]
    rw [ih _ (by rw [take_step hd]; exact seen_put hS x)]
    rcases nameS_03 x with h | h
    · by_cases h2 : x ∈ l.take i <;> simp [h, h2, take_step hd, toO]
    · simp [h, toO]
theorem intern_checkNames_eq {l : List (List Int)} (hl : l.length ≤ 1000) : intern_checkNames 200000 l = some (namesS [] l) := by
  unfold intern_checkNames
  rw [checkNames_loop hl, Option.bind_some]
  unfold toO
  by_cases h : namesS [] l = 0
  · rw [if_pos h, h]
  · rw [if_neg h]
theorem findI_ge {α : Type} [DecidableEq α] (s : α) (l : List α) : decide (findI s 0 l ≥ 0) = decide (s ∈ l) := by
  rcases findI_spec s l 0 with ⟨h, h2⟩ | ⟨j, h1, h⟩
  · rw [h]; simp [h2]
  · rw [h, dec_t (by omega), dec_t (List.mem_of_getElem? h1)]
theorem R06_Check_loop1 {l : List (List Int)} (hl : l.length ≤ 1000) : R06_Check_L1 200000 l 200000 0 = some (toO (namesS [] l)) := by
  have := loopL0 (l := l) (fun n i (_ : Unit) => R06_Check_L1 200000 l n i) (fun i r _ => toO (namesS (l.take i) r)) (fun i s => True) ?_ ?_ (n := 200000) (s := ()) trivial (by omega)
  · simpa using this
  · intro n i s hi _
    show R06_Check_L1_body _ _ _ _ = _
    unfold R06_Check_L1_body
    simp (disch := omega) only [dec_f, cond_false]; rfl
  · intro n i s x r hd hlt hS ih
    show R06_Check_L1_body _ _ _ _ = _
    unfold R06_Check_L1_body
    have ht := List.length_take_le i l
    simp only [namesS]
    simp (disch := omega) only [dec_t, cond_true, idxL_drop hd, Option.bind_some, R06_Name_eq, need_t, step64, sub_take, R06_Find_eq, findI_ge, ih () trivial]
    rcases nameS_03 x with h | h
    · by_cases h2 : x ∈ l.take i <;> simp [h, h2, take_step hd, toO]
    · simp [h, toO]
def dOf (ds : List Int) (i : Int) : Int := if i = -1 then 0 else (ds[i.toNat]?).getD 0
def DI (st : List Arr2_Int) (ds : List Int) : Prop := ∀ (j : Nat) (d : Int), ds[j]? = some d → ∃ p, st[j]? = some p ∧ -1 ≤ p.c0 ∧ p.c0 < j ∧ d = 1 + dOf ds p.c0 ∧ 1 ≤ d ∧ d ≤ 32
theorem dOf_app {ds : List Int} {d c : Int} (h : c < ds.length) (h0 : -1 ≤ c) : dOf (ds ++ [d]) c = dOf ds c := by
  unfold dOf
  split
  · rfl
  · rw [List.getElem?_append_left (by omega)]
theorem DI.range {st : List Arr2_Int} {ds : List Int} (h : DI st ds) (c : Int) : 0 ≤ dOf ds c ∧ dOf ds c ≤ 32 := by
  unfold dOf
  split
  · omega
  · cases hd : ds[c.toNat]? with
    | none => simp
    | some d => obtain ⟨p, _, _, _, _, h1, h2⟩ := h _ _ hd; simp; omega
theorem DI.push {st : List Arr2_Int} {ds : List Int} {p : Arr2_Int} (h : DI st ds) (hp : st[ds.length]? = some p) (h0 : -1 ≤ p.c0) (h1 : p.c0 < ds.length) (h2 : 1 + dOf ds p.c0 ≤ 32) : DI st (ds ++ [1 + dOf ds p.c0]) := by
  intro j d hj
  rcases Nat.lt_or_ge j ds.length with hlt | hge
  · rw [List.getElem?_append_left hlt] at hj
    obtain ⟨q, h3, h4, h5, h6, h7⟩ := h j d hj
    exact ⟨q, h3, h4, h5, by rw [dOf_app (by omega) h4]; exact h6, h7⟩
  · have hj' : j = ds.length := by
      have := (List.getElem?_eq_some_iff.1 hj).1
      simp at this; omega
    subst hj'
    simp at hj
    subst hj
    have := h.range p.c0
    exact ⟨p, hp, h0, by omega, by rw [dOf_app h1 h0], by omega, h2⟩
theorem DI.nil {st : List Arr2_Int} : DI st [] := fun j d h => by simp at h
theorem R06_depth_go {st : List Arr2_Int} {ds : List Int} (h : DI st ds) : ∀ (n : Nat) (i acc : Int), -1 ≤ i → i < ds.length → i + 1 < n → 0 ≤ acc → acc + i ≤ 5000 → R06_depth_L1 200000 st n i acc = some (acc + dOf ds i) := by
  intro n
  induction n with
  | zero => intro i acc h0 h1 h2; omega
  | succ n ih =>
    intro i acc h0 h1 h2 h3 h4
    show R06_depth_L1_body _ _ _ _ _ = _
    unfold R06_depth_L1_body
    by_cases hi : i = -1
    · rw [dec_f (by omega), cond_false, hi]; simp [dOf]
    · obtain ⟨m, rfl⟩ := Int.eq_ofNat_of_zero_le (show 0 ≤ i by omega)
      obtain ⟨d, hd⟩ : ∃ d, ds[m]? = some d := ⟨ds[m]'(by omega), List.getElem?_eq_getElem _⟩
      obtain ⟨p, hp, k0, k1, k2, k3, k4⟩ := h m d hd
      have key : dOf ds (m : Int) = d := by simp [dOf, hd]
      rw [dec_t (by omega), cond_true, idxL_nat, hp, Option.bind_some, w64 (by omega) (by omega), key, ih p.c0 (acc + 1) k0 (by omega) (by omega) (by omega) (by omega)]
      congr 1; omega
def stackS (nn : Nat) (ds : List Int) (seen : List Arr2_Int) : List Arr2_Int → Int
  | [] => 0
  | p :: r => if p.c0 < -1 ∨ p.c0 ≥ seen.length ∨ p.c1 < 0 ∨ p.c1 ≥ nn then 2 else if p ∈ seen then 4 else if 1 + dOf ds p.c0 > 32 then 7 else stackS nn (ds ++ [1 + dOf ds p.c0]) (seen ++ [p]) r
theorem R06_Check_loop2 {names : List (List Int)} {l : List Arr2_Int} (hl : l.length ≤ 1000) : ∀ (n i : Nat) (ds : List Int), DI l ds → ds.length = i → i ≤ l.length → (l.drop i).length < n → R06_Check_L2 200000 names l n (i : Nat) = some (toO (stackS names.length ds (l.take i) (l.drop i))) := by
  intro n
  induction n with
  | zero => intro i ds _ _ _ h; omega
  | succ n ih =>
    intro i ds hD hdl hil hn
    show R06_Check_L2_body _ _ _ _ _ = _
    unfold R06_Check_L2_body
    rcases hd : l.drop i with _ | ⟨p, r⟩
    · have := drop_nil hd
      simp (disch := omega) only [dec_f, cond_false]; rfl
    have hlt := drop_lt hd
    have ht := take_len hd
    rw [hd] at hn
    simp only [List.length_cons] at hn
    simp only [stackS, ht]
    simp (disch := omega) only [dec_t, cond_true, idxL_drop hd, Option.bind_some, need_t, sub_take, R06_FindStack_eq, findI_ge]
    by_cases c1 : p.c0 < -1 ∨ p.c0 ≥ i ∨ p.c1 < 0 ∨ p.c1 ≥ names.length
    · rw [if_pos c1, toO_ne (by decide)]
      have : (decide (p.c0 < (-1 : Int)) || (decide (p.c0 ≥ (i : Int)) || (decide (p.c1 < (0 : Int)) || decide (p.c1 ≥ ((names.length : Nat) : Int))))) = true := by simpa using c1
      rw [this]; rfl
    · rw [if_neg c1]
      simp (disch := omega) only [dec_f, Bool.or_false, cond_false]
      by_cases c2 : p ∈ l.take i
      · rw [if_pos c2, dec_t c2]; rfl
      · rw [if_neg c2, dec_f c2, cond_false]
        unfold R06_depth
        have hr := hD.range p.c0
        have hdep : R06_depth_L1 200000 l 200000 (i : Int) 0 = some (1 + dOf ds p.c0) := by
          show R06_depth_L1_body _ _ _ _ _ = _
          unfold R06_depth_L1_body
          simp (disch := omega) only [dec_t, cond_true, idxL_drop hd, Option.bind_some, w64]
          rw [R06_depth_go hD _ _ _ (by omega) (by omega) (by omega) (by omega) (by omega)]; rfl
        rw [hdep, Option.bind_some, Option.bind_some]
        by_cases c3 : 1 + dOf ds p.c0 > 32
        · rw [if_pos c3, dec_t c3]; rfl
        · rw [if_neg c3, dec_f c3, cond_false, step64 (by omega), ih (i + 1) (ds ++ [1 + dOf ds p.c0]) (hD.push (by rw [hdl]; exact get_drop hd) (by omega) (by omega) (by omega)) (by simp [hdl]) (by omega) (by rw [drop_step hd]; omega), take_step hd, drop_step hd]
theorem R06_Check_eq {names : List (List Int)} {l : List Arr2_Int} : R06_Check 200000 names l = some (if 1000 < names.length ∨ 1000 < l.length then 7 else if namesS [] names ≠ 0 then namesS [] names else stackS names.length [] [] l) := by
  unfold R06_Check
  by_cases h : 1000 < names.length ∨ 1000 < l.length
  · rw [if_pos h]
    have : (decide ((((names).length : Nat) : Int) > (1000 : Int)) || decide ((((l).length : Nat) : Int) > (1000 : Int))) = true := by simp; omega
    rw [this]; rfl
  rw [if_neg h]
  simp (disch := omega) only [dec_f, Bool.or_false, cond_false]
  rw [R06_Check_loop1 (by omega), Option.bind_some]
  by_cases h1 : namesS [] names ≠ 0
  · rw [toO_ne h1, if_pos h1]
  have h1' : namesS [] names = 0 := by omega
  have := R06_Check_loop2 (names := names) (l := l) (by omega) 200000 0 [] DI.nil rfl (by omega) (by simp; omega)
  rw [h1', toO_0, if_neg (by omega)]
  simp only
  rw [show R06_Check_L2 200000 names l 200000 0 = _ from this]
  simp only [List.take_zero, List.drop_zero, Option.bind_some]
  generalize stackS names.length [] [] l = v
  unfold toO
  by_cases hv : v = 0
  · rw [if_pos hv, hv]
  · rw [if_neg hv]
theorem take_set_succ {α : Type} {l : List α} {i : Nat} (v : α) (h : i < l.length) : (l.set i v).take (i + 1) = l.take i ++ [v] := by
  rw [List.take_add_one, List.take_set_of_le (Nat.le_refl _), List.getElem?_set_self h]; rfl
theorem intern_Check_loop {names : List (List Int)} {l : List Arr2_Int} (hl : l.length ≤ 1000) : ∀ (n i : Nat) (s : List (Arr2_Int × Bool)) (t : List Int), Seen s (l.take i) → t.length = l.length → DI l (t.take i) → i ≤ l.length → (l.drop i).length < n → intern_Check_L1 200000 names l n (i : Nat) s t = some (toO (stackS names.length (t.take i) (l.take i) (l.drop i))) := by
  intro n
  induction n with
  | zero => intro i s t _ _ _ _ h; omega
  | succ n ih =>
    intro i s t hS htl hD hil hn
    show intern_Check_L1_body _ _ _ _ _ _ _ = _
    unfold intern_Check_L1_body
    rcases hd : l.drop i with _ | ⟨p, r⟩
    · have := drop_nil hd
      simp (disch := omega) only [dec_f, cond_false]; rfl
    have hlt := drop_lt hd
    have ht := take_len hd
    have hs := hS.1
    rw [ht] at hs
    rw [hd] at hn
    simp only [List.length_cons] at hn
    simp only [stackS, ht]
    obtain ⟨y, hy⟩ : ∃ y, t[i]? = some y := ⟨t[i]'(by omega), List.getElem?_eq_getElem _⟩
    simp (disch := omega) only [dec_t, cond_true, idxL_drop hd, Option.bind_some, hS.2, need_t, idxL_nat, hy]
    by_cases c1 : p.c0 < -1 ∨ p.c0 ≥ i ∨ p.c1 < 0 ∨ p.c1 ≥ names.length
    · rw [if_pos c1, toO_ne (by decide)]
      have : (decide (p.c0 < (-1 : Int)) || (decide (p.c0 ≥ (i : Int)) || (decide (p.c1 < (0 : Int)) || decide (p.c1 ≥ ((names.length : Nat) : Int))))) = true := by simpa using c1
      rw [this]; rfl
    · rw [if_neg c1]
      simp (disch := omega) only [dec_f, Bool.or_false, cond_false]
      by_cases c2 : p ∈ l.take i
      · rw [if_pos c2, dec_t c2]; rfl
      · rw [if_neg c2, dec_f c2, cond_false]
        have hr := hD.range p.c0
        have htt : (t.take i).length = i := by rw [List.length_take]; omega
        have hstep : ((bif (p.c0 != (-1 : Int)) then ((t.set ((i : Int)).toNat (1 : Int))[i]?).bind fun x_3 => (idxL (t.set ((i : Int)).toNat (1 : Int)) p.c0).bind fun x_4 => ((t.set ((i : Int)).toNat (1 : Int))[i]?).bind fun x_5 =>
            some ((t.set ((i : Int)).toNat (1 : Int)).set ((i : Int)).toNat (w_i64 (x_3 + x_4))) else some (t.set ((i : Int)).toNat (1 : Int))) : Option (List Int)) = some (t.set i (1 + dOf (t.take i) p.c0)) := by
          rw [Int.toNat_natCast]
          by_cases hc : p.c0 = -1
          · rw [bne_f hc, cond_false]; simp [dOf, hc]
          · rw [bne_t hc, cond_true, List.getElem?_set_self (by omega), Option.bind_some]
            have e : idxL (t.set i 1) p.c0 = some (dOf (t.take i) p.c0) := by
              obtain ⟨m, hm⟩ := Int.eq_ofNat_of_zero_le (show 0 ≤ p.c0 by omega)
              rw [hm, idxL_nat, List.getElem?_set_ne (by omega)]
              have : (t.take i)[m]? = t[m]? := by rw [List.getElem?_take_of_lt (by omega)]
              have hml : m < t.length := by omega
              simp only [dOf]
              rw [if_neg (by omega), Int.toNat_natCast, this, List.getElem?_eq_getElem hml]; rfl
            rw [e, Option.bind_some, Option.bind_some, w64 (by omega) (by omega), List.set_set]
        rw [hstep, Option.bind_some, List.getElem?_set_self (by omega), Option.bind_some]
        by_cases c3 : 1 + dOf (t.take i) p.c0 > 32
        · rw [if_pos c3, dec_t c3]; rfl
        · rw [if_neg c3, dec_f c3, cond_false, step64 (by omega)]
          have hts := take_set_succ (i := i) (1 + dOf (t.take i) p.c0) (show i < t.length by omega)
          rw [ih (i + 1) _ _ (by rw [take_step hd]; exact seen_put hS p) (by simp [htl]) (by rw [hts]; exact hD.push (by rw [htt]; exact get_drop hd) (by omega) (by omega) (by omega)) (by omega) (by rw [drop_step hd]; omega), take_step hd, drop_step hd, hts]
def checkS (names : List (List Int)) (l : List Arr2_Int) : Int := if 1000 < names.length ∨ 1000 < l.length then 7 else if namesS [] names ≠ 0 then namesS [] names else stackS names.length [] [] l
theorem intern_Check_eq {names : List (List Int)} {l : List Arr2_Int} : intern_Check 200000 names l = some (checkS names l) := by
  unfold intern_Check checkS
  by_cases h : 1000 < names.length ∨ 1000 < l.length
  · rw [if_pos h]
    have : (decide ((((names).length : Nat) : Int) > (1000 : Int)) || decide ((((l).length : Nat) : Int) > (1000 : Int))) = true := by simp; omega
    rw [this]; rfl
  rw [if_neg h]
  simp (disch := omega) only [dec_f, Bool.or_false, cond_false]
  rw [intern_checkNames_eq (by omega), Option.bind_some]
  by_cases h1 : namesS [] names ≠ 0
  · rw [bne_t h1, if_pos h1]; rfl
  have h1' : namesS [] names = 0 := by omega
  have := intern_Check_loop (names := names) (l := l) (by omega) 200000 0 [] (List.replicate l.length 0) seen_nil (by simp) DI.nil (by omega) (by simp; omega)
  rw [h1', bne_f rfl, cond_false, if_neg (by omega), need_t (by omega), Option.bind_some]
  rw [show intern_Check_L1 200000 names l 200000 0 [] (List.replicate l.length 0) = _ from this]
  simp only [List.take_zero, List.drop_zero, Option.bind_some]
  generalize stackS names.length [] [] l = v
  unfold toO
  by_cases hv : v = 0
  · rw [if_pos hv, hv]
  · rw [if_neg hv]
end Go.Ab
