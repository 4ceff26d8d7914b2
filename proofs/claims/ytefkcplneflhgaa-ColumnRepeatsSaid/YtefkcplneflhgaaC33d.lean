/- Columns: what the readers compute. -/
import Derived.Test.YtefkcplneflhgaaC33c
namespace Go.Ab
open Go
set_option linter.unusedVariables false

def rdN (b : List Int) : Option (Int × List Int) := if (vrd b 0 0).2.2 = 0 then some ((vrd b 0 0).1, b.drop (vrd b 0 0).2.1.toNat) else none
def rdV : List Int → Option (T_api_Value × List Int)
  | [] => none
  | c :: r => if c = 0 then some (⟨0, 0, []⟩, r) else if c = 1 ∨ c = 2 then (match rdN r with
    | some q => some (⟨c, q.1, []⟩, q.2)
    | none => none) else if c = 3 then (if (txt r 200).2.2 = 0 then some (⟨3, 0, (txt r 200).1⟩, r.drop (txt r 200).2.1.toNat) else none) else none
theorem rdV_cons (c : Int) (r : List Int) : rdV (c :: r) = if c = 0 then some (⟨0, 0, []⟩, r) else if c = 1 ∨ c = 2 then (match rdN r with
    | some q => some (⟨c, q.1, []⟩, q.2)
    | none => none) else if c = 3 then (if (txt r 200).2.2 = 0 then some (⟨3, 0, (txt r 200).1⟩, r.drop (txt r 200).2.1.toNat) else none) else none := rfl
def BO (b : List Int) : Prop := (∀ x ∈ b, okU8 x) ∧ b.length ≤ 100000
theorem BO.drop {b : List Int} (h : BO b) (n : Nat) : BO (b.drop n) := ⟨fun x hx => h.1 x (List.mem_of_mem_drop hx), by have := h.2; rw [List.length_drop]; omega⟩
theorem BO.tail {c : Int} {b : List Int} (h : BO (c :: b)) : BO b := h.drop 1
theorem txt_range {b : List Int} {most : Int} (hb : ∀ x ∈ b, okU8 x) : 0 ≤ (txt b most).2.1 ∧ (txt b most).2.1 ≤ b.length := by
  obtain ⟨k1, k2, k3⟩ := vrd_range (i := 0) (u := 0) hb (by omega) (by omega) (by decide)
  unfold txt
  simp only
  split
  · simp
  split
  · simp
  split
  · simp
  split
  · simp
  · rename_i h1 h2 h3 h4
    have := k2 (by omega)
    simp only; omega
theorem rdN_some {b : List Int} (h : BO b) {q : Int × List Int} (e : rdN b = some q) : okI64 q.1 ∧ q.2.length < b.length ∧ BO q.2 := by
  obtain ⟨k1, k2, k3⟩ := vrd_range (i := 0) (u := 0) h.1 (by omega) (by omega) (by decide)
  unfold rdN at e
  split at e
  · rename_i hz
    injection e with e; subst e
    have := k2 hz
    exact ⟨k1, by simp only [List.length_drop]; omega, h.drop _⟩
  · cases e
theorem rdV_some {b : List Int} (h : BO b) {q : T_api_Value × List Int} (e : rdV b = some q) : q.2.length < b.length ∧ BO q.2 := by
  cases b with
  | nil => cases e
  | cons c r =>
    rw [rdV_cons] at e
    split at e
    · injection e with e; subst e; exact ⟨by simp, h.tail⟩
    split at e
    · cases hq : rdN r with
      | none => rw [hq] at e; cases e
      | some w => rw [hq] at e; injection e with e; subst e; have := rdN_some h.tail hq; exact ⟨by simp only [List.length_cons]; omega, this.2.2⟩
    split at e
    · split at e
      · injection e with e; subst e; exact ⟨by simp only [List.length_drop, List.length_cons]; omega, h.tail.drop _⟩
      · cases e
    · cases e
def nm (b : List Int) (bad : Bool) : Int × T_column_input := match rdN b with
  | some q => (q.1, ⟨q.2, bad⟩)
  | none => (0, ⟨b, true⟩)
theorem column_input_num_eq {b : List Int} {bad : Bool} (h : BO b) : column_input_num 200000 ⟨b, bad⟩ = some (nm b bad) := by
  obtain ⟨k1, k2, k3⟩ := vrd_range (i := 0) (u := 0) h.1 (by omega) (by omega) (by decide)
  have h2 := h.2
  unfold column_input_num nm rdN
  rw [codec_Int_eq h.1 (by omega) (by omega), Option.bind_some]
  simp only
  by_cases e : (vrd b 0 0).2.2 = 0
  · have := k2 e
    rw [bne_f e, cond_false, if_pos e, need_t (by omega), Option.bind_some, sub_dropN (by omega)]
  · rw [bne_t e, cond_true, if_neg e]
theorem value_cons {c : Int} {t : List Int} (h : BO (c :: t)) : column_input_value 200000 ⟨c :: t, false⟩ = if c = 0 then some (⟨0, 0, []⟩, ⟨t, false⟩) else if c = 1 ∨ c = 2 then some (⟨c, (nm t false).1, []⟩, (nm t false).2) else if c = 3 then (if (txt t 200).2.2 = 0 then some (⟨3, 0, (txt t 200).1⟩, ⟨t.drop (txt t 200).2.1.toNat, false⟩) else some (⟨3, 0, []⟩, ⟨t, true⟩)) else some (⟨c, 0, []⟩, ⟨t, true⟩) := by
  have hc := h.1 c (by simp)
  unfold okU8 at hc
  have ht := h.tail
  have h2 := ht.2
  have hs : sub (c :: t) 1 (((c :: t).length : Nat) : Int) = t := by rw [sub_dropN (by omega)]; rfl
  unfold column_input_value
  simp only
  rw [beq_f (by simp only [List.length_cons]; omega), cond_false, show idxL (c :: t) 0 = some c from rfl, Option.bind_some, need_t (by simp only [List.length_cons]; omega), Option.bind_some, w64 (by omega) (by omega), hs]
  by_cases c0 : c = 0
  · rw [beq_t c0, cond_true, if_pos c0, c0]
  rw [beq_f c0, cond_false, if_neg c0]
  by_cases c1 : c = 1 ∨ c = 2
  · rw [show (bif (c == 1) then some (c == 1) else some (c == 2) : Option Bool) = some true by rcases c1 with rfl | rfl <;> rfl, Option.bind_some, cond_true, column_input_num_eq ht, Option.bind_some, if_pos c1]
  rw [show (bif (c == 1) then some (c == 1) else some (c == 2) : Option Bool) = some false by rw [beq_f (a := c) (b := 1) (by omega), beq_f (a := c) (b := 2) (by omega)]; rfl, Option.bind_some, cond_false, if_neg c1]
  by_cases c3 : c = 3
  · rw [beq_t c3, cond_true, if_pos c3, codec_Text_eq ht.1 (by omega) (by omega), Option.bind_some, Bool.false_or]
    by_cases e : (txt t 200).2.2 = 0
    · have hr := txt_range (most := 200) ht.1
      rw [bne_f e, Bool.not_false, cond_true, if_pos e, need_t (by omega), Option.bind_some, sub_dropN (by omega), c3]
    · rw [bne_t e, Bool.not_true, cond_false, if_neg e, c3]
  · rw [beq_f c3, cond_false, if_neg c3]
theorem value_some {b : List Int} {q : T_api_Value × List Int} (h : BO b) (e : rdV b = some q) : column_input_value 200000 ⟨b, false⟩ = some (q.1, ⟨q.2, false⟩) := by
  cases b with
  | nil => cases e
  | cons c r =>
    rw [value_cons h]
    rw [rdV_cons] at e
    split at e
    · rename_i hc; rw [if_pos hc]; injection e with e; subst e; rfl
    rename_i hc
    rw [if_neg hc]
    split at e
    · rename_i h1
      rw [if_pos h1]
      unfold nm
      cases hq : rdN r with
      | none => rw [hq] at e; cases e
      | some w => rw [hq] at e; injection e with e; subst e; rfl
    rename_i h1
    rw [if_neg h1]
    split at e
    · rename_i h3
      rw [if_pos h3]
      split at e
      · rename_i h4; rw [if_pos h4]; injection e with e; subst e; rfl
      · cases e
    · cases e
theorem value_none {b : List Int} (h : BO b) (e : rdV b = none) : ∃ v b', column_input_value 200000 ⟨b, false⟩ = some (v, ⟨b', true⟩) := by
  cases b with
  | nil => exact ⟨_, _, rfl⟩
  | cons c r =>
    rw [value_cons h]
    rw [rdV_cons] at e
    split at e
    · cases e
    rename_i hc
    rw [if_neg hc]
    split at e
    · rename_i h1
      rw [if_pos h1]
      unfold nm
      cases hq : rdN r with
      | none => exact ⟨_, _, rfl⟩
      | some w => rw [hq] at e; cases e
    rename_i h1
    rw [if_neg h1]
    split at e
    · rename_i h3
      rw [if_pos h3]
      split at e
      · cases e
      · rename_i h4; rw [if_neg h4]; exact ⟨_, _, rfl⟩
    · rename_i h3; rw [if_neg h3]; exact ⟨_, _, rfl⟩
def rdVs : Nat → List Int → Option (List T_api_Value × List Int)
  | 0, b => some ([], b)
  | n + 1, b => match rdV b with
    | none => none
    | some q => match rdVs n q.2 with
      | none => none
      | some w => some (q.1 :: w.1, w.2)
def rdR : Nat → Nat → List Int → Option (List T_api_Value × List Int)
  | _, 0, b => some ([], b)
  | 0, _ + 1, _ => none
  | f + 1, m + 1, b => match rdN b with
    | none => none
    | some q => if q.1 < 1 ∨ q.1 > ((m + 1 : Nat) : Int) then none else match rdV q.2 with
      | none => none
      | some v => match rdR f (m + 1 - q.1.toNat) v.2 with
        | none => none
        | some w => some (List.replicate q.1.toNat v.1 ++ w.1, w.2)
def rdD (k : Int) : Int → Nat → List Int → Option (List T_api_Value × List Int)
  | _, 0, b => some ([], b)
  | last, n + 1, b => match rdN b with
    | none => none
    | some q => match rdD k (w_i64 (last + q.1)) n q.2 with
      | none => none
      | some w => some (⟨k, w_i64 (last + q.1), []⟩ :: w.1, w.2)
def rdP (ws : List T_api_Value) : Nat → List Int → Option (List T_api_Value × List Int)
  | 0, b => some ([], b)
  | n + 1, b => match rdN b with
    | none => none
    | some q => if q.1 < 0 ∨ q.1 ≥ (ws.length : Int) then none else match ws[q.1.toNat]? with
      | none => none
      | some v => match rdP ws n q.2 with
        | none => none
        | some w => some (v :: w.1, w.2)
theorem L1_bad {q : Int} {n : Nat} {b : List Int} {row : List T_api_Value} : column_input_values_L1 200000 q (n + 1) b true row = some (b, true, row) := by
  show column_input_values_L1_body _ _ _ _ _ _ = _
  unfold column_input_values_L1_body
  rw [Bool.not_true, Bool.and_false, cond_false]
theorem L1_eq {q : Int} : ∀ (m n : Nat) (b : List Int) (row : List T_api_Value), BO b → m < n → q = ((row.length + m : Nat) : Int) → row.length + m ≤ 20000 →
    (∀ w, rdVs m b = some w → column_input_values_L1 200000 q n b false row = some (w.2, false, row ++ w.1)) ∧ (rdVs m b = none → ∃ b' row', column_input_values_L1 200000 q n b false row = some (b', true, row')) := by
  intro m
  induction m with
  | zero =>
    intro n b row hb hn hN hl
    obtain ⟨n, rfl⟩ : ∃ g, n = g + 1 := ⟨n - 1, by omega⟩
    refine ⟨fun w hw => ?_, fun h => by simp [rdVs] at h⟩
    simp only [rdVs] at hw
    injection hw with hw; subst hw
    show column_input_values_L1_body _ _ _ _ _ _ = _
    unfold column_input_values_L1_body
    rw [dec_f (by omega), Bool.false_and, cond_false, List.append_nil]
  | succ m ih =>
    intro n b row hb hn hN hl
    obtain ⟨n, rfl⟩ : ∃ g, n = g + 2 := ⟨n - 2, by omega⟩
    have hB : column_input_values_L1 200000 q (n + 2) b false row = (column_input_value 200000 ⟨b, false⟩).bind fun r_1 => column_input_values_L1 200000 q (n + 1) r_1.2.b r_1.2.bad (row ++ [r_1.1]) := by
      show column_input_values_L1_body _ _ _ _ _ _ = _
      unfold column_input_values_L1_body
      rw [dec_t (by omega), Bool.not_false, Bool.and_self, cond_true]
      congr 1; funext r
      rw [need_t (by simp; omega), Option.bind_some]
    rw [hB]
    unfold rdVs
    cases e : rdV b with
    | none =>
      obtain ⟨v, b', g⟩ := value_none hb e
      refine ⟨fun w hw => (by cases hw), fun _ => ⟨b', row ++ [v], ?_⟩⟩
      rw [g, Option.bind_some]
      exact L1_bad
    | some p =>
      obtain ⟨i1, i2⟩ := ih (n + 1) p.2 (row ++ [p.1]) (rdV_some hb e).2 (by omega) (by simp; omega) (by simp; omega)
      rw [value_some hb e, Option.bind_some]
      simp only
      cases ew : rdVs m p.2 with
      | none => exact ⟨fun w hw => (by cases hw), fun _ => i2 ew⟩
      | some w' =>
        refine ⟨fun w hw => ?_, fun h => by cases h⟩
        injection hw with hw; subst hw
        rw [i1 w' ew]; simp
theorem L4_bad {q : Int × T_column_input} {n : Nat} {b : List Int} {row : List T_api_Value} : column_input_values_L4 200000 q (n + 1) b true row = some (b, true, row) := by
  show column_input_values_L4_body _ _ _ _ _ _ = _
  unfold column_input_values_L4_body
  rw [Bool.not_true, Bool.and_false, cond_false]
theorem L4_eq {q : Int × T_column_input} : ∀ (m n : Nat) (b : List Int) (row : List T_api_Value), BO b → m < n → q.1 = ((row.length + m : Nat) : Int) → row.length + m ≤ 20000 →
    (∀ w, rdVs m b = some w → column_input_values_L4 200000 q n b false row = some (w.2, false, row ++ w.1)) ∧ (rdVs m b = none → ∃ b' row', column_input_values_L4 200000 q n b false row = some (b', true, row')) := by
  intro m
  induction m with
  | zero =>
    intro n b row hb hn hN hl
    obtain ⟨n, rfl⟩ : ∃ g, n = g + 1 := ⟨n - 1, by omega⟩
    refine ⟨fun w hw => ?_, fun h => by simp [rdVs] at h⟩
    simp only [rdVs] at hw
    injection hw with hw; subst hw
    show column_input_values_L4_body _ _ _ _ _ _ = _
    unfold column_input_values_L4_body
    rw [dec_f (by omega), Bool.false_and, cond_false, List.append_nil]
  | succ m ih =>
    intro n b row hb hn hN hl
    obtain ⟨n, rfl⟩ : ∃ g, n = g + 2 := ⟨n - 2, by omega⟩
    have hB : column_input_values_L4 200000 q (n + 2) b false row = (column_input_value 200000 ⟨b, false⟩).bind fun r_1 => column_input_values_L4 200000 q (n + 1) r_1.2.b r_1.2.bad (row ++ [r_1.1]) := by
      show column_input_values_L4_body _ _ _ _ _ _ = _
      unfold column_input_values_L4_body
      rw [dec_t (by omega), Bool.not_false, Bool.and_self, cond_true]
      congr 1; funext r
      rw [need_t (by simp; omega), Option.bind_some]
    rw [hB]
    unfold rdVs
    cases e : rdV b with
    | none =>
      obtain ⟨v, b', g⟩ := value_none hb e
      refine ⟨fun w hw => (by cases hw), fun _ => ⟨b', row ++ [v], ?_⟩⟩
      rw [g, Option.bind_some]
      exact L4_bad
    | some p =>
      obtain ⟨i1, i2⟩ := ih (n + 1) p.2 (row ++ [p.1]) (rdV_some hb e).2 (by omega) (by simp; omega) (by simp; omega)
      rw [value_some hb e, Option.bind_some]
      simp only
      cases ew : rdVs m p.2 with
      | none => exact ⟨fun w hw => (by cases hw), fun _ => i2 ew⟩
      | some w' =>
        refine ⟨fun w hw => ?_, fun h => by cases h⟩
        injection hw with hw; subst hw
        rw [i1 w' ew]; simp
theorem L2_bad {N : Int} {n : Nat} {b : List Int} {row : List T_api_Value} : column_input_values_L2 200000 N (n + 1) b true row = some (b, true, row) := by
  show column_input_values_L2_body _ _ _ _ _ _ = _
  unfold column_input_values_L2_body
  rw [Bool.not_true, Bool.and_false, cond_false]
theorem Repeat_loop {v : T_api_Value} {M : Nat} (hM : M ≤ 20000) : ∀ (n a : Nat) (z : List T_api_Value), 1 ≤ a → z.length = M - a → a ≤ M → M - a < n → slices_Repeat_tracebook_api_Value_tracebook_api_Value_L1 200000 n (a : Nat) (List.replicate a v ++ z) = some (List.replicate M v) := by
  intro n
  induction n with
  | zero => intro a z _ _ _ h; omega
  | succ n ih =>
    intro a z h1 hz ha hn
    show slices_Repeat_tracebook_api_Value_tracebook_api_Value_L1_body _ _ _ _ = _
    unfold slices_Repeat_tracebook_api_Value_tracebook_api_Value_L1_body
    have hlen : (List.replicate a v ++ z).length = M := by rw [List.length_append, List.length_replicate]; omega
    rw [hlen, Int.toNat_natCast]
    by_cases hlt : a < M
    · have e1 : ((List.replicate a v ++ z).take a).drop 0 = List.replicate a v := by rw [List.drop_zero, List.take_left' (by simp)]
      rw [dec_t (by omega), cond_true]
      simp (disch := omega) only [need_t, Option.bind_some]
      rw [e1, List.length_replicate]
      have e2 : cpy (List.replicate a v ++ z) a M (List.replicate a v) = List.replicate (a + min a (M - a)) v ++ z.drop (min a (M - a)) := by
        unfold cpy
        rw [List.length_replicate, List.take_left' (by simp), List.take_replicate, List.drop_append, List.length_replicate, List.drop_eq_nil_of_le (by simp), List.nil_append, Nat.add_sub_cancel_left, List.replicate_append_replicate]
        rw [show min (min a (M - a)) a = min a (M - a) by omega]
      rw [e2, w64 (by omega) (by omega), show (a : Int) + ((min a (M - a) : Nat) : Int) = ((a + min a (M - a) : Nat) : Int) by omega]
      exact ih (a + min a (M - a)) _ (by omega) (by rw [List.length_drop]; omega) (by omega) (by omega)
    · obtain rfl : a = M := by omega
      have : z = [] := List.length_eq_zero_iff.1 (by omega)
      rw [dec_f (by omega), cond_false, this, List.append_nil]
theorem Repeat_eq {v : T_api_Value} {c : Int} (h1 : 1 ≤ c) (h2 : c ≤ 20000) : slices_Repeat_tracebook_api_Value_tracebook_api_Value 200000 [v] c = some (List.replicate c.toNat v) := by
  obtain ⟨m, rfl⟩ := Int.eq_ofNat_of_zero_le (show 0 ≤ c by omega)
  unfold slices_Repeat_tracebook_api_Value_tracebook_api_Value
  have hm : bits_Mul (w_u64 ((([v] : List T_api_Value).length : Nat) : Int)) (w_u64 (m : Int)) = some (0, (m : Int)) := by
    rw [show w_u64 ((([v] : List T_api_Value).length : Nat) : Int) = 1 from rfl, wu64 (by omega) (by omega)]
    unfold bits_Mul bits_Mul64
    rw [Option.bind_some]
    simp only
    have e1 : ishr .u64 1 32 = 0 := by decide
    have e2 : iand .u64 1 4294967295 = 1 := by decide
    have e3 : iand .u64 (m : Int) 4294967295 = m := by
      rw [show (4294967295 : Int) = ((4294967295 : Nat) : Int) from rfl, iand_nat (k := .u64) (show m < 2 ^ 64 by omega) (show 4294967295 < 2 ^ 64 by omega), show 4294967295 = 2 ^ 32 - 1 from rfl, Nat.and_two_pow_sub_one_eq_mod, Nat.mod_eq_of_lt (by omega)]
    have e4 : ishr .u64 (m : Int) 32 = 0 := by
      have := ishr_div (k := .u64) (x := (m : Int)) (s := 32) (by omega) (by decide)
      rw [show ((32 : Nat) : Int) = 32 from rfl] at this
      rw [this]; omega
    rw [e1, e2, e3, e4]
    have z : w_u64 ((0 : Int) * 0) = 0 := by decide
    have z1 : w_u64 ((0 : Int) * (m : Int)) = 0 := by rw [Int.zero_mul]; decide
    have z2 : w_u64 ((1 : Int) * (m : Int)) = m := by rw [Int.one_mul]; exact wu64 (by omega) (by omega)
    have z3 : w_u64 ((1 : Int) * (0 : Int)) = 0 := by decide
    rw [z, z1, z2, z3, e4]
    have y : w_u64 ((0 : Int) + 0) = 0 := by decide
    have y2 : iand .u64 (0 : Int) 4294967295 = 0 := by decide
    have y3 : ishr .u64 (0 : Int) 32 = 0 := by decide
    rw [y, y3, y2, y, y3, y]
  rw [dec_f (by omega), cond_false, Option.bind_some, hm, Option.bind_some]
  simp only
  rw [dec_f (by omega), dec_f (by omega), Bool.or_self, cond_false, Option.bind_some, w64 (by omega) (by omega), Int.toNat_natCast, need_t (by omega), Option.bind_some, need_t (by simp), Option.bind_some]
  have e : cpy (List.replicate m (⟨0, 0, []⟩ : T_api_Value)) 0 m [v] = List.replicate 1 v ++ List.replicate (m - 1) ⟨0, 0, []⟩ := by
    unfold cpy
    rw [List.take_zero, List.nil_append, show min ([v] : List T_api_Value).length (m - 0) = 1 by simp; omega, List.drop_replicate, Nat.zero_add]; rfl
  rw [e, show (((min ([v] : List T_api_Value).length (m - 0) : Nat)) : Int) = ((1 : Nat) : Int) by simp; omega, Repeat_loop (M := m) (by omega) 200000 1 _ (by omega) (by simp) (by omega) (by omega), Option.bind_some]
theorem L2_eq {N : Int} : ∀ (f m n : Nat) (b : List Int) (row : List T_api_Value), BO b → m ≤ f → f < n → N = ((row.length + m : Nat) : Int) → row.length + m ≤ 20000 →
    (∀ w, rdR f m b = some w → column_input_values_L2 200000 N n b false row = some (w.2, false, row ++ w.1)) ∧ (rdR f m b = none → ∃ b' row', column_input_values_L2 200000 N n b false row = some (b', true, row')) := by
  intro f
  have stop : ∀ (f n : Nat) (b : List Int) (row : List T_api_Value), 0 < n → N = ((row.length + 0 : Nat) : Int) → (∀ w, rdR f 0 b = some w → column_input_values_L2 200000 N n b false row = some (w.2, false, row ++ w.1)) ∧ (rdR f 0 b = none → ∃ b' row', column_input_values_L2 200000 N n b false row = some (b', true, row')) := by
    intro f n b row hn hN
    obtain ⟨n, rfl⟩ : ∃ g, n = g + 1 := ⟨n - 1, by omega⟩
    have hz : rdR f 0 b = some ([], b) := by cases f <;> rfl
    rw [hz]
    refine ⟨fun w hw => ?_, fun h => by cases h⟩
    injection hw with hw; subst hw
    show column_input_values_L2_body _ _ _ _ _ _ = _
    unfold column_input_values_L2_body
    rw [dec_f (by omega), Bool.false_and, cond_false, List.append_nil]
  induction f with
  | zero =>
    intro m n b row hb hm hn hN hl
    obtain rfl : m = 0 := by omega
    exact stop 0 n b row (by omega) hN
  | succ f ih =>
    intro m n b row hb hm hn hN hl
    rcases m with _ | m
    · exact stop _ n b row (by omega) hN
    obtain ⟨n, rfl⟩ : ∃ g, n = g + 2 := ⟨n - 2, by omega⟩
    have hB : column_input_values_L2 200000 N (n + 2) b false row = column_input_values_L2_body 200000 N (column_input_values_L2 200000 N (n + 1)) b false row := rfl
    rw [hB]
    unfold column_input_values_L2_body
    rw [dec_t (by omega), Bool.not_false, Bool.and_self, cond_true, column_input_num_eq hb, Option.bind_some]
    unfold rdR nm
    cases e : rdN b with
    | none =>
      simp only
      refine ⟨fun w hw => (by cases hw), fun _ => ⟨b, row, ?_⟩⟩
      rw [Bool.true_or, Bool.not_true, cond_false]
      exact L2_bad
    | some q =>
      obtain ⟨q1, q2, q3⟩ := rdN_some hb e
      simp only
      rw [w64 (by omega) (by omega), Bool.false_or, show N - (row.length : Int) = ((m + 1 : Nat) : Int) by omega]
      by_cases hc : q.1 < 1 ∨ q.1 > ((m + 1 : Nat) : Int)
      · rw [if_pos hc, or_t hc, Bool.not_true, cond_false]
        exact ⟨fun w hw => (by cases hw), fun _ => ⟨q.2, row, L2_bad⟩⟩
      rw [if_neg hc, or_f hc, Bool.not_false, cond_true]
      cases ev : rdV q.2 with
      | none =>
        obtain ⟨v, b', g⟩ := value_none q3 ev
        refine ⟨fun w hw => (by cases hw), fun _ => ⟨b', row ++ List.replicate q.1.toNat v, ?_⟩⟩
        rw [g, Option.bind_some, Repeat_eq (by omega) (by omega), Option.bind_some, need_t (by simp; omega), Option.bind_some]
        exact L2_bad
      | some p =>
        obtain ⟨i1, i2⟩ := ih (m + 1 - q.1.toNat) (n + 1) p.2 (row ++ List.replicate q.1.toNat p.1) (rdV_some q3 ev).2 (by omega) (by omega) (by rw [List.length_append, List.length_replicate]; omega) (by rw [List.length_append, List.length_replicate]; omega)
        rw [value_some q3 ev, Option.bind_some, Repeat_eq (by omega) (by omega), Option.bind_some, need_t (by simp; omega), Option.bind_some]
        simp only
        cases ew : rdR f (m + 1 - q.1.toNat) p.2 with
        | none => exact ⟨fun w hw => (by cases hw), fun _ => i2 ew⟩
        | some w' =>
          refine ⟨fun w hw => ?_, fun h => by cases h⟩
          injection hw with hw; subst hw
          rw [i1 w' ew]; simp
theorem L3_bad {k N : Int} {n : Nat} {last : Int} {b : List Int} {row : List T_api_Value} : column_input_values_L3 200000 k N (n + 1) last b true row = some (b, true, row) := by
  show column_input_values_L3_body _ _ _ _ _ _ _ _ = _
  unfold column_input_values_L3_body
  rw [Bool.not_true, Bool.and_false, cond_false]
theorem L3_eq {k N : Int} : ∀ (m n : Nat) (last : Int) (b : List Int) (row : List T_api_Value), BO b → m < n → N = ((row.length + m : Nat) : Int) → row.length + m ≤ 20000 →
    (∀ w, rdD k last m b = some w → column_input_values_L3 200000 k N n last b false row = some (w.2, false, row ++ w.1)) ∧ (rdD k last m b = none → ∃ b' row', column_input_values_L3 200000 k N n last b false row = some (b', true, row')) := by
  intro m
  induction m with
  | zero =>
    intro n last b row hb hn hN hl
    obtain ⟨n, rfl⟩ : ∃ g, n = g + 1 := ⟨n - 1, by omega⟩
    refine ⟨fun w hw => ?_, fun h => by simp [rdD] at h⟩
    simp only [rdD] at hw
    injection hw with hw; subst hw
    show column_input_values_L3_body _ _ _ _ _ _ _ _ = _
    unfold column_input_values_L3_body
    rw [dec_f (by omega), Bool.false_and, cond_false, List.append_nil]
  | succ m ih =>
    intro n last b row hb hn hN hl
    obtain ⟨n, rfl⟩ : ∃ g, n = g + 2 := ⟨n - 2, by omega⟩
    have hB : column_input_values_L3 200000 k N (n + 2) last b false row = column_input_values_L3 200000 k N (n + 1) (w_i64 (last + (nm b false).1)) (nm b false).2.b (nm b false).2.bad (row ++ [⟨k, w_i64 (last + (nm b false).1), []⟩]) := by
      show column_input_values_L3_body _ _ _ _ _ _ _ _ = _
      unfold column_input_values_L3_body
      rw [dec_t (by omega), Bool.not_false, Bool.and_self, cond_true, column_input_num_eq hb, Option.bind_some, need_t (by simp; omega), Option.bind_some]
    rw [hB]
    unfold rdD nm
    cases e : rdN b with
    | none =>
      simp only
      exact ⟨fun w hw => (by cases hw), fun _ => ⟨_, _, L3_bad⟩⟩
    | some q =>
      obtain ⟨q1, q2, q3⟩ := rdN_some hb e
      simp only
      obtain ⟨i1, i2⟩ := ih (n + 1) (w_i64 (last + q.1)) q.2 (row ++ [⟨k, w_i64 (last + q.1), []⟩]) q3 (by omega) (by simp; omega) (by simp; omega)
      cases ew : rdD k (w_i64 (last + q.1)) m q.2 with
      | none => exact ⟨fun w hw => (by cases hw), fun _ => i2 ew⟩
      | some w' =>
        refine ⟨fun w hw => ?_, fun h => by cases h⟩
        injection hw with hw; subst hw
        rw [i1 w' ew]; simp
theorem L5_bad {N : Int} {o : List Int × Bool × List T_api_Value} {n : Nat} {b : List Int} {row : List T_api_Value} : column_input_values_L5 200000 N o (n + 1) b true row = some (b, true, row) := by
  show column_input_values_L5_body _ _ _ _ _ _ _ = _
  unfold column_input_values_L5_body
  rw [Bool.not_true, Bool.and_false, cond_false]
theorem L5_eq {N : Int} {o : List Int × Bool × List T_api_Value} : ∀ (m n : Nat) (b : List Int) (row : List T_api_Value), BO b → m < n → N = ((row.length + m : Nat) : Int) → row.length + m ≤ 20000 →
    (∀ w, rdP o.2.2 m b = some w → column_input_values_L5 200000 N o n b false row = some (w.2, false, row ++ w.1)) ∧ (rdP o.2.2 m b = none → ∃ b' row', column_input_values_L5 200000 N o n b false row = some (b', true, row')) := by
  intro m
  induction m with
  | zero =>
    intro n b row hb hn hN hl
    obtain ⟨n, rfl⟩ : ∃ g, n = g + 1 := ⟨n - 1, by omega⟩
    refine ⟨fun w hw => ?_, fun h => by simp [rdP] at h⟩
    simp only [rdP] at hw
    injection hw with hw; subst hw
    show column_input_values_L5_body _ _ _ _ _ _ _ = _
    unfold column_input_values_L5_body
    rw [dec_f (by omega), Bool.false_and, cond_false, List.append_nil]
  | succ m ih =>
    intro n b row hb hn hN hl
    obtain ⟨n, rfl⟩ : ∃ g, n = g + 2 := ⟨n - 2, by omega⟩
    have hB : column_input_values_L5 200000 N o (n + 2) b false row = column_input_values_L5_body 200000 N o (column_input_values_L5 200000 N o (n + 1)) b false row := rfl
    rw [hB]
    unfold column_input_values_L5_body
    rw [dec_t (by omega), Bool.not_false, Bool.and_self, cond_true, column_input_num_eq hb, Option.bind_some]
    unfold rdP nm
    cases e : rdN b with
    | none =>
      simp only
      refine ⟨fun w hw => (by cases hw), fun _ => ⟨b, row, ?_⟩⟩
      rw [Bool.true_or, Bool.not_true, cond_false]
      exact L5_bad
    | some q =>
      obtain ⟨q1, q2, q3⟩ := rdN_some hb e
      simp only
      rw [Bool.false_or]
      by_cases hc : q.1 < 0 ∨ q.1 ≥ (o.2.2.length : Int)
      · rw [if_pos hc, or_t hc, Bool.not_true, cond_false]
        exact ⟨fun w hw => (by cases hw), fun _ => ⟨q.2, row, L5_bad⟩⟩
      rw [if_neg hc, or_f hc, Bool.not_false, cond_true, idxL_at (by omega)]
      have hlt : q.1.toNat < o.2.2.length := by omega
      rw [List.getElem?_eq_getElem hlt, Option.bind_some, need_t (by simp; omega), Option.bind_some]
      simp only
      obtain ⟨i1, i2⟩ := ih (n + 1) q.2 (row ++ [o.2.2[q.1.toNat]]) q3 (by omega) (by simp; omega) (by simp; omega)
      cases ew : rdP o.2.2 m q.2 with
      | none => exact ⟨fun w hw => (by cases hw), fun _ => i2 ew⟩
      | some w' =>
        refine ⟨fun w hw => ?_, fun h => by cases h⟩
        injection hw with hw; subst hw
        rw [i1 w' ew]; simp
def fullB (o : Option (List T_api_Value × List Int)) : Option (List T_api_Value) := match o with
  | none => none
  | some w => if w.2 = [] then some w.1 else none
def decD (n : Nat) (b : List Int) : Option (List T_api_Value) := match rdN b with
  | none => none
  | some q => if q.1 < 0 ∨ q.1 > (n : Int) then none else match rdVs q.1.toNat q.2 with
    | none => none
    | some w => fullB (rdP w.1 n w.2)
def decB (c k : Int) (n : Nat) (b : List Int) : Option (List T_api_Value) :=
  if c = 0 then fullB (rdVs n b) else if c = 1 then fullB (rdR n n b) else if c = 2 then fullB (rdD k 0 n b) else if c = 3 then decD n b else none
theorem rdVs_BO : ∀ (m : Nat) {b : List Int} {w : List T_api_Value × List Int}, BO b → rdVs m b = some w → BO w.2 ∧ w.1.length = m := by
  intro m
  induction m with
  | zero => intro b w hb h; simp only [rdVs] at h; injection h with h; subst h; exact ⟨hb, rfl⟩
  | succ m ih =>
    intro b w hb h
    unfold rdVs at h
    cases e : rdV b with
    | none => rw [e] at h; cases h
    | some q =>
      rw [e] at h
      simp only at h
      cases e2 : rdVs m q.2 with
      | none => rw [e2] at h; cases h
      | some w' => rw [e2] at h; injection h with h; subst h; have := ih (rdV_some hb e).2 e2; exact ⟨this.1, by simp [this.2]⟩
theorem fullB_some {o : Option (List T_api_Value × List Int)} {vs : List T_api_Value} (h : fullB o = some vs) : o = some (vs, []) := by
  cases o with
  | none => cases h
  | some w =>
    unfold fullB at h
    simp only at h
    split at h
    · rename_i hz; injection h with h; subst h; rw [← hz]
    · cases h
theorem fullB_none {o : Option (List T_api_Value × List Int)} (h : fullB o = none) : o = none ∨ ∃ w, o = some w ∧ w.2 ≠ [] := by
  cases o with
  | none => exact .inl rfl
  | some w =>
    unfold fullB at h
    simp only at h
    split at h
    · cases h
    · rename_i hz; exact .inr ⟨w, rfl, hz⟩
theorem len_pos_dec {b : List Int} (h : b ≠ []) : decide ((((b).length : Nat) : Int) > (0 : Int)) = true := by
  cases b with
  | nil => exact absurd rfl h
  | cons c r => rw [dec_t (by simp only [List.length_cons]; omega)]
theorem values_end {X : Option (List Int × Bool × List T_api_Value)} {o : Option (List T_api_Value × List Int)} (h1 : ∀ w, o = some w → X = some (w.2, false, w.1)) (h2 : o = none → ∃ b' row', X = some (b', true, row')) :
    (∀ vs, fullB o = some vs → ∃ b', (X.bind fun o_1 => some (o_1.2.2, (⟨o_1.1, (o_1.2.1 || decide ((((o_1.1).length : Nat) : Int) > (0 : Int)))⟩ : T_column_input))) = some (vs, ⟨b', false⟩)) ∧
    (fullB o = none → ∃ vs b', (X.bind fun o_1 => some (o_1.2.2, (⟨o_1.1, (o_1.2.1 || decide ((((o_1.1).length : Nat) : Int) > (0 : Int)))⟩ : T_column_input))) = some (vs, ⟨b', true⟩)) := by
  refine ⟨fun vs h => ?_, fun h => ?_⟩
  · rw [h1 _ (fullB_some h)]; exact ⟨[], rfl⟩
  · rcases fullB_none h with e | ⟨w, e, hz⟩
    · obtain ⟨b', row', g⟩ := h2 e
      rw [g]; exact ⟨row', b', by rw [Option.bind_some, Bool.true_or]⟩
    · rw [h1 _ e]; exact ⟨w.1, w.2, by rw [Option.bind_some, len_pos_dec hz, Bool.or_true]⟩
theorem bind_eta {X : Option (List Int × Bool × List T_api_Value)} : (X.bind fun (o : List Int × Bool × List T_api_Value) => some (o.1, o.2.1, o.2.2)) = X := by cases X <;> rfl
theorem column_input_values_eq {c k : Int} {N : Int} {n : Nat} {b : List Int} (hb : BO b) (hN : N = (n : Int)) (hn : n ≤ 20000) :
    (∀ vs, decB c k n b = some vs → ∃ b', column_input_values 200000 ⟨b, false⟩ c k N = some (vs, ⟨b', false⟩)) ∧ (decB c k n b = none → ∃ vs b', column_input_values 200000 ⟨b, false⟩ c k N = some (vs, ⟨b', true⟩)) := by
  unfold column_input_values decB
  simp only [bind_eta]
  by_cases c0 : c = 0
  · rw [beq_t c0, cond_true, if_pos c0]
    obtain ⟨i1, i2⟩ := L1_eq (q := N) n 200000 b [] hb (by omega) (by simpa using hN) (by simpa using hn)
    exact values_end (fun w hw => by simpa using i1 w hw) i2
  rw [beq_f c0, cond_false, if_neg c0]
  by_cases c1 : c = 1
  · rw [beq_t c1, cond_true, if_pos c1]
    obtain ⟨i1, i2⟩ := L2_eq (N := N) n n 200000 b [] hb (by omega) (by omega) (by simpa using hN) (by simpa using hn)
    exact values_end (fun w hw => by simpa using i1 w hw) i2
  rw [beq_f c1, cond_false, if_neg c1]
  by_cases c2 : c = 2
  · rw [beq_t c2, cond_true, if_pos c2]
    obtain ⟨i1, i2⟩ := L3_eq (k := k) (N := N) n 200000 0 b [] hb (by omega) (by simpa using hN) (by simpa using hn)
    exact values_end (fun w hw => by simpa using i1 w hw) i2
  rw [beq_f c2, cond_false, if_neg c2]
  by_cases c3 : c = 3
  · rw [beq_t c3, cond_true, if_pos c3, column_input_num_eq hb, Option.bind_some]
    unfold decD nm
    have l5 : ∀ o : List Int × Bool × List T_api_Value, o.2.1 = true → column_input_values_L5 200000 N o 200000 o.1 o.2.1 [] = some (o.1, true, []) := by
      intro o ho; rw [ho]; exact L5_bad
    cases e : rdN b with
    | none =>
      simp only
      refine ⟨fun vs h => (by cases h), fun _ => ?_⟩
      rw [Bool.true_or, show column_input_values_L4 200000 (0, ⟨b, true⟩) 200000 b true [] = some (b, true, []) from L4_bad, Option.bind_some, l5 _ rfl, Option.bind_some]
      exact ⟨_, _, rfl⟩
    | some q =>
      obtain ⟨q1, q2, q3⟩ := rdN_some hb e
      simp only
      rw [Bool.false_or, hN]
      by_cases hc : q.1 < 0 ∨ q.1 > (n : Int)
      · rw [if_pos hc, or_t hc]
        refine ⟨fun vs h => (by cases h), fun _ => ?_⟩
        rw [show column_input_values_L4 200000 (q.1, ⟨q.2, false⟩) 200000 q.2 true [] = some (q.2, true, []) from L4_bad, Option.bind_some, ← hN, l5 _ rfl, Option.bind_some]
        exact ⟨_, _, rfl⟩
      rw [if_neg hc, or_f hc]
      obtain ⟨i1, i2⟩ := L4_eq (q := (q.1, ⟨q.2, false⟩)) q.1.toNat 200000 q.2 [] q3 (by omega) (by simp; omega) (by simp; omega)
      cases ew : rdVs q.1.toNat q.2 with
      | none =>
        simp only
        obtain ⟨b', row', g⟩ := i2 ew
        refine ⟨fun vs h => (by cases h), fun _ => ?_⟩
        rw [g, Option.bind_some, ← hN, l5 _ rfl, Option.bind_some]
        exact ⟨_, _, rfl⟩
      | some w =>
        simp only
        rw [i1 w ew, Option.bind_some, ← hN]
        simp only [List.nil_append]
        obtain ⟨j1, j2⟩ := L5_eq (N := N) (o := (w.2, false, w.1)) n 200000 w.2 [] (rdVs_BO _ q3 ew).1 (by omega) (by simpa using hN) (by simpa using hn)
        have := values_end (X := column_input_values_L5 200000 N (w.2, false, w.1) 200000 w.2 false []) (fun w' hw => by simpa using j1 w' hw) j2
        exact this
  · rw [beq_f c3, cond_false, if_neg c3]
    refine ⟨fun vs h => (by cases h), fun _ => ?_⟩
    rw [Option.bind_some]
    exact ⟨_, _, by rw [Bool.true_or]⟩
/-- What Decode returns. -/
def decS (p : T_api_Packed) : List T_api_Value × Int :=
  if p.Type_ < 1 ∨ p.Type_ > 3 then ([], 1) else if p.N > 20000 then ([], 7) else if p.N < 0 then ([], 10) else match p.Bytes with
  | [] => ([], 10)
  | c :: b => match decB c p.Type_ p.N.toNat b with
    | none => ([], 10)
    | some vs => if encS p.Type_ vs = (p, 0) then (vs, 0) else ([], 10)
theorem encS_type {k : Int} {l : List T_api_Value} (h : (encS k l).2 = 0) : ¬ (k < 1 ∨ k > 3) ∧ l.length ≤ 20000 ∧ (∀ v ∈ l, VV k v) ∧ (encS k l).1 = ⟨k, l.length, bestS k l⟩ := by
  unfold encS at h ⊢
  by_cases h1 : k < 1 ∨ k > 3
  · rw [if_pos h1] at h; cases h
  rw [if_neg h1] at h ⊢
  by_cases h2 : l.length > 20000
  · rw [if_pos h2] at h; cases h
  rw [if_neg h2] at h ⊢
  cases he : errV k l with
  | inl u => exact ⟨h1, by omega, fun v hv => vv_of (errV_all he v hv), rfl⟩
  | inr q =>
    rw [he] at h
    simp only at h
    exfalso
    unfold errV at he
    have : ∀ (l : List T_api_Value) (i : Nat) (q : T_api_Packed × Int), firstBad (fun _ v => if valS k v ≠ 0 then some (pk33, valS k v) else none) i l = .inr q → q.2 ≠ 0 := by
      intro l
      induction l with
      | nil => intro i q h; cases h
      | cons x r ih =>
        intro i q h
        simp only [firstBad] at h
        by_cases hz : valS k x ≠ 0
        · rw [if_pos hz] at h; injection h with h; rw [← h]; exact hz
        · rw [if_neg hz] at h; exact ih _ _ h
    exact this l 0 q he h
theorem same_cond {k : Int} {l : List T_api_Value} {p : T_api_Packed} (hk : p.Type_ = k) : decide (encS k l = (p, 0)) = !((encS k l).2 != 0 || ((encS k l).1.N != p.N || !((encS k l).1.Bytes == p.Bytes))) := by
  by_cases h : encS k l = (p, 0)
  · rw [dec_t h, h]; simp
  · rw [dec_f h]
    by_cases h1 : (encS k l).2 = 0
    · have ht := (encS_type h1).2.2.2
      have h0 : (encS k l).1 ≠ p := fun e => h (by rw [← e, ← h1])
      rw [bne_f h1, Bool.false_or]
      by_cases h2 : (encS k l).1.N = p.N
      · rw [bne_f h2, Bool.false_or]
        by_cases h3 : (encS k l).1.Bytes = p.Bytes
        · exfalso; apply h0
          have e1 : (encS k l).1.Type_ = k := by rw [ht]
          generalize (encS k l).1 = x at *
          cases x; cases p; simp_all
        · rw [beqA_f h3]; rfl
      · rw [bne_t h2]; rfl
    · rw [bne_t h1]; rfl
theorem same_cond' {k : Int} {l : List T_api_Value} {p : T_api_Packed} (hk : p.Type_ = k) : ((encS k l).2 != 0 || ((encS k l).1.N != p.N || !((encS k l).1.Bytes == p.Bytes))) = !decide (encS k l = (p, 0)) := by rw [same_cond hk, Bool.not_not]
theorem column_Decode_eq {p : T_api_Packed} (hb : BO p.Bytes) : column_Decode 200000 p = some (decS p) := by
  unfold column_Decode column_known decS
  by_cases hk : p.Type_ < 1 ∨ p.Type_ > 3
  · rw [if_pos hk, show ((p.Type_ != (1 : Int)) && ((p.Type_ != (2 : Int)) && (p.Type_ != (3 : Int)))) = true by simp; omega, cond_true, Option.bind_some]; rfl
  rw [if_neg hk, show ((p.Type_ != (1 : Int)) && ((p.Type_ != (2 : Int)) && (p.Type_ != (3 : Int)))) = false by simp; omega, cond_false, Option.bind_some, bne_f rfl, cond_false]
  by_cases h2 : p.N > 20000
  · rw [dec_t h2, cond_true, if_pos h2]
  rw [dec_f h2, cond_false, if_neg h2]
  by_cases h3 : p.N < 0
  · rw [dec_t h3, Bool.true_or, cond_true, if_pos h3]
  rw [dec_f h3, Bool.false_or, if_neg h3]
  cases hB : p.Bytes with
  | nil => rfl
  | cons c b =>
    rw [hB] at hb
    rw [beq_f (by simp only [List.length_cons]; omega), cond_false, need_t (by simp only [List.length_cons]; omega), Option.bind_some, show idxL (c :: b) 0 = some c from rfl, Option.bind_some, show sub (c :: b) 1 (((c :: b).length : Nat) : Int) = b by rw [sub_dropN (by omega)]; rfl]
    simp only
    obtain ⟨i1, i2⟩ := column_input_values_eq (c := c) (k := p.Type_) (N := p.N) (n := p.N.toNat) hb.tail (by omega) (by omega)
    cases e : decB c p.Type_ p.N.toNat b with
    | none =>
      obtain ⟨vs, b', g⟩ := i2 e
      rw [g, Option.bind_some, cond_true]
    | some vs =>
      obtain ⟨b', g⟩ := i1 vs e
      rw [g, Option.bind_some, cond_false, column_Encode_eq, Option.bind_some]
      unfold bytes_Equal
      have hs := same_cond' (k := p.Type_) (l := vs) (p := p) rfl
      rw [hB] at hs
      simp only [Option.bind_some]
      have e1 : ∀ x y z : Bool, (bif x then some true else bif y then some true else some (!z)) = some (x || (y || !z)) := by decide
      rw [e1, Option.bind_some, hs]
      by_cases h : encS p.Type_ vs = (p, 0)
      · rw [dec_t h, if_pos h]; rfl
      · rw [dec_f h, if_neg h]; rfl
end Go.Ab
