/- Columns: the other reader. -/
import Derived.Test.YtefkcplneflhgaaC33d
namespace Go.Ab
open Go
set_option linter.unusedVariables false

theorem R33_value_eq {b : List Int} (h : BO b) : R33_value 200000 b = some (match rdV b with | some q => (q.1, ((b.length - q.2.length : Nat) : Int)) | none => (⟨0, 0, []⟩, 0)) := by
  cases b with
  | nil => rfl
  | cons c t =>
    have hc := h.1 c (by simp)
    unfold okU8 at hc
    have ht := h.tail
    have h2 := ht.2
    have hs : sub (c :: t) 1 (((c :: t).length : Nat) : Int) = t := by rw [sub_dropN (by omega)]; rfl
    unfold R33_value
    rw [rdV_cons]
    rw [beq_f (by simp only [List.length_cons]; omega), cond_false, show idxL (c :: t) 0 = some c from rfl, Option.bind_some, Option.bind_some, Option.bind_some, w64 (x := c) (by omega) (by omega), hs]
    by_cases c0 : c = 0
    · subst c0
      rw [dec_f (by omega), cond_false, if_pos rfl]
      simp only [List.length_cons]
      rw [show t.length + 1 - t.length = 1 by omega]; rfl
    rw [if_neg c0]
    by_cases c1 : c = 1 ∨ c = 2
    · rw [dec_f (by omega), cond_false, beq_f c0, cond_false, beq_f (by omega), cond_false, need_t (by simp only [List.length_cons]; omega), Option.bind_some, R05_Int_eq ht.1 (by omega) (by omega), Option.bind_some, if_pos c1]
      obtain ⟨k1, k2, k3⟩ := vrd_range (i := 0) (u := 0) ht.1 (by omega) (by omega) (by decide)
      unfold rdN
      by_cases e : (vrd t 0 0).2.2 = 0
      · have := k2 e
        rw [bne_f e, cond_false, if_pos e]
        simp only [List.length_cons, List.length_drop]
        rw [w64 (by omega) (by omega)]
        congr 2; omega
      · rw [bne_t e, cond_true, if_neg e]
    rw [if_neg c1]
    by_cases c3 : c = 3
    · subst c3
      rw [dec_f (by omega), cond_false, beq_f (by omega), cond_false, beq_t rfl, cond_true, need_t (by simp only [List.length_cons]; omega), Option.bind_some, R05_Text_eq ht.1 (by omega) (by omega) (by omega), Option.bind_some, if_pos rfl]
      have hr := txt_range (most := 200) ht.1
      by_cases e : (txt t 200).2.2 = 0
      · rw [bne_f e, cond_false, if_pos e]
        simp only [List.length_cons, List.length_drop]
        rw [w64 (by omega) (by omega)]
        congr 2; omega
      · rw [bne_t e, cond_true, if_neg e]
    · rw [dec_t (by omega), cond_true, if_neg c3]
theorem sub_back {b r : List Int} {n : Nat} (h : r = b.drop n) : sub b ((b.length - r.length : Nat) : Int) (b.length : Int) = r := by
  rw [sub_dropN (by omega), Int.toNat_natCast, h, List.length_drop]
  by_cases hn : n ≤ b.length
  · rw [show b.length - (b.length - n) = n by omega]
  · rw [show b.length - (b.length - n) = b.length by omega, List.drop_eq_nil_of_le (Nat.le_refl _), List.drop_eq_nil_of_le (by omega)]
theorem rdN_drop {b : List Int} {q : Int × List Int} (e : rdN b = some q) : q = ((vrd b 0 0).1, b.drop (vrd b 0 0).2.1.toNat) ∧ (vrd b 0 0).2.2 = 0 := by
  unfold rdN at e
  split at e
  · rename_i hz; injection e with e; exact ⟨e.symm, hz⟩
  · cases e
theorem rdV_drop {b : List Int} {q : T_api_Value × List Int} (e : rdV b = some q) : ∃ n, q.2 = b.drop n := by
  cases b with
  | nil => cases e
  | cons c t =>
    rw [rdV_cons] at e
    split at e
    · injection e with e; subst e; exact ⟨1, rfl⟩
    split at e
    · cases hq : rdN t with
      | none => rw [hq] at e; cases e
      | some w =>
        rw [hq] at e; injection e with e; subst e
        exact ⟨(vrd t 0 0).2.1.toNat + 1, by rw [(rdN_drop hq).1]; rfl⟩
    split at e
    · split at e
      · injection e with e; subst e; exact ⟨(txt t 200).2.1.toNat + 1, rfl⟩
      · cases e
    · cases e
def uo : List T_api_Value ⊕ List T_api_Value → List T_api_Value
  | .inl x => x
  | .inr x => x
theorem bits0 {p : T_api_Packed} {q : List Int × List T_api_Value} {n : Nat} {b : List Int} {row : List T_api_Value} (h : ¬ ((row.length : Int) < p.N) ∨ b = []) : R33_unpack_L2 200000 p q (n + 1) b row = some (.inl row) := by
  show R33_unpack_L2_body _ _ _ _ _ _ = _
  unfold R33_unpack_L2_body
  rcases h with h | h
  · rw [dec_f h, Bool.false_and, cond_false]
  · rw [h, dec_f (p := ((([] : List Int).length : Nat) : Int) > 0) (by simp), Bool.and_false, cond_false]
theorem go0 {p : T_api_Packed} {b : List Int} {row : List T_api_Value} (h : (row.length : Int) < p.N) (hb : 0 < b.length) : (decide ((((row).length : Nat) : Int) < p.N) && decide ((((b).length : Nat) : Int) > (0 : Int))) = true := by
  rw [dec_t h, dec_t (by omega)]; rfl
theorem RL_0 {p : T_api_Packed} {q : List Int × List T_api_Value} (hc : idxL p.Bytes 0 = some 0) (hN : p.N ≤ 20000) : ∀ (n : Nat) (b : List Int) (row : List T_api_Value), BO b → b.length < n → row.length ≤ 20000 →
    ∃ o, R33_unpack_L2 200000 p q n b row = some o ∧ ∀ w, rdVs (p.N - row.length).toNat b = some w → uo o = row ++ w.1 := by
  intro n
  induction n with
  | zero => intro b row _ h; omega
  | succ n ih =>
    intro b row hb hn hl
    by_cases h1 : (row.length : Int) < p.N
    rotate_left
    · refine ⟨_, bits0 (.inl h1), fun w hw => ?_⟩
      rw [show (p.N - (row.length : Int)).toNat = 0 by omega] at hw
      simp only [rdVs] at hw
      injection hw with hw; subst hw; simp [uo]
    obtain ⟨m, hm⟩ : ∃ m, (p.N - (row.length : Int)).toNat = m + 1 := ⟨(p.N - (row.length : Int)).toNat - 1, by omega⟩
    by_cases h2 : b = []
    · refine ⟨_, bits0 (.inr h2), fun w hw => ?_⟩
      rw [hm, h2] at hw; cases hw
    have hbp : 0 < b.length := List.length_pos_iff.2 h2
    have hB : R33_unpack_L2 200000 p q (n + 1) b row = R33_unpack_L2_body 200000 p q (R33_unpack_L2 200000 p q n) b row := rfl
    rw [hB]
    unfold R33_unpack_L2_body
    rw [go0 h1 hbp, cond_true, hc, Option.bind_some, beq_t rfl, cond_true, R33_value_eq hb, Option.bind_some, hm]
    unfold rdVs
    cases e : rdV b with
    | none => simp only; rw [beq_t rfl, cond_true]; exact ⟨_, rfl, fun w hw => by cases hw⟩
    | some v =>
      have hv := rdV_some hb e
      obtain ⟨d, hd⟩ := rdV_drop e
      simp only
      rw [beq_f (by omega), cond_false, need_t (by simp; omega), Option.bind_some, need_t (by omega), Option.bind_some, sub_back hd]
      obtain ⟨o, g1, g2⟩ := ih v.2 (row ++ [v.1]) hv.2 (by omega) (by simp; omega)
      refine ⟨o, g1, fun w hw => ?_⟩
      have hm2 : (p.N - ((row ++ [v.1]).length : Int)).toNat = m := by simp; omega
      rw [hm2] at g2
      cases ew : rdVs m v.2 with
      | none => rw [ew] at hw; cases hw
      | some w' => rw [ew] at hw; injection hw with hw; subst hw; rw [g2 w' ew]; simp
def lastN (row : List T_api_Value) : Int := ((row.getLast?).map (·.N)).getD 0
theorem num_step {b : List Int} (hb : BO b) : R05_Int 200000 b = some (vrd b 0 0) := R05_Int_eq hb.1 (by have := hb.2; omega) (by omega)
theorem num_bound {b : List Int} (hb : BO b) (e : (vrd b 0 0).2.2 = 0) : 0 ≤ (vrd b 0 0).2.1 ∧ (vrd b 0 0).2.1 ≤ (b.length : Int) := by
  obtain ⟨k1, k2, k3⟩ := vrd_range (i := 0) (u := 0) hb.1 (by omega) (by omega) (by decide)
  have := k2 e; omega
theorem RL_2 {p : T_api_Packed} {q : List Int × List T_api_Value} (hc : idxL p.Bytes 0 = some 2) (hN : p.N ≤ 20000) : ∀ (n : Nat) (b : List Int) (row : List T_api_Value), BO b → b.length < n → row.length ≤ 20000 →
    ∃ o, R33_unpack_L2 200000 p q n b row = some o ∧ ∀ w, rdD p.Type_ (lastN row) (p.N - row.length).toNat b = some w → uo o = row ++ w.1 := by
  intro n
  induction n with
  | zero => intro b row _ h; omega
  | succ n ih =>
    intro b row hb hn hl
    by_cases h1 : (row.length : Int) < p.N
    rotate_left
    · refine ⟨_, bits0 (.inl h1), fun w hw => ?_⟩
      rw [show (p.N - (row.length : Int)).toNat = 0 by omega] at hw
      simp only [rdD] at hw
      injection hw with hw; subst hw; simp [uo]
    obtain ⟨m, hm⟩ : ∃ m, (p.N - (row.length : Int)).toNat = m + 1 := ⟨(p.N - (row.length : Int)).toNat - 1, by omega⟩
    by_cases h2 : b = []
    · refine ⟨_, bits0 (.inr h2), fun w hw => ?_⟩
      rw [hm, h2] at hw; cases hw
    have hbp : 0 < b.length := List.length_pos_iff.2 h2
    have hB : R33_unpack_L2 200000 p q (n + 1) b row = R33_unpack_L2_body 200000 p q (R33_unpack_L2 200000 p q n) b row := rfl
    rw [hB]
    unfold R33_unpack_L2_body
    rw [go0 h1 hbp, cond_true, hc, Option.bind_some, beq_f (by omega), cond_false, num_step hb, Option.bind_some, hm]
    unfold rdD
    cases e : rdN b with
    | none =>
      have hz : (vrd b 0 0).2.2 ≠ 0 := fun hz => by unfold rdN at e; rw [if_pos hz] at e; cases e
      rw [bne_t hz, cond_true]; exact ⟨_, rfl, fun w hw => by cases hw⟩
    | some v =>
      have hv := rdN_some hb e
      obtain ⟨hd, hz⟩ := rdN_drop e
      have hnb := num_bound hb hz
      simp only
      rw [bne_f hz, cond_false, need_t hnb, Option.bind_some, Option.bind_some, beq_t rfl, cond_true, sub_dropN hnb.1]
      have e1 : (vrd b 0 0).1 = v.1 := by rw [hd]
      have e2 : b.drop (vrd b 0 0).2.1.toNat = v.2 := by rw [hd]
      rw [e1, e2]
      have e3 : (bif decide ((((row).length : Nat) : Int) > (0 : Int)) then (idxL row (w_i64 ((((row).length : Nat) : Int) - (1 : Int)))).bind fun x_4 => some (w_i64 (v.1 + x_4.N)) else some v.1 : Option Int) = some (w_i64 (lastN row + v.1)) := by
        by_cases hr : row = []
        · have ho := hv.1; unfold okI64 at ho
          subst hr
          rw [dec_f (by simp), cond_false]
          show some v.1 = some (w_i64 (0 + v.1))
          rw [Int.zero_add, w64 (by omega) (by omega)]
        · have hp : 0 < row.length := List.length_pos_iff.2 hr
          rw [dec_t (by omega), cond_true, idxL_last (by omega) hr]
          unfold lastN
          rw [List.getLast?_eq_some_getLast hr, Option.bind_some, Int.add_comm]; rfl
      rw [e3, Option.bind_some, need_t (by simp; omega), Option.bind_some]
      obtain ⟨o, g1, g2⟩ := ih v.2 (row ++ [⟨p.Type_, w_i64 (lastN row + v.1), []⟩]) hv.2.2 (by omega) (by simp; omega)
      refine ⟨o, g1, fun w hw => ?_⟩
      have hm2 : (p.N - ((row ++ [(⟨p.Type_, w_i64 (lastN row + v.1), []⟩ : T_api_Value)]).length : Int)).toNat = m := by simp; omega
      have hl2 : lastN (row ++ [(⟨p.Type_, w_i64 (lastN row + v.1), []⟩ : T_api_Value)]) = w_i64 (lastN row + v.1) := by
        unfold lastN; rw [List.getLast?_concat]; rfl
      rw [hm2, hl2] at g2
      cases ew : rdD p.Type_ (w_i64 (lastN row + v.1)) m v.2 with
      | none => rw [ew] at hw; cases hw
      | some w' => rw [ew] at hw; injection hw with hw; subst hw; rw [g2 w' ew]; simp
theorem RL_3 {p : T_api_Packed} {q : List Int × List T_api_Value} (hc : idxL p.Bytes 0 = some 3) (hN : p.N ≤ 20000) : ∀ (n : Nat) (b : List Int) (row : List T_api_Value), BO b → b.length < n → row.length ≤ 20000 →
    ∃ o, R33_unpack_L2 200000 p q n b row = some o ∧ ∀ w, rdP q.2 (p.N - row.length).toNat b = some w → uo o = row ++ w.1 := by
  intro n
  induction n with
  | zero => intro b row _ h; omega
  | succ n ih =>
    intro b row hb hn hl
    by_cases h1 : (row.length : Int) < p.N
    rotate_left
    · refine ⟨_, bits0 (.inl h1), fun w hw => ?_⟩
      rw [show (p.N - (row.length : Int)).toNat = 0 by omega] at hw
      simp only [rdP] at hw
      injection hw with hw; subst hw; simp [uo]
    obtain ⟨m, hm⟩ : ∃ m, (p.N - (row.length : Int)).toNat = m + 1 := ⟨(p.N - (row.length : Int)).toNat - 1, by omega⟩
    by_cases h2 : b = []
    · refine ⟨_, bits0 (.inr h2), fun w hw => ?_⟩
      rw [hm, h2] at hw; cases hw
    have hbp : 0 < b.length := List.length_pos_iff.2 h2
    have hB : R33_unpack_L2 200000 p q (n + 1) b row = R33_unpack_L2_body 200000 p q (R33_unpack_L2 200000 p q n) b row := rfl
    rw [hB]
    unfold R33_unpack_L2_body
    rw [go0 h1 hbp, cond_true, hc, Option.bind_some, beq_f (by omega), cond_false, num_step hb, Option.bind_some, hm]
    unfold rdP
    cases e : rdN b with
    | none =>
      have hz : (vrd b 0 0).2.2 ≠ 0 := fun hz => by unfold rdN at e; rw [if_pos hz] at e; cases e
      rw [bne_t hz, cond_true]; exact ⟨_, rfl, fun w hw => by cases hw⟩
    | some v =>
      have hv := rdN_some hb e
      obtain ⟨hd, hz⟩ := rdN_drop e
      have hnb := num_bound hb hz
      simp only
      rw [bne_f hz, cond_false, need_t hnb, Option.bind_some, Option.bind_some, beq_f (by omega), cond_false, Option.bind_some, beq_t rfl, cond_true, sub_dropN hnb.1]
      have e1 : (vrd b 0 0).1 = v.1 := by rw [hd]
      have e2 : b.drop (vrd b 0 0).2.1.toNat = v.2 := by rw [hd]
      rw [e1, e2]
      by_cases hr : v.1 < 0 ∨ v.1 ≥ (q.2.length : Int)
      · rw [or_t hr, cond_true, if_pos hr]; exact ⟨_, rfl, fun w hw => by cases hw⟩
      rw [or_f hr, cond_false, if_neg hr, idxL_at (by omega)]
      have hlt : v.1.toNat < q.2.length := by omega
      rw [List.getElem?_eq_getElem hlt, Option.bind_some, need_t (by simp; omega), Option.bind_some]
      simp only
      obtain ⟨o, g1, g2⟩ := ih v.2 (row ++ [q.2[v.1.toNat]]) hv.2.2 (by omega) (by simp; omega)
      refine ⟨o, g1, fun w hw => ?_⟩
      have hm2 : (p.N - ((row ++ [q.2[v.1.toNat]]).length : Int)).toNat = m := by simp; omega
      rw [hm2] at g2
      cases ew : rdP q.2 m v.2 with
      | none => rw [ew] at hw; cases hw
      | some w' => rw [ew] at hw; injection hw with hw; subst hw; rw [g2 w' ew]; simp
theorem RL3_eq {p : T_api_Packed} {r4 : Int × Int × Int} {r5 : T_api_Value × Int} (hN : p.N ≤ 20000) : ∀ (n : Nat) (j : Int) (row : List T_api_Value), (p.N - row.length).toNat < n → 0 ≤ j → j ≤ row.length → row.length ≤ 20000 →
    R33_unpack_L3 200000 p r4 r5 n j row = some (row ++ List.replicate (min (r4.1 - j).toNat (p.N - row.length).toNat) r5.1) := by
  intro n
  induction n with
  | zero => intro j row h; omega
  | succ n ih =>
    intro j row hn h0 hj hl
    show R33_unpack_L3_body _ _ _ _ _ _ _ = _
    unfold R33_unpack_L3_body
    by_cases h1 : j < r4.1
    rotate_left
    · rw [dec_f h1, Bool.false_and, cond_false, show min (r4.1 - j).toNat (p.N - row.length).toNat = 0 by omega]; simp
    by_cases h2 : (row.length : Int) < p.N
    rotate_left
    · rw [dec_f h2, Bool.and_false, cond_false, show min (r4.1 - j).toNat (p.N - row.length).toNat = 0 by omega]; simp
    rw [dec_t h1, dec_t h2, Bool.and_self, cond_true, need_t (by simp; omega), Option.bind_some, w64 (by omega) (by omega), ih (j + 1) _ (by simp; omega) (by omega) (by simp; omega) (by simp; omega)]
    rw [show min (r4.1 - j).toNat (p.N - row.length).toNat = min (r4.1 - (j + 1)).toNat (p.N - ((row ++ [r5.1]).length : Int)).toNat + 1 by simp; omega, List.replicate_succ]
    simp
theorem RL_r {p : T_api_Packed} {q : List Int × List T_api_Value} {c : Int} (hc : idxL p.Bytes 0 = some c) (c0 : c ≠ 0) (c2 : c ≠ 2) (c3 : c ≠ 3) (hN : p.N ≤ 20000) : ∀ (n : Nat) (b : List Int) (row : List T_api_Value), BO b → b.length < n → row.length ≤ 20000 →
    ∃ o, R33_unpack_L2 200000 p q n b row = some o ∧ ∀ f w, rdR f (p.N - row.length).toNat b = some w → uo o = row ++ w.1 := by
  intro n
  induction n with
  | zero => intro b row _ h; omega
  | succ n ih =>
    intro b row hb hn hl
    by_cases h1 : (row.length : Int) < p.N
    rotate_left
    · refine ⟨_, bits0 (.inl h1), fun f w hw => ?_⟩
      rw [show (p.N - (row.length : Int)).toNat = 0 by omega] at hw
      have hz : rdR f 0 b = some ([], b) := by cases f <;> rfl
      rw [hz] at hw
      injection hw with hw; subst hw; simp [uo]
    obtain ⟨m, hm⟩ : ∃ m, (p.N - (row.length : Int)).toNat = m + 1 := ⟨(p.N - (row.length : Int)).toNat - 1, by omega⟩
    by_cases h2 : b = []
    · refine ⟨_, bits0 (.inr h2), fun f w hw => ?_⟩
      rw [hm, h2] at hw
      cases f <;> cases hw
    have hbp : 0 < b.length := List.length_pos_iff.2 h2
    have hB : R33_unpack_L2 200000 p q (n + 1) b row = R33_unpack_L2_body 200000 p q (R33_unpack_L2 200000 p q n) b row := rfl
    rw [hB]
    unfold R33_unpack_L2_body
    rw [go0 h1 hbp, cond_true, hc, Option.bind_some, beq_f c0, cond_false, num_step hb, Option.bind_some]
    have hbad : ∀ o, ∃ o', (some (.inr o) : Option (List T_api_Value ⊕ List T_api_Value)) = some o' := fun o => ⟨_, rfl⟩
    cases e : rdN b with
    | none =>
      have hz : (vrd b 0 0).2.2 ≠ 0 := fun hz => by unfold rdN at e; rw [if_pos hz] at e; cases e
      rw [bne_t hz, cond_true]
      refine ⟨_, rfl, fun f w hw => ?_⟩
      rw [hm] at hw
      cases f with
      | zero => cases hw
      | succ f => unfold rdR at hw; rw [e] at hw; cases hw
    | some v =>
      have hv := rdN_some hb e
      obtain ⟨hd, hz⟩ := rdN_drop e
      have hnb := num_bound hb hz
      rw [bne_f hz, cond_false, need_t hnb, Option.bind_some, Option.bind_some, beq_f c2, cond_false, Option.bind_some, beq_f c3, cond_false, sub_dropN hnb.1]
      have e1 : (vrd b 0 0).1 = v.1 := by rw [hd]
      have e2 : b.drop (vrd b 0 0).2.1.toNat = v.2 := by rw [hd]
      rw [e2, R33_value_eq hv.2.2, Option.bind_some]
      cases ev : rdV v.2 with
      | none =>
        simp only
        rw [beq_t rfl, cond_true]
        refine ⟨_, rfl, fun f w hw => ?_⟩
        rw [hm] at hw
        cases f with
        | zero => cases hw
        | succ f =>
          unfold rdR at hw
          rw [e] at hw
          simp only at hw
          split at hw
          · cases hw
          · rw [ev] at hw; cases hw
      | some x =>
        have hx := rdV_some hv.2.2 ev
        obtain ⟨d, hd2⟩ := rdV_drop ev
        simp only
        rw [beq_f (by omega), cond_false, RL3_eq hN 200000 0 row (by omega) (by omega) (by omega) hl, Option.bind_some, need_t (by omega), Option.bind_some, sub_back hd2, e1]
        obtain ⟨o, g1, g2⟩ := ih x.2 (row ++ List.replicate (min (v.1 - 0).toNat (p.N - row.length).toNat) x.1) hx.2 (by omega) (by rw [List.length_append, List.length_replicate]; omega)
        refine ⟨o, g1, fun f w hw => ?_⟩
        rw [hm] at hw
        cases f with
        | zero => cases hw
        | succ f =>
          unfold rdR at hw
          rw [e] at hw
          simp only at hw
          split at hw
          · cases hw
          rename_i hcc
          rw [ev] at hw
          simp only at hw
          cases ew : rdR f (m + 1 - v.1.toNat) x.2 with
          | none => rw [ew] at hw; cases hw
          | some w' =>
            rw [ew] at hw
            injection hw with hw
            subst hw
            have e4 : min (v.1 - 0).toNat (p.N - row.length).toNat = v.1.toNat := by omega
            rw [e4] at g2
            rw [g2 f w' (by rw [← ew]; congr 1; rw [List.length_append, List.length_replicate]; omega)]
            simp
theorem RL1_eq {p : T_api_Packed} {r : Int × Int × Int} (hN : p.N ≤ 20000) : ∀ (n i : Nat) (b : List Int) (row : List T_api_Value), BO b → (p.N - (i : Int)).toNat < n → row.length = i → i ≤ 20000 →
    ∃ o, R33_unpack_L1 200000 p r n b (i : Nat) row = some o ∧ BO o.1 ∧ ∀ w, r.1 ≤ p.N → rdVs (r.1 - (i : Int)).toNat b = some w → o = (w.2, row ++ w.1) := by
  intro n
  induction n with
  | zero => intro i b row _ h; omega
  | succ n ih =>
    intro i b row hb hn hr hi
    have hB : R33_unpack_L1 200000 p r (n + 1) b (i : Nat) row = R33_unpack_L1_body 200000 p r (R33_unpack_L1 200000 p r n) b (i : Nat) row := rfl
    rw [hB]
    unfold R33_unpack_L1_body
    by_cases h1 : (i : Int) < r.1 ∧ (i : Int) < p.N
    rotate_left
    · rw [show (decide ((i : Int) < r.1) && decide ((i : Int) < p.N)) = false by simp; omega, cond_false]
      refine ⟨_, rfl, hb, fun w hle hw => ?_⟩
      rw [show (r.1 - (i : Int)).toNat = 0 by omega] at hw
      simp only [rdVs] at hw
      injection hw with hw; subst hw; simp
    rw [dec_t h1.1, dec_t h1.2, Bool.and_self, cond_true, R33_value_eq hb, Option.bind_some]
    obtain ⟨m, hm⟩ : ∃ m, (r.1 - (i : Int)).toNat = m + 1 := ⟨(r.1 - (i : Int)).toNat - 1, by omega⟩
    have hm2 : (r.1 - ((i + 1 : Nat) : Int)).toNat = m := by omega
    cases e : rdV b with
    | none =>
      simp only
      rw [need_t (by simp; omega), Option.bind_some, need_t (by omega), Option.bind_some, sub_dropN (by omega), step64 (by omega)]
      obtain ⟨o, g1, g2, g3⟩ := ih (i + 1) (b.drop (0 : Int).toNat) (row ++ [⟨0, 0, []⟩]) (hb.drop _) (by omega) (by simp; omega) (by omega)
      refine ⟨o, g1, g2, fun w hle hw => ?_⟩
      rw [hm] at hw
      unfold rdVs at hw
      rw [e] at hw; cases hw
    | some v =>
      have hv := rdV_some hb e
      obtain ⟨d, hd⟩ := rdV_drop e
      simp only
      rw [need_t (by simp; omega), Option.bind_some, need_t (by omega), Option.bind_some, sub_back hd, step64 (by omega)]
      obtain ⟨o, g1, g2, g3⟩ := ih (i + 1) v.2 (row ++ [v.1]) hv.2 (by omega) (by simp; omega) (by omega)
      refine ⟨o, g1, g2, fun w hle hw => ?_⟩
      rw [hm] at hw
      unfold rdVs at hw
      rw [e] at hw
      simp only at hw
      cases ew : rdVs m v.2 with
      | none => rw [ew] at hw; cases hw
      | some w' =>
        rw [ew] at hw; injection hw with hw; subst hw
        rw [g3 w' hle (by rw [hm2]; exact ew)]; simp
theorem match_uo {X : Option (List T_api_Value ⊕ List T_api_Value)} {o} (h : X = some o) : (X.bind fun o_3 => (match o_3 with
  | (.inl q_3) => some q_3
  | (.inr q_4) => some q_4)) = some (uo o) := by rw [h, Option.bind_some]; cases o <;> rfl
theorem R33_unpack_eq {p : T_api_Packed} (hb : BO p.Bytes) (hN : p.N ≤ 20000) : ∃ l, R33_unpack 200000 p = some l ∧ ∀ c b vs, p.Bytes = c :: b → 0 ≤ p.N → decB c p.Type_ p.N.toNat b = some vs → l = vs := by
  unfold R33_unpack
  cases hB : p.Bytes with
  | nil => exact ⟨[], rfl, fun c b vs h => by cases h⟩
  | cons c b =>
    rw [hB] at hb
    have hi : idxL p.Bytes 0 = some c := by rw [hB]; rfl
    have hbl := hb.tail.2
    rw [beq_f (by simp only [List.length_cons]; omega), cond_false, need_t (by simp only [List.length_cons]; omega), Option.bind_some, show idxL (c :: b) 0 = some c from rfl, Option.bind_some, show sub (c :: b) 1 (((c :: b).length : Nat) : Int) = b by rw [sub_dropN (by omega)]; rfl]
    have hstart : ∀ (P : List T_api_Value → Prop), (∃ l, (some l = some l ∧ P l)) → ∃ l, P l := fun P h => by obtain ⟨l, _, h⟩ := h; exact ⟨l, h⟩
    by_cases c3 : c = 3
    · rw [beq_t c3, cond_true, num_step hb.tail, Option.bind_some]
      cases e : rdN b with
      | none =>
        have hz : (vrd b 0 0).2.2 ≠ 0 := fun hz => by unfold rdN at e; rw [if_pos hz] at e; cases e
        rw [bne_t hz, cond_true, Option.bind_some]
        refine ⟨[], rfl, fun c' b' vs h h0 hd => ?_⟩
        injection h with h1 h2; subst h1; subst h2
        unfold decB at hd
        rw [if_neg (by omega), if_neg (by omega), if_neg (by omega), if_pos c3] at hd
        unfold decD at hd
        rw [e] at hd; cases hd
      | some v =>
        have hv := rdN_some hb.tail e
        obtain ⟨hd, hz⟩ := rdN_drop e
        have hnb := num_bound hb.tail hz
        have e1 : (vrd b 0 0).1 = v.1 := by rw [hd]
        have e2 : b.drop (vrd b 0 0).2.1.toNat = v.2 := by rw [hd]
        rw [bne_f hz, cond_false, need_t hnb, Option.bind_some, sub_dropN hnb.1, e2]
        obtain ⟨o, g1, g2, g3⟩ := RL1_eq (r := vrd b 0 0) hN 200000 0 v.2 [] hv.2.2 (by omega) rfl (by omega)
        rw [show R33_unpack_L1 200000 p (vrd b 0 0) 200000 v.2 0 [] = _ from g1, Option.bind_some, Option.bind_some]
        simp only
        obtain ⟨o2, k1, k2⟩ := RL_3 (q := (o.1, o.2)) (by rw [hi, c3]) hN 200000 o.1 [] g2 (by have := g2.2; omega) (by simp)
        refine ⟨uo o2, match_uo k1, fun c' b' vs h h0 hd => ?_⟩
        injection h with h1 h2; subst h1; subst h2
        unfold decB at hd
        rw [if_neg (by omega), if_neg (by omega), if_neg (by omega), if_pos c3] at hd
        unfold decD at hd
        rw [e] at hd
        simp only at hd
        split at hd
        · cases hd
        rename_i hm
        cases ew : rdVs v.1.toNat v.2 with
        | none => rw [ew] at hd; cases hd
        | some w =>
          rw [ew] at hd
          simp only at hd
          have := g3 w (by rw [e1]; omega) (by rw [e1]; simpa using ew)
          rw [this] at k2
          have hk := k2 (vs, []) (by simpa using fullB_some hd)
          simpa using hk
    rw [beq_f c3, cond_false, Option.bind_some]
    simp only
    by_cases c0 : c = 0
    · obtain ⟨o2, k1, k2⟩ := RL_0 (q := (b, [])) (by rw [hi, c0]) hN 200000 b [] hb.tail (by omega) (by simp)
      refine ⟨uo o2, match_uo k1, fun c' b' vs h h0 hd => ?_⟩
      injection h with h1 h2; subst h1; subst h2
      unfold decB at hd
      rw [if_pos c0] at hd
      simpa using k2 (vs, []) (by simpa using fullB_some hd)
    by_cases c2 : c = 2
    · obtain ⟨o2, k1, k2⟩ := RL_2 (q := (b, [])) (by rw [hi, c2]) hN 200000 b [] hb.tail (by omega) (by simp)
      refine ⟨uo o2, match_uo k1, fun c' b' vs h h0 hd => ?_⟩
      injection h with h1 h2; subst h1; subst h2
      unfold decB at hd
      rw [if_neg (by omega), if_neg (by omega), if_pos c2] at hd
      simpa using k2 (vs, []) (by simpa [lastN] using fullB_some hd)
    · obtain ⟨o2, k1, k2⟩ := RL_r (q := (b, [])) hi c0 c2 c3 hN 200000 b [] hb.tail (by omega) (by simp)
      refine ⟨uo o2, match_uo k1, fun c' b' vs h h0 hd => ?_⟩
      injection h with h1 h2; subst h1; subst h2
      unfold decB at hd
      rw [if_neg c0] at hd
      by_cases c1 : c = 1
      · rw [if_pos c1] at hd
        simpa using k2 p.N.toNat (vs, []) (by simpa using fullB_some hd)
      · rw [if_neg c1, if_neg c2, if_neg c3] at hd; cases hd
end Go.Ab
