/- Records: the five laws. -/
import Derived.Test.YtollmoogggcmaaaB08g
import Derived.Test.YtollmoogggcmaaaR8
namespace Go.Ab
open Go
set_option linter.unusedVariables false

theorem lives08 : L08_lives 200000 = some true := by kernel_rfl
theorem Begins_pre {n n2 : List (List Int)} {s s2 : List Arr2_Int} (hn : n <+: n2) (hs : s <+: s2) (l1 : n.length ≤ 100000) (l2 : s.length ≤ 100000) : R08_Begins 200000 n s n2 s2 = some true := by
  unfold R08_Begins
  have hl := hn.length_le
  have hl2 := hs.length_le
  rw [or_f (by omega), cond_false]
  have h1 := bad_loop (l := n) (R08_Begins_L1 200000 n n2) (fun _ _ => none) (fun k i hi => by
    show R08_Begins_L1_body 200000 n n2 _ _ = _
    unfold R08_Begins_L1_body
    rw [dec_f (by omega), cond_false]) (fun k i x r hd hlt => ⟨fun b hb => (by cases hb), fun _ => by
    show R08_Begins_L1_body 200000 n n2 _ _ = _
    unfold R08_Begins_L1_body
    simp (disch := omega) only [dec_t, cond_true, idxL_drop hd, Option.bind_some, idxL_nat, pre_get hn (get_drop hd), BEq.rfl, Bool.not_true, cond_false, step64]⟩) (n := 200000) (by omega)
  have h2 := bad_loop (l := s) (R08_Begins_L2 200000 s s2) (fun _ _ => none) (fun k i hi => by
    show R08_Begins_L2_body 200000 s s2 _ _ = _
    unfold R08_Begins_L2_body
    rw [dec_f (by omega), cond_false]) (fun k i x r hd hlt => ⟨fun b hb => (by cases hb), fun _ => by
    show R08_Begins_L2_body 200000 s s2 _ _ = _
    unfold R08_Begins_L2_body
    simp (disch := omega) only [dec_t, cond_true, idxL_drop hd, Option.bind_some, idxL_nat, pre_get hs (get_drop hd), decide_true, Bool.not_true, cond_false, step64]⟩) (n := 200000) (by omega)
  rw [h1, firstBad_all (fun _ _ _ => rfl)]
  simp only [Option.bind_some]
  rw [h2, firstBad_all (fun _ _ _ => rfl)]
  rfl
theorem SameTables_self {n : List (List Int)} {s : List Arr2_Int} (l1 : n.length ≤ 100000) (l2 : s.length ≤ 100000) : R08_SameTables 200000 n s n s = some true := by
  unfold R08_SameTables
  simp only [bne_self_eq_false, Bool.or_self, cond_false, Begins_pre (List.prefix_refl n) (List.prefix_refl s) l1 l2, Option.bind_some]
theorem dec_fail {n : List (List Int)} {s : List Arr2_Int} {b : List Int} (h : (decS n s b).2.2 ≠ 0) : (decS n s b).2.1 = 0 := by
  revert h
  unfold decS
  split
  · intro _; rfl
  split
  · intro _; rfl
  split
  · intro _; rfl
  split
  · intro _; rfl
  split
  · intro _; rfl
  · intro h; exact absurd rfl h
theorem L08_RecordUnique_plain : ∀ (a0 : T_tracebooklaw08_Tables) (a1 : List Int), ok_T_tracebooklaw08_Tables a0 → okSl okU8 a1 → ∃ F, L08_RecordUnique F a0 a1 = some true := by
  intro t b ht hb
  refine ⟨200000, ?_⟩
  unfold L08_RecordUnique
  by_cases hs : (t.Names.length : Int) > 40 ∨ (t.Stacks.length : Int) > 40 ∨ (b.length : Int) > 300
  · rw [show (decide ((t.Names.length : Int) > 40) || (decide ((t.Stacks.length : Int) > 40) || decide ((b.length : Int) > 300))) = true by simpa using hs]
    simp only [cond_true, Option.bind_some, lives08]
  rw [show (decide ((t.Names.length : Int) > 40) || (decide ((t.Stacks.length : Int) > 40) || decide ((b.length : Int) > 300))) = false by simp; omega]
  rw [cond_false, record_Decode_eq hb.1 (by omega), Option.bind_some]
  by_cases hz : (decS t.Names t.Stacks b).2.2 ≠ 0
  · rw [bne_t hz, cond_true]
    rw [dec_fail hz, BEq.rfl]
    simp only [cond_true, Option.bind_some, lives08]
  obtain ⟨g, L, c, h1, h2⟩ := dec_back hb.1 (show (decS t.Names t.Stacks b).2.2 = 0 by omega)
  obtain ⟨c1, c2, c3⟩ := coded_ok g c
  have hl : (encI L).length ≤ b.length := by
    have := congrArg List.length h2
    rw [List.length_take] at this; omega
  rw [bne_f (by omega), cond_false, record_Encode_eq (by omega) (by omega), Option.bind_some, enc_back g c, h1]
  simp (disch := omega) only [Option.bind_some, BEq.rfl, cond_true, dec_t, need_t, sub_take, h2, SameTables_self (show t.Names.length ≤ 100000 by omega) (show t.Stacks.length ≤ 100000 by omega), lives08]
end Go.Ab
