/- Records: the five laws. -/
import Derived.Test.YtollmoogggcmaaaB08g
import Derived.Test.YtollmoogggcmaaaR8
namespace Go.Ab
open Go
set_option linter.unusedVariables false

theorem lives08 : L08_lives 200000 = some true := by kernel_rfl
theorem Begins_pre {n n2 : List (List Int)} {s s2 : List Arr2_Int} (hn : n <+: n2) (hs : s <+: s2) (l1 : n.length ≤ 100000) (l2 : s.length ≤ 100000) : R08_Begins 200000 n s n2 s2 = some true := by
  unfold R08_Begins
  have hl := hn.length_le
  have hl2 := hs.length_le
  rw [or_f (by omega), cond_false]
  have h1 := bad_loop (l := n) (R08_Begins_L1 200000 n n2) (fun _ _ => none) (fun k i hi => by
    show R08_Begins_L1_body 200000 n n2 _ _ = _
    unfold R08_Begins_L1_body
    rw [dec_f (by omega), cond_false]) (fun k i x r hd hlt => ⟨fun b hb => (by cases hb), fun _ => by
    show R08_Begins_L1_body 200000 n n2 _ _ = _
    unfold R08_Begins_L1_body
    simp (disch := omega) only [dec_t, cond_true, idxL_drop hd, Option.bind_some, idxL_nat, pre_get hn (get_drop hd), BEq.rfl, Bool.not_true, cond_false, step64]⟩) (n := 200000) (by omega)
  have h2 := bad_loop (l := s) (R08_Begins_L2 200000 s s2) (fun _ _ => none) (fun k i hi => by
    show R08_Begins_L2_body 200000 s s2 _ _ = _
    unfold R08_Begins_L2_body
    rw [dec_f (by omega), cond_false]) (fun k i x r hd hlt => ⟨fun b hb => (by cases hb), fun _ => by
    show R08_Begins_L2_body 200000 s s2 _ _ = _
    unfold R08_Begins_L2_body
    simp (disch := omega) only [dec_t, cond_true, idxL_drop hd, Option.bind_some, idxL_nat, pre_get hs (get_drop hd), decide_true, Bool.not_true, cond_false, step64]⟩) (n := 200000) (by omega)
  rw [h1, firstBad_all (fun _ _ _ => rfl)]
  simp only [Option.bind_some]
  rw [h2, firstBad_all (fun _ _ _ => rfl)]
  rfl
theorem L08_RecordBack_plain : ∀ (a0 : T_tracebooklaw08_Tables) (a1 : T_api_Event) (a2 : List Int), ok_T_tracebooklaw08_Tables a0 → ok_T_api_Event a1 → okSl okU8 a2 → ∃ F, L08_RecordBack F a0 a1 a2 = some true := by
  intro t e more ht he hm
  refine ⟨200000, ?_⟩
  unfold L08_RecordBack L08_short
  by_cases h1 : (t.Names.length : Int) > 40
  · rw [dec_t h1]; simp only [cond_true, Option.bind_some, lives08]
  rw [dec_f h1, cond_false]
  by_cases h2 : (t.Stacks.length : Int) > 40
  · rw [dec_t h2]; simp only [cond_true, Option.bind_some, lives08]
  rw [dec_f h2, cond_false, Option.bind_some]
  by_cases h3 : (e.Stack.length : Int) ≤ 40
  rotate_left
  · rw [dec_f h3]; simp only [Bool.not_false, cond_true, Option.bind_some, lives08]
  rw [dec_t h3, Bool.not_true, cond_false, Option.bind_some]
  by_cases h4 : (more.length : Int) > 100
  · rw [dec_t h4]; simp only [cond_true, Option.bind_some, lives08]
  rw [dec_f h4, cond_false, record_Encode_eq (by omega) (by omega), Option.bind_some]
  rcases encS_coded (n := t.Names) (s := t.Stacks) (e := e) with ⟨k1, k2⟩ | ⟨k1, k2, k3, k4, k5, L, k6, k7⟩
  · rw [bne_t k1, cond_true, k2]
    simp only [List.length_nil]
    rw [show w_i64 (w_i64 (((0 : Nat) : Int) + ((0 : Nat) : Int)) + ((0 : Nat) : Int)) = 0 from rfl, BEq.rfl]
    simp only [cond_true, Option.bind_some, lives08]
  · obtain ⟨c1, c2, c3⟩ := coded_ok k3 k7
    rw [bne_f k1, cond_false, k6, need_t (by simp; omega), Option.bind_some, need_t (by simp; omega), Option.bind_some, List.nil_append, record_Decode_eq (fun x hx => (List.mem_append.1 hx).elim (c1 x) (hm.1 x)) (by rw [List.length_append]; omega), Option.bind_some, dec_coded k3 k7]
    simp only
    rw [event_Same_eq (by omega)]
    simp (disch := omega) only [Option.bind_some, decide_true, cond_true, BEq.rfl, dec_t, Begins_pre k4 k5 (by omega) (by omega), lives08]
end Go.Ab
