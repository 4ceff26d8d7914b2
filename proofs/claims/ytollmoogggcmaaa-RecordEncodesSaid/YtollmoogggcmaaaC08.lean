/- Records: the five laws. -/
import Derived.Test.YtollmoogggcmaaaB08g
import Derived.Test.YtollmoogggcmaaaR8
namespace Go.Ab
open Go
set_option linter.unusedVariables false

theorem lives08 : L08_lives 200000 = some true := by kernel_rfl
theorem Begins_pre {n n2 : List (List Int)} {s s2 : List Arr2_Int} (hn : n <+: n2) (hs : s <+: s2) (l1 : n.length ≤ 100000) (l2 : s.length ≤ 100000) : R08_Begins 200000 n s n2 s2 = some true := by
  unfold R08_Begins
  have hl := hn.length_le
  have hl2 := hs.length_le
  rw [or_f (by omega), cond_false]
  have h1 := bad_loop (l := n) (R08_Begins_L1 200000 n n2) (fun _ _ => none) (fun k i hi => by
    show R08_Begins_L1_body 200000 n n2 _ _ = _
    unfold R08_Begins_L1_body
    rw [dec_f (by omega), cond_false]) (fun k i x r hd hlt => ⟨fun b hb => (by cases hb), fun _ => by
    show R08_Begins_L1_body 200000 n n2 _ _ = _
    unfold R08_Begins_L1_body
    simp (disch := omega) only [dec_t, cond_true, idxL_drop hd, Option.bind_some, idxL_nat, pre_get hn (get_drop hd), BEq.rfl, Bool.not_true, cond_false, step64]⟩) (n := 200000) (by omega)
  have h2 := bad_loop (l := s) (R08_Begins_L2 200000 s s2) (fun _ _ => none) (fun k i hi => by
    show R08_Begins_L2_body 200000 s s2 _ _ = _
    unfold R08_Begins_L2_body
    rw [dec_f (by omega), cond_false]) (fun k i x r hd hlt => ⟨fun b hb => (by cases hb), fun _ => by
    show R08_Begins_L2_body 200000 s s2 _ _ = _
    unfold R08_Begins_L2_body
    simp (disch := omega) only [dec_t, cond_true, idxL_drop hd, Option.bind_some, idxL_nat, pre_get hs (get_drop hd), decide_true, Bool.not_true, cond_false, step64]⟩) (n := 200000) (by omega)
  rw [h1, firstBad_all (fun _ _ _ => rfl)]
  simp only [Option.bind_some]
  rw [h2, firstBad_all (fun _ _ _ => rfl)]
  rfl
theorem SameTables_self {n : List (List Int)} {s : List Arr2_Int} (l1 : n.length ≤ 100000) (l2 : s.length ≤ 100000) : R08_SameTables 200000 n s n s = some true := by
  unfold R08_SameTables
  simp only [bne_self_eq_false, Bool.or_self, cond_false, Begins_pre (List.prefix_refl n) (List.prefix_refl s) l1 l2, Option.bind_some]
theorem L08_RecordEncodes_plain : ∀ (a0 : T_tracebooklaw08_Tables) (a1 : T_api_Event), ok_T_tracebooklaw08_Tables a0 → ok_T_api_Event a1 → ∃ F, L08_RecordEncodes F a0 a1 = some true := by
  intro t e ht he
  refine ⟨200000, ?_⟩
  unfold L08_RecordEncodes L08_few L08_short
  simp only [Option.bind_some]
  by_cases hf : (t.Names.length ≤ 1001 ∧ t.Stacks.length ≤ 1001)
  rotate_left
  · have : (bif decide ((t.Names.length : Int) ≤ 40) then (decide ((t.Stacks.length : Int) ≤ 40) || (decide ((t.Names.length : Int) ≤ 1001) && decide ((t.Stacks.length : Int) ≤ 4))) else (decide ((t.Names.length : Int) ≤ 1001) && decide ((t.Stacks.length : Int) ≤ 4))) = false := by
      by_cases h1 : (t.Names.length : Int) ≤ 40
      · rw [dec_t h1, cond_true]; simp; omega
      · rw [dec_f h1, cond_false]; simp; omega
    rw [this]
    simp only [Bool.not_false, cond_true, Option.bind_some, lives08]
  generalize hg : (bif !(bif decide ((t.Names.length : Int) ≤ 40) then (decide ((t.Stacks.length : Int) ≤ 40) || (decide ((t.Names.length : Int) ≤ 1001) && decide ((t.Stacks.length : Int) ≤ 4))) else (decide ((t.Names.length : Int) ≤ 1001) && decide ((t.Stacks.length : Int) ≤ 4))) then some true else some (!decide ((e.Stack.length : Int) ≤ 40))) = p
  obtain ⟨q, rfl⟩ : ∃ q, p = some q := by
    rw [← hg]; cases (bif decide ((t.Names.length : Int) ≤ 40) then (decide ((t.Stacks.length : Int) ≤ 40) || (decide ((t.Names.length : Int) ≤ 1001) && decide ((t.Stacks.length : Int) ≤ 4))) else (decide ((t.Names.length : Int) ≤ 1001) && decide ((t.Stacks.length : Int) ≤ 4)))
    · exact ⟨_, rfl⟩
    · exact ⟨_, rfl⟩
  rw [Option.bind_some]
  cases q
  rotate_left
  · simp only [cond_true, Option.bind_some, lives08]
  have hl := encS_len (n := t.Names) (s := t.Stacks) (e := e)
  unfold record_Size
  rw [cond_false, record_Encode_eq (by omega) (by omega), Option.bind_some, R08_Encode_eq (by omega) (by omega), Option.bind_some]
  simp only [Option.bind_some, BEq.rfl, Bool.not_true, cond_false, SameTables_self (show (encS t.Names t.Stacks e).2.1.length ≤ 100000 by omega) (show (encS t.Names t.Stacks e).2.2.1.length ≤ 100000 by omega), bne_self_eq_false, cond_true, lives08]
end Go.Ab
