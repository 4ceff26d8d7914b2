/- Plain laws of the functions below this seat's, laid anew from another seat's text. No conditions but those that the theorems name. -/
import Derived.Test.YtpdbjocgoheapaaP12xD
import Derived.Test.YtpdbjocgoheapaaBFuel
import Derived.Test.YtpdbjocgoheapaaB12bF
import Derived.Test.YtpdbjocgoheapaaB12cF
import Derived.Test.YtpdbjocgoheapaaB12dF
import Derived.Test.YtpdbjocgoheapaaB12eF
import Derived.Test.YtpdbjocgoheapaaB12fF
namespace Go.Ab
open Go
set_option linter.unusedVariables false
theorem R12_of_eq {F : Nat} (hF : 200000 ≤ F) {l : List T_api_Packet} {id : Int} (hl : l.length ≤ 100000) : R12_of F l id = some (ofT id l) := by
  unfold R12_of
  have key : ∀ (n i : Nat) (row : List T_api_Packet), (l.drop i).length < n → row.length ≤ i → R12_of_L1 F l id n (i : Nat) row = some (row ++ ofT id (l.drop i)) := by
    intro n
    induction n with
    | zero => intro i row h; omega
    | succ n ih =>
      intro i row hn hr
      show R12_of_L1_body _ _ _ _ _ _ = _
      unfold R12_of_L1_body
      rcases hd : l.drop i with _ | ⟨x, r⟩
      · have := drop_nil hd
        rw [dec_f (by omega), cond_false]; simp [ofT]
      have hlt := drop_lt hd
      rw [hd] at hn
      simp only [List.length_cons] at hn
      rw [dec_t (by omega), cond_true, idxL_drop hd, Option.bind_some]
      by_cases h : x.Thread = id
      · rw [beq_t h, cond_true, Option.bind_some, need_t (by simp; omega), Option.bind_some, Option.bind_some, step64 (by omega), ih (i + 1) _ (by rw [drop_step hd]; omega) (by simp; omega), drop_step hd, ofT, ofT, List.filter_cons_of_pos (by simpa using h)]
        simp
      · rw [beq_f h, cond_false, Option.bind_some, step64 (by omega), ih (i + 1) _ (by rw [drop_step hd]; omega) (by omega), drop_step hd, ofT, ofT, List.filter_cons_of_neg (by simpa using h)]
  rw [show R12_of_L1 F l id F 0 [] = _ from key F 0 [] (by simp; omega) (by simp), Option.bind_some]; simp
def cl2 (next : Int) : Option Int → List T_api_Packet → Bool
  | _, [] => true
  | pr, p :: r => follows pr p && ((!r.isEmpty || decide (endP p = next)) && cl2 next (some (endP p)) r)
theorem cl_cl2 {next : Int} : ∀ (r : List T_api_Packet) (p : T_api_Packet) (pr : Option Int), cl next pr (p :: r) = cl2 next pr (p :: r) := by
  intro r
  induction r with
  | nil =>
    intro p pr
    simp only [cl, cl2, List.isEmpty_nil, Bool.not_true, Bool.false_or, Bool.and_true]
    congr 1
    by_cases h : next = endP p
    · rw [dec_t h, dec_t h.symm]
    · rw [dec_f h, dec_f (fun e => h e.symm)]
  | cons q r ih =>
    intro p pr
    have e := ih q (some (endP p))
    simp only [cl] at e ⊢
    rw [e]
    simp only [cl2, List.isEmpty_cons, Bool.not_false, Bool.true_or, Bool.true_and]
def prevE (l : List T_api_Packet) (i : Nat) : Option Int := if i = 0 then none else (l[i - 1]?).map endP
theorem R12_end_eq {p : T_api_Packet} (h : packS p = 0) : R12_end p = some (endP p) := by
  have := packS_zero h
  unfold R12_end; rw [w64 (by omega) (by omega)]; rfl
theorem consec_loop {F : Nat} (hF : 200000 ≤ F) {l : List T_api_Packet} {next : Int} (hl : l.length ≤ 100000) (hv : ∀ p ∈ l, packS p = 0) : ∀ (n i : Nat), (l.drop i).length < n →
    R12_consecutive_L1 F l next n (i : Nat) = some (bif cl2 next (prevE l i) (l.drop i) then .inl () else .inr false) := by
  intro n
  induction n with
  | zero => intro i h; omega
  | succ n ih =>
    intro i hn
    show R12_consecutive_L1_body _ _ _ _ _ = _
    unfold R12_consecutive_L1_body
    rcases hd : l.drop i with _ | ⟨x, r⟩
    · have := drop_nil hd
      rw [dec_f (by omega)]; rfl
    have hlt := drop_lt hd
    have hx := hv x (mem_drop hd)
    have hz := packS_zero hx
    rw [hd] at hn
    simp only [List.length_cons] at hn
    have hi := ih (i + 1) (by rw [drop_step hd]; omega)
    rw [drop_step hd, show prevE l (i + 1) = some (endP x) by unfold prevE; rw [if_neg (by omega), Nat.add_sub_cancel, get_drop hd]; rfl] at hi
    have hlen : l.length = i + 1 + r.length := by have := congrArg List.length hd; simp at this; omega
    have hlast : (bif ((i : Int) == (w_i64 ((((l).length : Nat) : Int) - (1 : Int)))) then some (endP x != next) else some false) = some (!(!r.isEmpty || decide (endP x = next))) := by
      rw [w64 (by omega) (by omega)]
      cases r with
      | nil =>
        rw [beq_t (by simp at hlen; omega), cond_true]
        by_cases he : endP x = next
        · rw [bne_f he, dec_t he]; rfl
        · rw [bne_t he, dec_f he]; rfl
      | cons y r =>
        rw [beq_f (by simp at hlen; omega), cond_false]; rfl
    simp only [cl2]
    rw [dec_t (by omega), cond_true, idxL_drop hd]
    simp only [Option.bind_some, R12_end_eq hx]
    rw [hlast]
    by_cases h0 : i = 0
    · subst h0
      rw [dec_f (by omega), cond_false, Option.bind_some]
      simp only [prevE, if_true, follows, Bool.true_and]
      cases hb : (!r.isEmpty || decide (endP x = next))
      · rfl
      · rw [Bool.not_true, cond_false, step64 (by omega), hi, Bool.true_and]
    · have hp : l[i - 1]? = some (l[i - 1]'(by omega)) := List.getElem?_eq_getElem (by omega)
      have hpv := hv (l[i - 1]'(by omega)) (List.getElem_mem _)
      have hpe := endP_range hpv
      rw [dec_t (by omega), cond_true, idxL_prev (by omega) (by omega), hp, Option.bind_some, R12_end_eq hpv, Option.bind_some, w64 (by omega) (by omega)]
      have hpe2 : prevE l i = some (endP (l[i - 1]'(by omega))) := by unfold prevE; rw [if_neg h0, hp]; rfl
      rw [hpe2]
      simp only [follows]
      by_cases hf : x.Serial = endP (l[i - 1]'(by omega)) + x.Lost
      · rw [bne_f hf, dec_t hf, cond_false, Option.bind_some, Bool.true_and]
        cases hb : (!r.isEmpty || decide (endP x = next))
        · rfl
        · rw [Bool.not_true, cond_false, step64 (by omega), hi, Bool.true_and]
      · rw [bne_t hf, dec_f hf]; rfl
theorem R12_consecutive_eq {F : Nat} (hF : 200000 ≤ F) {l : List T_api_Packet} {next : Int} (hl : l.length ≤ 100000) (hv : ∀ p ∈ l, packS p = 0) : R12_consecutive F l next = some (cl next none l) := by
  unfold R12_consecutive
  rw [show R12_consecutive_L1 F l next F 0 = _ from consec_loop hF hl hv F 0 (by simp; omega), Option.bind_some, List.drop_zero]
  have e : cl2 next (prevE l 0) l = cl next none l := by
    show cl2 next none l = _
    cases l with
    | nil => rfl
    | cons p r => rw [cl_cl2]
  rw [e]
  cases cl next none l <;> rfl
theorem fb_all {α R : Type} {P : Nat → α → Prop} [∀ i x, Decidable (P i x)] {v : R} : ∀ (l : List α) (k : Nat), (firstBad (fun i x => if P i x then some v else none) k l = .inl () ∧ ∀ i x, l[i]? = some x → ¬ P (k + i) x) ∨ (firstBad (fun i x => if P i x then some v else none) k l = .inr v ∧ ∃ i x, l[i]? = some x ∧ P (k + i) x) := by
  intro l
  induction l with
  | nil => intro k; exact .inl ⟨rfl, fun i x h => by simp at h⟩
  | cons a r ih =>
    intro k
    simp only [firstBad]
    by_cases h : P k a
    · simp only [if_pos h]; exact .inr ⟨trivial, 0, a, rfl, h⟩
    · simp only [if_neg h]
      rcases ih (k + 1) with ⟨h1, h2⟩ | ⟨h1, i, x, h2, h3⟩
      · refine .inl ⟨h1, fun i x hx => ?_⟩
        cases i with
        | zero => simp at hx; subst hx; exact h
        | succ i => have := h2 i x (by simpa using hx); rwa [Nat.add_assoc, Nat.add_comm 1 i] at this
      · exact .inr ⟨h1, i + 1, x, by simpa using h2, by rwa [Nat.add_assoc, Nat.add_comm 1 i] at h3⟩
theorem qok_bad {ts : List T_api_Thread} {next : List Int} : ∀ {l : List T_api_Packet} {row : List (Int × Int)} {p : T_api_Packet}, p ∈ l → pkBad ts p → qok ts next row l = false := by
  intro l
  induction l with
  | nil => intro row p h; cases h
  | cons q r ih =>
    intro row p h hb
    unfold qok
    simp only [qrun]
    by_cases hq : pkBad ts q
    · rw [if_pos hq]
    · rw [if_neg hq]
      rcases List.mem_cons.1 h with rfl | h
      · exact absurd hb hq
      · cases follows (mget row (atS ts q.Thread)) q
        · rfl
        · exact ih h hb
def thrBad (s : T_api_Service) (i : Nat) (t : T_api_Thread) : Prop := outP ((s.Next[i]?).getD 0) ∨ cl ((s.Next[i]?).getD 0) none (ofT t.Id s.Queue) = false
instance decThrBad {s : T_api_Service} {i : Nat} {t : T_api_Thread} : Decidable (thrBad s i t) := inferInstanceAs (Decidable (_ ∨ _))
theorem R12_Check_eq {F : Nat} (hF : 200000 ≤ F) {s : T_api_Service} (hq : ∀ p ∈ s.Queue, p.Events.length ≤ 100000) (hl : s.Queue.length ≤ 100000) (hn : s.Next.length ≤ 100000) : R12_Check F s = some (chkS s) := by
  unfold R12_Check chkS
  rw [R12_threads_eq hF, Option.bind_some]
  by_cases h1 : threadsS s.Threads ≠ 0
  · rw [bne_t h1, if_pos h1]; rfl
  have ht := threadsS_len (show threadsS s.Threads = 0 by omega)
  have hnd := ids_nodup (show threadsS s.Threads = 0 by omega)
  rw [bne_f (by omega), if_neg h1, cond_false]
  by_cases h2 : s.Next.length ≠ s.Threads.length
  · rw [bne_t (a := (s.Next.length : Int)) (by omega), if_pos (show nextBad s from .inl h2)]; rfl
  rw [bne_f (a := (s.Next.length : Int)) (by omega), cond_false]
  have hloop := bad_loop (l := s.Queue) (R12_Check_L1 F s) (fun _ x => if pkBad s.Threads x then some (10 : Int) else none) (fun n i hi => by
    show R12_Check_L1_body _ _ _ _ = _
    unfold R12_Check_L1_body
    rw [dec_f (by omega)]; rfl) (fun n i x r hd hlt => by
    have hx := hq x (mem_drop hd)
    have e : R12_Check_L1 F s (n + 1) (i : Nat) = if pkBad s.Threads x then some (.inr 10) else R12_Check_L1 F s n ((i + 1 : Nat) : Int) := by
      show R12_Check_L1_body _ _ _ _ = _
      unfold R12_Check_L1_body
      rw [dec_t (by omega), cond_true, idxL_drop hd, Option.bind_some, R11_Check_eq hF hx, Option.bind_some]
      by_cases k1 : packS x ≠ 0
      · rw [bne_t k1, if_pos (show pkBad _ _ from .inl k1)]; rfl
      rw [bne_f (by omega), cond_false, Option.bind_some, R12_index_eq hF (by omega), Option.bind_some, Option.bind_some]
      by_cases k2 : atS s.Threads x.Thread < 0
      · rw [dec_t k2, if_pos (show pkBad _ _ from .inr k2)]; rfl
      · rw [dec_f k2, if_neg (show ¬ pkBad _ _ by unfold pkBad; omega), cond_false, step64 (by omega)]
    refine ⟨fun b hb => ?_, fun hb => ?_⟩
    · by_cases k : pkBad s.Threads x
      · rw [if_pos k] at hb; cases hb; rw [e, if_pos k]
      · rw [if_neg k] at hb; cases hb
    · by_cases k : pkBad s.Threads x
      · rw [if_pos k] at hb; cases hb
      · rw [e, if_neg k]) (n := F) (by omega)
  rw [hloop, Option.bind_some]
  rcases fb_all (P := fun _ x => pkBad s.Threads x) (v := (10 : Int)) s.Queue 0 with ⟨e1, hv⟩ | ⟨e1, i, x, hx, hb⟩
  · rw [e1]
    have hv' : ∀ p ∈ s.Queue, ¬ pkBad s.Threads p := fun p hp => by
      obtain ⟨i, hi⟩ := List.getElem?_of_mem hp
      exact hv i p hi
    have hv2 : ∀ p ∈ s.Queue, packS p = 0 := fun p hp => by have := hv' p hp; unfold pkBad at this; omega
    have hloop2 := bad_loop (l := s.Threads) (R12_Check_L2 F s) (fun i x => if thrBad s i x then some (10 : Int) else none) (fun n i hi => by
      show R12_Check_L2_body _ _ _ _ = _
      unfold R12_Check_L2_body
      rw [dec_f (by omega)]; rfl) (fun n i x r hd hlt => by
      have e : R12_Check_L2 F s (n + 1) (i : Nat) = if thrBad s i x then some (.inr 10) else R12_Check_L2 F s n ((i + 1 : Nat) : Int) := by
        show R12_Check_L2_body _ _ _ _ = _
        unfold R12_Check_L2_body
        have hni : s.Next[i]? = some (s.Next[i]'(by omega)) := List.getElem?_eq_getElem (by omega)
        have hof : (ofT x.Id s.Queue).length ≤ 100000 := Nat.le_trans (List.length_filter_le _ _) hl
        have hT : thrBad s i x ↔ outP (s.Next[i]'(by omega)) ∨ cl (s.Next[i]'(by omega)) none (ofT x.Id s.Queue) = false := by unfold thrBad; rw [hni]; rfl
        rw [dec_t (by omega), cond_true, idxL_nat, hni, Option.bind_some]
        by_cases k1 : s.Next[i]'(by omega) < 0
        · rw [dec_t k1, if_pos (hT.2 (.inl (.inl k1)))]; rfl
        rw [dec_f k1, cond_false, Option.bind_some]
        by_cases k2 : s.Next[i]'(by omega) > 1000000000000000
        · rw [dec_t k2, if_pos (hT.2 (.inl (.inr k2)))]; rfl
        rw [dec_f k2, cond_false, idxL_drop hd, Option.bind_some, R12_of_eq hF hl, Option.bind_some, Option.bind_some, R12_consecutive_eq hF hof (fun p hp => hv2 p (List.mem_filter.1 hp).1), Option.bind_some, Option.bind_some]
        have k3 : ¬ outP (s.Next[i]'(by omega)) := by unfold outP; omega
        cases hc : cl (s.Next[i]'(by omega)) none (ofT x.Id s.Queue)
        · rw [if_pos (hT.2 (.inr hc))]; rfl
        · rw [if_neg (by rw [hT, hc]; rintro (h | h); exact k3 h; cases h), Bool.not_true, cond_false, step64 (by omega)]
      refine ⟨fun b hb => ?_, fun hb => ?_⟩
      · by_cases k : thrBad s i x
        · rw [if_pos k] at hb; cases hb; rw [e, if_pos k]
        · rw [if_neg k] at hb; cases hb
      · by_cases k : thrBad s i x
        · rw [if_pos k] at hb; cases hb
        · rw [e, if_neg k]) (n := F) (by omega)
    simp only
    rw [hloop2, Option.bind_some]
    rcases fb_all (P := fun i x => thrBad s i x) (v := (10 : Int)) s.Threads 0 with ⟨e2, hv3⟩ | ⟨e2, i, x, hx, hb⟩
    · rw [e2]
      have hnb : ¬ nextBad s := by
        unfold nextBad
        rintro (h | h)
        · exact h2 h
        · apply h
          refine List.all_eq_true.2 (fun y hy => ?_)
          obtain ⟨j, hj⟩ := List.getElem?_of_mem hy
          have hjl := (List.getElem?_eq_some_iff.1 hj).1
          have := hv3 j _ (List.getElem?_eq_getElem (show j < s.Threads.length by omega))
          rw [Nat.zero_add] at this
          unfold thrBad at this
          rw [hj, Option.getD_some] at this
          rw [dec_f (fun h => this (.inl h))]; rfl
      have hqok : qok s.Threads s.Next [] s.Queue = true := by
        refine (qok_iff hnd (by omega) s.Queue [] ⟨by simp, by simp⟩ hv').2 (fun i t x hti hxi => ?_)
        have := hv3 i t hti
        rw [Nat.zero_add] at this
        unfold thrBad at this
        rw [hxi, Option.getD_some] at this
        cases hc : cl x none (ofT t.Id s.Queue)
        · exact absurd (.inr hc) this
        · exact hc
      rw [if_neg hnb, hqok]; rfl
    · rw [e2]
      rw [Nat.zero_add] at hb
      have hxl := (List.getElem?_eq_some_iff.1 hx).1
      by_cases hnb : nextBad s
      · rw [if_pos hnb]
      rw [if_neg hnb]
      cases hqk : qok s.Threads s.Next [] s.Queue
      · rfl
      · exfalso
        have hni : s.Next[i]? = some (s.Next[i]'(by omega)) := List.getElem?_eq_getElem (by omega)
        have := (qok_iff hnd (by omega) s.Queue [] ⟨by simp, by simp⟩ hv').1 hqk i x _ hx hni
        unfold thrBad at hb
        rw [hni, Option.getD_some] at hb
        rcases hb with hb | hb
        · apply hnb
          refine .inr (fun h => ?_)
          have := List.all_eq_true.1 h _ (List.getElem_mem (show i < s.Next.length by omega))
          rw [dec_t hb] at this; cases this
        · rw [show mget ([] : List (Int × Int)) (i : Int) = none from rfl, hb] at this; cases this
  · rw [e1]
    by_cases hnb : nextBad s
    · rw [if_pos hnb]
    · rw [if_neg hnb, qok_bad (List.mem_of_getElem? hx) hb]; rfl
end Go.Ab
