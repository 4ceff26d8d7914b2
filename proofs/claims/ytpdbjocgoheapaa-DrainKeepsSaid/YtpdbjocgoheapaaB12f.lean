/- Plain laws of the functions below this seat's, laid anew from another seat's text. No conditions but those that the theorems name. -/
import Derived.Test.YtpdbjocgoheapaaP12xD
import Derived.Test.YtpdbjocgoheapaaB12b
import Derived.Test.YtpdbjocgoheapaaB12c
import Derived.Test.YtpdbjocgoheapaaB12d
import Derived.Test.YtpdbjocgoheapaaB12e
namespace Go.Ab
open Go
set_option linter.unusedVariables false
def endP (p : T_api_Packet) : Int := p.Serial + p.Events.length
def pkBad (ts : List T_api_Thread) (p : T_api_Packet) : Prop := packS p ≠ 0 ∨ atS ts p.Thread < 0
instance decPkBad {ts : List T_api_Thread} {p : T_api_Packet} : Decidable (pkBad ts p) := inferInstanceAs (Decidable (_ ∨ _))
/-- Whether a packet comes where the one before ended. -/
def follows (pr : Option Int) (p : T_api_Packet) : Bool := match pr with | some e => decide (p.Serial = e + p.Lost) | none => true
def qrun (ts : List T_api_Thread) : List (Int × Int) → List T_api_Packet → Option (List (Int × Int))
  | row, [] => some row
  | row, p :: r => if pkBad ts p then none else bif follows (mget row (atS ts p.Thread)) p then qrun ts (mput row (atS ts p.Thread) (endP p)) r else none
def rowOk (next : List Int) (q : Int × Int) : Bool := decide (next[q.1.toNat]? = some q.2)
def qok (ts : List T_api_Thread) (next : List Int) (row : List (Int × Int)) (l : List T_api_Packet) : Bool := match qrun ts row l with | none => false | some row => row.all (rowOk next)
def nextBad (s : T_api_Service) : Prop := s.Next.length ≠ s.Threads.length ∨ ¬ s.Next.all (fun n => !decide (outP n)) = true
instance decNextBad {s : T_api_Service} : Decidable (nextBad s) := inferInstanceAs (Decidable (_ ∨ _))
def chkS (s : T_api_Service) : Int :=
  if threadsS s.Threads ≠ 0 then threadsS s.Threads else if nextBad s then 10 else bif qok s.Threads s.Next [] s.Queue then 0 else 10
theorem mem_mput {α β : Type} [DecidableEq α] : ∀ {l : List (α × β)} {k : α} {v : β} {q : α × β}, q ∈ mput l k v → q = (k, v) ∨ q ∈ l := by
  intro l
  induction l with
  | nil => intro k v q h; simp [mput] at h; exact .inl h
  | cons p r ih =>
    intro k v q h
    simp only [mput] at h
    by_cases hp : p.1 = k
    · rw [if_pos hp] at h
      rcases List.mem_cons.1 h with h | h
      · exact .inl h
      · exact .inr (by simp [h])
    · rw [if_neg hp] at h
      rcases List.mem_cons.1 h with h | h
      · exact .inr (by simp [h])
      · rcases ih h with h | h
        · exact .inl h
        · exact .inr (by simp [h])
theorem mget_mem {α β : Type} [DecidableEq α] : ∀ {l : List (α × β)} {k : α} {v : β}, mget l k = some v → (k, v) ∈ l := by
  intro l
  induction l with
  | nil => intro k v h; cases h
  | cons p r ih =>
    intro k v h
    simp only [mget] at h
    by_cases hp : p.1 = k
    · rw [if_pos hp] at h; cases h; subst hp; simp
    · rw [if_neg hp] at h; simp [ih h]
theorem mput_nodup {α β : Type} [DecidableEq α] : ∀ {l : List (α × β)} {k : α} {v : β}, (l.map (·.1)).Nodup → ((mput l k v).map (·.1)).Nodup := by
  intro l
  induction l with
  | nil => intro k v _; simp [mput]
  | cons p r ih =>
    intro k v h
    simp only [mput]
    by_cases hp : p.1 = k
    · rw [if_pos hp]; simpa [hp] using h
    · rw [if_neg hp]
      simp only [List.map_cons, List.nodup_cons] at h ⊢
      refine ⟨fun hm => ?_, ih h.2⟩
      obtain ⟨q, hq, hq2⟩ := List.mem_map.1 hm
      rcases mem_mput hq with rfl | hq
      · exact hp hq2.symm
      · exact h.1 (List.mem_map.2 ⟨q, hq, hq2⟩)
theorem mget_of {α β : Type} [DecidableEq α] : ∀ {l : List (α × β)} {k : α} {v : β}, (l.map (·.1)).Nodup → (k, v) ∈ l → mget l k = some v := by
  intro l
  induction l with
  | nil => intro k v _ h; cases h
  | cons p r ih =>
    intro k v hn h
    simp only [List.map_cons, List.nodup_cons] at hn
    simp only [mget]
    rcases List.mem_cons.1 h with rfl | h
    · rw [if_pos rfl]
    · rw [if_neg (fun e => hn.1 (List.mem_map.2 ⟨_, h, e.symm⟩)), ih hn.2 h]
def RowI (n : Nat) (row : List (Int × Int)) : Prop := (row.map (·.1)).Nodup ∧ ∀ q ∈ row, 0 ≤ q.1 ∧ q.1 < n ∧ 0 ≤ q.2 ∧ q.2 ≤ 1000000000000000
theorem atS_lt {l : List T_api_Thread} {id : Int} : atS l id < l.length := by
  unfold atS
  rcases findI_spec id (idsL l) 0 with ⟨h1, _⟩ | ⟨j, h1, h2⟩
  · omega
  · have := (List.getElem?_eq_some_iff.1 h1).1
    simp [idsL] at this; omega
theorem endP_range {p : T_api_Packet} (h : packS p = 0) : 0 ≤ endP p ∧ endP p ≤ 1000000000000000 := by
  have := packS_zero h
  unfold endP; omega
theorem RowI.put {n : Nat} {row : List (Int × Int)} {k v : Int} (h : RowI n row) (h0 : 0 ≤ k) (h1 : k < n) (h2 : 0 ≤ v) (h3 : v ≤ 1000000000000000) : RowI n (mput row k v) := by
  refine ⟨mput_nodup h.1, fun q hq => ?_⟩
  rcases mem_mput hq with rfl | hq
  · exact ⟨h0, h1, h2, h3⟩
  · exact h.2 q hq
theorem follows_eq {row : List (Int × Int)} {k : Int} {p : T_api_Packet} {n : Nat} (h : RowI n row) (hp : packS p = 0) :
    ((mget row k).isSome && (p.Serial != (w_i64 (((mget row k).getD (0 : Int)) + p.Lost)))) = !follows (mget row k) p := by
  have hz := packS_zero hp
  unfold follows
  cases hm : mget row k with
  | none => rfl
  | some e =>
    have := h.2 _ (mget_mem hm)
    simp only at this
    rw [Option.isSome_some, Bool.true_and, Option.getD_some, w64 (by omega) (by omega)]
    simp only
    by_cases he : p.Serial = e + p.Lost
    · rw [bne_f he, dec_t he]; rfl
    · rw [bne_t he, dec_f he]; rfl
theorem drain_Check_loop1 {s : T_api_Service} (hq : ∀ p ∈ s.Queue, p.Events.length ≤ 100000) (hl : s.Queue.length ≤ 100000) (ht : s.Threads.length ≤ 100000) : ∀ (n i : Nat) (row : List (Int × Int)), RowI s.Threads.length row → row.length ≤ i → (s.Queue.drop i).length < n →
    drain_Check_L1 200000 s n (i : Nat) row = some (match qrun s.Threads row (s.Queue.drop i) with | some r => .inl r | none => .inr 10) := by
  intro n
  induction n with
  | zero => intro i row _ _ h; omega
  | succ n ih =>
    intro i row hr hri hn
    show drain_Check_L1_body _ _ _ _ _ = _
    unfold drain_Check_L1_body drain_end
    rcases hd : s.Queue.drop i with _ | ⟨x, r⟩
    · have := drop_nil hd
      rw [dec_f (by omega)]; rfl
    have hlt := drop_lt hd
    rw [hd] at hn
    simp only [List.length_cons] at hn
    have hx := hq x (mem_drop hd)
    rw [dec_t (by omega), cond_true, idxL_drop hd, Option.bind_some, drain_find_eq ht, Option.bind_some, packet_Check_eq hx, Option.bind_some]
    simp only [qrun]
    by_cases h1 : packS x ≠ 0
    · rw [bne_t h1, if_pos (show pkBad _ _ from .inl h1)]; rfl
    rw [bne_f (by omega), cond_false, Option.bind_some]
    by_cases h2 : atS s.Threads x.Thread < 0
    · rw [dec_t h2, if_pos (show pkBad _ _ from .inr h2)]; rfl
    rw [dec_f h2, cond_false, if_neg (show ¬ pkBad _ _ by unfold pkBad; omega), follows_eq hr (by omega)]
    cases hf : follows (mget row (atS s.Threads x.Thread)) x
    · rfl
    · have he := endP_range (show packS x = 0 by omega)
      have hz := packS_zero (show packS x = 0 by omega)
      simp only [Bool.not_true, cond_false, cond_true, Option.bind_some]
      rw [need_t (by omega), Option.bind_some, w64 (x := x.Serial + x.Events.length) (by omega) (by omega), step64 (by omega), show x.Serial + (x.Events.length : Int) = endP x from rfl,
        ih (i + 1) _ (hr.put (by omega) atS_lt he.1 he.2) (by have := mput_len row (atS s.Threads x.Thread) (endP x); omega) (by rw [drop_step hd]; omega), drop_step hd]
theorem all_erase {α : Type} {f : α → Bool} : ∀ {l : List α} {i : Nat} {y : α}, l[i]? = some y → l.all f = (f y && (l.eraseIdx i).all f) := by
  intro l
  induction l with
  | nil => intro i y h; simp at h
  | cons a r ih =>
    intro i y h
    cases i with
    | zero => simp at h; subst h; rfl
    | succ i =>
      have h' : r[i]? = some y := by simpa using h
      rw [List.eraseIdx_cons_succ, List.all_cons, List.all_cons, ih h']
      cases f a <;> cases f y <;> rfl
theorem drain_Check_loop2 {s : T_api_Service} (hn : s.Next.length = s.Threads.length) : ∀ (n : Nat) (left : List (Int × Int)), (∀ q ∈ left, 0 ≤ q.1 ∧ q.1 < s.Threads.length) → left.length < n →
    drain_Check_L2 200000 s n left = some (bif left.all (rowOk s.Next) then .inl () else .inr 10) := by
  intro n
  induction n with
  | zero => intro left _ h; omega
  | succ n ih =>
    intro left hk hl
    show drain_Check_L2_body _ _ _ _ = _
    unfold drain_Check_L2_body
    by_cases he : left = []
    · subst he; rfl
    have hne : left.isEmpty = false := by cases left with | nil => exact absurd rfl he | cons => rfl
    rw [hne, cond_false]
    refine pickAll_of he (fun i y hy => ?_)
    have hm := hk y (List.mem_of_getElem? hy)
    have hlt := (List.getElem?_eq_some_iff.1 hy).1
    rw [idxL_at hm.1, List.getElem?_eq_getElem (by omega), Option.bind_some, all_erase hy]
    by_cases h : s.Next[y.1.toNat]'(by omega) = y.2
    · have hr : rowOk s.Next y = true := dec_t (by rw [List.getElem?_eq_getElem (by omega), h])
      rw [bne_f h, hr, cond_false, Bool.true_and]
      exact ih _ (fun q hq => hk q (List.mem_of_mem_eraseIdx hq)) (by rw [List.length_eraseIdx_of_lt hlt]; omega)
    · have hr : rowOk s.Next y = false := dec_f (by rw [List.getElem?_eq_getElem (by omega)]; simpa using h)
      rw [bne_t h, hr]; rfl
theorem qrun_inv {ts : List T_api_Thread} : ∀ {l : List T_api_Packet} {row row' : List (Int × Int)}, RowI ts.length row → qrun ts row l = some row' → RowI ts.length row' ∧ row'.length ≤ row.length + l.length := by
  intro l
  induction l with
  | nil => intro row row' h he; cases he; exact ⟨h, by simp⟩
  | cons p r ih =>
    intro row row' h he
    simp only [qrun] at he
    by_cases hb : pkBad ts p
    · rw [if_pos hb] at he; cases he
    rw [if_neg hb] at he
    unfold pkBad at hb
    cases hf : follows (mget row (atS ts p.Thread)) p <;> rw [hf] at he
    · cases he
    · have hp := endP_range (show packS p = 0 by omega)
      have := ih (h.put (by omega) atS_lt hp.1 hp.2) he
      have hm := mput_len row (atS ts p.Thread) (endP p)
      exact ⟨this.1, by simp only [List.length_cons]; omega⟩
theorem contains_next {l : List Int} (hl : l.length ≤ 100000) : slices_ContainsFunc_int_int 200000 l = some (!l.all (fun n => !decide (outP n))) := by
  unfold slices_ContainsFunc_int_int slices_IndexFunc_int_int
  have hloop := bad_loop (l := l) (slices_IndexFunc_int_int_L1 200000 l) (fun i x => if outP x then some (i : Int) else none) (fun n i hi => by
    show slices_IndexFunc_int_int_L1_body _ _ _ _ = _
    unfold slices_IndexFunc_int_int_L1_body
    rw [dec_f (by omega)]; rfl) (fun n i x r hd hlt => by
    refine ⟨fun b hb => ?_, fun hb => ?_⟩
    · show slices_IndexFunc_int_int_L1_body _ _ _ _ = _
      unfold slices_IndexFunc_int_int_L1_body drain_Check_1
      by_cases ho : outP x
      · rw [if_pos ho] at hb; cases hb
        rw [dec_t (by omega), cond_true, idxL_drop hd, Option.bind_some, Option.bind_some, or_t ho]; rfl
      · rw [if_neg ho] at hb; cases hb
    · show slices_IndexFunc_int_int_L1_body _ _ _ _ = _
      unfold slices_IndexFunc_int_int_L1_body drain_Check_1
      by_cases ho : outP x
      · rw [if_pos ho] at hb; cases hb
      · rw [dec_t (by omega), cond_true, idxL_drop hd, Option.bind_some, Option.bind_some, or_f ho, cond_false, step64 (by omega)]) (n := 200000) (by omega)
  rw [hloop]
  have key : ∀ (l : List Int) (i : Nat), (firstBad (fun (i : Nat) x => if outP x then some (i : Int) else none) i l = .inl () ∧ l.all (fun n => !decide (outP n)) = true) ∨ ∃ k : Int, 0 ≤ k ∧ firstBad (fun (i : Nat) x => if outP x then some (i : Int) else none) i l = .inr k ∧ l.all (fun n => !decide (outP n)) = false := by
    intro l
    induction l with
    | nil => intro i; exact .inl ⟨rfl, rfl⟩
    | cons x r ih =>
      intro i
      by_cases ho : outP x
      · refine .inr ⟨i, by omega, ?_, by simp [ho]⟩
        simp only [firstBad, if_pos ho]
      · simp only [firstBad, if_neg ho]
        have e : (x :: r).all (fun n => !decide (outP n)) = r.all (fun n => !decide (outP n)) := by simp [ho]
        rw [e]; exact ih (i + 1)
  rcases key l 0 with ⟨h1, h2⟩ | ⟨k, h0, h1, h2⟩
  · rw [h1, h2]; rfl
  · rw [h1, h2]; simp only [Option.bind_some]; rw [dec_t h0]; rfl
theorem drain_Check_eq {s : T_api_Service} (hq : ∀ p ∈ s.Queue, p.Events.length ≤ 100000) (hl : s.Queue.length ≤ 100000) (hn : s.Next.length ≤ 100000) : drain_Check 200000 s = some (chkS s) := by
  unfold drain_Check chkS
  rw [drain_threads_eq, Option.bind_some]
  by_cases h1 : threadsS s.Threads ≠ 0
  · rw [bne_t h1, if_pos h1]; rfl
  have ht := threadsS_len (show threadsS s.Threads = 0 by omega)
  rw [bne_f (by omega), if_neg h1, cond_false]
  by_cases h2 : s.Next.length ≠ s.Threads.length
  · rw [bne_t (a := (s.Next.length : Int)) (by omega), if_pos (show nextBad s from .inl h2)]; rfl
  rw [bne_f (a := (s.Next.length : Int)) (by omega), cond_false, contains_next hn, Option.bind_some, Option.bind_some]
  cases h3 : s.Next.all (fun n => !decide (outP n))
  · rw [if_pos (show nextBad s from .inr (by rw [h3]; simp))]; rfl
  rw [if_neg (show ¬ nextBad s by unfold nextBad; rw [h3]; simpa using h2), Bool.not_true, cond_false,
    show drain_Check_L1 200000 s 200000 0 [] = _ from drain_Check_loop1 hq hl (by omega) 200000 0 [] ⟨by simp, by simp⟩ (by simp) (by simp; omega), Option.bind_some, List.drop_zero]
  unfold qok
  cases hr : qrun s.Threads [] s.Queue with
  | none => rfl
  | some row =>
    have hi := qrun_inv (row := []) ⟨by simp, by simp⟩ hr
    simp only
    rw [drain_Check_loop2 (by omega) 200000 row (fun q hq => ⟨(hi.1.2 q hq).1, (hi.1.2 q hq).2.1⟩) (by have := hi.2; simp at this; omega), Option.bind_some]
    cases row.all (rowOk s.Next) <;> rfl
def cl (next : Int) : Option Int → List T_api_Packet → Bool
  | pr, [] => match pr with | some e => decide (next = e) | none => true
  | pr, p :: r => follows pr p && cl next (some (endP p)) r
def ofT (id : Int) (l : List T_api_Packet) : List T_api_Packet := l.filter fun p => decide (p.Thread = id)
theorem thrS_nodup : ∀ {l : List T_api_Thread} {seen : List Int}, thrS seen l = 0 → seen.Nodup → (seen ++ idsL l).Nodup := by
  intro l
  induction l with
  | nil => intro seen _ h; simpa [idsL] using h
  | cons t r ih =>
    intro seen h hn
    simp only [thrS] at h
    by_cases h1 : threadS t ≠ 0
    · rw [if_pos h1] at h; exact absurd h h1
    rw [if_neg h1] at h
    by_cases h2 : t.Id ∈ seen
    · rw [if_pos h2] at h; cases h
    rw [if_neg h2] at h
    have hn2 : (seen ++ [t.Id]).Nodup := List.nodup_append.2 ⟨hn, by simp, fun a ha b hb => by simp at hb; subst hb; intro e; subst e; exact h2 ha⟩
    have := ih h hn2
    simpa [idsL] using this
theorem ids_nodup {l : List T_api_Thread} (h : threadsS l = 0) : (idsL l).Nodup := by
  have hl := threadsS_len h
  unfold threadsS at h
  rw [if_neg (by omega), if_neg (by omega)] at h
  have := thrS_nodup h (by simp)
  simpa using this
theorem atS_get {l : List T_api_Thread} {id : Int} (h : 0 ≤ atS l id) : ∃ t, l[(atS l id).toNat]? = some t ∧ t.Id = id := by
  unfold atS at *
  rcases findI_spec id (idsL l) 0 with ⟨h1, _⟩ | ⟨j, h1, h2⟩
  · omega
  · rw [h2] at h ⊢
    simp only [idsL, List.getElem?_map, Option.map_eq_some_iff] at h1
    obtain ⟨t, ht, he⟩ := h1
    exact ⟨t, by simpa using ht, he⟩
end Go.Ab
