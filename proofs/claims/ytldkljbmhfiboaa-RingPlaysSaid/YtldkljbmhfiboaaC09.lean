/- Ring buffers: contents and records. -/
import Derived.Test.YtldkljbmhfiboaaK09
import Derived.KernelRfl
namespace Go.Ab
open Go
set_option linter.unusedVariables false

/-- k bytes from the position s on. -/
def ctn (D : List Int) (s k : Nat) : List Int := (List.range k).map fun j => D.getD ((s + j) % D.length) 0
theorem ctn_len (D : List Int) (s k : Nat) : (ctn D s k).length = k := by simp [ctn]
theorem ctn_get {D : List Int} {s k j : Nat} (h : j < k) : (ctn D s k)[j]? = some (D.getD ((s + j) % D.length) 0) := by
  simp [ctn, h]
theorem ctn_succ (D : List Int) (s k : Nat) : ctn D s (k + 1) = ctn D s k ++ [D.getD ((s + k) % D.length) 0] := by
  simp [ctn, List.range_succ]
theorem ctn_add (D : List Int) (s i k : Nat) : ctn D s (i + k) = ctn D s i ++ ctn D (s + i) k := by
  induction k with
  | zero => simp [ctn]
  | succ k ih => rw [← Nat.add_assoc, ctn_succ, ih, ctn_succ, List.append_assoc, Nat.add_assoc]
theorem ctn_ok {D : List Int} {s k : Nat} (h : ∀ x ∈ D, okU8 x) : ∀ x ∈ ctn D s k, okU8 x := by
  intro x hx
  simp only [ctn, List.mem_map] at hx
  obtain ⟨j, _, rfl⟩ := hx
  rw [List.getD_eq_getElem?_getD]
  cases hq : D[(s + j) % D.length]? with
  | none => simp [okU8]
  | some v => exact h v (List.mem_of_getElem? hq)

theorem mod_wrap {S n j : Nat} (hn : 0 < n) (hj : j < n) : (S + j) % n = if S % n + j < n then S % n + j else S % n + j - n := by
  have ha := Nat.mod_lt S hn
  rw [← Nat.mod_add_mod]
  split
  · exact Nat.mod_eq_of_lt (by assumption)
  · rw [Nat.mod_eq_sub_mod (by omega), Nat.mod_eq_of_lt (by omega)]
theorem ring_cpy {D : List Int} {S k : Nat} (hn : 0 < D.length) (hk : k ≤ D.length) :
    cpy (cpy (List.replicate k 0) 0 k (D.drop (S % D.length))) (min (D.drop (S % D.length)).length (k - 0)) k D = ctn D S k := by
  have ha := Nat.mod_lt S hn
  apply List.ext_getElem?
  intro j
  have hl : (cpy (cpy (List.replicate k 0) 0 k (D.drop (S % D.length))) (min (D.drop (S % D.length)).length (k - 0)) k D).length = k := by
    rw [cpy_len (by omega) (by rw [cpy_len (by omega) (by simp)]; simp), cpy_len (by omega) (by simp)]; simp
  by_cases hj : j < k
  · rw [ctn_get hj, mod_wrap hn (by omega)]
    generalize hA : S % D.length = a at *
    have hm : min (D.drop a).length (k - 0) = min (D.length - a) k := by simp
    rw [hm]
    generalize hM : min (D.length - a) k = m
    have hin : cpy (List.replicate k 0) 0 k (D.drop a) = (D.drop a).take m ++ List.replicate (k - m) 0 := by
      unfold cpy
      simp [hM]
    rw [hin]
    unfold cpy
    have e1 : ((D.drop a).take m ++ List.replicate (k - m) 0).take m = (D.drop a).take m := by
      rw [List.take_left' (by simp; omega)]
    rw [e1, List.append_assoc]
    have l1 : ((D.drop a).take m).length = m := by simp; omega
    by_cases hjm : j < m
    · rw [List.getElem?_append_left (by omega), List.getElem?_take, if_pos hjm, List.getElem?_drop, if_pos (by omega), List.getD_eq_getElem?_getD, List.getElem?_eq_getElem (by omega)]; rfl
    · rw [List.getElem?_append_right (by omega), l1, List.getElem?_append_left (by simp; omega), List.getElem?_take, if_pos (by omega), if_neg (by omega), List.getD_eq_getElem?_getD, show a + j - D.length = j - m by omega, List.getElem?_eq_getElem (by omega)]; rfl
  · rw [List.getElem?_eq_none (by rw [hl]; omega), List.getElem?_eq_none (by rw [ctn_len]; omega)]

theorem sub_end {α : Type} (l : List α) (a : Int) : sub l a (l.length : Int) = l.drop a.toNat := by simp [sub]
/-- A ring buffer whose numbers are right. -/
structure Good (r : T_api_Ring) : Prop where
  n1 : 16 ≤ r.Data.length
  n2 : r.Data.length ≤ 65536
  s0 : 0 ≤ r.Start
  se : r.Start ≤ r.End
  e1 : r.End ≤ 1000000000000000
  k1 : r.End - r.Start ≤ (r.Data.length : Int)
  f0 : 0 ≤ r.First
  fn : r.First ≤ r.Next
  nx : r.Next ≤ 1000000000000000
def used (r : T_api_Ring) : Nat := (r.End - r.Start).toNat
def bytesIn (r : T_api_Ring) : List Int := ctn r.Data r.Start.toNat (used r)
theorem irem_nat (a b : Nat) : irem (a : Int) (b : Int) = ((a % b : Nat) : Int) := by
  rw [irem_mod (by omega)]; exact (Int.natCast_emod a b).symm
theorem ring_contents_eq {r : T_api_Ring} (g : Good r) : ring_contents r = some (bytesIn r) := by
  have := g.n1; have := g.n2; have := g.s0; have := g.se; have := g.e1; have := g.k1
  unfold ring_contents bytesIn used
  obtain ⟨S, hS⟩ := Int.eq_ofNat_of_zero_le g.s0
  have hk : ((r.End - r.Start).toNat : Int) = r.End - r.Start := by omega
  rw [w64 (by omega) (by omega), hS, irem_nat]
  rw [hS] at hk
  generalize hK : (r.End - (S : Int)).toNat = k at *
  have hm := Nat.mod_lt S (show 0 < r.Data.length by omega)
  have e : sub r.Data ((S % r.Data.length : Nat) : Int) (r.Data.length : Int) = r.Data.drop (S % r.Data.length) := by rw [sub_end, Int.toNat_natCast]
  simp only [e]
  rw [need_t (by omega), Option.bind_some, need_t (by omega), Option.bind_some, need_t (by omega), Option.bind_some, need_t (by simp), Option.bind_some, need_t (by omega), Option.bind_some, need_t ⟨by omega, by rw [cpy_len (by omega) (by simp)]; simp⟩, Option.bind_some, ring_cpy (by omega) (by omega)]
  rfl
theorem R09_Contents_eq {r : T_api_Ring} (g : Good r) : R09_Contents 200000 r = some (bytesIn r) := by
  have := g.n1; have := g.n2; have := g.s0; have := g.se; have := g.e1; have := g.k1
  unfold R09_Contents bytesIn used
  obtain ⟨S, hS⟩ := Int.eq_ofNat_of_zero_le g.s0
  have hk : ((r.End - r.Start).toNat : Int) = r.End - r.Start := by omega
  generalize hK : (r.End - r.Start).toNat = k at *
  have key : ∀ (n j : Nat), j ≤ k → k - j < n → R09_Contents_L1 200000 r n ((S + j : Nat) : Int) (ctn r.Data S j) = some (ctn r.Data S k) := by
    intro n
    induction n with
    | zero => intro j _ h; omega
    | succ n ih =>
      intro j hj hn
      show R09_Contents_L1_body 200000 r _ _ _ = _
      unfold R09_Contents_L1_body
      rcases Nat.lt_or_ge j k with h | h
      · have hm := Nat.mod_lt (S + j) (show 0 < r.Data.length by omega)
        rw [dec_t (by omega), cond_true, need_t (by omega), Option.bind_some, irem_nat, idxL_nat, List.getElem?_eq_getElem hm, Option.bind_some, need_t (by rw [ctn_len]; simp only [List.length_cons, List.length_nil]; omega), Option.bind_some, step64 (by omega)]
        have := ih (j + 1) (by omega) (by omega)
        rw [ctn_succ, List.getD_eq_getElem?_getD, List.getElem?_eq_getElem hm] at this
        exact this
      · rw [dec_f (by omega), cond_false, show j = k by omega]
  have := key 200000 0 (by omega) (by omega)
  rw [hS, show R09_Contents_L1 200000 r 200000 (S : Int) [] = _ from this, Option.bind_some]
  rfl

/- Records. -/
def recs : Nat → List Int → List (List Int) × Bool
  | 0, b => ([], b.isEmpty)
  | m + 1, b => if b = [] then ([], true) else
    let q := vrd b 0 0
    if q.2.2 ≠ 0 ∨ q.1 < 0 ∨ 2000 < q.1 ∨ (b.length : Int) < q.2.1 + q.1 then ([], false) else
    let r := recs m (b.drop (q.2.1 + q.1).toNat)
    (sub b q.2.1 (q.2.1 + q.1) :: r.1, r.2)
def outRecs (row : List (List Int)) (q : List (List Int) × Bool) : List (List Int) ⊕ (List (List Int) × Bool) := if q.2 then .inl (row ++ q.1) else .inr ([], false)
theorem ring_split_loop : ∀ (n m : Nat) (b : List Int) (row : List (List Int)), (∀ x ∈ b, okU8 x) → b.length < n → b.length ≤ m → b.length ≤ 100000 → row.length + b.length ≤ 200000 → ring_split_L1 200000 n b row = some (outRecs row (recs m b)) := by
  intro n
  induction n with
  | zero => intro m b row _ h; omega
  | succ n ih =>
    intro m b row hb hn hm hl hr
    show ring_split_L1_body 200000 _ b row = _
    unfold ring_split_L1_body
    by_cases he : b = []
    · subst he
      rw [dec_f (by simp), cond_false]
      cases m <;> simp [recs, outRecs]
    have hpos := List.length_pos_iff.2 he
    obtain ⟨m, rfl⟩ : ∃ k, m = k + 1 := ⟨m - 1, by omega⟩
    obtain ⟨k1, k2, k3⟩ := vrd_range (i := 0) (u := 0) hb (by omega) (by omega) (by decide)
    rw [dec_t (by omega), cond_true, codec_Int_eq hb (by omega) (by omega), Option.bind_some]
    simp only [recs, if_neg he]
    generalize hq : vrd b 0 0 = q at *
    unfold okI64 at k1
    by_cases hbad : q.2.2 ≠ 0 ∨ q.1 < 0 ∨ 2000 < q.1 ∨ (b.length : Int) < q.2.1 + q.1
    · rw [if_pos hbad]
      have : ((q.2.2 != 0) || (decide (q.1 < 0) || (decide (q.1 > 2000) || decide (w_i64 (q.2.1 + q.1) > (b.length : Int))))) = true := by
        by_cases c0 : q.2.2 ≠ 0
        · rw [bne_t c0]; rfl
        have k2 := k2 (by omega)
        by_cases c1 : q.1 < 0
        · rw [dec_t c1, Bool.true_or, Bool.or_true]
        by_cases c2 : 2000 < q.1
        · rw [dec_t (p := q.1 > 2000) c2, Bool.true_or, Bool.or_true, Bool.or_true]
        rw [dec_t (p := w_i64 (q.2.1 + q.1) > (b.length : Int)) (by rw [w64 (by omega) (by omega)]; omega), Bool.or_true, Bool.or_true, Bool.or_true]
      rw [this, cond_true]; rfl
    · rw [if_neg hbad]
      have k2 := k2 (by omega)
      have : ((q.2.2 != 0) || (decide (q.1 < 0) || (decide (q.1 > 2000) || decide (w_i64 (q.2.1 + q.1) > (b.length : Int))))) = false := by
        rw [bne_f (by omega), dec_f (by omega), dec_f (by omega), dec_f (by rw [w64 (by omega) (by omega)]; omega)]; rfl
      rw [this, cond_false, w64 (by omega) (by omega), need_t (by omega), Option.bind_some, need_t (by simp only [List.length_cons, List.length_nil]; omega), Option.bind_some, need_t (by omega), Option.bind_some, sub_end,
        ih m _ _ (fun x hx => hb x (List.mem_of_mem_drop hx)) (by simp; omega) (by simp; omega) (by simp; omega) (by simp; omega)]
      unfold outRecs
      simp only
      split <;> simp
theorem R09_Records_loop : ∀ (n m : Nat) (b : List Int) (row : List (List Int)), (∀ x ∈ b, okU8 x) → b.length < n → b.length ≤ m → b.length ≤ 100000 → row.length + b.length ≤ 200000 → R09_Records_L1 200000 n b row = some (outRecs row (recs m b)) := by
  intro n
  induction n with
  | zero => intro m b row _ h; omega
  | succ n ih =>
    intro m b row hb hn hm hl hr
    show R09_Records_L1_body 200000 _ b row = _
    unfold R09_Records_L1_body
    by_cases he : b = []
    · subst he
      rw [dec_f (by simp), cond_false]
      cases m <;> simp [recs, outRecs]
    have hpos := List.length_pos_iff.2 he
    obtain ⟨m, rfl⟩ : ∃ k, m = k + 1 := ⟨m - 1, by omega⟩
    obtain ⟨k1, k2, k3⟩ := vrd_range (i := 0) (u := 0) hb (by omega) (by omega) (by decide)
    rw [dec_t (by omega), cond_true, R05_Int_eq hb (by omega) (by omega), Option.bind_some]
    simp only [recs, if_neg he]
    generalize hq : vrd b 0 0 = q at *
    unfold okI64 at k1
    by_cases hbad : q.2.2 ≠ 0 ∨ q.1 < 0 ∨ 2000 < q.1 ∨ (b.length : Int) < q.2.1 + q.1
    · rw [if_pos hbad]
      have : ((q.2.2 != 0) || (decide (q.1 < 0) || (decide (q.1 > 2000) || decide (q.1 > w_i64 ((b.length : Int) - q.2.1))))) = true := by
        by_cases c0 : q.2.2 ≠ 0
        · rw [bne_t c0]; rfl
        have k2 := k2 (by omega)
        by_cases c1 : q.1 < 0
        · rw [dec_t c1, Bool.true_or, Bool.or_true]
        by_cases c2 : 2000 < q.1
        · rw [dec_t (p := q.1 > 2000) c2, Bool.true_or, Bool.or_true, Bool.or_true]
        rw [dec_t (p := q.1 > w_i64 ((b.length : Int) - q.2.1)) (by rw [w64 (by omega) (by omega)]; omega), Bool.or_true, Bool.or_true, Bool.or_true]
      rw [this, cond_true]; rfl
    · rw [if_neg hbad]
      have k2 := k2 (by omega)
      have : ((q.2.2 != 0) || (decide (q.1 < 0) || (decide (q.1 > 2000) || decide (q.1 > w_i64 ((b.length : Int) - q.2.1))))) = false := by
        rw [bne_f (by omega), dec_f (by omega), dec_f (by omega), dec_f (by rw [w64 (by omega) (by omega)]; omega)]; rfl
      rw [this, cond_false, w64 (by omega) (by omega), need_t (by omega), Option.bind_some, need_t (by simp only [List.length_cons, List.length_nil]; omega), Option.bind_some, need_t (by omega), Option.bind_some, sub_end,
        ih m _ _ (fun x hx => hb x (List.mem_of_mem_drop hx)) (by simp; omega) (by simp; omega) (by simp; omega) (by simp; omega)]
      unfold outRecs
      simp only
      split <;> simp
/-- The records of frames; none if the bytes are no frames. -/
def recsOf (b : List Int) : List (List Int) × Bool := if (recs b.length b).2 then recs b.length b else ([], false)
theorem ring_split_eq {b : List Int} (hb : ∀ x ∈ b, okU8 x) (hl : b.length ≤ 100000) : ring_split 200000 b = some (recsOf b) := by
  unfold ring_split recsOf
  rw [ring_split_loop 200000 b.length b [] hb (by omega) (by omega) hl (by simp; omega), Option.bind_some]
  unfold outRecs
  cases hh : (recs b.length b).2
  · rfl
  · simp only [if_true, List.nil_append]; rw [← hh]
theorem R09_Records_eq {b : List Int} (hb : ∀ x ∈ b, okU8 x) (hl : b.length ≤ 100000) : R09_Records 200000 b = some (recsOf b) := by
  unfold R09_Records recsOf
  rw [R09_Records_loop 200000 b.length b [] hb (by omega) (by omega) hl (by simp; omega), Option.bind_some]
  unfold outRecs
  cases hh : (recs b.length b).2
  · rfl
  · simp only [if_true, List.nil_append]; rw [← hh]
end Go.Ab
