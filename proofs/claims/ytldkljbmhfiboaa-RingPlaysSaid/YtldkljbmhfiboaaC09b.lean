/- Ring buffers: Check, Count, Free, Take; New. -/
import Derived.Test.YtldkljbmhfiboaaC09
import Derived.Test.YtldkljbmhfiboaaR9
namespace Go.Ab
open Go
set_option linter.unusedVariables false

theorem awake_true : L09_awake 200000 = some true := by kernel_rfl

def badPolicy (r : T_api_Ring) : Prop := r.Policy ≠ 1 ∧ r.Policy ≠ 2
def badRange (r : T_api_Ring) : Prop := (r.Data.length : Int) < 16 ∨ (r.Data.length : Int) > 65536 ∨ r.Start < 0 ∨ r.End < r.Start ∨ r.End > 1000000000000000 ∨ r.End - r.Start > (r.Data.length : Int) ∨ r.First < 0 ∨ r.Next < r.First ∨ r.Next > 1000000000000000
instance (r : T_api_Ring) : Decidable (badPolicy r) := inferInstanceAs (Decidable (_ ∧ _))
instance (r : T_api_Ring) : Decidable (badRange r) := inferInstanceAs (Decidable (_ ∨ _))
theorem good_of {r : T_api_Ring} (h : ¬badRange r) : Good r := by
  unfold badRange at h
  exact ⟨by omega, by omega, by omega, by omega, by omega, by omega, by omega, by omega, by omega⟩
theorem good_not {r : T_api_Ring} (g : Good r) : ¬badRange r := by
  have := g.n1; have := g.n2; have := g.s0; have := g.se; have := g.e1; have := g.k1; have := g.f0; have := g.fn; have := g.nx
  unfold badRange; omega
def okRing (r : T_api_Ring) : Prop := (∀ x ∈ r.Data, okU8 x) ∧ okI64 r.Start ∧ okI64 r.End ∧ okI64 r.First ∧ okI64 r.Next ∧ r.Data.length ≤ 4000000000000000000
def readS (r : T_api_Ring) : List (List Int) × Int := if badPolicy r then ([], 1) else if badRange r then ([], 2) else
  let q := recsOf (bytesIn r)
  if q.2 = false ∨ (q.1.length : Int) ≠ r.Next - r.First then ([], 10) else (q.1, 0)
theorem used_le {r : T_api_Ring} (g : Good r) : used r ≤ r.Data.length := by
  have := g.k1; have := g.se; unfold used; omega
theorem bytesIn_len (r : T_api_Ring) : (bytesIn r).length = used r := ctn_len _ _ _
theorem bytesIn_ok {r : T_api_Ring} (h : ∀ x ∈ r.Data, okU8 x) : ∀ x ∈ bytesIn r, okU8 x := ctn_ok h
theorem ring_read_eq {r : T_api_Ring} (h : okRing r) : ring_read 200000 r = some (readS r) := by
  obtain ⟨hd, i1, i2, i3, i4, i5⟩ := h
  unfold okI64 at i1 i2 i3 i4
  unfold ring_read readS
  by_cases hp : badPolicy r
  · rw [if_pos hp]
    unfold badPolicy at hp
    rw [show ((r.Policy != 1) && (r.Policy != 2)) = true by rw [bne_t hp.1, bne_t hp.2]; rfl, cond_true]; rfl
  rw [if_neg hp]
  rw [show ((r.Policy != 1) && (r.Policy != 2)) = false by
    unfold badPolicy at hp
    by_cases h1 : r.Policy = 1
    · rw [bne_f h1]; rfl
    · rw [bne_f (a := r.Policy) (b := 2) (by omega), Bool.and_false], cond_false]
  by_cases hb : badRange r
  · rw [if_pos hb]
    unfold badRange at hb
    by_cases c1 : (r.Data.length : Int) < 16
    · rw [dec_t c1, Bool.true_or, cond_true]; rfl
    by_cases c2 : (r.Data.length : Int) > 65536
    · rw [dec_t c2, Bool.or_true, cond_true]; rfl
    rw [dec_f c1, dec_f c2, Bool.or_false, cond_false]
    by_cases c3 : r.Start < 0
    · rw [dec_t c3, cond_true]; rfl
    rw [dec_f c3, cond_false]
    by_cases c4 : r.End < r.Start
    · rw [dec_t c4, cond_true]; rfl
    rw [dec_f c4, cond_false]
    by_cases c5 : r.End > 1000000000000000
    · rw [dec_t c5, cond_true]; rfl
    rw [dec_f c5, cond_false, w64 (by omega) (by omega)]
    by_cases c6 : r.End - r.Start > (r.Data.length : Int)
    · rw [dec_t c6, cond_true]; rfl
    rw [dec_f c6, cond_false]
    by_cases c7 : r.First < 0
    · rw [dec_t c7, cond_true]; rfl
    rw [dec_f c7, cond_false]
    by_cases c8 : r.Next < r.First
    · rw [dec_t c8, cond_true]; rfl
    rw [dec_f c8, cond_false, dec_t (by omega), cond_true]; rfl
  rw [if_neg hb]
  have g := good_of hb
  have := g.n1; have := g.n2; have := g.s0; have := g.se; have := g.e1; have := g.k1; have := g.f0; have := g.fn; have := g.nx
  rw [dec_f (by omega), dec_f (by omega), Bool.or_false, cond_false, dec_f (by omega), cond_false, dec_f (by omega), cond_false, dec_f (by omega), cond_false, w64 (by omega) (by omega), dec_f (by omega), cond_false, dec_f (by omega), cond_false, dec_f (by omega), cond_false, dec_f (by omega), cond_false, Option.bind_some]
  simp only
  have hu := used_le g
  rw [ring_contents_eq g, Option.bind_some, ring_split_eq (bytesIn_ok hd) (by rw [bytesIn_len]; omega), Option.bind_some, w64 (by omega) (by omega)]
  generalize recsOf (bytesIn r) = q
  cases h2 : q.2
  · rw [if_pos (.inl rfl)]; rfl
  · by_cases hc : (q.1.length : Int) ≠ r.Next - r.First
    · rw [if_pos (.inr hc), bne_t hc]; rfl
    · rw [if_neg (by simp; omega), bne_f (by omega)]; rfl
theorem R09_Check_eq {r : T_api_Ring} (h : okRing r) : R09_Check 200000 r = some (readS r).2 := by
  obtain ⟨hd, i1, i2, i3, i4, i5⟩ := h
  unfold okI64 at i1 i2 i3 i4
  unfold R09_Check readS
  by_cases hp : badPolicy r
  · rw [if_pos hp]
    unfold badPolicy at hp
    rw [show ((r.Policy != 1) && (r.Policy != 2)) = true by rw [bne_t hp.1, bne_t hp.2]; rfl, cond_true]
  rw [if_neg hp]
  rw [show ((r.Policy != 1) && (r.Policy != 2)) = false by
    unfold badPolicy at hp
    by_cases h1 : r.Policy = 1
    · rw [bne_f h1]; rfl
    · rw [bne_f (a := r.Policy) (b := 2) (by omega), Bool.and_false], cond_false]
  by_cases hb : badRange r
  · rw [if_pos hb]
    unfold badRange at hb
    have : (decide ((r.Data.length : Int) < 16) || (decide ((r.Data.length : Int) > 65536) || (decide (r.Start < 0) || (decide (r.Start > r.End) || (decide (r.End > 1000000000000000) || (decide (w_i64 (r.End - r.Start) > (r.Data.length : Int)) || (decide (r.First < 0) || (decide (r.First > r.Next) || decide (r.Next > 1000000000000000))))))))) = true := by
      simp only [Bool.or_eq_true, decide_eq_true_eq]
      by_cases c : r.Start < 0 ∨ r.Start > r.End ∨ r.End > 1000000000000000
      · omega
      · rw [w64 (by omega) (by omega)]; omega
    rw [this, cond_true]
  rw [if_neg hb]
  have g := good_of hb
  have := g.n1; have := g.n2; have := g.s0; have := g.se; have := g.e1; have := g.k1; have := g.f0; have := g.fn; have := g.nx
  have hu := used_le g
  rw [w64 (x := r.End - r.Start) (by omega) (by omega), dec_f (by omega), dec_f (by omega), dec_f (by omega), dec_f (by omega), dec_f (by omega), dec_f (by omega), dec_f (by omega), dec_f (by omega), dec_f (by omega)]
  simp only [Bool.or_false, cond_false]
  rw [R09_Contents_eq g, Option.bind_some, R09_Records_eq (bytesIn_ok hd) (by rw [bytesIn_len]; omega), Option.bind_some, w64 (by omega) (by omega)]
  generalize recsOf (bytesIn r) = q
  cases h2 : q.2
  · rw [if_pos (.inl rfl)]; rfl
  · by_cases hc : (q.1.length : Int) ≠ r.Next - r.First
    · rw [if_pos (.inr hc), bne_t hc]; rfl
    · rw [if_neg (by simp; omega), bne_f (by omega)]; rfl
theorem readS_good {r : T_api_Ring} (h : (readS r).2 = 0) : ¬badPolicy r ∧ Good r ∧ recsOf (bytesIn r) = ((readS r).1, true) ∧ ((readS r).1.length : Int) = r.Next - r.First := by
  unfold readS at h ⊢
  by_cases hp : badPolicy r
  · rw [if_pos hp] at h; simp at h
  rw [if_neg hp] at h ⊢
  by_cases hb : badRange r
  · rw [if_pos hb] at h; simp at h
  rw [if_neg hb] at h ⊢
  simp only at h ⊢
  by_cases hc : (recsOf (bytesIn r)).2 = false ∨ ((recsOf (bytesIn r)).1.length : Int) ≠ r.Next - r.First
  · rw [if_pos hc] at h; simp at h
  rw [if_neg hc] at h ⊢
  refine ⟨hp, good_of hb, ?_, by simp only; omega⟩
  have : (recsOf (bytesIn r)).2 = true := by
    cases h2 : (recsOf (bytesIn r)).2
    · exact absurd (.inl h2) hc
    · rfl
  exact Prod.ext rfl this
theorem ring_Check_eq {r : T_api_Ring} (h : okRing r) : ring_Check 200000 r = some (readS r).2 := by
  unfold ring_Check; rw [ring_read_eq h]; rfl
def countS (r : T_api_Ring) : Int := if (readS r).2 ≠ 0 then 0 else r.Next - r.First
def freeS (r : T_api_Ring) : Int := if (readS r).2 ≠ 0 then 0 else r.Data.length - (r.End - r.Start)
def takeS (r : T_api_Ring) : List (List Int) × T_api_Ring := if (readS r).2 ≠ 0 then ([], r) else ((readS r).1, ⟨r.Policy, r.Data, r.End, r.End, r.Next, r.Next⟩)
theorem ring_Count_eq {r : T_api_Ring} (h : okRing r) : ring_Count 200000 r = some (countS r) := by
  unfold ring_Count countS
  rw [ring_Check_eq h, Option.bind_some]
  by_cases hc : (readS r).2 ≠ 0
  · rw [bne_t hc, if_pos hc]; rfl
  · have g := (readS_good (r := r) (by omega)).2.1
    have := g.f0; have := g.fn; have := g.nx
    rw [bne_f (by omega), if_neg hc, cond_false, w64 (by omega) (by omega)]
theorem R09_Count_eq {r : T_api_Ring} (h : okRing r) : R09_Count 200000 r = some (countS r) := by
  unfold R09_Count countS
  rw [R09_Check_eq h, Option.bind_some]
  by_cases hc : (readS r).2 ≠ 0
  · rw [bne_t hc, if_pos hc]; rfl
  · have g := (readS_good (r := r) (by omega)).2.1
    have := g.f0; have := g.fn; have := g.nx
    rw [bne_f (by omega), if_neg hc, cond_false, w64 (by omega) (by omega)]
theorem ring_Free_eq {r : T_api_Ring} (h : okRing r) : ring_Free 200000 r = some (freeS r) := by
  unfold ring_Free freeS
  rw [ring_Check_eq h, Option.bind_some]
  by_cases hc : (readS r).2 ≠ 0
  · rw [bne_t hc, if_pos hc]; rfl
  · have g := (readS_good (r := r) (by omega)).2.1
    have := g.n2; have := g.s0; have := g.se; have := g.e1
    rw [bne_f (by omega), if_neg hc, cond_false, w64 (x := r.End - r.Start) (by omega) (by omega), w64 (by omega) (by omega)]
theorem R09_Free_eq {r : T_api_Ring} (h : okRing r) : R09_Free 200000 r = some (freeS r) := by
  unfold R09_Free freeS
  rw [R09_Check_eq h, Option.bind_some]
  by_cases hc : (readS r).2 ≠ 0
  · rw [bne_t hc, if_pos hc]; rfl
  · have g := (readS_good (r := r) (by omega)).2.1
    have := g.n2; have := g.s0; have := g.se; have := g.e1
    rw [bne_f (by omega), if_neg hc, cond_false, w64 (x := r.End - r.Start) (by omega) (by omega), w64 (by omega) (by omega)]
theorem ring_Take_eq {r : T_api_Ring} (h : okRing r) : ring_Take 200000 r = some (takeS r) := by
  unfold ring_Take takeS
  rw [ring_read_eq h, Option.bind_some]
  by_cases hc : (readS r).2 ≠ 0
  · rw [bne_t hc, if_pos hc]; rfl
  · rw [bne_f (by omega), if_neg hc]; rfl
theorem R09_Take_eq {r : T_api_Ring} (h : okRing r) : R09_Take 200000 r = some (takeS r) := by
  unfold R09_Take takeS
  rw [R09_Check_eq h, Option.bind_some]
  by_cases hc : (readS r).2 ≠ 0
  · rw [bne_t hc, if_pos hc]; rfl
  · obtain ⟨_, g, e, _⟩ := readS_good (r := r) (by omega)
    have hu := used_le g
    have := g.n2
    rw [bne_f (by omega), if_neg hc, cond_false, R09_Contents_eq g, Option.bind_some, R09_Records_eq (bytesIn_ok h.1) (by rw [bytesIn_len]; omega), Option.bind_some, e]
theorem SameBytes_self {l : List (List Int)} (hl : l.length ≤ 100000) : R09_SameBytes 200000 l l = some true := by
  unfold R09_SameBytes
  rw [bne_f rfl, cond_false]
  have := loopL0 (l := l) (σ := Unit) (fun n i _ => R09_SameBytes_L1 200000 l l n i) (fun _ _ _ => .inl ()) (fun _ _ => True) ?_ ?_ (n := 200000) (s := ()) trivial (by omega)
  · rw [this]; rfl
  · intro n i _ hi _
    show R09_SameBytes_L1_body 200000 l l _ _ = _
    unfold R09_SameBytes_L1_body
    rw [dec_f (by omega), cond_false]
  · intro n i _ x r hd hlt _ ih
    show R09_SameBytes_L1_body 200000 l l _ _ = _
    unfold R09_SameBytes_L1_body
    rw [dec_t (by omega), cond_true, idxL_drop hd, Option.bind_some, Option.bind_some, step64 (by omega), ih () trivial, BEq.rfl]; rfl
theorem Same_self {r : T_api_Ring} (h : okRing r) : R09_Same 200000 r r = some true := by
  unfold R09_Same
  rw [bne_f rfl, bne_f rfl, bne_f rfl, bne_f rfl, bne_f rfl, bne_f rfl]
  simp only [Bool.or_false, cond_false]
  rw [R09_Check_eq h]
  simp only [Option.bind_some]
  by_cases hc : (readS r).2 ≠ 0
  · rw [bne_t hc]; simp
  · have g := (readS_good (r := r) (by omega)).2.1
    rw [bne_f (by omega), R09_Contents_eq g]; simp
theorem recs_len : ∀ (m : Nat) (b : List Int), (∀ x ∈ b, okU8 x) → (recs m b).2 = true → (recs m b).1.length ≤ b.length := by
  intro m
  induction m with
  | zero => intro b _ _; simp [recs]
  | succ m ih =>
    intro b hb h
    simp only [recs] at h ⊢
    by_cases he : b = []
    · rw [if_pos he]; simp
    rw [if_neg he] at h ⊢
    obtain ⟨k1, k2, k3⟩ := vrd_range (i := 0) (u := 0) hb (by omega) (by omega) (by decide)
    generalize hq : vrd b 0 0 = q at *
    by_cases hbad : q.2.2 ≠ 0 ∨ q.1 < 0 ∨ 2000 < q.1 ∨ (b.length : Int) < q.2.1 + q.1
    · rw [if_pos hbad] at h; simp at h
    rw [if_neg hbad] at h ⊢
    have k2 := k2 (by omega)
    have := ih _ (fun x hx => hb x (List.mem_of_mem_drop hx)) h
    simp only [List.length_cons, List.length_drop] at this ⊢
    omega
theorem readS_len {r : T_api_Ring} (hd : ∀ x ∈ r.Data, okU8 x) : (readS r).1.length ≤ 65536 := by
  by_cases hc : (readS r).2 = 0
  · obtain ⟨_, g, e, _⟩ := readS_good hc
    have hu := used_le g
    have := g.n2
    unfold recsOf at e
    by_cases h2 : (recs (bytesIn r).length (bytesIn r)).2 = true
    · rw [if_pos h2] at e
      have := recs_len _ _ (bytesIn_ok hd) h2
      rw [e, bytesIn_len] at this
      simp only at this; omega
    · rw [if_neg h2] at e; injection e with _ e; cases e
  · have : (readS r).1 = [] := by
      unfold readS at hc ⊢
      split
      · rfl
      · split
        · rfl
        · simp only
          split
          · rfl
          · rename_i h1 h2 h3; rw [if_neg h1, if_neg h2] at hc; simp only at hc; rw [if_neg h3] at hc; exact absurd rfl hc
    rw [this]; simp

theorem okRing_of {r : T_api_Ring} (h : ok_T_api_Ring r) (hl : r.Data.length ≤ 4000000000000000000) : okRing r := by
  unfold ok_T_api_Ring at h
  exact ⟨h.2.1.1, h.2.2.1, h.2.2.2.1, h.2.2.2.2.1, h.2.2.2.2.2, hl⟩

theorem L09_RingMakes_plain : ∀ (a0 : Int) (a1 : Int), okI64 a0 → okI64 a1 → ∃ F, L09_RingMakes F a0 a1 = some true := by
  intro size p h0 h1
  refine ⟨200000, ?_⟩
  unfold okI64 at h0
  unfold L09_RingMakes
  have e : R09_New size p = ring_New size p := rfl
  rw [e]
  unfold ring_New
  by_cases hs : size < 16 ∨ size > 65536
  · rw [show (decide (size < 16) || decide (size > 65536)) = true by simpa using hs, cond_true]
    simp only [Option.bind_some]
    rw [awake_true]; rfl
  rw [show (decide (size < 16) || decide (size > 65536)) = false by simpa using hs, cond_false]
  by_cases hp : p ≠ 1 ∧ p ≠ 2
  · rw [show ((p != 1) && (p != 2)) = true by simpa using hp, cond_true]
    simp only [Option.bind_some]
    rw [awake_true]; rfl
  rw [show ((p != 1) && (p != 2)) = false by
    by_cases h1 : p = 1
    · rw [bne_f h1]; rfl
    · rw [bne_f (a := p) (b := 2) (by omega), Bool.and_false], cond_false, need_t (by omega), Option.bind_some]
  simp only [Option.bind_some]
  obtain ⟨n, rfl⟩ := Int.eq_ofNat_of_zero_le (show 0 ≤ size by omega)
  rw [Int.toNat_natCast]
  have hr : okRing ⟨p, List.replicate n 0, 0, 0, 0, 0⟩ := ⟨fun x hx => by rw [(List.mem_replicate.1 hx).2]; unfold okU8; omega, by unfold okI64; simp, by unfold okI64; simp, by unfold okI64; simp, by unfold okI64; simp, by simp; omega⟩
  have hz : readS ⟨p, List.replicate n 0, 0, 0, 0, 0⟩ = ([], 0) := by
    unfold readS
    rw [if_neg (by unfold badPolicy; simp only; exact hp), if_neg (by unfold badRange; simp; omega)]
    rfl
  rw [ring_Check_eq hr, ring_Count_eq hr, ring_Free_eq hr]
  unfold countS freeS
  rw [hz, awake_true]
  simp

theorem L09_RingChecks_plain : ∀ (a0 : T_api_Ring), ok_T_api_Ring a0 → ∃ F, L09_RingChecks F a0 = some true := by
  intro r h
  refine ⟨200000, ?_⟩
  unfold L09_RingChecks L09_small
  rw [Option.bind_some]
  by_cases hl : (r.Data.length : Int) ≤ 70000
  · rw [dec_t hl, dec_t (by simp)]
    have hr := okRing_of h (by omega)
    rw [show (!(true && true)) = false from rfl, cond_false, ring_Take_eq hr, Option.bind_some, R09_Take_eq hr, Option.bind_some, ring_Check_eq hr, R09_Check_eq hr, ring_Count_eq hr, R09_Count_eq hr, ring_Free_eq hr, R09_Free_eq hr]
    simp only [Option.bind_some, BEq.rfl, cond_true]
    have h1 : okRing (takeS r).2 := by
      unfold takeS
      split
      · exact hr
      · exact ⟨hr.1, hr.2.2.1, hr.2.2.1, hr.2.2.2.2.1, hr.2.2.2.2.1, hr.2.2.2.2.2⟩
    have h2 : (takeS r).1.length ≤ 65536 := by
      unfold takeS
      split
      · simp
      · exact readS_len hr.1
    rw [SameBytes_self (by omega), Option.bind_some, cond_true, Same_self h1, Option.bind_some, cond_true, awake_true]; rfl
  · rw [dec_f hl, Bool.false_and, awake_true]; rfl
end Go.Ab
