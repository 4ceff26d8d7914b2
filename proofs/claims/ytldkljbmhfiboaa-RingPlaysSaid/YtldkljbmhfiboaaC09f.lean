/- Ring buffers: a play of many steps. -/
import Derived.Test.YtldkljbmhfiboaaC09e
namespace Go.Ab
open Go
set_option linter.unusedVariables false

theorem size_eq {x : List Int} (hx : x.length ≤ 2000) : L09_size 200000 x = some ((fr x).length : Int) := by
  unfold L09_size
  have hf := fr_len x
  have e : (fr x).length = (venc 9 (zenc (x.length : Int))).length + x.length := by unfold fr; rw [List.length_append]
  rw [codec_Frame (by omega), Option.bind_some, w64 (by omega) (by omega), e]
  rfl
theorem take_readS {r : T_api_Ring} (hc : (readS r).2 = 0) : readS ⟨r.Policy, r.Data, r.End, r.End, r.Next, r.Next⟩ = ([], 0) := by
  obtain ⟨hp, g, h3, h4⟩ := readS_good hc
  have := g.n1; have := g.n2; have := g.s0; have := g.se; have := g.e1; have := g.k1; have := g.f0; have := g.fn; have := g.nx
  refine readS_of hp ?_ ?_ ?_
  · constructor <;> simp only <;> omega
  · have : bytesIn ⟨r.Policy, r.Data, r.End, r.End, r.Next, r.Next⟩ = catF [] := by
      unfold bytesIn used
      simp only
      rw [show (r.End - r.End).toNat = 0 by omega]; rfl
    rw [this]; exact recsOf_cat (by simp)
  · simp
theorem play_lost {bytes n f : Int} (hn : w_i64 (16 + w_i64 bytes) = n) (hn0 : 0 ≤ n) (hn1 : n ≤ 300) (hf0 : 0 ≤ f) (hf : f ≤ 200) : ∀ (rest : List (List Int)) (m : Nat) (u fi lo : Int), (∀ x ∈ rest, okRec x) → rest.length < m → 0 ≤ fi → fi + rest.length ≤ 1000000 → ((catF rest).length : Int) ≤ u → u ≤ n → -1000000 ≤ lo - rest.length → lo ≤ 1000000 →
    L09_RingPlays_L2 200000 bytes f m u fi lo rest = some (u - (catF (rest.take (lostN f (n - u) rest))).length, fi + lostN f (n - u) rest, lo - lostN f (n - u) rest, rest.drop (lostN f (n - u) rest)) := by
  intro rest
  induction rest with
  | nil =>
    intro m u fi lo _ hm _ _ _ _ _ _
    obtain ⟨m, rfl⟩ : ∃ k, m = k + 1 := ⟨m - 1, by simp at hm; omega⟩
    show L09_RingPlays_L2_body 200000 bytes f _ u fi lo [] = _
    unfold L09_RingPlays_L2_body
    rw [dec_f (by simp), Bool.false_and, cond_false]
    simp [lostN, catF]
  | cons x l ih =>
    intro m u fi lo hr hm h1 h2 h3 h4 h5 h6
    obtain ⟨m, rfl⟩ : ∃ k, m = k + 1 := ⟨m - 1, by simp at hm; omega⟩
    have hx := hr x (List.mem_cons_self ..)
    have hfx := fr_len x
    simp only [catF, List.length_append, List.length_cons] at h2 h3 h5 hm
    show L09_RingPlays_L2_body 200000 bytes f _ u fi lo (x :: l) = _
    unfold L09_RingPlays_L2_body
    rw [dec_t (by simp only [List.length_cons]; omega), Bool.true_and, w64 (x := u + f) (by omega) (by omega), hn]
    by_cases c : n - u < f
    · rw [dec_t (by omega), cond_true, show idxL (x :: l) 0 = some x from rfl, Option.bind_some, size_eq hx.1, Option.bind_some, need_t (by simp), Option.bind_some, w64 (by omega) (by omega), w64 (by omega) (by omega), w64 (by omega) (by omega), List.drop_one, List.tail_cons,
        ih m _ _ _ (fun y hy => hr y (List.mem_cons_of_mem _ hy)) (by omega) (by omega) (by omega) (by omega) (by omega) (by omega) (by omega)]
      have e : lostN f (n - u) (x :: l) = lostN f (n - (u - (fr x).length)) l + 1 := by
        show (if n - u < f then lostN f (n - u + (fr x).length) l + 1 else 0) = _
        rw [if_pos c, show n - u + ((fr x).length : Int) = n - (u - (fr x).length) by omega]
      rw [e]
      simp only [List.take_succ_cons, List.drop_succ_cons, catF, List.length_append]
      refine congrArg some (Prod.ext ?_ (Prod.ext ?_ (Prod.ext ?_ rfl))) <;> simp only <;> omega
    · have e : lostN f (n - u) (x :: l) = 0 := lostN_zero (by omega)
      rw [dec_f (by omega), cond_false, e]
      simp [catF]

/-- How a play stands before the step i. -/
structure RP (n : Int) (st : Bool) (i : Nat) (u f : Int) (r : T_api_Ring) (row : List (List Int)) : Prop where
  ok : okRing r
  rd : readS r = (row, 0)
  len : (r.Data.length : Int) = n
  us : u = r.End - r.Start
  fi : f = r.First
  en : r.End ≤ 200 * i
  nx : r.Next ≤ i
  pol : r.Policy = bif st then 2 else 1
/-- How a play ends. -/
def PEnd (n : Int) (st : Bool) (o : Option ((Int × (List Int) × Int × Int × Int × Int × (List (List (Int)))) ⊕ Bool)) : Prop :=
  o = some (.inr true) ∨ ∃ r row, okRing r ∧ readS r = (row, 0) ∧ o = some (.inl (r.Policy, r.Data, r.Start, r.End, r.First, r.Next, row))
theorem play_fits {n : Int} {st : Bool} {i : Nat} {u f : Int} {r : T_api_Ring} {row : List (List Int)} {x : List Int} (p : RP n st i u f r row) (hi : i ≤ 100) (hx : x.length ≤ 100) :
    (decide (((fr x).length : Int) ≤ n) && (!st || decide (u + (fr x).length ≤ n))) = (rputC r x == 0) := by
  have := p.len; have := p.us; have := p.en; have := p.nx; have := p.pol
  have hfl := fr_len x
  have hz : (readS r).2 = 0 := by rw [p.rd]
  unfold rputC room
  rw [if_neg (by omega)]
  by_cases c1 : x.length > 2000 ∨ (fr x).length > r.Data.length
  · rw [if_pos c1, dec_f (by omega)]; rfl
  rw [if_neg c1, dec_t (by omega), Bool.true_and]
  cases st
  · simp only [cond_false] at this
    rw [if_neg (by omega), if_neg (by omega)]; rfl
  · simp only [cond_true] at this
    by_cases c2 : u + (fr x).length ≤ n
    · rw [dec_t c2, if_neg (by omega), if_neg (by omega)]; rfl
    · rw [dec_f c2, if_pos (by omega)]; rfl
theorem play_loop {bytes n : Int} {st : Bool} {l : List (List Int)} (hn : w_i64 (16 + w_i64 bytes) = n) (hn0 : 0 ≤ n) (hn1 : n ≤ 300) (hl : l.length ≤ 40) (ho : ∀ x ∈ l, ∀ y ∈ x, okU8 y) :
    ∀ (m i : Nat) (u f : Int) (r : T_api_Ring) (row : List (List Int)), RP n st i u f r row → i ≤ l.length → l.length - i < m →
      PEnd n st (L09_RingPlays_L1 200000 bytes st l m u f i r.Policy r.Data r.Start r.End r.First r.Next row) := by
  intro m
  induction m with
  | zero => intro i _ _ _ _ _ _ h; omega
  | succ m ih =>
    intro i u f r row p hi hm
    show PEnd n st (L09_RingPlays_L1_body 200000 bytes st l _ u f i r.Policy r.Data r.Start r.End r.First r.Next row)
    unfold L09_RingPlays_L1_body
    rcases Nat.lt_or_ge i l.length with h | h
    case inr =>
      rw [dec_f (by omega), cond_false]
      exact .inr ⟨r, row, p.ok, p.rd, rfl⟩
    have hz : (readS r).2 = 0 := by rw [p.rd]
    have hrw : (readS r).1 = row := by rw [p.rd]
    obtain ⟨hp, g, hg3, hg4⟩ := readS_good hz
    rw [hrw] at hg4
    have := g.n1; have := g.n2; have := g.s0; have := g.se; have := g.e1; have := g.k1; have := g.f0; have := g.fn; have := g.nx
    have := p.len; have := p.us; have := p.fi; have := p.en; have := p.nx
    have hrl : row.length ≤ 65536 := by rw [← hrw]; exact readS_len p.ok.1
    rw [dec_t (by omega), cond_true, idxL_nat, List.getElem?_eq_getElem h, Option.bind_some]
    generalize hxe : l[i] = x
    have hx1 : ∀ y ∈ x, okU8 y := ho x (hxe ▸ List.getElem_mem h)
    by_cases c1 : (x.length : Int) > 100
    · rw [dec_t c1, cond_true, awake_true]; exact .inl rfl
    rw [dec_f c1, cond_false]
    have hxl : x.length ≤ 100 := by omega
    have hfl := fr_len x
    rw [show (⟨r.Policy, r.Data, r.Start, r.End, r.First, r.Next⟩ : T_api_Ring) = r from rfl]
    by_cases c2 : (x.length : Int) = 0
    · rw [beq_t c2, cond_true, ring_Take_eq p.ok, Option.bind_some]
      have e : takeS r = (row, ⟨r.Policy, r.Data, r.End, r.End, r.Next, r.Next⟩) := by unfold takeS; rw [if_neg (by omega), hrw]
      rw [e]
      simp only
      rw [SameBytes_self (by omega), Option.bind_some, Bool.not_true, cond_false, Option.bind_some]
      simp only
      rw [step64 (by omega), w64 (by omega) (by omega)]
      refine ih (i + 1) 0 (f + row.length) ⟨r.Policy, r.Data, r.End, r.End, r.Next, r.Next⟩ [] ?_ (by omega) (by omega)
      exact ⟨⟨p.ok.1, p.ok.2.2.1, p.ok.2.2.1, p.ok.2.2.2.2.1, p.ok.2.2.2.2.1, p.ok.2.2.2.2.2⟩, take_readS hz, p.len, by simp, by simp only; omega, by simp only; omega, by simp only; omega, p.pol⟩
    rw [beq_f c2, cond_false, ring_Put_eq p.ok (by omega), Option.bind_some, size_eq (by omega), Option.bind_some, hn, w64 (x := u + ((fr x).length : Int)) (by omega) (by omega)]
    have hfit := play_fits p (show i ≤ 100 by omega) hxl
    by_cases c : rputC r x = 0
    case neg =>
      have e : rputS r x = (r, 0, rputC r x) := by unfold rputS; rw [if_pos c]
      rw [beq_f c] at hfit
      rw [hfit, e]
      simp only
      rw [beq_f c, BEq.rfl, Bool.not_true, cond_false, Bool.not_false, cond_true, Option.bind_some]
      simp only
      rw [step64 (by omega)]
      exact ih (i + 1) u f r row ⟨p.ok, p.rd, p.len, p.us, p.fi, by omega, by omega, p.pol⟩ (by omega) (by omega)
    rw [beq_t c] at hfit
    have e : rputS r x = (rputR r x, (rputK r x : Int), 0) := by unfold rputS; rw [if_neg (by omega)]
    have q : PutIn r x := putIn p.ok hz
    have hcu := cat_used q
    have hK : rputK r x ≤ (readS r).1.length := putK_le
    obtain ⟨rd, rm⟩ := rputR_read p.ok hx1 c
    have okR := rputR_ok p.ok (by omega) hx1 c
    have hKd : rputK r x = lostN (fr x).length (n - u) row := by unfold rputK room; rw [hrw, show (r.Data.length : Int) - (r.End - r.Start) = n - u by omega]
    rw [hrw] at hcu hK rd rm
    have hcut := catF_cut row (rputK r x)
    rw [hfit, e]
    simp only
    rw [beq_t rfl, BEq.rfl, Bool.not_true, cond_false, cond_false,
      play_lost hn hn0 hn1 (by omega) (by omega) row 200000 u f _ (by rw [← hrw]; exact q.recs) (by omega) (by omega) (by omega) (by omega) (by omega) (by omega) (by omega), ← hKd, Option.bind_some]
    simp only
    have rg := readS_good (r := rputR r x) (by rw [rd])
    have gN := rg.2.2.2
    rw [rd] at gN
    simp only at gN
    have hcl : (row.drop (rputK r x) ++ [x]).length = row.length - rputK r x + 1 := by simp
    have c9 : countS (rputR r x) = ((row.drop (rputK r x) ++ [x]).length : Int) := by unfold countS; rw [rd, if_neg (by simp)]; exact gN.symm
    have c10 : freeS (rputR r x) = n - (u - ((catF (row.take (rputK r x))).length : Int) + ((fr x).length : Int)) := by
      unfold freeS; rw [rd, if_neg (by simp)]
      show ((wrt r.Data (r.End.toNat % r.Data.length) (fr x)).length : Int) - (r.End + (fr x).length - (r.Start + (catF ((readS r).1.take (rputK r x))).length)) = _
      rw [wrt_len, hrw]; omega
    have cF : (rputR r x).First = f + (rputK r x : Int) := by show r.First + (rputK r x : Int) = _; omega
    have hroom : room (rputR r x) = room r + ((catF (row.take (rputK r x))).length : Int) - ((fr x).length : Int) := rm
    rw [need_t (by simp only [List.length_drop, List.length_singleton]; omega), Option.bind_some, bne_f (show (rputK r x : Int) - (rputK r x : Int) = 0 by omega), cond_false, bne_f cF, cond_false, ring_Count_eq okR, Option.bind_some, bne_f c9, cond_false, ring_Free_eq okR, Option.bind_some,
      w64 (x := u - ((catF (row.take (rputK r x))).length : Int) + ((fr x).length : Int)) (by omega) (by omega), w64 (x := n - (u - ((catF (row.take (rputK r x))).length : Int) + ((fr x).length : Int))) (by omega) (by omega), bne_f c10, Option.bind_some, cond_false, Option.bind_some]
    simp only
    rw [step64 (by omega)]
    refine ih (i + 1) _ _ (rputR r x) _ ?_ (by omega) (by omega)
    refine ⟨okR, rd, ?_, ?_, cF.symm, ?_, ?_, p.pol⟩
    · show ((wrt r.Data (r.End.toNat % r.Data.length) (fr x)).length : Int) = n
      rw [wrt_len]; exact p.len
    · show _ = r.End + ((fr x).length : Int) - (r.Start + ((catF ((readS r).1.take (rputK r x))).length : Int))
      rw [hrw]; omega
    · show r.End + ((fr x).length : Int) ≤ _
      omega
    · show r.Next + 1 ≤ _
      omega

theorem L09_RingPlays_plain : ∀ (a0 : Int) (a1 : Bool) (a2 : List (List Int)), okU8 a0 → okBool a1 → (okSl (okSl okU8)) a2 → ∃ F, L09_RingPlays F a0 a1 a2 = some true := by
  intro bytes st l h0 h1 h2
  refine ⟨200000, ?_⟩
  unfold okU8 at h0
  unfold L09_RingPlays
  by_cases hl : (l.length : Int) > 40
  · rw [dec_t hl, cond_true, awake_true]; rfl
  rw [dec_f hl, cond_false]
  obtain ⟨k, rfl⟩ := Int.eq_ofNat_of_zero_le h0.1
  have hn : w_i64 (16 + w_i64 (k : Int)) = ((16 + k : Nat) : Int) := by
    rw [w64 (x := (k : Int)) (by omega) (by omega), w64 (by omega) (by omega)]; omega
  generalize hP : (bif st then some 2 else some 1 : Option Int) = po
  obtain ⟨P, rfl, hPd⟩ : ∃ P : Int, po = some P ∧ P = bif st then 2 else 1 := by
    subst hP; cases st <;> exact ⟨_, rfl, rfl⟩
  rw [Option.bind_some, hn]
  have hp12 : P = 1 ∨ P = 2 := by subst hPd; cases st <;> simp
  have hnew : ring_New ((16 + k : Nat) : Int) P = some (⟨P, List.replicate (16 + k) 0, 0, 0, 0, 0⟩, 0) := by
    unfold ring_New
    rw [dec_f (by omega), dec_f (by omega), Bool.or_false, cond_false]
    have : ((P != 1) && (P != 2)) = false := by rcases hp12 with rfl | rfl <;> rfl
    rw [this, cond_false, need_t (by omega), Option.bind_some, Int.toNat_natCast]
  rw [hnew, Option.bind_some]
  simp only
  rw [bne_f rfl, cond_false]
  have hr : okRing ⟨P, List.replicate (16 + k) 0, 0, 0, 0, 0⟩ := ⟨fun x hx => by rw [(List.mem_replicate.1 hx).2]; unfold okU8; omega, by unfold okI64; simp, by unfold okI64; simp, by unfold okI64; simp, by unfold okI64; simp, by simp; omega⟩
  have hz : readS ⟨P, List.replicate (16 + k) 0, 0, 0, 0, 0⟩ = ([], 0) := by
    unfold readS
    rw [if_neg (by unfold badPolicy; simp only; omega), if_neg (by unfold badRange; simp; omega)]
    rfl
  have key := play_loop hn (by omega) (by omega) (by omega) (fun x hx => (h2.1 x hx).1) 200000 0 0 0 ⟨P, List.replicate (16 + k) 0, 0, 0, 0, 0⟩ [] ⟨hr, hz, by simp, by simp, by simp, by simp, by simp, hPd⟩ (by omega) (by omega)
  rcases key with key | ⟨r, row, h3, h4, key⟩
  · rw [show L09_RingPlays_L1 200000 (k : Int) st l 200000 0 0 0 P (List.replicate (16 + k) 0) 0 0 0 0 [] = _ from key]; rfl
  · rw [show L09_RingPlays_L1 200000 (k : Int) st l 200000 0 0 0 P (List.replicate (16 + k) 0) 0 0 0 0 [] = _ from key, Option.bind_some]
    simp only
    have e : (takeS r).1 = row := by unfold takeS; rw [h4, if_neg (by simp)]
    have hrl : row.length ≤ 65536 := by have := readS_len h3.1; rw [h4] at this; exact this
    rw [show (⟨r.Policy, r.Data, r.Start, r.End, r.First, r.Next⟩ : T_api_Ring) = r from rfl, ring_Take_eq h3, Option.bind_some, e, SameBytes_self (by omega), Option.bind_some, cond_true, awake_true]; rfl
end Go.Ab
