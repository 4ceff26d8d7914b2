/- Ring buffers: Put, and what lies in the buffer behind it. -/
import Derived.Test.YtldkljbmhfiboaaC09c
namespace Go.Ab
open Go
set_option linter.unusedVariables false

theorem fr_def (b : List Int) : venc 9 (zenc (b.length : Int)) ++ b = fr b := rfl
def room (r : T_api_Ring) : Int := (r.Data.length : Int) - (r.End - r.Start)
def rputC (r : T_api_Ring) (b : List Int) : Int := if (readS r).2 ≠ 0 then (readS r).2 else if b.length > 2000 ∨ (fr b).length > r.Data.length then 7
  else if r.Policy = 2 ∧ ((fr b).length : Int) > room r then 6 else if r.End + (fr b).length > 1000000000000000 ∨ r.Next ≥ 1000000000000000 then 2 else 0
def rputK (r : T_api_Ring) (b : List Int) : Nat := lostN (fr b).length (room r) (readS r).1
def rputR (r : T_api_Ring) (b : List Int) : T_api_Ring := ⟨r.Policy, wrt r.Data (r.End.toNat % r.Data.length) (fr b), r.Start + (catF ((readS r).1.take (rputK r b))).length, r.End + (fr b).length, r.First + rputK r b, r.Next + 1⟩
def rputS (r : T_api_Ring) (b : List Int) : T_api_Ring × Int × Int := if rputC r b ≠ 0 then (r, 0, rputC r b) else (rputR r b, rputK r b, 0)
/-- What Put needs. -/
structure PutIn (r : T_api_Ring) (b : List Int) : Prop where
  g : Good r
  pol : ¬badPolicy r
  recs : ∀ x ∈ (readS r).1, okRec x
  cat : bytesIn r = catF (readS r).1
  cnt : ((readS r).1.length : Int) = r.Next - r.First
theorem putIn {r : T_api_Ring} {b : List Int} (h : okRing r) (hc : (readS r).2 = 0) : PutIn r b := by
  obtain ⟨h1, h2, h3, h4⟩ := readS_good hc
  obtain ⟨h5, h6⟩ := recsOf_true (bytesIn_ok h.1) h3
  exact ⟨h2, h1, h6, h5, h4⟩
theorem cat_used {r : T_api_Ring} {b : List Int} (p : PutIn r b) : ((catF (readS r).1).length : Int) = r.End - r.Start := by
  have := p.g.se
  rw [← p.cat, bytesIn_len]; unfold used; omega
theorem putK_le {r : T_api_Ring} {b : List Int} : rputK r b ≤ (readS r).1.length := lostN_le _ _ _
theorem ring_Put_eq {r : T_api_Ring} {b : List Int} (h : okRing r) (hb : b.length ≤ 70000) : ring_Put 200000 r b = some (rputS r b) := by
  have hfl := fr_len b
  unfold ring_Put
  rw [ring_read_eq h, Option.bind_some]
  by_cases hc : (readS r).2 ≠ 0
  · rw [bne_t hc, cond_true]; unfold rputS
    have e : rputC r b = (readS r).2 := by unfold rputC; rw [if_pos hc]
    rw [e, if_pos hc]
  have p : PutIn r b := putIn h (by omega)
  have := p.g.n1; have := p.g.n2; have := p.g.s0; have := p.g.se; have := p.g.e1; have := p.g.k1; have := p.g.f0; have := p.g.fn; have := p.g.nx
  have hcu := cat_used p
  have hrl := readS_len h.1
  rw [bne_f (by omega), cond_false, codec_Frame (by omega), Option.bind_some]
  simp -implicitDefEqProofs only [fr_def]
  have hv := venc_len 9 (zenc (b.length : Int))
  rw [need_t (by omega), Option.bind_some, w64 (x := r.End - r.Start) (by omega) (by omega), w64 (x := (r.Data.length : Int) - (r.End - r.Start)) (by omega) (by omega)]
  by_cases c1 : b.length > 2000 ∨ (fr b).length > r.Data.length
  · have e : rputC r b = 7 := by unfold rputC; rw [if_neg hc, if_pos c1]
    have : (decide (((b.length : Nat) : Int) > 2000) || decide ((((fr b).length : Nat) : Int) > ((r.Data.length : Nat) : Int))) = true := by
      simp only [Bool.or_eq_true, decide_eq_true_eq]; omega
    rw [this, cond_true]; unfold rputS; rw [e, if_pos (by decide)]
  have : (decide (((b.length : Nat) : Int) > 2000) || decide ((((fr b).length : Nat) : Int) > ((r.Data.length : Nat) : Int))) = false := by
    rw [dec_f (by omega), dec_f (by omega)]; rfl
  rw [this, cond_false]
  by_cases c2 : r.Policy = 2 ∧ ((fr b).length : Int) > room r
  · have e : rputC r b = 6 := by unfold rputC; rw [if_neg hc, if_neg c1, if_pos c2]
    unfold room at c2
    rw [beq_t c2.1, dec_t c2.2, Bool.true_and, cond_true]; unfold rputS; rw [e, if_pos (by decide)]
  have : ((r.Policy == (2 : Int)) && decide ((((fr b).length : Nat) : Int) > (r.Data.length : Int) - (r.End - r.Start))) = false := by
    unfold room at c2
    by_cases c : r.Policy = 2
    · rw [dec_f (fun hc => c2 ⟨c, hc⟩), Bool.and_false]
    · rw [beq_f c, Bool.false_and]
  rw [this, cond_false, w64 (x := r.End + (((fr b).length : Nat) : Int)) (by omega) (by omega)]
  by_cases c3 : r.End + (fr b).length > 1000000000000000 ∨ r.Next ≥ 1000000000000000
  · have e : rputC r b = 2 := by unfold rputC; rw [if_neg hc, if_neg c1, if_neg c2, if_pos c3]
    have : (decide (r.End + (((fr b).length : Nat) : Int) > 1000000000000000) || decide (r.Next ≥ 1000000000000000)) = true := by
      simpa using c3
    rw [this, cond_true]; unfold rputS; rw [e, if_pos (by decide)]
  have : (decide (r.End + (((fr b).length : Nat) : Int) > 1000000000000000) || decide (r.Next ≥ 1000000000000000)) = false := by
    rw [dec_f (by omega), dec_f (by omega)]; rfl
  rw [this, cond_false]
  have e : rputC r b = 0 := by unfold rputC; rw [if_neg hc, if_neg c1, if_neg c2, if_neg c3]
  have hK : rputK r b ≤ (readS r).1.length := putK_le
  have hcut := catF_cut (readS r).1 (rputK r b)
  have hl := ring_lost (b := b) (e := (readS r).2) (l := (readS r).1) p.recs (by omega) (readS r).1 200000 0 (room r) r.Start rfl (by omega) (by unfold room; omega) (by omega) (by omega) (by omega) (by unfold room; omega) (by unfold room; omega) (by omega)
  rw [Nat.zero_add] at hl
  rw [show ring_Put_L1 200000 b (readS r) (venc 9 (zenc (b.length : Int))) 200000 ((r.Data.length : Int) - (r.End - r.Start)) 0 r.Start = _ from hl, Option.bind_some]
  have hcl : slices_Clone_byte_byte r.Data = some r.Data := by
    unfold slices_Clone_byte_byte
    rw [need_t (by simp only [List.length_nil]; omega), Option.bind_some, List.nil_append]
  obtain ⟨E, hE⟩ := Int.eq_ofNat_of_zero_le (show 0 ≤ r.End by omega)
  have hm := Nat.mod_lt E (show 0 < r.Data.length by omega)
  have hw := wrt_cpy (D := r.Data) (G := fr b) hm (by omega)
  rw [hcl, Option.bind_some]
  have hir : irem r.End (r.Data.length : Int) = ((E % r.Data.length : Nat) : Int) := by rw [hE, irem_nat]
  simp only [hir, Int.toNat_natCast]
  rw [need_t (by omega), Option.bind_some, need_t (by omega), Option.bind_some, need_t (by omega), Option.bind_some, need_t (by omega), Option.bind_some, need_t (by omega), Option.bind_some, need_t (by rw [cpy_len (by omega) (by omega)]; omega), Option.bind_some, hw]
  rw [show lostN ((fr b).length : Int) (room r) (readS r).1 = rputK r b from rfl, w64 (by omega) (by omega), w64 (by omega) (by omega)]
  unfold rputS rputR
  rw [e, if_neg (by decide)]
  rw [show r.End.toNat = E by omega]
theorem R09_Put_eq {r : T_api_Ring} {b : List Int} (h : okRing r) (hb : b.length ≤ 70000) : R09_Put 200000 r b = some (rputS r b) := by
  have hfl := fr_len b
  unfold R09_Put
  rw [R09_Check_eq h, Option.bind_some]
  by_cases hc : (readS r).2 ≠ 0
  · rw [bne_t hc, cond_true]; unfold rputS
    have e : rputC r b = (readS r).2 := by unfold rputC; rw [if_pos hc]
    rw [e, if_pos hc]
  have p : PutIn r b := putIn h (by omega)
  have := p.g.n1; have := p.g.n2; have := p.g.s0; have := p.g.se; have := p.g.e1; have := p.g.k1; have := p.g.f0; have := p.g.fn; have := p.g.nx
  have hcu := cat_used p
  have hrl := readS_len h.1
  rw [bne_f (by omega), cond_false, R09_Frame_eq (by omega), Option.bind_some]
  by_cases c1 : b.length > 2000 ∨ (fr b).length > r.Data.length
  · have e : rputC r b = 7 := by unfold rputC; rw [if_neg hc, if_pos c1]
    have : (decide (((b.length : Nat) : Int) > 2000) || decide ((((fr b).length : Nat) : Int) > ((r.Data.length : Nat) : Int))) = true := by
      simp only [Bool.or_eq_true, decide_eq_true_eq]; omega
    rw [this, cond_true]; unfold rputS; rw [e, if_pos (by decide)]
  have : (decide (((b.length : Nat) : Int) > 2000) || decide ((((fr b).length : Nat) : Int) > ((r.Data.length : Nat) : Int))) = false := by
    rw [dec_f (by omega), dec_f (by omega)]; rfl
  rw [this, cond_false]
  have hfree : freeS r = room r := by unfold freeS room; rw [if_neg hc]
  by_cases c2 : r.Policy = 2 ∧ ((fr b).length : Int) > room r
  · have e : rputC r b = 6 := by unfold rputC; rw [if_neg hc, if_neg c1, if_pos c2]
    rw [beq_t c2.1, cond_true, R09_Free_eq h, hfree, Option.bind_some, Option.bind_some, dec_t c2.2, cond_true]; unfold rputS; rw [e, if_pos (by decide)]
  have : (bif (r.Policy == (2 : Int)) then ((R09_Free 200000 r).bind fun r_4 => some (decide ((((fr b).length : Nat) : Int) > r_4))) else (some false)) = some false := by
    by_cases c : r.Policy = 2
    · rw [beq_t c, cond_true, R09_Free_eq h, hfree, Option.bind_some, dec_f (fun hc => c2 ⟨c, hc⟩)]
    · rw [beq_f c, cond_false]
  rw [this, Option.bind_some, cond_false, w64 (x := r.End + (((fr b).length : Nat) : Int)) (by omega) (by omega), w64 (x := r.Next + 1) (by omega) (by omega)]
  by_cases c3 : r.End + (fr b).length > 1000000000000000 ∨ r.Next ≥ 1000000000000000
  · have e : rputC r b = 2 := by unfold rputC; rw [if_neg hc, if_neg c1, if_neg c2, if_pos c3]
    have : (decide (r.End + (((fr b).length : Nat) : Int) > 1000000000000000) || decide (r.Next + 1 > 1000000000000000)) = true := by
      simp only [Bool.or_eq_true, decide_eq_true_eq]; omega
    rw [this, cond_true]; unfold rputS; rw [e, if_pos (by decide)]
  have : (decide (r.End + (((fr b).length : Nat) : Int) > 1000000000000000) || decide (r.Next + 1 > 1000000000000000)) = false := by
    rw [dec_f (by omega), dec_f (by omega)]; rfl
  rw [this, cond_false]
  have e : rputC r b = 0 := by unfold rputC; rw [if_neg hc, if_neg c1, if_neg c2, if_neg c3]
  have hK : rputK r b ≤ (readS r).1.length := putK_le
  have hcut := catF_cut (readS r).1 (rputK r b)
  obtain ⟨_, _, hq, _⟩ := readS_good (r := r) (by omega)
  have hu := used_le p.g
  rw [R09_Contents_eq p.g, Option.bind_some, R09_Records_eq (bytesIn_ok h.1) (by rw [bytesIn_len]; omega), hq, Option.bind_some, w64 (x := r.End - r.Start) (by omega) (by omega), w64 (x := (r.Data.length : Int) - (r.End - r.Start)) (by omega) (by omega)]
  have hl := R09_lost (b := b) (l := (readS r).1) p.recs (by omega) (readS r).1 200000 0 (room r) r.Start rfl (by omega) (by unfold room; omega) (by omega) (by omega) (by omega) (by unfold room; omega) (by unfold room; omega) (by omega)
  rw [Nat.zero_add] at hl
  rw [show R09_Put_L1 200000 (fr b) ((readS r).1, true) 200000 0 ((r.Data.length : Int) - (r.End - r.Start)) r.Start = _ from hl, Option.bind_some]
  obtain ⟨E, hE⟩ := Int.eq_ofNat_of_zero_le (show 0 ≤ r.End by omega)
  have hw := R09_written_eq (D := r.Data) (G := fr b) (E := E) (by omega) (by omega) (by omega) (by omega)
  rw [hE, hw, Option.bind_some]
  simp only
  rw [show lostN ((fr b).length : Int) (room r) (readS r).1 = rputK r b from rfl, ← hE, w64 (by omega) (by omega)]
  unfold rputS rputR
  rw [e, if_neg (by decide)]
  rw [show r.End.toNat = E by omega]
theorem rputR_ok {r : T_api_Ring} {b : List Int} (h : okRing r) (hb : b.length ≤ 70000) (hb1 : ∀ x ∈ b, okU8 x) (hc : rputC r b = 0) : okRing (rputR r b) := by
  have h0 : (readS r).2 = 0 := by
    unfold rputC at hc; by_cases c : (readS r).2 ≠ 0
    · rw [if_pos c] at hc; exact hc
    · omega
  have p : PutIn r b := putIn h h0
  have := p.g.n1; have := p.g.n2; have := p.g.s0; have := p.g.se; have := p.g.e1; have := p.g.k1; have := p.g.f0; have := p.g.fn; have := p.g.nx
  have hcu := cat_used p
  have hrl := readS_len h.1
  have hK : rputK r b ≤ (readS r).1.length := putK_le
  have hcut := catF_cut (readS r).1 (rputK r b)
  have hfl := fr_len b
  refine ⟨wrt_ok h.1 (fr_ok (by omega) hb1), ?_, ?_, ?_, ?_, ?_⟩
  · unfold okI64 rputR; simp only; omega
  · unfold okI64 rputR; simp only; omega
  · unfold okI64 rputR; simp only; omega
  · unfold okI64 rputR; simp only; omega
  · unfold rputR; simp only; rw [wrt_len]; omega
theorem rputS_ok {r : T_api_Ring} {b : List Int} (h : okRing r) (hb : b.length ≤ 70000) (hb1 : ∀ x ∈ b, okU8 x) : okRing (rputS r b).1 := by
  unfold rputS
  by_cases hc : rputC r b ≠ 0
  · rw [if_pos hc]; exact h
  · rw [if_neg hc]; exact rputR_ok h hb hb1 (by omega)
theorem L09_RingPuts_plain : ∀ (a0 : T_api_Ring) (a1 : List Int), ok_T_api_Ring a0 → (okSl okU8) a1 → ∃ F, L09_RingPuts F a0 a1 = some true := by
  intro r b h h1
  refine ⟨200000, ?_⟩
  unfold L09_RingPuts L09_small
  rw [Option.bind_some]
  by_cases hl : (r.Data.length : Int) ≤ 70000 ∧ (b.length : Int) ≤ 70000
  · rw [dec_t hl.1, dec_t hl.2]
    have hr := okRing_of h (by omega)
    rw [show (!(true && true)) = false from rfl, cond_false, ring_Put_eq hr (by omega), Option.bind_some, R09_Put_eq hr (by omega), Option.bind_some, BEq.rfl, BEq.rfl, cond_true, cond_true, Same_self (rputS_ok hr (by omega) h1.1), Option.bind_some, cond_true, awake_true]; rfl
  · have : (decide ((r.Data.length : Int) ≤ 70000) && decide ((b.length : Int) ≤ 70000)) = false := by simpa using hl
    rw [this, awake_true]; rfl
end Go.Ab
