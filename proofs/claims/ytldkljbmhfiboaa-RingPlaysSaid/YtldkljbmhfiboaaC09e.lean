/- Ring buffers: what is kept, and other positions. -/
import Derived.Test.YtldkljbmhfiboaaC09d
namespace Go.Ab
open Go
set_option linter.unusedVariables false

theorem ctn_wrt_new {D G : List Int} {E : Nat} (hD : 0 < D.length) (hG : G.length ≤ D.length) : ctn (wrt D (E % D.length) G) E G.length = G := by
  apply List.ext_getElem?
  intro j
  by_cases hj : j < G.length
  · have ha := Nat.mod_lt E hD
    have hm := Nat.mod_lt (E + j) hD
    rw [ctn_get hj, wrt_len, List.getD_eq_getElem?_getD, wrt_get hm, getD_get hj]
    have e : off D.length (E % D.length) ((E + j) % D.length) = j := by
      rw [mod_wrap hD (by omega)]; unfold off
      split <;> split <;> omega
    rw [e, if_pos hj]; rfl
  · rw [List.getElem?_eq_none (by rw [ctn_len]; omega), List.getElem?_eq_none (by omega)]
theorem ctn_wrt_old {D G : List Int} {S u : Nat} (hD : 0 < D.length) (hG : u + G.length ≤ D.length) (hG1 : 1 ≤ G.length) : ctn (wrt D ((S + u) % D.length) G) S u = ctn D S u := by
  apply List.ext_getElem?
  intro j
  by_cases hj : j < u
  · have hs := Nat.mod_lt (S + j) hD
    rw [ctn_get hj, ctn_get hj, wrt_len, List.getD_eq_getElem?_getD, wrt_get hs]
    have e : ¬off D.length ((S + u) % D.length) ((S + j) % D.length) < G.length := by
      rw [show S + u = (S + j) + (u - j) by omega, mod_wrap (S := S + j) (j := u - j) hD (by omega)]; unfold off
      split <;> split <;> omega
    rw [if_neg e]; rfl
  · rw [List.getElem?_eq_none (by rw [ctn_len]; omega), List.getElem?_eq_none (by rw [ctn_len]; omega)]
theorem lostN_zero {f : Int} {l : List (List Int)} {room : Int} (h : f ≤ room) : lostN f room l = 0 := by
  cases l with
  | nil => rfl
  | cons x l => unfold lostN; rw [if_neg (by omega)]
theorem lostN_last {f : Int} : ∀ (l : List (List Int)) (room : Int) (k : Nat), lostN f room l = k + 1 → room + (catF (l.take k)).length < f := by
  intro l
  induction l with
  | nil => intro room k h; simp [lostN] at h
  | cons x l ih =>
    intro room k h
    unfold lostN at h
    split at h
    · cases k with
      | zero => simp [catF]; omega
      | succ k =>
        have := ih (room + (fr x).length) k (by omega)
        simp only [List.take_succ_cons, catF, List.length_append]; omega
    · omega
theorem catF_one (x : List Int) : catF [x] = fr x := by simp [catF]
theorem rput_good {r : T_api_Ring} {b : List Int} (h : okRing r) (hc : rputC r b = 0) : (readS r).2 = 0 ∧ b.length ≤ 2000 ∧ (fr b).length ≤ r.Data.length ∧ (r.Policy = 2 → ((fr b).length : Int) ≤ room r) ∧ r.End + (fr b).length ≤ 1000000000000000 ∧ r.Next < 1000000000000000 := by
  unfold rputC at hc
  by_cases c : (readS r).2 ≠ 0
  · rw [if_pos c] at hc; omega
  rw [if_neg c] at hc
  by_cases c1 : b.length > 2000 ∨ (fr b).length > r.Data.length
  · rw [if_pos c1] at hc; omega
  rw [if_neg c1] at hc
  by_cases c2 : r.Policy = 2 ∧ ((fr b).length : Int) > room r
  · rw [if_pos c2] at hc; omega
  rw [if_neg c2] at hc
  by_cases c3 : r.End + (fr b).length > 1000000000000000 ∨ r.Next ≥ 1000000000000000
  · rw [if_pos c3] at hc; omega
  exact ⟨by omega, by omega, by omega, fun hp => by omega, by omega, by omega⟩
theorem readS_of {r : T_api_Ring} {l : List (List Int)} (hp : ¬badPolicy r) (g : Good r) (he : recsOf (bytesIn r) = (l, true)) (hl : (l.length : Int) = r.Next - r.First) : readS r = (l, 0) := by
  unfold readS
  rw [if_neg hp, if_neg (good_not g), he]
  simp only
  rw [if_neg (by simp; omega)]
theorem rputR_read {r : T_api_Ring} {b : List Int} (h : okRing r) (hb1 : ∀ x ∈ b, okU8 x) (hc : rputC r b = 0) :
    readS (rputR r b) = ((readS r).1.drop (rputK r b) ++ [b], 0) ∧ room (rputR r b) = room r + (catF ((readS r).1.take (rputK r b))).length - (fr b).length := by
  obtain ⟨h0, h1, h2, h3, h4, h5⟩ := rput_good h hc
  have p : PutIn r b := putIn h h0
  have := p.g.n1; have := p.g.n2; have := p.g.s0; have := p.g.se; have := p.g.e1; have := p.g.k1; have := p.g.f0; have := p.g.fn; have := p.g.nx
  have hcu := cat_used p
  have hK : rputK r b ≤ (readS r).1.length := putK_le
  have hcut := catF_cut (readS r).1 (rputK r b)
  have hfl := fr_len b
  have hroom : ((fr b).length : Int) ≤ room r + (catF ((readS r).1.take (rputK r b))).length := lostN_room _ _ _ (by unfold room; omega)
  have hroomD : room r = (r.Data.length : Int) - (r.End - r.Start) := rfl
  have hcat := p.cat
  have hcnt := p.cnt
  refine ⟨readS_of p.pol ?_ ?_ ?_, ?_⟩
  · constructor <;> unfold rputR <;> simp only [wrt_len] <;> omega
  · have : bytesIn (rputR r b) = catF ((readS r).1.drop (rputK r b) ++ [b]) := by
      unfold bytesIn used rputR
      simp only
      generalize hB : (catF ((readS r).1.take (rputK r b))).length = B at *
      generalize hU : (catF ((readS r).1.drop (rputK r b))).length = U at *
      rw [show (r.End + ((fr b).length : Int) - (r.Start + (B : Int))).toNat = U + (fr b).length by omega, ctn_add]
      have e1 : (r.Start + (B : Int)).toNat + U = r.End.toNat := by omega
      rw [e1, ctn_wrt_new (by omega) h2, ← e1, ctn_wrt_old (by omega) (by omega) (by omega), catF_app, catF_one]
      congr 1
      unfold bytesIn used at hcat
      rw [show (r.End - r.Start).toNat = B + U by omega, ctn_add, ← List.take_append_drop (rputK r b) (readS r).1, catF_app] at hcat
      have := List.append_inj_right hcat (by rw [ctn_len]; exact hB.symm)
      rw [show (r.Start + (B : Int)).toNat = r.Start.toNat + B by omega]; exact this
    rw [this]
    refine recsOf_cat ?_
    intro x hx
    rcases List.mem_append.1 hx with hx | hx
    · exact p.recs x (List.mem_of_mem_drop hx)
    · rw [List.mem_singleton.1 hx]; exact ⟨h1, hb1⟩
  · unfold rputR; simp only [List.length_append, List.length_drop, List.length_singleton]; omega
  · unfold room rputR; simp only [wrt_len]; omega

theorem L09_RingKeeps_plain : ∀ (a0 : T_api_Ring) (a1 : List Int), ok_T_api_Ring a0 → (okSl okU8) a1 → ∃ F, L09_RingKeeps F a0 a1 = some true := by
  intro r b h h1
  refine ⟨200000, ?_⟩
  unfold L09_RingKeeps L09_small
  rw [Option.bind_some]
  by_cases hl : (r.Data.length : Int) ≤ 70000 ∧ (b.length : Int) ≤ 70000
  case neg =>
    have : (decide ((r.Data.length : Int) ≤ 70000) && decide ((b.length : Int) ≤ 70000)) = false := by simpa using hl
    rw [this, awake_true]; rfl
  rw [dec_t hl.1, dec_t hl.2]
  have hr := okRing_of h (by omega)
  rw [show (!(true && true)) = false from rfl, cond_false, ring_Check_eq hr, Option.bind_some, Option.bind_some]
  by_cases hc : (readS r).2 ≠ 0
  · rw [bne_t hc, cond_true, awake_true]; rfl
  rw [bne_f (by omega), cond_false, ring_Take_eq hr, Option.bind_some, ring_Put_eq hr (by omega), Option.bind_some, ring_Take_eq (rputS_ok hr (by omega) h1.1), Option.bind_some]
  have t1 : (takeS r).1 = (readS r).1 := by unfold takeS; rw [if_neg hc]
  have hrl := readS_len hr.1
  by_cases c : rputC r b ≠ 0
  · have e : rputS r b = (r, 0, rputC r b) := by unfold rputS; rw [if_pos c]
    rw [e]; simp only
    rw [bne_t c, cond_true, beq_t rfl, cond_true, SameBytes_self (by rw [t1]; omega), Option.bind_some, cond_true, beq_t rfl, cond_true, beq_t rfl, cond_true, awake_true]; rfl
  have c : rputC r b = 0 := by omega
  obtain ⟨h0, h1', h2, h3, h4, h5⟩ := rput_good hr c
  have e : rputS r b = (rputR r b, (rputK r b : Int), 0) := by unfold rputS; rw [if_neg (by omega)]
  obtain ⟨rd, rm⟩ := rputR_read hr h1.1 c
  have okR := rputR_ok hr (by omega) h1.1 c
  have t2 : (takeS (rputR r b)).1 = (readS r).1.drop (rputK r b) ++ [b] := by unfold takeS; rw [rd, if_neg (by simp)]
  have p : PutIn r b := putIn hr h0
  have := p.g.f0; have := p.g.fn; have := p.g.nx
  have hcnt := p.cnt
  have hK : rputK r b ≤ (readS r).1.length := putK_le
  have e3 : ((ring_Check 200000 (rputR r b)).bind fun r_10 => bif (r_10 != (0 : Int)) then some true else (bif ((rputR r b).First != (w_i64 (r.First + (rputK r b : Int)))) then some true else some ((rputR r b).Next != (w_i64 (r.Next + (1 : Int)))))) = some false := by
    rw [ring_Check_eq okR, Option.bind_some, rd, bne_f rfl, cond_false, w64 (by omega) (by omega), bne_f (show (rputR r b).First = r.First + (rputK r b : Int) from rfl), cond_false, w64 (by omega) (by omega), bne_f (show (rputR r b).Next = r.Next + 1 from rfl)]
  have hpol : 0 < rputK r b → r.Policy ≠ 2 := by
    intro hk hp
    have := lostN_zero (l := (readS r).1) (h3 hp)
    unfold rputK at hk; omega
  rw [e]; simp only
  rw [t1, t2, bne_f rfl, cond_false, e3, dec_f (p := (rputK r b : Int) < 0) (by omega), cond_false, dec_f (p := (rputK r b : Int) > ((readS r).1.length : Int)) (by omega), cond_false]
  have e4 : (bif decide ((rputK r b : Int) > (0 : Int)) then ((ring_Free 200000 (rputR r b)).bind fun r_11 => (idxL (readS r).1 (w_i64 ((rputK r b : Int) - (1 : Int)))).bind fun x_1 => (L09_size 200000 x_1).bind fun r_12 => some (decide (r_11 ≥ r_12))) else some false) = some false := by
    by_cases hk : 0 < rputK r b
    · rw [dec_t (by omega), cond_true, ring_Free_eq okR, Option.bind_some, w64 (by omega) (by omega)]
      have hfree : freeS (rputR r b) = room (rputR r b) := by unfold freeS room; rw [rd, if_neg (by simp)]
      obtain ⟨k, hk'⟩ : ∃ k, rputK r b = k + 1 := ⟨rputK r b - 1, by omega⟩
      have hlast := lostN_last _ _ k (show lostN (fr b).length (room r) (readS r).1 = k + 1 from hk')
      rw [show ((rputK r b : Int) - 1) = ((k : Nat) : Int) by omega, idxL_nat, List.getElem?_eq_getElem (by omega), Option.bind_some, hfree, rm]
      generalize hx : (readS r).1[k]'(by omega) = x
      have hxr : okRec x := p.recs x (hx ▸ List.getElem_mem _)
      have hxl : ((fr x).length) = (venc 9 (zenc (x.length : Int))).length + x.length := by unfold fr; rw [List.length_append]
      have hfx := fr_len x
      have ht : (catF ((readS r).1.take (k + 1))).length = (catF ((readS r).1.take k)).length + (fr x).length := by
        rw [List.take_succ_eq_append_getElem (by omega), hx, catF_app, catF_one, List.length_append]
      unfold L09_size
      rw [codec_Frame (by have := hxr.1; omega), Option.bind_some, Option.bind_some, w64 (by have := hxr.1; omega) (by have := hxr.1; omega), dec_f (by rw [hk', ht]; omega)]
    · rw [dec_f (by omega), cond_false]
  rw [e4]
  have e5 : (bif decide ((rputK r b : Int) > (0 : Int)) then (bif (r.Policy == (2 : Int)) then some true else some false) else some false) = some false := by
    by_cases hk : 0 < rputK r b
    · rw [dec_t (by omega), cond_true, beq_f (hpol hk), cond_false]
    · rw [dec_f (by omega), cond_false]
  rw [e5]
  simp only [Option.bind_some, cond_false, Int.toNat_natCast, List.take_length, List.nil_append]
  rw [need_t (by omega), Option.bind_some, need_t (by omega), Option.bind_some, need_t (by simp only [List.length_nil, List.length_drop]; omega), Option.bind_some, need_t (by simp only [List.length_drop, List.length_singleton]; omega), Option.bind_some, SameBytes_self (by simp only [List.length_append, List.length_drop, List.length_singleton]; omega), Option.bind_some, cond_true, awake_true]; rfl

/- Other positions. -/
theorem ctn_shift {D : List Int} {S d u : Nat} (hd : d % D.length = 0) : ctn D (S + d) u = ctn D S u := by
  unfold ctn
  refine congrArg (List.map · _) (funext fun j => ?_)
  rw [show S + d + j = (S + j) + d by omega, Nat.add_mod, hd, Nat.add_zero, Nat.mod_mod]
def shift (r : T_api_Ring) (d : Int) : T_api_Ring := ⟨r.Policy, r.Data, r.Start + d, r.End + d, r.First, r.Next⟩
theorem shift_bytes {r : T_api_Ring} {k : Nat} (g : Good r) : bytesIn (shift r ((k * r.Data.length : Nat) : Int)) = bytesIn r := by
  have := g.s0; have := g.se
  unfold bytesIn used shift
  simp only
  rw [show (r.Start + ((k * r.Data.length : Nat) : Int)).toNat = r.Start.toNat + k * r.Data.length by omega, show (r.End + ((k * r.Data.length : Nat) : Int) - (r.Start + ((k * r.Data.length : Nat) : Int))).toNat = (r.End - r.Start).toNat by omega]
  exact ctn_shift (Nat.mul_mod_left _ _)
theorem shift_read {r : T_api_Ring} {k : Nat} (h : (readS r).2 = 0) (hk : r.End + ((k * r.Data.length : Nat) : Int) ≤ 1000000000000000) : readS (shift r ((k * r.Data.length : Nat) : Int)) = readS r := by
  obtain ⟨h1, h2, h3, h4⟩ := readS_good h
  have e : readS r = ((readS r).1, 0) := Prod.ext rfl h
  rw [e]
  refine readS_of h1 ?_ ?_ h4
  · have := h2.n1; have := h2.n2; have := h2.s0; have := h2.se; have := h2.e1; have := h2.k1; have := h2.f0; have := h2.fn; have := h2.nx
    constructor <;> unfold shift <;> simp only <;> omega
  · rw [shift_bytes h2]; exact h3
theorem shift_putC {r : T_api_Ring} {k : Nat} {b : List Int} (h : (readS r).2 = 0) (hk : r.End + ((k * r.Data.length : Nat) : Int) + 65536 ≤ 1000000000000000) : rputC (shift r ((k * r.Data.length : Nat) : Int)) b = rputC r b := by
  have hfl := fr_len b
  unfold rputC
  have hz : ¬(readS r).2 ≠ 0 := by omega
  rw [shift_read h (by omega)]
  simp only [if_neg hz]
  have e : room (shift r ((k * r.Data.length : Nat) : Int)) = room r := by unfold room shift; simp only; omega
  rw [e]
  by_cases c1 : b.length > 2000 ∨ (fr b).length > r.Data.length
  · rw [if_pos c1, if_pos (by unfold shift; exact c1)]
  rw [if_neg c1, if_neg (show ¬(b.length > 2000 ∨ (fr b).length > (shift r ((k * r.Data.length : Nat) : Int)).Data.length) from c1)]
  by_cases c2 : r.Policy = 2 ∧ ((fr b).length : Int) > room r
  · rw [if_pos c2, if_pos (show (shift r ((k * r.Data.length : Nat) : Int)).Policy = 2 ∧ _ from c2)]
  rw [if_neg c2, if_neg (show ¬((shift r ((k * r.Data.length : Nat) : Int)).Policy = 2 ∧ _) from c2)]
  by_cases c3 : r.Next ≥ 1000000000000000
  · rw [if_pos (.inr c3), if_pos (.inr (show (shift r ((k * r.Data.length : Nat) : Int)).Next ≥ _ from c3))]
  · rw [if_neg (show ¬((shift r ((k * r.Data.length : Nat) : Int)).End + ((fr b).length : Int) > 1000000000000000 ∨ (shift r ((k * r.Data.length : Nat) : Int)).Next ≥ 1000000000000000) by unfold shift; simp only; omega), if_neg (by omega)]
theorem L09_RingMoves_plain : ∀ (a0 : T_api_Ring) (a1 : List Int) (a2 : Int), ok_T_api_Ring a0 → (okSl okU8) a1 → okU16 a2 → ∃ F, L09_RingMoves F a0 a1 a2 = some true := by
  intro r b k h h1 hk
  refine ⟨200000, ?_⟩
  unfold L09_RingMoves L09_small
  rw [Option.bind_some]
  by_cases hl : (r.Data.length : Int) ≤ 70000 ∧ (b.length : Int) ≤ 70000
  case neg =>
    have : (decide ((r.Data.length : Int) ≤ 70000) && decide ((b.length : Int) ≤ 70000)) = false := by simpa using hl
    rw [this, awake_true]; rfl
  rw [dec_t hl.1, dec_t hl.2]
  have hr := okRing_of h (by omega)
  rw [show (!(true && true)) = false from rfl, cond_false, ring_Check_eq hr, Option.bind_some, Option.bind_some]
  by_cases hc : (readS r).2 ≠ 0
  · rw [bne_t hc, cond_true, awake_true]; rfl
  rw [bne_f (by omega), cond_false]
  have p : PutIn r b := putIn hr (by omega)
  have := p.g.n1; have := p.g.n2; have := p.g.s0; have := p.g.se; have := p.g.e1; have := p.g.k1; have := p.g.f0; have := p.g.fn; have := p.g.nx
  have hrl := readS_len hr.1
  unfold okU16 at hk
  obtain ⟨k, rfl⟩ := Int.eq_ofNat_of_zero_le hk.1
  have hkn : k * r.Data.length ≤ 65536 * 65536 := Nat.mul_le_mul (by omega) (by omega)
  have hd : w_i64 (w_i64 (k : Int) * (r.Data.length : Int)) = ((k * r.Data.length : Nat) : Int) := by
    rw [w64 (x := (k : Int)) (by omega) (by omega), ← Int.natCast_mul, w64 (by omega) (by omega)]
  simp only [hd]
  generalize hdd : ((k * r.Data.length : Nat) : Int) = d at *
  rw [w64 (x := 1000000000000000 - d) (by omega) (by omega), w64 (x := 1000000000000000 - d - 65536) (by omega) (by omega)]
  by_cases c0 : r.End > 1000000000000000 - d - 65536 ∨ r.Next ≥ 1000000000000000
  · have : (decide (r.End > 1000000000000000 - d - 65536) || decide (r.Next ≥ 1000000000000000)) = true := by simpa using c0
    rw [this, cond_true, awake_true]; rfl
  have : (decide (r.End > 1000000000000000 - d - 65536) || decide (r.Next ≥ 1000000000000000)) = false := by
    rw [dec_f (by omega), dec_f (by omega)]; rfl
  rw [this, cond_false, w64 (x := r.Start + d) (by omega) (by omega), w64 (x := r.End + d) (by omega) (by omega)]
  rw [show (⟨r.Policy, r.Data, r.Start + d, r.End + d, r.First, r.Next⟩ : T_api_Ring) = shift r d from rfl]
  have hs : okRing (shift r d) := by
    refine ⟨hr.1, ?_, ?_, hr.2.2.2.1, hr.2.2.2.2.1, hr.2.2.2.2.2⟩ <;> unfold okI64 shift <;> simp only <;> omega
  have rs : readS (shift r d) = readS r := by rw [← hdd]; exact shift_read (by omega) (by omega)
  have cs : rputC (shift r d) b = rputC r b := by rw [← hdd]; exact shift_putC (by omega) (by omega)
  rw [ring_Take_eq hr, Option.bind_some, ring_Take_eq hs, Option.bind_some, ring_Put_eq hr (by omega), Option.bind_some, ring_Put_eq hs (by omega), Option.bind_some, ring_Check_eq hs, Option.bind_some, rs, beq_t (by omega), cond_true, ring_Count_eq hs, Option.bind_some, ring_Count_eq hr, Option.bind_some]
  have e1 : countS (shift r d) = countS r := by unfold countS; rw [rs]; rfl
  have e2 : freeS (shift r d) = freeS r := by
    unfold freeS; rw [rs, if_neg hc, if_neg hc]; unfold shift; simp only; omega
  have t1 : (takeS r).1 = (readS r).1 := by unfold takeS; rw [if_neg hc]
  have t2 : (takeS (shift r d)).1 = (readS r).1 := by unfold takeS; rw [rs, if_neg hc]
  rw [e1, BEq.rfl, cond_true, ring_Free_eq hs, Option.bind_some, ring_Free_eq hr, Option.bind_some, e2, BEq.rfl, cond_true, t1, t2, SameBytes_self (by omega), Option.bind_some, cond_true]
  by_cases c : rputC r b ≠ 0
  · have e : rputS r b = (r, 0, rputC r b) := by unfold rputS; rw [if_pos c]
    have e' : rputS (shift r d) b = (shift r d, 0, rputC r b) := by unfold rputS; rw [cs, if_pos c]
    rw [e, e']; simp only
    rw [BEq.rfl, BEq.rfl, cond_true, cond_true]
    unfold shift; simp only
    rw [w64 (x := r.Start + d - r.Start) (by omega) (by omega), w64 (x := r.End + d - r.End) (by omega) (by omega), beq_t (by omega), beq_t (by omega), BEq.rfl, awake_true]; rfl
  have c : rputC r b = 0 := by omega
  obtain ⟨h0, h1', h2, h3, h4, h5⟩ := rput_good hr c
  have hrm : room (shift r d) = room r := by unfold room shift; simp only; omega
  have hkk : rputK (shift r d) b = rputK r b := by unfold rputK; rw [rs, hrm]
  have e : rputS r b = (rputR r b, (rputK r b : Int), 0) := by unfold rputS; rw [if_neg (by omega)]
  have e' : rputS (shift r d) b = (rputR (shift r d) b, (rputK r b : Int), 0) := by unfold rputS; rw [cs, if_neg (by omega), hkk]
  have hcu := cat_used p
  have hcut := catF_cut (readS r).1 (rputK r b)
  rw [e, e']; simp only
  rw [BEq.rfl, BEq.rfl, cond_true, cond_true]
  unfold rputR
  rw [hkk, rs]
  unfold shift; simp only
  rw [w64 (by omega) (by omega), w64 (by omega) (by omega), beq_t (by omega), beq_t (by omega), BEq.rfl, awake_true]; rfl
end Go.Ab
