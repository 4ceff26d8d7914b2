/- A region: its operations one behind the other; in whatever order its edges allow. -/
import Derived.Test.YtldkljbmhfiboaaA18
namespace Go.Ab
open Go

def updL (st : AS) : List Eff → AS
  | [] => st
  | E :: r => updL (st.upd E) r

def holdsL (st : AS) : List Eff → Prop
  | [] => True
  | E :: r => E.holds st ∧ holdsL (st.upd E) r

/-- One operation, with its guard. -/
def LocL (P : Program) (N np : Nat) (ops : Array Oper) (o : Oper) (es : List Eff) : Prop :=
  ∀ G st a w, G.n = N → G.foot.length = np → holdsL st es → Rel G st a w →
    if Region.wanted o (yielded ops a.tmps) = true then o.wp P a w (fun a' w' => Rel G (updL st es) a' w') (fun _ _ _ => False) else Rel G (updL st es) (a.put o.dst undef) w

/-! Rows given away ahead of an operation. -/
def liveRow : BoxSt → Bool
  | .live (.row ..) => true
  | _ => false

/-- A nil slice is an empty one; whether there is room does not matter. -/
def ln1 : Nat → AV → AV
  | k, .nilsl => .sl false k []
  | _, .sl _ sz l => .sl false sz l
  | _, v => v
def lnL : List Nat → List AV → List AV
  | k :: ks, c :: cs => ln1 k c :: lnL ks cs
  | _, cs => cs
def ln (ks : List Nat) : AV → AV
  | .agg cs => .agg (lnL ks cs)
  | .nilsl => ln1 (ks.headD 0) .nilsl
  | .sl f sz l => bif ks.isEmpty then .sl f sz l else .sl false sz l
  | v => v
def loOf : List (Nat × List Nat) → Nat → List Nat
  | [], _ => []
  | (k, l) :: r, i => bif Nat.beq i k then l else loOf r i
theorem ln1_one {k : Nat} {c : AV} (h : c.one = true) : (ln1 k c).one = true := by cases c <;> simp_all [ln1, AV.one]
theorem lnL_len (ks : List Nat) (cs : List AV) : (lnL ks cs).length = cs.length := by
  induction cs generalizing ks with
  | nil => cases ks <;> rfl
  | cons c r ih => cases ks <;> simp [lnL, ih]
theorem lnL_get {ks : List Nat} {cs : List AV} {j : Nat} {c : AV} (h : (lnL ks cs)[j]? = some c) : ∃ c0, cs[j]? = some c0 ∧ (c = c0 ∨ ∃ k, c = ln1 k c0) := by
  induction cs generalizing ks j with
  | nil => cases ks <;> simp [lnL] at h
  | cons x r ih =>
    cases ks with
    | nil => exact ⟨c, h, .inl rfl⟩
    | cons k ks =>
      cases j with
      | zero => simp [lnL] at h; exact ⟨x, rfl, .inr ⟨k, h.symm⟩⟩
      | succ j => simp only [lnL, List.getElem?_cons_succ] at h ⊢; exact ih h
theorem ln1_rep {w : World} {I : Nat → Prop} {T : Tbl} {v : Value} {c : AV} {k : Nat} (h : Rep w I T v c) : Rep w I T v (ln1 k c) := by
  by_cases hn : c = .nilsl
  · subst hn
    generalize hc : AV.nilsl = c at h
    cases h <;> cases hc
    exact .sl0 (by decide) (by intro h; cases h)
  · by_cases hs : ∃ f sz l, c = .sl f sz l
    · obtain ⟨f, sz, l, rfl⟩ := hs
      cases f
      · exact h
      · exact rep_loose h
    · have : ln1 k c = c := by
        cases c <;> first | rfl | exact absurd rfl hn | exact absurd ⟨_, _, _, rfl⟩ hs
      rw [this]; exact h
theorem ln_rep {w : World} {I : Nat → Prop} {T : Tbl} {v : Value} {c : AV} {ks : List Nat} (h : Rep w I T v c) : Rep w I T v (ln ks c) := by
  by_cases ha : ∃ cs, c = .agg cs
  · obtain ⟨cs, rfl⟩ := ha
    cases h with
    | agg h1 h2 h3 =>
    refine .agg (by rw [lnL_len]; exact h1) ?_ ?_
    · intro c hc
      obtain ⟨j, hj⟩ := List.mem_iff_getElem?.1 hc
      obtain ⟨c0, h0, h⟩ := lnL_get hj
      have := h2 c0 (List.mem_of_getElem? h0)
      rcases h with rfl | ⟨k, rfl⟩
      · exact this
      · exact ln1_one this
    · intro j c hj
      obtain ⟨c0, h0, h⟩ := lnL_get hj
      have := h3 j c0 h0
      rcases h with rfl | ⟨k, rfl⟩
      · exact this
      · exact ln1_rep this
  · by_cases hn : c = .nilsl
    · subst hn; exact ln1_rep h
    · by_cases hs : ∃ f sz l, c = .sl f sz l
      · obtain ⟨f, sz, l, rfl⟩ := hs
        simp only [ln]
        cases ks.isEmpty
        · exact ln1_rep (k := 0) h
        · exact h
      · have : ln ks c = c := by
          cases c <;> first | rfl | exact absurd rfl hn | exact absurd ⟨_, rfl⟩ ha | exact absurd ⟨_, _, _, rfl⟩ hs
        rw [this]; exact h

def frzEff (N np : Nat) (o : Oper) (h : Hint) (st : AS) : Option (List Prop × Eff) :=
  let rs := rsOf st (operandsOf o.op)
  bif (h.frz.all fun i => liveRow (st.box i) && Nat.ble np i) && (rs.all fun x => whole (frz st.box h.frz x.2) && Nat.blt x.1 N) then
    some (rs.flatMap (fun x => frzVC st.box h.frz x.2), { rs := rs, rb := h.frz.map (fun i => (i, st.box i)), wb := h.frz.map (fun i => (i, .dead)), fz := rs.map fun x => (x.1, ln (loOf h.lo x.1) (frz st.box h.frz x.2)) })
  else none

theorem lookD_spec {l : List (Nat × AV)} {t : Nat} {d : AV} : lookD l t d = d ∨ ∃ v, (t, v) ∈ l ∧ lookD l t d = v := by
  induction l with
  | nil => exact .inl rfl
  | cons x r ih =>
    obtain ⟨k, v⟩ := x
    simp only [lookD]
    cases hb : Nat.beq t k
    · rcases ih with h | ⟨v', h1, h2⟩
      · exact .inl h
      · exact .inr ⟨v', by simp [h1], h2⟩
    · have := nbeq.1 hb
      subst this
      exact .inr ⟨v, by simp, rfl⟩

theorem lookB_dead {ids : List Nat} {i : Nat} {d : BoxSt} : lookB (ids.map fun i => (i, BoxSt.dead)) i d = if i ∈ ids then .dead else d := by
  induction ids with
  | nil => simp [lookB]
  | cons x r ih =>
    simp only [List.map_cons, lookB]
    by_cases h : i = x
    · subst h; simp
    · rw [nbeq_false h]; simp [ih, h]

theorem frz_step {st : AS} {N np : Nat} {o : Oper} {hn : Hint} {r : List Prop × Eff}
    (h : frzEff N np o hn st = some r) (hv : ∀ p ∈ r.1, p) : r.2.holds st ∧ ∀ G st2, G.foot.length = np → r.2.holds st2 → ∀ a w, Rel G st2 a w → Rel G (st2.upd r.2) a w := by
  unfold frzEff at h
  replace h := bif_some h; obtain ⟨hc, h⟩ := h
  simp only [Bool.and_eq_true, List.all_eq_true] at hc
  injection h with h; subst h
  simp only at hv
  refine ⟨⟨rsOf_holds st _, fun x hx => by simp only [List.mem_map] at hx; obtain ⟨i, _, rfl⟩ := hx; rfl⟩, ?_⟩
  rintro G st2 hnp ⟨hs2, hb2⟩ a w ⟨T, hT⟩
  have hbx : ∀ i ∈ hn.frz, st2.box i = st.box i := fun i hi => hb2 (i, st.box i) (List.mem_map.2 ⟨i, hi, rfl⟩)
  have hbox : ∀ i, (st2.upd { rs := rsOf st (operandsOf o.op), rb := hn.frz.map (fun i => (i, st.box i)), wb := hn.frz.map (fun i => (i, .dead)), fz := (rsOf st (operandsOf o.op)).map fun x => (x.1, ln (loOf hn.lo x.1) (frz st.box hn.frz x.2)) }).box i =
      if i ∈ hn.frz then .dead else st2.box i := fun i => lookB_dead
  have himm : ∀ b, imm G st2 T b → imm G (st2.upd { rs := rsOf st (operandsOf o.op), rb := hn.frz.map (fun i => (i, st.box i)), wb := hn.frz.map (fun i => (i, .dead)), fz := (rsOf st (operandsOf o.op)).map fun x => (x.1, ln (loOf hn.lo x.1) (frz st.box hn.frz x.2)) }) T b := by
    intro b hb
    refine ⟨hb.1, fun id bx cap hl hTi => ?_⟩
    rw [hbox] at hl
    by_cases hi : id ∈ hn.frz
    · rw [if_pos hi] at hl; cases hl
    · rw [if_neg hi] at hl; exact hb.2 id bx cap hl hTi
  have hid : ∀ id b cap, id ∈ hn.frz → T id = some (.at b cap) → imm G (st2.upd { rs := rsOf st (operandsOf o.op), rb := hn.frz.map (fun i => (i, st.box i)), wb := hn.frz.map (fun i => (i, .dead)), fz := (rsOf st (operandsOf o.op)).map fun x => (x.1, ln (loOf hn.lo x.1) (frz st.box hn.frz x.2)) }) T b := by
    intro id b cap hi hTi
    have hlive : ∃ bx, st2.box id = .live bx := by
      have := (hc.1 id hi).1
      rw [hbx id hi]
      cases hb : st.box id <;> rw [hb] at this <;> simp [liveRow] at this
      exact ⟨_, rfl⟩
    obtain ⟨bx, hl⟩ := hlive
    refine ⟨.inr (hT.mine id bx b cap hl hTi (by have := ble_le (hc.1 id hi).2; omega)), fun id' bx' cap' hl' hT' => ?_⟩
    rw [hbox] at hl'
    by_cases hi' : id' ∈ hn.frz
    · rw [if_pos hi'] at hl'; cases hl'
    · rw [if_neg hi'] at hl'
      have := hT.apart id id' bx bx' b cap cap' hl hl' hTi hT'
      exact hi' (this ▸ hi)
  refine ⟨T, hT.defers, hT.size, ?_, ?_, ?_, ?_, ?_, hT.foot, hT.kept⟩
  · intro t
    simp only [AS.upd, putS]
    rcases lookD_spec (l := (rsOf st (operandsOf o.op)).map fun x => (x.1, ln (loOf hn.lo x.1) (frz st.box hn.frz x.2))) (t := t) (d := st2.slot t) with h | ⟨v, h1, h2⟩
    · rw [h]
      exact (hT.slots t).mono (Nat.le_refl _) (fun _ _ _ => rfl) (fun b hb _ => himm b hb) (fun _ _ h => h)
    · rw [h2]
      simp only [List.mem_map, Prod.mk.injEq] at h1
      obtain ⟨x, hx, rfl, rfl⟩ := h1
      have hsl := hs2 x hx
      have hrep := hT.slots x.1
      rw [hsl] at hrep
      exact ln_rep (frz_rep hT hbx himm hid hrep (fun p hp => hv p (List.mem_flatMap.2 ⟨x, hx, hp⟩)) (hc.2 x hx).1)
  · intro id bx hl
    rw [hbox] at hl
    by_cases hi : id ∈ hn.frz
    · rw [if_pos hi] at hl; cases hl
    · rw [if_neg hi] at hl
      exact (hT.boxes id bx hl).mono (Nat.le_refl _) (fun _ _ _ => rfl) (fun b hb _ => himm b hb) (fun _ _ h => h) (fun _ _ _ _ => rfl)
  · intro id hl
    rw [hbox] at hl
    by_cases hi : id ∈ hn.frz
    · rw [if_pos hi] at hl; cases hl
    · rw [if_neg hi] at hl; exact hT.unused id hl
  · intro i1 i2 b1 b2 b c1 c2 h1 h2
    rw [hbox] at h1 h2
    by_cases k1 : i1 ∈ hn.frz
    · rw [if_pos k1] at h1; cases h1
    · by_cases k2 : i2 ∈ hn.frz
      · rw [if_pos k2] at h2; cases h2
      · rw [if_neg k1] at h1; rw [if_neg k2] at h2
        exact hT.apart i1 i2 b1 b2 b c1 c2 h1 h2
  · intro id bx b cap hl
    rw [hbox] at hl
    by_cases hi : id ∈ hn.frz
    · rw [if_pos hi] at hl; cases hl
    · rw [if_neg hi] at hl; exact hT.mine id bx b cap hl

def core2 (P : Program) (N np : Nat) (o : Oper) (h : Hint) (st : AS) : Option (List Prop × List Eff) :=
  bif isNil h.frz && isNil h.lo then
    match core P N np o h st with
    | some (vc, E) => some (vc, [E])
    | none => none
  else
    match frzEff N np o h st with
    | some (vc0, E0) =>
      match core P N np o h (st.upd E0) with
      | some (vc, E) => some (vc0 ++ vc, [E0, E])
      | none => none
    | none => none

/-- An operation with its guard. -/
def astep (P : Program) (N np : Nat) (ops : Array Oper) (o : Oper) (h : Hint) (st : AS) : Option (List Prop × List Eff) :=
  match o.guard with
  | none => core2 P N np o h st
  | some (j, want) =>
    match (ops[j]?).bind (·.dst) with
    | none => none
    | some d =>
      match st.slot d with
      | .bool b =>
        bif h.g then
          match core2 P N np o h st with
          | some (vc, es) => some ((b = want) :: vc, { rs := [(d, .bool b)] } :: es)
          | none => none
        else bif dstOk N o.dst then some ([b = !want], [{ rs := [(d, .bool b)], dst := o.dst.map fun d => (d, .tuple []) }]) else none
      | .tuple [] => bif dstOk N o.dst then some ([], [{ rs := [(d, .tuple [])], dst := o.dst.map fun d => (d, .tuple []) }]) else none
      | _ => none

/-- No operation panics here: the post for other ends does not matter. -/
theorem _root_.Go.Oper.wp_mono2 {P : Program} {o : Oper} {a : Act} {w : World} {K K' : Act → World → Prop} {Q : Exit → Act → World → Prop} (h : ∀ a w, K a w → K' a w)
    (hh : o.wp P a w K (fun _ _ _ => False)) : o.wp P a w K' Q := by
  unfold Oper.wp at *
  generalize (execOp a.eval o).run P w = r at *
  cases r with
  | ok n w' =>
    cases n <;> simp only [Oper.upon] at hh ⊢ <;>
      first
        | exact h _ _ hh
        | exact Calls.mono hh (fun e w'' he => by cases e <;> first | exact h _ _ he | exact he.elim | (obtain ⟨_, _, he⟩ := he; exact he.elim))
        | exact Rows.mono hh (fun _ _ he => h _ _ he)
  | halt x w' => cases x <;> simp only [Oper.upon] at hh ⊢

theorem core2_sound {P : Program} {N np : Nat} {o : Oper} {st : AS} {hn : Hint} {r : List Prop × List Eff} (h : core2 P N np o hn st = some r) (hv : ∀ p ∈ r.1, p) :
    holdsL st r.2 ∧ ∀ G st2 a w, G.n = N → G.foot.length = np → holdsL st2 r.2 → Rel G st2 a w → o.wp P a w (fun a' w' => Rel G (updL st2 r.2) a' w') (fun _ _ _ => False) := by
  unfold core2 at h
  cases hf : isNil hn.frz && isNil hn.lo
  · rw [hf] at h
    simp only [cond_false] at h
    split at h
    · rename_i vc0 E0 hE0
      split at h
      · rename_i vc E hE
        injection h with h; subst h
        obtain ⟨k1, k2⟩ := frz_step hE0 (fun p hp => hv p (by simp [hp]))
        obtain ⟨k3, k4⟩ := core_sound hE (fun p hp => hv p (by simp [hp]))
        refine ⟨⟨k1, k3, trivial⟩, fun G st2 a w hN hnp hh hRR => ?_⟩
        obtain ⟨hh1, hh2, _⟩ := hh
        exact k4 G _ a w hN hnp hh2 (k2 G st2 hnp hh1 a w hRR)
      · cases h
    · cases h
  · rw [hf] at h
    simp only [cond_true] at h
    split at h
    · rename_i vc E hE
      injection h with h; subst h
      obtain ⟨k3, k4⟩ := core_sound hE hv
      exact ⟨⟨k3, trivial⟩, fun G st2 a w hN hnp hh hRR => k4 G st2 a w hN hnp hh.1 hRR⟩
    · cases h

theorem yielded_of {G : Ghost} {st : AS} {a : Act} {w : World} {ops : Array Oper} {j d : Nat} {b : Bool} (hR : Rel G st a w) (hd : (ops[j]?).bind (·.dst) = some d) (hs : st.slot d = .bool b) :
    yielded ops a.tmps j = some b := by
  obtain ⟨T, hT⟩ := hR
  have hr := hT.slots d
  rw [hs] at hr
  generalize hv : a.tmps.getD d undef = v at hr
  cases hr with
  | bool =>
  have : a.tmps[d]? = some (.bool b) := by
    rw [Array.getD_eq_getD_getElem?] at hv
    cases hd : a.tmps[d]? with
    | none => rw [hd] at hv; simp [undef] at hv
    | some x => rw [hd] at hv; simp at hv; rw [hv]
  simp [yielded, hd, this]

theorem yielded_undef {G : Ghost} {st : AS} {a : Act} {w : World} {ops : Array Oper} {j d : Nat} (hR : Rel G st a w) (hd : (ops[j]?).bind (·.dst) = some d) (hs : st.slot d = .tuple []) :
    yielded ops a.tmps j = none := by
  obtain ⟨T, hT⟩ := hR
  have hr := hT.slots d
  rw [hs] at hr
  generalize hv : a.tmps.getD d undef = v at hr
  cases hr with
  | tuple h1 h2 =>
  rw [Array.getD_eq_getD_getElem?] at hv
  cases hd' : a.tmps[d]? with
  | none => simp [yielded, hd, hd']
  | some x => rw [hd'] at hv; simp at hv; subst hv; simp [yielded, hd, hd']

theorem rep_undef {w : World} {I : Nat → Prop} {T : Tbl} : Rep w I T undef (.tuple []) := by
  refine .tuple (by rfl) ?_
  intro j c h; simp at h

theorem upd_empty (st : AS) (rs : List (Nat × AV)) : st.upd { rs := rs } = st := rfl

theorem astep_sound {P : Program} {N np : Nat} {ops : Array Oper} {o : Oper} {st : AS} {hn : Hint} {r : List Prop × List Eff} (h : astep P N np ops o hn st = some r) (hv : ∀ p ∈ r.1, p) :
    holdsL st r.2 ∧ LocL P N np ops o r.2 := by
  unfold astep at h
  split at h
  · rename_i hg
    obtain ⟨k1, k2⟩ := core2_sound h hv
    refine ⟨k1, fun G st2 a w hN hnp hh hRR => ?_⟩
    rw [if_pos (by simp [Region.wanted, hg])]
    exact k2 G st2 a w hN hnp hh hRR
  · rename_i j want hg
    split at h
    · cases h
    rename_i d hd
    split at h
    · rename_i b hb
      cases hgg : hn.g
      · rw [hgg] at h
        simp only [cond_false] at h
        replace h := bif_some h; obtain ⟨hdst, h⟩ := h
        injection h with h; subst h
        have hbw : b = !want := hv _ (by simp)
        refine ⟨⟨⟨fun x hx => by simp at hx; subst hx; exact hb, fun x hx => by simp at hx⟩, trivial⟩, fun G st2 a w hN hnp hh hRR => ?_⟩
        have hs2 : st2.slot d = .bool b := hh.1.1 (d, .bool b) (by simp)
        have hy := yielded_of hRR hd hs2
        rw [if_neg (by simp [Region.wanted, hg, hy, hbw])]
        obtain ⟨T, hT⟩ := hRR
        refine hT.quiet (grown_refl w) rfl (by simp [Option.map_map, Function.comp_def]) ?_
        intro d' av he
        obtain ⟨hlt, rfl⟩ := dst_lt hdst he
        exact ⟨by omega, rep_undef⟩
      · rw [hgg] at h
        simp only [cond_true] at h
        split at h
        · rename_i vc es hc
          injection h with h; subst h
          have hbw : b = want := hv _ (by simp)
          obtain ⟨k1, k2⟩ := core2_sound hc (fun p hp => hv p (by simp [hp]))
          refine ⟨⟨⟨fun x hx => by simp at hx; subst hx; exact hb, fun x hx => by simp at hx⟩, k1⟩, fun G st2 a w hN hnp hh hRR => ?_⟩
          have hs2 : st2.slot d = .bool b := hh.1.1 (d, .bool b) (by simp)
          have hy := yielded_of hRR hd hs2
          rw [if_pos (by simp [Region.wanted, hg, hy, hbw])]
          exact k2 G st2 a w hN hnp hh.2 hRR
        · cases h
    · rename_i hb
      replace h := bif_some h; obtain ⟨hdst, h⟩ := h
      injection h with h; subst h
      refine ⟨⟨⟨fun x hx => by simp at hx; subst hx; exact hb, fun x hx => by simp at hx⟩, trivial⟩, fun G st2 a w hN hnp hh hRR => ?_⟩
      have hs2 : st2.slot d = .tuple [] := hh.1.1 (d, .tuple []) (by simp)
      have hy := yielded_undef hRR hd hs2
      rw [if_neg (by simp [Region.wanted, hg, hy])]
      obtain ⟨T, hT⟩ := hRR
      refine hT.quiet (grown_refl w) rfl (by simp [Option.map_map, Function.comp_def]) ?_
      intro d' av he
      obtain ⟨hlt, rfl⟩ := dst_lt hdst he
      exact ⟨by omega, rep_undef⟩
    · cases h

def lookH : List (Nat × Hint) → Nat → Hint
  | [], _ => {}
  | (k, h) :: r, i => bif Nat.beq i k then h else lookH r i

/-- The operations of a region, one behind the other. -/
def areg (P : Program) (N np : Nat) (all : Array Oper) (hs : List (Nat × Hint)) : List Oper → Nat → AS → Option (List Prop × AS × List (List Eff))
  | [], _, st => some ([], st, [])
  | o :: r, i, st =>
    match astep P N np all o (lookH hs i) st with
    | none => none
    | some (vc, es) =>
      match areg P N np all hs r (i + 1) (updL st es) with
      | none => none
      | some (vcs, st', ess) => some (vc ++ vcs, st', es :: ess)

def Chain : List (List Eff) → AS → AS → Prop
  | [], st, st' => st = st'
  | es :: r, st, st' => holdsL st es ∧ Chain r (updL st es) st'

theorem areg_sound {P : Program} {N np : Nat} {all : Array Oper} {hs : List (Nat × Hint)} : ∀ (l : List Oper) (i : Nat) (st : AS) (r : List Prop × AS × List (List Eff)),
    areg P N np all hs l i st = some r → (∀ p ∈ r.1, p) → Chain r.2.2 st r.2.1 ∧ r.2.2.length = l.length ∧ ∀ (j : Nat) (o : Oper) (es : List Eff), l[j]? = some o → r.2.2[j]? = some es → LocL P N np all o es := by
  intro l
  induction l with
  | nil => intro i st r h _; simp [areg] at h; subst h; exact ⟨rfl, rfl, fun j o es hj => by simp at hj⟩
  | cons o rest ih =>
    intro i st r h hv
    simp only [areg] at h
    split at h
    · cases h
    rename_i vc es hs1
    split at h
    · cases h
    rename_i vcs st' ess hs2
    injection h with h; subst h
    obtain ⟨k1, k2⟩ := astep_sound hs1 (fun p hp => hv p (by simp [hp]))
    obtain ⟨k3, k4, k5⟩ := ih _ _ _ hs2 (fun p hp => hv p (by simp [hp]))
    refine ⟨⟨k1, k3⟩, by simpa using k4, ?_⟩
    intro j o' es' hj hj'
    cases j with
    | zero => simp at hj hj'; subst hj; subst hj'; exact k2
    | succ j => exact k5 j o' es' (by simpa using hj) (by simpa using hj')

/-- In the text's order. -/
theorem wpList_chain {P : Program} {N np : Nat} {all : Array Oper} {G : Ghost} {Q : Exit → Act → World → Prop} (hN : G.n = N) (hnp : G.foot.length = np) : ∀ (l : List Oper) (ess : List (List Eff)) (st st' : AS) (a : Act) (w : World),
    Chain ess st st' → ess.length = l.length → (∀ (j : Nat) (o : Oper) (es : List Eff), l[j]? = some o → ess[j]? = some es → LocL P N np all o es) → Rel G st a w →
    (∀ a w, Rel G st' a w → Q .normal a w) → wpList P all Q l a w := by
  intro l
  induction l with
  | nil =>
    intro ess st st' a w hc hl _ hR hQ
    cases ess with
    | nil => simp only [Chain] at hc; subst hc; exact hQ a w hR
    | cons _ _ => simp at hl
  | cons o rest ih =>
    intro ess st st' a w hc hl hloc hR hQ
    cases ess with
    | nil => simp at hl
    | cons es r =>
      obtain ⟨hh, hc⟩ := hc
      have hL := hloc 0 o es (by simp) (by simp) G st a w hN hnp hh hR
      refine wpList_step fun K hK => ?_
      have hnext : ∀ a w, Rel G (updL st es) a w → K a w := fun a w hR2 => hK a w (ih r (updL st es) st' a w hc (by simpa using hl) (fun j o' es' hj hj' => hloc (j + 1) o' es' (by simpa using hj) (by simpa using hj')) hR2 hQ)
      split
      · rename_i hw
        rw [if_pos hw] at hL
        exact Oper.wp_mono2 hnext hL
      · rename_i hw
        rw [if_neg hw] at hL
        exact hnext _ _ hL
end Go.Ab
