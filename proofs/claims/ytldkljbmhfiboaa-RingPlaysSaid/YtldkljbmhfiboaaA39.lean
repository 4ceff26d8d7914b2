/- A nil slice is seen as an empty row of the call's own. -/
import Derived.Test.YtldkljbmhfiboaaA25
namespace Go.Ab
open Go

def nilAt (cs : List AV) (j : Nat) : Bool := match cs[j]? with | some .nilsl => true | _ => false
theorem nilAt_some {cs : List AV} {j : Nat} (h : nilAt cs j = true) : cs[j]? = some .nilsl := by
  unfold nilAt at h
  split at h
  · assumption
  · cases h
theorem cells_adopt {w : World} {I I' : Nat → Prop} {T : Tbl} {id : Nat} {C : Array Value} {cs : List AV} {j : Nat} (hI : ∀ b, I b → I' b) (hn : T id = none) (h : ∀ (k : Nat) (c : AV), cs[k]? = some c → Rep w I T (C.getD k undef) c) (hj : cs[j]? = some .nilsl) :
    ∀ (k : Nat) (c : AV), (cs.set j (.own id 0))[k]? = some c → Rep w I' (T.put id .nil) (C.getD k undef) c := by
  intro k c hk
  by_cases e : j = k
  · subst e
    have hlt := (List.getElem?_eq_some_iff.1 hj).1
    rw [List.getElem?_set_self hlt] at hk
    injection hk with hk; subst hk
    have hr := h j _ hj
    generalize C.getD j undef = v at hr
    cases hr with
    | nilsl => exact .ownNil (Tbl.put_same _ _ _)
  · rw [List.getElem?_set_ne e] at hk
    exact (h k c hk).mono (Nat.le_refl _) (fun _ _ _ => rfl) (fun b hb _ => hI b hb) (Tbl.le_put hn)
theorem ones_adopt {cs : List AV} {j id : Nat} (h : ∀ c ∈ cs, c.one = true) : ∀ c ∈ cs.set j (.own id 0), c.one = true := by
  intro c hc
  rcases List.mem_or_eq_of_mem_set hc with hc | rfl
  · exact h c hc
  · rfl

/-- In a variable's cell. -/
def adoptB (st : AS) (i j id e sz : Nat) : AS :=
  ⟨st.slot, fun k => bif Nat.beq k id then .live (.row e sz []) else bif Nat.beq k i then (match st.box i with | .live (.var t cs) => .live (.var t (cs.set j (.own id 0))) | b => b) else st.box k⟩
def adoptBOk (st : AS) (i j id : Nat) : Bool := isUnused (st.box id) && (match st.box i with | .live (.var _ cs) => nilAt cs j | _ => false)
/-- In a slot: the slice itself, or a cell of a struct. -/
def adoptS (st : AS) (t : Nat) (j : Option Nat) (id e sz : Nat) : AS :=
  ⟨fun k => bif Nat.beq k t then (match j, st.slot t with | none, _ => .own id 0 | some j, .agg cs => .agg (cs.set j (.own id 0)) | _, v => v) else st.slot k, fun k => bif Nat.beq k id then .live (.row e sz []) else st.box k⟩
def adoptSOk (st : AS) (t : Nat) (j : Option Nat) (id : Nat) : Bool :=
  isUnused (st.box id) && (match j, st.slot t with | none, .nilsl => true | some j, .agg cs => nilAt cs j | _, _ => false)

/-- What both share. -/
theorem adopt_rel {G : Ghost} {st st2 : AS} {T : Tbl} {a : Act} {w : World} {id e sz : Nat} (hT : RelT G st T a w) (hu : st.box id = .unused)
    (hslot : ∀ t, (∀ I', (∀ b, imm G st T b → I' b) → Rep w I' (T.put id .nil) (a.tmps.getD t undef) (st2.slot t)))
    (hbox : ∀ k bx, st2.box k = .live bx → (k = id ∧ bx = .row e sz []) ∨ (k ≠ id ∧ ∃ bx0, st.box k = .live bx0 ∧ ∀ I', (∀ b, imm G st T b → I' b) → BoxOk w I' (T.put id .nil) (T k) bx))
    (hun : ∀ k, st2.box k = .unused → k ≠ id ∧ st.box k = .unused) : Rel G st2 a w := by
  have hn := hT.unused id hu
  have himm : ∀ b, imm G st T b → imm G st2 (T.put id .nil) b := by
    intro b hb
    refine ⟨hb.1, fun k bx cap hl hTk => ?_⟩
    rcases hbox k bx hl with ⟨rfl, _⟩ | ⟨hne, bx0, h0, _⟩
    · rw [Tbl.put_same] at hTk; cases hTk
    · rw [Tbl.put_ne _ _ hne] at hTk; exact hb.2 k bx0 cap h0 hTk
  refine ⟨T.put id .nil, hT.defers, hT.size, fun t => hslot t _ himm, ?_, ?_, ?_, ?_, fun i p hp => Tbl.le_put hn _ _ (hT.foot i p hp), hT.kept⟩
  · intro k bx hl
    rcases hbox k bx hl with ⟨rfl, rfl⟩ | ⟨hne, bx0, h0, h1⟩
    · rw [Tbl.put_same]; exact .inl ⟨rfl, rfl⟩
    · rw [Tbl.put_ne _ _ hne]; exact h1 _ himm
  · intro k hk
    obtain ⟨hne, h0⟩ := hun k hk
    rw [Tbl.put_ne _ _ hne]; exact hT.unused k h0
  · intro i1 i2 b1 b2 b c1 c2 h1 h2 t1 t2
    rcases hbox i1 b1 h1 with ⟨rfl, _⟩ | ⟨n1, x1, l1, _⟩
    · rw [Tbl.put_same] at t1; cases t1
    rcases hbox i2 b2 h2 with ⟨rfl, _⟩ | ⟨n2, x2, l2, _⟩
    · rw [Tbl.put_same] at t2; cases t2
    rw [Tbl.put_ne _ _ n1] at t1; rw [Tbl.put_ne _ _ n2] at t2
    exact hT.apart i1 i2 x1 x2 b c1 c2 l1 l2 t1 t2
  · intro k bx b cap hl hTk hge
    rcases hbox k bx hl with ⟨rfl, _⟩ | ⟨hne, bx0, h0, _⟩
    · rw [Tbl.put_same] at hTk; cases hTk
    · rw [Tbl.put_ne _ _ hne] at hTk; exact hT.mine k bx0 b cap h0 hTk hge

theorem sub_adoptB {np : Nat} {st : AS} (i j id e sz : Nat) (h : adoptBOk st i j id = true) : Sub np st (adoptB st i j id e sz) := by
  rintro G a w hnp ⟨T, hT⟩
  unfold adoptBOk at h
  simp only [Bool.and_eq_true] at h
  obtain ⟨h1, h2⟩ := h
  have hu := isUnused_eq h1
  split at h2
  case h_2 => cases h2
  rename_i t cs hb
  have hj := nilAt_some h2
  have hn := hT.unused id hu
  have hne : i ≠ id := fun e => by rw [e, hu] at hb; cases hb
  have hbx : ∀ k, (adoptB st i j id e sz).box k = if k = id then .live (.row e sz []) else if k = i then .live (.var t (cs.set j (.own id 0))) else st.box k := by
    intro k
    simp only [adoptB, hb]
    by_cases e1 : k = id
    · subst e1; simp
    · rw [nbeq_false e1, if_neg e1]
      by_cases e2 : k = i
      · subst e2; simp
      · rw [nbeq_false e2, if_neg e2]; rfl
  refine adopt_rel hT hu (id := id) (e := e) (sz := sz) ?_ ?_ ?_
  · intro t' I' hI
    exact (hT.slots t').mono (Nat.le_refl _) (fun _ _ _ => rfl) (fun b hb _ => hI b hb) (Tbl.le_put hn)
  · intro k bx hl
    rw [hbx] at hl
    by_cases e1 : k = id
    · rw [if_pos e1] at hl; injection hl with hl; exact .inl ⟨e1, hl.symm⟩
    rw [if_neg e1] at hl
    by_cases e2 : k = i
    · rw [if_pos e2] at hl; injection hl with hl; subst hl; subst e2
      refine .inr ⟨e1, _, hb, fun I' hI => ?_⟩
      obtain ⟨b, C, p1, p2, p3, p4, p5⟩ := hT.boxes k _ hb
      exact ⟨b, C, p1, p2, by rw [p3]; simp, ones_adopt p4, cells_adopt hI hn p5 hj⟩
    · rw [if_neg e2] at hl
      exact .inr ⟨e1, bx, hl, fun I' hI => (hT.boxes k bx hl).mono (Nat.le_refl _) (fun _ _ _ => rfl) (fun b hb _ => hI b hb) (Tbl.le_put hn) (fun _ _ _ _ => rfl)⟩
  · intro k hk
    rw [hbx] at hk
    by_cases e1 : k = id
    · rw [if_pos e1] at hk; cases hk
    rw [if_neg e1] at hk
    by_cases e2 : k = i
    · rw [if_pos e2] at hk; cases hk
    · rw [if_neg e2] at hk; exact ⟨e1, hk⟩

theorem sub_adoptS {np : Nat} {st : AS} (t : Nat) (j : Option Nat) (id e sz : Nat) (h : adoptSOk st t j id = true) : Sub np st (adoptS st t j id e sz) := by
  rintro G a w hnp ⟨T, hT⟩
  unfold adoptSOk at h
  simp only [Bool.and_eq_true] at h
  obtain ⟨h1, h2⟩ := h
  have hu := isUnused_eq h1
  have hn := hT.unused id hu
  have hbx : ∀ k, (adoptS st t j id e sz).box k = if k = id then .live (.row e sz []) else st.box k := by
    intro k
    simp only [adoptS]
    by_cases e1 : k = id
    · subst e1; simp
    · rw [nbeq_false e1, if_neg e1]; rfl
  refine adopt_rel hT hu (id := id) (e := e) (sz := sz) ?_ ?_ ?_
  · intro k I' hI
    simp only [adoptS]
    by_cases e1 : k = t
    · subst e1
      rw [nbeq_self]
      simp only [cond_true]
      split at h2
      · rename_i hs
        rw [hs]
        have hr := hT.slots k
        rw [hs] at hr
        simp only
        generalize a.tmps.getD k undef = v at hr ⊢
        cases hr with
        | nilsl => exact .ownNil (Tbl.put_same _ _ _)
      · rename_i j' cs hs
        rw [hs]
        have hr := hT.slots k
        rw [hs] at hr
        simp only
        generalize a.tmps.getD k undef = v at hr ⊢
        cases hr with
        | agg k1 k2 k3 => exact .agg (by rw [k1]; simp) (ones_adopt k2) (cells_adopt hI hn k3 (nilAt_some h2))
      · cases h2
    · rw [nbeq_false e1]
      exact (hT.slots k).mono (Nat.le_refl _) (fun _ _ _ => rfl) (fun b hb _ => hI b hb) (Tbl.le_put hn)
  · intro k bx hl
    rw [hbx] at hl
    by_cases e1 : k = id
    · rw [if_pos e1] at hl; injection hl with hl; exact .inl ⟨e1, hl.symm⟩
    rw [if_neg e1] at hl
    exact .inr ⟨e1, bx, hl, fun I' hI => (hT.boxes k bx hl).mono (Nat.le_refl _) (fun _ _ _ => rfl) (fun b hb _ => hI b hb) (Tbl.le_put hn) (fun _ _ _ _ => rfl)⟩
  · intro k hk
    rw [hbx] at hk
    by_cases e1 : k = id
    · rw [if_pos e1] at hk; cases hk
    rw [if_neg e1] at hk; exact ⟨e1, hk⟩

theorem Sub.trans {np : Nat} {a b c : AS} (h1 : Sub np a b) (h2 : Sub np b c) : Sub np a c := fun G x w hn hR => h2 G x w hn (h1 G x w hn hR)
/-- A condition that the text knows. -/
theorem aw_condC {P : Program} {N np : Nat} {K : Exit → AS → Prop} {st : AS} {c : Code} {b : Bool} (hc : c = .cond (.const (.bool b)) (Code.t c) (Code.e c)) (h : AW P N np (bif b then Code.t c else Code.e c) K st) : AW P N np c K st := by
  intro G a w hN hnp hR
  rw [hc]
  refine wp_cond_split (t := b) rfl (fun hb => ?_) (fun hb => ?_)
  · subst hb; exact h G a w hN hnp hR
  · subst hb; exact h G a w hN hnp hR
end Go.Ab
