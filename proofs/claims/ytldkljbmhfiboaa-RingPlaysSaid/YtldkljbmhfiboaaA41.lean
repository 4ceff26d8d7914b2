/- A state seen otherwise, most of it as it was. -/
import Derived.Test.YtldkljbmhfiboaaA40
namespace Go.Ab
open Go

/-- Where a name stands in a list. -/
def posN : List Nat → Nat → Nat
  | [], _ => 0
  | x :: r, i => bif Nat.beq x i then 0 else posN r i + 1
def inN (l : List Nat) (i : Nat) : Bool := l.any (Nat.beq i)
theorem posN_get {l : List Nat} {i : Nat} (h : inN l i = true) : l.getD (posN l i) 0 = i := by
  induction l with
  | nil => simp [inN] at h
  | cons x r ih =>
    simp only [posN]
    cases hx : Nat.beq x i
    · simp only [cond_false]
      have : inN r i = true := by
        simp only [inN, List.any_cons, Bool.or_eq_true] at h ⊢
        rcases h with h | h
        · rw [nbeq.1 h] at hx; simp at hx
        · exact h
      have := ih this
      simpa [List.getD] using this
    · have := nbeq.1 hx
      simp [List.getD, this]
mutual
def rn (ρ : List Nat) : AV → AV
  | .agg cs => .agg (rns ρ cs)
  | .tuple cs => .tuple (rns ρ cs)
  | .ptr id sz i off => .ptr (posN ρ id) sz i off
  | .own id n => .own (posN ρ id) n
  | .part id sz lo hi => .part (posN ρ id) sz lo hi
  | .fn f cs => .fn f (rns ρ cs)
  | .mp id => .mp (posN ρ id)
  | .junk => .junk
  | .int k n => .int k n
  | .bool b => .bool b
  | .str l => .str l
  | .sl f s l => .sl f s l
  | .ref a => .ref a
  | .nilp => .nilp
  | .nilsl => .nilsl
  | .nb l => .nb l
  | .raw b => .raw b
def rns (ρ : List Nat) : List AV → List AV
  | [] => []
  | a :: r => rn ρ a :: rns ρ r
end
mutual
/-- Its names are among these. -/
def ins (ρ : List Nat) : AV → Bool
  | .agg cs => inss ρ cs
  | .tuple cs => inss ρ cs
  | .ptr id .. => inN ρ id
  | .own id _ => inN ρ id
  | .part id .. => inN ρ id
  | .fn _ cs => inss ρ cs
  | .mp id => inN ρ id
  | .junk => true
  | .int .. => true
  | .bool _ => true
  | .str _ => true
  | .sl .. => true
  | .ref _ => true
  | .nilp => true
  | .nilsl => true
  | .nb _ => true
  | .raw _ => true
def inss (ρ : List Nat) : List AV → Bool
  | [] => true
  | a :: r => ins ρ a && inss ρ r
end
mutual
theorem un_rn {ρ : List Nat} : ∀ {a : AV}, ins ρ a = true → un ρ (rn ρ a) = a
  | .agg cs, h => by simp only [rn, un]; rw [uns_rns (cs := cs) (by simpa [ins] using h)]
  | .tuple cs, h => by simp only [rn, un]; rw [uns_rns (cs := cs) (by simpa [ins] using h)]
  | .ptr id .., h => by simp only [rn, un]; rw [posN_get (by simpa [ins] using h)]
  | .own id _, h => by simp only [rn, un]; rw [posN_get (by simpa [ins] using h)]
  | .part id .., h => by simp only [rn, un]; rw [posN_get (by simpa [ins] using h)]
  | .fn _ cs, h => by simp only [rn, un]; rw [uns_rns (cs := cs) (by simpa [ins] using h)]
  | .mp id, h => by simp only [rn, un]; rw [posN_get (by simpa [ins] using h)]
  | .junk, _ => rfl
  | .int .., _ => rfl
  | .bool _, _ => rfl
  | .str _, _ => rfl
  | .sl .., _ => rfl
  | .ref _, _ => rfl
  | .nilp, _ => rfl
  | .nilsl, _ => rfl
  | .nb _, _ => rfl
  | .raw _, _ => rfl
theorem uns_rns {ρ : List Nat} : ∀ {cs : List AV}, inss ρ cs = true → uns ρ (rns ρ cs) = cs
  | [], _ => rfl
  | a :: r, h => by
    simp only [inss, Bool.and_eq_true] at h
    simp only [rns, uns]
    rw [un_rn h.1, uns_rns h.2]
end

theorem lo1_refl (x : AV) : ∀ p ∈ lo1 x x, p := by
  intro p hp
  cases x with
  | sl f s l =>
    have hp : p = (s = s) ∨ p = (l = l) ∨ p = ((!f || f) = true) := by simpa only [lo1, List.mem_cons, List.not_mem_nil, or_false] using (show p ∈ [s = s, l = l, (!f || f) = true] from hp)
    rcases hp with h | h | h
    · rw [h]
    · rw [h]
    · rw [h]; cases f <;> rfl
  | junk => cases hp
  | _ => simp [lo1] at hp; exact hp
theorem los_refl : ∀ (xs : List AV), ∀ p ∈ los xs xs, p := by
  intro xs
  induction xs with
  | nil => intro p hp; cases hp
  | cons x r ih =>
    intro p hp
    simp only [los, List.mem_append] at hp
    rcases hp with hp | hp
    · exact lo1_refl x p hp
    · exact ih p hp
theorem loA_refl (x : AV) : ∀ p ∈ loA x x, p := by
  intro p hp
  cases x with
  | agg cs => exact los_refl cs p hp
  | _ => simp only [loA] at hp; exact lo1_refl _ p hp
theorem losA_refl : ∀ (xs : List AV), ∀ p ∈ losA xs xs, p := by
  intro xs
  induction xs with
  | nil => intro p hp; cases hp
  | cons x r ih =>
    intro p hp
    simp only [losA, List.mem_append] at hp
    rcases hp with hp | hp
    · exact loA_refl x p hp
    · exact ih p hp
theorem loT_refl (x : AV) : ∀ p ∈ loT x x, p := by
  intro p hp
  cases x with
  | tuple cs => exact losA_refl cs p hp
  | _ => simp only [loT] at hp; exact loA_refl _ p hp

/-- It names none of these. -/
def out1 (ids : List Nat) : AV → Bool
  | .own id _ => !(ids.any (Nat.beq id))
  | .part id .. => !(ids.any (Nat.beq id))
  | _ => true
def outA (ids : List Nat) : AV → Bool
  | .agg cs => cs.all (out1 ids)
  | v => out1 ids v
def outT (ids : List Nat) : AV → Bool
  | .tuple vs => vs.all (outA ids)
  | v => outA ids v
theorem frz1_out {B : Nat → BoxSt} {ids : List Nat} {x : AV} (h : out1 ids x = true) : frz1 B ids x = x ∧ frzVC1 B ids x = [] := by
  cases x with
  | own id n => simp only [out1, Bool.not_eq_true'] at h; simp [frz1, frzVC1, h]
  | part id sz lo hi => simp only [out1, Bool.not_eq_true'] at h; simp [frz1, frzVC1, h]
  | _ => exact ⟨rfl, rfl⟩
theorem map_id_of {α : Type} {f : α → α} {l : List α} (h : ∀ x ∈ l, f x = x) : l.map f = l := by
  induction l with
  | nil => rfl
  | cons a r ih => rw [List.map_cons, h a (by simp), ih fun x hx => h x (by simp [hx])]
theorem flat_nil_of {α β : Type} {f : α → List β} {l : List α} (h : ∀ x ∈ l, f x = []) : l.flatMap f = [] := by
  induction l with
  | nil => rfl
  | cons a r ih => rw [List.flatMap_cons, h a (by simp), ih fun x hx => h x (by simp [hx])]; rfl
theorem frzA_out {B : Nat → BoxSt} {ids : List Nat} {x : AV} (h : outA ids x = true) : frzA B ids x = x ∧ frzVCA B ids x = [] := by
  cases x with
  | agg cs =>
    simp only [outA, List.all_eq_true] at h
    exact ⟨by simp only [frzA]; rw [map_id_of fun c hc => (frz1_out (h c hc)).1], flat_nil_of fun c hc => (frz1_out (h c hc)).2⟩
  | _ => simp only [outA] at h; exact frz1_out (B := B) h
theorem frz_out {B : Nat → BoxSt} {ids : List Nat} {x : AV} (h : outT ids x = true) : frz B ids x = x ∧ frzVC B ids x = [] := by
  cases x with
  | tuple vs =>
    simp only [outT, List.all_eq_true] at h
    exact ⟨by simp only [frz]; rw [map_id_of fun c hc => (frzA_out (h c hc)).1], flat_nil_of fun c hc => (frzA_out (h c hc)).2⟩
  | _ => simp only [outT] at h; exact frzA_out (B := B) h

/-- What a slot holds in the new view: what it held, or another reading of it. -/
inductive Sp where
  | s (t : Nat)
  | a (t : Nat) (v : AV)
inductive Bp where
  | s (i : Nat)
  | a (i : Nat) (b : BoxSt)
def spSl (st : AS) (ρ : List Nat) : Sp → Nat × AV
  | .s t => (t, rn ρ (st.slot t))
  | .a t v => (t, v)
def spOk (st : AS) (ρ ids : List Nat) : Sp → Bool
  | .s t => ins ρ (st.slot t) && outT ids (st.slot t)
  | .a _ _ => true
def spVC (st : AS) (ρ ids : List Nat) : Sp → List Prop
  | .s _ => []
  | .a t v => frzVC st.box ids (st.slot t) ++ loT (frz st.box ids (st.slot t)) (un ρ v)
def rnB (ρ : List Nat) : BoxSt → BoxSt
  | .live (.var t cs) => .live (.var t (rns ρ cs))
  | b => b
def okB (ρ ids : List Nat) : BoxSt → Bool
  | .live (.var _ cs) => ones cs && (inss ρ cs && cs.all (out1 ids))
  | .live _ => true
  | _ => false
def bpBx (st : AS) (ρ : List Nat) : Bp → Nat × BoxSt
  | .s i => (i, rnB ρ (st.box (ρ.getD i 0)))
  | .a i b => (i, b)
def bpOk (st : AS) (ρ ids : List Nat) : Bp → Bool
  | .s i => okB ρ ids (st.box (ρ.getD i 0))
  | .a _ _ => true
def bpVC (st : AS) (ρ ids : List Nat) : Bp → List Prop
  | .s _ => []
  | .a i b => loBox st.box ids ρ (st.box (ρ.getD i 0)) b
def wkOk (np : Nat) (st : AS) (ρ ids : List Nat) (sl2 : List (Nat × AV)) (bx2 : List (Nat × BoxSt)) : Bool :=
  ((nodupB ρ && listBeq (ρ.take np) (List.range np)) && (ids.all fun i => liveRow (st.box i) && Nat.ble np i)) &&
      ((sl2.all fun x => (below ρ.length x.2 && onesT x.2) && whole (frz st.box ids (st.slot x.1))) &&
       (bx2.all fun x => (Nat.blt x.1 ρ.length && belowBS ρ.length x.2) && (match x.2 with | .live (.row ..) => !(ids.any (Nat.beq (ρ.getD x.1 0))) | .unused => false | _ => true)))
def wkm (np : Nat) (st : AS) (ρ ids : List Nat) (sps : List Sp) (bps : List Bp) : Option (List Prop × List (Nat × AV) × List (Nat × BoxSt)) :=
  bif wkOk np st ρ ids (sps.map (spSl st ρ)) (bps.map (bpBx st ρ)) && (sps.all (spOk st ρ ids) && bps.all (bpOk st ρ ids)) then
    some (sps.flatMap (spVC st ρ ids) ++ bps.flatMap (bpVC st ρ ids), sps.map (spSl st ρ), bps.map (bpBx st ρ))
  else none

theorem ones_rns {ρ : List Nat} : ∀ {cs : List AV}, ones cs = true → ones (rns ρ cs) = true
  | [], _ => rfl
  | a :: r, h => by
    simp only [ones, Bool.and_eq_true] at h
    simp only [rns, ones, Bool.and_eq_true]
    refine ⟨?_, ones_rns h.2⟩
    have h1 := h.1
    cases a <;> first | exact h1 | rfl

theorem wkOut_eq (np : Nat) (st : AS) (ρ ids : List Nat) (sl2 : List (Nat × AV)) (bx2 : List (Nat × BoxSt)) :
    wkOut np st ρ ids sl2 bx2 = bif wkOk np st ρ ids sl2 bx2 then some (sl2.flatMap (fun x => frzVC st.box ids (st.slot x.1) ++ loT (frz st.box ids (st.slot x.1)) (un ρ x.2)) ++
      bx2.flatMap (fun x => loBox st.box ids ρ (st.box (ρ.getD x.1 0)) x.2)) else none := rfl
theorem relT_wkm {np : Nat} {st : AS} {ρ ids : List Nat} {sps : List Sp} {bps : List Bp} {vcs : List Prop} {sl2 : List (Nat × AV)} {bx2 : List (Nat × BoxSt)} (h : wkm np st ρ ids sps bps = some (vcs, sl2, bx2)) (hv : AllP vcs) :
    ∃ vcs', wkOut np st ρ ids sl2 bx2 = some vcs' ∧ AllP vcs' := by
  unfold wkm at h
  replace h := bif_some h; obtain ⟨hc, h⟩ := h
  simp only [Bool.and_eq_true, List.all_eq_true] at hc
  obtain ⟨hok, hsp, hbp⟩ := hc
  simp only [Option.some.injEq, Prod.mk.injEq] at h
  obtain ⟨rfl, rfl, rfl⟩ := h
  have hv := allP hv
  have toAll : ∀ {l : List Prop}, (∀ p ∈ l, p) → AllP l := by
    intro l
    induction l with
    | nil => intro _; trivial
    | cons a r ih => intro h; exact ⟨h a (by simp), ih fun p hp => h p (by simp [hp])⟩
  refine ⟨_, (wkOut_eq ..).trans (by rw [hok]; rfl), toAll ?_⟩
  intro p hp
  rcases List.mem_append.1 hp with hp | hp
  · obtain ⟨x, hx, hp⟩ := List.mem_flatMap.1 hp
    obtain ⟨sp, hs, rfl⟩ := List.mem_map.1 hx
    cases sp with
    | s t =>
      have h1 := hsp _ hs
      simp only [spOk, Bool.and_eq_true] at h1
      have h2 := frz_out (B := st.box) h1.2
      simp only [spSl, h2.1, h2.2, List.nil_append, un_rn h1.1] at hp
      exact loT_refl _ p hp
    | a t v => exact hv p (List.mem_append_left _ (List.mem_flatMap.2 ⟨_, hs, hp⟩))
  · obtain ⟨x, hx, hp⟩ := List.mem_flatMap.1 hp
    obtain ⟨bp, hb, rfl⟩ := List.mem_map.1 hx
    cases bp with
    | s i =>
      have h1 := hbp _ hb
      simp only [bpOk] at h1
      simp only [bpBx] at hp
      generalize st.box (ρ.getD i 0) = b at h1 hp
      cases b with
      | unused => cases h1
      | dead => cases h1
      | live b =>
        cases b with
        | row e s l => simp [rnB, loBox] at hp; exact hp
        | map a k l => simp [rnB, loBox] at hp; exact hp
        | var t cs =>
          simp only [okB, Bool.and_eq_true, List.all_eq_true] at h1
          obtain ⟨h2, h3, h4⟩ := h1
          simp only [rnB, loBox, List.mem_append, List.mem_cons, List.not_mem_nil, or_false] at hp
          rcases hp with (h | h) | hp | hp
          · rw [h]; trivial
          · rw [h]; exact ones_rns h2
          · rw [flat_nil_of fun c hc => (frz1_out (h4 c hc)).2] at hp; cases hp
          · rw [map_id_of fun c hc => (frz1_out (h4 c hc)).1, uns_rns h3] at hp
            exact los_refl _ p hp
    | a i b => exact hv p (List.mem_append_right _ (List.mem_flatMap.2 ⟨_, hb, hp⟩))

theorem sub_wkm {np : Nat} {st : AS} (ρ ids : List Nat) (sps : List Sp) (bps : List Bp) {vcs : List Prop} {sl2 : List (Nat × AV)} {bx2 : List (Nat × BoxSt)} (h : wkm np st ρ ids sps bps = some (vcs, sl2, bx2)) (hv : AllP vcs) :
    Sub np st (mk sl2 bx2 ρ.length) := by
  obtain ⟨vcs', h1, h2⟩ := relT_wkm h hv
  exact sub_wk ρ ids sl2 bx2 h1 h2

theorem aw_rangeMapM {P : Program} {N np : Nat} {c : Code} {K : Exit → AS → Prop} {st : AS} (R : RS) (id : Nat) {ag : Bool} {ks : List KSh} {l : List (AV × AV)}
    (ρ : List Nat) (sps : List Sp) (bps : List Bp) {sl2 : List (Nat × AV)} {bx2 : List (Nat × BoxSt)} {vcs : List Prop}
    (hs : rangeCode P N c R = true) (hm : st.slot R.tm = .mp id) (hb : st.box id = .live (.map ag ks l)) (hid : ρ.any (Nat.beq id) = false)
    (hwk : wkm np st ρ [] sps bps = some (vcs, sl2, bx2)) (hv : AllP vcs) (hlive : okBoxes bx2 ρ.length = true) (hnp : Nat.ble np ρ.length = true)
    (Inv : Nat → List (AV × AV) → AS → Prop)
    (h0 : ∀ r, ∃ s2, Sub ρ.length (((mk sl2 bx2 ρ.length).put R.t0 .junk).put R.ti (.raw r)) s2 ∧ Inv r l s2)
    (hI : ∀ r left s, Inv r left s → s.slot R.ti = .raw r ∧ ∃ sl bx, s = mk sl bx ρ.length ∧ okBoxes bx ρ.length = true)
    (hend : ∀ r s, Inv r [] s → K .normal ((s.put R.tn .junk).put R.tok .junk))
    (hstep : ∀ r left s (i : Nat) (kv : AV × AV), Inv r left s → left[i]? = some kv → AW P N ρ.length (rangeRest c)
      (blockK R.b3 fun e s' => match e with | .normal => ∃ s2, Sub ρ.length s' s2 ∧ Inv r (left.eraseIdx i) s2 | e => blockK R.blk K e s')
      (((((((s.put R.tn .junk).put R.tok .junk).put R.te .junk).put R.tx kv.1).put R.ty kv.2).put R.tk kv.1).put R.tv kv.2)) :
    AW P N np c K st := by
  obtain ⟨_, h1, h2⟩ := relT_wkm hwk hv
  exact aw_rangeMap R id ρ sl2 bx2 hs hm hb hid h1 h2 hlive hnp Inv h0 hI hend hstep

theorem an : AllP [] := trivial
theorem ac {p : Prop} {r : List Prop} (h : p) (t : AllP r) : AllP (p :: r) := ⟨h, t⟩
end Go.Ab
