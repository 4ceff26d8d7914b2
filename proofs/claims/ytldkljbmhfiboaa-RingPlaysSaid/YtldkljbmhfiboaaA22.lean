/- A state seen otherwise: less known, other names, rows given away. -/
import Derived.Test.YtldkljbmhfiboaaA21
namespace Go.Ab
open Go

def Sub (np : Nat) (st st2 : AS) : Prop := ∀ G a w, G.foot.length = np → Rel G st a w → Rel G st2 a w

theorem aw_sub {P : Program} {N np : Nat} {c : Code} {K : Exit → AS → Prop} {st st2 : AS} (hs : Sub np st st2) (h : AW P N np c K st2) : AW P N np c K st :=
  fun G a w hN hnp hR => h G a w hN hnp (hs G a w hnp hR)

/-- One reading of a cell serves for another. -/
def lo1 (x y : AV) : List Prop :=
  match x, y with
  | .nilsl, .sl _ _ l => [l = []]
  | .sl f s l, .sl f' s' l' => [s = s', l = l', (!f' || f) = true]
  | _, .junk => []
  | x, y => [x = y]

def los : List AV → List AV → List Prop
  | [], [] => []
  | x :: r, y :: s => lo1 x y ++ los r s
  | _, _ => [False]

def loA (x y : AV) : List Prop :=
  match x, y with
  | .agg cs, .agg ds => los cs ds
  | x, y => lo1 x y

def losA : List AV → List AV → List Prop
  | [], [] => []
  | x :: r, y :: s => loA x y ++ losA r s
  | _, _ => [False]

def loT (x y : AV) : List Prop :=
  match x, y with
  | .tuple cs, .tuple ds => losA cs ds
  | x, y => loA x y

theorem lo1_rep {w : World} {I : Nat → Prop} {T : Tbl} {v : Value} {x y : AV} (h : Rep w I T v x) (hl : ∀ p ∈ lo1 x y, p) : Rep w I T v y := by
  unfold lo1 at hl
  split at hl
  · rename_i f s l
    have : l = [] := hl _ (by simp)
    subst this
    cases h
    exact .sl0 (by simp [maxLen]) (fun _ => rfl)
  · rename_i f s l f' s' l'
    have e1 : s = s' := hl _ (by simp)
    have e2 : l = l' := hl _ (by simp)
    have e3 : (!f' || f) = true := hl _ (by simp)
    subst e1; subst e2
    have imp : f' = true → f = true := by
      intro hf; rw [hf] at e3; simpa using e3
    cases h with
    | sl0 a b => exact .sl0 a (fun hf => b (imp hf))
    | sl g h1 h2 h3 h4 h5 h6 h7 h8 h9 h10 => exact .sl g h1 h2 h3 (fun hf => h4 (imp hf)) h5 h6 h7 h8 h9 h10
  · exact .junk
  · have := hl (x = y) (by simp)
    rw [← this]; exact h

theorem los_spec {xs ys : List AV} (h : ∀ p ∈ los xs ys, p) : xs.length = ys.length ∧ ∀ (j : Nat) (x y : AV), xs[j]? = some x → ys[j]? = some y → ∀ p ∈ lo1 x y, p := by
  induction xs generalizing ys with
  | nil =>
    cases ys with
    | nil => exact ⟨rfl, fun j x y hj => by simp at hj⟩
    | cons b s => exact (h False (by simp [los])).elim
  | cons a r ih =>
    cases ys with
    | nil => exact (h False (by simp [los])).elim
    | cons b s =>
      simp only [los, List.mem_append] at h
      obtain ⟨k1, k2⟩ := ih (ys := s) (fun p hp => h p (.inr hp))
      refine ⟨by simp [k1], fun j x y hx hy p hp => ?_⟩
      cases j with
      | zero => simp at hx hy; subst hx; subst hy; exact h p (.inl hp)
      | succ j => exact k2 j x y (by simpa using hx) (by simpa using hy) p hp

theorem losA_spec {xs ys : List AV} (h : ∀ p ∈ losA xs ys, p) : xs.length = ys.length ∧ ∀ (j : Nat) (x y : AV), xs[j]? = some x → ys[j]? = some y → ∀ p ∈ loA x y, p := by
  induction xs generalizing ys with
  | nil =>
    cases ys with
    | nil => exact ⟨rfl, fun j x y hj => by simp at hj⟩
    | cons b s => exact (h False (by simp [losA])).elim
  | cons a r ih =>
    cases ys with
    | nil => exact (h False (by simp [losA])).elim
    | cons b s =>
      simp only [losA, List.mem_append] at h
      obtain ⟨k1, k2⟩ := ih (ys := s) (fun p hp => h p (.inr hp))
      refine ⟨by simp [k1], fun j x y hx hy p hp => ?_⟩
      cases j with
      | zero => simp at hx hy; subst hx; subst hy; exact h p (.inl hp)
      | succ j => exact k2 j x y (by simpa using hx) (by simpa using hy) p hp

def onesA : AV → Bool
  | .agg ds => ones ds
  | _ => true
def onesT : AV → Bool
  | .tuple vs => vs.all onesA
  | v => onesA v

theorem loA_rep {w : World} {I : Nat → Prop} {T : Tbl} {v : Value} {x y : AV} (h : Rep w I T v x) (hl : ∀ p ∈ loA x y, p) (h1 : onesA y = true) : Rep w I T v y := by
  unfold loA at hl
  split at hl
  · rename_i cs ds
    obtain ⟨k1, k2⟩ := los_spec hl
    cases h with
    | agg a b c =>
      refine .agg (by rw [a, k1]) (ones_mem h1) fun j y hy => ?_
      have hlt : j < cs.length := by
        rw [k1]
        rcases Nat.lt_or_ge j ds.length with h' | h'
        · exact h'
        · rw [List.getElem?_eq_none h'] at hy; cases hy
      exact lo1_rep (c j _ (List.getElem?_eq_getElem hlt)) (k2 j _ y (List.getElem?_eq_getElem hlt) hy)
  · exact lo1_rep h hl

theorem loT_rep {w : World} {I : Nat → Prop} {T : Tbl} {v : Value} {x y : AV} (h : Rep w I T v x) (hl : ∀ p ∈ loT x y, p) (h1 : onesT y = true) : Rep w I T v y := by
  unfold loT at hl
  split at hl
  · rename_i cs ds
    obtain ⟨k1, k2⟩ := losA_spec hl
    simp only [onesT, List.all_eq_true] at h1
    cases h with
    | tuple a c =>
      refine .tuple (by rw [a, k1]) fun j y hy => ?_
      have hlt : j < cs.length := by
        rw [k1]
        rcases Nat.lt_or_ge j ds.length with h' | h'
        · exact h'
        · rw [List.getElem?_eq_none h'] at hy; cases hy
      exact loA_rep (c j _ (List.getElem?_eq_getElem hlt)) (k2 j _ y (List.getElem?_eq_getElem hlt) hy) (h1 y (List.mem_of_getElem? hy))
  · rename_i hno
    by_cases hy : ∃ ds, y = .tuple ds
    · obtain ⟨ds, rfl⟩ := hy
      have e : loA x (.tuple ds) = lo1 x (.tuple ds) := by cases x <;> rfl
      rw [e] at hl
      exact lo1_rep h hl
    · refine loA_rep h hl ?_
      cases y <;> first | exact h1 | exact absurd ⟨_, rfl⟩ hy

def belowBS (n : Nat) : BoxSt → Bool
  | .live b => belowB n b
  | _ => true

def loBox (B : Nat → BoxSt) (ids ρ : List Nat) (b : BoxSt) (b2 : BoxSt) : List Prop :=
  match b, b2 with
  | .live (.var t cs), .live (.var t' ds) => [t = t', ones ds = true] ++ (cs.flatMap (frzVC1 B ids) ++ los (cs.map (frz1 B ids)) (uns ρ ds))
  | .live (.row e s l), .live (.row e' s' l') => [e = e', s = s', l = l']
  | .live (.map a k l), .live (.map a' k' l') => [a = a', k = k', l = l']
  | _, .dead => []
  | _, _ => [False]

def listBeq : List Nat → List Nat → Bool
  | [], [] => true
  | a :: r, b :: s => Nat.beq a b && listBeq r s
  | _, _ => false

theorem listBeq_eq {a b : List Nat} (h : listBeq a b = true) : a = b := by
  induction a generalizing b with
  | nil => cases b <;> simp_all [listBeq]
  | cons x r ih =>
    cases b with
    | nil => simp [listBeq] at h
    | cons y s =>
      simp only [listBeq, Bool.and_eq_true] at h
      rw [nbeq.1 h.1, ih h.2]

/-- The other view: 'ρ': the old names, in the order of the new ones; 'ids': rows given away. -/
def wkOut (np : Nat) (st : AS) (ρ ids : List Nat) (sl2 : List (Nat × AV)) (bx2 : List (Nat × BoxSt)) : Option (List Prop) :=
  bif ((nodupB ρ && listBeq (ρ.take np) (List.range np)) && (ids.all fun i => liveRow (st.box i) && Nat.ble np i)) &&
      ((sl2.all fun x => (below ρ.length x.2 && onesT x.2) && whole (frz st.box ids (st.slot x.1))) &&
       (bx2.all fun x => (Nat.blt x.1 ρ.length && belowBS ρ.length x.2) && (match x.2 with | .live (.row ..) => !(ids.any (Nat.beq (ρ.getD x.1 0))) | .unused => false | _ => true))) then
    some (sl2.flatMap (fun x => frzVC st.box ids (st.slot x.1) ++ loT (frz st.box ids (st.slot x.1)) (un ρ x.2)) ++
      bx2.flatMap (fun x => loBox st.box ids ρ (st.box (ρ.getD x.1 0)) x.2))
  else none

theorem un_ones {ρ : List Nat} {cs : List AV} : ones (uns ρ cs) = ones cs := by
  induction cs with
  | nil => rfl
  | cons a r ih => simp [uns, ones, un_one, ih]

theorem un_onesA {ρ : List Nat} {a : AV} : onesA (un ρ a) = onesA a := by cases a <;> simp [un, onesA, un_ones]

theorem un_onesT {ρ : List Nat} {a : AV} : onesT (un ρ a) = onesT a := by
  cases a with
  | tuple vs =>
    simp only [un, onesT]
    induction vs with
    | nil => rfl
    | cons x r ih => simp [uns, un_onesA, ih]
  | agg cs => simp [un, onesT, onesA, un_ones]
  | _ => rfl

theorem look_mem {sl : List (Nat × AV)} {t : Nat} : look sl t = .junk ∨ (t, look sl t) ∈ sl := by
  induction sl with
  | nil => exact .inl rfl
  | cons x r ih =>
    obtain ⟨k, v⟩ := x
    simp only [look]
    cases h : Nat.beq t k
    · rcases ih with h' | h'
      · exact .inl h'
      · exact .inr (by simp [h'])
    · rw [nbeq.1 h]; exact .inr (by simp)

theorem lookB_mem {bx : List (Nat × BoxSt)} {i : Nat} {d : BoxSt} : (i ∉ bx.map (·.1) ∧ lookB bx i d = d) ∨ (i, lookB bx i d) ∈ bx := by
  induction bx with
  | nil => exact .inl ⟨by simp, rfl⟩
  | cons x r ih =>
    obtain ⟨k, v⟩ := x
    simp only [lookB]
    cases h : Nat.beq i k
    · have hne : i ≠ k := fun e => by subst e; simp at h
      rcases ih with ⟨h1, h2⟩ | h'
      · exact .inl ⟨by simp only [List.map_cons, List.mem_cons, not_or]; exact ⟨hne, h1⟩, h2⟩
      · exact .inr (by simp [h'])
    · rw [nbeq.1 h]; exact .inr (by simp)

theorem wk_live {np : Nat} {st : AS} {ρ ids : List Nat} {sl2 : List (Nat × AV)} {bx2 : List (Nat × BoxSt)} {vcs : List Prop} (h : wkOut np st ρ ids sl2 bx2 = some vcs) (hv : AllP vcs)
    {i : Nat} {bx : Box} (hl : (mk sl2 bx2 ρ.length).box i = .live bx) : ∃ (id : Nat) (bx0 : Box), ρ[i]? = some id ∧ st.box id = .live bx0 := by
  unfold wkOut at h
  replace h := bif_some h; obtain ⟨hc, h⟩ := h
  simp only [Bool.and_eq_true, List.all_eq_true] at hc
  obtain ⟨_, _, hbx⟩ := hc
  simp only [Option.some.injEq] at h
  subst h
  have hv := allP hv
  have hm : (i, BoxSt.live bx) ∈ bx2 := by
    simp only [mk] at hl
    rcases lookB_mem (bx := bx2) (i := i) (d := bif Nat.blt i ρ.length then BoxSt.dead else .unused) with ⟨_, h⟩ | h
    · rw [h] at hl
      cases hlt : Nat.blt i ρ.length <;> rw [hlt] at hl <;> cases hl
    · rw [hl] at h; exact h
  have h1 := hbx _ hm
  have hlt : i < ρ.length := by have := h1.1.1; simp [Nat.blt] at this; omega
  have hid : ρ[i]? = some (ρ.getD i 0) := by simp [List.getD, hlt]
  have hvc : ∀ p ∈ loBox st.box ids ρ (st.box (ρ.getD i 0)) (.live bx), p := fun p hp => hv p (List.mem_append_right _ (List.mem_flatMap.2 ⟨_, hm, hp⟩))
  generalize hst : st.box (ρ.getD i 0) = b0 at hvc
  cases b0 with
  | unused => exact (hvc False (by simp [loBox])).elim
  | dead => exact (hvc False (by simp [loBox])).elim
  | live bb => exact ⟨_, bb, hid, hst⟩

theorem relT_wk {np : Nat} {st : AS} (ρ ids : List Nat) (sl2 : List (Nat × AV)) (bx2 : List (Nat × BoxSt)) {vcs : List Prop} (h : wkOut np st ρ ids sl2 bx2 = some vcs) (hv : AllP vcs)
    {G : Ghost} {a : Act} {w : World} {T : Tbl} (hnp : G.foot.length = np) (hT : RelT G st T a w) : RelT G (mk sl2 bx2 ρ.length) (Tc ρ T) a w := by
  unfold wkOut at h
  replace h := bif_some h; obtain ⟨hc, h⟩ := h
  simp only [Bool.and_eq_true, List.all_eq_true] at hc
  obtain ⟨⟨⟨hnd, hrange⟩, hids⟩, hsl, hbx⟩ := hc
  have hrange := listBeq_eq hrange
  simp only [Option.some.injEq] at h
  subst h
  have hv := allP hv
  -- boxes of the new state
  have boxOf : ∀ i bx, (mk sl2 bx2 ρ.length).box i = .live bx → (i, BoxSt.live bx) ∈ bx2 := by
    intro i bx hl
    simp only [mk] at hl
    rcases lookB_mem (bx := bx2) (i := i) (d := bif Nat.blt i ρ.length then BoxSt.dead else .unused) with ⟨_, h⟩ | h
    · rw [h] at hl
      cases hlt : Nat.blt i ρ.length <;> rw [hlt] at hl <;> cases hl
    · rw [hl] at h; exact h
  have newBox : ∀ (i : Nat) (bx : Box), (i, BoxSt.live bx) ∈ bx2 → ∃ (id : Nat) (bx0 : Box), ρ[i]? = some id ∧ st.box id = .live bx0 ∧ id ∉ ids := by
    intro i bx hm
    have h1 := hbx _ hm
    have hlt : i < ρ.length := by have := h1.1.1; simp [Nat.blt] at this; omega
    have hid : ρ[i]? = some (ρ.getD i 0) := by simp [List.getD, hlt]
    have hvc : ∀ p ∈ loBox st.box ids ρ (st.box (ρ.getD i 0)) (.live bx), p := fun p hp => hv p (List.mem_append_right _ (List.mem_flatMap.2 ⟨_, hm, hp⟩))
    generalize hst : st.box (ρ.getD i 0) = b0 at hvc
    cases b0 with
    | unused => exact (hvc False (by simp [loBox])).elim
    | dead => exact (hvc False (by simp [loBox])).elim
    | live bb =>
      refine ⟨_, bb, hid, hst, fun hmem => ?_⟩
      cases bb with
      | var t cs => have := (hids _ hmem).1; rw [hst] at this; simp [liveRow] at this
      | map ag ks l => have := (hids _ hmem).1; rw [hst] at this; simp [liveRow] at this
      | row e s l =>
        cases bx with
        | var t cs => exact hvc False (by simp [loBox])
        | map ag ks l => exact hvc False (by simp [loBox])
        | row e' s' l' =>
          have h2 := h1.2
          simp only [Bool.not_eq_true'] at h2
          rw [mem_any hmem] at h2; cases h2
  have hlen_np : np ≤ ρ.length := by
    have := congrArg List.length hrange
    simp at this; omega
  have hfirst : ∀ i, i < np → ρ[i]? = some i := by
    intro i hi
    have := congrArg (·[i]?) hrange
    simp only [List.getElem?_take, if_pos hi, List.getElem?_range hi] at this
    exact this
  have hTc : ∀ (i id : Nat), ρ[i]? = some id → Tc ρ T i = T id := by
    intro i id hi
    simp [Tc, hi]
  have himm : ∀ b, imm G st T b → imm G (mk sl2 bx2 ρ.length) (Tc ρ T) b := by
    intro b hb
    refine ⟨hb.1, fun i bx cap hl hTi => ?_⟩
    obtain ⟨id, bx0, h1, h2, _⟩ := newBox i bx (boxOf i bx hl)
    rw [hTc i id h1] at hTi
    exact hb.2 id bx0 cap h2 hTi
  have hidI : ∀ id b cap, id ∈ ids → T id = some (.at b cap) → imm G (mk sl2 bx2 ρ.length) (Tc ρ T) b := by
    intro id b cap hmem hTi
    have hl := (hids id hmem).1
    obtain ⟨bx0, hb0⟩ : ∃ bx0, st.box id = .live bx0 := by
      cases hb : st.box id <;> rw [hb] at hl <;> simp [liveRow] at hl
      exact ⟨_, rfl⟩
    refine ⟨.inr (hT.mine id bx0 b cap hb0 hTi (by have := ble_le (hids id hmem).2; omega)), fun i bx cap' hl' hTi' => ?_⟩
    obtain ⟨id', bx', h1, h2, h3⟩ := newBox i bx (boxOf i bx hl')
    rw [hTc i id' h1] at hTi'
    have := hT.apart id id' bx0 bx' b cap cap' hb0 h2 hTi hTi'
    exact h3 (this ▸ hmem)
  refine ⟨hT.defers, hT.size, ?_, ?_, ?_, ?_, ?_, ?_, hT.kept⟩
  · intro t
    simp only [mk]
    rcases look_mem (sl := sl2) (t := t) with h | h
    · rw [h]; exact .junk
    · generalize look sl2 t = av2 at h
      have hc := hsl _ h
      have hvc := fun p hp => hv p (List.mem_append_left _ (List.mem_flatMap.2 ⟨_, h, hp⟩))
      have h1 := frz_rep hT (B := st.box) (ids := ids) (fun _ _ => rfl) (fun b hb => himm b hb) hidI (hT.slots t) (fun p hp => hvc p (List.mem_append_left _ hp)) hc.2
      have h2 := loT_rep h1 (fun p hp => hvc p (List.mem_append_right _ hp)) (by rw [un_onesT]; exact hc.1.2)
      exact un_rep h2 av2 rfl hc.1.1
  · intro i bx hl
    have hm := boxOf i bx hl
    obtain ⟨id, bx0, h1, h2, h3⟩ := newBox i bx hm
    have hc := hbx _ hm
    have hid : ρ.getD i 0 = id := by simp [List.getD, h1]
    have hvc : ∀ p ∈ loBox st.box ids ρ (st.box (ρ.getD i 0)) (.live bx), p := fun p hp => hv p (List.mem_append_right _ (List.mem_flatMap.2 ⟨_, hm, hp⟩))
    rw [hid, h2] at hvc
    rw [hTc i id h1]
    have hok := hT.boxes id bx0 h2
    have hbel : belowB ρ.length bx = true := hc.1.2
    refine un_box ?_ hbel
    cases bx0 with
    | var t cs =>
      cases bx with
      | row e' s' l' => exact (hvc False (by simp [loBox])).elim
      | map ag ks l => exact (hvc False (by simp [loBox])).elim
      | var t' ds =>
        simp only [loBox, List.mem_append] at hvc
        have e1 : t = t' := hvc _ (.inl (by simp))
        have e2 : ones ds = true := hvc _ (.inl (by simp))
        subst e1
        obtain ⟨k1, k2⟩ := los_spec (fun p hp => hvc p (.inr (.inr hp)))
        obtain ⟨b, C, p1, p2, p3, p4, p5⟩ := hok
        refine ⟨b, C, p1, p2, by rw [p3, ← k1]; simp, uns_one.2 (ones_mem e2), fun j c hj => ?_⟩
        have hlt : j < cs.length := by
          have : j < (uns ρ ds).length := by
            rcases Nat.lt_or_ge j (uns ρ ds).length with h' | h'
            · exact h'
            · rw [List.getElem?_eq_none h'] at hj; cases hj
          rw [← k1] at this; simpa using this
        have hcj := List.getElem?_eq_getElem hlt
        have h1' := frz1_rep hT (B := st.box) (ids := ids) (fun _ _ => rfl) (fun b hb => himm b hb) hidI (p5 j _ hcj) (fun p hp => hvc p (.inr (.inl (List.mem_flatMap.2 ⟨_, List.mem_of_getElem? hcj, hp⟩))))
        exact lo1_rep h1' (k2 j _ c (by rw [List.getElem?_map, hcj]; rfl) hj)
    | row e s l =>
      cases bx with
      | var t' ds => exact (hvc False (by simp [loBox])).elim
      | map ag ks l => exact (hvc False (by simp [loBox])).elim
      | row e' s' l' =>
        have e1 : e = e' := hvc _ (by simp [loBox])
        have e2 : s = s' := hvc _ (by simp [loBox])
        have e3 : l = l' := hvc _ (by simp [loBox])
        subst e1; subst e2; subst e3
        exact hok.mono (Nat.le_refl _) (fun _ _ _ => rfl) (fun b hb _ => himm b hb) (fun _ _ h => h) (fun _ _ _ _ => rfl)
    | map ag ks l =>
      cases bx with
      | var t' ds => exact (hvc False (by simp [loBox])).elim
      | row e s l' => exact (hvc False (by simp [loBox])).elim
      | map ag' ks' l' =>
        have e1 : ag = ag' := hvc _ (by simp [loBox])
        have e2 : ks = ks' := hvc _ (by simp [loBox])
        have e3 : l = l' := hvc _ (by simp [loBox])
        subst e1; subst e2; subst e3
        exact hok.mono (Nat.le_refl _) (fun _ _ _ => rfl) (fun b hb _ => himm b hb) (fun _ _ h => h) (fun _ _ _ _ => rfl)
  · intro i hu
    simp only [mk] at hu
    rcases lookB_mem (bx := bx2) (i := i) (d := bif Nat.blt i ρ.length then BoxSt.dead else .unused) with ⟨_, h⟩ | h
    · rw [h] at hu
      cases hlt : Nat.blt i ρ.length <;> rw [hlt] at hu
      · have hge : ρ.length ≤ i := by
          rcases Nat.lt_or_ge i ρ.length with h' | h'
          · have : Nat.blt i ρ.length = true := by simp [Nat.blt]; omega
            rw [this] at hlt; cases hlt
          · exact h'
        simp [Tc, List.getElem?_eq_none hge]
      · cases hu
    · rw [hu] at h
      have := (hbx _ h).2
      simp at this
  · intro i1 i2 b1 b2 b c1 c2 h1 h2 t1 t2
    obtain ⟨id1, x1, e1, l1, _⟩ := newBox i1 b1 (boxOf i1 b1 h1)
    obtain ⟨id2, x2, e2, l2, _⟩ := newBox i2 b2 (boxOf i2 b2 h2)
    rw [hTc i1 id1 e1] at t1
    rw [hTc i2 id2 e2] at t2
    have := hT.apart id1 id2 x1 x2 b c1 c2 l1 l2 t1 t2
    subst this
    exact nodupB_get hnd e1 e2
  · intro i bx b cap hl hTi hge
    obtain ⟨id, x0, e1, l1, _⟩ := newBox i bx (boxOf i bx hl)
    rw [hTc i id e1] at hTi
    refine hT.mine id x0 b cap l1 hTi ?_
    rcases Nat.lt_or_ge id np with h' | h'
    · have := nodupB_get hnd (hfirst id h') e1
      omega
    · omega
  · intro i p hp
    have hi : i < np := by
      rw [← hnp]
      rcases Nat.lt_or_ge i G.foot.length with h' | h'
      · exact h'
      · rw [List.getElem?_eq_none h'] at hp; cases hp
    rw [hTc i i (hfirst i hi)]
    exact hT.foot i p hp

theorem sub_wk {np : Nat} {st : AS} (ρ ids : List Nat) (sl2 : List (Nat × AV)) (bx2 : List (Nat × BoxSt)) {vcs : List Prop} (h : wkOut np st ρ ids sl2 bx2 = some vcs) (hv : AllP vcs) :
    Sub np st (mk sl2 bx2 ρ.length) := by
  rintro G a w hnp ⟨T, hT⟩
  exact ⟨Tc ρ T, relT_wk ρ ids sl2 bx2 h hv hnp hT⟩
end Go.Ab
