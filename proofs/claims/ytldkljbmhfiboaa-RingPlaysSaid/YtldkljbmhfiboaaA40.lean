/- A range over a map of the call's own: the rounds come in an order that nobody knows. -/
import Derived.Test.YtldkljbmhfiboaaA39
import Derived.Maps.RangeRun
namespace Go.Ab
open Go
open Go.ChangeMaps (setBlock)

def AS.put (st : AS) (d : Nat) (av : AV) : AS := ⟨fun k => bif Nat.beq k d then av else st.slot k, st.box⟩

theorem RelT.put {G : Ghost} {st : AS} {T : Tbl} {a : Act} {w : World} (h : RelT G st T a w) {d : Nat} {v : Value} {av : AV} (hd : d < G.n) (hr : Rep w (imm G st T) T v av) :
    RelT G (st.put d av) T (a.put (some d) v) w := by
  refine ⟨h.defers, by simp [Act.put, h.size], fun t => ?_, h.boxes, h.unused, h.apart, h.mine, h.foot, h.kept⟩
  rw [tmps_put t (by rw [h.size]; exact hd)]
  simp only [AS.put]
  by_cases e : t = d
  · subst e; rw [if_pos rfl, nbeq_self]; exact hr
  · rw [if_neg e, nbeq_false e]; exact h.slots t

/-- The blocks of a state as what a part of the code is handed; 'sc': blocks that may turn, and of which nobody knows. -/
def reG (sc : Nat → Prop) (G : Ghost) (S : AS) (T : Tbl) (k : Nat) (w w1 : World) : Ghost :=
  { w0 := w1, I0 := fun b => imm G S T b ∧ b < w.heap.size, foot := (List.range k).map fun i => (T i).getD .nil, n := G.n, scr := sc }

theorem foot_get {sc : Nat → Prop} {G : Ghost} {S : AS} {T : Tbl} {k : Nat} {w w1 : World} {i : Nat} {p : Place} (h : (reG sc G S T k w w1).foot[i]? = some p) : i < k ∧ p = (T i).getD .nil := by
  simp only [reG, List.getElem?_map] at h
  have hi : i < k := by
    rcases Nat.lt_or_ge i k with h' | h'
    · exact h'
    · rw [List.getElem?_eq_none (by simpa using h')] at h; cases h
  rw [List.getElem?_range hi] at h
  injection h with h
  exact ⟨hi, h.symm⟩

theorem foot_mem {sc : Nat → Prop} {G : Ghost} {S : AS} {T : Tbl} {k : Nat} {w w1 : World} {a : Act} (hT : RelT G S T a w) (hlive : ∀ i, i < k → ∃ bx, S.box i = .live bx) {b cap : Nat} (h : Place.at b cap ∈ (reG sc G S T k w w1).foot) :
    ∃ i bx, i < k ∧ S.box i = .live bx ∧ T i = some (.at b cap) := by
  obtain ⟨i, hi⟩ := List.mem_iff_getElem?.1 h
  obtain ⟨h1, h2⟩ := foot_get hi
  obtain ⟨bx, hb⟩ := hlive i h1
  have hok := hT.boxes i bx hb
  cases hTi : T i with
  | none => rw [hTi] at hok; exact hok.no.elim
  | some p => rw [hTi] at h2; simp only [Option.getD_some] at h2; exact ⟨i, bx, h1, hb, by rw [hTi, h2]⟩

theorem reghost (sc : Nat → Prop) {G : Ghost} {S : AS} {T : Tbl} {a : Act} {w w1 : World} {k : Nat} (hT : RelT G S T a w) (hlive : ∀ i, i < k → ∃ bx, S.box i = .live bx) (hrest : ∀ i, k ≤ i → S.box i = .unused)
    (hsz : w.heap.size ≤ w1.heap.size) (hold : ∀ b, b < w.heap.size → w1.heap[b]? = w.heap[b]?) : RelT (reG sc G S T k w w1) S T a w1 := by
  have himm : ∀ b, imm G S T b → b < w.heap.size → imm (reG sc G S T k w w1) S T b := fun b hb hlt => ⟨.inl ⟨hb, hlt⟩, hb.2⟩
  refine ⟨hT.defers, hT.size, fun t => (hT.slots t).mono hsz (fun b _ hlt => hold b hlt) himm (fun _ _ h => h), ?_, hT.unused, hT.apart, ?_, ?_, ⟨rfl, rfl, rfl, Nat.le_refl _, fun _ _ _ _ => rfl⟩⟩
  · intro id bx hl
    exact (hT.boxes id bx hl).mono hsz (fun b _ hlt => hold b hlt) himm (fun _ _ h => h) (fun b _ _ hlt => hold b hlt)
  · intro id bx b cap hl hTi hge
    simp only [reG, List.length_map, List.length_range] at hge
    rw [hrest id hge] at hl; cases hl
  · intro i p hp
    obtain ⟨h1, h2⟩ := foot_get hp
    obtain ⟨bx, hb⟩ := hlive i h1
    have hok := hT.boxes i bx hb
    cases hTi : T i with
    | none => rw [hTi] at hok; exact hok.no.elim
    | some q => rw [hTi] at h2; rw [h2]; rfl

theorem unghost {sc : Nat → Prop} {G : Ghost} {S : AS} {T : Tbl} {a : Act} {w w1 : World} {k : Nat} (hsc : ∀ b, sc b → w.heap.size ≤ b ∨ G.scr b) (hT : RelT G S T a w) (hlive : ∀ i, i < k → ∃ bx, S.box i = .live bx) (hk : G.foot.length ≤ k)
    (hos : w1.os = w.os) (htape : w1.tape = w.tape) (hout : w1.output = w.output) (hsz : w.heap.size ≤ w1.heap.size) (hold : ∀ b, b < w.heap.size → w1.heap[b]? = w.heap[b]?)
    {S' : AS} {a' : Act} {w' : World} (h : Rel (reG sc G S T k w w1) S' a' w') : Rel G S' a' w' := by
  obtain ⟨T', h⟩ := h
  have hle := hT.kept.size
  have himm : ∀ b, imm (reG sc G S T k w w1) S' T' b → imm G S' T' b := by
    intro b hb
    refine ⟨?_, hb.2⟩
    rcases hb.1 with ⟨h1, _⟩ | h1 | h1
    · exact h1.1
    · simp only [reG] at h1; exact .inr (.inl (by omega))
    · exact h1.elim
  refine ⟨T', h.defers, h.size, fun t => (h.slots t).mono (Nat.le_refl _) (fun _ _ _ => rfl) (fun b hb _ => himm b hb) (fun _ _ h => h), ?_, h.unused, h.apart, ?_, ?_, ?_⟩
  · intro id bx hl
    exact (h.boxes id bx hl).mono (Nat.le_refl _) (fun _ _ _ => rfl) (fun b hb _ => himm b hb) (fun _ _ h => h) (fun _ _ _ _ => rfl)
  · intro id bx b cap hl hTi hge
    rcases Nat.lt_or_ge id k with hlt | hge'
    · have hf : (reG sc G S T k w w1).foot[id]? = some ((T id).getD .nil) := by simp [reG, hlt]
      have := h.foot id _ hf
      rw [hTi] at this
      injection this with this
      obtain ⟨bx0, hb0⟩ := hlive id hlt
      have hok := hT.boxes id bx0 hb0
      cases hTi0 : T id with
      | none => rw [hTi0] at hok; exact hok.no.elim
      | some q =>
        rw [hTi0] at this
        simp only [Option.getD_some] at this
        exact hT.mine id bx0 b cap hb0 (by rw [hTi0, this]) hge
    · rcases h.mine id bx b cap hl hTi (by simp only [reG, List.length_map, List.length_range]; exact hge') with h1 | h1
      · simp only [reG] at h1; exact .inl (by omega)
      · exact h1.elim
  · intro i p hp
    have hi : i < G.foot.length := by
      rcases Nat.lt_or_ge i G.foot.length with h' | h'
      · exact h'
      · rw [List.getElem?_eq_none h'] at hp; cases hp
    have hf : (reG sc G S T k w w1).foot[i]? = some p := by
      have := hT.foot i p hp
      simp [reG, show i < k by omega, this]
    exact h.foot i p hf
  · refine ⟨?_, ?_, ?_, Nat.le_trans hle (Nat.le_trans hsz h.kept.size), fun b hb hn hn2 => ?_⟩
    · rw [h.kept.os]; show w1.os = _; rw [hos]; exact hT.kept.os
    · rw [h.kept.tape]; show w1.tape = _; rw [htape]; exact hT.kept.tape
    · rw [h.kept.output]; show w1.output = _; rw [hout]; exact hT.kept.output
    · have h1 : ¬ (reG sc G S T k w w1).has b := by
        rintro ⟨cap, hm⟩
        obtain ⟨i, bx, hi, hl, hTi⟩ := foot_mem hT hlive hm
        rcases Nat.lt_or_ge i G.foot.length with hlt | hge
        · have := hT.foot i _ (List.getElem?_eq_getElem hlt)
          rw [hTi] at this
          injection this with this
          exact hn ⟨cap, by rw [this]; exact List.getElem_mem hlt⟩
        · rcases hT.mine i bx b cap hl hTi hge with h' | h'
          · omega
          · exact hn2 (.inl h')
      have := h.kept.block b (show b < w1.heap.size by omega) h1 (fun h => by
        rcases h with h | h
        · exact h.elim
        · rcases hsc b h with h' | h'
          · omega
          · exact hn2 (.inr h'))
      rw [this]
      show w1.heap[b]? = _
      rw [hold b (by omega)]
      exact hT.kept.block b hb hn hn2

theorem wpl_val {P : Program} {ops : Array Oper} {Q : Exit → Act → World → Prop} {rest : List Oper} {o : Oper} {a : Act} {w w' : World} {v : Value} (hg : o.guard = none)
    (h : (execOp a.eval o).run P w = .ok (.value v) w') (hk : wpList P ops Q rest (a.put o.dst v) w') : wpList P ops Q (o :: rest) a w := by
  unfold wpList
  rw [if_pos (by simp [Region.wanted, hg])]
  exact .inl (wp_value h hk)

theorem wp_loopI {P : Program} {Q : Exit → Act → World → Prop} {body : Code} (I : Nat → Act → World → Prop) (n : Nat) {a : Act} {w : World} (h0 : I n a w)
    (h : ∀ n a w, I n a w → body.wp P (fun e a' w' => match e with | .normal => ∃ m, m < n ∧ I m a' w' | e => Q e a' w') a w) : (Code.loop body).wp P Q a w := by
  intro b k cs
  have key : ∀ n a w, I n a w → ∃ e a' w', Q e a' w' ∧ Arrives P (lone (b.at a (.code body :: .inLoop body :: k)) cs w) b k cs e a' w' := by
    intro n
    induction n using Nat.strongRecOn with
    | _ n ih =>
      intro a w hI
      obtain ⟨e, a₁, w₁, hq, harr⟩ := h n a w hI b (.inLoop body :: k) cs
      cases e with
      | normal =>
        obtain ⟨m, hlt, hI'⟩ := hq
        obtain ⟨e₂, a₂, w₂, hq₂, harr₂⟩ := ih m hlt a₁ w₁ hI'
        exact ⟨e₂, a₂, w₂, hq₂, .of_steps (Steps.trans harr (.one step_inLoop)) harr₂⟩
      | exit id => exact ⟨_, a₁, w₁, hq, .pass (x := .inLoop body) rfl (fun _ _ => .inl (by simp)) harr⟩
      | goto l => exact ⟨_, a₁, w₁, hq, .pass (x := .inLoop body) rfl (fun _ _ => .inl (by simp)) harr⟩
      | ret => exact ⟨_, a₁, w₁, hq, .pass (x := .inLoop body) rfl (fun _ _ => .inl (by simp)) harr⟩
      | panic ch => exact ⟨_, a₁, w₁, hq, .pass (x := .inLoop body) rfl (fun _ _ => .inl (by simp)) harr⟩
      | outgrown => exact ⟨_, a₁, w₁, hq, .pass (x := .inLoop body) rfl (fun _ _ => .inl (by simp)) harr⟩
  obtain ⟨e, a', w', hq, harr⟩ := key n a w h0
  exact ⟨e, a', w', hq, .of_steps (.one step_loop) harr⟩

/-- The entries of a table beside what is known of them. -/
def zipE (E : Array MapEntry) (l : List (AV × AV)) : List (MapEntry × (AV × AV)) := E.toList.zip l
def leftA (E : Array MapEntry) (l : List (AV × AV)) (seen : Array Nat) : List (AV × AV) := ((zipE E l).filter fun z => !seen.contains z.1.born).map (·.2)

theorem filter_zip {E : List MapEntry} {l : List (AV × AV)} (h : E.length = l.length) (p : MapEntry → Bool) : ((E.zip l).filter fun z => p z.1).map (·.1) = E.filter p := by
  induction E generalizing l with
  | nil => simp
  | cons e E ih =>
    cases l with
    | nil => simp at h
    | cons x l =>
      simp only [List.zip_cons_cons, List.filter_cons]
      have := ih (l := l) (by simpa using h)
      split <;> simp [this]

theorem erase_map {α β : Type} (f : α → β) (l : List α) : ∀ i, (l.eraseIdx i).map f = (l.map f).eraseIdx i := by
  induction l with
  | nil => intro i; rfl
  | cons a l ih =>
    intro i
    cases i with
    | zero => rfl
    | succ i => simp [ih i]
theorem zip_born {E : Array MapEntry} {l : List (AV × AV)} (hsz : E.size = l.length) : (zipE E l).map (fun z => z.1.born) = E.toList.map (·.born) := by
  have : (zipE E l).map (·.1) = E.toList := by
    rw [zipE, List.map_fst_zip]; simp [hsz]
  rw [← this, List.map_map]; rfl
theorem zip_left {E : Array MapEntry} {l : List (AV × AV)} (hsz : E.size = l.length) (seen : Array Nat) : (leftOf E seen).toList = ((zipE E l).filter fun z => !seen.contains z.1.born).map (·.1) := by
  have h := filter_zip (E := E.toList) (l := l) (by simp [hsz]) (fun e => !seen.contains e.born)
  rw [zipE, h]
  simp [leftOf]
theorem filter_erase {l : List (MapEntry × (AV × AV))} (hn : (l.map fun z => z.1.born).Nodup) {seen : Array Nat} {i : Nat} {z : MapEntry × (AV × AV)}
    (hi : (l.filter fun z => !seen.contains z.1.born)[i]? = some z) :
    (l.filter fun y => !(seen.push z.1.born).contains y.1.born) = (l.filter fun z => !seen.contains z.1.born).eraseIdx i := by
  have e1 : (l.filter fun y => !(seen.push z.1.born).contains y.1.born) = (l.filter fun y => !seen.contains y.1.born).filter fun y => !(y.1.born == z.1.born) := by
    rw [List.filter_filter]
    apply List.filter_congr
    intro y _
    rw [Array.contains_push, Bool.not_or, Bool.and_comm]
  rw [e1]
  have hn2 : ((l.filter fun z => !seen.contains z.1.born).map fun z => z.1.born).Nodup := hn.sublist (List.Sublist.map _ List.filter_sublist)
  generalize l.filter (fun z => !seen.contains z.1.born) = F at hi hn2
  induction F generalizing i with
  | nil => simp at hi
  | cons y F ih =>
    simp only [List.map_cons, List.nodup_cons] at hn2
    cases i with
    | zero =>
      simp at hi; subst hi
      rw [List.filter_cons_of_neg (by simp), List.eraseIdx_cons_zero]
      rw [List.filter_eq_self]
      intro x hx
      have : x.1.born ≠ y.1.born := fun e => hn2.1 (List.mem_map.2 ⟨x, hx, e⟩)
      simpa using this
    | succ i =>
      have hz : F[i]? = some z := by simpa using hi
      have hne : y.1.born ≠ z.1.born := fun e => hn2.1 (List.mem_map.2 ⟨z, List.mem_of_getElem? hz, e.symm⟩)
      rw [List.filter_cons_of_pos (by simpa using hne), List.eraseIdx_cons_succ, ih hz hn2.2]

def opMove (o : Oper) : Option (Nat × Nat) := match o.op, o.dst, o.guard with | .move (.tmp a), some d, none => some (d, a) | _, _, _ => none
def opRange (o : Oper) : Option (Nat × Nat × Nat) := match o.op, o.dst, o.guard with | .range t (.tmp a), some d, none => some (d, a, t) | _, _, _ => none
def opNext (o : Oper) : Option (Nat × Nat) := match o.op, o.dst, o.guard with | .next (.tmp a) false, some d, none => some (d, a) | _, _, _ => none
def opExtract (o : Oper) : Option (Nat × Nat × Nat) := match o.op, o.dst, o.guard with | .extract (.tmp a) i, some d, none => some (d, a, i) | _, _, _ => none
def opEntry (o : Oper) : Option (Nat × Nat) := match o.op, o.dst, o.guard with | .entry (.tmp a), some d, none => some (d, a) | _, _, _ => none
def opAssign (o : Oper) : Option (Nat × Nat) := match o.op, o.dst, o.guard with | .assign (.tmp a), some d, none => some (d, a) | _, _, _ => none
theorem opMove_some {o : Oper} {d a : Nat} (h : opMove o = some (d, a)) : o.op = .move (.tmp a) ∧ o.dst = some d ∧ o.guard = none := by
  unfold opMove at h; split at h
  · rename_i h1 h2 h3; simp only [Option.some.injEq, Prod.mk.injEq] at h; obtain ⟨rfl, rfl⟩ := h; exact ⟨h1, h2, h3⟩
  · cases h
theorem opRange_some {o : Oper} {d a t : Nat} (h : opRange o = some (d, a, t)) : o.op = .range t (.tmp a) ∧ o.dst = some d ∧ o.guard = none := by
  unfold opRange at h; split at h
  · rename_i h1 h2 h3; simp only [Option.some.injEq, Prod.mk.injEq] at h; obtain ⟨rfl, rfl, rfl⟩ := h; exact ⟨h1, h2, h3⟩
  · cases h
theorem opNext_some {o : Oper} {d a : Nat} (h : opNext o = some (d, a)) : o.op = .next (.tmp a) false ∧ o.dst = some d ∧ o.guard = none := by
  unfold opNext at h; split at h
  · rename_i h1 h2 h3; simp only [Option.some.injEq, Prod.mk.injEq] at h; obtain ⟨rfl, rfl⟩ := h; exact ⟨h1, h2, h3⟩
  · cases h
theorem opExtract_some {o : Oper} {d a i : Nat} (h : opExtract o = some (d, a, i)) : o.op = .extract (.tmp a) i ∧ o.dst = some d ∧ o.guard = none := by
  unfold opExtract at h; split at h
  · rename_i h1 h2 h3; simp only [Option.some.injEq, Prod.mk.injEq] at h; obtain ⟨rfl, rfl, rfl⟩ := h; exact ⟨h1, h2, h3⟩
  · cases h
theorem opEntry_some {o : Oper} {d a : Nat} (h : opEntry o = some (d, a)) : o.op = .entry (.tmp a) ∧ o.dst = some d ∧ o.guard = none := by
  unfold opEntry at h; split at h
  · rename_i h1 h2 h3; simp only [Option.some.injEq, Prod.mk.injEq] at h; obtain ⟨rfl, rfl⟩ := h; exact ⟨h1, h2, h3⟩
  · cases h
theorem opAssign_some {o : Oper} {d a : Nat} (h : opAssign o = some (d, a)) : o.op = .assign (.tmp a) ∧ o.dst = some d ∧ o.guard = none := by
  unfold opAssign at h; split at h
  · rename_i h1 h2 h3; simp only [Option.some.injEq, Prod.mk.injEq] at h; obtain ⟨rfl, rfl⟩ := h; exact ⟨h1, h2, h3⟩
  · cases h

/-- The slots of a range over a map. -/
structure RS where
  tm : Nat
  t0 : Nat
  ti : Nat
  tR : Nat
  tn : Nat
  tok : Nat
  te : Nat
  tx : Nat
  ty : Nat
  tk : Nat
  tv : Nat
  blk : Nat
  b3 : Nat

def isMapT (P : Program) (t : TypeId) : Bool := match P.underlying t with | some (.map _ _) => true | _ => false
def distinct : List Nat → Bool
  | [] => true
  | a :: r => !(r.any (Nat.beq a)) && distinct r
def rangeOps (P : Program) (N : Nat) (l1 l2 l3 : List Oper) (R : RS) : Bool :=
  match l1, l2, l3 with
  | [o1, o2], [n1, n2], [e1, e2, e3, e4, e5] =>
    (decide (opMove o1 = some (R.t0, R.tm)) && decide (opRange o2 = some (R.ti, R.t0, R.tR))) && ((decide (opNext n1 = some (R.tn, R.ti)) && decide (opExtract n2 = some (R.tok, R.tn, 0))) &&
    ((decide (opEntry e1 = some (R.te, R.ti)) && decide (opExtract e2 = some (R.tx, R.te, 0))) && ((decide (opExtract e3 = some (R.ty, R.te, 1)) && decide (opAssign e4 = some (R.tk, R.tx))) &&
    ((decide (opAssign e5 = some (R.tv, R.ty)) && isMapT P R.tR) && (distinct [R.t0, R.ti, R.tn, R.tok, R.te, R.tx, R.ty, R.tk, R.tv] && ([R.t0, R.ti, R.tn, R.tok, R.te, R.tx, R.ty, R.tk, R.tv].all fun t => Nat.blt t N))))))
  | _, _, _ => false
def rangeCode (P : Program) (N : Nat) (c : Code) (R : RS) : Bool :=
  match c with
  | .seq (.region _ ops1 false) (.block blk (.loop (.seq (.region _ ops2 false) (.seq (.cond (.tmp tok) .skip (.exit blk')) (.block b3 (.seq (.region _ ops3 false) _)))))) =>
    ((Nat.beq blk R.blk && Nat.beq blk' R.blk) && (Nat.beq tok R.tok && Nat.beq b3 R.b3)) && rangeOps P N ops1.toList ops2.toList ops3.toList R
  | _ => false
def rangeRest : Code → Code
  | .seq _ (.block _ (.loop (.seq _ (.seq _ (.block _ (.seq _ r)))))) => r
  | c => c

def liveB : BoxSt → Bool
  | .live _ => true
  | _ => false

theorem rep_raw {w : World} {I : Nat → Prop} {T : Tbl} {v : Value} {r : Nat} (h : Rep w I T v (.raw r)) : v = .pointer (some ⟨r, 0, none⟩) := by cases h; rfl

theorem put_slot_ne {st : AS} {d t : Nat} {av : AV} (h : t ≠ d) : (st.put d av).slot t = st.slot t := by simp [AS.put, nbeq_false h]

theorem tmps_ne {a : Act} {d t : Nat} {v : Value} (hd : d < a.tmps.size) (h : t ≠ d) : (a.put (some d) v).tmps.getD t undef = a.tmps.getD t undef := by rw [tmps_put t hd, if_neg h]
theorem tmps_same {a : Act} {d : Nat} {v : Value} (hd : d < a.tmps.size) : (a.put (some d) v).tmps.getD d undef = v := by rw [tmps_put d hd, if_pos rfl]
theorem put_size {a : Act} {d : Option Nat} {v : Value} : (a.put d v).tmps.size = a.tmps.size := by cases d <;> simp [Act.put]

def okBoxes (bx : List (Nat × BoxSt)) (k : Nat) : Bool := ((List.range k).all fun i => liveB (lookB bx i .dead)) && bx.all fun x => Nat.blt x.1 k
theorem lookB_in {bx : List (Nat × BoxSt)} {i : Nat} (hin : i ∈ bx.map (·.1)) (d d' : BoxSt) : lookB bx i d = lookB bx i d' := by
  induction bx with
  | nil => simp at hin
  | cons x r ih =>
    simp only [lookB]
    cases hx : Nat.beq i x.1
    · simp only [cond_false]
      refine ih ?_
      simp only [List.map_cons, List.mem_cons] at hin
      rcases hin with hin | hin
      · rw [hin] at hx; simp at hx
      · exact hin
    · rfl
theorem okBoxes_spec {sl : List (Nat × AV)} {bx : List (Nat × BoxSt)} {k : Nat} (h : okBoxes bx k = true) : (∀ i, i < k → ∃ b, (mk sl bx k).box i = .live b) ∧ ∀ i, k ≤ i → (mk sl bx k).box i = .unused := by
  unfold okBoxes at h
  simp only [Bool.and_eq_true, List.all_eq_true] at h
  obtain ⟨h1, h2⟩ := h
  constructor
  · intro i hi
    have h1 := h1 i (List.mem_range.2 hi)
    simp only [mk]
    rcases lookB_mem (bx := bx) (i := i) (d := BoxSt.dead) with ⟨_, h⟩ | h
    · rw [h] at h1; cases h1
    · have hin : i ∈ bx.map (·.1) := List.mem_map.2 ⟨_, h, rfl⟩
      rw [lookB_in hin _ .dead]
      generalize lookB bx i .dead = q at h1
      cases q with
      | live b => exact ⟨b, rfl⟩
      | dead => cases h1
      | unused => cases h1
  · intro i hi
    simp only [mk]
    rcases lookB_mem (bx := bx) (i := i) (d := bif Nat.blt i k then BoxSt.dead else .unused) with ⟨_, h⟩ | h
    · rw [h]
      have : Nat.blt i k = false := by
        cases hq : Nat.blt i k
        · rfl
        · simp [Nat.blt] at hq; omega
      rw [this]; rfl
    · have := h2 _ h
      simp [Nat.blt] at this; omega

theorem aw_rangeMap {P : Program} {N np : Nat} {c : Code} {K : Exit → AS → Prop} {st : AS} (R : RS) (id : Nat) {ag : Bool} {ks : List KSh} {l : List (AV × AV)}
    (ρ : List Nat) (sl2 : List (Nat × AV)) (bx2 : List (Nat × BoxSt)) {vcs : List Prop}
    (hs : rangeCode P N c R = true) (hm : st.slot R.tm = .mp id) (hb : st.box id = .live (.map ag ks l)) (hid : ρ.any (Nat.beq id) = false)
    (hwk : wkOut np st ρ [] sl2 bx2 = some vcs) (hv : AllP vcs) (hlive : okBoxes bx2 ρ.length = true) (hnp : Nat.ble np ρ.length = true)
    (Inv : Nat → List (AV × AV) → AS → Prop)
    (h0 : ∀ r, ∃ s2, Sub ρ.length (((mk sl2 bx2 ρ.length).put R.t0 .junk).put R.ti (.raw r)) s2 ∧ Inv r l s2)
    (hI : ∀ r left s, Inv r left s → s.slot R.ti = .raw r ∧ ∃ sl bx, s = mk sl bx ρ.length ∧ okBoxes bx ρ.length = true)
    (hend : ∀ r s, Inv r [] s → K .normal ((s.put R.tn .junk).put R.tok .junk))
    (hstep : ∀ r left s (i : Nat) (kv : AV × AV), Inv r left s → left[i]? = some kv → AW P N ρ.length (rangeRest c)
      (blockK R.b3 fun e s' => match e with | .normal => ∃ s2, Sub ρ.length s' s2 ∧ Inv r (left.eraseIdx i) s2 | e => blockK R.blk K e s')
      (((((((s.put R.tn .junk).put R.tok .junk).put R.te .junk).put R.tx kv.1).put R.ty kv.2).put R.tk kv.1).put R.tv kv.2)) :
    AW P N np c K st := by
  intro G a w hN hnpG ⟨T, hT⟩
  unfold rangeCode at hs
  split at hs
  case h_2 => cases hs
  rename_i i1 ops1 blk i2 ops2 tok blk' b3 i3 ops3 rest
  simp only [rangeRest] at hstep
  simp only [Bool.and_eq_true] at hs
  obtain ⟨⟨⟨q1, q2⟩, q3, q4⟩, hs⟩ := hs
  have q1 := nbeq.1 q1
  have q2 := nbeq.1 q2
  have q3 := nbeq.1 q3
  have q4 := nbeq.1 q4
  subst q1; subst q2; subst q3; subst q4
  unfold rangeOps at hs
  split at hs
  case h_2 => cases hs
  rename_i o1 o2 n1 n2 e1 e2 e3 e4 e5 hl1 hl2 hl3
  simp only [Bool.and_eq_true, decide_eq_true_eq] at hs
  obtain ⟨⟨p1, p2⟩, ⟨p3, p4⟩, ⟨p5, p6⟩, ⟨p7, p8⟩, ⟨p9, hmt⟩, hdist, hall⟩ := hs
  obtain ⟨o1o, o1d, o1g⟩ := opMove_some p1
  obtain ⟨o2o, o2d, o2g⟩ := opRange_some p2
  obtain ⟨n1o, n1d, n1g⟩ := opNext_some p3
  obtain ⟨n2o, n2d, n2g⟩ := opExtract_some p4
  obtain ⟨e1o, e1d, e1g⟩ := opEntry_some p5
  obtain ⟨e2o, e2d, e2g⟩ := opExtract_some p6
  obtain ⟨e3o, e3d, e3g⟩ := opExtract_some p7
  obtain ⟨e4o, e4d, e4g⟩ := opAssign_some p8
  obtain ⟨e5o, e5d, e5g⟩ := opAssign_some p9
  simp only [List.all_cons, List.all_nil, Bool.and_true, Bool.and_eq_true] at hall
  obtain ⟨b0, bi, bn, bok, be, bx, by_, bk, bv⟩ := hall
  have lt : ∀ {t : Nat}, Nat.blt t N = true → t < N := fun h => by simp [Nat.blt] at h; omega
  replace b0 := lt b0; replace bi := lt bi; replace bn := lt bn; replace bok := lt bok; replace be := lt be; replace bx := lt bx; replace by_ := lt by_; replace bk := lt bk; replace bv := lt bv
  simp only [distinct, List.any_cons, List.any_nil, Bool.or_false, Bool.and_true, Bool.and_eq_true, Bool.not_eq_true', Bool.or_eq_false_iff] at hdist
  have ne : ∀ {x y : Nat}, Nat.beq x y = false → x ≠ y := fun h e => by subst e; simp at h
  obtain ⟨⟨d01, d02, d03, d04, d05, d06, d07, d08⟩, ⟨di2, di3, di4, di5, di6, di7, di8⟩, ⟨dn3, dn4, dn5, dn6, dn7, dn8⟩, ⟨dk4, dk5, dk6, dk7, dk8⟩, ⟨de5, de6, de7, de8⟩, ⟨dx6, dx7, dx8⟩, ⟨dy7, dy8⟩, dkv, _⟩ := hdist
  obtain ⟨mk_, me, hmt⟩ : ∃ k e, P.underlying R.tR = some (.map k e) := by
    unfold isMapT at hmt
    split at hmt
    · exact ⟨_, _, by assumption⟩
    · cases hmt
  have hnp := ble_le hnp
  obtain ⟨hlive', hrest'⟩ := okBoxes_spec (sl := sl2) hlive
  -- the map
  have hrm := hT.slots R.tm
  rw [hm] at hrm
  obtain ⟨b, hvm, hTid⟩ : ∃ b, a.tmps.getD R.tm undef = .map (some b) ∧ T id = some (.at b 0) := by
    generalize a.tmps.getD R.tm undef = v at hrm
    cases hrm with
    | mp h => exact ⟨_, rfl, h⟩
  obtain ⟨b', E, clock, hp, hh, hsz, hmax, hst, hkm, hent⟩ := hT.boxes id _ hb
  rw [hTid] at hp; injection hp with hp; injection hp with hp _; subst hp
  have hblt : b < w.heap.size := live_lt hT hb hTid
  generalize hrd : w.heap.size = r at *
  let w1 : World := w.alloc (.mapIter (some b) clock #[] clock)
  have hw1 : w1.heap.size = r + 1 := by simp [w1, hrd]
  have hold1 : ∀ x, x < w.heap.size → w1.heap[x]? = w.heap[x]? := fun x hx => heap_alloc_old w _ hx
  have hr1 : w1.heap[r]? = some (.mapIter (some b) clock #[] clock) := by rw [← hrd]; exact heap_alloc_new w _
  have hTS := relT_wk ρ [] sl2 bx2 hwk hv hnpG hT
  have hsub : ∀ i bx, (mk sl2 bx2 ρ.length).box i = .live bx → ∃ id bx0, Tc ρ T i = T id ∧ st.box id = .live bx0 ∧ ρ[i]? = some id := by
    intro i bx hl
    obtain ⟨id', bx0, h1, h2⟩ := wk_live hwk hv hl
    exact ⟨id', bx0, by simp [Tc, h1], h2, h1⟩
  generalize hS : mk sl2 bx2 ρ.length = S at hTS hlive' hrest' h0 hsub
  have hG' := reghost (fun x => x = r) (w1 := w1) hTS hlive' hrest' (by omega) hold1
  have hmem1 : ∀ {x cap : Nat}, Place.at x cap ∈ (reG (fun x => x = r) G S (Tc ρ T) ρ.length w w1).foot → ∃ i bx, S.box i = .live bx ∧ Tc ρ T i = some (.at x cap) := by
    intro x cap hm'
    obtain ⟨i, bx, _, h1, h2⟩ := foot_mem hTS hlive' hm'
    exact ⟨i, bx, h1, h2⟩
  have hback : ∀ {S' : AS} {a' : Act} {w' : World}, Rel (reG (fun x => x = r) G S (Tc ρ T) ρ.length w w1) S' a' w' → Rel G S' a' w' :=
    fun h => unghost (w1 := w1) (fun x hx => .inl (by omega)) hTS hlive' (by omega) rfl rfl rfl (by omega) hold1 h
  have hI0 : ∀ x, imm G st T x → x < r → (reG (fun x => x = r) G S (Tc ρ T) ρ.length w w1).I0 x := by
    intro x hx hlt
    refine ⟨⟨hx.1, fun i bx cap hl hTi => ?_⟩, by omega⟩
    obtain ⟨id', bx0, h1, h2, _⟩ := hsub i bx hl
    rw [h1] at hTi
    exact hx.2 id' bx0 cap h2 hTi
  have hI0r : ∀ x, (reG (fun x => x = r) G S (Tc ρ T) ρ.length w w1).I0 x → x < r := fun x hx => by have := hx.2; omega
  have hGn : (reG (fun x => x = r) G S (Tc ρ T) ρ.length w w1).n = N := hN
  have hGw : (reG (fun x => x = r) G S (Tc ρ T) ρ.length w w1).w0 = w1 := rfl
  have hGf : (reG (fun x => x = r) G S (Tc ρ T) ρ.length w w1).foot.length = ρ.length := by simp [reG]
  have hGg : ∀ x, ¬ (reG (fun x => x = r) G S (Tc ρ T) ρ.length w w1).gift x := fun x h => h
  have hGs : ∀ x, (reG (fun x => x = r) G S (Tc ρ T) ρ.length w w1).scr x → x = r := fun x h => h
  have hGsr : (reG (fun x => x = r) G S (Tc ρ T) ρ.length w w1).scr r := rfl
  generalize reG (fun x => x = r) G S (Tc ρ T) ρ.length w w1 = G' at *
  have hnotfoot : ∀ x, (x = b ∨ x = r) → ¬ G'.has x := by
    rintro x hx ⟨cap, hm'⟩
    obtain ⟨i, bx, hl, hTi⟩ := hmem1 hm'
    rcases hx with rfl | rfl
    · obtain ⟨id', bx0, h1, h2, h3⟩ := hsub i bx hl
      rw [h1] at hTi
      have := hT.apart id' id bx0 _ x cap 0 h2 hb hTi hTid
      subst this
      rw [mem_any (List.mem_of_getElem? h3)] at hid; cases hid
    · have := live_lt hTS hl hTi
      omega
  have hkeepb : ∀ {S' : AS} {a' : Act} {w' : World}, Rel G' S' a' w' → w'.heap[b]? = some (.map E clock) := by
    rintro S' a' w' ⟨T', h⟩
    have := h.kept.block b (by rw [hGw]; omega) (hnotfoot b (.inl rfl)) (fun h => by
      rcases h with h | h
      · exact hGg b h
      · have := hGs b h; omega)
    rw [this, hGw, hold1 b (by omega)]; exact hh
  have hapart : ∀ {S' : AS} {T' : Tbl} {a' : Act} {w' : World}, RelT G' S' T' a' w' → ∀ i bx cap, S'.box i = .live bx → T' i ≠ some (.at r cap) := by
    intro S' T' a' w' h i bx cap hl hTi
    rcases Nat.lt_or_ge i G'.foot.length with h' | h'
    · have := h.foot i _ (List.getElem?_eq_getElem h')
      rw [hTi] at this
      injection this with this
      exact hnotfoot r (.inr rfl) ⟨cap, by rw [this]; exact List.getElem_mem h'⟩
    · rcases h.mine i bx r cap hl hTi h' with h'' | h''
      · rw [hGw] at h''; omega
      · exact hGg r h''
  have hrimm : ∀ {S' : AS} {T' : Tbl}, ¬ imm G' S' T' r := by
    rintro S' T' ⟨h1 | h1 | h1, _⟩
    · have := hI0r r h1; omega
    · rw [hGw] at h1; omega
    · exact hGg r h1
  -- what is known of an entry stays known
  have hents : ∀ {S' : AS} {T' : Tbl} {a' : Act} {w' : World}, RelT G' S' T' a' w' → ∀ {v : Value} {av : AV}, Rep w (imm G st T) Tbl.empty v av → Rep w' (imm G' S' T') Tbl.empty v av := by
    intro S' T' a' w' h v av hr
    have hnf : ∀ x, imm G st T x → ¬ G'.has x := by
      rintro x hx ⟨cap, hm'⟩
      obtain ⟨i, bx, hl, hTi⟩ := hmem1 hm'
      obtain ⟨id', bx0, h1, h2, _⟩ := hsub i bx hl
      rw [h1] at hTi
      exact hx.2 id' bx0 cap h2 hTi
    refine hr.mono ?_ ?_ ?_ (fun _ _ h => h)
    · have := h.kept.size; rw [hGw] at this; omega
    · intro x hx hlt
      have := h.kept.block x (by rw [hGw]; omega) (hnf x hx) (fun h => by
        rcases h with h | h
        · exact hGg x h
        · have := hGs x h; omega)
      rw [this, hGw]; exact hold1 x hlt
    · intro x hx hlt
      refine ⟨.inl (hI0 x hx (by omega)), fun i bx cap hl hTi => ?_⟩
      rcases Nat.lt_or_ge i G'.foot.length with h' | h'
      · have := h.foot i _ (List.getElem?_eq_getElem h')
        rw [hTi] at this
        injection this with this
        exact hnf x hx ⟨cap, by rw [this]; exact List.getElem_mem h'⟩
      · rcases h.mine i bx x cap hl hTi h' with h'' | h''
        · rw [hGw] at h''; omega
        · exact hGg x h''
  -- region 1
  refine wp_seq (wp_region_list ?_)
  rw [hl1]
  refine wpl_val (v := .map (some b)) (w' := w) o1g (by simp [execOp, o1o, Act.eval, hvm]) ?_
  rw [o1d]
  have hsz0 : a.tmps.size = N := by rw [hT.size, hN]
  refine wpl_val (v := .pointer (some ⟨r, 0, none⟩)) (w' := w1) o2g ?_ ?_
  · have e : (a.put (some R.t0) (.map (some b))).eval (.tmp R.t0) = .map (some b) := tmps_same (by omega)
    simp [execOp, o2o, e, run_range_map w R.tR mk_ me b E clock hmt hh, w1, hrd]
  rw [o2d]
  refine wpList_nil ?_
  show Code.wp P _ _ _ _
  refine wp_block ?_
  -- the loop
  have hrel0 : Rel G' ((S.put R.t0 .junk).put R.ti (.raw r)) ((a.put (some R.t0) (.map (some b))).put (some R.ti) (.pointer (some ⟨r, 0, none⟩))) w1 :=
    ⟨_, (hG'.put (by omega) .junk).put (by omega) .raw⟩
  obtain ⟨s0, hsub0, hinv0⟩ := h0 r
  have hrel1 := hsub0 G' _ _ hGf hrel0
  have hZ := zip_born hsz
  have hnodup : ((zipE E l).map fun z => z.1.born).Nodup := by rw [hZ]; exact hst.2.1
  have hleft := fun seen => zip_left hsz seen
  refine wp_loopI (fun n a' w' => ∃ s seen last, n = (leftA E l seen).length ∧ Inv r (leftA E l seen) s ∧ Rel G' s a' w' ∧ w'.heap[r]? = some (.mapIter (some b) clock seen last) ∧ clock ≤ last)
    (leftA E l #[]).length ⟨s0, #[], clock, rfl, ?_, hrel1, hr1, Nat.le_refl _⟩ ?_
  · have : leftA E l #[] = l := by
      simp only [leftA]
      rw [List.filter_eq_self.2 (by simp)]
      rw [zipE, List.map_snd_zip]
      simp [hsz]
    rw [this]; exact hinv0
  rintro n a' w' ⟨s, seen, last, rfl, hinv, hrel, hrb, hle⟩
  have hmb : w'.heap[b]? = some (.map E clock) := hkeepb hrel
  obtain ⟨T', hR⟩ := hrel
  have hsz' : a'.tmps.size = N := by rw [hR.size, hGn]
  have hti : a'.tmps.getD R.ti undef = .pointer (some ⟨r, 0, none⟩) := by
    have := hR.slots R.ti
    rw [(hI r _ s hinv).1] at this
    exact rep_raw this
  refine wp_seq (wp_region_list ?_)
  rw [hl2]
  rcases run_next_at (P := P) w' n1.type r b clock last seen E clock hrb hmb hst.1 hle with ⟨hz0, hrun⟩ | ⟨e, hemem, w2, hw2, hrun⟩
  · -- nothing is left
    refine wpl_val (v := .tuple #[.bool false]) (w' := w') n1g (by
      have e0 : a'.eval (.tmp R.ti) = .pointer (some ⟨r, 0, none⟩) := hti
      simp [execOp, n1o, e0, hrun]) ?_
    rw [n1d]
    refine wpl_val (v := .bool false) (w' := w') n2g (by
      have e0 : (a'.put (some R.tn) (.tuple #[.bool false])).eval (.tmp R.tn) = .tuple #[.bool false] := tmps_same (by omega)
      simp [execOp, n2o, e0, Instr.extract]) ?_
    rw [n2d]
    refine wpList_nil ?_
    show Code.wp P _ _ _ _
    refine wp_seq (wp_cond_split (t := false) (tmps_same (by rw [put_size]; omega)) (fun h => by cases h) (fun _ => wp_exit ?_))
    simp only [Exit.then, Exit.inBlock, if_true]
    have hnil : leftA E l seen = [] := by
      have h1 : (leftOf E seen).toList = [] := by
        rw [← List.length_eq_zero_iff]; simpa using hz0
      rw [hleft] at h1
      have h2 := List.map_eq_nil_iff.1 h1
      unfold leftA; rw [h2]; rfl
    rw [hnil] at hinv
    exact ⟨_, hend r s hinv, hback ⟨T', (hR.put (by omega) .junk).put (by omega) .junk⟩⟩
  · -- one entry
    have hmem2 : e ∈ ((zipE E l).filter fun z => !seen.contains z.1.born).map (·.1) := by rw [← hleft]; exact hemem
    obtain ⟨z, hz, hze⟩ := List.mem_map.1 hmem2
    obtain ⟨i, hi⟩ := List.mem_iff_getElem?.1 hz
    subst hze
    have hkv : (leftA E l seen)[i]? = some z.2 := by rw [leftA, List.getElem?_map, hi]; rfl
    have hzE : z ∈ E.toList.zip l := (List.mem_filter.1 hz).1
    obtain ⟨j, hj⟩ := List.mem_iff_getElem?.1 hzE
    obtain ⟨hjE, hjl⟩ := List.getElem?_zip_eq_some.1 hj
    obtain ⟨e', hje', hk1, hk2⟩ := hent j z.2 hjl
    have hee : e' = z.1 := by
      rw [Array.getElem?_toList] at hjE
      rw [hje'] at hjE; injection hjE
    have hzin : z.1 ∈ E.toList := List.mem_of_getElem? hjE
    have hnew : leftA E l (seen.push z.1.born) = (leftA E l seen).eraseIdx i := by
      simp only [leftA]
      rw [filter_erase hnodup hi, erase_map]
    let w3 := setBlock w2 r (.mapIter (some b) clock (seen.push z.1.born) clock)
    have hhp2 : w2.heap = w'.heap := by rcases hw2 with rfl | rfl <;> rfl
    have hw3 : ∀ x, x ≠ r → w3.heap[x]? = w'.heap[x]? := by
      intro x hx
      simp only [w3, setBlock, hhp2]
      rw [Array.getElem?_setIfInBounds_ne (fun e => hx e.symm)]
    have hw3r : w3.heap[r]? = some (.mapIter (some b) clock (seen.push z.1.born) clock) := by
      have hlt : r < w'.heap.size := (Array.getElem?_eq_some_iff.1 hrb).1
      simp only [w3, setBlock, hhp2]
      rw [Array.getElem?_setIfInBounds_self_of_lt hlt]
    have hw3s : w3.heap.size = w'.heap.size := by simp [w3, setBlock, hhp2]
    have hR3 : RelT G' s T' a' w3 := by
      have hm : ∀ x, imm G' s T' x → x < w'.heap.size → w3.heap[x]? = w'.heap[x]? := fun x hx _ => hw3 x (fun e => hrimm (e ▸ hx))
      refine ⟨hR.defers, hR.size, fun t => (hR.slots t).mono (by omega) hm (fun _ h _ => h) (fun _ _ h => h), ?_, hR.unused, hR.apart, hR.mine, hR.foot, ?_⟩
      · intro i' bx' hl
        exact (hR.boxes i' bx' hl).mono (by omega) hm (fun _ h _ => h) (fun _ _ h => h) (fun x cap hp hlt => hw3 x (fun e => hapart hR i' bx' cap hl (by rw [hp, e])))
      · refine ⟨?_, ?_, ?_, by rw [hw3s]; exact hR.kept.size, fun x hx h1 h2 => ?_⟩
        · rw [← hR.kept.os]; rcases hw2 with rfl | rfl <;> rfl
        · rw [← hR.kept.tape]; rcases hw2 with rfl | rfl <;> rfl
        · rw [← hR.kept.output]; rcases hw2 with rfl | rfl <;> rfl
        · rw [hw3 x (fun e => ?_)]
          · exact hR.kept.block x hx h1 h2
          · subst e; exact h2 (.inr hGsr)
    have hmb3 : w3.heap[b]? = some (.map E clock) := by rw [hw3 b (by omega)]; exact hmb
    have hkR := hents hR3 hk1
    have hvR := hents hR3 hk2
    rw [hee] at hkR hvR
    refine wpl_val (v := .tuple #[.bool true, z.1.key, z.1.val]) (w' := w3) n1g (by
      have e0 : a'.eval (.tmp R.ti) = .pointer (some ⟨r, 0, none⟩) := hti
      simp [execOp, n1o, e0, hrun, w3]) ?_
    rw [n1d]
    refine wpl_val (v := .bool true) (w' := w3) n2g (by
      have e0 : (a'.put (some R.tn) (.tuple #[.bool true, z.1.key, z.1.val])).eval (.tmp R.tn) = .tuple #[.bool true, z.1.key, z.1.val] := tmps_same (by omega)
      simp [execOp, n2o, e0, Instr.extract]) ?_
    rw [n2d]
    refine wpList_nil ?_
    show Code.wp P _ _ _ _
    refine wp_seq (wp_cond_split (t := true) (tmps_same (by rw [put_size]; omega)) (fun _ => wp_skip ?_) (fun h => by cases h))
    show Code.wp P _ _ _ _
    refine wp_block (wp_seq (wp_region_list ?_))
    rw [hl3]
    generalize hA2 : (a'.put (some R.tn) (.tuple #[.bool true, z.1.key, z.1.val])).put (some R.tok) (.bool true) = A2
    have hA2s : A2.tmps.size = N := by rw [← hA2, put_size, put_size, hsz']
    have hA2i : A2.tmps.getD R.ti undef = .pointer (some ⟨r, 0, none⟩) := by
      rw [← hA2, tmps_ne (by rw [put_size]; omega) (ne di3), tmps_ne (by omega) (ne di2)]; exact hti
    have hR4 : RelT G' ((s.put R.tn .junk).put R.tok .junk) T' A2 w3 := by
      rw [← hA2]; exact (hR3.put (by omega) .junk).put (by omega) .junk
    refine wpl_val (v := .tuple #[z.1.key, z.1.val]) (w' := w3) e1g (by
      have e0 : A2.eval (.tmp R.ti) = .pointer (some ⟨r, 0, none⟩) := hA2i
      simp [execOp, e1o, e0, run_entry_at w3 r b clock seen E clock z.1 hw3r hmb3 hzin hst.2.1]) ?_
    rw [e1d]
    refine wpl_val (v := z.1.key) (w' := w3) e2g (by
      have e0 : (A2.put (some R.te) (.tuple #[z.1.key, z.1.val])).eval (.tmp R.te) = .tuple #[z.1.key, z.1.val] := tmps_same (by omega)
      simp [execOp, e2o, e0, Instr.extract]) ?_
    rw [e2d]
    refine wpl_val (v := z.1.val) (w' := w3) e3g (by
      have e0 : ((A2.put (some R.te) (.tuple #[z.1.key, z.1.val])).put (some R.tx) z.1.key).eval (.tmp R.te) = .tuple #[z.1.key, z.1.val] :=
        (tmps_ne (by rw [put_size]; omega) (ne de5)).trans (tmps_same (by omega))
      simp [execOp, e3o, e0, Instr.extract]) ?_
    rw [e3d]
    refine wpl_val (v := z.1.key) (w' := w3) e4g (by
      have e0 : (((A2.put (some R.te) (.tuple #[z.1.key, z.1.val])).put (some R.tx) z.1.key).put (some R.ty) z.1.val).eval (.tmp R.tx) = z.1.key :=
        (tmps_ne (by rw [put_size, put_size]; omega) (ne dx6)).trans (tmps_same (by rw [put_size]; omega))
      simp [execOp, e4o, e0]) ?_
    rw [e4d]
    refine wpl_val (v := z.1.val) (w' := w3) e5g (by
      have e0 : ((((A2.put (some R.te) (.tuple #[z.1.key, z.1.val])).put (some R.tx) z.1.key).put (some R.ty) z.1.val).put (some R.tk) z.1.key).eval (.tmp R.ty) = z.1.val :=
        (tmps_ne (by rw [put_size, put_size, put_size]; omega) (ne dy7)).trans (tmps_same (by rw [put_size, put_size]; omega))
      simp [execOp, e5o, e0]) ?_
    rw [e5d]
    refine wpList_nil ?_
    show Code.wp P _ _ _ _
    have hke : ∀ {v : Value} {av : AV} {S' : AS}, S'.box = s.box → Rep w3 (imm G' s T') Tbl.empty v av → Rep w3 (imm G' S' T') T' v av := by
      intro v av S' hbx h
      refine h.mono (Nat.le_refl _) (fun _ _ _ => rfl) (fun x hx _ => ⟨hx.1, fun i bx cap hl => hx.2 i bx cap (by rw [← hbx]; exact hl)⟩) (fun i p h => by cases h)
    have hR5 := ((((hR4.put (d := R.te) (v := .tuple #[z.1.key, z.1.val]) (by omega) .junk).put (d := R.tx) (by omega) (hke rfl hkR)).put (d := R.ty) (by omega) (hke rfl hvR)).put (d := R.tk) (by omega) (hke rfl hkR)).put (d := R.tv) (by omega) (hke rfl hvR)
    obtain ⟨_, sl3, bx3, hs3, hok3⟩ := hI r _ s hinv
    obtain ⟨hlv, hrs⟩ := okBoxes_spec (sl := sl3) hok3
    rw [← hs3] at hlv hrs
    have haw := hstep r _ s i z.2 hinv hkv
    have hG2 := reghost (fun _ => False) (w1 := w3) hR5 hlv hrs (Nat.le_refl _) (fun _ _ => rfl)
    refine Code.wp_mono ?_ (haw (reG (fun _ => False) G' _ T' ρ.length w3 w3) _ w3 hGn (by simp [reG]) ⟨T', hG2⟩)
    rintro ex a4 w4 ⟨s4, hk4, hrel4⟩
    have hrel4' : Rel G' s4 a4 w4 := unghost (fun _ h => h.elim) hR5 hlv (by omega) rfl rfl rfl (Nat.le_refl _) (fun _ _ => rfl) hrel4
    have hr4 : w4.heap[r]? = some (.mapIter (some b) clock (seen.push z.1.born) clock) := by
      obtain ⟨T4, h4⟩ := hrel4
      have := h4.kept.block r (show r < w3.heap.size by rw [hw3s]; exact (Array.getElem?_eq_some_iff.1 hrb).1) (by
        rintro ⟨cap, hm'⟩
        obtain ⟨i', bx', _, h1, h2⟩ := foot_mem hR5 hlv hm'
        exact hapart hR5 i' bx' cap h1 h2) (fun h => by rcases h with h | h <;> exact h)
      rw [this]; exact hw3r
    have hfin : ∀ (s5 : AS), Sub ρ.length s4 s5 → Inv r ((leftA E l seen).eraseIdx i) s5 →
        ∃ m, m < (leftA E l seen).length ∧ ∃ s seen last, m = (leftA E l seen).length ∧ Inv r (leftA E l seen) s ∧ Rel G' s a4 w4 ∧ w4.heap[r]? = some (.mapIter (some b) clock seen last) ∧ clock ≤ last := by
      intro s5 h1 h2
      refine ⟨(leftA E l (seen.push z.1.born)).length, ?_, s5, seen.push z.1.born, clock, rfl, by rw [hnew]; exact h2, h1 G' _ _ hGf hrel4', hr4, Nat.le_refl _⟩
      have hlt := (List.getElem?_eq_some_iff.1 hkv).1
      rw [hnew, List.length_eraseIdx, if_pos hlt]; omega
    have hnorm : (∃ s2, Sub ρ.length s4 s2 ∧ Inv r ((leftA E l seen).eraseIdx i) s2) → ∃ m, m < (leftA E l seen).length ∧ ∃ s seen last, m = (leftA E l seen).length ∧ Inv r (leftA E l seen) s ∧ Rel G' s a4 w4 ∧ w4.heap[r]? = some (.mapIter (some b) clock seen last) ∧ clock ≤ last :=
      fun ⟨s5, h1, h2⟩ => hfin s5 h1 h2
    cases ex with
    | normal => exact hnorm hk4
    | exit x =>
      simp only [blockK] at hk4
      simp only [Exit.inBlock]
      by_cases hx : x = R.b3
      · subst hx
        rw [nbeq_self] at hk4
        rw [if_pos rfl]
        exact hnorm hk4
      · rw [nbeq_false hx] at hk4
        rw [if_neg hx]
        simp only [cond_false] at hk4
        by_cases hx2 : x = R.blk
        · subst hx2
          rw [nbeq_self] at hk4
          simp only [if_true]
          exact ⟨s4, hk4, hback hrel4'⟩
        · rw [nbeq_false hx2] at hk4
          simp only [if_neg hx2]
          exact ⟨s4, hk4, hback hrel4'⟩
    | goto l => exact ⟨s4, hk4, hback hrel4'⟩
    | ret => exact ⟨s4, hk4, hback hrel4'⟩
    | panic ch => exact ⟨s4, hk4, hback hrel4'⟩
    | outgrown => exact ⟨s4, hk4, hback hrel4'⟩

/-- All the orders in which the entries may come: what they agree upon. -/
def pickAll {α R : Type} [DecidableEq R] (l : List α) (f : α → List α → Option R) : Option R :=
  match (List.range l.length).map fun i => (l[i]?).bind fun y => f y (l.eraseIdx i) with
  | [] => none
  | r :: rs => bif rs.all (fun q => decide (q = r)) then r else none
theorem pickAll_some {α R : Type} [DecidableEq R] {l : List α} {f : α → List α → Option R} {o : R} (h : pickAll l f = some o) {i : Nat} {y : α} (hi : l[i]? = some y) : f y (l.eraseIdx i) = some o := by
  unfold pickAll at h
  have hlt := (List.getElem?_eq_some_iff.1 hi).1
  have hm : f y (l.eraseIdx i) ∈ (List.range l.length).map fun i => (l[i]?).bind fun y => f y (l.eraseIdx i) :=
    List.mem_map.2 ⟨i, List.mem_range.2 hlt, by rw [hi]; rfl⟩
  split at h
  · rename_i he; rw [he] at hm; cases hm
  · rename_i r rs he
    rw [he] at hm
    cases hall : rs.all (fun q => decide (q = r))
    · rw [hall] at h; cases h
    · rw [hall] at h
      simp only [cond_true] at h
      rcases List.mem_cons.1 hm with hm | hm
      · rw [hm, h]
      · have := List.all_eq_true.1 hall _ hm
        simp only [decide_eq_true_eq] at this
        rw [this, h]
theorem pickAll_of {α R : Type} [DecidableEq R] {l : List α} {f : α → List α → Option R} {o : R} (hl : l ≠ []) (h : ∀ (i : Nat) (y : α), l[i]? = some y → f y (l.eraseIdx i) = some o) : pickAll l f = some o := by
  unfold pickAll
  have hall : ∀ q ∈ (List.range l.length).map (fun i => (l[i]?).bind fun y => f y (l.eraseIdx i)), q = some o := by
    intro q hq
    obtain ⟨i, hi, rfl⟩ := List.mem_map.1 hq
    have hlt := List.mem_range.1 hi
    rw [List.getElem?_eq_getElem hlt]
    exact h i _ (List.getElem?_eq_getElem hlt)
  split
  · rename_i he
    have := congrArg List.length he
    simp at this
    exact absurd this hl
  · rename_i r rs he
    rw [he] at hall
    have hr := hall r (by simp)
    have : rs.all (fun q => decide (q = r)) = true := List.all_eq_true.2 fun q hq => by simp [hall q (by simp [hq]), hr]
    rw [this, hr]; rfl
theorem isEmpty_get {α : Type} {l : List α} {i : Nat} {x : α} (h : l[i]? = some x) : l.isEmpty = false := by
  cases l with
  | nil => simp at h
  | cons => rfl
end Go.Ab
