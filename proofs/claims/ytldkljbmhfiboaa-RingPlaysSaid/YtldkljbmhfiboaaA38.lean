/- Further operations: the capacity of a nil slice, a nil slice cut, zeros appended to a nil slice, a row of the call's own cut short. -/
import Derived.Test.YtldkljbmhfiboaaA36
namespace Go.Ab
open Go

def isIntT (P : Program) (t : TypeId) : Bool := match P.underlying t with | some (.int _) => true | _ => false
def isSliceT (P : Program) (t : TypeId) : Bool := match P.underlying t with | some (.slice e) => knownT P e | _ => false
theorem isSliceT_some {P : Program} {t : TypeId} (h : isSliceT P t = true) : ∃ e, P.underlying t = some (.slice e) ∧ knownT P e = true := by
  unfold isSliceT at h
  split at h
  · exact ⟨_, by assumption, h⟩
  · cases h

def xop (P : Program) (np : Nat) (o : Oper) (rs : List (Nat × AV)) (B : Nat → BoxSt) (h : Hint) : Option (List Prop × Eff) :=
  match o.op with
  | .call { callee := .builtin b, args := args, argTypes := ts } =>
    match b, args.toList, ts.toList with
    | .cap, [x], [t] =>
      bif opOk x && isSliceT P t then
        match evalIn rs x with
        | .nilsl => some ([], { rs := rs, dst := o.dst.map fun d => (d, .int .i64 0) })
        | _ => none
      else none
    | .append, [x, y], [t, t2] =>
      bif (opOk x && opOk y) && (isUnused (B h.id) && isIntT P t2) then
        match evalIn rs x, evalIn rs y, rowT P t with
        | .nilsl, .int _ n, some e => some ([n = h.n, 0 < h.n, h.n * bytesT P e ≤ 140737488355328],
            { rs := rs, rb := [(h.id, .unused)], dst := o.dst.map fun d => (d, .own h.id h.n), wb := [(h.id, .live (.row e (szT P e) []))] })
        | _, _, _ => none
      else none
    | _, _, _ => none
  | .slice t x none (some y) none =>
    bif (opOk x && opOk y) && isSliceT P t then
      match evalIn rs x, evalIn rs y with
      | .nilsl, .int _ n => some ([n = 0], { rs := rs, dst := o.dst.map fun d => (d, .nilsl) })
      | .own id n, .int _ m =>
        match B id with
        | .live (.row e sz l) => some ([m = h.n, h.n ≤ n, h.l = l.take h.n], { rs := rs, rb := [(id, B id)], dst := o.dst.map fun d => (d, .own id h.n), wb := [(id, .live (.row e sz h.l))] })
        | _ => none
      | _, _ => none
    else none
  | .slice t x (some y) none none =>
    bif (opOk x && opOk y) && isUnused (B h.id) then
      match evalIn rs x, evalIn rs y, P.underlying t with
      | .own id n, .int _ m, some (.slice e) =>
        match B id with
        | .live (.row e' sz l) => bif (knownT P e && Nat.beq sz (szT P e)) && Nat.ble np id then
            some ([m = h.n, h.n ≤ n, n = l.length, h.l = l.drop h.n, h.m = n - h.n],
              { rs := rs, rb := [(h.id, .unused), (id, B id)], dst := o.dst.map fun d => (d, .own h.id h.m), wb := [(h.id, .live (.row e' sz h.l)), (id, .dead)] })
          else none
        | _ => none
      | _, _, _ => none
    else none
  | _ => none

theorem xcap_opSound {P : Program} {N np : Nat} {o : Oper} {x : Operand} {t : TypeId} {rs : List (Nat × AV)}
    (ho : o.op = .call { callee := .builtin .cap, args := #[x], argTypes := #[t] }) (hx : opOk x = true) (ht : isSliceT P t = true) (hX : evalIn rs x = .nilsl) (hd : dstOk N o.dst = true) :
    OpSound P N np o { rs := rs, dst := o.dst.map fun d => (d, .int .i64 0) } := by
  intro G st a w hN hnp hE ⟨T, hT⟩
  have hrx := evalIn_rep hT hE.1 hx
  rw [hX] at hrx
  generalize hvx : a.eval x = vx at hrx
  cases hrx with
  | nilsl =>
  obtain ⟨e, he, _⟩ := isSliceT_some ht
  refine wp_value (v := .int .i64 0) (w' := w) ?_ ?_
  · simp [execOp, ho, resolve, invoke, builtin, hvx, Builtin.cap_, run_underlying he, goInt]
  · refine hT.quiet (grown_refl w) rfl (by simp [Option.map_map, Function.comp_def]) ?_
    intro d av hE'
    obtain ⟨hlt, rfl⟩ := dst_lt hd hE'
    exact ⟨by omega, .int rfl⟩

theorem xslice0_opSound {P : Program} {N np : Nat} {o : Oper} {x y : Operand} {t : TypeId} {rs : List (Nat × AV)} {k : IntKind} {n : Int}
    (ho : o.op = .slice t x none (some y) none) (hx : opOk x = true) (hy : opOk y = true) (ht : isSliceT P t = true) (hX : evalIn rs x = .nilsl) (hY : evalIn rs y = .int k n) (hn : n = 0) (hd : dstOk N o.dst = true) :
    OpSound P N np o { rs := rs, dst := o.dst.map fun d => (d, .nilsl) } := by
  intro G st a w hN hnp hE ⟨T, hT⟩
  have hrx := evalIn_rep hT hE.1 hx
  have hry := evalIn_rep hT hE.1 hy
  rw [hX] at hrx
  rw [hY] at hry
  generalize hvx : a.eval x = vx at hrx
  generalize hvy : a.eval y = vy at hry
  cases hrx with
  | nilsl =>
  cases hry with
  | int wn =>
  obtain ⟨e, he, hk⟩ := isSliceT_some ht
  subst hn
  refine wp_value (v := .slice none 0 0) (w' := w) (execOp_slice ho (by rw [he]; simp) (by rw [he]; simp) ?_) ?_
  · simp only [hvx, hvy, Instr.slice, Sem.run_bind, run_underlying he, Result.andThen_ok, Option.map_none, Option.map_some, Instr.sliceBounds, Sem.run_pure, run_sizeOf hk]
    rw [run_bound (P := P) (w := w) (y := 0) rfl (Int.le_refl 0) (Int.le_refl 0)]
    simp only [Result.andThen_ok]
    rfl
  · refine hT.quiet (grown_refl w) rfl (by simp [Option.map_map, Function.comp_def]) ?_
    intro d av hE'
    obtain ⟨hlt, rfl⟩ := dst_lt hd hE'
    exact ⟨by omega, .nilsl⟩

theorem run_appendZ {P : Program} {t t2 e : TypeId} {i : TypeInfo} {z : Value} {w : World} {ty : TypeId} (ht : RowT P t e i z) {q : IntKind} (h2 : P.underlying t2 = some (.int q)) {k : IntKind} {n : Nat}
    (h0 : 0 < n) (hb : n * bytesT P e ≤ 140737488355328) :
    (Builtin.append_ #[t, t2] ty #[.slice none 0 0, .int k (n : Int)]).run P w =
      .ok (.slice (some ⟨w.heap.size, 0, none⟩) n (grownCap w n 0 e))
        (w.drew.alloc (.cells (Builtin.zeroCells z.cells n ++ Builtin.zeroCells z.cells (grownCap w n 0 e - n)) e)) := by
  have hm := Nat.le_mul_of_pos_right n ht.bpos
  have hw : IntKind.i64.wrap (n : Int) = n := by
    simp only [IntKind.wrap, IntKind.bits, IntKind.signed]; simp; split <;> omega
  have h1 : ¬ ((n : Int) < 0) := by omega
  have h3 : ¬ (281474976710656 < (n : Int) * (i.bytes : Int)) := by rw [ht.bytes, ← Int.natCast_mul]; omega
  have h4 : ¬ (n = 0) := by omega
  have h5 : ¬ (9223372036854775807 : Int) < (n : Int) := by omega
  have h6 : ¬ (n * szT P e = 0) := by have := Nat.mul_pos h0 ht.pos; omega
  have hg := growslice_fits (need := n) (old := 0) (bytes := bytesT P e) (by omega) hb
  rw [← ht.bytes] at hg
  have h48' : ¬ (281474976710656 < Builtin.nextslicecap n 0 * i.bytes) := by omega
  rw [← ht.size] at h6
  simp only [Builtin.append_, List.getElem?_toArray, List.getElem?_cons_zero, List.getElem?_cons_succ, Sem.run_bind, run_underlying ht.und, run_underlying h2, Result.andThen_ok, sizeOf, typeInfo, run_program,
    ht.info, Sem.run_pure, asInt, asIntOf]
  simp [h1, h3, h4, h5, h48', h6, hw, Question.forced, newRow, grownCap, zeroValue, typeInfo, ht.info, ht.zero, Builtin.firstCells]

theorem isIntT_some {P : Program} {t : TypeId} (h : isIntT P t = true) : ∃ q, P.underlying t = some (.int q) := by
  unfold isIntT at h
  split at h
  · exact ⟨_, by assumption⟩
  · cases h

theorem xappz_opSound {P : Program} {N np : Nat} {o : Oper} {x y : Operand} {t t2 e : TypeId} {rs : List (Nat × AV)} {k : IntKind} {n : Int} {id m : Nat}
    (ho : o.op = .call { callee := .builtin .append, args := #[x, y], argTypes := #[t, t2] }) (hx : opOk x = true) (hy : opOk y = true) (ht2 : isIntT P t2 = true) (hrow : rowT P t = some e)
    (hX : evalIn rs x = .nilsl) (hY : evalIn rs y = .int k n) (hn : n = m) (h0 : 0 < m) (hb : m * bytesT P e ≤ 140737488355328) (hd : dstOk N o.dst = true) :
    OpSound P N np o { rs := rs, rb := [(id, .unused)], dst := o.dst.map fun d => (d, .own id m), wb := [(id, .live (.row e (szT P e) []))] } := by
  intro G st a w hN hnp hE ⟨T, hT⟩
  have hrx := evalIn_rep hT hE.1 hx
  have hry := evalIn_rep hT hE.1 hy
  obtain ⟨i, z, ht⟩ := rowT_some hrow
  obtain ⟨q, hq⟩ := isIntT_some ht2
  rw [hX] at hrx
  rw [hY] at hry
  generalize hvx : a.eval x = vx at hrx
  generalize hvy : a.eval y = vy at hry
  cases hrx with
  | nilsl =>
  cases hry with
  | int wn =>
  subst hn
  have hu : st.box id = .unused := hE.2 (id, .unused) (by simp)
  have hm := Nat.le_mul_of_pos_right m ht.bpos
  have hmax : m ≤ maxLen := by rw [maxLen_eq]; omega
  have hge := grownCap_ge w m 0 e
  have hcm := grownCap_le_maxLen w m 0 e hmax
  have hrun := run_appendZ (P := P) (w := w) (ty := o.type) ht hq (k := k) h0 hb
  refine wp_value (v := .slice (some ⟨w.heap.size, 0, none⟩) m (grownCap w m 0 e)) (w' := w.drew.alloc (.cells (Builtin.zeroCells z.cells m ++ Builtin.zeroCells z.cells (grownCap w m 0 e - m)) e)) ?_ ?_
  · simp [execOp, ho, resolve, invoke, builtin, hvx, hvy, hrun]
  · refine hT.new (p := .at w.heap.size (grownCap w m 0 e)) ⟨rfl, rfl, rfl, by simp, fun k hk _ => heap_alloc_old w.drew _ k hk⟩ rfl hu (by simp [Option.map_map, Function.comp_def]) (fun b c hp => by injection hp with hp; omega) ?_ ?_
    · refine rowOk (heap_alloc_new w.drew _) ?_ (by simp) hcm (by simp) (by simp) (fun i' av j c hi => by simp at hi)
      rw [Array.size_append, size_zeroCells, size_zeroCells, ht.zsize, ← Nat.add_mul]
      congr 1; omega
    · intro d av hE'
      obtain ⟨hlt, rfl⟩ := dst_lt hd hE'
      exact ⟨by omega, own0 (Tbl.put_same _ _ _) hge hcm⟩

theorem xtrunc_opSound {P : Program} {N np : Nat} {o : Oper} {x y : Operand} {t : TypeId} {rs : List (Nat × AV)} {B : Nat → BoxSt} {k : IntKind} {n : Int} {id m hm : Nat} {e sz : Nat} {l : List AV}
    (ho : o.op = .slice t x none (some y) none) (hx : opOk x = true) (hy : opOk y = true) (ht : isSliceT P t = true) (hX : evalIn rs x = .own id m) (hY : evalIn rs y = .int k n)
    (hB : B id = .live (.row e sz l)) (hn : n = hm) (hle : hm ≤ m) (hd : dstOk N o.dst = true) :
    OpSound P N np o { rs := rs, rb := [(id, B id)], dst := o.dst.map fun d => (d, .own id hm), wb := [(id, .live (.row e sz (l.take hm)))] } := by
  intro G st a w hN hnp hE ⟨T, hT⟩
  have hrx := evalIn_rep hT hE.1 hx
  have hry := evalIn_rep hT hE.1 hy
  rw [hX] at hrx
  rw [hY] at hry
  have hb : st.box id = .live (.row e sz l) := (hE.2 (id, B id) (by simp)).trans hB
  generalize hvx : a.eval x = vx at hrx
  generalize hvy : a.eval y = vy at hry
  cases hry with
  | int wn =>
  obtain ⟨e', he, hk⟩ := isSliceT_some ht
  subst hn
  have hboxes := hT.boxes id _ hb
  have hrun : ∀ (base : Option Addr) (cap : Nat), hm ≤ cap → (Instr.slice t (.slice base m cap) none (some (.int k (hm : Int))) none).run P w = .ok (.slice (if cap = 0 then base else base.map (·.add 0)) hm cap) w := by
    intro base cap hc
    simp only [Instr.slice, Sem.run_bind, run_underlying he, Result.andThen_ok, Instr.sliceBounds, Sem.run_pure, run_sizeOf hk]
    rw [run_bound (P := P) (w := w) (y := cap) rfl (by omega) (by omega)]
    simp only [Result.andThen_ok, Int.toNat_natCast, Nat.zero_mul, Nat.sub_zero]
  cases hrx with
  | ownNil hTi =>
    rename_i a0
    have h0 : hm = 0 := by omega
    subst h0
    refine wp_value (execOp_slice ho (by rw [he]; simp) (by rw [he]; simp) (by simp only [hvx, hvy, Option.map_none, Option.map_some]; exact hrun a0 0 (Nat.le_refl _))) ?_
    have hnil : l = [] := by
      rcases hboxes with ⟨_, h⟩ | ⟨b, cap, C, hp, _⟩
      · exact h
      · rw [hTi] at hp; cases hp
    subst hnil
    have hst : (st.upd { rs := rs, rb := [(id, B id)], dst := o.dst.map fun d => (d, .own id 0), wb := [(id, .live (.row e sz (([] : List AV).take 0)))] }).box = st.box := by
      funext i
      rw [upd_box]
      simp only [lookB1, List.take_zero]
      by_cases hi : i = id
      · rw [if_pos hi, hi, hb]
      · rw [if_neg hi]
    refine hT.quiet (grown_refl w) hst (by simp [Option.map_map, Function.comp_def]) ?_
    intro d av hE'
    obtain ⟨hlt, rfl⟩ := dst_lt hd hE'
    exact ⟨by omega, .ownNil hTi⟩
  | own hTi h1 h2 =>
    rename_i b cap
    refine wp_value (execOp_slice ho (by rw [he]; simp) (by rw [he]; simp) (by simp only [hvx, hvy, Option.map_none, Option.map_some]; exact hrun _ (roomN cap) (by omega))) ?_
    refine hT.write (bx' := .row e sz (l.take hm)) (b := b) (cap := cap) hb hTi ⟨rfl, rfl, rfl, Nat.le_refl _, fun _ _ _ => rfl⟩ rfl (by simp [Option.map_map, Function.comp_def]) ?_ ?_
    · rcases hboxes with ⟨hp, h⟩ | ⟨b', cap', C, hp, hh, k1, k2, k3, k4, k5, k6⟩
      · exact .inl ⟨hp, by rw [h]; simp⟩
      · refine .inr ⟨b', cap', C, hp, hh, k1, by rw [List.length_take]; omega, k3, fun av hav => k4 av (List.mem_of_mem_take hav), fun av hav => k5 av (List.mem_of_mem_take hav), fun i av j c hi hj => k6 i av j c ?_ hj⟩
        rw [List.getElem?_take] at hi
        split at hi
        · exact hi
        · cases hi
    · intro d av hE'
      obtain ⟨hlt, rfl⟩ := dst_lt hd hE'
      refine ⟨by omega, ?_⟩
      have : (if roomN cap = 0 then some (⟨b, offN cap, none⟩ : Addr) else (some (⟨b, offN cap, none⟩ : Addr)).map (·.add 0)) = some ⟨b, offN cap, none⟩ := by
        split
        · rfl
        · simp [Addr.add]
      rw [this]
      exact .own hTi (by omega) h2

theorem xcut_opSound {P : Program} {N np : Nat} {o : Oper} {x y : Operand} {t : TypeId} {rs : List (Nat × AV)} {B : Nat → BoxSt} {k : IntKind} {n : Int} {hid id m hm : Nat} {e e' : TypeId} {sz : Nat} {l : List AV}
    (ho : o.op = .slice t x (some y) none none) (hx : opOk x = true) (hy : opOk y = true) (he : P.underlying t = some (.slice e)) (hk : knownT P e = true) (hX : evalIn rs x = .own id m) (hY : evalIn rs y = .int k n)
    (hB : B id = .live (.row e' sz l)) (hs : sz = szT P e) (hid2 : np ≤ id) (hu0 : B hid = .unused) (hn : n = hm) (hle : hm ≤ m) (hml : m = l.length) (hd : dstOk N o.dst = true) :
    OpSound P N np o { rs := rs, rb := [(hid, .unused), (id, B id)], dst := o.dst.map fun d => (d, .own hid (m - hm)), wb := [(hid, .live (.row e' sz (l.drop hm))), (id, .dead)] } := by
  intro G st a w hN hnp hE ⟨T, hT⟩
  have hrx := evalIn_rep hT hE.1 hx
  have hry := evalIn_rep hT hE.1 hy
  rw [hX] at hrx
  rw [hY] at hry
  have hu : st.box hid = .unused := hE.2 (hid, .unused) (by simp)
  have hb : st.box id = .live (.row e' sz l) := (hE.2 (id, B id) (by simp)).trans hB
  generalize hvx : a.eval x = vx at hrx
  generalize hvy : a.eval y = vy at hry
  cases hry with
  | int wn =>
  subst hn
  have hboxes := hT.boxes id _ hb
  have hrun : ∀ (base : Option Addr) (cap : Nat), m ≤ cap → (Instr.slice t (.slice base m cap) (some (.int k (hm : Int))) none none).run P w = .ok (.slice (if cap = hm then base else base.map (·.add (hm * szT P e))) (m - hm) (cap - hm)) w := by
    intro base cap hc
    simp only [Instr.slice, Sem.run_bind, run_underlying he, Result.andThen_ok, Instr.sliceBounds, Sem.run_pure, run_sizeOf hk]
    rw [run_bound (P := P) (w := w) (y := m) rfl (by omega) (by omega)]
    simp only [Result.andThen_ok, Int.toNat_natCast]
  cases hrx with
  | ownNil hTi =>
    rename_i a0
    have h0 : hm = 0 := by omega
    subst h0
    refine wp_value (execOp_slice ho (by rw [he]; simp) (by rw [he]; simp) (by simp only [hvx, hvy, Option.map_none, Option.map_some]; exact hrun a0 0 (Nat.le_refl _))) ?_
    have hnil : l = [] := by
      rcases hboxes with ⟨_, h⟩ | ⟨b, cap, C, hp, _⟩
      · exact h
      · rw [hTi] at hp; cases hp
    subst hnil
    refine hT.move (p := .nil) (row := none) hb hu (by omega) (fun g hg => by cases hg) (grown_refl w) rfl (by simp [Option.map_map, Function.comp_def]) (fun b c hp => by cases hp) ?_ ?_
    · intro I T' _ _
      exact .inl ⟨rfl, by simp⟩
    · intro d av he'
      obtain ⟨hlt', rfl⟩ := dst_lt hd he'
      exact ⟨by omega, fun I T' hT' => .ownNil hT'⟩
  | own hTi h1 h2 =>
    rename_i b cap
    refine wp_value (execOp_slice ho (by rw [he]; simp) (by rw [he]; simp) (by simp only [hvx, hvy, Option.map_none, Option.map_some]; exact hrun _ (roomN cap) (by omega))) ?_
    rcases hboxes with ⟨hp, _⟩ | ⟨b', cap', C, hp, hh, k1, k2, k3, k4, k5, k6⟩
    · rw [hTi] at hp; cases hp
    rw [hTi] at hp; injection hp with hp; injection hp with hp1 hp2; subst hp1; subst hp2
    have hne : ∀ c, imm G st T c → c ≠ b := fun c hc e => by subst e; exact hc.2 id _ cap hb hTi
    by_cases hall : roomN cap = hm
    · have hl0 : l.drop hm = [] := List.drop_eq_nil_of_le (by omega)
      refine hT.move (p := .at b (offN cap * 18446744073709551616 + 0)) (row := none) hb hu (by omega) (fun g hg => by cases hg) (grown_refl w) rfl (by simp [Option.map_map, Function.comp_def]) (fun b c hp => by injection hp with hp1 hp2; subst hp1; exact .inr ⟨cap, hTi⟩) ?_ ?_
      · intro I T' hI _
        rw [hl0]
        refine .inr ⟨b, _, C, rfl, hh, ?_, by simp, ?_, by simp, by simp, by simp⟩
        · rw [roomN_mk (Nat.zero_le _), offN_mk (Nat.zero_le _)]; omega
        · rw [roomN_mk (Nat.zero_le _)]; exact Nat.zero_le _
      · intro d av he'
        obtain ⟨hlt', rfl⟩ := dst_lt hd he'
        refine ⟨by omega, fun I T' hT' => ?_⟩
        have := Rep.own (w := w) (I := I) (n := m - hm) hT' (by rw [roomN_mk (Nat.zero_le _)]; omega) (by rw [roomN_mk (Nat.zero_le _)]; exact Nat.zero_le _)
        rw [roomN_mk (Nat.zero_le _), offN_mk (Nat.zero_le _)] at this
        rw [if_pos hall, hall, Nat.sub_self]
        exact this
    · have hr : roomN cap - hm ≤ maxLen := by omega
      refine hT.move (p := .at b ((offN cap + hm * szT P e) * 18446744073709551616 + (roomN cap - hm))) (row := none) hb hu (by omega) (fun g hg => by cases hg) (grown_refl w) rfl (by simp [Option.map_map, Function.comp_def]) (fun b c hp => by injection hp with hp1 hp2; subst hp1; exact .inr ⟨cap, hTi⟩) ?_ ?_
      · intro I T' hI _
        refine .inr ⟨b, _, C, rfl, hh, ?_, ?_, ?_, fun av hav => k4 av (List.mem_of_mem_drop hav), fun av hav => k5 av (List.mem_of_mem_drop hav), ?_⟩
        · rw [roomN_mk hr, offN_mk hr, ← hs]
          have := Nat.add_mul hm (roomN cap - hm) sz
          rw [show hm + (roomN cap - hm) = roomN cap by omega] at this
          omega
        · rw [roomN_mk hr, List.length_drop]; omega
        · rw [roomN_mk hr]; exact hr
        · intro i av j c hi hj
          rw [List.getElem?_drop] at hi
          have := k6 (hm + i) av j c hi hj
          rw [offN_mk hr, ← hs, show offN cap + hm * sz + (i * sz + j) = offN cap + ((hm + i) * sz + j) by rw [Nat.add_mul]; omega]
          exact this.mono (Nat.le_refl _) (fun _ _ _ => rfl) hI (fun _ _ h => h)
      · intro d av he'
        obtain ⟨hlt', rfl⟩ := dst_lt hd he'
        refine ⟨by omega, fun I T' hT' => ?_⟩
        have := Rep.own (w := w) (I := I) (n := m - hm) hT' (by rw [roomN_mk hr]; omega) (by rw [roomN_mk hr]; exact hr)
        rw [roomN_mk hr, offN_mk hr] at this
        rw [if_neg hall, Option.map_some, add_eq]
        exact this

theorem xop_sound {P : Program} {N np : Nat} {o : Oper} {rs : List (Nat × AV)} {st : AS} {hn : Hint} {r : List Prop × Eff} (h : xop P np o rs st.box hn = some r) (hr : ∀ x ∈ rs, st.slot x.1 = x.2)
    (hv : ∀ p ∈ r.1, p) (hd : dstOk N o.dst = true) : r.2.holds st ∧ OpSound P N np o r.2 := by
  unfold xop at h
  split at h
  · rename_i b args ts ho
    split at h
    · rename_i x t ha ht
      rw [arr1 ha, arr1 ht] at ho
      replace h := bif_some h; obtain ⟨hu, h⟩ := h
      simp only [Bool.and_eq_true] at hu
      split at h
      · rename_i hX
        injection h with h; subst h
        exact ⟨⟨hr, fun x hx => by simp at hx⟩, xcap_opSound ho hu.1 hu.2 hX hd⟩
      · cases h
    · rename_i x y t t2 ha ht
      rw [arr2 ha, arr2 ht] at ho
      replace h := bif_some h; obtain ⟨hu, h⟩ := h
      simp only [Bool.and_eq_true] at hu
      split at h
      · rename_i k n e hX hY hrow
        injection h with h; subst h
        exact ⟨⟨hr, fun x hx => by simp at hx; subst hx; exact isUnused_eq hu.2.1⟩, xappz_opSound ho hu.1.1 hu.1.2 hu.2.2 hrow hX hY (hv _ (by simp)) (hv _ (by simp)) (hv _ (by simp)) hd⟩
      · cases h
    · cases h
  · rename_i t x y ho
    replace h := bif_some h; obtain ⟨hu, h⟩ := h
    simp only [Bool.and_eq_true] at hu
    split at h
    · rename_i k n hX hY
      injection h with h; subst h
      exact ⟨⟨hr, fun x hx => by simp at hx⟩, xslice0_opSound ho hu.1.1 hu.1.2 hu.2 hX hY (hv _ (by simp)) hd⟩
    · rename_i id m k n hX hY
      split at h
      · rename_i e sz l hB
        injection h with h; subst h
        have e1 : hn.l = l.take hn.n := hv _ (by simp)
        refine ⟨⟨hr, fun x hx => by simp at hx; subst hx; rfl⟩, ?_⟩
        simp only [e1]
        exact xtrunc_opSound ho hu.1.1 hu.1.2 hu.2 hX hY hB (hv _ (by simp)) (hv _ (by simp)) hd
      · cases h
    · cases h
  · rename_i t x y ho
    replace h := bif_some h; obtain ⟨hu, h⟩ := h
    simp only [Bool.and_eq_true] at hu
    split at h
    · rename_i id m k n e hX hY he
      split at h
      · rename_i e' sz l hB
        replace h := bif_some h; obtain ⟨hc, h⟩ := h
        simp only [Bool.and_eq_true] at hc
        injection h with h; subst h
        have e1 : hn.l = l.drop hn.n := hv _ (by simp)
        have e2 : hn.m = m - hn.n := hv _ (by simp)
        refine ⟨⟨hr, fun x hx => by simp at hx; rcases hx with rfl | rfl; exact isUnused_eq hu.2; rfl⟩, ?_⟩
        simp only [e1, e2]
        exact xcut_opSound ho hu.1.1 hu.1.2 he hc.1.1 hX hY hB (nbeq.1 hc.1.2) (Nat.le_of_ble_eq_true hc.2) (isUnused_eq hu.2) (hv _ (by simp)) (hv _ (by simp)) (hv _ (by simp)) hd
      · cases h
    · cases h
  · cases h
end Go.Ab
