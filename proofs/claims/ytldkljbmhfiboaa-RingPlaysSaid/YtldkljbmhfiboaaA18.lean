/- One operation as a summary; a region as a row of summaries. -/
import Derived.Test.YtldkljbmhfiboaaA38
namespace Go.Ab
open Go

def operandsOf : Op → List Operand
  | .move x | .assign x | .box _ x | .load _ x | .nilCheck x | .unOp _ _ x | .convert _ _ x | .fieldAddr _ x _ | .field _ x _ | .extract x _ => [x]
  | .pick c a b => [c, a, b]
  | .build _ ps | .buildSlice _ _ ps => ps.toList.map (·.2)
  | .mapUpdate _ m k v => [m, k, v]
  | .lookup _ a v _ | .store _ a v | .binOp _ _ a v _ | .makeSlice _ a v | .indexAddr _ a v | .index _ a v => [a, v]
  | .makeFunc _ first captured => first.toList ++ captured.toList
  | .slice _ x l h m => x :: (l.toList ++ (h.toList ++ m.toList))
  | .call { callee := .value f, args := args, .. } => f :: args.toList
  | .call { callee := .builtin _, args := args, .. } => args.toList
  | _ => []

theorem rsOf_holds (st : AS) (xs : List Operand) : ∀ x ∈ rsOf st xs, st.slot x.1 = x.2 := by
  induction xs with
  | nil => intro x hx; cases hx
  | cons a r ih =>
    intro x hx
    cases a with
    | tmp t =>
      simp only [rsOf, List.mem_cons] at hx
      rcases hx with rfl | hx
      · rfl
      · exact ih x hx
    | _ => exact ih x hx

def andVC {α : Type} (b : Bool) (x : Option α) : Option α := bif b then x else none

/-- The operations on the call's own blocks. -/
def bop (P : Program) (np : Nat) (o : Oper) (rs : List (Nat × AV)) (B : Nat → BoxSt) (h : Hint) : Option (List Prop × Eff) :=
  match o.op with
  | .alloc t =>
    bif isUnused (B h.id) then
      match balloc P t h with
      | some (bx, _) => some ([], { rs := rs, rb := [(h.id, .unused)], dst := o.dst.map fun d => (d, .ptr h.id 0 0 0), wb := [(h.id, .live bx)] })
      | none => none
    else none
  | .box t x =>
    bif isUnused (B h.id) && (opOk x && okCells (evalIn rs x)) then
      match bbox P t (evalIn rs x).cells h with
      | some (bx, _) => some ([], { rs := rs, rb := [(h.id, .unused)], dst := o.dst.map fun d => (d, .ptr h.id 0 0 0), wb := [(h.id, .live bx)] })
      | none => none
    else none
  | .load t x =>
    bif opOk x then
      match bload P t (evalIn rs x) B h with
      | some (vc, id, av) => some (vc, { rs := rs, rb := [(id, B id)], dst := o.dst.map fun d => (d, av) })
      | none => none
    else none
  | .store t x y =>
    bif (opOk x && opOk y) && o.dst.isNone then
      match bstore P t (evalIn rs x) (evalIn rs y) B h with
      | some (vc, id, bx) => some (vc, { rs := rs, rb := [(id, B id)], wb := [(id, .live bx)] })
      | none => none
    else none
  | .makeSlice t x y =>
    bif isUnused (B h.id) && (opOk x && opOk y) then
      match bmake P t (evalIn rs x) (evalIn rs y) h with
      | some (vc, bx, av) => some (vc, { rs := rs, rb := [(h.id, .unused)], dst := o.dst.map fun d => (d, av), wb := [(h.id, .live bx)] })
      | none => none
    else none
  | .buildSlice t len parts =>
    bif isUnused (B h.id) && parts.toList.all (fun p => opOk p.2) then
      match bbuildSlice P t len (evalIn rs) parts.toList h with
      | some (bx, av) => some ([], { rs := rs, rb := [(h.id, .unused)], dst := o.dst.map fun d => (d, av), wb := [(h.id, .live bx)] })
      | none => none
    else none
  | .slice t x lo hi mx =>
    bif opOk x && (opOkO lo && opOkO hi) then
      match bslice P t (evalIn rs) x lo hi mx B with
      | some (vc, id, av) => some (vc, { rs := rs, rb := [(id, B id)], dst := o.dst.map fun d => (d, av) })
      | none => none
    else none
  | .convert s d x =>
    bif opOk x && isOwn (evalIn rs x) then
      match bconv P s d (evalIn rs x) B h with
      | some (vc, ids, av) => some (vc, { rs := rs, rb := ids.map (fun i => (i, B i)), dst := o.dst.map fun d => (d, av) })
      | none =>
        match bconvS P s d (evalIn rs x) B np with
        | some (vc, id, av) => some (vc, { rs := rs, rb := [(id, B id)], dst := o.dst.map fun d => (d, av), wb := [(id, .dead)] })
        | none => none
    else none
  | .call { callee := .builtin b, args := args, argTypes := ts } =>
    match b, args.toList, ts.toList with
    | .append, [x, y], [t, t2] =>
      bif opOk x && opOk y then
        match bappend P t t2 (evalIn rs x) (nz (evalIn rs y)) B h with
        | some (vc, ids, id, bx, av) =>
          bif isUnused (B h.id) && Nat.ble np id then
            some (vc, { rs := rs, rb := (h.id, .unused) :: (id, B id) :: ids.map (fun i => (i, B i)), dst := o.dst.map fun d => (d, av), wb := [(h.id, .live bx), (id, .dead)] })
          else none
        | none =>
          match bappendFull P t t2 (nz (evalIn rs x)) (nz (evalIn rs y)) B h with
          | some (vc, ids, av) => some (vc, { rs := rs, rb := ids.map (fun i => (i, B i)), dst := o.dst.map fun d => (d, av) })
          | none => none
      else none
    | .len, [x], [t] =>
      bif opOk x then
        match bmlen P t (evalIn rs x) B h with
        | some (vc, id, av) => some (vc, { rs := rs, rb := [(id, B id)], dst := o.dst.map fun d => (d, av) })
        | none => none
      else none
    | .copy, [x, y], [t, _] =>
      bif opOk x && opOk y then
        match bcopy P t (evalIn rs x) (nz (evalIn rs y)) B h with
        | some (vc, ids, id, bx, av) => some (vc, { rs := rs, rb := (id, B id) :: ids.map (fun i => (i, B i)), dst := o.dst.map fun d => (d, av), wb := [(id, .live bx)] })
        | none => none
      else none
    | _, _, _ => none
  | .binOp op t x y _ =>
    bif opOk x && opOk y then
      match beq2 P op t (evalIn rs x) (evalIn rs y) h with
      | some (vc, av) => some (vc, { rs := rs, dst := o.dst.map fun d => (d, av) })
      | none => none
    else none
  | .makeMap _ none => bif isUnused (B h.id) then some ([], { rs := rs, rb := [(h.id, .unused)], dst := o.dst.map fun d => (d, .mp h.id), wb := [(h.id, .live (.map h.mag h.mks []))] }) else none
  | .lookup t x y ok =>
    bif opOk x && opOk y then
      match blook P t (evalIn rs x) (evalIn rs y) ok B h with
      | some (vc, id, av) => some (vc, { rs := rs, rb := [(id, B id)], dst := o.dst.map fun d => (d, av) })
      | none => none
    else none
  | .mapUpdate t x y z =>
    bif (opOk x && (opOk y && opOk z)) && o.dst.isNone then
      match bmput P t (evalIn rs x) (evalIn rs y) (evalIn rs z) B h with
      | some (vc, id, bx) => some (vc, { rs := rs, rb := [(id, B id)], wb := [(id, .live bx)] })
      | none => none
    else none
  | .call { callee := .value f, args := args, argTypes := _ } =>
    bif opOk f && args.toList.all opOk then
      match bcall P np (evalIn rs) f args.toList B h with
      | some (vc, wb, av) => some (vc, { rs := rs, rb := (h.ids ++ h.gids ++ h.lend).map (fun i => (i, B i)), dst := o.dst.map fun d => (d, av), wb := wb })
      | none => none
    else none
  | _ => none

/-- A nil slice that is to be a row of the call's own. -/
def nilOwn (P : Program) (o : Oper) (rs : List (Nat × AV)) (B : Nat → BoxSt) (h : Hint) : Option (List Prop × Eff) :=
  match o.op, elemT P o.type with
  | .assign x, some e => bif isNilConst x && isUnused (B h.id) then some ([], { rs := rs, rb := [(h.id, .unused)], dst := o.dst.map fun d => (d, .own h.id 0), wb := [(h.id, .live (.row e (szT P e) []))] }) else none
  | .move x, some e => bif isNilConst x && isUnused (B h.id) then some ([], { rs := rs, rb := [(h.id, .unused)], dst := o.dst.map fun d => (d, .own h.id 0), wb := [(h.id, .live (.row e (szT P e) []))] }) else none
  | _, _ => none

/-- Append to a slice without room: a new row. -/
def appNew (P : Program) (o : Oper) (rs : List (Nat × AV)) (B : Nat → BoxSt) (h : Hint) : Option (List Prop × Eff) :=
  match o.op with
  | .call { callee := .builtin .append, args := args, argTypes := ts } =>
    match args.toList, ts.toList with
    | [x, y], [t, t2] =>
      bif (opOk x && opOk y) && isUnused (B h.id) then
        match bappendNew P t t2 (nz (evalIn rs x)) (nz (evalIn rs y)) B h with
        | some (vc, ids, bx, av) => some (vc, { rs := rs, rb := (h.id, .unused) :: ids.map (fun i => (i, B i)), dst := o.dst.map fun d => (d, av), wb := [(h.id, .live bx)] })
        | none => none
      else none
    | _, _ => none
  | _ => none

def core (P : Program) (N np : Nat) (o : Oper) (h : Hint) (st : AS) : Option (List Prop × Eff) :=
  bif dstOk N o.dst then
    bif h.x then xop P np o (rsOf st (operandsOf o.op)) st.box h else
    bif h.dep then appNew P o (rsOf st (operandsOf o.op)) st.box h else
    bif isNilOp o && Nat.beq h.m 1 then nilOwn P o (rsOf st (operandsOf o.op)) st.box h
    else
      match vop P o (evalIn (rsOf st (operandsOf o.op))) h with
      | some (vc, av) => some (vc, { rs := rsOf st (operandsOf o.op), dst := o.dst.map fun d => (d, av) })
      | none => bop P np o (rsOf st (operandsOf o.op)) st.box h
  else none
where isNilOp (o : Oper) : Bool := match o.op with | .assign _ => true | .move _ => true | _ => false

theorem ble_le {a b : Nat} (h : Nat.ble a b = true) : a ≤ b := Nat.le_of_ble_eq_true h

theorem bop_sound {P : Program} {N np : Nat} {o : Oper} {rs : List (Nat × AV)} {st : AS} {hn : Hint} {r : List Prop × Eff} (h : bop P np o rs st.box hn = some r) (hr : ∀ x ∈ rs, st.slot x.1 = x.2)
    (hv : ∀ p ∈ r.1, p) (hd : dstOk N o.dst = true) : r.2.holds st ∧ OpSound P N np o r.2 := by
  unfold bop at h
  split at h
  · rename_i t ho
    replace h := bif_some h; obtain ⟨hu, h⟩ := h
    split at h
    · rename_i bx cap hb
      injection h with h; subst h
      exact ⟨⟨hr, fun x hx => by simp at hx; subst hx; exact isUnused_eq hu⟩, alloc_opSound ho hb hd⟩
    · cases h
  · rename_i t x ho
    replace h := bif_some h; obtain ⟨hu, h⟩ := h
    simp only [Bool.and_eq_true] at hu
    split at h
    · rename_i bx cap hb
      injection h with h; subst h
      exact ⟨⟨hr, fun x hx => by simp at hx; subst hx; exact isUnused_eq hu.1⟩, box_opSound ho hu.2.1 hu.2.2 hb hd⟩
    · cases h
  · rename_i t x ho
    replace h := bif_some h; obtain ⟨hu, h⟩ := h
    split at h
    · rename_i vc id av hb
      injection h with h; subst h
      exact ⟨⟨hr, fun x hx => by simp at hx; subst hx; rfl⟩, load_opSound ho hu hb hv hd⟩
    · cases h
  · rename_i t x y ho
    replace h := bif_some h; obtain ⟨hu, h⟩ := h
    simp only [Bool.and_eq_true, Option.isNone_iff_eq_none] at hu
    split at h
    · rename_i vc id bx hb
      injection h with h; subst h
      exact ⟨⟨hr, fun x hx => by simp at hx; subst hx; rfl⟩, store_opSound ho hu.1.1 hu.1.2 hb hv hu.2⟩
    · cases h
  · rename_i t x y ho
    replace h := bif_some h; obtain ⟨hu, h⟩ := h
    simp only [Bool.and_eq_true] at hu
    split at h
    · rename_i vc bx av hb
      injection h with h; subst h
      exact ⟨⟨hr, fun x hx => by simp at hx; subst hx; exact isUnused_eq hu.1⟩, make_opSound ho hu.2.1 hu.2.2 hb hv hd⟩
    · cases h
  · rename_i t len parts ho
    replace h := bif_some h; obtain ⟨hu, h⟩ := h
    simp only [Bool.and_eq_true, List.all_eq_true] at hu
    split at h
    · rename_i bx av hb
      injection h with h; subst h
      exact ⟨⟨hr, fun x hx => by simp at hx; subst hx; exact isUnused_eq hu.1⟩, buildSlice_opSound ho hu.2 hb hd⟩
    · cases h
  · rename_i t x lo hi mx ho
    replace h := bif_some h; obtain ⟨hu, h⟩ := h
    simp only [Bool.and_eq_true] at hu
    split at h
    · rename_i vc id av hb
      injection h with h; subst h
      exact ⟨⟨hr, fun x hx => by simp at hx; subst hx; rfl⟩, slice_opSound ho hu.1 hu.2.1 hu.2.2 hb hv hd⟩
    · cases h
  · rename_i s d x ho
    replace h := bif_some h; obtain ⟨hu, h⟩ := h
    simp only [Bool.and_eq_true] at hu
    split at h
    · rename_i vc ids av hb
      injection h with h; subst h
      exact ⟨⟨hr, fun x hx => by simp only [List.mem_map] at hx; obtain ⟨i, _, rfl⟩ := hx; rfl⟩, conv_opSound ho hu.1 hu.2 hb hv hd⟩
    · split at h
      · rename_i vc id av hb
        injection h with h; subst h
        exact ⟨⟨hr, fun x hx => by simp at hx; subst hx; rfl⟩, convS_opSound ho hu.1 hb hv hd⟩
      · cases h
  · rename_i b args ts ho
    split at h
    · rename_i x y t t2 ha ht
      rw [arr2 ha, arr2 ht] at ho
      replace h := bif_some h; obtain ⟨hu, h⟩ := h
      simp only [Bool.and_eq_true] at hu
      split at h
      · rename_i vc ids id bx av hb
        replace h := bif_some h; obtain ⟨hu2, h⟩ := h
        simp only [Bool.and_eq_true] at hu2
        injection h with h; subst h
        refine ⟨⟨hr, fun x hx => ?_⟩, append_opSound ho hu.1 hu.2 hb hv hd (ble_le hu2.2)⟩
        simp only [List.mem_cons, List.mem_map] at hx
        rcases hx with rfl | rfl | ⟨i, _, rfl⟩
        · exact isUnused_eq hu2.1
        · rfl
        · rfl
      · split at h
        · rename_i vc ids av hb
          injection h with h; subst h
          exact ⟨⟨hr, fun x hx => by simp only [List.mem_map] at hx; obtain ⟨i, _, rfl⟩ := hx; rfl⟩, appendFull_opSound ho hu.1 hu.2 hb hv hd⟩
        · cases h
    · rename_i x t ha ht
      rw [arr1 ha, arr1 ht] at ho
      replace h := bif_some h; obtain ⟨hu, h⟩ := h
      split at h
      · rename_i vc id av hb
        injection h with h; subst h
        exact ⟨⟨hr, fun x hx => by simp at hx; subst hx; rfl⟩, mlen_opSound ho hu hb hv hd⟩
      · cases h
    · rename_i x y t t2 ha ht
      rw [arr2 ha, arr2 ht] at ho
      replace h := bif_some h; obtain ⟨hu, h⟩ := h
      simp only [Bool.and_eq_true] at hu
      split at h
      · rename_i vc ids id bx av hb
        injection h with h; subst h
        refine ⟨⟨hr, fun x hx => ?_⟩, copy_opSound ho hu.1 hu.2 hb hv hd⟩
        simp only [List.mem_cons, List.mem_map] at hx
        rcases hx with rfl | ⟨i, _, rfl⟩
        · rfl
        · rfl
      · cases h
    · cases h
  · rename_i op t x y yT ho
    replace h := bif_some h; obtain ⟨hu, h⟩ := h
    simp only [Bool.and_eq_true] at hu
    split at h
    · rename_i vc av hb
      injection h with h; subst h
      exact ⟨⟨hr, fun x hx => by simp at hx⟩, beq2_opSound ho hu.1 hu.2 hb hv hd⟩
    · cases h
  · rename_i t ho
    replace h := bif_some h; obtain ⟨hu, h⟩ := h
    injection h with h; subst h
    exact ⟨⟨hr, fun x hx => by simp at hx; subst hx; exact isUnused_eq hu⟩, makeMap_opSound ho hd⟩
  · rename_i t x y ok ho
    replace h := bif_some h; obtain ⟨hu, h⟩ := h
    simp only [Bool.and_eq_true] at hu
    split at h
    · rename_i vc id av hb
      injection h with h; subst h
      exact ⟨⟨hr, fun x hx => by simp at hx; subst hx; rfl⟩, lookup_opSound ho hu.1 hu.2 hb hv hd⟩
    · cases h
  · rename_i t x y z ho
    replace h := bif_some h; obtain ⟨hu, h⟩ := h
    simp only [Bool.and_eq_true, Option.isNone_iff_eq_none] at hu
    split at h
    · rename_i vc id bx hb
      injection h with h; subst h
      exact ⟨⟨hr, fun x hx => by simp at hx; subst hx; rfl⟩, mapUpdate_opSound ho hu.1.1 hu.1.2.1 hu.1.2.2 hb hv hu.2⟩
    · cases h
  · rename_i f args ts ho
    replace h := bif_some h; obtain ⟨hu, h⟩ := h
    simp only [Bool.and_eq_true, List.all_eq_true] at hu
    split at h
    · rename_i vc wb av hb
      injection h with h; subst h
      exact ⟨⟨hr, fun x hx => by simp only [List.mem_map] at hx; obtain ⟨i, _, rfl⟩ := hx; rfl⟩, call_opSound ho hu.1 hu.2 hb hv hd⟩
    · cases h
  · cases h

theorem core_sound {P : Program} {N np : Nat} {o : Oper} {st : AS} {hn : Hint} {r : List Prop × Eff} (h : core P N np o hn st = some r) (hv : ∀ p ∈ r.1, p) : r.2.holds st ∧ OpSound P N np o r.2 := by
  unfold core at h
  replace h := bif_some h; obtain ⟨hd, h⟩ := h
  have hr := rsOf_holds st (operandsOf o.op)
  cases hxx : hn.x
  case true => rw [hxx] at h; simp only [cond_true] at h; exact xop_sound h hr hv hd
  rw [hxx] at h
  simp only [cond_false] at h
  cases hdep : hn.dep
  case true =>
    rw [hdep] at h
    simp only [cond_true] at h
    unfold appNew at h
    split at h
    case h_2 => cases h
    rename_i args ts ho
    split at h
    case h_2 => cases h
    rename_i x y t t2 ha ht
    rw [arr2 ha, arr2 ht] at ho
    replace h := bif_some h; obtain ⟨hc, h⟩ := h
    simp only [Bool.and_eq_true] at hc
    split at h
    case h_2 => cases h
    rename_i vc ids bx av hb
    injection h with h; subst h
    refine ⟨⟨hr, fun z hz => ?_⟩, appendNew_opSound ho hc.1.1 hc.1.2 hb hv hd⟩
    simp only [List.mem_cons, List.mem_map] at hz
    rcases hz with rfl | ⟨i, _, rfl⟩
    · exact isUnused_eq hc.2
    · rfl
  rw [hdep] at h
  simp only [cond_false] at h
  cases hm : (core.isNilOp o && Nat.beq hn.m 1)
  · rw [hm] at h
    simp only [cond_false] at h
    split at h
    · rename_i vc av hvop
      injection h with h; subst h
      exact ⟨⟨hr, fun x hx => by simp at hx⟩, vop_opSound hvop hv hd⟩
    · exact bop_sound h hr hv hd
  · rw [hm] at h
    simp only [cond_true] at h
    unfold nilOwn at h
    split at h
    · rename_i x e ho he
      replace h := bif_some h; obtain ⟨hu, h⟩ := h
      simp only [Bool.and_eq_true] at hu
      injection h with h; subst h
      exact ⟨⟨hr, fun x hx => by simp at hx; subst hx; exact isUnused_eq hu.2⟩, nilOwn_opSound (.inl ho) hu.1 hd⟩
    · rename_i x e ho he
      replace h := bif_some h; obtain ⟨hu, h⟩ := h
      simp only [Bool.and_eq_true] at hu
      injection h with h; subst h
      exact ⟨⟨hr, fun x hx => by simp at hx; subst hx; exact isUnused_eq hu.2⟩, nilOwn_opSound (.inr ho) hu.1 hd⟩
    · cases h
end Go.Ab
