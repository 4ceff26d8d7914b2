/- One operation as a summary; a region as a row of summaries. -/
import Derived.Test.YtbifmbdcejggkaaA36
namespace Go.Ab
open Go

def vL:Op→List Operand
  | .move x | .assign x | .box _ x | .load _ x | .nilCheck x | .unOp _ _ x | .convert _ _ x | .fieldAddr _ x _ | .field _ x _ | .extract x _=>[x]
  | .pick c a b=>[c,a,b]
  | .build _ ps | .buildSlice _ _ ps=>ps.toList.map (·.2)
  | .mapUpdate _ m k v=>[m,k,v]
  | .lookup _ a v _ | .store _ a v | .binOp _ _ a v _ | .makeSlice _ a v | .indexAddr _ a v | .index _ a v=>[a,v]
  | .makeFunc _ first captured=>first.toList++captured.toList
  | .slice _ x l h m=>x::(l.toList++(h.toList++m.toList))
  | .call { callee:=.value f,args:=args,.. }=>f::args.toList
  | .call { callee:=.builtin _,args:=args,.. }=>args.toList
  | _=>[]

theorem zDu (st:AS) (xs:List Operand):∀ x∈kO st xs,st.slot x.1=x.2:=by
  induction xs with
  | nil=>intro x hx;cases hx
  | cons a r ih =>
    intro x hx
    cases a with
    | tmp t =>
      simp only [kO,List.mem_cons] at hx
      rcases hx with rfl | hx
      · rfl
      · exact ih x hx
    | _=>exact ih x hx

/-- The operations on the call's own blocks. -/
def bop (P:Program) (np:Nat) (o:Oper) (rs:List (Nat×AV)) (B:Nat→zN) (h:xI):Option (List Prop×Eff) :=
  match o.op with
  | .alloc t =>
    bif uE (B h.id) then
      match zFv P t h with
      | some (bx,_)=>some ([],{ rs:=rs,rb:=[(h.id,.unused)],dst:=o.dst.map fun d=>(d,.ptr h.id 0 0 0),wb:=[(h.id,.live bx)] })
      | none=>none
    else none
  | .box t x =>
    bif uE (B h.id)&&(y3 x&&tU (z9 rs x)) then
      match zL5 P t (z9 rs x).cells h with
      | some (bx,_)=>some ([],{ rs:=rs,rb:=[(h.id,.unused)],dst:=o.dst.map fun d=>(d,.ptr h.id 0 0 0),wb:=[(h.id,.live bx)] })
      | none=>none
    else none
  | .load t x =>
    bif y3 x then
      match zKm P t (z9 rs x) B h with
      | some (vc,id,av)=>some (vc,{ rs:=rs,rb:=[(id,B id)],dst:=o.dst.map fun d=>(d,av) })
      | none=>none
    else none
  | .store t x y =>
    bif (y3 x&&y3 y)&&o.dst.isNone then
      match zIs P t (z9 rs x) (z9 rs y) B h with
      | some (vc,id,bx)=>some (vc,{ rs:=rs,rb:=[(id,B id)],wb:=[(id,.live bx)] })
      | none=>none
    else none
  | .makeSlice t x y =>
    bif uE (B h.id)&&(y3 x&&y3 y) then
      match zKF P t (z9 rs x) (z9 rs y) h with
      | some (vc,bx,av)=>some (vc,{ rs:=rs,rb:=[(h.id,.unused)],dst:=o.dst.map fun d=>(d,av),wb:=[(h.id,.live bx)] })
      | none=>none
    else none
  | .buildSlice t len parts =>
    bif uE (B h.id)&&parts.toList.all (fun p=>y3 p.2) then
      match zCt P t len (z9 rs) parts.toList h with
      | some (bx,av)=>some ([],{ rs:=rs,rb:=[(h.id,.unused)],dst:=o.dst.map fun d=>(d,av),wb:=[(h.id,.live bx)] })
      | none=>none
    else none
  | .slice t x lo hi mx =>
    bif y3 x&&(zC7 lo&&zC7 hi) then
      match zHU P t (z9 rs) x lo hi mx B with
      | some (vc,id,av)=>some (vc,{ rs:=rs,rb:=[(id,B id)],dst:=o.dst.map fun d=>(d,av) })
      | none=>none
    else none
  | .convert s d x =>
    bif y3 x&&zHD (z9 rs x) then
      match zKN P s d (z9 rs x) B h with
      | some (vc,ids,av)=>some (vc,{ rs:=rs,rb:=ids.map (fun i=>(i,B i)),dst:=o.dst.map fun d=>(d,av) })
      | none =>
        match zIl P s d (z9 rs x) B np with
        | some (vc,id,av)=>some (vc,{ rs:=rs,rb:=[(id,B id)],dst:=o.dst.map fun d=>(d,av),wb:=[(id,.dead)] })
        | none=>none
    else none
  | .call { callee:=.builtin b,args:=args,argTypes:=ts } =>
    match b,args.toList,ts.toList with
    | .append,[x,y],[t,t2] =>
      bif y3 x&&y3 y then
        match zGL P t t2 (z9 rs x) (nz (z9 rs y)) B h with
        | some (vc,ids,id,bx,av) =>
          bif uE (B h.id)&&Nat.ble np id then
            some (vc,{ rs:=rs,rb:=(h.id,.unused)::(id,B id)::ids.map (fun i=>(i,B i)),dst:=o.dst.map fun d=>(d,av),wb:=[(h.id,.live bx),(id,.dead)] })
          else none
        | none =>
          match zCw P t t2 (nz (z9 rs x)) (nz (z9 rs y)) B h with
          | some (vc,ids,av)=>some (vc,{ rs:=rs,rb:=ids.map (fun i=>(i,B i)),dst:=o.dst.map fun d=>(d,av) })
          | none=>none
      else none
    | .len,[x],[t] =>
      bif y3 x then
        match zKb P t (z9 rs x) B h with
        | some (vc,id,av)=>some (vc,{ rs:=rs,rb:=[(id,B id)],dst:=o.dst.map fun d=>(d,av) })
        | none=>none
      else none
    | .copy,[x,y],[t,_] =>
      bif y3 x&&y3 y then
        match zKl P t (z9 rs x) (nz (z9 rs y)) B h with
        | some (vc,ids,id,bx,av)=>some (vc,{ rs:=rs,rb:=(id,B id)::ids.map (fun i=>(i,B i)),dst:=o.dst.map fun d=>(d,av),wb:=[(id,.live bx)] })
        | none=>none
      else none
    | _,_,_=>none
  | .binOp op t x y _ =>
    bif y3 x&&y3 y then
      match zL4 P op t (z9 rs x) (z9 rs y) h with
      | some (vc,av)=>some (vc,{ rs:=rs,dst:=o.dst.map fun d=>(d,av) })
      | none=>none
    else none
  | .makeMap _ none=>bif uE (B h.id) then some ([],{ rs:=rs,rb:=[(h.id,.unused)],dst:=o.dst.map fun d=>(d,.mp h.id),wb:=[(h.id,.live (.map h.mag h.mks []))] }) else none
  | .lookup t x y ok =>
    bif y3 x&&y3 y then
      match zKj P t (z9 rs x) (z9 rs y) ok B h with
      | some (vc,id,av)=>some (vc,{ rs:=rs,rb:=[(id,B id)],dst:=o.dst.map fun d=>(d,av) })
      | none=>none
    else none
  | .mapUpdate t x y z =>
    bif (y3 x&&(y3 y&&y3 z))&&o.dst.isNone then
      match zKk P t (z9 rs x) (z9 rs y) (z9 rs z) B h with
      | some (vc,id,bx)=>some (vc,{ rs:=rs,rb:=[(id,B id)],wb:=[(id,.live bx)] })
      | none=>none
    else none
  | .call { callee:=.value f,args:=args,argTypes:=_ } =>
    bif y3 f&&args.toList.all y3 then
      match zKA P np (z9 rs) f args.toList B h with
      | some (vc,wb,av)=>some (vc,{ rs:=rs,rb:=(h.ids++h.gids++h.lend).map (fun i=>(i,B i)),dst:=o.dst.map fun d=>(d,av),wb:=wb })
      | none=>none
    else none
  | _=>none

/-- A nil slice that is to be a row of the call's own. -/
def zLv (P:Program) (o:Oper) (rs:List (Nat×AV)) (B:Nat→zN) (h:xI):Option (List Prop×Eff) :=
  match o.op,zJ4 P o.type with
  | .assign x,some e=>bif zBC x&&uE (B h.id) then some ([],{ rs:=rs,rb:=[(h.id,.unused)],dst:=o.dst.map fun d=>(d,.own h.id 0),wb:=[(h.id,.live (.row e (szT P e) []))] }) else none
  | .move x,some e=>bif zBC x&&uE (B h.id) then some ([],{ rs:=rs,rb:=[(h.id,.unused)],dst:=o.dst.map fun d=>(d,.own h.id 0),wb:=[(h.id,.live (.row e (szT P e) []))] }) else none
  | _,_=>none

/-- Append to a slice without room: a new row. -/
def zLm (P:Program) (o:Oper) (rs:List (Nat×AV)) (B:Nat→zN) (h:xI):Option (List Prop×Eff) :=
  match o.op with
  | .call { callee:=.builtin .append,args:=args,argTypes:=ts } =>
    match args.toList,ts.toList with
    | [x,y],[t,t2] =>
      bif (y3 x&&y3 y)&&uE (B h.id) then
        match zDt P t t2 (nz (z9 rs x)) (nz (z9 rs y)) B h with
        | some (vc,ids,bx,av)=>some (vc,{ rs:=rs,rb:=(h.id,.unused)::ids.map (fun i=>(i,B i)),dst:=o.dst.map fun d=>(d,av),wb:=[(h.id,.live bx)] })
        | none=>none
      else none
    | _,_=>none
  | _=>none

def zJX (P:Program) (N np:Nat) (o:Oper) (h:xI) (st:AS):Option (List Prop×Eff) :=
  bif vP N o.dst then
    bif h.x then xop P o (kO st (vL o.op)) st.box h else
    bif h.dep then zLm P o (kO st (vL o.op)) st.box h else
    bif isNilOp o&&Nat.beq h.m 1 then zLv P o (kO st (vL o.op)) st.box h
    else
      match vop P o (z9 (kO st (vL o.op))) h with
      | some (vc,av)=>some (vc,{ rs:=kO st (vL o.op),dst:=o.dst.map fun d=>(d,av) })
      | none=>bop P np o (kO st (vL o.op)) st.box h
  else none
where isNilOp (o:Oper):Bool:=match o.op with | .assign _=>true | .move _=>true | _=>false

theorem zDQ {a b:Nat} (h:Nat.ble a b=true):a≤b:=Nat.le_of_ble_eq_true h

theorem zL0 {P:Program} {N np:Nat} {o:Oper} {rs:List (Nat×AV)} {st:AS} {hn:xI} {r:List Prop×Eff} (h:bop P np o rs st.box hn=some r) (hr:∀ x∈rs,st.slot x.1=x.2)
    (hv:∀ p∈r.1,p) (hd:vP N o.dst=true):r.2.holds st∧wU P N np o r.2:=by
  unfold bop at h
  split at h
  · rename_i t ho
    replace h:=zY h;obtain ⟨hu,h⟩:=h
    split at h
    · rename_i bx cap hb
      injection h with h;subst h
      exact ⟨⟨hr,fun x hx=>by simp at hx;subst hx;exact vH hu⟩,zHk ho hb hd⟩
    · cases h
  · rename_i t x ho
    replace h:=zY h;obtain ⟨hu,h⟩:=h
    simp only [Bool.and_eq_true] at hu
    split at h
    · rename_i bx cap hb
      injection h with h;subst h
      exact ⟨⟨hr,fun x hx=>by simp at hx;subst hx;exact vH hu.1⟩,zJw ho hu.2.1 hu.2.2 hb hd⟩
    · cases h
  · rename_i t x ho
    replace h:=zY h;obtain ⟨hu,h⟩:=h
    split at h
    · rename_i vc id av hb
      injection h with h;subst h
      exact ⟨⟨hr,fun x hx=>by simp at hx;subst hx;rfl⟩,zIw ho hu hb hv hd⟩
    · cases h
  · rename_i t x y ho
    replace h:=zY h;obtain ⟨hu,h⟩:=h
    simp only [Bool.and_eq_true,Option.isNone_iff_eq_none] at hu
    split at h
    · rename_i vc id bx hb
      injection h with h;subst h
      exact ⟨⟨hr,fun x hx=>by simp at hx;subst hx;rfl⟩,zHg ho hu.1.1 hu.1.2 hb hv hu.2⟩
    · cases h
  · rename_i t x y ho
    replace h:=zY h;obtain ⟨hu,h⟩:=h
    simp only [Bool.and_eq_true] at hu
    split at h
    · rename_i vc bx av hb
      injection h with h;subst h
      exact ⟨⟨hr,fun x hx=>by simp at hx;subst hx;exact vH hu.1⟩,zIg ho hu.2.1 hu.2.2 hb hv hd⟩
    · cases h
  · rename_i t len parts ho
    replace h:=zY h;obtain ⟨hu,h⟩:=h
    simp only [Bool.and_eq_true,List.all_eq_true] at hu
    split at h
    · rename_i bx av hb
      injection h with h;subst h
      exact ⟨⟨hr,fun x hx=>by simp at hx;subst hx;exact vH hu.1⟩,zEa ho hu.2 hb hd⟩
    · cases h
  · rename_i t x lo hi mx ho
    replace h:=zY h;obtain ⟨hu,h⟩:=h
    simp only [Bool.and_eq_true] at hu
    split at h
    · rename_i vc id av hb
      injection h with h;subst h
      exact ⟨⟨hr,fun x hx=>by simp at hx;subst hx;rfl⟩,zHi ho hu.1 hu.2.1 hu.2.2 hb hv hd⟩
    · cases h
  · rename_i s d x ho
    replace h:=zY h;obtain ⟨hu,h⟩:=h
    simp only [Bool.and_eq_true] at hu
    split at h
    · rename_i vc ids av hb
      injection h with h;subst h
      exact ⟨⟨hr,fun x hx=>by simp only [List.mem_map] at hx;obtain ⟨i,_,rfl⟩:=hx;rfl⟩,zH4 ho hu.1 hu.2 hb hv hd⟩
    · split at h
      · rename_i vc id av hb
        injection h with h;subst h
        exact ⟨⟨hr,fun x hx=>by simp at hx;subst hx;rfl⟩,zHh ho hu.1 hb hv hd⟩
      · cases h
  · rename_i b args ts ho
    split at h
    · rename_i x y t t2 ha ht
      rw [zAU ha,zAU ht] at ho
      replace h:=zY h;obtain ⟨hu,h⟩:=h
      simp only [Bool.and_eq_true] at hu
      split at h
      · rename_i vc ids id bx av hb
        replace h:=zY h;obtain ⟨hu2,h⟩:=h
        simp only [Bool.and_eq_true] at hu2
        injection h with h;subst h
        refine ⟨⟨hr,fun x hx=>?_⟩,zGr ho hu.1 hu.2 hb hv hd (zDQ hu2.2)⟩
        simp only [List.mem_cons,List.mem_map] at hx
        rcases hx with rfl | rfl | ⟨i,_,rfl⟩
        · exact vH hu2.1
        · rfl
        · rfl
      · split at h
        · rename_i vc ids av hb
          injection h with h;subst h
          exact ⟨⟨hr,fun x hx=>by simp only [List.mem_map] at hx;obtain ⟨i,_,rfl⟩:=hx;rfl⟩,zDH ho hu.1 hu.2 hb hv hd⟩
        · cases h
    · rename_i x t ha ht
      rw [zGg ha,zGg ht] at ho
      replace h:=zY h;obtain ⟨hu,h⟩:=h
      split at h
      · rename_i vc id av hb
        injection h with h;subst h
        exact ⟨⟨hr,fun x hx=>by simp at hx;subst hx;rfl⟩,zI3 ho hu hb hv hd⟩
      · cases h
    · rename_i x y t t2 ha ht
      rw [zAU ha,zAU ht] at ho
      replace h:=zY h;obtain ⟨hu,h⟩:=h
      simp only [Bool.and_eq_true] at hu
      split at h
      · rename_i vc ids id bx av hb
        injection h with h;subst h
        refine ⟨⟨hr,fun x hx=>?_⟩,zI0 ho hu.1 hu.2 hb hv hd⟩
        simp only [List.mem_cons,List.mem_map] at hx
        rcases hx with rfl | ⟨i,_,rfl⟩
        · rfl
        · rfl
      · cases h
    · cases h
  · rename_i op t x y yT ho
    replace h:=zY h;obtain ⟨hu,h⟩:=h
    simp only [Bool.and_eq_true] at hu
    split at h
    · rename_i vc av hb
      injection h with h;subst h
      exact ⟨⟨hr,fun x hx=>by simp at hx⟩,zHW ho hu.1 hu.2 hb hv hd⟩
    · cases h
  · rename_i t ho
    replace h:=zY h;obtain ⟨hu,h⟩:=h
    injection h with h;subst h
    exact ⟨⟨hr,fun x hx=>by simp at hx;subst hx;exact vH hu⟩,zF6 ho hd⟩
  · rename_i t x y ok ho
    replace h:=zY h;obtain ⟨hu,h⟩:=h
    simp only [Bool.and_eq_true] at hu
    split at h
    · rename_i vc id av hb
      injection h with h;subst h
      exact ⟨⟨hr,fun x hx=>by simp at hx;subst hx;rfl⟩,zGM ho hu.1 hu.2 hb hv hd⟩
    · cases h
  · rename_i t x y z ho
    replace h:=zY h;obtain ⟨hu,h⟩:=h
    simp only [Bool.and_eq_true,Option.isNone_iff_eq_none] at hu
    split at h
    · rename_i vc id bx hb
      injection h with h;subst h
      exact ⟨⟨hr,fun x hx=>by simp at hx;subst hx;rfl⟩,zEt ho hu.1.1 hu.1.2.1 hu.1.2.2 hb hv hu.2⟩
    · cases h
  · rename_i f args ts ho
    replace h:=zY h;obtain ⟨hu,h⟩:=h
    simp only [Bool.and_eq_true,List.all_eq_true] at hu
    split at h
    · rename_i vc wb av hb
      injection h with h;subst h
      exact ⟨⟨hr,fun x hx=>by simp only [List.mem_map] at hx;obtain ⟨i,_,rfl⟩:=hx;rfl⟩,zH5 ho hu.1 hu.2 hb hv hd⟩
    · cases h
  · cases h

theorem zJ3 {P:Program} {N np:Nat} {o:Oper} {st:AS} {hn:xI} {r:List Prop×Eff} (h:zJX P N np o hn st=some r) (hv:∀ p∈r.1,p):r.2.holds st∧wU P N np o r.2:=by
  unfold zJX at h
  replace h:=zY h;obtain ⟨hd,h⟩:=h
  have hr:=zDu st (vL o.op)
  cases hxx:hn.x
  case true=>rw [hxx] at h;simp only [cond_true] at h;exact zLu h hr hv hd
  rw [hxx] at h
  simp only [cond_false] at h
  cases hdep:hn.dep
  case true =>
    rw [hdep] at h
    simp only [cond_true] at h
    unfold zLm at h
    split at h
    case h_2=>cases h
    rename_i args ts ho
    split at h
    case h_2=>cases h
    rename_i x y t t2 ha ht
    rw [zAU ha,zAU ht] at ho
    replace h:=zY h;obtain ⟨hc,h⟩:=h
    simp only [Bool.and_eq_true] at hc
    split at h
    case h_2=>cases h
    rename_i vc ids bx av hb
    injection h with h;subst h
    refine ⟨⟨hr,fun z hz=>?_⟩,zEs ho hc.1.1 hc.1.2 hb hv hd⟩
    simp only [List.mem_cons,List.mem_map] at hz
    rcases hz with rfl | ⟨i,_,rfl⟩
    · exact vH hc.2
    · rfl
  rw [hdep] at h
  simp only [cond_false] at h
  cases hm:(zJX.isNilOp o&&Nat.beq hn.m 1)
  · rw [hm] at h
    simp only [cond_false] at h
    split at h
    · rename_i vc av hvop
      injection h with h;subst h
      exact ⟨⟨hr,fun x hx=>by simp at hx⟩,zJD hvop hv hd⟩
    · exact zL0 h hr hv hd
  · rw [hm] at h
    simp only [cond_true] at h
    unfold zLv at h
    split at h
    · rename_i x e ho he
      replace h:=zY h;obtain ⟨hu,h⟩:=h
      simp only [Bool.and_eq_true] at hu
      injection h with h;subst h
      exact ⟨⟨hr,fun x hx=>by simp at hx;subst hx;exact vH hu.2⟩,zCN (.inl ho) hu.1 hd⟩
    · rename_i x e ho he
      replace h:=zY h;obtain ⟨hu,h⟩:=h
      simp only [Bool.and_eq_true] at hu
      injection h with h;subst h
      exact ⟨⟨hr,fun x hx=>by simp at hx;subst hx;exact vH hu.2⟩,zCN (.inr ho) hu.1 hd⟩
    · cases h
end Go.Ab
