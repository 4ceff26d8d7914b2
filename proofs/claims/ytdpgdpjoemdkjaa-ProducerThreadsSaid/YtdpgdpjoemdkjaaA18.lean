/- One operation as a summary; a region as a row of summaries. -/
import Derived.Test.YtdpgdpjoemdkjaaA38
namespace Go.Ab
open Go
def x5:Op→List Operand
 | .move x | .assign x | .box _ x | .load _ x | .nilCheck x | .unOp _ _ x | .convert _ _ x | .fieldAddr _ x _ | .field _ x _ | .extract x _=>[x]
 | .pick c a b=>[c,a,b]
 | .build _ ps | .buildSlice _ _ ps=>ps.toList.map (·.2)
 | .mapUpdate _ m k v=>[m,k,v]
 | .lookup _ a v _ | .store _ a v | .binOp _ _ a v _ | .makeSlice _ a v | .indexAddr _ a v | .index _ a v=>[a,v]
 | .makeFunc _ first captured=>first.toList++captured.toList
 | .slice _ x l h m=>x::(l.toList++(h.toList++m.toList))
 | .call { callee:=.value f,args:=args,.. }=>f::args.toList
 | .call { callee:=.builtin _,args:=args,.. }=>args.toList
 | _=>[]
theorem zEH (st:AS) (xs:List Operand):∀ x∈jX st xs,st.slot x.1=x.2:=by
 induction xs with
 | nil=>intro x hx;cases hx
 | cons a r ih =>
  intro x hx
  cases a with
  | tmp t =>
   simp only [jX,List.mem_cons] at hx
   rcases hx with rfl | hx
   ·rfl
   ·exact ih x hx
  | _=>exact ih x hx
def bop (P:Program) (np:Nat) (o:Oper) (rs:List (Nat×AV)) (B:Nat→zP) (h:yJ):Option (List Prop×Eff) :=
 match o.op with
 | .alloc t =>
  bif v6 (B h.id) then
   match zEM P t h with
   | some (bx,_)=>some ([],{ rs:=rs,rb:=[(h.id,.unused)],dst:=o.dst.map fun d=>(d,.ptr h.id 0 0 0),wb:=[(h.id,.live bx)] })
   | none=>none
  else none
 | .box t x =>
  bif v6 (B h.id)&&(yD x&&uJ (zZ rs x)) then
   match zLj P t (zZ rs x).cells h with
   | some (bx,_)=>some ([],{ rs:=rs,rb:=[(h.id,.unused)],dst:=o.dst.map fun d=>(d,.ptr h.id 0 0 0),wb:=[(h.id,.live bx)] })
   | none=>none
  else none
 | .load t x =>
  bif yD x then
   match zJe P t (zZ rs x) B h with
   | some (vc,id,av)=>some (vc,{ rs:=rs,rb:=[(id,B id)],dst:=o.dst.map fun d=>(d,av) })
   | none=>none
  else none
 | .store t x y =>
  bif (yD x&&yD y)&&o.dst.isNone then
   match zG5 P t (zZ rs x) (zZ rs y) B h with
   | some (vc,id,bx)=>some (vc,{ rs:=rs,rb:=[(id,B id)],wb:=[(id,.live bx)] })
   | none=>none
  else none
 | .makeSlice t x y =>
  bif v6 (B h.id)&&(yD x&&yD y) then
   match zJt P t (zZ rs x) (zZ rs y) h with
   | some (vc,bx,av)=>some (vc,{ rs:=rs,rb:=[(h.id,.unused)],dst:=o.dst.map fun d=>(d,av),wb:=[(h.id,.live bx)] })
   | none=>none
  else none
 | .buildSlice t len parts =>
  bif v6 (B h.id)&&parts.toList.all (fun p=>yD p.2) then
   match zBq P t len (zZ rs) parts.toList h with
   | some (bx,av)=>some ([],{ rs:=rs,rb:=[(h.id,.unused)],dst:=o.dst.map fun d=>(d,av),wb:=[(h.id,.live bx)] })
   | none=>none
  else none
 | .slice t x lo hi mx =>
  bif yD x&&(zBU lo&&zBU hi) then
   match zGq P t (zZ rs) x lo hi mx B with
   | some (vc,id,av)=>some (vc,{ rs:=rs,rb:=[(id,B id)],dst:=o.dst.map fun d=>(d,av) })
   | none=>none
  else none
 | .convert s d x =>
  bif yD x&&zGj (zZ rs x) then
   match zJl P s d (zZ rs x) B h with
   | some (vc,ids,av)=>some (vc,{ rs:=rs,rb:=ids.map (fun i=>(i,B i)),dst:=o.dst.map fun d=>(d,av) })
   | none =>
    match zGo P s d (zZ rs x) B np with
    | some (vc,id,av)=>some (vc,{ rs:=rs,rb:=[(id,B id)],dst:=o.dst.map fun d=>(d,av),wb:=[(id,.dead)] })
    | none=>none
  else none
 | .call { callee:=.builtin b,args:=args,argTypes:=ts } =>
  match b,args.toList,ts.toList with
  | .append,[x,y],[t,t2] =>
   bif yD x&&yD y then
    match zEU P t t2 (zZ rs x) (nz (zZ rs y)) B h with
    | some (vc,ids,id,bx,av) =>
     bif v6 (B h.id)&&Nat.ble np id then
      some (vc,{ rs:=rs,rb:=(h.id,.unused)::(id,B id)::ids.map (fun i=>(i,B i)),dst:=o.dst.map fun d=>(d,av),wb:=[(h.id,.live bx),(id,.dead)] })
     else none
    | none =>
     match zBs P t t2 (nz (zZ rs x)) (nz (zZ rs y)) B h with
     | some (vc,ids,av)=>some (vc,{ rs:=rs,rb:=ids.map (fun i=>(i,B i)),dst:=o.dst.map fun d=>(d,av) })
     | none=>none
   else none
  | .len,[x],[t] =>
   bif yD x then
    match zJu P t (zZ rs x) B h with
    | some (vc,id,av)=>some (vc,{ rs:=rs,rb:=[(id,B id)],dst:=o.dst.map fun d=>(d,av) })
    | none=>none
   else none
  | .copy,[x,y],[t,_] =>
   bif yD x&&yD y then
    match zIY P t (zZ rs x) (nz (zZ rs y)) B h with
    | some (vc,ids,id,bx,av)=>some (vc,{ rs:=rs,rb:=(id,B id)::ids.map (fun i=>(i,B i)),dst:=o.dst.map fun d=>(d,av),wb:=[(id,.live bx)] })
    | none=>none
   else none
  | _,_,_=>none
 | .binOp op t x y _ =>
  bif yD x&&yD y then
   match zKR P op t (zZ rs x) (zZ rs y) h with
   | some (vc,av)=>some (vc,{ rs:=rs,dst:=o.dst.map fun d=>(d,av) })
   | none=>none
  else none
 | .makeMap _ none=>bif v6 (B h.id) then some ([],{ rs:=rs,rb:=[(h.id,.unused)],dst:=o.dst.map fun d=>(d,.mp h.id),wb:=[(h.id,.live (.map h.mag h.mks []))] }) else none
 | .lookup t x y ok =>
  bif yD x&&yD y then
   match zJv P t (zZ rs x) (zZ rs y) ok B h with
   | some (vc,id,av)=>some (vc,{ rs:=rs,rb:=[(id,B id)],dst:=o.dst.map fun d=>(d,av) })
   | none=>none
  else none
 | .mapUpdate t x y z =>
  bif (yD x&&(yD y&&yD z))&&o.dst.isNone then
   match zIT P t (zZ rs x) (zZ rs y) (zZ rs z) B h with
   | some (vc,id,bx)=>some (vc,{ rs:=rs,rb:=[(id,B id)],wb:=[(id,.live bx)] })
   | none=>none
  else none
 | .call { callee:=.value f,args:=args,argTypes:=_ } =>
  bif yD f&&args.toList.all yD then
   match zIR P np (zZ rs) f args.toList B h with
   | some (vc,wb,av)=>some (vc,{ rs:=rs,rb:=(h.ids++h.gids++h.lend).map (fun i=>(i,B i)),dst:=o.dst.map fun d=>(d,av),wb:=wb })
   | none=>none
  else none
 | _=>none
def zJ8 (P:Program) (o:Oper) (rs:List (Nat×AV)) (B:Nat→zP) (h:yJ):Option (List Prop×Eff) :=
 match o.op,zJa P o.type with
 | .assign x,some e=>bif zAA x&&v6 (B h.id) then some ([],{ rs:=rs,rb:=[(h.id,.unused)],dst:=o.dst.map fun d=>(d,.own h.id 0),wb:=[(h.id,.live (.row e (szT P e) []))] }) else none
 | .move x,some e=>bif zAA x&&v6 (B h.id) then some ([],{ rs:=rs,rb:=[(h.id,.unused)],dst:=o.dst.map fun d=>(d,.own h.id 0),wb:=[(h.id,.live (.row e (szT P e) []))] }) else none
 | _,_=>none
def zKt (P:Program) (o:Oper) (rs:List (Nat×AV)) (B:Nat→zP) (h:yJ):Option (List Prop×Eff) :=
 match o.op with
 | .call { callee:=.builtin .append,args:=args,argTypes:=ts } =>
  match args.toList,ts.toList with
  | [x,y],[t,t2] =>
   bif (yD x&&yD y)&&v6 (B h.id) then
    match zCk P t t2 (nz (zZ rs x)) (nz (zZ rs y)) B h with
    | some (vc,ids,bx,av)=>some (vc,{ rs:=rs,rb:=(h.id,.unused)::ids.map (fun i=>(i,B i)),dst:=o.dst.map fun d=>(d,av),wb:=[(h.id,.live bx)] })
    | none=>none
   else none
  | _,_=>none
 | _=>none
def zGN (P:Program) (N np:Nat) (o:Oper) (h:yJ) (st:AS):Option (List Prop×Eff) :=
 bif x7 N o.dst then
  bif h.x then xop P o (jX st (x5 o.op)) st.box h else
  bif h.dep then zKt P o (jX st (x5 o.op)) st.box h else
  bif isNilOp o&&Nat.beq h.m 1 then zJ8 P o (jX st (x5 o.op)) st.box h
  else
   match vop P o (zZ (jX st (x5 o.op))) h with
   | some (vc,av)=>some (vc,{ rs:=jX st (x5 o.op),dst:=o.dst.map fun d=>(d,av) })
   | none=>bop P np o (jX st (x5 o.op)) st.box h
 else none
where isNilOp (o:Oper):Bool:=match o.op with | .assign _=>true | .move _=>true | _=>false
theorem zEn {a b:Nat} (h:Nat.ble a b=true):a≤b:=Nat.le_of_ble_eq_true h
theorem zJ7 {P:Program} {N np:Nat} {o:Oper} {rs:List (Nat×AV)} {st:AS} {hn:yJ} {r:List Prop×Eff} (h:bop P np o rs st.box hn=some r) (hr:∀ x∈rs,st.slot x.1=x.2)
  (hv:∀ p∈r.1,p) (hd:x7 N o.dst=true):r.2.holds st∧y8 P N np o r.2:=by
 unfold bop at h
 split at h
 ·rename_i t ho
  replace h:=zU h;obtain ⟨hu,h⟩:=h
  split at h
  ·rename_i bx cap hb
   injection h with h;subst h
   exact ⟨⟨hr,fun x hx=>by simp at hx;subst hx;exact w3 hu⟩,zF6 ho hb hd⟩
  ·cases h
 ·rename_i t x ho
  replace h:=zU h;obtain ⟨hu,h⟩:=h
  simp only [Bool.and_eq_true] at hu
  split at h
  ·rename_i bx cap hb
   injection h with h;subst h
   exact ⟨⟨hr,fun x hx=>by simp at hx;subst hx;exact w3 hu.1⟩,zIk ho hu.2.1 hu.2.2 hb hd⟩
  ·cases h
 ·rename_i t x ho
  replace h:=zU h;obtain ⟨hu,h⟩:=h
  split at h
  ·rename_i vc id av hb
   injection h with h;subst h
   exact ⟨⟨hr,fun x hx=>by simp at hx;subst hx;rfl⟩,zHb ho hu hb hv hd⟩
  ·cases h
 ·rename_i t x y ho
  replace h:=zU h;obtain ⟨hu,h⟩:=h
  simp only [Bool.and_eq_true,Option.isNone_iff_eq_none] at hu
  split at h
  ·rename_i vc id bx hb
   injection h with h;subst h
   exact ⟨⟨hr,fun x hx=>by simp at hx;subst hx;rfl⟩,zGd ho hu.1.1 hu.1.2 hb hv hu.2⟩
  ·cases h
 ·rename_i t x y ho
  replace h:=zU h;obtain ⟨hu,h⟩:=h
  simp only [Bool.and_eq_true] at hu
  split at h
  ·rename_i vc bx av hb
   injection h with h;subst h
   exact ⟨⟨hr,fun x hx=>by simp at hx;subst hx;exact w3 hu.1⟩,zHs ho hu.2.1 hu.2.2 hb hv hd⟩
  ·cases h
 ·rename_i t len parts ho
  replace h:=zU h;obtain ⟨hu,h⟩:=h
  simp only [Bool.and_eq_true,List.all_eq_true] at hu
  split at h
  ·rename_i bx av hb
   injection h with h;subst h
   exact ⟨⟨hr,fun x hx=>by simp at hx;subst hx;exact w3 hu.1⟩,zCA ho hu.2 hb hd⟩
  ·cases h
 ·rename_i t x lo hi mx ho
  replace h:=zU h;obtain ⟨hu,h⟩:=h
  simp only [Bool.and_eq_true] at hu
  split at h
  ·rename_i vc id av hb
   injection h with h;subst h
   exact ⟨⟨hr,fun x hx=>by simp at hx;subst hx;rfl⟩,zF0 ho hu.1 hu.2.1 hu.2.2 hb hv hd⟩
  ·cases h
 ·rename_i s d x ho
  replace h:=zU h;obtain ⟨hu,h⟩:=h
  simp only [Bool.and_eq_true] at hu
  split at h
  ·rename_i vc ids av hb
   injection h with h;subst h
   exact ⟨⟨hr,fun x hx=>by simp only [List.mem_map] at hx;obtain ⟨i,_,rfl⟩:=hx;rfl⟩,zGm ho hu.1 hu.2 hb hv hd⟩
  ·split at h
   ·rename_i vc id av hb
    injection h with h;subst h
    exact ⟨⟨hr,fun x hx=>by simp at hx;subst hx;rfl⟩,zF1 ho hu.1 hb hv hd⟩
   ·cases h
 ·rename_i b args ts ho
  split at h
  ·rename_i x y t t2 ha ht
   rw [nS ha,nS ht] at ho
   replace h:=zU h;obtain ⟨hu,h⟩:=h
   simp only [Bool.and_eq_true] at hu
   split at h
   ·rename_i vc ids id bx av hb
    replace h:=zU h;obtain ⟨hu2,h⟩:=h
    simp only [Bool.and_eq_true] at hu2
    injection h with h;subst h
    refine ⟨⟨hr,fun x hx=>?_⟩,zFd ho hu.1 hu.2 hb hv hd (zEn hu2.2)⟩
    simp only [List.mem_cons,List.mem_map] at hx
    rcases hx with rfl | rfl | ⟨i,_,rfl⟩
    ·exact w3 hu2.1
    ·rfl
    ·rfl
   ·split at h
    ·rename_i vc ids av hb
     injection h with h;subst h
     exact ⟨⟨hr,fun x hx=>by simp only [List.mem_map] at hx;obtain ⟨i,_,rfl⟩:=hx;rfl⟩,zCQ ho hu.1 hu.2 hb hv hd⟩
    ·cases h
  ·rename_i x t ha ht
   rw [zE2 ha,zE2 ht] at ho
   replace h:=zU h;obtain ⟨hu,h⟩:=h
   split at h
   ·rename_i vc id av hb
    injection h with h;subst h
    exact ⟨⟨hr,fun x hx=>by simp at hx;subst hx;rfl⟩,zHN ho hu hb hv hd⟩
   ·cases h
  ·rename_i x y t t2 ha ht
   rw [nS ha,nS ht] at ho
   replace h:=zU h;obtain ⟨hu,h⟩:=h
   simp only [Bool.and_eq_true] at hu
   split at h
   ·rename_i vc ids id bx av hb
    injection h with h;subst h
    refine ⟨⟨hr,fun x hx=>?_⟩,zHP ho hu.1 hu.2 hb hv hd⟩
    simp only [List.mem_cons,List.mem_map] at hx
    rcases hx with rfl | ⟨i,_,rfl⟩
    ·rfl
    ·rfl
   ·cases h
  ·cases h
 ·rename_i op t x y yT ho
  replace h:=zU h;obtain ⟨hu,h⟩:=h
  simp only [Bool.and_eq_true] at hu
  split at h
  ·rename_i vc av hb
   injection h with h;subst h
   exact ⟨⟨hr,fun x hx=>by simp at hx⟩,zGD ho hu.1 hu.2 hb hv hd⟩
  ·cases h
 ·rename_i t ho
  replace h:=zU h;obtain ⟨hu,h⟩:=h
  injection h with h;subst h
  exact ⟨⟨hr,fun x hx=>by simp at hx;subst hx;exact w3 hu⟩,zEB ho hd⟩
 ·rename_i t x y ok ho
  replace h:=zU h;obtain ⟨hu,h⟩:=h
  simp only [Bool.and_eq_true] at hu
  split at h
  ·rename_i vc id av hb
   injection h with h;subst h
   exact ⟨⟨hr,fun x hx=>by simp at hx;subst hx;rfl⟩,zE3 ho hu.1 hu.2 hb hv hd⟩
  ·cases h
 ·rename_i t x y z ho
  replace h:=zU h;obtain ⟨hu,h⟩:=h
  simp only [Bool.and_eq_true,Option.isNone_iff_eq_none] at hu
  split at h
  ·rename_i vc id bx hb
   injection h with h;subst h
   exact ⟨⟨hr,fun x hx=>by simp at hx;subst hx;rfl⟩,zDf ho hu.1.1 hu.1.2.1 hu.1.2.2 hb hv hu.2⟩
  ·cases h
 ·rename_i f args ts ho
  replace h:=zU h;obtain ⟨hu,h⟩:=h
  simp only [Bool.and_eq_true,List.all_eq_true] at hu
  split at h
  ·rename_i vc wb av hb
   injection h with h;subst h
   exact ⟨⟨hr,fun x hx=>by simp only [List.mem_map] at hx;obtain ⟨i,_,rfl⟩:=hx;rfl⟩,zHi ho hu.1 hu.2 hb hv hd⟩
  ·cases h
 ·cases h
theorem zEh {P:Program} {N np:Nat} {o:Oper} {st:AS} {hn:yJ} {r:List Prop×Eff} (h:zGN P N np o hn st=some r) (hv:∀ p∈r.1,p):r.2.holds st∧y8 P N np o r.2:=by
 unfold zGN at h
 replace h:=zU h;obtain ⟨hd,h⟩:=h
 have hr:=zEH st (x5 o.op)
 cases hxx:hn.x
 case true=>rw [hxx] at h;simp only [cond_true] at h;exact zJF h hr hv hd
 rw [hxx] at h
 simp only [cond_false] at h
 cases hdep:hn.dep
 case true =>
  rw [hdep] at h
  simp only [cond_true] at h
  unfold zKt at h
  split at h
  case h_2=>cases h
  rename_i args ts ho
  split at h
  case h_2=>cases h
  rename_i x y t t2 ha ht
  rw [nS ha,nS ht] at ho
  replace h:=zU h;obtain ⟨hc,h⟩:=h
  simp only [Bool.and_eq_true] at hc
  split at h
  case h_2=>cases h
  rename_i vc ids bx av hb
  injection h with h;subst h
  refine ⟨⟨hr,fun z hz=>?_⟩,zDe ho hc.1.1 hc.1.2 hb hv hd⟩
  simp only [List.mem_cons,List.mem_map] at hz
  rcases hz with rfl | ⟨i,_,rfl⟩
  ·exact w3 hc.2
  ·rfl
 rw [hdep] at h
 simp only [cond_false] at h
 cases hm:(zGN.isNilOp o&&Nat.beq hn.m 1)
 ·rw [hm] at h
  simp only [cond_false] at h
  split at h
  ·rename_i vc av hvop
   injection h with h;subst h
   exact ⟨⟨hr,fun x hx=>by simp at hx⟩,zIh hvop hv hd⟩
  ·exact zJ7 h hr hv hd
 ·rw [hm] at h
  simp only [cond_true] at h
  unfold zJ8 at h
  split at h
  ·rename_i x e ho he
   replace h:=zU h;obtain ⟨hu,h⟩:=h
   simp only [Bool.and_eq_true] at hu
   injection h with h;subst h
   exact ⟨⟨hr,fun x hx=>by simp at hx;subst hx;exact w3 hu.2⟩,zBJ (.inl ho) hu.1 hd⟩
  ·rename_i x e ho he
   replace h:=zU h;obtain ⟨hu,h⟩:=h
   simp only [Bool.and_eq_true] at hu
   injection h with h;subst h
   exact ⟨⟨hr,fun x hx=>by simp at hx;subst hx;exact w3 hu.2⟩,zBJ (.inr ho) hu.1 hd⟩
  ·cases h
end Go.Ab
