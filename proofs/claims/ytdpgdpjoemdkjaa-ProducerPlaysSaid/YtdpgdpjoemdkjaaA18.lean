/- One operation as a summary; a region as a row of summaries. -/
import Derived.Test.YtdpgdpjoemdkjaaA38
namespace Go.Ab
open Go
def tF:Op→List Operand
 | .move x | .assign x | .box _ x | .load _ x | .nilCheck x | .unOp _ _ x | .convert _ _ x | .fieldAddr _ x _ | .field _ x _ | .extract x _=>[x]
 | .pick c a b=>[c,a,b]
 | .build _ ps | .buildSlice _ _ ps=>ps.toList.map (·.2)
 | .mapUpdate _ m k v=>[m,k,v]
 | .lookup _ a v _ | .store _ a v | .binOp _ _ a v _ | .makeSlice _ a v | .indexAddr _ a v | .index _ a v=>[a,v]
 | .makeFunc _ first captured=>first.toList++captured.toList
 | .slice _ x l h m=>x::(l.toList++(h.toList++m.toList))
 | .call { callee:=.value f,args:=args,.. }=>f::args.toList
 | .call { callee:=.builtin _,args:=args,.. }=>args.toList
 | _=>[]
theorem zJx (st:AS) (xs:List Operand):∀ x∈zBk st xs,st.slot x.1=x.2:=by
 induction xs with
 | nil=>intro x hx;cases hx
 | cons a r ih =>
  intro x hx
  cases a with
  | tmp t =>
   simp only [zBk,List.mem_cons] at hx
   rcases hx with rfl | hx
   ·rfl
   ·exact ih x hx
  | _=>exact ih x hx
def bop (P:Program) (np:Nat) (o:Oper) (rs:List (Nat×AV)) (B:Nat→yM) (h:x4):Option (List Prop×Eff) :=
 match o.op with
 | .alloc t =>
  bif kU (B h.id) then
   match zJi P t h with
   | some (bx,_)=>some ([],{ rs:=rs,rb:=[(h.id,.unused)],dst:=o.dst.map fun d=>(d,.ptr h.id 0 0 0),wb:=[(h.id,.live bx)] })
   | none=>none
  else none
 | .box t x =>
  bif kU (B h.id)&&(xG x&&pN (yY rs x)) then
   match zQp P t (yY rs x).cells h with
   | some (bx,_)=>some ([],{ rs:=rs,rb:=[(h.id,.unused)],dst:=o.dst.map fun d=>(d,.ptr h.id 0 0 0),wb:=[(h.id,.live bx)] })
   | none=>none
  else none
 | .load t x =>
  bif xG x then
   match zOX P t (yY rs x) B h with
   | some (vc,id,av)=>some (vc,{ rs:=rs,rb:=[(id,B id)],dst:=o.dst.map fun d=>(d,av) })
   | none=>none
  else none
 | .store t x y =>
  bif (xG x&&xG y)&&o.dst.isNone then
   match zLy P t (yY rs x) (yY rs y) B h with
   | some (vc,id,bx)=>some (vc,{ rs:=rs,rb:=[(id,B id)],wb:=[(id,.live bx)] })
   | none=>none
  else none
 | .makeSlice t x y =>
  bif kU (B h.id)&&(xG x&&xG y) then
   match zOU P t (yY rs x) (yY rs y) h with
   | some (vc,bx,av)=>some (vc,{ rs:=rs,rb:=[(h.id,.unused)],dst:=o.dst.map fun d=>(d,av),wb:=[(h.id,.live bx)] })
   | none=>none
  else none
 | .buildSlice t len parts =>
  bif kU (B h.id)&&parts.toList.all (fun p=>xG p.2) then
   match zFv P t len (yY rs) parts.toList h with
   | some (bx,av)=>some ([],{ rs:=rs,rb:=[(h.id,.unused)],dst:=o.dst.map fun d=>(d,av),wb:=[(h.id,.live bx)] })
   | none=>none
  else none
 | .slice t x lo hi mx =>
  bif xG x&&(zGk lo&&zGk hi) then
   match zLV P t (yY rs) x lo hi mx B with
   | some (vc,id,av)=>some (vc,{ rs:=rs,rb:=[(id,B id)],dst:=o.dst.map fun d=>(d,av) })
   | none=>none
  else none
 | .convert s d x =>
  bif xG x&&zLn (yY rs x) then
   match zO2 P s d (yY rs x) B h with
   | some (vc,ids,av)=>some (vc,{ rs:=rs,rb:=ids.map (fun i=>(i,B i)),dst:=o.dst.map fun d=>(d,av) })
   | none =>
    match zNk P s d (yY rs x) B np with
    | some (vc,id,av)=>some (vc,{ rs:=rs,rb:=[(id,B id)],dst:=o.dst.map fun d=>(d,av),wb:=[(id,.dead)] })
    | none=>none
  else none
 | .call { callee:=.builtin b,args:=args,argTypes:=ts } =>
  match b,args.toList,ts.toList with
  | .append,[x,y],[t,t2] =>
   bif xG x&&xG y then
    match zJ4 P t t2 (yY rs x) (nz (yY rs y)) B h with
    | some (vc,ids,id,bx,av) =>
     bif kU (B h.id)&&Nat.ble np id then
      some (vc,{ rs:=rs,rb:=(h.id,.unused)::(id,B id)::ids.map (fun i=>(i,B i)),dst:=o.dst.map fun d=>(d,av),wb:=[(h.id,.live bx),(id,.dead)] })
     else none
    | none =>
     match zFt P t t2 (nz (yY rs x)) (nz (yY rs y)) B h with
     | some (vc,ids,av)=>some (vc,{ rs:=rs,rb:=ids.map (fun i=>(i,B i)),dst:=o.dst.map fun d=>(d,av) })
     | none=>none
   else none
  | .len,[x],[t] =>
   bif xG x then
    match zOo P t (yY rs x) B h with
    | some (vc,id,av)=>some (vc,{ rs:=rs,rb:=[(id,B id)],dst:=o.dst.map fun d=>(d,av) })
    | none=>none
   else none
  | .copy,[x,y],[t,_] =>
   bif xG x&&xG y then
    match zO0 P t (yY rs x) (nz (yY rs y)) B h with
    | some (vc,ids,id,bx,av)=>some (vc,{ rs:=rs,rb:=(id,B id)::ids.map (fun i=>(i,B i)),dst:=o.dst.map fun d=>(d,av),wb:=[(id,.live bx)] })
    | none=>none
   else none
  | _,_,_=>none
 | .binOp op t x y _ =>
  bif xG x&&xG y then
   match zQP P op t (yY rs x) (yY rs y) h with
   | some (vc,av)=>some (vc,{ rs:=rs,dst:=o.dst.map fun d=>(d,av) })
   | none=>none
  else none
 | .makeMap _ none=>bif kU (B h.id) then some ([],{ rs:=rs,rb:=[(h.id,.unused)],dst:=o.dst.map fun d=>(d,.mp h.id),wb:=[(h.id,.live (.map h.mag h.mks []))] }) else none
 | .lookup t x y ok =>
  bif xG x&&xG y then
   match zOK P t (yY rs x) (yY rs y) ok B h with
   | some (vc,id,av)=>some (vc,{ rs:=rs,rb:=[(id,B id)],dst:=o.dst.map fun d=>(d,av) })
   | none=>none
  else none
 | .mapUpdate t x y z =>
  bif (xG x&&(xG y&&xG z))&&o.dst.isNone then
   match zOx P t (yY rs x) (yY rs y) (yY rs z) B h with
   | some (vc,id,bx)=>some (vc,{ rs:=rs,rb:=[(id,B id)],wb:=[(id,.live bx)] })
   | none=>none
  else none
 | .call { callee:=.value f,args:=args,argTypes:=_ } =>
  bif xG f&&args.toList.all xG then
   match zO5 P np (yY rs) f args.toList B h with
   | some (vc,wb,av)=>some (vc,{ rs:=rs,rb:=(h.ids++h.gids++h.lend).map (fun i=>(i,B i)),dst:=o.dst.map fun d=>(d,av),wb:=wb })
   | none=>none
  else none
 | _=>none
def zPX (P:Program) (o:Oper) (rs:List (Nat×AV)) (B:Nat→yM) (h:x4):Option (List Prop×Eff) :=
 match o.op,zO3 P o.type with
 | .assign x,some e=>bif zEi x&&kU (B h.id) then some ([],{ rs:=rs,rb:=[(h.id,.unused)],dst:=o.dst.map fun d=>(d,.own h.id 0),wb:=[(h.id,.live (.row e (szT P e) []))] }) else none
 | .move x,some e=>bif zEi x&&kU (B h.id) then some ([],{ rs:=rs,rb:=[(h.id,.unused)],dst:=o.dst.map fun d=>(d,.own h.id 0),wb:=[(h.id,.live (.row e (szT P e) []))] }) else none
 | _,_=>none
def zPC (P:Program) (o:Oper) (rs:List (Nat×AV)) (B:Nat→yM) (h:x4):Option (List Prop×Eff) :=
 match o.op with
 | .call { callee:=.builtin .append,args:=args,argTypes:=ts } =>
  match args.toList,ts.toList with
  | [x,y],[t,t2] =>
   bif (xG x&&xG y)&&kU (B h.id) then
    match zFR P t t2 (nz (yY rs x)) (nz (yY rs y)) B h with
    | some (vc,ids,bx,av)=>some (vc,{ rs:=rs,rb:=(h.id,.unused)::ids.map (fun i=>(i,B i)),dst:=o.dst.map fun d=>(d,av),wb:=[(h.id,.live bx)] })
    | none=>none
   else none
  | _,_=>none
 | _=>none
def zM8 (P:Program) (N np:Nat) (o:Oper) (h:x4) (st:AS):Option (List Prop×Eff) :=
 bif tB N o.dst then
  bif h.x then xop P o (zBk st (tF o.op)) st.box h else
  bif h.dep then zPC P o (zBk st (tF o.op)) st.box h else
  bif isNilOp o&&Nat.beq h.m 1 then zPX P o (zBk st (tF o.op)) st.box h
  else
   match vop P o (yY (zBk st (tF o.op))) h with
   | some (vc,av)=>some (vc,{ rs:=zBk st (tF o.op),dst:=o.dst.map fun d=>(d,av) })
   | none=>bop P np o (zBk st (tF o.op)) st.box h
 else none
where isNilOp (o:Oper):Bool:=match o.op with | .assign _=>true | .move _=>true | _=>false
theorem zJD {a b:Nat} (h:Nat.ble a b=true):a≤b:=zle h
theorem zP9 {P:Program} {N np:Nat} {o:Oper} {rs:List (Nat×AV)} {st:AS} {hn:x4} {r:List Prop×Eff} (h:bop P np o rs st.box hn=some r) (hr:∀ x∈rs,st.slot x.1=x.2)
  (hv:∀ p∈r.1,p) (hd:tB N o.dst=true):r.2.holds st∧vZ P N np o r.2:=by
 unfold bop at h
 split at h
 ·rename_i t ho
  replace h:=yK h;obtain ⟨hu,h⟩:=h
  split at h
  ·rename_i bx cap hb
   injection h with h;subst h
   exact ⟨⟨hr,fun x hx=>by simp at hx;subst hx;exact jA hu⟩,zLf ho hb hd⟩
  ·cases h
 ·rename_i t x ho
  replace h:=yK h;obtain ⟨hu,h⟩:=h
  simp only [Bool.and_eq_true] at hu
  split at h
  ·rename_i bx cap hb
   injection h with h;subst h
   exact ⟨⟨hr,fun x hx=>by simp at hx;subst hx;exact jA hu.1⟩,zNM ho hu.2.1 hu.2.2 hb hd⟩
  ·cases h
 ·rename_i t x ho
  replace h:=yK h;obtain ⟨hu,h⟩:=h
  split at h
  ·rename_i vc id av hb
   injection h with h;subst h
   exact ⟨⟨hr,fun x hx=>by simp at hx;subst hx;rfl⟩,zLJ ho hu hb hv hd⟩
  ·cases h
 ·rename_i t x y ho
  replace h:=yK h;obtain ⟨hu,h⟩:=h
  simp only [Bool.and_eq_true,Option.isNone_iff_eq_none] at hu
  split at h
  ·rename_i vc id bx hb
   injection h with h;subst h
   exact ⟨⟨hr,fun x hx=>by simp at hx;subst hx;rfl⟩,zK5 ho hu.1.1 hu.1.2 hb hv hu.2⟩
  ·cases h
 ·rename_i t x y ho
  replace h:=yK h;obtain ⟨hu,h⟩:=h
  simp only [Bool.and_eq_true] at hu
  split at h
  ·rename_i vc bx av hb
   injection h with h;subst h
   exact ⟨⟨hr,fun x hx=>by simp at hx;subst hx;exact jA hu.1⟩,zMZ ho hu.2.1 hu.2.2 hb hv hd⟩
  ·cases h
 ·rename_i t len parts ho
  replace h:=yK h;obtain ⟨hu,h⟩:=h
  simp only [Bool.and_eq_true,List.all_eq_true] at hu
  split at h
  ·rename_i bx av hb
   injection h with h;subst h
   exact ⟨⟨hr,fun x hx=>by simp at hx;subst hx;exact jA hu.1⟩,zGI ho hu.2 hb hd⟩
  ·cases h
 ·rename_i t x lo hi mx ho
  replace h:=yK h;obtain ⟨hu,h⟩:=h
  simp only [Bool.and_eq_true] at hu
  split at h
  ·rename_i vc id av hb
   injection h with h;subst h
   exact ⟨⟨hr,fun x hx=>by simp at hx;subst hx;rfl⟩,zKU ho hu.1 hu.2.1 hu.2.2 hb hv hd⟩
  ·cases h
 ·rename_i s d x ho
  replace h:=yK h;obtain ⟨hu,h⟩:=h
  simp only [Bool.and_eq_true] at hu
  split at h
  ·rename_i vc ids av hb
   injection h with h;subst h
   exact ⟨⟨hr,fun x hx=>by simp only [List.mem_map] at hx;obtain ⟨i,_,rfl⟩:=hx;rfl⟩,zMI ho hu.1 hu.2 hb hv hd⟩
  ·split at h
   ·rename_i vc id av hb
    injection h with h;subst h
    exact ⟨⟨hr,fun x hx=>by simp at hx;subst hx;rfl⟩,zK8 ho hu.1 hb hv hd⟩
   ·cases h
 ·rename_i b args ts ho
  split at h
  ·rename_i x y t t2 ha ht
   rw [zDo ha,zDo ht] at ho
   replace h:=yK h;obtain ⟨hu,h⟩:=h
   simp only [Bool.and_eq_true] at hu
   split at h
   ·rename_i vc ids id bx av hb
    replace h:=yK h;obtain ⟨hu2,h⟩:=h
    simp only [Bool.and_eq_true] at hu2
    injection h with h;subst h
    refine ⟨⟨hr,fun x hx=>?_⟩,zKe ho hu.1 hu.2 hb hv hd (zJD hu2.2)⟩
    simp only [List.mem_cons,List.mem_map] at hx
    rcases hx with rfl | rfl | ⟨i,_,rfl⟩
    ·exact jA hu2.1
    ·rfl
    ·rfl
   ·split at h
    ·rename_i vc ids av hb
     injection h with h;subst h
     exact ⟨⟨hr,fun x hx=>by simp only [List.mem_map] at hx;obtain ⟨i,_,rfl⟩:=hx;rfl⟩,zG2 ho hu.1 hu.2 hb hv hd⟩
    ·cases h
  ·rename_i x t ha ht
   rw [zJU ha,zJU ht] at ho
   replace h:=yK h;obtain ⟨hu,h⟩:=h
   split at h
   ·rename_i vc id av hb
    injection h with h;subst h
    exact ⟨⟨hr,fun x hx=>by simp at hx;subst hx;rfl⟩,zMS ho hu hb hv hd⟩
   ·cases h
  ·rename_i x y t t2 ha ht
   rw [zDo ha,zDo ht] at ho
   replace h:=yK h;obtain ⟨hu,h⟩:=h
   simp only [Bool.and_eq_true] at hu
   split at h
   ·rename_i vc ids id bx av hb
    injection h with h;subst h
    refine ⟨⟨hr,fun x hx=>?_⟩,zM5 ho hu.1 hu.2 hb hv hd⟩
    simp only [List.mem_cons,List.mem_map] at hx
    rcases hx with rfl | ⟨i,_,rfl⟩
    ·rfl
    ·rfl
   ·cases h
  ·cases h
 ·rename_i op t x y yT ho
  replace h:=yK h;obtain ⟨hu,h⟩:=h
  simp only [Bool.and_eq_true] at hu
  split at h
  ·rename_i vc av hb
   injection h with h;subst h
   exact ⟨⟨hr,fun x hx=>by simp at hx⟩,zNp ho hu.1 hu.2 hb hv hd⟩
  ·cases h
 ·rename_i t ho
  replace h:=yK h;obtain ⟨hu,h⟩:=h
  injection h with h;subst h
  exact ⟨⟨hr,fun x hx=>by simp at hx;subst hx;exact jA hu⟩,zJw ho hd⟩
 ·rename_i t x y ok ho
  replace h:=yK h;obtain ⟨hu,h⟩:=h
  simp only [Bool.and_eq_true] at hu
  split at h
  ·rename_i vc id av hb
   injection h with h;subst h
   exact ⟨⟨hr,fun x hx=>by simp at hx;subst hx;rfl⟩,zJX ho hu.1 hu.2 hb hv hd⟩
  ·cases h
 ·rename_i t x y z ho
  replace h:=yK h;obtain ⟨hu,h⟩:=h
  simp only [Bool.and_eq_true,Option.isNone_iff_eq_none] at hu
  split at h
  ·rename_i vc id bx hb
   injection h with h;subst h
   exact ⟨⟨hr,fun x hx=>by simp at hx;subst hx;rfl⟩,zHt ho hu.1.1 hu.1.2.1 hu.1.2.2 hb hv hu.2⟩
  ·cases h
 ·rename_i f args ts ho
  replace h:=yK h;obtain ⟨hu,h⟩:=h
  simp only [Bool.and_eq_true,List.all_eq_true] at hu
  split at h
  ·rename_i vc wb av hb
   injection h with h;subst h
   exact ⟨⟨hr,fun x hx=>by simp only [List.mem_map] at hx;obtain ⟨i,_,rfl⟩:=hx;rfl⟩,zMe ho hu.1 hu.2 hb hv hd⟩
  ·cases h
 ·cases h
theorem zI1 {P:Program} {N np:Nat} {o:Oper} {st:AS} {hn:x4} {r:List Prop×Eff} (h:zM8 P N np o hn st=some r) (hv:∀ p∈r.1,p):r.2.holds st∧vZ P N np o r.2:=by
 unfold zM8 at h
 replace h:=yK h;obtain ⟨hd,h⟩:=h
 have hr:=zJx st (tF o.op)
 cases hxx:hn.x
 case true=>rw [hxx] at h;simp only [cond_true] at h;exact zPU h hr hv hd
 rw [hxx] at h
 simp only [cond_false] at h
 cases hdep:hn.dep
 case true =>
  rw [hdep] at h
  simp only [cond_true] at h
  unfold zPC at h
  split at h
  case h_2=>cases h
  rename_i args ts ho
  split at h
  case h_2=>cases h
  rename_i x y t t2 ha ht
  rw [zDo ha,zDo ht] at ho
  replace h:=yK h;obtain ⟨hc,h⟩:=h
  simp only [Bool.and_eq_true] at hc
  split at h
  case h_2=>cases h
  rename_i vc ids bx av hb
  injection h with h;subst h
  refine ⟨⟨hr,fun z hz=>?_⟩,zHC ho hc.1.1 hc.1.2 hb hv hd⟩
  simp only [List.mem_cons,List.mem_map] at hz
  rcases hz with rfl | ⟨i,_,rfl⟩
  ·exact jA hc.2
  ·rfl
 rw [hdep] at h
 simp only [cond_false] at h
 cases hm:(zM8.isNilOp o&&Nat.beq hn.m 1)
 ·rw [hm] at h
  simp only [cond_false] at h
  split at h
  ·rename_i vc av hvop
   injection h with h;subst h
   exact ⟨⟨hr,fun x hx=>by simp at hx⟩,zND hvop hv hd⟩
  ·exact zP9 h hr hv hd
 ·rw [hm] at h
  simp only [cond_true] at h
  unfold zPX at h
  split at h
  ·rename_i x e ho he
   replace h:=yK h;obtain ⟨hu,h⟩:=h
   simp only [Bool.and_eq_true] at hu
   injection h with h;subst h
   exact ⟨⟨hr,fun x hx=>by simp at hx;subst hx;exact jA hu.2⟩,zFC (.inl ho) hu.1 hd⟩
  ·rename_i x e ho he
   replace h:=yK h;obtain ⟨hu,h⟩:=h
   simp only [Bool.and_eq_true] at hu
   injection h with h;subst h
   exact ⟨⟨hr,fun x hx=>by simp at hx;subst hx;exact jA hu.2⟩,zFC (.inr ho) hu.1 hd⟩
  ·cases h
end Go.Ab
