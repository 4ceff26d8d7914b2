/- One operation as a summary; a region as a row of summaries. -/
import Derived.Test.YtlnlcciflpncmaaA38
namespace Go.Ab
open Go
def vE:Op→List Operand
 | .move x | .assign x | .box _ x | .load _ x | .nilCheck x | .unOp _ _ x | .convert _ _ x | .fieldAddr _ x _ | .field _ x _ | .extract x _=>[x]
 | .pick c a b=>[c,a,b]
 | .build _ ps | .buildSlice _ _ ps=>ps.toList.map (·.2)
 | .mapUpdate _ m k v=>[m,k,v]
 | .lookup _ a v _ | .store _ a v | .binOp _ _ a v _ | .makeSlice _ a v | .indexAddr _ a v | .index _ a v=>[a,v]
 | .makeFunc _ first captured=>first.toList++captured.toList
 | .slice _ x l h m=>x::(l.toList++(h.toList++m.toList))
 | .call { callee:=.value f,args:=args,.. }=>f::args.toList
 | .call { callee:=.builtin _,args:=args,.. }=>args.toList
 | _=>[]
theorem zGQ (st:AS) (xs:List Operand):∀ x∈nG st xs,st.slot x.1=x.2:=by
 induction xs with
 | nil=>intro x hx;cases hx
 | cons a r ih =>
  intro x hx
  cases a with
  | tmp t =>
   simp only [nG,List.mem_cons] at hx
   rcases hx with rfl | hx
   ·rfl
   ·exact ih x hx
  | _=>exact ih x hx
def bop (P:Program) (np:Nat) (o:Oper) (rs:List (Nat×AV)) (B:Nat→zP) (h:yR):Option (List Prop×Eff) :=
 match o.op with
 | .alloc t =>
  bif u4 (B h.id) then
   match zGr P t h with
   | some (bx,_)=>some ([],{ rs:=rs,rb:=[(h.id,.unused)],dst:=o.dst.map fun d=>(d,.ptr h.id 0 0 0),wb:=[(h.id,.live bx)] })
   | none=>none
  else none
 | .box t x =>
  bif u4 (B h.id)&&(yG x&&qT (z4 rs x)) then
   match zML P t (z4 rs x).cells h with
   | some (bx,_)=>some ([],{ rs:=rs,rb:=[(h.id,.unused)],dst:=o.dst.map fun d=>(d,.ptr h.id 0 0 0),wb:=[(h.id,.live bx)] })
   | none=>none
  else none
 | .load t x =>
  bif yG x then
   match zK3 P t (z4 rs x) B h with
   | some (vc,id,av)=>some (vc,{ rs:=rs,rb:=[(id,B id)],dst:=o.dst.map fun d=>(d,av) })
   | none=>none
  else none
 | .store t x y =>
  bif (yG x&&yG y)&&o.dst.isNone then
   match zJZ P t (z4 rs x) (z4 rs y) B h with
   | some (vc,id,bx)=>some (vc,{ rs:=rs,rb:=[(id,B id)],wb:=[(id,.live bx)] })
   | none=>none
  else none
 | .makeSlice t x y =>
  bif u4 (B h.id)&&(yG x&&yG y) then
   match zLy P t (z4 rs x) (z4 rs y) h with
   | some (vc,bx,av)=>some (vc,{ rs:=rs,rb:=[(h.id,.unused)],dst:=o.dst.map fun d=>(d,av),wb:=[(h.id,.live bx)] })
   | none=>none
  else none
 | .buildSlice t len parts =>
  bif u4 (B h.id)&&parts.toList.all (fun p=>yG p.2) then
   match zC0 P t len (z4 rs) parts.toList h with
   | some (bx,av)=>some ([],{ rs:=rs,rb:=[(h.id,.unused)],dst:=o.dst.map fun d=>(d,av),wb:=[(h.id,.live bx)] })
   | none=>none
  else none
 | .slice t x lo hi mx =>
  bif yG x&&(zDK lo&&zDK hi) then
   match zIG P t (z4 rs) x lo hi mx B with
   | some (vc,id,av)=>some (vc,{ rs:=rs,rb:=[(id,B id)],dst:=o.dst.map fun d=>(d,av) })
   | none=>none
  else none
 | .convert s d x =>
  bif yG x&&zIx (z4 rs x) then
   match zLC P s d (z4 rs x) B h with
   | some (vc,ids,av)=>some (vc,{ rs:=rs,rb:=ids.map (fun i=>(i,B i)),dst:=o.dst.map fun d=>(d,av) })
   | none =>
    match zIE P s d (z4 rs x) B np with
    | some (vc,id,av)=>some (vc,{ rs:=rs,rb:=[(id,B id)],dst:=o.dst.map fun d=>(d,av),wb:=[(id,.dead)] })
    | none=>none
  else none
 | .call { callee:=.builtin b,args:=args,argTypes:=ts } =>
  match b,args.toList,ts.toList with
  | .append,[x,y],[t,t2] =>
   bif yG x&&yG y then
    match zHm P t t2 (z4 rs x) (nz (z4 rs y)) B h with
    | some (vc,ids,id,bx,av) =>
     bif u4 (B h.id)&&Nat.ble np id then
      some (vc,{ rs:=rs,rb:=(h.id,.unused)::(id,B id)::ids.map (fun i=>(i,B i)),dst:=o.dst.map fun d=>(d,av),wb:=[(h.id,.live bx),(id,.dead)] })
     else none
    | none =>
     match zCY P t t2 (nz (z4 rs x)) (nz (z4 rs y)) B h with
     | some (vc,ids,av)=>some (vc,{ rs:=rs,rb:=ids.map (fun i=>(i,B i)),dst:=o.dst.map fun d=>(d,av) })
     | none=>none
   else none
  | .len,[x],[t] =>
   bif yG x then
    match zK9 P t (z4 rs x) B h with
    | some (vc,id,av)=>some (vc,{ rs:=rs,rb:=[(id,B id)],dst:=o.dst.map fun d=>(d,av) })
    | none=>none
   else none
  | .copy,[x,y],[t,_] =>
   bif yG x&&yG y then
    match zLv P t (z4 rs x) (nz (z4 rs y)) B h with
    | some (vc,ids,id,bx,av)=>some (vc,{ rs:=rs,rb:=(id,B id)::ids.map (fun i=>(i,B i)),dst:=o.dst.map fun d=>(d,av),wb:=[(id,.live bx)] })
    | none=>none
   else none
  | _,_,_=>none
 | .binOp op t x y _ =>
  bif yG x&&yG y then
   match zMS P op t (z4 rs x) (z4 rs y) h with
   | some (vc,av)=>some (vc,{ rs:=rs,dst:=o.dst.map fun d=>(d,av) })
   | none=>none
  else none
 | .makeMap _ none=>bif u4 (B h.id) then some ([],{ rs:=rs,rb:=[(h.id,.unused)],dst:=o.dst.map fun d=>(d,.mp h.id),wb:=[(h.id,.live (.map h.mag h.mks []))] }) else none
 | .lookup t x y ok =>
  bif yG x&&yG y then
   match zLo P t (z4 rs x) (z4 rs y) ok B h with
   | some (vc,id,av)=>some (vc,{ rs:=rs,rb:=[(id,B id)],dst:=o.dst.map fun d=>(d,av) })
   | none=>none
  else none
 | .mapUpdate t x y z =>
  bif (yG x&&(yG y&&yG z))&&o.dst.isNone then
   match zLc P t (z4 rs x) (z4 rs y) (z4 rs z) B h with
   | some (vc,id,bx)=>some (vc,{ rs:=rs,rb:=[(id,B id)],wb:=[(id,.live bx)] })
   | none=>none
  else none
 | .call { callee:=.value f,args:=args,argTypes:=_ } =>
  bif yG f&&args.toList.all yG then
   match zLn P np (z4 rs) f args.toList B h with
   | some (vc,wb,av)=>some (vc,{ rs:=rs,rb:=(h.ids++h.gids++h.lend).map (fun i=>(i,B i)),dst:=o.dst.map fun d=>(d,av),wb:=wb })
   | none=>none
  else none
 | _=>none
def zL5 (P:Program) (o:Oper) (rs:List (Nat×AV)) (B:Nat→zP) (h:yR):Option (List Prop×Eff) :=
 match o.op,zLA P o.type with
 | .assign x,some e=>bif zCa x&&u4 (B h.id) then some ([],{ rs:=rs,rb:=[(h.id,.unused)],dst:=o.dst.map fun d=>(d,.own h.id 0),wb:=[(h.id,.live (.row e (szT P e) []))] }) else none
 | .move x,some e=>bif zCa x&&u4 (B h.id) then some ([],{ rs:=rs,rb:=[(h.id,.unused)],dst:=o.dst.map fun d=>(d,.own h.id 0),wb:=[(h.id,.live (.row e (szT P e) []))] }) else none
 | _,_=>none
def zL9 (P:Program) (o:Oper) (rs:List (Nat×AV)) (B:Nat→zP) (h:yR):Option (List Prop×Eff) :=
 match o.op with
 | .call { callee:=.builtin .append,args:=args,argTypes:=ts } =>
  match args.toList,ts.toList with
  | [x,y],[t,t2] =>
   bif (yG x&&yG y)&&u4 (B h.id) then
    match zDB P t t2 (nz (z4 rs x)) (nz (z4 rs y)) B h with
    | some (vc,ids,bx,av)=>some (vc,{ rs:=rs,rb:=(h.id,.unused)::ids.map (fun i=>(i,B i)),dst:=o.dst.map fun d=>(d,av),wb:=[(h.id,.live bx)] })
    | none=>none
   else none
  | _,_=>none
 | _=>none
def zJp (P:Program) (N np:Nat) (o:Oper) (h:yR) (st:AS):Option (List Prop×Eff) :=
 bif vB N o.dst then
  bif h.x then xop P o (nG st (vE o.op)) st.box h else
  bif h.dep then zL9 P o (nG st (vE o.op)) st.box h else
  bif isNilOp o&&Nat.beq h.m 1 then zL5 P o (nG st (vE o.op)) st.box h
  else
   match vop P o (z4 (nG st (vE o.op))) h with
   | some (vc,av)=>some (vc,{ rs:=nG st (vE o.op),dst:=o.dst.map fun d=>(d,av) })
   | none=>bop P np o (nG st (vE o.op)) st.box h
 else none
where isNilOp (o:Oper):Bool:=match o.op with | .assign _=>true | .move _=>true | _=>false
theorem zGo {a b:Nat} (h:Nat.ble a b=true):a≤b:=Nat.le_of_ble_eq_true h
theorem zMb {P:Program} {N np:Nat} {o:Oper} {rs:List (Nat×AV)} {st:AS} {hn:yR} {r:List Prop×Eff} (h:bop P np o rs st.box hn=some r) (hr:∀ x∈rs,st.slot x.1=x.2)
  (hv:∀ p∈r.1,p) (hd:vB N o.dst=true):r.2.holds st∧xU P N np o r.2:=by
 unfold bop at h
 split at h
 ·rename_i t ho
  replace h:=zV h;obtain ⟨hu,h⟩:=h
  split at h
  ·rename_i bx cap hb
   injection h with h;subst h
   exact ⟨⟨hr,fun x hx=>by simp at hx;subst hx;exact vL hu⟩,zIl ho hb hd⟩
  ·cases h
 ·rename_i t x ho
  replace h:=zV h;obtain ⟨hu,h⟩:=h
  simp only [Bool.and_eq_true] at hu
  split at h
  ·rename_i bx cap hb
   injection h with h;subst h
   exact ⟨⟨hr,fun x hx=>by simp at hx;subst hx;exact vL hu.1⟩,zKf ho hu.2.1 hu.2.2 hb hd⟩
  ·cases h
 ·rename_i t x ho
  replace h:=zV h;obtain ⟨hu,h⟩:=h
  split at h
  ·rename_i vc id av hb
   injection h with h;subst h
   exact ⟨⟨hr,fun x hx=>by simp at hx;subst hx;rfl⟩,zJ8 ho hu hb hv hd⟩
  ·cases h
 ·rename_i t x y ho
  replace h:=zV h;obtain ⟨hu,h⟩:=h
  simp only [Bool.and_eq_true,Option.isNone_iff_eq_none] at hu
  split at h
  ·rename_i vc id bx hb
   injection h with h;subst h
   exact ⟨⟨hr,fun x hx=>by simp at hx;subst hx;rfl⟩,zIg ho hu.1.1 hu.1.2 hb hv hu.2⟩
  ·cases h
 ·rename_i t x y ho
  replace h:=zV h;obtain ⟨hu,h⟩:=h
  simp only [Bool.and_eq_true] at hu
  split at h
  ·rename_i vc bx av hb
   injection h with h;subst h
   exact ⟨⟨hr,fun x hx=>by simp at hx;subst hx;exact vL hu.1⟩,zJF ho hu.2.1 hu.2.2 hb hv hd⟩
  ·cases h
 ·rename_i t len parts ho
  replace h:=zV h;obtain ⟨hu,h⟩:=h
  simp only [Bool.and_eq_true,List.all_eq_true] at hu
  split at h
  ·rename_i bx av hb
   injection h with h;subst h
   exact ⟨⟨hr,fun x hx=>by simp at hx;subst hx;exact vL hu.1⟩,zEr ho hu.2 hb hd⟩
  ·cases h
 ·rename_i t x lo hi mx ho
  replace h:=zV h;obtain ⟨hu,h⟩:=h
  simp only [Bool.and_eq_true] at hu
  split at h
  ·rename_i vc id av hb
   injection h with h;subst h
   exact ⟨⟨hr,fun x hx=>by simp at hx;subst hx;rfl⟩,zIs ho hu.1 hu.2.1 hu.2.2 hb hv hd⟩
  ·cases h
 ·rename_i s d x ho
  replace h:=zV h;obtain ⟨hu,h⟩:=h
  simp only [Bool.and_eq_true] at hu
  split at h
  ·rename_i vc ids av hb
   injection h with h;subst h
   exact ⟨⟨hr,fun x hx=>by simp only [List.mem_map] at hx;obtain ⟨i,_,rfl⟩:=hx;rfl⟩,zIY ho hu.1 hu.2 hb hv hd⟩
  ·split at h
   ·rename_i vc id av hb
    injection h with h;subst h
    exact ⟨⟨hr,fun x hx=>by simp at hx;subst hx;rfl⟩,zId ho hu.1 hb hv hd⟩
   ·cases h
 ·rename_i b args ts ho
  split at h
  ·rename_i x y t t2 ha ht
   rw [zBp ha,zBp ht] at ho
   replace h:=zV h;obtain ⟨hu,h⟩:=h
   simp only [Bool.and_eq_true] at hu
   split at h
   ·rename_i vc ids id bx av hb
    replace h:=zV h;obtain ⟨hu2,h⟩:=h
    simp only [Bool.and_eq_true] at hu2
    injection h with h;subst h
    refine ⟨⟨hr,fun x hx=>?_⟩,zHa ho hu.1 hu.2 hb hv hd (zGo hu2.2)⟩
    simp only [List.mem_cons,List.mem_map] at hx
    rcases hx with rfl | rfl | ⟨i,_,rfl⟩
    ·exact vL hu2.1
    ·rfl
    ·rfl
   ·split at h
    ·rename_i vc ids av hb
     injection h with h;subst h
     exact ⟨⟨hr,fun x hx=>by simp only [List.mem_map] at hx;obtain ⟨i,_,rfl⟩:=hx;rfl⟩,zEB ho hu.1 hu.2 hb hv hd⟩
    ·cases h
  ·rename_i x t ha ht
   rw [zG2 ha,zG2 ht] at ho
   replace h:=zV h;obtain ⟨hu,h⟩:=h
   split at h
   ·rename_i vc id av hb
    injection h with h;subst h
    exact ⟨⟨hr,fun x hx=>by simp at hx;subst hx;rfl⟩,zII ho hu hb hv hd⟩
   ·cases h
  ·rename_i x y t t2 ha ht
   rw [zBp ha,zBp ht] at ho
   replace h:=zV h;obtain ⟨hu,h⟩:=h
   simp only [Bool.and_eq_true] at hu
   split at h
   ·rename_i vc ids id bx av hb
    injection h with h;subst h
    refine ⟨⟨hr,fun x hx=>?_⟩,zJM ho hu.1 hu.2 hb hv hd⟩
    simp only [List.mem_cons,List.mem_map] at hx
    rcases hx with rfl | ⟨i,_,rfl⟩
    ·rfl
    ·rfl
   ·cases h
  ·cases h
 ·rename_i op t x y yT ho
  replace h:=zV h;obtain ⟨hu,h⟩:=h
  simp only [Bool.and_eq_true] at hu
  split at h
  ·rename_i vc av hb
   injection h with h;subst h
   exact ⟨⟨hr,fun x hx=>by simp at hx⟩,zJC ho hu.1 hu.2 hb hv hd⟩
  ·cases h
 ·rename_i t ho
  replace h:=zV h;obtain ⟨hu,h⟩:=h
  injection h with h;subst h
  exact ⟨⟨hr,fun x hx=>by simp at hx;subst hx;exact vL hu⟩,zGn ho hd⟩
 ·rename_i t x y ok ho
  replace h:=zV h;obtain ⟨hu,h⟩:=h
  simp only [Bool.and_eq_true] at hu
  split at h
  ·rename_i vc id av hb
   injection h with h;subst h
   exact ⟨⟨hr,fun x hx=>by simp at hx;subst hx;rfl⟩,zG6 ho hu.1 hu.2 hb hv hd⟩
  ·cases h
 ·rename_i t x y z ho
  replace h:=zV h;obtain ⟨hu,h⟩:=h
  simp only [Bool.and_eq_true,Option.isNone_iff_eq_none] at hu
  split at h
  ·rename_i vc id bx hb
   injection h with h;subst h
   exact ⟨⟨hr,fun x hx=>by simp at hx;subst hx;rfl⟩,zEW ho hu.1.1 hu.1.2.1 hu.1.2.2 hb hv hu.2⟩
  ·cases h
 ·rename_i f args ts ho
  replace h:=zV h;obtain ⟨hu,h⟩:=h
  simp only [Bool.and_eq_true,List.all_eq_true] at hu
  split at h
  ·rename_i vc wb av hb
   injection h with h;subst h
   exact ⟨⟨hr,fun x hx=>by simp only [List.mem_map] at hx;obtain ⟨i,_,rfl⟩:=hx;rfl⟩,zIS ho hu.1 hu.2 hb hv hd⟩
  ·cases h
 ·cases h
theorem zGa {P:Program} {N np:Nat} {o:Oper} {st:AS} {hn:yR} {r:List Prop×Eff} (h:zJp P N np o hn st=some r) (hv:∀ p∈r.1,p):r.2.holds st∧xU P N np o r.2:=by
 unfold zJp at h
 replace h:=zV h;obtain ⟨hd,h⟩:=h
 have hr:=zGQ st (vE o.op)
 cases hxx:hn.x
 case true=>rw [hxx] at h;simp only [cond_true] at h;exact zLL h hr hv hd
 rw [hxx] at h
 simp only [cond_false] at h
 cases hdep:hn.dep
 case true =>
  rw [hdep] at h
  simp only [cond_true] at h
  unfold zL9 at h
  split at h
  case h_2=>cases h
  rename_i args ts ho
  split at h
  case h_2=>cases h
  rename_i x y t t2 ha ht
  rw [zBp ha,zBp ht] at ho
  replace h:=zV h;obtain ⟨hc,h⟩:=h
  simp only [Bool.and_eq_true] at hc
  split at h
  case h_2=>cases h
  rename_i vc ids bx av hb
  injection h with h;subst h
  refine ⟨⟨hr,fun z hz=>?_⟩,zET ho hc.1.1 hc.1.2 hb hv hd⟩
  simp only [List.mem_cons,List.mem_map] at hz
  rcases hz with rfl | ⟨i,_,rfl⟩
  ·exact vL hc.2
  ·rfl
 rw [hdep] at h
 simp only [cond_false] at h
 cases hm:(zJp.isNilOp o&&Nat.beq hn.m 1)
 ·rw [hm] at h
  simp only [cond_false] at h
  split at h
  ·rename_i vc av hvop
   injection h with h;subst h
   exact ⟨⟨hr,fun x hx=>by simp at hx⟩,zKy hvop hv hd⟩
  ·exact zMb h hr hv hd
 ·rw [hm] at h
  simp only [cond_true] at h
  unfold zL5 at h
  split at h
  ·rename_i x e ho he
   replace h:=zV h;obtain ⟨hu,h⟩:=h
   simp only [Bool.and_eq_true] at hu
   injection h with h;subst h
   exact ⟨⟨hr,fun x hx=>by simp at hx;subst hx;exact vL hu.2⟩,zC9 (.inl ho) hu.1 hd⟩
  ·rename_i x e ho he
   replace h:=zV h;obtain ⟨hu,h⟩:=h
   simp only [Bool.and_eq_true] at hu
   injection h with h;subst h
   exact ⟨⟨hr,fun x hx=>by simp at hx;subst hx;exact vL hu.2⟩,zC9 (.inr ho) hu.1 hd⟩
  ·cases h
end Go.Ab
