/- One operation as a summary; a region as a row of summaries. -/
import Derived.Test.YtbifmbdcejggkaaA38
namespace Go.Ab
open Go
def vW:Op→List Operand
 | .move x | .assign x | .box _ x | .load _ x | .nilCheck x | .unOp _ _ x | .convert _ _ x | .fieldAddr _ x _ | .field _ x _ | .extract x _=>[x]
 | .pick c a b=>[c,a,b]
 | .build _ ps | .buildSlice _ _ ps=>ps.toList.map (·.2)
 | .mapUpdate _ m k v=>[m,k,v]
 | .lookup _ a v _ | .store _ a v | .binOp _ _ a v _ | .makeSlice _ a v | .indexAddr _ a v | .index _ a v=>[a,v]
 | .makeFunc _ first captured=>first.toList++captured.toList
 | .slice _ x l h m=>x::(l.toList++(h.toList++m.toList))
 | .call { callee:=.value f,args:=args,.. }=>f::args.toList
 | .call { callee:=.builtin _,args:=args,.. }=>args.toList
 | _=>[]
theorem zEN (st:AS) (xs:List Operand):∀ x∈nE st xs,st.slot x.1=x.2:=by
 induction xs with
 | nil=>intro x hx;cases hx
 | cons a r ih =>
  intro x hx
  cases a with
  | tmp t =>
   simp only [nE,List.mem_cons] at hx
   rcases hx with rfl | hx
   ·rfl
   ·exact ih x hx
  | _=>exact ih x hx
def bop (P:Program) (np:Nat) (o:Oper) (rs:List (Nat×AV)) (B:Nat→zW) (h:x5):Option (List Prop×Eff) :=
 match o.op with
 | .alloc t =>
  bif uJ (B h.id) then
   match zHF P t h with
   | some (bx,_)=>some ([],{ rs:=rs,rb:=[(h.id,.unused)],dst:=o.dst.map fun d=>(d,.ptr h.id 0 0 0),wb:=[(h.id,.live bx)] })
   | none=>none
  else none
 | .box t x =>
  bif uJ (B h.id)&&(xG x&&qS (yL rs x)) then
   match zOD P t (yL rs x).cells h with
   | some (bx,_)=>some ([],{ rs:=rs,rb:=[(h.id,.unused)],dst:=o.dst.map fun d=>(d,.ptr h.id 0 0 0),wb:=[(h.id,.live bx)] })
   | none=>none
  else none
 | .load t x =>
  bif xG x then
   match zMW P t (yL rs x) B h with
   | some (vc,id,av)=>some (vc,{ rs:=rs,rb:=[(id,B id)],dst:=o.dst.map fun d=>(d,av) })
   | none=>none
  else none
 | .store t x y =>
  bif (xG x&&xG y)&&o.dst.isNone then
   match zKe P t (yL rs x) (yL rs y) B h with
   | some (vc,id,bx)=>some (vc,{ rs:=rs,rb:=[(id,B id)],wb:=[(id,.live bx)] })
   | none=>none
  else none
 | .makeSlice t x y =>
  bif uJ (B h.id)&&(xG x&&xG y) then
   match zMo P t (yL rs x) (yL rs y) h with
   | some (vc,bx,av)=>some (vc,{ rs:=rs,rb:=[(h.id,.unused)],dst:=o.dst.map fun d=>(d,av),wb:=[(h.id,.live bx)] })
   | none=>none
  else none
 | .buildSlice t len parts =>
  bif uJ (B h.id)&&parts.toList.all (fun p=>xG p.2) then
   match zDP P t len (yL rs) parts.toList h with
   | some (bx,av)=>some ([],{ rs:=rs,rb:=[(h.id,.unused)],dst:=o.dst.map fun d=>(d,av),wb:=[(h.id,.live bx)] })
   | none=>none
  else none
 | .slice t x lo hi mx =>
  bif xG x&&(zED lo&&zED hi) then
   match zJE P t (yL rs) x lo hi mx B with
   | some (vc,id,av)=>some (vc,{ rs:=rs,rb:=[(id,B id)],dst:=o.dst.map fun d=>(d,av) })
   | none=>none
  else none
 | .convert s d x =>
  bif xG x&&zJw (yL rs x) then
   match zMk P s d (yL rs x) B h with
   | some (vc,ids,av)=>some (vc,{ rs:=rs,rb:=ids.map (fun i=>(i,B i)),dst:=o.dst.map fun d=>(d,av) })
   | none =>
    match zJK P s d (yL rs x) B np with
    | some (vc,id,av)=>some (vc,{ rs:=rs,rb:=[(id,B id)],dst:=o.dst.map fun d=>(d,av),wb:=[(id,.dead)] })
    | none=>none
  else none
 | .call { callee:=.builtin b,args:=args,argTypes:=ts } =>
  match b,args.toList,ts.toList with
  | .append,[x,y],[t,t2] =>
   bif xG x&&xG y then
    match zIE P t t2 (yL rs x) (nz (yL rs y)) B h with
    | some (vc,ids,id,bx,av) =>
     bif uJ (B h.id)&&Nat.ble np id then
      some (vc,{ rs:=rs,rb:=(h.id,.unused)::(id,B id)::ids.map (fun i=>(i,B i)),dst:=o.dst.map fun d=>(d,av),wb:=[(h.id,.live bx),(id,.dead)] })
     else none
    | none =>
     match zDV P t t2 (nz (yL rs x)) (nz (yL rs y)) B h with
     | some (vc,ids,av)=>some (vc,{ rs:=rs,rb:=ids.map (fun i=>(i,B i)),dst:=o.dst.map fun d=>(d,av) })
     | none=>none
   else none
  | .len,[x],[t] =>
   bif xG x then
    match zMG P t (yL rs x) B h with
    | some (vc,id,av)=>some (vc,{ rs:=rs,rb:=[(id,B id)],dst:=o.dst.map fun d=>(d,av) })
    | none=>none
   else none
  | .copy,[x,y],[t,_] =>
   bif xG x&&xG y then
    match zMd P t (yL rs x) (nz (yL rs y)) B h with
    | some (vc,ids,id,bx,av)=>some (vc,{ rs:=rs,rb:=(id,B id)::ids.map (fun i=>(i,B i)),dst:=o.dst.map fun d=>(d,av),wb:=[(id,.live bx)] })
    | none=>none
   else none
  | _,_,_=>none
 | .binOp op t x y _ =>
  bif xG x&&xG y then
   match zO4 P op t (yL rs x) (yL rs y) h with
   | some (vc,av)=>some (vc,{ rs:=rs,dst:=o.dst.map fun d=>(d,av) })
   | none=>none
  else none
 | .makeMap _ none=>bif uJ (B h.id) then some ([],{ rs:=rs,rb:=[(h.id,.unused)],dst:=o.dst.map fun d=>(d,.mp h.id),wb:=[(h.id,.live (.map h.mag h.mks []))] }) else none
 | .lookup t x y ok =>
  bif xG x&&xG y then
   match zMT P t (yL rs x) (yL rs y) ok B h with
   | some (vc,id,av)=>some (vc,{ rs:=rs,rb:=[(id,B id)],dst:=o.dst.map fun d=>(d,av) })
   | none=>none
  else none
 | .mapUpdate t x y z =>
  bif (xG x&&(xG y&&xG z))&&o.dst.isNone then
   match zMP P t (yL rs x) (yL rs y) (yL rs z) B h with
   | some (vc,id,bx)=>some (vc,{ rs:=rs,rb:=[(id,B id)],wb:=[(id,.live bx)] })
   | none=>none
  else none
 | .call { callee:=.value f,args:=args,argTypes:=_ } =>
  bif xG f&&args.toList.all xG then
   match zMn P np (yL rs) f args.toList B h with
   | some (vc,wb,av)=>some (vc,{ rs:=rs,rb:=(h.ids++h.gids++h.lend).map (fun i=>(i,B i)),dst:=o.dst.map fun d=>(d,av),wb:=wb })
   | none=>none
  else none
 | _=>none
def zNC (P:Program) (o:Oper) (rs:List (Nat×AV)) (B:Nat→zW) (h:x5):Option (List Prop×Eff) :=
 match o.op,zMX P o.type with
 | .assign x,some e=>bif zCU x&&uJ (B h.id) then some ([],{ rs:=rs,rb:=[(h.id,.unused)],dst:=o.dst.map fun d=>(d,.own h.id 0),wb:=[(h.id,.live (.row e (szT P e) []))] }) else none
 | .move x,some e=>bif zCU x&&uJ (B h.id) then some ([],{ rs:=rs,rb:=[(h.id,.unused)],dst:=o.dst.map fun d=>(d,.own h.id 0),wb:=[(h.id,.live (.row e (szT P e) []))] }) else none
 | _,_=>none
def zOb (P:Program) (o:Oper) (rs:List (Nat×AV)) (B:Nat→zW) (h:x5):Option (List Prop×Eff) :=
 match o.op with
 | .call { callee:=.builtin .append,args:=args,argTypes:=ts } =>
  match args.toList,ts.toList with
  | [x,y],[t,t2] =>
   bif (xG x&&xG y)&&uJ (B h.id) then
    match zEx P t t2 (nz (yL rs x)) (nz (yL rs y)) B h with
    | some (vc,ids,bx,av)=>some (vc,{ rs:=rs,rb:=(h.id,.unused)::ids.map (fun i=>(i,B i)),dst:=o.dst.map fun d=>(d,av),wb:=[(h.id,.live bx)] })
    | none=>none
   else none
  | _,_=>none
 | _=>none
def zMu (P:Program) (N np:Nat) (o:Oper) (h:x5) (st:AS):Option (List Prop×Eff) :=
 bif v4 N o.dst then
  bif h.x then xop P o (nE st (vW o.op)) st.box h else
  bif h.dep then zOb P o (nE st (vW o.op)) st.box h else
  bif isNilOp o&&Nat.beq h.m 1 then zNC P o (nE st (vW o.op)) st.box h
  else
   match vop P o (yL (nE st (vW o.op))) h with
   | some (vc,av)=>some (vc,{ rs:=nE st (vW o.op),dst:=o.dst.map fun d=>(d,av) })
   | none=>bop P np o (nE st (vW o.op)) st.box h
 else none
where isNilOp (o:Oper):Bool:=match o.op with | .assign _=>true | .move _=>true | _=>false
theorem zFG {a b:Nat} (h:Nat.ble a b=true):a≤b:=Nat.le_of_ble_eq_true h
theorem zNs {P:Program} {N np:Nat} {o:Oper} {rs:List (Nat×AV)} {st:AS} {hn:x5} {r:List Prop×Eff} (h:bop P np o rs st.box hn=some r) (hr:∀ x∈rs,st.slot x.1=x.2)
  (hv:∀ p∈r.1,p) (hd:v4 N o.dst=true):r.2.holds st∧w7 P N np o r.2:=by
 unfold bop at h
 split at h
 ·rename_i t ho
  replace h:=yH h;obtain ⟨hu,h⟩:=h
  split at h
  ·rename_i bx cap hb
   injection h with h;subst h
   exact ⟨⟨hr,fun x hx=>by simp at hx;subst hx;exact vL hu⟩,zJk ho hb hd⟩
  ·cases h
 ·rename_i t x ho
  replace h:=yH h;obtain ⟨hu,h⟩:=h
  simp only [Bool.and_eq_true] at hu
  split at h
  ·rename_i bx cap hb
   injection h with h;subst h
   exact ⟨⟨hr,fun x hx=>by simp at hx;subst hx;exact vL hu.1⟩,zLG ho hu.2.1 hu.2.2 hb hd⟩
  ·cases h
 ·rename_i t x ho
  replace h:=yH h;obtain ⟨hu,h⟩:=h
  split at h
  ·rename_i vc id av hb
   injection h with h;subst h
   exact ⟨⟨hr,fun x hx=>by simp at hx;subst hx;rfl⟩,zKa ho hu hb hv hd⟩
  ·cases h
 ·rename_i t x y ho
  replace h:=yH h;obtain ⟨hu,h⟩:=h
  simp only [Bool.and_eq_true,Option.isNone_iff_eq_none] at hu
  split at h
  ·rename_i vc id bx hb
   injection h with h;subst h
   exact ⟨⟨hr,fun x hx=>by simp at hx;subst hx;rfl⟩,zI4 ho hu.1.1 hu.1.2 hb hv hu.2⟩
  ·cases h
 ·rename_i t x y ho
  replace h:=yH h;obtain ⟨hu,h⟩:=h
  simp only [Bool.and_eq_true] at hu
  split at h
  ·rename_i vc bx av hb
   injection h with h;subst h
   exact ⟨⟨hr,fun x hx=>by simp at hx;subst hx;exact vL hu.1⟩,zKf ho hu.2.1 hu.2.2 hb hv hd⟩
  ·cases h
 ·rename_i t len parts ho
  replace h:=yH h;obtain ⟨hu,h⟩:=h
  simp only [Bool.and_eq_true,List.all_eq_true] at hu
  split at h
  ·rename_i bx av hb
   injection h with h;subst h
   exact ⟨⟨hr,fun x hx=>by simp at hx;subst hx;exact vL hu.1⟩,zFD ho hu.2 hb hd⟩
  ·cases h
 ·rename_i t x lo hi mx ho
  replace h:=yH h;obtain ⟨hu,h⟩:=h
  simp only [Bool.and_eq_true] at hu
  split at h
  ·rename_i vc id av hb
   injection h with h;subst h
   exact ⟨⟨hr,fun x hx=>by simp at hx;subst hx;rfl⟩,zJq ho hu.1 hu.2.1 hu.2.2 hb hv hd⟩
  ·cases h
 ·rename_i s d x ho
  replace h:=yH h;obtain ⟨hu,h⟩:=h
  simp only [Bool.and_eq_true] at hu
  split at h
  ·rename_i vc ids av hb
   injection h with h;subst h
   exact ⟨⟨hr,fun x hx=>by simp only [List.mem_map] at hx;obtain ⟨i,_,rfl⟩:=hx;rfl⟩,zKd ho hu.1 hu.2 hb hv hd⟩
  ·split at h
   ·rename_i vc id av hb
    injection h with h;subst h
    exact ⟨⟨hr,fun x hx=>by simp at hx;subst hx;rfl⟩,zI3 ho hu.1 hb hv hd⟩
   ·cases h
 ·rename_i b args ts ho
  split at h
  ·rename_i x y t t2 ha ht
   rw [zB3 ha,zB3 ht] at ho
   replace h:=yH h;obtain ⟨hu,h⟩:=h
   simp only [Bool.and_eq_true] at hu
   split at h
   ·rename_i vc ids id bx av hb
    replace h:=yH h;obtain ⟨hu2,h⟩:=h
    simp only [Bool.and_eq_true] at hu2
    injection h with h;subst h
    refine ⟨⟨hr,fun x hx=>?_⟩,zH6 ho hu.1 hu.2 hb hv hd (zFG hu2.2)⟩
    simp only [List.mem_cons,List.mem_map] at hx
    rcases hx with rfl | rfl | ⟨i,_,rfl⟩
    ·exact vL hu2.1
    ·rfl
    ·rfl
   ·split at h
    ·rename_i vc ids av hb
     injection h with h;subst h
     exact ⟨⟨hr,fun x hx=>by simp only [List.mem_map] at hx;obtain ⟨i,_,rfl⟩:=hx;rfl⟩,zFi ho hu.1 hu.2 hb hv hd⟩
    ·cases h
  ·rename_i x t ha ht
   rw [zH1 ha,zH1 ht] at ho
   replace h:=yH h;obtain ⟨hu,h⟩:=h
   split at h
   ·rename_i vc id av hb
    injection h with h;subst h
    exact ⟨⟨hr,fun x hx=>by simp at hx;subst hx;rfl⟩,zKG ho hu hb hv hd⟩
   ·cases h
  ·rename_i x y t t2 ha ht
   rw [zB3 ha,zB3 ht] at ho
   replace h:=yH h;obtain ⟨hu,h⟩:=h
   simp only [Bool.and_eq_true] at hu
   split at h
   ·rename_i vc ids id bx av hb
    injection h with h;subst h
    refine ⟨⟨hr,fun x hx=>?_⟩,zKN ho hu.1 hu.2 hb hv hd⟩
    simp only [List.mem_cons,List.mem_map] at hx
    rcases hx with rfl | ⟨i,_,rfl⟩
    ·rfl
    ·rfl
   ·cases h
  ·cases h
 ·rename_i op t x y yT ho
  replace h:=yH h;obtain ⟨hu,h⟩:=h
  simp only [Bool.and_eq_true] at hu
  split at h
  ·rename_i vc av hb
   injection h with h;subst h
   exact ⟨⟨hr,fun x hx=>by simp at hx⟩,zKr ho hu.1 hu.2 hb hv hd⟩
  ·cases h
 ·rename_i t ho
  replace h:=yH h;obtain ⟨hu,h⟩:=h
  injection h with h;subst h
  exact ⟨⟨hr,fun x hx=>by simp at hx;subst hx;exact vL hu⟩,zHg ho hd⟩
 ·rename_i t x y ok ho
  replace h:=yH h;obtain ⟨hu,h⟩:=h
  simp only [Bool.and_eq_true] at hu
  split at h
  ·rename_i vc id av hb
   injection h with h;subst h
   exact ⟨⟨hr,fun x hx=>by simp at hx;subst hx;rfl⟩,zId ho hu.1 hu.2 hb hv hd⟩
  ·cases h
 ·rename_i t x y z ho
  replace h:=yH h;obtain ⟨hu,h⟩:=h
  simp only [Bool.and_eq_true,Option.isNone_iff_eq_none] at hu
  split at h
  ·rename_i vc id bx hb
   injection h with h;subst h
   exact ⟨⟨hr,fun x hx=>by simp at hx;subst hx;rfl⟩,zF7 ho hu.1.1 hu.1.2.1 hu.1.2.2 hb hv hu.2⟩
  ·cases h
 ·rename_i f args ts ho
  replace h:=yH h;obtain ⟨hu,h⟩:=h
  simp only [Bool.and_eq_true,List.all_eq_true] at hu
  split at h
  ·rename_i vc wb av hb
   injection h with h;subst h
   exact ⟨⟨hr,fun x hx=>by simp only [List.mem_map] at hx;obtain ⟨i,_,rfl⟩:=hx;rfl⟩,zKU ho hu.1 hu.2 hb hv hd⟩
  ·cases h
 ·cases h
theorem zMN {P:Program} {N np:Nat} {o:Oper} {st:AS} {hn:x5} {r:List Prop×Eff} (h:zMu P N np o hn st=some r) (hv:∀ p∈r.1,p):r.2.holds st∧w7 P N np o r.2:=by
 unfold zMu at h
 replace h:=yH h;obtain ⟨hd,h⟩:=h
 have hr:=zEN st (vW o.op)
 cases hxx:hn.x
 case true=>rw [hxx] at h;simp only [cond_true] at h;exact zN9 h hr hv hd
 rw [hxx] at h
 simp only [cond_false] at h
 cases hdep:hn.dep
 case true =>
  rw [hdep] at h
  simp only [cond_true] at h
  unfold zOb at h
  split at h
  case h_2=>cases h
  rename_i args ts ho
  split at h
  case h_2=>cases h
  rename_i x y t t2 ha ht
  rw [zB3 ha,zB3 ht] at ho
  replace h:=yH h;obtain ⟨hc,h⟩:=h
  simp only [Bool.and_eq_true] at hc
  split at h
  case h_2=>cases h
  rename_i vc ids bx av hb
  injection h with h;subst h
  refine ⟨⟨hr,fun z hz=>?_⟩,zF9 ho hc.1.1 hc.1.2 hb hv hd⟩
  simp only [List.mem_cons,List.mem_map] at hz
  rcases hz with rfl | ⟨i,_,rfl⟩
  ·exact vL hc.2
  ·rfl
 rw [hdep] at h
 simp only [cond_false] at h
 cases hm:(zMu.isNilOp o&&Nat.beq hn.m 1)
 ·rw [hm] at h
  simp only [cond_false] at h
  split at h
  ·rename_i vc av hvop
   injection h with h;subst h
   exact ⟨⟨hr,fun x hx=>by simp at hx⟩,zLE hvop hv hd⟩
  ·exact zNs h hr hv hd
 ·rw [hm] at h
  simp only [cond_true] at h
  unfold zNC at h
  split at h
  ·rename_i x e ho he
   replace h:=yH h;obtain ⟨hu,h⟩:=h
   simp only [Bool.and_eq_true] at hu
   injection h with h;subst h
   exact ⟨⟨hr,fun x hx=>by simp at hx;subst hx;exact vL hu.2⟩,zEl (.inl ho) hu.1 hd⟩
  ·rename_i x e ho he
   replace h:=yH h;obtain ⟨hu,h⟩:=h
   simp only [Bool.and_eq_true] at hu
   injection h with h;subst h
   exact ⟨⟨hr,fun x hx=>by simp at hx;subst hx;exact vL hu.2⟩,zEl (.inr ho) hu.1 hd⟩
  ·cases h
end Go.Ab
