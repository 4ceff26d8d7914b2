/- One operation as a summary; a region as a row of summaries. -/
import Derived.Test.YtdpgdpjoemdkjaaA38
namespace Go.Ab
open Go
def uM:Op→List Operand
 | .move x | .assign x | .box _ x | .load _ x | .nilCheck x | .unOp _ _ x | .convert _ _ x | .fieldAddr _ x _ | .field _ x _ | .extract x _=>[x]
 | .pick c a b=>[c,a,b]
 | .build _ ps | .buildSlice _ _ ps=>ps.toList.map (·.2)
 | .mapUpdate _ m k v=>[m,k,v]
 | .lookup _ a v _ | .store _ a v | .binOp _ _ a v _ | .makeSlice _ a v | .indexAddr _ a v | .index _ a v=>[a,v]
 | .makeFunc _ first captured=>first.toList++captured.toList
 | .slice _ x l h m=>x::(l.toList++(h.toList++m.toList))
 | .call { callee:=.value f,args:=args,.. }=>f::args.toList
 | .call { callee:=.builtin _,args:=args,.. }=>args.toList
 | _=>[]
theorem zIF (st:AS) (xs:List Operand):∀ x∈zA2 st xs,st.slot x.1=x.2:=by
 induction xs with
 | nil=>intro x hx;cases hx
 | cons a r ih =>
  intro x hx
  cases a with
  | tmp t =>
   simp only [zA2,List.mem_cons] at hx
   rcases hx with rfl | hx
   ·rfl
   ·exact ih x hx
  | _=>exact ih x hx
def bop (P:Program) (np:Nat) (o:Oper) (rs:List (Nat×AV)) (B:Nat→yI) (h:xX):Option (List Prop×Eff) :=
 match o.op with
 | .alloc t =>
  bif jW (B h.id) then
   match zJg P t h with
   | some (bx,_)=>some ([],{ rs:=rs,rb:=[(h.id,.unused)],dst:=o.dst.map fun d=>(d,.ptr h.id 0 0 0),wb:=[(h.id,.live bx)] })
   | none=>none
  else none
 | .box t x =>
  bif jW (B h.id)&&(y9 x&&kR (yW rs x)) then
   match zPW P t (yW rs x).cells h with
   | some (bx,_)=>some ([],{ rs:=rs,rb:=[(h.id,.unused)],dst:=o.dst.map fun d=>(d,.ptr h.id 0 0 0),wb:=[(h.id,.live bx)] })
   | none=>none
  else none
 | .load t x =>
  bif y9 x then
   match zOj P t (yW rs x) B h with
   | some (vc,id,av)=>some (vc,{ rs:=rs,rb:=[(id,B id)],dst:=o.dst.map fun d=>(d,av) })
   | none=>none
  else none
 | .store t x y =>
  bif (y9 x&&y9 y)&&o.dst.isNone then
   match zLL P t (yW rs x) (yW rs y) B h with
   | some (vc,id,bx)=>some (vc,{ rs:=rs,rb:=[(id,B id)],wb:=[(id,.live bx)] })
   | none=>none
  else none
 | .makeSlice t x y =>
  bif jW (B h.id)&&(y9 x&&y9 y) then
   match zOy P t (yW rs x) (yW rs y) h with
   | some (vc,bx,av)=>some (vc,{ rs:=rs,rb:=[(h.id,.unused)],dst:=o.dst.map fun d=>(d,av),wb:=[(h.id,.live bx)] })
   | none=>none
  else none
 | .buildSlice t len parts =>
  bif jW (B h.id)&&parts.toList.all (fun p=>y9 p.2) then
   match zFl P t len (yW rs) parts.toList h with
   | some (bx,av)=>some ([],{ rs:=rs,rb:=[(h.id,.unused)],dst:=o.dst.map fun d=>(d,av),wb:=[(h.id,.live bx)] })
   | none=>none
  else none
 | .slice t x lo hi mx =>
  bif y9 x&&(zF8 lo&&zF8 hi) then
   match zLB P t (yW rs) x lo hi mx B with
   | some (vc,id,av)=>some (vc,{ rs:=rs,rb:=[(id,B id)],dst:=o.dst.map fun d=>(d,av) })
   | none=>none
  else none
 | .convert s d x =>
  bif y9 x&&zK9 (yW rs x) then
   match zOi P s d (yW rs x) B h with
   | some (vc,ids,av)=>some (vc,{ rs:=rs,rb:=ids.map (fun i=>(i,B i)),dst:=o.dst.map fun d=>(d,av) })
   | none =>
    match zLr P s d (yW rs x) B np with
    | some (vc,id,av)=>some (vc,{ rs:=rs,rb:=[(id,B id)],dst:=o.dst.map fun d=>(d,av),wb:=[(id,.dead)] })
    | none=>none
  else none
 | .call { callee:=.builtin b,args:=args,argTypes:=ts } =>
  match b,args.toList,ts.toList with
  | .append,[x,y],[t,t2] =>
   bif y9 x&&y9 y then
    match zJB P t t2 (yW rs x) (nz (yW rs y)) B h with
    | some (vc,ids,id,bx,av) =>
     bif jW (B h.id)&&Nat.ble np id then
      some (vc,{ rs:=rs,rb:=(h.id,.unused)::(id,B id)::ids.map (fun i=>(i,B i)),dst:=o.dst.map fun d=>(d,av),wb:=[(h.id,.live bx),(id,.dead)] })
     else none
    | none =>
     match zFm P t t2 (nz (yW rs x)) (nz (yW rs y)) B h with
     | some (vc,ids,av)=>some (vc,{ rs:=rs,rb:=ids.map (fun i=>(i,B i)),dst:=o.dst.map fun d=>(d,av) })
     | none=>none
   else none
  | .len,[x],[t] =>
   bif y9 x then
    match zOJ P t (yW rs x) B h with
    | some (vc,id,av)=>some (vc,{ rs:=rs,rb:=[(id,B id)],dst:=o.dst.map fun d=>(d,av) })
    | none=>none
   else none
  | .copy,[x,y],[t,_] =>
   bif y9 x&&y9 y then
    match zN7 P t (yW rs x) (nz (yW rs y)) B h with
    | some (vc,ids,id,bx,av)=>some (vc,{ rs:=rs,rb:=(id,B id)::ids.map (fun i=>(i,B i)),dst:=o.dst.map fun d=>(d,av),wb:=[(id,.live bx)] })
    | none=>none
   else none
  | _,_,_=>none
 | .binOp op t x y _ =>
  bif y9 x&&y9 y then
   match zQq P op t (yW rs x) (yW rs y) h with
   | some (vc,av)=>some (vc,{ rs:=rs,dst:=o.dst.map fun d=>(d,av) })
   | none=>none
  else none
 | .makeMap _ none=>bif jW (B h.id) then some ([],{ rs:=rs,rb:=[(h.id,.unused)],dst:=o.dst.map fun d=>(d,.mp h.id),wb:=[(h.id,.live (.map h.mag h.mks []))] }) else none
 | .lookup t x y ok =>
  bif y9 x&&y9 y then
   match zOI P t (yW rs x) (yW rs y) ok B h with
   | some (vc,id,av)=>some (vc,{ rs:=rs,rb:=[(id,B id)],dst:=o.dst.map fun d=>(d,av) })
   | none=>none
  else none
 | .mapUpdate t x y z =>
  bif (y9 x&&(y9 y&&y9 z))&&o.dst.isNone then
   match zOw P t (yW rs x) (yW rs y) (yW rs z) B h with
   | some (vc,id,bx)=>some (vc,{ rs:=rs,rb:=[(id,B id)],wb:=[(id,.live bx)] })
   | none=>none
  else none
 | .call { callee:=.value f,args:=args,argTypes:=_ } =>
  bif y9 f&&args.toList.all y9 then
   match zOp P np (yW rs) f args.toList B h with
   | some (vc,wb,av)=>some (vc,{ rs:=rs,rb:=(h.ids++h.gids++h.lend).map (fun i=>(i,B i)),dst:=o.dst.map fun d=>(d,av),wb:=wb })
   | none=>none
  else none
 | _=>none
def zPd (P:Program) (o:Oper) (rs:List (Nat×AV)) (B:Nat→yI) (h:xX):Option (List Prop×Eff) :=
 match o.op,zN9 P o.type with
 | .assign x,some e=>bif zEf x&&jW (B h.id) then some ([],{ rs:=rs,rb:=[(h.id,.unused)],dst:=o.dst.map fun d=>(d,.own h.id 0),wb:=[(h.id,.live (.row e (szT P e) []))] }) else none
 | .move x,some e=>bif zEf x&&jW (B h.id) then some ([],{ rs:=rs,rb:=[(h.id,.unused)],dst:=o.dst.map fun d=>(d,.own h.id 0),wb:=[(h.id,.live (.row e (szT P e) []))] }) else none
 | _,_=>none
def zPS (P:Program) (o:Oper) (rs:List (Nat×AV)) (B:Nat→yI) (h:xX):Option (List Prop×Eff) :=
 match o.op with
 | .call { callee:=.builtin .append,args:=args,argTypes:=ts } =>
  match args.toList,ts.toList with
  | [x,y],[t,t2] =>
   bif (y9 x&&y9 y)&&jW (B h.id) then
    match zGe P t t2 (nz (yW rs x)) (nz (yW rs y)) B h with
    | some (vc,ids,bx,av)=>some (vc,{ rs:=rs,rb:=(h.id,.unused)::ids.map (fun i=>(i,B i)),dst:=o.dst.map fun d=>(d,av),wb:=[(h.id,.live bx)] })
    | none=>none
   else none
  | _,_=>none
 | _=>none
def zMc (P:Program) (N np:Nat) (o:Oper) (h:xX) (st:AS):Option (List Prop×Eff) :=
 bif uN N o.dst then
  bif h.x then xop P o (zA2 st (uM o.op)) st.box h else
  bif h.dep then zPS P o (zA2 st (uM o.op)) st.box h else
  bif isNilOp o&&Nat.beq h.m 1 then zPd P o (zA2 st (uM o.op)) st.box h
  else
   match vop P o (yW (zA2 st (uM o.op))) h with
   | some (vc,av)=>some (vc,{ rs:=zA2 st (uM o.op),dst:=o.dst.map fun d=>(d,av) })
   | none=>bop P np o (zA2 st (uM o.op)) st.box h
 else none
where isNilOp (o:Oper):Bool:=match o.op with | .assign _=>true | .move _=>true | _=>false
theorem zIR {a b:Nat} (h:Nat.ble a b=true):a≤b:=zle h
theorem zPa {P:Program} {N np:Nat} {o:Oper} {rs:List (Nat×AV)} {st:AS} {hn:xX} {r:List Prop×Eff} (h:bop P np o rs st.box hn=some r) (hr:∀ x∈rs,st.slot x.1=x.2)
  (hv:∀ p∈r.1,p) (hd:uN N o.dst=true):r.2.holds st∧vD P N np o r.2:=by
 unfold bop at h
 split at h
 ·rename_i t ho
  replace h:=yG h;obtain ⟨hu,h⟩:=h
  split at h
  ·rename_i bx cap hb
   injection h with h;subst h
   exact ⟨⟨hr,fun x hx=>by simp at hx;subst hx;exact qD hu⟩,zKZ ho hb hd⟩
  ·cases h
 ·rename_i t x ho
  replace h:=yG h;obtain ⟨hu,h⟩:=h
  simp only [Bool.and_eq_true] at hu
  split at h
  ·rename_i bx cap hb
   injection h with h;subst h
   exact ⟨⟨hr,fun x hx=>by simp at hx;subst hx;exact qD hu.1⟩,zNf ho hu.2.1 hu.2.2 hb hd⟩
  ·cases h
 ·rename_i t x ho
  replace h:=yG h;obtain ⟨hu,h⟩:=h
  split at h
  ·rename_i vc id av hb
   injection h with h;subst h
   exact ⟨⟨hr,fun x hx=>by simp at hx;subst hx;rfl⟩,zMH ho hu hb hv hd⟩
  ·cases h
 ·rename_i t x y ho
  replace h:=yG h;obtain ⟨hu,h⟩:=h
  simp only [Bool.and_eq_true,Option.isNone_iff_eq_none] at hu
  split at h
  ·rename_i vc id bx hb
   injection h with h;subst h
   exact ⟨⟨hr,fun x hx=>by simp at hx;subst hx;rfl⟩,zKN ho hu.1.1 hu.1.2 hb hv hu.2⟩
  ·cases h
 ·rename_i t x y ho
  replace h:=yG h;obtain ⟨hu,h⟩:=h
  simp only [Bool.and_eq_true] at hu
  split at h
  ·rename_i vc bx av hb
   injection h with h;subst h
   exact ⟨⟨hr,fun x hx=>by simp at hx;subst hx;exact qD hu.1⟩,zMD ho hu.2.1 hu.2.2 hb hv hd⟩
  ·cases h
 ·rename_i t len parts ho
  replace h:=yG h;obtain ⟨hu,h⟩:=h
  simp only [Bool.and_eq_true,List.all_eq_true] at hu
  split at h
  ·rename_i bx av hb
   injection h with h;subst h
   exact ⟨⟨hr,fun x hx=>by simp at hx;subst hx;exact qD hu.1⟩,zGU ho hu.2 hb hd⟩
  ·cases h
 ·rename_i t x lo hi mx ho
  replace h:=yG h;obtain ⟨hu,h⟩:=h
  simp only [Bool.and_eq_true] at hu
  split at h
  ·rename_i vc id av hb
   injection h with h;subst h
   exact ⟨⟨hr,fun x hx=>by simp at hx;subst hx;rfl⟩,zKF ho hu.1 hu.2.1 hu.2.2 hb hv hd⟩
  ·cases h
 ·rename_i s d x ho
  replace h:=yG h;obtain ⟨hu,h⟩:=h
  simp only [Bool.and_eq_true] at hu
  split at h
  ·rename_i vc ids av hb
   injection h with h;subst h
   exact ⟨⟨hr,fun x hx=>by simp only [List.mem_map] at hx;obtain ⟨i,_,rfl⟩:=hx;rfl⟩,zMS ho hu.1 hu.2 hb hv hd⟩
  ·split at h
   ·rename_i vc id av hb
    injection h with h;subst h
    exact ⟨⟨hr,fun x hx=>by simp at hx;subst hx;rfl⟩,zKC ho hu.1 hb hv hd⟩
   ·cases h
 ·rename_i b args ts ho
  split at h
  ·rename_i x y t t2 ha ht
   rw [zDe ha,zDe ht] at ho
   replace h:=yG h;obtain ⟨hu,h⟩:=h
   simp only [Bool.and_eq_true] at hu
   split at h
   ·rename_i vc ids id bx av hb
    replace h:=yG h;obtain ⟨hu2,h⟩:=h
    simp only [Bool.and_eq_true] at hu2
    injection h with h;subst h
    refine ⟨⟨hr,fun x hx=>?_⟩,zJO ho hu.1 hu.2 hb hv hd (zIR hu2.2)⟩
    simp only [List.mem_cons,List.mem_map] at hx
    rcases hx with rfl | rfl | ⟨i,_,rfl⟩
    ·exact qD hu2.1
    ·rfl
    ·rfl
   ·split at h
    ·rename_i vc ids av hb
     injection h with h;subst h
     exact ⟨⟨hr,fun x hx=>by simp only [List.mem_map] at hx;obtain ⟨i,_,rfl⟩:=hx;rfl⟩,zGN ho hu.1 hu.2 hb hv hd⟩
    ·cases h
  ·rename_i x t ha ht
   rw [zJ5 ha,zJ5 ht] at ho
   replace h:=yG h;obtain ⟨hu,h⟩:=h
   split at h
   ·rename_i vc id av hb
    injection h with h;subst h
    exact ⟨⟨hr,fun x hx=>by simp at hx;subst hx;rfl⟩,zMy ho hu hb hv hd⟩
   ·cases h
  ·rename_i x y t t2 ha ht
   rw [zDe ha,zDe ht] at ho
   replace h:=yG h;obtain ⟨hu,h⟩:=h
   simp only [Bool.and_eq_true] at hu
   split at h
   ·rename_i vc ids id bx av hb
    injection h with h;subst h
    refine ⟨⟨hr,fun x hx=>?_⟩,zMa ho hu.1 hu.2 hb hv hd⟩
    simp only [List.mem_cons,List.mem_map] at hx
    rcases hx with rfl | ⟨i,_,rfl⟩
    ·rfl
    ·rfl
   ·cases h
  ·cases h
 ·rename_i op t x y yT ho
  replace h:=yG h;obtain ⟨hu,h⟩:=h
  simp only [Bool.and_eq_true] at hu
  split at h
  ·rename_i vc av hb
   injection h with h;subst h
   exact ⟨⟨hr,fun x hx=>by simp at hx⟩,zMz ho hu.1 hu.2 hb hv hd⟩
  ·cases h
 ·rename_i t ho
  replace h:=yG h;obtain ⟨hu,h⟩:=h
  injection h with h;subst h
  exact ⟨⟨hr,fun x hx=>by simp at hx;subst hx;exact qD hu⟩,zIy ho hd⟩
 ·rename_i t x y ok ho
  replace h:=yG h;obtain ⟨hu,h⟩:=h
  simp only [Bool.and_eq_true] at hu
  split at h
  ·rename_i vc id av hb
   injection h with h;subst h
   exact ⟨⟨hr,fun x hx=>by simp at hx;subst hx;rfl⟩,zJJ ho hu.1 hu.2 hb hv hd⟩
  ·cases h
 ·rename_i t x y z ho
  replace h:=yG h;obtain ⟨hu,h⟩:=h
  simp only [Bool.and_eq_true,Option.isNone_iff_eq_none] at hu
  split at h
  ·rename_i vc id bx hb
   injection h with h;subst h
   exact ⟨⟨hr,fun x hx=>by simp at hx;subst hx;rfl⟩,zHm ho hu.1.1 hu.1.2.1 hu.1.2.2 hb hv hu.2⟩
  ·cases h
 ·rename_i f args ts ho
  replace h:=yG h;obtain ⟨hu,h⟩:=h
  simp only [Bool.and_eq_true,List.all_eq_true] at hu
  split at h
  ·rename_i vc wb av hb
   injection h with h;subst h
   exact ⟨⟨hr,fun x hx=>by simp only [List.mem_map] at hx;obtain ⟨i,_,rfl⟩:=hx;rfl⟩,zMG ho hu.1 hu.2 hb hv hd⟩
  ·cases h
 ·cases h
theorem zI1 {P:Program} {N np:Nat} {o:Oper} {st:AS} {hn:xX} {r:List Prop×Eff} (h:zMc P N np o hn st=some r) (hv:∀ p∈r.1,p):r.2.holds st∧vD P N np o r.2:=by
 unfold zMc at h
 replace h:=yG h;obtain ⟨hd,h⟩:=h
 have hr:=zIF st (uM o.op)
 cases hxx:hn.x
 case true=>rw [hxx] at h;simp only [cond_true] at h;exact zPL h hr hv hd
 rw [hxx] at h
 simp only [cond_false] at h
 cases hdep:hn.dep
 case true =>
  rw [hdep] at h
  simp only [cond_true] at h
  unfold zPS at h
  split at h
  case h_2=>cases h
  rename_i args ts ho
  split at h
  case h_2=>cases h
  rename_i x y t t2 ha ht
  rw [zDe ha,zDe ht] at ho
  replace h:=yG h;obtain ⟨hc,h⟩:=h
  simp only [Bool.and_eq_true] at hc
  split at h
  case h_2=>cases h
  rename_i vc ids bx av hb
  injection h with h;subst h
  refine ⟨⟨hr,fun z hz=>?_⟩,zHj ho hc.1.1 hc.1.2 hb hv hd⟩
  simp only [List.mem_cons,List.mem_map] at hz
  rcases hz with rfl | ⟨i,_,rfl⟩
  ·exact qD hc.2
  ·rfl
 rw [hdep] at h
 simp only [cond_false] at h
 cases hm:(zMc.isNilOp o&&Nat.beq hn.m 1)
 ·rw [hm] at h
  simp only [cond_false] at h
  split at h
  ·rename_i vc av hvop
   injection h with h;subst h
   exact ⟨⟨hr,fun x hx=>by simp at hx⟩,zNt hvop hv hd⟩
  ·exact zPa h hr hv hd
 ·rw [hm] at h
  simp only [cond_true] at h
  unfold zPd at h
  split at h
  ·rename_i x e ho he
   replace h:=yG h;obtain ⟨hu,h⟩:=h
   simp only [Bool.and_eq_true] at hu
   injection h with h;subst h
   exact ⟨⟨hr,fun x hx=>by simp at hx;subst hx;exact qD hu.2⟩,zFu (.inl ho) hu.1 hd⟩
  ·rename_i x e ho he
   replace h:=yG h;obtain ⟨hu,h⟩:=h
   simp only [Bool.and_eq_true] at hu
   injection h with h;subst h
   exact ⟨⟨hr,fun x hx=>by simp at hx;subst hx;exact qD hu.2⟩,zFu (.inr ho) hu.1 hd⟩
  ·cases h
end Go.Ab
