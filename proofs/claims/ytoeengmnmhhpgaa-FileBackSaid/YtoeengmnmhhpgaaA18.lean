/- A layer over the model: abstract values and states, and the rules by which the printed proofs go. No conditions. -/
import Derived.Test.YtoeengmnmhhpgaaA33
/- One operation as a summary; a region as a row of summaries. -/
namespace Go.Ab
open Go
def pQ:Op→List Operand
 | .move x | .assign x | .box _ x | .load _ x | .nilCheck x | .unOp _ _ x | .convert _ _ x | .fieldAddr _ x _ | .field _ x _ | .extract x _=>[x]
 | .pick c a b=>[c,a,b]
 | .build _ ps | .buildSlice _ _ ps=>ps.toList.map (·.2)
 | .mapUpdate _ m k v=>[m,k,v]
 | .lookup _ a v _ | .store _ a v | .binOp _ _ a v _ | .makeSlice _ a v | .indexAddr _ a v | .index _ a v=>[a,v]
 | .makeFunc _ first captured=>first.toList++captured.toList
 | .slice _ x l h m=>x::(l.toList++(h.toList++m.toList))
 | .call { callee:=.value f,args:=args,.. }=>f::args.toList
 | .call { callee:=.builtin _,args:=args,.. }=>args.toList
 | _=>[]
theorem T3 (st:AS) (xs:List Operand):∀ x∈kD st xs,st.slot x.1=x.2:=by
 induction xs with
 | nil=>intro x hx;cases hx
 | cons a r ih =>
  intro x hx
  cases a with
  | tmp t =>
   simp only [kD,List.mem_cons] at hx
   rcases hx with rfl | hx
   ·rfl
   ·exact ih x hx
  | _=>exact ih x hx
def bop (P:Program) (np:Nat) (o:Oper) (rs:List (Nat×AV)) (B:Nat→yB) (h:xN):Option (List Prop×Eff) :=
 match o.op with
 | .alloc t =>
  bif pS (B h.id) then
   match HZ P t h with
   | some (bx,_)=>some ([],{ rs:=rs,rb:=[(h.id,.unused)],dst:=o.dst.map fun d=>(d,.ptr h.id 0 0 0),wb:=[(h.id,.live bx)] })
   | none=>none
  else none
 | .box t x =>
  bif pS (B h.id)&&(xD x&&nA (xC rs x)) then
   match KD P t (xC rs x).cells h with
   | some (bx,_)=>some ([],{ rs:=rs,rb:=[(h.id,.unused)],dst:=o.dst.map fun d=>(d,.ptr h.id 0 0 0),wb:=[(h.id,.live bx)] })
   | none=>none
  else none
 | .load t x =>
  bif xD x then
   match MK P t (xC rs x) B h with
   | some (vc,id,av)=>some (vc,{ rs:=rs,rb:=[(id,B id)],dst:=o.dst.map fun d=>(d,av) })
   | none=>none
  else none
 | .store t x y =>
  bif (xD x&&xD y)&&o.dst.isNone then
   match LS P t (xC rs x) (xC rs y) B h with
   | some (vc,id,bx)=>some (vc,{ rs:=rs,rb:=[(id,B id)],wb:=[(id,.live bx)] })
   | none=>none
  else none
 | .makeSlice t x y =>
  bif pS (B h.id)&&(xD x&&xD y) then
   match LP P t (xC rs x) (xC rs y) h with
   | some (vc,bx,av)=>some (vc,{ rs:=rs,rb:=[(h.id,.unused)],dst:=o.dst.map fun d=>(d,av),wb:=[(h.id,.live bx)] })
   | none=>none
  else none
 | .buildSlice t len parts =>
  bif pS (B h.id)&&parts.toList.all (fun p=>xD p.2) then
   match KC P t len (xC rs) parts.toList h with
   | some (bx,av)=>some ([],{ rs:=rs,rb:=[(h.id,.unused)],dst:=o.dst.map fun d=>(d,av),wb:=[(h.id,.live bx)] })
   | none=>none
  else none
 | .slice t x lo hi mx =>
  bif xD x&&(gS lo&&gS hi) then
   match ME P t (xC rs) x lo hi mx B with
   | some (vc,id,av)=>some (vc,{ rs:=rs,rb:=[(id,B id)],dst:=o.dst.map fun d=>(d,av) })
   | none=>none
  else none
 | .convert s d x =>
  bif xD x&&ES (xC rs x) then
   match L6 P s d (xC rs x) B h with
   | some (vc,ids,av)=>some (vc,{ rs:=rs,rb:=ids.map (fun i=>(i,B i)),dst:=o.dst.map fun d=>(d,av) })
   | none =>
    match LR P s d (xC rs x) B np with
    | some (vc,id,av)=>some (vc,{ rs:=rs,rb:=[(id,B id)],dst:=o.dst.map fun d=>(d,av),wb:=[(id,.dead)] })
    | none=>none
  else none
 | .call { callee:=.builtin b,args:=args,argTypes:=ts } =>
  match b,args.toList,ts.toList with
  | .append,[x,y],[t,t2] =>
   bif xD x&&xD y then
    match MA P t t2 (xC rs x) (nz (xC rs y)) B h with
    | some (vc,ids,id,bx,av) =>
     bif pS (B h.id)&&Nat.ble np id then
      some (vc,{ rs:=rs,rb:=(h.id,.unused)::(id,B id)::ids.map (fun i=>(i,B i)),dst:=o.dst.map fun d=>(d,av),wb:=[(h.id,.live bx),(id,.dead)] })
     else none
    | none =>
     match N0 P t t2 (nz (xC rs x)) (nz (xC rs y)) B h with
     | some (vc,ids,av)=>some (vc,{ rs:=rs,rb:=ids.map (fun i=>(i,B i)),dst:=o.dst.map fun d=>(d,av) })
     | none=>none
   else none
  | .len,[x],[t] =>
   bif xD x then
    match M7 P t (xC rs x) B h with
    | some (vc,id,av)=>some (vc,{ rs:=rs,rb:=[(id,B id)],dst:=o.dst.map fun d=>(d,av) })
    | none=>none
   else none
  | .copy,[x,y],[t,_] =>
   bif xD x&&xD y then
    match NB P t (xC rs x) (nz (xC rs y)) B h with
    | some (vc,ids,id,bx,av)=>some (vc,{ rs:=rs,rb:=(id,B id)::ids.map (fun i=>(i,B i)),dst:=o.dst.map fun d=>(d,av),wb:=[(id,.live bx)] })
    | none=>none
   else none
  | _,_,_=>none
 | .binOp op t x y _ =>
  bif xD x&&xD y then
   match KG P op t (xC rs x) (xC rs y) h with
   | some (vc,av)=>some (vc,{ rs:=rs,dst:=o.dst.map fun d=>(d,av) })
   | none=>none
  else none
 | .makeMap _ none=>bif pS (B h.id) then some ([],{ rs:=rs,rb:=[(h.id,.unused)],dst:=o.dst.map fun d=>(d,.mp h.id),wb:=[(h.id,.live (.map h.mag h.mks []))] }) else none
 | .lookup t x y ok =>
  bif xD x&&xD y then
   match KR P t (xC rs x) (xC rs y) ok B h with
   | some (vc,id,av)=>some (vc,{ rs:=rs,rb:=[(id,B id)],dst:=o.dst.map fun d=>(d,av) })
   | none =>
    match L3 P t (xC rs x) (xC rs y) ok h with
    | some (vc,av)=>some (vc,{ rs:=rs,dst:=o.dst.map fun d=>(d,av) })
    | none=>none
  else none
 | .mapUpdate t x y z =>
  bif (xD x&&(xD y&&xD z))&&o.dst.isNone then
   match KH P t (xC rs x) (xC rs y) (xC rs z) B h with
   | some (vc,id,bx)=>some (vc,{ rs:=rs,rb:=[(id,B id)],wb:=[(id,.live bx)] })
   | none=>none
  else none
 | .call { callee:=.value f,args:=args,argTypes:=_ } =>
  bif xD f&&args.toList.all xD then
   match KM P np (xC rs) f args.toList B h with
   | some (vc,wb,av)=>some (vc,{ rs:=rs,rb:=(h.ids++h.gids++h.lend).map (fun i=>(i,B i)),dst:=o.dst.map fun d=>(d,av),wb:=wb })
   | none=>none
  else none
 | _=>none
def RJ (P:Program) (o:Oper) (rs:List (Nat×AV)) (B:Nat→yB) (h:xN):Option (List Prop×Eff) :=
 match o.op,LA P o.type with
 | .assign x,some e=>bif GH x&&pS (B h.id) then some ([],{ rs:=rs,rb:=[(h.id,.unused)],dst:=o.dst.map fun d=>(d,.own h.id 0),wb:=[(h.id,.live (.row e (szT P e) []))] }) else none
 | .move x,some e=>bif GH x&&pS (B h.id) then some ([],{ rs:=rs,rb:=[(h.id,.unused)],dst:=o.dst.map fun d=>(d,.own h.id 0),wb:=[(h.id,.live (.row e (szT P e) []))] }) else none
 | _,_=>none
def RM (P:Program) (o:Oper) (rs:List (Nat×AV)) (B:Nat→yB) (h:xN):Option (List Prop×Eff) :=
 match o.op with
 | .call { callee:=.builtin .append,args:=args,argTypes:=ts } =>
  match args.toList,ts.toList with
  | [x,y],[t,t2] =>
   bif (xD x&&xD y)&&pS (B h.id) then
    match NI P t t2 (nz (xC rs x)) (nz (xC rs y)) B h with
    | some (vc,ids,bx,av)=>some (vc,{ rs:=rs,rb:=(h.id,.unused)::ids.map (fun i=>(i,B i)),dst:=o.dst.map fun d=>(d,av),wb:=[(h.id,.live bx)] })
    | none=>none
   else none
  | _,_=>none
 | _=>none
def CL (P:Program) (N np:Nat) (o:Oper) (h:xN) (st:AS):Option (List Prop×Eff) :=
 bif uH N o.dst then
  bif h.x then xop P o (kD st (pQ o.op)) st.box h else
  bif h.dep then RM P o (kD st (pQ o.op)) st.box h else
  bif isNilOp o&&Nat.beq h.m 1 then RJ P o (kD st (pQ o.op)) st.box h
  else
   match vop P o (xC (kD st (pQ o.op))) h with
   | some (vc,av)=>some (vc,{ rs:=kD st (pQ o.op),dst:=o.dst.map fun d=>(d,av) })
   | none=>bop P np o (kD st (pQ o.op)) st.box h
 else none
where isNilOp (o:Oper):Bool:=match o.op with | .assign _=>true | .move _=>true | _=>false
theorem DJ {a b:Nat} (h:Nat.ble a b=true):a≤b:=zle h
theorem zA7 {P:Program} {N np:Nat} {o:Oper} {rs:List (Nat×AV)} {st:AS} {hn:xN} {r:List Prop×Eff} (h:bop P np o rs st.box hn=some r) (hr:∀ x∈rs,st.slot x.1=x.2)
  (hv:∀ p∈r.1,p) (hd:uH N o.dst=true):r.2.holds st∧uN P N np o r.2:=by
 unfold bop at h
 split at h
 ·rename_i t ho
  replace h:=xK h;obtain ⟨hu,h⟩:=h
  split at h
  ·rename_i bx cap hb
   injection h with h;subst h
   exact ⟨⟨hr,fun x hx=>by simp at hx;subst hx;exact nX hu⟩,WL ho hb hd⟩
  ·cases h
 ·rename_i t x ho
  replace h:=xK h;obtain ⟨hu,h⟩:=h
  simp only [zba] at hu
  split at h
  ·rename_i bx cap hb
   injection h with h;subst h
   exact ⟨⟨hr,fun x hx=>by simp at hx;subst hx;exact nX hu.1⟩,Y7 ho hu.2.1 hu.2.2 hb hd⟩
  ·cases h
 ·rename_i t x ho
  replace h:=xK h;obtain ⟨hu,h⟩:=h
  split at h
  ·rename_i vc id av hb
   injection h with h;subst h
   exact ⟨⟨hr,fun x hx=>by simp at hx;subst hx;rfl⟩,zDD ho hu hb hv hd⟩
  ·cases h
 ·rename_i t x y ho
  replace h:=xK h;obtain ⟨hu,h⟩:=h
  simp only [zba,Option.isNone_iff_eq_none] at hu
  split at h
  ·rename_i vc id bx hb
   injection h with h;subst h
   exact ⟨⟨hr,fun x hx=>by simp at hx;subst hx;rfl⟩,zBO ho hu.1.1 hu.1.2 hb hv hu.2⟩
  ·cases h
 ·rename_i t x y ho
  replace h:=xK h;obtain ⟨hu,h⟩:=h
  simp only [zba] at hu
  split at h
  ·rename_i vc bx av hb
   injection h with h;subst h
   exact ⟨⟨hr,fun x hx=>by simp at hx;subst hx;exact nX hu.1⟩,zCh ho hu.2.1 hu.2.2 hb hv hd⟩
  ·cases h
 ·rename_i t len parts ho
  replace h:=xK h;obtain ⟨hu,h⟩:=h
  simp only [zba,List.all_eq_true] at hu
  split at h
  ·rename_i bx av hb
   injection h with h;subst h
   exact ⟨⟨hr,fun x hx=>by simp at hx;subst hx;exact nX hu.1⟩,zAZ ho hu.2 hb hd⟩
  ·cases h
 ·rename_i t x lo hi mx ho
  replace h:=xK h;obtain ⟨hu,h⟩:=h
  simp only [zba] at hu
  split at h
  ·rename_i vc id av hb
   injection h with h;subst h
   exact ⟨⟨hr,fun x hx=>by simp at hx;subst hx;rfl⟩,zAf ho hu.1 hu.2.1 hu.2.2 hb hv hd⟩
  ·cases h
 ·rename_i s d x ho
  replace h:=xK h;obtain ⟨hu,h⟩:=h
  simp only [zba] at hu
  split at h
  ·rename_i vc ids av hb
   injection h with h;subst h
   exact ⟨⟨hr,fun x hx=>by simp only [List.mem_map] at hx;obtain ⟨i,_,rfl⟩:=hx;rfl⟩,zDF ho hu.1 hu.2 hb hv hd⟩
  ·split at h
   ·rename_i vc id av hb
    injection h with h;subst h
    exact ⟨⟨hr,fun x hx=>by simp at hx;subst hx;rfl⟩,zAm ho hu.1 hb hv hd⟩
   ·cases h
 ·rename_i b args ts ho
  split at h
  ·rename_i x y t t2 ha ht
   rw [nQ ha,nQ ht] at ho
   replace h:=xK h;obtain ⟨hu,h⟩:=h
   simp only [zba] at hu
   split at h
   ·rename_i vc ids id bx av hb
    replace h:=xK h;obtain ⟨hu2,h⟩:=h
    simp only [zba] at hu2
    injection h with h;subst h
    refine ⟨⟨hr,fun x hx=>?_⟩,WP ho hu.1 hu.2 hb hv hd (DJ hu2.2)⟩
    simp only [List.mem_cons,List.mem_map] at hx
    rcases hx with rfl | rfl | ⟨i,_,rfl⟩
    ·exact nX hu2.1
    ·rfl
    ·rfl
   ·split at h
    ·rename_i vc ids av hb
     injection h with h;subst h
     exact ⟨⟨hr,fun x hx=>by simp only [List.mem_map] at hx;obtain ⟨i,_,rfl⟩:=hx;rfl⟩,zBD ho hu.1 hu.2 hb hv hd⟩
    ·cases h
  ·rename_i x t ha ht
   rw [rT ha,rT ht] at ho
   replace h:=xK h;obtain ⟨hu,h⟩:=h
   split at h
   ·rename_i vc id av hb
    injection h with h;subst h
    exact ⟨⟨hr,fun x hx=>by simp at hx;subst hx;rfl⟩,Y6 ho hu hb hv hd⟩
   ·cases h
  ·rename_i x y t t2 ha ht
   rw [nQ ha,nQ ht] at ho
   replace h:=xK h;obtain ⟨hu,h⟩:=h
   simp only [zba] at hu
   split at h
   ·rename_i vc ids id bx av hb
    injection h with h;subst h
    refine ⟨⟨hr,fun x hx=>?_⟩,zAD ho hu.1 hu.2 hb hv hd⟩
    simp only [List.mem_cons,List.mem_map] at hx
    rcases hx with rfl | ⟨i,_,rfl⟩
    ·rfl
    ·rfl
   ·cases h
  ·cases h
 ·rename_i op t x y yT ho
  replace h:=xK h;obtain ⟨hu,h⟩:=h
  simp only [zba] at hu
  split at h
  ·rename_i vc av hb
   injection h with h;subst h
   exact ⟨⟨hr,fun x hx=>by simp at hx⟩,zCm ho hu.1 hu.2 hb hv hd⟩
  ·cases h
 ·rename_i t ho
  replace h:=xK h;obtain ⟨hu,h⟩:=h
  injection h with h;subst h
  exact ⟨⟨hr,fun x hx=>by simp at hx;subst hx;exact nX hu⟩,zAq ho hd⟩
 ·rename_i t x y ok ho
  replace h:=xK h;obtain ⟨hu,h⟩:=h
  simp only [zba] at hu
  split at h
  ·rename_i vc id av hb
   injection h with h;subst h
   exact ⟨⟨hr,fun x hx=>by simp at hx;subst hx;rfl⟩,zD6 ho hu.1 hu.2 hb hv hd⟩
  ·split at h
   ·rename_i vc av hb
    injection h with h;subst h
    exact ⟨⟨hr,fun x hx=>by simp at hx⟩,W9 ho hu.1 hu.2 hb hv hd⟩
   ·cases h
 ·rename_i t x y z ho
  replace h:=xK h;obtain ⟨hu,h⟩:=h
  simp only [zba,Option.isNone_iff_eq_none] at hu
  split at h
  ·rename_i vc id bx hb
   injection h with h;subst h
   exact ⟨⟨hr,fun x hx=>by simp at hx;subst hx;rfl⟩,V0 ho hu.1.1 hu.1.2.1 hu.1.2.2 hb hv hu.2⟩
  ·cases h
 ·rename_i f args ts ho
  replace h:=xK h;obtain ⟨hu,h⟩:=h
  simp only [zba,List.all_eq_true] at hu
  split at h
  ·rename_i vc wb av hb
   injection h with h;subst h
   exact ⟨⟨hr,fun x hx=>by simp only [List.mem_map] at hx;obtain ⟨i,_,rfl⟩:=hx;rfl⟩,VF ho hu.1 hu.2 hb hv hd⟩
  ·cases h
 ·cases h
theorem TI {P:Program} {N np:Nat} {o:Oper} {st:AS} {hn:xN} {r:List Prop×Eff} (h:CL P N np o hn st=some r) (hv:∀ p∈r.1,p):r.2.holds st∧uN P N np o r.2:=by
 unfold CL at h
 replace h:=xK h;obtain ⟨hd,h⟩:=h
 have hr:=T3 st (pQ o.op)
 cases hxx:hn.x
 case true=>rw [hxx] at h;simp only [cond_true] at h;exact YY h hr hv hd
 rw [hxx] at h
 simp only [cond_false] at h
 cases hdep:hn.dep
 case true =>
  rw [hdep] at h
  simp only [cond_true] at h
  unfold RM at h
  split at h
  case h_2=>cases h
  rename_i args ts ho
  split at h
  case h_2=>cases h
  rename_i x y t t2 ha ht
  rw [nQ ha,nQ ht] at ho
  replace h:=xK h;obtain ⟨hc,h⟩:=h
  simp only [zba] at hc
  split at h
  case h_2=>cases h
  rename_i vc ids bx av hb
  injection h with h;subst h
  refine ⟨⟨hr,fun z hz=>?_⟩,X1 ho hc.1.1 hc.1.2 hb hv hd⟩
  simp only [List.mem_cons,List.mem_map] at hz
  rcases hz with rfl | ⟨i,_,rfl⟩
  ·exact nX hc.2
  ·rfl
 rw [hdep] at h
 simp only [cond_false] at h
 cases hm:(CL.isNilOp o&&Nat.beq hn.m 1)
 ·rw [hm] at h
  simp only [cond_false] at h
  split at h
  ·rename_i vc av hvop
   injection h with h;subst h
   exact ⟨⟨hr,fun x hx=>by simp at hx⟩,XS hvop hv hd⟩
  ·exact zA7 h hr hv hd
 ·rw [hm] at h
  simp only [cond_true] at h
  unfold RJ at h
  split at h
  ·rename_i x e ho he
   replace h:=xK h;obtain ⟨hu,h⟩:=h
   simp only [zba] at hu
   injection h with h;subst h
   exact ⟨⟨hr,fun x hx=>by simp at hx;subst hx;exact nX hu.2⟩,U3 (.inl ho) hu.1 hd⟩
  ·rename_i x e ho he
   replace h:=xK h;obtain ⟨hu,h⟩:=h
   simp only [zba] at hu
   injection h with h;subst h
   exact ⟨⟨hr,fun x hx=>by simp at hx;subst hx;exact nX hu.2⟩,U3 (.inr ho) hu.1 hd⟩
  ·cases h
end Go.Ab

/- A region: its operations one behind the other; in whatever order its edges allow. -/
namespace Go.Ab
open Go
def v6 (st:AS):List Eff→AS
 | []=>st
 | E::r=>v6 (st.upd E) r
def nL (st:AS):List Eff→Prop
 | []=>True
 | E::r=>E.holds st∧nL (st.upd E) r
def JD (P:Program) (N np:Nat) (ops:Array Oper) (o:Oper) (es:List Eff):Prop :=
 ∀ G st a w,G.n=N→G.foot.length=np→nL st es→Rel G st a w →
  if Region.wanted o (yielded ops a.tmps)=true then o.wp P a w (fun a' w'=>Rel G (v6 st es) a' w') (fun _ _ _=>False) else Rel G (v6 st es) (a.put o.dst undef) w
/-! Rows given away ahead of an operation. -/
def g7:yB→Bool
 | .live (.row ..)=>true
 | _=>false
def ln1:Nat→AV→AV
 | k,.nilsl=>.sl false k []
 | _,.sl _ sz l=>.sl false sz l
 | _,v=>v
def lnL:List Nat→List AV→List AV
 | k::ks,c::cs=>ln1 k c::lnL ks cs
 | _,cs=>cs
def ln (ks:List Nat):AV→AV
 | .agg cs=>.agg (lnL ks cs)
 | .nilsl=>ln1 (ks.headD 0) .nilsl
 | .sl f sz l=>bif ks.isEmpty then .sl f sz l else .sl false sz l
 | v=>v
def rJ:List (Nat×List Nat)→Nat→List Nat
 | [],_=>[]
 | (k,l)::r,i=>bif Nat.beq i k then l else rJ r i
theorem zAv {k:Nat} {c:AV} (h:c.one=true):(ln1 k c).one=true:=by cases c<;>simp_all [ln1,AV.one]
theorem zDM (ks:List Nat) (cs:List AV):(lnL ks cs).length=cs.length:=by
 induction cs generalizing ks with
 | nil=>cases ks<;>rfl
 | cons c r ih=>cases ks<;>simp [lnL,ih]
theorem RL {ks:List Nat} {cs:List AV} {j:Nat} {c:AV} (h:(lnL ks cs)[j]?=some c):∃ c0,cs[j]?=some c0∧(c=c0∨∃ k,c=ln1 k c0):=by
 induction cs generalizing ks j with
 | nil=>cases ks<;>simp [lnL] at h
 | cons x r ih =>
  cases ks with
  | nil=>exact ⟨c,h,.inl rfl⟩
  | cons k ks =>
   cases j with
   | zero=>simp [lnL] at h;exact ⟨x,rfl,.inr ⟨k,h.symm⟩⟩
   | succ j=>simp only [lnL,List.getElem?_cons_succ] at h ⊢;exact ih h
theorem JH {w:World} {I:Nat→Prop} {T:Tbl} {v:Value} {c:AV} {k:Nat} (h:Rep w I T v c):Rep w I T v (ln1 k c):=by
 by_cases hn:c=.nilsl
 ·subst hn
  generalize hc:AV.nilsl=c at h
  cases h<;>cases hc
  exact .sl0 (by decide) (by intro h;cases h)
 ·by_cases hs:∃ f sz l,c=.sl f sz l
  ·obtain ⟨f,sz,l,rfl⟩:=hs
   cases f
   ·exact h
   ·exact SN h
  ·have:ln1 k c=c:=by
    cases c<;>first | rfl | exact absurd rfl hn | exact absurd ⟨_,_,_,rfl⟩ hs
   rw [this];exact h
theorem zAt {w:World} {I:Nat→Prop} {T:Tbl} {v:Value} {c:AV} {ks:List Nat} (h:Rep w I T v c):Rep w I T v (ln ks c):=by
 by_cases ha:∃ cs,c=.agg cs
 ·obtain ⟨cs,rfl⟩:=ha
  cases h with
  | agg h1 h2 h3 =>
  refine .agg (by rw [zDM];exact h1) ?_ ?_
  ·intro c hc
   obtain ⟨j,hj⟩:=List.mem_iff_getElem?.1 hc
   obtain ⟨c0,h0,h⟩:=RL hj
   have:=h2 c0 (List.mem_of_getElem? h0)
   rcases h with rfl | ⟨k,rfl⟩
   ·exact this
   ·exact zAv this
  ·intro j c hj
   obtain ⟨c0,h0,h⟩:=RL hj
   have:=h3 j c0 h0
   rcases h with rfl | ⟨k,rfl⟩
   ·exact this
   ·exact JH this
 ·by_cases hn:c=.nilsl
  ·subst hn;exact JH h
  ·by_cases hs:∃ f sz l,c=.sl f sz l
   ·obtain ⟨f,sz,l,rfl⟩:=hs
    simp only [ln]
    cases ks.isEmpty
    ·exact JH (k:=0) h
    ·exact h
   ·have:ln ks c=c:=by
     cases c<;>first | rfl | exact absurd rfl hn | exact absurd ⟨_,rfl⟩ ha | exact absurd ⟨_,_,_,rfl⟩ hs
    rw [this];exact h
def LQ (N np:Nat) (o:Oper) (h:xN) (st:AS):Option (List Prop×Eff) :=
 let rs:=kD st (pQ o.op)
 bif (h.frz.all fun i=>g7 (st.box i)&&Nat.ble np i)&&(rs.all fun x=>lS (frz st.box h.frz x.2)&&Nat.blt x.1 N) then
  some (rs.flatMap (fun x=>bY st.box h.frz x.2),{ rs:=rs,rb:=h.frz.map (fun i=>(i,st.box i)),wb:=h.frz.map (fun i=>(i,.dead)),fz:=rs.map fun x=>(x.1,ln (rJ h.lo x.1) (frz st.box h.frz x.2)) })
 else none
theorem zCT {l:List (Nat×AV)} {t:Nat} {d:AV}:k9 l t d=d∨∃ v,(t,v)∈l∧k9 l t d=v:=by
 induction l with
 | nil=>exact .inl rfl
 | cons x r ih =>
  obtain ⟨k,v⟩:=x
  simp only [k9]
  cases hb:Nat.beq t k
  ·rcases ih with h | ⟨v',h1,h2⟩
   ·exact .inl h
   ·exact .inr ⟨v',by simp [h1],h2⟩
  ·have:=x6.1 hb
   subst this
   exact .inr ⟨v,by simp,rfl⟩
theorem zCP {ids:List Nat} {i:Nat} {d:yB}:vI (ids.map fun i=>(i,yB.dead)) i d=if i∈ids then .dead else d:=by
 induction ids with
 | nil=>simp [vI]
 | cons x r ih =>
  simp only [List.map_cons,vI]
  by_cases h:i=x
  ·subst h;simp
  ·rw [jC h];simp [ih,h]
theorem zAE {st:AS} {N np:Nat} {o:Oper} {hn:xN} {r:List Prop×Eff}
  (h:LQ N np o hn st=some r) (hv:∀ p∈r.1,p):r.2.holds st∧∀ G st2,G.foot.length=np→r.2.holds st2→∀ a w,Rel G st2 a w→Rel G (st2.upd r.2) a w:=by
 unfold LQ at h
 replace h:=xK h;obtain ⟨hc,h⟩:=h
 simp only [zba,List.all_eq_true] at hc
 injection h with h;subst h
 simp only at hv
 refine ⟨⟨T3 st _,fun x hx=>by simp only [List.mem_map] at hx;obtain ⟨i,_,rfl⟩:=hx;rfl⟩,?_⟩
 rintro G st2 hnp ⟨hs2,hb2⟩ a w ⟨T,hT⟩
 have hbx:∀ i∈hn.frz,st2.box i=st.box i:=fun i hi=>hb2 (i,st.box i) (List.mem_map.2 ⟨i,hi,rfl⟩)
 have hbox:∀ i,(st2.upd { rs:=kD st (pQ o.op),rb:=hn.frz.map (fun i=>(i,st.box i)),wb:=hn.frz.map (fun i=>(i,.dead)),fz:=(kD st (pQ o.op)).map fun x=>(x.1,ln (rJ hn.lo x.1) (frz st.box hn.frz x.2)) }).box i =
   if i∈hn.frz then .dead else st2.box i:=fun i=>zCP
 have himm:∀ b,imm G st2 T b→imm G (st2.upd { rs:=kD st (pQ o.op),rb:=hn.frz.map (fun i=>(i,st.box i)),wb:=hn.frz.map (fun i=>(i,.dead)),fz:=(kD st (pQ o.op)).map fun x=>(x.1,ln (rJ hn.lo x.1) (frz st.box hn.frz x.2)) }) T b:=by
  intro b hb
  refine ⟨hb.1,fun id bx cap hl hTi=>?_⟩
  rw [hbox] at hl
  by_cases hi:id∈hn.frz
  ·rw [if_pos hi] at hl;cases hl
  ·rw [if_neg hi] at hl;exact hb.2 id bx cap hl hTi
 have hid:∀ id b cap,id∈hn.frz→T id=some (.at b cap)→imm G (st2.upd { rs:=kD st (pQ o.op),rb:=hn.frz.map (fun i=>(i,st.box i)),wb:=hn.frz.map (fun i=>(i,.dead)),fz:=(kD st (pQ o.op)).map fun x=>(x.1,ln (rJ hn.lo x.1) (frz st.box hn.frz x.2)) }) T b:=by
  intro id b cap hi hTi
  have hlive:∃ bx,st2.box id=.live bx:=by
   have:=(hc.1 id hi).1
   rw [hbx id hi]
   cases hb:st.box id<;>rw [hb] at this<;>simp [g7] at this
   exact ⟨_,rfl⟩
  obtain ⟨bx,hl⟩:=hlive
  refine ⟨.inr (hT.mine id bx b cap hl hTi (by have:=DJ (hc.1 id hi).2;omega)),fun id' bx' cap' hl' hT'=>?_⟩
  rw [hbox] at hl'
  by_cases hi':id'∈hn.frz
  ·rw [if_pos hi'] at hl';cases hl'
  ·rw [if_neg hi'] at hl'
   have:=hT.apart id id' bx bx' b cap cap' hl hl' hTi hT'
   exact hi' (this ▸ hi)
 refine ⟨T,hT.defers,hT.size,?_,?_,?_,?_,?_,hT.foot,hT.kept⟩
 ·intro t
  simp only [AS.upd,aQ]
  rcases zCT (l:=(kD st (pQ o.op)).map fun x=>(x.1,ln (rJ hn.lo x.1) (frz st.box hn.frz x.2))) (t:=t) (d:=st2.slot t) with h | ⟨v,h1,h2⟩
  ·rw [h]
   exact (hT.slots t).mono (Nat.le_refl _) (fun _ _ _=>rfl) (fun b hb _=>himm b hb) (fun _ _ h=>h)
  ·rw [h2]
   simp only [List.mem_map,Prod.mk.injEq] at h1
   obtain ⟨x,hx,rfl,rfl⟩:=h1
   have hsl:=hs2 x hx
   have hrep:=hT.slots x.1
   rw [hsl] at hrep
   exact zAt (LJ hT hbx himm hid hrep (fun p hp=>hv p (List.mem_flatMap.2 ⟨x,hx,hp⟩)) (hc.2 x hx).1)
 ·intro id bx hl
  rw [hbox] at hl
  by_cases hi:id∈hn.frz
  ·rw [if_pos hi] at hl;cases hl
  ·rw [if_neg hi] at hl
   exact (hT.boxes id bx hl).mono (Nat.le_refl _) (fun _ _ _=>rfl) (fun b hb _=>himm b hb) (fun _ _ h=>h) (fun _ _ _ _=>rfl)
 ·intro id hl
  rw [hbox] at hl
  by_cases hi:id∈hn.frz
  ·rw [if_pos hi] at hl;cases hl
  ·rw [if_neg hi] at hl;exact hT.unused id hl
 ·intro i1 i2 b1 b2 b c1 c2 h1 h2
  rw [hbox] at h1 h2
  by_cases k1:i1∈hn.frz
  ·rw [if_pos k1] at h1;cases h1
  ·by_cases k2:i2∈hn.frz
   ·rw [if_pos k2] at h2;cases h2
   ·rw [if_neg k1] at h1;rw [if_neg k2] at h2
    exact hT.apart i1 i2 b1 b2 b c1 c2 h1 h2
 ·intro id bx b cap hl
  rw [hbox] at hl
  by_cases hi:id∈hn.frz
  ·rw [if_pos hi] at hl;cases hl
  ·rw [if_neg hi] at hl;exact hT.mine id bx b cap hl
def H2 (P:Program) (N np:Nat) (o:Oper) (h:xN) (st:AS):Option (List Prop×List Eff) :=
 bif kZ h.frz&&kZ h.lo then
  match CL P N np o h st with
  | some (vc,E)=>some (vc,[E])
  | none=>none
 else
  match LQ N np o h st with
  | some (vc0,E0) =>
   match CL P N np o h (st.upd E0) with
   | some (vc,E)=>some (vc0++vc,[E0,E])
   | none=>none
  | none=>none
def JV (P:Program) (N np:Nat) (ops:Array Oper) (o:Oper) (h:xN) (st:AS):Option (List Prop×List Eff) :=
 match o.guard with
 | none=>H2 P N np o h st
 | some (j,want) =>
  match (ops[j]?).bind (·.dst) with
  | none=>none
  | some d =>
   match st.slot d with
   | .bool b =>
    bif h.g then
     match H2 P N np o h st with
     | some (vc,es)=>some ((b=want)::vc,{ rs:=[(d,.bool b)] }::es)
     | none=>none
    else bif uH N o.dst then some ([b=!want],[{ rs:=[(d,.bool b)],dst:=o.dst.map fun d=>(d,.tuple []) }]) else none
   | .tuple []=>bif uH N o.dst then some ([],[{ rs:=[(d,.tuple [])],dst:=o.dst.map fun d=>(d,.tuple []) }]) else none
   | _=>none
theorem _root_.Go.Oper.wp_mono2 {P:Program} {o:Oper} {a:Act} {w:World} {K K':Act→World→Prop} {Q:Exit→Act→World→Prop} (h:∀ a w,K a w→K' a w)
  (hh:o.wp P a w K (fun _ _ _=>False)):o.wp P a w K' Q:=by
 unfold Oper.wp at *
 generalize (execOp a.eval o).run P w=r at *
 cases r with
 | ok n w' =>
  cases n<;>simp only [Oper.upon] at hh ⊢ <;>
   first
    | exact h _ _ hh
    | exact Calls.mono hh (fun e w'' he=>by cases e<;>first | exact h _ _ he | exact he.elim | (obtain ⟨_,_,he⟩:=he;exact he.elim))
    | exact Rows.mono hh (fun _ _ he=>h _ _ he)
 | halt x w'=>cases x<;>simp only [Oper.upon] at hh ⊢
theorem TC {P:Program} {N np:Nat} {o:Oper} {st:AS} {hn:xN} {r:List Prop×List Eff} (h:H2 P N np o hn st=some r) (hv:∀ p∈r.1,p) :
  nL st r.2∧∀ G st2 a w,G.n=N→G.foot.length=np→nL st2 r.2→Rel G st2 a w→o.wp P a w (fun a' w'=>Rel G (v6 st2 r.2) a' w') (fun _ _ _=>False):=by
 unfold H2 at h
 cases hf:kZ hn.frz&&kZ hn.lo
 ·rw [hf] at h
  simp only [cond_false] at h
  split at h
  ·rename_i vc0 E0 hE0
   split at h
   ·rename_i vc E hE
    injection h with h;subst h
    obtain ⟨k1,k2⟩:=zAE hE0 (fun p hp=>hv p (by simp [hp]))
    obtain ⟨k3,k4⟩:=TI hE (fun p hp=>hv p (by simp [hp]))
    refine ⟨⟨k1,k3,trivial⟩,fun G st2 a w hN hnp hh hRR=>?_⟩
    obtain ⟨hh1,hh2,_⟩:=hh
    exact k4 G _ a w hN hnp hh2 (k2 G st2 hnp hh1 a w hRR)
   ·cases h
  ·cases h
 ·rw [hf] at h
  simp only [cond_true] at h
  split at h
  ·rename_i vc E hE
   injection h with h;subst h
   obtain ⟨k3,k4⟩:=TI hE hv
   exact ⟨⟨k3,trivial⟩,fun G st2 a w hN hnp hh hRR=>k4 G st2 a w hN hnp hh.1 hRR⟩
  ·cases h
theorem RY {G:uB} {st:AS} {a:Act} {w:World} {ops:Array Oper} {j d:Nat} {b:Bool} (hR:Rel G st a w) (hd:(ops[j]?).bind (·.dst)=some d) (hs:st.slot d=.bool b) :
  yielded ops a.tmps j=some b:=by
 obtain ⟨T,hT⟩:=hR
 have hr:=hT.slots d
 rw [hs] at hr
 generalize hv:a.tmps.getD d undef=v at hr
 cases hr with
 | bool =>
 have:a.tmps[d]?=some (.bool b):=by
  rw [Array.getD_eq_getD_getElem?] at hv
  cases hd:a.tmps[d]? with
  | none=>rw [hd] at hv;simp [undef] at hv
  | some x=>rw [hd] at hv;simp at hv;rw [hv]
 simp [yielded,hd,this]
theorem zCf {G:uB} {st:AS} {a:Act} {w:World} {ops:Array Oper} {j d:Nat} (hR:Rel G st a w) (hd:(ops[j]?).bind (·.dst)=some d) (hs:st.slot d=.tuple []) :
  yielded ops a.tmps j=none:=by
 obtain ⟨T,hT⟩:=hR
 have hr:=hT.slots d
 rw [hs] at hr
 generalize hv:a.tmps.getD d undef=v at hr
 cases hr with
 | tuple h1 h2 =>
 rw [Array.getD_eq_getD_getElem?] at hv
 cases hd':a.tmps[d]? with
 | none=>simp [yielded,hd,hd']
 | some x=>rw [hd'] at hv;simp at hv;subst hv;simp [yielded,hd,hd']
theorem RE {w:World} {I:Nat→Prop} {T:Tbl}:Rep w I T undef (.tuple []):=by
 refine .tuple (by rfl) ?_
 intro j c h;simp at h
theorem zC7 {P:Program} {N np:Nat} {ops:Array Oper} {o:Oper} {st:AS} {hn:xN} {r:List Prop×List Eff} (h:JV P N np ops o hn st=some r) (hv:∀ p∈r.1,p) :
  nL st r.2∧JD P N np ops o r.2:=by
 unfold JV at h
 split at h
 ·rename_i hg
  obtain ⟨k1,k2⟩:=TC h hv
  refine ⟨k1,fun G st2 a w hN hnp hh hRR=>?_⟩
  rw [if_pos (by simp [Region.wanted,hg])]
  exact k2 G st2 a w hN hnp hh hRR
 ·rename_i j want hg
  split at h
  ·cases h
  rename_i d hd
  split at h
  ·rename_i b hb
   cases hgg:hn.g
   ·rw [hgg] at h
    simp only [cond_false] at h
    replace h:=xK h;obtain ⟨hdst,h⟩:=h
    injection h with h;subst h
    have hbw:b=!want:=hv _ (by simp)
    refine ⟨⟨⟨fun x hx=>by simp at hx;subst hx;exact hb,fun x hx=>by simp at hx⟩,trivial⟩,fun G st2 a w hN hnp hh hRR=>?_⟩
    have hs2:st2.slot d=.bool b:=hh.1.1 (d,.bool b) (by simp)
    have hy:=RY hRR hd hs2
    rw [if_neg (by simp [Region.wanted,hg,hy,hbw])]
    obtain ⟨T,hT⟩:=hRR
    refine hT.quiet (jQ w) rfl (by simp [Option.map_map,Function.comp_def]) ?_
    intro d' av he
    obtain ⟨hlt,rfl⟩:=uE hdst he
    exact ⟨by omega,RE⟩
   ·rw [hgg] at h
    simp only [cond_true] at h
    split at h
    ·rename_i vc es hc
     injection h with h;subst h
     have hbw:b=want:=hv _ (by simp)
     obtain ⟨k1,k2⟩:=TC hc (fun p hp=>hv p (by simp [hp]))
     refine ⟨⟨⟨fun x hx=>by simp at hx;subst hx;exact hb,fun x hx=>by simp at hx⟩,k1⟩,fun G st2 a w hN hnp hh hRR=>?_⟩
     have hs2:st2.slot d=.bool b:=hh.1.1 (d,.bool b) (by simp)
     have hy:=RY hRR hd hs2
     rw [if_pos (by simp [Region.wanted,hg,hy,hbw])]
     exact k2 G st2 a w hN hnp hh.2 hRR
    ·cases h
  ·rename_i hb
   replace h:=xK h;obtain ⟨hdst,h⟩:=h
   injection h with h;subst h
   refine ⟨⟨⟨fun x hx=>by simp at hx;subst hx;exact hb,fun x hx=>by simp at hx⟩,trivial⟩,fun G st2 a w hN hnp hh hRR=>?_⟩
   have hs2:st2.slot d=.tuple []:=hh.1.1 (d,.tuple []) (by simp)
   have hy:=zCf hRR hd hs2
   rw [if_neg (by simp [Region.wanted,hg,hy])]
   obtain ⟨T,hT⟩:=hRR
   refine hT.quiet (jQ w) rfl (by simp [Option.map_map,Function.comp_def]) ?_
   intro d' av he
   obtain ⟨hlt,rfl⟩:=uE hdst he
   exact ⟨by omega,RE⟩
  ·cases h
def OE:List (Nat×xN)→Nat→xN
 | [],_=>{}
 | (k,h)::r,i=>bif Nat.beq i k then h else OE r i
def CK (P:Program) (N np:Nat) (all:Array Oper) (hs:List (Nat×xN)):List Oper→Nat→AS→Option (List Prop×AS×List (List Eff))
 | [],_,st=>some ([],st,[])
 | o::r,i,st =>
  match JV P N np all o (OE hs i) st with
  | none=>none
  | some (vc,es) =>
   match CK P N np all hs r (i+1) (v6 st es) with
   | none=>none
   | some (vcs,st',ess)=>some (vc++vcs,st',es::ess)
def bV:List (List Eff)→AS→AS→Prop
 | [],st,st'=>st=st'
 | es::r,st,st'=>nL st es∧bV r (v6 st es) st'
theorem zCb {P:Program} {N np:Nat} {all:Array Oper} {hs:List (Nat×xN)}:∀ (l:List Oper) (i:Nat) (st:AS) (r:List Prop×AS×List (List Eff)),
  CK P N np all hs l i st=some r→(∀ p∈r.1,p)→bV r.2.2 st r.2.1∧r.2.2.length=l.length∧∀ (j:Nat) (o:Oper) (es:List Eff),l[j]?=some o→r.2.2[j]?=some es→JD P N np all o es:=by
 intro l
 induction l with
 | nil=>intro i st r h _;simp [CK] at h;subst h;exact ⟨rfl,rfl,fun j o es hj=>by simp at hj⟩
 | cons o rest ih =>
  intro i st r h hv
  simp only [CK] at h
  split at h
  ·cases h
  rename_i vc es hs1
  split at h
  ·cases h
  rename_i vcs st' ess hs2
  injection h with h;subst h
  obtain ⟨k1,k2⟩:=zC7 hs1 (fun p hp=>hv p (by simp [hp]))
  obtain ⟨k3,k4,k5⟩:=ih _ _ _ hs2 (fun p hp=>hv p (by simp [hp]))
  refine ⟨⟨k1,k3⟩,by simpa using k4,?_⟩
  intro j o' es' hj hj'
  cases j with
  | zero=>simp at hj hj';subst hj;subst hj';exact k2
  | succ j=>exact k5 j o' es' (by simpa using hj) (by simpa using hj')
theorem zCW {P:Program} {N np:Nat} {all:Array Oper} {G:uB} {Q:Exit→Act→World→Prop} (hN:G.n=N) (hnp:G.foot.length=np):∀ (l:List Oper) (ess:List (List Eff)) (st st':AS) (a:Act) (w:World),
  bV ess st st'→ess.length=l.length→(∀ (j:Nat) (o:Oper) (es:List Eff),l[j]?=some o→ess[j]?=some es→JD P N np all o es)→Rel G st a w →
  (∀ a w,Rel G st' a w→Q .normal a w)→wpList P all Q l a w:=by
 intro l
 induction l with
 | nil =>
  intro ess st st' a w hc hl _ hR hQ
  cases ess with
  | nil=>simp only [bV] at hc;subst hc;exact hQ a w hR
  | cons _ _=>simp at hl
 | cons o rest ih =>
  intro ess st st' a w hc hl hloc hR hQ
  cases ess with
  | nil=>simp at hl
  | cons es r =>
   obtain ⟨hh,hc⟩:=hc
   have hL:=hloc 0 o es (by simp) (by simp) G st a w hN hnp hh hR
   refine wpList_step fun K hK=>?_
   have hnext:∀ a w,Rel G (v6 st es) a w→K a w:=fun a w hR2=>hK a w (ih r (v6 st es) st' a w hc (by simpa using hl) (fun j o' es' hj hj'=>hloc (j+1) o' es' (by simpa using hj) (by simpa using hj')) hR2 hQ)
   split
   ·rename_i hw
    rw [if_pos hw] at hL
    exact Oper.wp_mono2 hnext hL
   ·rename_i hw
    rw [if_neg hw] at hL
    exact hnext _ _ hL
end Go.Ab
