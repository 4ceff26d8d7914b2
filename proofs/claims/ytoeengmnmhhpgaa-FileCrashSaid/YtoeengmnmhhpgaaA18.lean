/- A layer over the model: abstract values and states, and the rules by which the printed proofs go. No conditions. -/
import Derived.Test.YtoeengmnmhhpgaaA17
/- One operation as a summary; a region as a row of summaries. -/
namespace Go.Ab
open Go
def pN:Op→List Operand
 | .move x | .assign x | .box _ x | .load _ x | .nilCheck x | .unOp _ _ x | .convert _ _ x | .fieldAddr _ x _ | .field _ x _ | .extract x _=>[x]
 | .pick c a b=>[c,a,b]
 | .build _ ps | .buildSlice _ _ ps=>ps.toList.map (·.2)
 | .mapUpdate _ m k v=>[m,k,v]
 | .lookup _ a v _ | .store _ a v | .binOp _ _ a v _ | .makeSlice _ a v | .indexAddr _ a v | .index _ a v=>[a,v]
 | .makeFunc _ first captured=>first.toList++captured.toList
 | .slice _ x l h m=>x::(l.toList++(h.toList++m.toList))
 | .call { callee:=.value f,args:=args,.. }=>f::args.toList
 | .call { callee:=.builtin _,args:=args,.. }=>args.toList
 | _=>[]
theorem SF (st:AS) (xs:List Operand):∀ x∈j4 st xs,st.slot x.1=x.2:=by
 induction xs with
 | nil=>intro x hx;cases hx
 | cons a r ih =>
  intro x hx
  cases a with
  | tmp t =>
   simp only [j4,List.mem_cons] at hx
   rcases hx with rfl | hx
   ·rfl
   ·exact ih x hx
  | _=>exact ih x hx
def bop (P:Program) (np:Nat) (o:Oper) (rs:List (Nat×AV)) (B:Nat→yA) (h:xN):Option (List Prop×Eff) :=
 match o.op with
 | .alloc t =>
  bif pQ (B h.id) then
   match EU P t h with
   | some (bx,_)=>some ([],{ rs:=rs,rb:=[(h.id,.unused)],dst:=o.dst.map fun d=>(d,.ptr h.id 0 0 0),wb:=[(h.id,.live bx)] })
   | none=>none
  else none
 | .box t x =>
  bif pQ (B h.id)&&(xB x&&pZ (xA rs x)) then
   match NB P t (xA rs x).cells h with
   | some (bx,_)=>some ([],{ rs:=rs,rb:=[(h.id,.unused)],dst:=o.dst.map fun d=>(d,.ptr h.id 0 0 0),wb:=[(h.id,.live bx)] })
   | none=>none
  else none
 | .load t x =>
  bif xB x then
   match MG P t (xA rs x) B h with
   | some (vc,id,av)=>some (vc,{ rs:=rs,rb:=[(id,B id)],dst:=o.dst.map fun d=>(d,av) })
   | none=>none
  else none
 | .store t x y =>
  bif (xB x&&xB y)&&o.dst.isNone then
   match KR P t (xA rs x) (xA rs y) B h with
   | some (vc,id,bx)=>some (vc,{ rs:=rs,rb:=[(id,B id)],wb:=[(id,.live bx)] })
   | none=>none
  else none
 | .makeSlice t x y =>
  bif pQ (B h.id)&&(xB x&&xB y) then
   match NN P t (xA rs x) (xA rs y) h with
   | some (vc,bx,av)=>some (vc,{ rs:=rs,rb:=[(h.id,.unused)],dst:=o.dst.map fun d=>(d,av),wb:=[(h.id,.live bx)] })
   | none=>none
  else none
 | .buildSlice t len parts =>
  bif pQ (B h.id)&&parts.toList.all (fun p=>xB p.2) then
   match M7 P t len (xA rs) parts.toList h with
   | some (bx,av)=>some ([],{ rs:=rs,rb:=[(h.id,.unused)],dst:=o.dst.map fun d=>(d,av),wb:=[(h.id,.live bx)] })
   | none=>none
  else none
 | .slice t x lo hi mx =>
  bif xB x&&(lX lo&&lX hi) then
   match KT P t (xA rs) x lo hi mx B with
   | some (vc,id,av)=>some (vc,{ rs:=rs,rb:=[(id,B id)],dst:=o.dst.map fun d=>(d,av) })
   | none=>none
  else none
 | .convert s d x =>
  bif xB x&&E9 (xA rs x) then
   match LJ P s d (xA rs x) B h with
   | some (vc,ids,av)=>some (vc,{ rs:=rs,rb:=ids.map (fun i=>(i,B i)),dst:=o.dst.map fun d=>(d,av) })
   | none =>
    match LK P s d (xA rs x) B np with
    | some (vc,id,av)=>some (vc,{ rs:=rs,rb:=[(id,B id)],dst:=o.dst.map fun d=>(d,av),wb:=[(id,.dead)] })
    | none=>none
  else none
 | .call { callee:=.builtin b,args:=args,argTypes:=ts } =>
  match b,args.toList,ts.toList with
  | .append,[x,y],[t,t2] =>
   bif xB x&&xB y then
    match N7 P t t2 (xA rs x) (nz (xA rs y)) B h with
    | some (vc,ids,id,bx,av) =>
     bif pQ (B h.id)&&Nat.ble np id then
      some (vc,{ rs:=rs,rb:=(h.id,.unused)::(id,B id)::ids.map (fun i=>(i,B i)),dst:=o.dst.map fun d=>(d,av),wb:=[(h.id,.live bx),(id,.dead)] })
     else none
    | none =>
     match KP P t t2 (nz (xA rs x)) (nz (xA rs y)) B h with
     | some (vc,ids,av)=>some (vc,{ rs:=rs,rb:=ids.map (fun i=>(i,B i)),dst:=o.dst.map fun d=>(d,av) })
     | none=>none
   else none
  | .len,[x],[t] =>
   bif xB x then
    match ND P t (xA rs x) B h with
    | some (vc,id,av)=>some (vc,{ rs:=rs,rb:=[(id,B id)],dst:=o.dst.map fun d=>(d,av) })
    | none=>none
   else none
  | .copy,[x,y],[t,_] =>
   bif xB x&&xB y then
    match LR P t (xA rs x) (nz (xA rs y)) B h with
    | some (vc,ids,id,bx,av)=>some (vc,{ rs:=rs,rb:=(id,B id)::ids.map (fun i=>(i,B i)),dst:=o.dst.map fun d=>(d,av),wb:=[(id,.live bx)] })
    | none=>none
   else none
  | _,_,_=>none
 | .binOp op t x y _ =>
  bif xB x&&xB y then
   match JS P op t (xA rs x) (xA rs y) h with
   | some (vc,av)=>some (vc,{ rs:=rs,dst:=o.dst.map fun d=>(d,av) })
   | none=>none
  else none
 | .makeMap _ none=>bif pQ (B h.id) then some ([],{ rs:=rs,rb:=[(h.id,.unused)],dst:=o.dst.map fun d=>(d,.mp h.id),wb:=[(h.id,.live (.map h.mag h.mks []))] }) else none
 | .lookup t x y ok =>
  bif xB x&&xB y then
   match LW P t (xA rs x) (xA rs y) ok B h with
   | some (vc,id,av)=>some (vc,{ rs:=rs,rb:=[(id,B id)],dst:=o.dst.map fun d=>(d,av) })
   | none =>
    match M2 P t (xA rs x) (xA rs y) ok h with
    | some (vc,av)=>some (vc,{ rs:=rs,dst:=o.dst.map fun d=>(d,av) })
    | none=>none
  else none
 | .mapUpdate t x y z =>
  bif (xB x&&(xB y&&xB z))&&o.dst.isNone then
   match J5 P t (xA rs x) (xA rs y) (xA rs z) B h with
   | some (vc,id,bx)=>some (vc,{ rs:=rs,rb:=[(id,B id)],wb:=[(id,.live bx)] })
   | none=>none
  else none
 | .call { callee:=.value f,args:=args,argTypes:=_ } =>
  bif xB f&&args.toList.all xB then
   match L4 P np (xA rs) f args.toList B h with
   | some (vc,wb,av)=>some (vc,{ rs:=rs,rb:=(h.ids++h.gids++h.lend).map (fun i=>(i,B i)),dst:=o.dst.map fun d=>(d,av),wb:=wb })
   | none=>none
  else none
 | _=>none
def UF (P:Program) (o:Oper) (rs:List (Nat×AV)) (B:Nat→yA) (h:xN):Option (List Prop×Eff) :=
 match o.op,N0 P o.type with
 | .assign x,some e=>bif G5 x&&pQ (B h.id) then some ([],{ rs:=rs,rb:=[(h.id,.unused)],dst:=o.dst.map fun d=>(d,.own h.id 0),wb:=[(h.id,.live (.row e (szT P e) []))] }) else none
 | .move x,some e=>bif G5 x&&pQ (B h.id) then some ([],{ rs:=rs,rb:=[(h.id,.unused)],dst:=o.dst.map fun d=>(d,.own h.id 0),wb:=[(h.id,.live (.row e (szT P e) []))] }) else none
 | _,_=>none
def RT (P:Program) (o:Oper) (rs:List (Nat×AV)) (B:Nat→yA) (h:xN):Option (List Prop×Eff) :=
 match o.op with
 | .call { callee:=.builtin .append,args:=args,argTypes:=ts } =>
  match args.toList,ts.toList with
  | [x,y],[t,t2] =>
   bif (xB x&&xB y)&&pQ (B h.id) then
    match JW P t t2 (nz (xA rs x)) (nz (xA rs y)) B h with
    | some (vc,ids,bx,av)=>some (vc,{ rs:=rs,rb:=(h.id,.unused)::ids.map (fun i=>(i,B i)),dst:=o.dst.map fun d=>(d,av),wb:=[(h.id,.live bx)] })
    | none=>none
   else none
  | _,_=>none
 | _=>none
def D2 (P:Program) (N np:Nat) (o:Oper) (h:xN) (st:AS):Option (List Prop×Eff) :=
 bif uD N o.dst then
  bif h.x then xop P o (j4 st (pN o.op)) st.box h else
  bif h.dep then RT P o (j4 st (pN o.op)) st.box h else
  bif isNilOp o&&Nat.beq h.m 1 then UF P o (j4 st (pN o.op)) st.box h
  else
   match vop P o (xA (j4 st (pN o.op))) h with
   | some (vc,av)=>some (vc,{ rs:=j4 st (pN o.op),dst:=o.dst.map fun d=>(d,av) })
   | none=>bop P np o (j4 st (pN o.op)) st.box h
 else none
where isNilOp (o:Oper):Bool:=match o.op with | .assign _=>true | .move _=>true | _=>false
theorem AN {a b:Nat} (h:Nat.ble a b=true):a≤b:=zle h
theorem zEa {P:Program} {N np:Nat} {o:Oper} {rs:List (Nat×AV)} {st:AS} {hn:xN} {r:List Prop×Eff} (h:bop P np o rs st.box hn=some r) (hr:∀ x∈rs,st.slot x.1=x.2)
  (hv:∀ p∈r.1,p) (hd:uD N o.dst=true):r.2.holds st∧uO P N np o r.2:=by
 unfold bop at h
 split at h
 ·rename_i t ho
  replace h:=xJ h;obtain ⟨hu,h⟩:=h
  split at h
  ·rename_i bx cap hb
   injection h with h;subst h
   exact ⟨⟨hr,fun x hx=>by simp at hx;subst hx;exact nQ hu⟩,Z7 ho hb hd⟩
  ·cases h
 ·rename_i t x ho
  replace h:=xJ h;obtain ⟨hu,h⟩:=h
  simp only [zba] at hu
  split at h
  ·rename_i bx cap hb
   injection h with h;subst h
   exact ⟨⟨hr,fun x hx=>by simp at hx;subst hx;exact nQ hu.1⟩,zBd ho hu.2.1 hu.2.2 hb hd⟩
  ·cases h
 ·rename_i t x ho
  replace h:=xJ h;obtain ⟨hu,h⟩:=h
  split at h
  ·rename_i vc id av hb
   injection h with h;subst h
   exact ⟨⟨hr,fun x hx=>by simp at hx;subst hx;rfl⟩,YJ ho hu hb hv hd⟩
  ·cases h
 ·rename_i t x y ho
  replace h:=xJ h;obtain ⟨hu,h⟩:=h
  simp only [zba,Option.isNone_iff_eq_none] at hu
  split at h
  ·rename_i vc id bx hb
   injection h with h;subst h
   exact ⟨⟨hr,fun x hx=>by simp at hx;subst hx;rfl⟩,zDH ho hu.1.1 hu.1.2 hb hv hu.2⟩
  ·cases h
 ·rename_i t x y ho
  replace h:=xJ h;obtain ⟨hu,h⟩:=h
  simp only [zba] at hu
  split at h
  ·rename_i vc bx av hb
   injection h with h;subst h
   exact ⟨⟨hr,fun x hx=>by simp at hx;subst hx;exact nQ hu.1⟩,zDX ho hu.2.1 hu.2.2 hb hv hd⟩
  ·cases h
 ·rename_i t len parts ho
  replace h:=xJ h;obtain ⟨hu,h⟩:=h
  simp only [zba,List.all_eq_true] at hu
  split at h
  ·rename_i bx av hb
   injection h with h;subst h
   exact ⟨⟨hr,fun x hx=>by simp at hx;subst hx;exact nQ hu.1⟩,WV ho hu.2 hb hd⟩
  ·cases h
 ·rename_i t x lo hi mx ho
  replace h:=xJ h;obtain ⟨hu,h⟩:=h
  simp only [zba] at hu
  split at h
  ·rename_i vc id av hb
   injection h with h;subst h
   exact ⟨⟨hr,fun x hx=>by simp at hx;subst hx;rfl⟩,zA6 ho hu.1 hu.2.1 hu.2.2 hb hv hd⟩
  ·cases h
 ·rename_i s d x ho
  replace h:=xJ h;obtain ⟨hu,h⟩:=h
  simp only [zba] at hu
  split at h
  ·rename_i vc ids av hb
   injection h with h;subst h
   exact ⟨⟨hr,fun x hx=>by simp only [List.mem_map] at hx;obtain ⟨i,_,rfl⟩:=hx;rfl⟩,VX ho hu.1 hu.2 hb hv hd⟩
  ·split at h
   ·rename_i vc id av hb
    injection h with h;subst h
    exact ⟨⟨hr,fun x hx=>by simp at hx;subst hx;rfl⟩,zCL ho hu.1 hb hv hd⟩
   ·cases h
 ·rename_i b args ts ho
  split at h
  ·rename_i x y t t2 ha ht
   rw [nN ha,nN ht] at ho
   replace h:=xJ h;obtain ⟨hu,h⟩:=h
   simp only [zba] at hu
   split at h
   ·rename_i vc ids id bx av hb
    replace h:=xJ h;obtain ⟨hu2,h⟩:=h
    simp only [zba] at hu2
    injection h with h;subst h
    refine ⟨⟨hr,fun x hx=>?_⟩,zDq ho hu.1 hu.2 hb hv hd (AN hu2.2)⟩
    simp only [List.mem_cons,List.mem_map] at hx
    rcases hx with rfl | rfl | ⟨i,_,rfl⟩
    ·exact nQ hu2.1
    ·rfl
    ·rfl
   ·split at h
    ·rename_i vc ids av hb
     injection h with h;subst h
     exact ⟨⟨hr,fun x hx=>by simp only [List.mem_map] at hx;obtain ⟨i,_,rfl⟩:=hx;rfl⟩,zEG ho hu.1 hu.2 hb hv hd⟩
    ·cases h
  ·rename_i x t ha ht
   rw [rK ha,rK ht] at ho
   replace h:=xJ h;obtain ⟨hu,h⟩:=h
   split at h
   ·rename_i vc id av hb
    injection h with h;subst h
    exact ⟨⟨hr,fun x hx=>by simp at hx;subst hx;rfl⟩,WE ho hu hb hv hd⟩
   ·cases h
  ·rename_i x y t t2 ha ht
   rw [nN ha,nN ht] at ho
   replace h:=xJ h;obtain ⟨hu,h⟩:=h
   simp only [zba] at hu
   split at h
   ·rename_i vc ids id bx av hb
    injection h with h;subst h
    refine ⟨⟨hr,fun x hx=>?_⟩,XN ho hu.1 hu.2 hb hv hd⟩
    simp only [List.mem_cons,List.mem_map] at hx
    rcases hx with rfl | ⟨i,_,rfl⟩
    ·rfl
    ·rfl
   ·cases h
  ·cases h
 ·rename_i op t x y yT ho
  replace h:=xJ h;obtain ⟨hu,h⟩:=h
  simp only [zba] at hu
  split at h
  ·rename_i vc av hb
   injection h with h;subst h
   exact ⟨⟨hr,fun x hx=>by simp at hx⟩,zCQ ho hu.1 hu.2 hb hv hd⟩
  ·cases h
 ·rename_i t ho
  replace h:=xJ h;obtain ⟨hu,h⟩:=h
  injection h with h;subst h
  exact ⟨⟨hr,fun x hx=>by simp at hx;subst hx;exact nQ hu⟩,zCj ho hd⟩
 ·rename_i t x y ok ho
  replace h:=xJ h;obtain ⟨hu,h⟩:=h
  simp only [zba] at hu
  split at h
  ·rename_i vc id av hb
   injection h with h;subst h
   exact ⟨⟨hr,fun x hx=>by simp at hx;subst hx;rfl⟩,YA ho hu.1 hu.2 hb hv hd⟩
  ·split at h
   ·rename_i vc av hb
    injection h with h;subst h
    exact ⟨⟨hr,fun x hx=>by simp at hx⟩,zA0 ho hu.1 hu.2 hb hv hd⟩
   ·cases h
 ·rename_i t x y z ho
  replace h:=xJ h;obtain ⟨hu,h⟩:=h
  simp only [zba,Option.isNone_iff_eq_none] at hu
  split at h
  ·rename_i vc id bx hb
   injection h with h;subst h
   exact ⟨⟨hr,fun x hx=>by simp at hx;subst hx;rfl⟩,ZY ho hu.1.1 hu.1.2.1 hu.1.2.2 hb hv hu.2⟩
  ·cases h
 ·rename_i f args ts ho
  replace h:=xJ h;obtain ⟨hu,h⟩:=h
  simp only [zba,List.all_eq_true] at hu
  split at h
  ·rename_i vc wb av hb
   injection h with h;subst h
   exact ⟨⟨hr,fun x hx=>by simp only [List.mem_map] at hx;obtain ⟨i,_,rfl⟩:=hx;rfl⟩,zBf ho hu.1 hu.2 hb hv hd⟩
  ·cases h
 ·cases h
theorem T6 {P:Program} {N np:Nat} {o:Oper} {st:AS} {hn:xN} {r:List Prop×Eff} (h:D2 P N np o hn st=some r) (hv:∀ p∈r.1,p):r.2.holds st∧uO P N np o r.2:=by
 unfold D2 at h
 replace h:=xJ h;obtain ⟨hd,h⟩:=h
 have hr:=SF st (pN o.op)
 cases hxx:hn.x
 case true=>rw [hxx] at h;simp only [cond_true] at h;exact zDV h hr hv hd
 rw [hxx] at h
 simp only [cond_false] at h
 cases hdep:hn.dep
 case true =>
  rw [hdep] at h
  simp only [cond_true] at h
  unfold RT at h
  split at h
  case h_2=>cases h
  rename_i args ts ho
  split at h
  case h_2=>cases h
  rename_i x y t t2 ha ht
  rw [nN ha,nN ht] at ho
  replace h:=xJ h;obtain ⟨hc,h⟩:=h
  simp only [zba] at hc
  split at h
  case h_2=>cases h
  rename_i vc ids bx av hb
  injection h with h;subst h
  refine ⟨⟨hr,fun z hz=>?_⟩,YV ho hc.1.1 hc.1.2 hb hv hd⟩
  simp only [List.mem_cons,List.mem_map] at hz
  rcases hz with rfl | ⟨i,_,rfl⟩
  ·exact nQ hc.2
  ·rfl
 rw [hdep] at h
 simp only [cond_false] at h
 cases hm:(D2.isNilOp o&&Nat.beq hn.m 1)
 ·rw [hm] at h
  simp only [cond_false] at h
  split at h
  ·rename_i vc av hvop
   injection h with h;subst h
   exact ⟨⟨hr,fun x hx=>by simp at hx⟩,XF hvop hv hd⟩
  ·exact zEa h hr hv hd
 ·rw [hm] at h
  simp only [cond_true] at h
  unfold UF at h
  split at h
  ·rename_i x e ho he
   replace h:=xJ h;obtain ⟨hu,h⟩:=h
   simp only [zba] at hu
   injection h with h;subst h
   exact ⟨⟨hr,fun x hx=>by simp at hx;subst hx;exact nQ hu.2⟩,SC (.inl ho) hu.1 hd⟩
  ·rename_i x e ho he
   replace h:=xJ h;obtain ⟨hu,h⟩:=h
   simp only [zba] at hu
   injection h with h;subst h
   exact ⟨⟨hr,fun x hx=>by simp at hx;subst hx;exact nQ hu.2⟩,SC (.inr ho) hu.1 hd⟩
  ·cases h
end Go.Ab

/- A region: its operations one behind the other; in whatever order its edges allow. -/
namespace Go.Ab
open Go
def vZ (st:AS):List Eff→AS
 | []=>st
 | E::r=>vZ (st.upd E) r
def nK (st:AS):List Eff→Prop
 | []=>True
 | E::r=>E.holds st∧nK (st.upd E) r
def H9 (P:Program) (N np:Nat) (ops:Array Oper) (o:Oper) (es:List Eff):Prop :=
 ∀ G st a w,G.n=N→G.foot.length=np→nK st es→Rel G st a w →
  if Region.wanted o (yielded ops a.tmps)=true then o.wp P a w (fun a' w'=>Rel G (vZ st es) a' w') (fun _ _ _=>False) else Rel G (vZ st es) (a.put o.dst undef) w
/-! Rows given away ahead of an operation. -/
def iI:yA→Bool
 | .live (.row ..)=>true
 | _=>false
def ln1:Nat→AV→AV
 | k,.nilsl=>.sl false k []
 | _,.sl _ sz l=>.sl false sz l
 | _,v=>v
def lnL:List Nat→List AV→List AV
 | k::ks,c::cs=>ln1 k c::lnL ks cs
 | _,cs=>cs
def ln (ks:List Nat):AV→AV
 | .agg cs=>.agg (lnL ks cs)
 | .nilsl=>ln1 (ks.headD 0) .nilsl
 | .sl f sz l=>bif ks.isEmpty then .sl f sz l else .sl false sz l
 | v=>v
def oV:List (Nat×List Nat)→Nat→List Nat
 | [],_=>[]
 | (k,l)::r,i=>bif Nat.beq i k then l else oV r i
theorem zC4 {k:Nat} {c:AV} (h:c.one=true):(ln1 k c).one=true:=by cases c<;>simp_all [ln1,AV.one]
theorem zDk (ks:List Nat) (cs:List AV):(lnL ks cs).length=cs.length:=by
 induction cs generalizing ks with
 | nil=>cases ks<;>rfl
 | cons c r ih=>cases ks<;>simp [lnL,ih]
theorem Q7 {ks:List Nat} {cs:List AV} {j:Nat} {c:AV} (h:(lnL ks cs)[j]?=some c):∃ c0,cs[j]?=some c0∧(c=c0∨∃ k,c=ln1 k c0):=by
 induction cs generalizing ks j with
 | nil=>cases ks<;>simp [lnL] at h
 | cons x r ih =>
  cases ks with
  | nil=>exact ⟨c,h,.inl rfl⟩
  | cons k ks =>
   cases j with
   | zero=>simp [lnL] at h;exact ⟨x,rfl,.inr ⟨k,h.symm⟩⟩
   | succ j=>simp only [lnL,List.getElem?_cons_succ] at h ⊢;exact ih h
theorem KB {w:World} {I:Nat→Prop} {T:Tbl} {v:Value} {c:AV} {k:Nat} (h:Rep w I T v c):Rep w I T v (ln1 k c):=by
 by_cases hn:c=.nilsl
 ·subst hn
  generalize hc:AV.nilsl=c at h
  cases h<;>cases hc
  exact .sl0 (by decide) (by intro h;cases h)
 ·by_cases hs:∃ f sz l,c=.sl f sz l
  ·obtain ⟨f,sz,l,rfl⟩:=hs
   cases f
   ·exact h
   ·exact ST h
  ·have:ln1 k c=c:=by
    cases c<;>first | rfl | exact absurd rfl hn | exact absurd ⟨_,_,_,rfl⟩ hs
   rw [this];exact h
theorem V4 {w:World} {I:Nat→Prop} {T:Tbl} {v:Value} {c:AV} {ks:List Nat} (h:Rep w I T v c):Rep w I T v (ln ks c):=by
 by_cases ha:∃ cs,c=.agg cs
 ·obtain ⟨cs,rfl⟩:=ha
  cases h with
  | agg h1 h2 h3 =>
  refine .agg (by rw [zDk];exact h1) ?_ ?_
  ·intro c hc
   obtain ⟨j,hj⟩:=List.mem_iff_getElem?.1 hc
   obtain ⟨c0,h0,h⟩:=Q7 hj
   have:=h2 c0 (List.mem_of_getElem? h0)
   rcases h with rfl | ⟨k,rfl⟩
   ·exact this
   ·exact zC4 this
  ·intro j c hj
   obtain ⟨c0,h0,h⟩:=Q7 hj
   have:=h3 j c0 h0
   rcases h with rfl | ⟨k,rfl⟩
   ·exact this
   ·exact KB this
 ·by_cases hn:c=.nilsl
  ·subst hn;exact KB h
  ·by_cases hs:∃ f sz l,c=.sl f sz l
   ·obtain ⟨f,sz,l,rfl⟩:=hs
    simp only [ln]
    cases ks.isEmpty
    ·exact KB (k:=0) h
    ·exact h
   ·have:ln ks c=c:=by
     cases c<;>first | rfl | exact absurd rfl hn | exact absurd ⟨_,rfl⟩ ha | exact absurd ⟨_,_,_,rfl⟩ hs
    rw [this];exact h
def NA (N np:Nat) (o:Oper) (h:xN) (st:AS):Option (List Prop×Eff) :=
 let rs:=j4 st (pN o.op)
 bif (h.frz.all fun i=>iI (st.box i)&&Nat.ble np i)&&(rs.all fun x=>iY (frz st.box h.frz x.2)&&Nat.blt x.1 N) then
  some (rs.flatMap (fun x=>bZ st.box h.frz x.2),{ rs:=rs,rb:=h.frz.map (fun i=>(i,st.box i)),wb:=h.frz.map (fun i=>(i,.dead)),fz:=rs.map fun x=>(x.1,ln (oV h.lo x.1) (frz st.box h.frz x.2)) })
 else none
theorem W9 {l:List (Nat×AV)} {t:Nat} {d:AV}:kV l t d=d∨∃ v,(t,v)∈l∧kV l t d=v:=by
 induction l with
 | nil=>exact .inl rfl
 | cons x r ih =>
  obtain ⟨k,v⟩:=x
  simp only [kV]
  cases hb:Nat.beq t k
  ·rcases ih with h | ⟨v',h1,h2⟩
   ·exact .inl h
   ·exact .inr ⟨v',by simp [h1],h2⟩
  ·have:=x5.1 hb
   subst this
   exact .inr ⟨v,by simp,rfl⟩
theorem X4 {ids:List Nat} {i:Nat} {d:yA}:vG (ids.map fun i=>(i,yA.dead)) i d=if i∈ids then .dead else d:=by
 induction ids with
 | nil=>simp [vG]
 | cons x r ih =>
  simp only [List.map_cons,vG]
  by_cases h:i=x
  ·subst h;simp
  ·rw [q8 h];simp [ih,h]
theorem zCc {st:AS} {N np:Nat} {o:Oper} {hn:xN} {r:List Prop×Eff}
  (h:NA N np o hn st=some r) (hv:∀ p∈r.1,p):r.2.holds st∧∀ G st2,G.foot.length=np→r.2.holds st2→∀ a w,Rel G st2 a w→Rel G (st2.upd r.2) a w:=by
 unfold NA at h
 replace h:=xJ h;obtain ⟨hc,h⟩:=h
 simp only [zba,List.all_eq_true] at hc
 injection h with h;subst h
 simp only at hv
 refine ⟨⟨SF st _,fun x hx=>by simp only [List.mem_map] at hx;obtain ⟨i,_,rfl⟩:=hx;rfl⟩,?_⟩
 rintro G st2 hnp ⟨hs2,hb2⟩ a w ⟨T,hT⟩
 have hbx:∀ i∈hn.frz,st2.box i=st.box i:=fun i hi=>hb2 (i,st.box i) (List.mem_map.2 ⟨i,hi,rfl⟩)
 have hbox:∀ i,(st2.upd { rs:=j4 st (pN o.op),rb:=hn.frz.map (fun i=>(i,st.box i)),wb:=hn.frz.map (fun i=>(i,.dead)),fz:=(j4 st (pN o.op)).map fun x=>(x.1,ln (oV hn.lo x.1) (frz st.box hn.frz x.2)) }).box i =
   if i∈hn.frz then .dead else st2.box i:=fun i=>X4
 have himm:∀ b,imm G st2 T b→imm G (st2.upd { rs:=j4 st (pN o.op),rb:=hn.frz.map (fun i=>(i,st.box i)),wb:=hn.frz.map (fun i=>(i,.dead)),fz:=(j4 st (pN o.op)).map fun x=>(x.1,ln (oV hn.lo x.1) (frz st.box hn.frz x.2)) }) T b:=by
  intro b hb
  refine ⟨hb.1,fun id bx cap hl hTi=>?_⟩
  rw [hbox] at hl
  by_cases hi:id∈hn.frz
  ·rw [if_pos hi] at hl;cases hl
  ·rw [if_neg hi] at hl;exact hb.2 id bx cap hl hTi
 have hid:∀ id b cap,id∈hn.frz→T id=some (.at b cap)→imm G (st2.upd { rs:=j4 st (pN o.op),rb:=hn.frz.map (fun i=>(i,st.box i)),wb:=hn.frz.map (fun i=>(i,.dead)),fz:=(j4 st (pN o.op)).map fun x=>(x.1,ln (oV hn.lo x.1) (frz st.box hn.frz x.2)) }) T b:=by
  intro id b cap hi hTi
  have hlive:∃ bx,st2.box id=.live bx:=by
   have:=(hc.1 id hi).1
   rw [hbx id hi]
   cases hb:st.box id<;>rw [hb] at this<;>simp [iI] at this
   exact ⟨_,rfl⟩
  obtain ⟨bx,hl⟩:=hlive
  refine ⟨.inr (hT.mine id bx b cap hl hTi (by have:=AN (hc.1 id hi).2;omega)),fun id' bx' cap' hl' hT'=>?_⟩
  rw [hbox] at hl'
  by_cases hi':id'∈hn.frz
  ·rw [if_pos hi'] at hl';cases hl'
  ·rw [if_neg hi'] at hl'
   have:=hT.apart id id' bx bx' b cap cap' hl hl' hTi hT'
   exact hi' (this ▸ hi)
 refine ⟨T,hT.defers,hT.size,?_,?_,?_,?_,?_,hT.foot,hT.kept⟩
 ·intro t
  simp only [AS.upd,bB]
  rcases W9 (l:=(j4 st (pN o.op)).map fun x=>(x.1,ln (oV hn.lo x.1) (frz st.box hn.frz x.2))) (t:=t) (d:=st2.slot t) with h | ⟨v,h1,h2⟩
  ·rw [h]
   exact (hT.slots t).mono (Nat.le_refl _) (fun _ _ _=>rfl) (fun b hb _=>himm b hb) (fun _ _ h=>h)
  ·rw [h2]
   simp only [List.mem_map,Prod.mk.injEq] at h1
   obtain ⟨x,hx,rfl,rfl⟩:=h1
   have hsl:=hs2 x hx
   have hrep:=hT.slots x.1
   rw [hsl] at hrep
   exact V4 (NE hT hbx himm hid hrep (fun p hp=>hv p (List.mem_flatMap.2 ⟨x,hx,hp⟩)) (hc.2 x hx).1)
 ·intro id bx hl
  rw [hbox] at hl
  by_cases hi:id∈hn.frz
  ·rw [if_pos hi] at hl;cases hl
  ·rw [if_neg hi] at hl
   exact (hT.boxes id bx hl).mono (Nat.le_refl _) (fun _ _ _=>rfl) (fun b hb _=>himm b hb) (fun _ _ h=>h) (fun _ _ _ _=>rfl)
 ·intro id hl
  rw [hbox] at hl
  by_cases hi:id∈hn.frz
  ·rw [if_pos hi] at hl;cases hl
  ·rw [if_neg hi] at hl;exact hT.unused id hl
 ·intro i1 i2 b1 b2 b c1 c2 h1 h2
  rw [hbox] at h1 h2
  by_cases k1:i1∈hn.frz
  ·rw [if_pos k1] at h1;cases h1
  ·by_cases k2:i2∈hn.frz
   ·rw [if_pos k2] at h2;cases h2
   ·rw [if_neg k1] at h1;rw [if_neg k2] at h2
    exact hT.apart i1 i2 b1 b2 b c1 c2 h1 h2
 ·intro id bx b cap hl
  rw [hbox] at hl
  by_cases hi:id∈hn.frz
  ·rw [if_pos hi] at hl;cases hl
  ·rw [if_neg hi] at hl;exact hT.mine id bx b cap hl
def HG (P:Program) (N np:Nat) (o:Oper) (h:xN) (st:AS):Option (List Prop×List Eff) :=
 bif k9 h.frz&&k9 h.lo then
  match D2 P N np o h st with
  | some (vc,E)=>some (vc,[E])
  | none=>none
 else
  match NA N np o h st with
  | some (vc0,E0) =>
   match D2 P N np o h (st.upd E0) with
   | some (vc,E)=>some (vc0++vc,[E0,E])
   | none=>none
  | none=>none
def KA (P:Program) (N np:Nat) (ops:Array Oper) (o:Oper) (h:xN) (st:AS):Option (List Prop×List Eff) :=
 match o.guard with
 | none=>HG P N np o h st
 | some (j,want) =>
  match (ops[j]?).bind (·.dst) with
  | none=>none
  | some d =>
   match st.slot d with
   | .bool b =>
    bif h.g then
     match HG P N np o h st with
     | some (vc,es)=>some ((b=want)::vc,{ rs:=[(d,.bool b)] }::es)
     | none=>none
    else bif uD N o.dst then some ([b=!want],[{ rs:=[(d,.bool b)],dst:=o.dst.map fun d=>(d,.tuple []) }]) else none
   | .tuple []=>bif uD N o.dst then some ([],[{ rs:=[(d,.tuple [])],dst:=o.dst.map fun d=>(d,.tuple []) }]) else none
   | _=>none
theorem _root_.Go.Oper.wp_mono2 {P:Program} {o:Oper} {a:Act} {w:World} {K K':Act→World→Prop} {Q:Exit→Act→World→Prop} (h:∀ a w,K a w→K' a w)
  (hh:o.wp P a w K (fun _ _ _=>False)):o.wp P a w K' Q:=by
 unfold Oper.wp at *
 generalize (execOp a.eval o).run P w=r at *
 cases r with
 | ok n w' =>
  cases n<;>simp only [Oper.upon] at hh ⊢ <;>
   first
    | exact h _ _ hh
    | exact Calls.mono hh (fun e w'' he=>by cases e<;>first | exact h _ _ he | exact he.elim | (obtain ⟨_,_,he⟩:=he;exact he.elim))
    | exact Rows.mono hh (fun _ _ he=>h _ _ he)
 | halt x w'=>cases x<;>simp only [Oper.upon] at hh ⊢
theorem VJ {P:Program} {N np:Nat} {o:Oper} {st:AS} {hn:xN} {r:List Prop×List Eff} (h:HG P N np o hn st=some r) (hv:∀ p∈r.1,p) :
  nK st r.2∧∀ G st2 a w,G.n=N→G.foot.length=np→nK st2 r.2→Rel G st2 a w→o.wp P a w (fun a' w'=>Rel G (vZ st2 r.2) a' w') (fun _ _ _=>False):=by
 unfold HG at h
 cases hf:k9 hn.frz&&k9 hn.lo
 ·rw [hf] at h
  simp only [cond_false] at h
  split at h
  ·rename_i vc0 E0 hE0
   split at h
   ·rename_i vc E hE
    injection h with h;subst h
    obtain ⟨k1,k2⟩:=zCc hE0 (fun p hp=>hv p (by simp [hp]))
    obtain ⟨k3,k4⟩:=T6 hE (fun p hp=>hv p (by simp [hp]))
    refine ⟨⟨k1,k3,trivial⟩,fun G st2 a w hN hnp hh hRR=>?_⟩
    obtain ⟨hh1,hh2,_⟩:=hh
    exact k4 G _ a w hN hnp hh2 (k2 G st2 hnp hh1 a w hRR)
   ·cases h
  ·cases h
 ·rw [hf] at h
  simp only [cond_true] at h
  split at h
  ·rename_i vc E hE
   injection h with h;subst h
   obtain ⟨k3,k4⟩:=T6 hE hv
   exact ⟨⟨k3,trivial⟩,fun G st2 a w hN hnp hh hRR=>k4 G st2 a w hN hnp hh.1 hRR⟩
  ·cases h
theorem TM {G:uA} {st:AS} {a:Act} {w:World} {ops:Array Oper} {j d:Nat} {b:Bool} (hR:Rel G st a w) (hd:(ops[j]?).bind (·.dst)=some d) (hs:st.slot d=.bool b) :
  yielded ops a.tmps j=some b:=by
 obtain ⟨T,hT⟩:=hR
 have hr:=hT.slots d
 rw [hs] at hr
 generalize hv:a.tmps.getD d undef=v at hr
 cases hr with
 | bool =>
 have:a.tmps[d]?=some (.bool b):=by
  rw [Array.getD_eq_getD_getElem?] at hv
  cases hd:a.tmps[d]? with
  | none=>rw [hd] at hv;simp [undef] at hv
  | some x=>rw [hd] at hv;simp at hv;rw [hv]
 simp [yielded,hd,this]
theorem ZZ {G:uA} {st:AS} {a:Act} {w:World} {ops:Array Oper} {j d:Nat} (hR:Rel G st a w) (hd:(ops[j]?).bind (·.dst)=some d) (hs:st.slot d=.tuple []) :
  yielded ops a.tmps j=none:=by
 obtain ⟨T,hT⟩:=hR
 have hr:=hT.slots d
 rw [hs] at hr
 generalize hv:a.tmps.getD d undef=v at hr
 cases hr with
 | tuple h1 h2 =>
 rw [Array.getD_eq_getD_getElem?] at hv
 cases hd':a.tmps[d]? with
 | none=>simp [yielded,hd,hd']
 | some x=>rw [hd'] at hv;simp at hv;subst hv;simp [yielded,hd,hd']
theorem ON {w:World} {I:Nat→Prop} {T:Tbl}:Rep w I T undef (.tuple []):=by
 refine .tuple (by rfl) ?_
 intro j c h;simp at h
theorem YU {P:Program} {N np:Nat} {ops:Array Oper} {o:Oper} {st:AS} {hn:xN} {r:List Prop×List Eff} (h:KA P N np ops o hn st=some r) (hv:∀ p∈r.1,p) :
  nK st r.2∧H9 P N np ops o r.2:=by
 unfold KA at h
 split at h
 ·rename_i hg
  obtain ⟨k1,k2⟩:=VJ h hv
  refine ⟨k1,fun G st2 a w hN hnp hh hRR=>?_⟩
  rw [if_pos (by simp [Region.wanted,hg])]
  exact k2 G st2 a w hN hnp hh hRR
 ·rename_i j want hg
  split at h
  ·cases h
  rename_i d hd
  split at h
  ·rename_i b hb
   cases hgg:hn.g
   ·rw [hgg] at h
    simp only [cond_false] at h
    replace h:=xJ h;obtain ⟨hdst,h⟩:=h
    injection h with h;subst h
    have hbw:b=!want:=hv _ (by simp)
    refine ⟨⟨⟨fun x hx=>by simp at hx;subst hx;exact hb,fun x hx=>by simp at hx⟩,trivial⟩,fun G st2 a w hN hnp hh hRR=>?_⟩
    have hs2:st2.slot d=.bool b:=hh.1.1 (d,.bool b) (by simp)
    have hy:=TM hRR hd hs2
    rw [if_neg (by simp [Region.wanted,hg,hy,hbw])]
    obtain ⟨T,hT⟩:=hRR
    refine hT.quiet (jN w) rfl (by simp [Option.map_map,Function.comp_def]) ?_
    intro d' av he
    obtain ⟨hlt,rfl⟩:=uH hdst he
    exact ⟨by omega,ON⟩
   ·rw [hgg] at h
    simp only [cond_true] at h
    split at h
    ·rename_i vc es hc
     injection h with h;subst h
     have hbw:b=want:=hv _ (by simp)
     obtain ⟨k1,k2⟩:=VJ hc (fun p hp=>hv p (by simp [hp]))
     refine ⟨⟨⟨fun x hx=>by simp at hx;subst hx;exact hb,fun x hx=>by simp at hx⟩,k1⟩,fun G st2 a w hN hnp hh hRR=>?_⟩
     have hs2:st2.slot d=.bool b:=hh.1.1 (d,.bool b) (by simp)
     have hy:=TM hRR hd hs2
     rw [if_pos (by simp [Region.wanted,hg,hy,hbw])]
     exact k2 G st2 a w hN hnp hh.2 hRR
    ·cases h
  ·rename_i hb
   replace h:=xJ h;obtain ⟨hdst,h⟩:=h
   injection h with h;subst h
   refine ⟨⟨⟨fun x hx=>by simp at hx;subst hx;exact hb,fun x hx=>by simp at hx⟩,trivial⟩,fun G st2 a w hN hnp hh hRR=>?_⟩
   have hs2:st2.slot d=.tuple []:=hh.1.1 (d,.tuple []) (by simp)
   have hy:=ZZ hRR hd hs2
   rw [if_neg (by simp [Region.wanted,hg,hy])]
   obtain ⟨T,hT⟩:=hRR
   refine hT.quiet (jN w) rfl (by simp [Option.map_map,Function.comp_def]) ?_
   intro d' av he
   obtain ⟨hlt,rfl⟩:=uH hdst he
   exact ⟨by omega,ON⟩
  ·cases h
def RK:List (Nat×xN)→Nat→xN
 | [],_=>{}
 | (k,h)::r,i=>bif Nat.beq i k then h else RK r i
def AG (P:Program) (N np:Nat) (all:Array Oper) (hs:List (Nat×xN)):List Oper→Nat→AS→Option (List Prop×AS×List (List Eff))
 | [],_,st=>some ([],st,[])
 | o::r,i,st =>
  match KA P N np all o (RK hs i) st with
  | none=>none
  | some (vc,es) =>
   match AG P N np all hs r (i+1) (vZ st es) with
   | none=>none
   | some (vcs,st',ess)=>some (vc++vcs,st',es::ess)
def bL:List (List Eff)→AS→AS→Prop
 | [],st,st'=>st=st'
 | es::r,st,st'=>nK st es∧bL r (vZ st es) st'
theorem zCI {P:Program} {N np:Nat} {all:Array Oper} {hs:List (Nat×xN)}:∀ (l:List Oper) (i:Nat) (st:AS) (r:List Prop×AS×List (List Eff)),
  AG P N np all hs l i st=some r→(∀ p∈r.1,p)→bL r.2.2 st r.2.1∧r.2.2.length=l.length∧∀ (j:Nat) (o:Oper) (es:List Eff),l[j]?=some o→r.2.2[j]?=some es→H9 P N np all o es:=by
 intro l
 induction l with
 | nil=>intro i st r h _;simp [AG] at h;subst h;exact ⟨rfl,rfl,fun j o es hj=>by simp at hj⟩
 | cons o rest ih =>
  intro i st r h hv
  simp only [AG] at h
  split at h
  ·cases h
  rename_i vc es hs1
  split at h
  ·cases h
  rename_i vcs st' ess hs2
  injection h with h;subst h
  obtain ⟨k1,k2⟩:=YU hs1 (fun p hp=>hv p (by simp [hp]))
  obtain ⟨k3,k4,k5⟩:=ih _ _ _ hs2 (fun p hp=>hv p (by simp [hp]))
  refine ⟨⟨k1,k3⟩,by simpa using k4,?_⟩
  intro j o' es' hj hj'
  cases j with
  | zero=>simp at hj hj';subst hj;subst hj';exact k2
  | succ j=>exact k5 j o' es' (by simpa using hj) (by simpa using hj')
theorem zDx {P:Program} {N np:Nat} {all:Array Oper} {G:uA} {Q:Exit→Act→World→Prop} (hN:G.n=N) (hnp:G.foot.length=np):∀ (l:List Oper) (ess:List (List Eff)) (st st':AS) (a:Act) (w:World),
  bL ess st st'→ess.length=l.length→(∀ (j:Nat) (o:Oper) (es:List Eff),l[j]?=some o→ess[j]?=some es→H9 P N np all o es)→Rel G st a w →
  (∀ a w,Rel G st' a w→Q .normal a w)→wpList P all Q l a w:=by
 intro l
 induction l with
 | nil =>
  intro ess st st' a w hc hl _ hR hQ
  cases ess with
  | nil=>simp only [bL] at hc;subst hc;exact hQ a w hR
  | cons _ _=>simp at hl
 | cons o rest ih =>
  intro ess st st' a w hc hl hloc hR hQ
  cases ess with
  | nil=>simp at hl
  | cons es r =>
   obtain ⟨hh,hc⟩:=hc
   have hL:=hloc 0 o es (by simp) (by simp) G st a w hN hnp hh hR
   refine wpList_step fun K hK=>?_
   have hnext:∀ a w,Rel G (vZ st es) a w→K a w:=fun a w hR2=>hK a w (ih r (vZ st es) st' a w hc (by simpa using hl) (fun j o' es' hj hj'=>hloc (j+1) o' es' (by simpa using hj) (by simpa using hj')) hR2 hQ)
   split
   ·rename_i hw
    rw [if_pos hw] at hL
    exact Oper.wp_mono2 hnext hL
   ·rename_i hw
    rw [if_neg hw] at hL
    exact hnext _ _ hL
end Go.Ab
