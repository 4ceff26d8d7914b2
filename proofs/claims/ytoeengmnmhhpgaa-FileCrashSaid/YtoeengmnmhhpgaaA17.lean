/- A layer over the model: abstract values and states, and the rules by which the printed proofs go. No conditions. -/
import Derived.Test.YtoeengmnmhhpgaaA14
import Derived.WideMake
import Derived.DeepKeys4
/- A call as a step. -/
namespace Go.Ab
open Go
def Q5 (P:Program) (f:FuncId):Bool :=
 match P.funcs[f]? with
 | some fn => !(fn.name == "runtime.NumGoroutine") && fn.body.isSome
 | none=>false
mutual
def scalar:AV→Bool
 | .junk=>true
 | .int ..=>true
 | .bool _=>true
 | .str _=>true
 | .agg cs=>fS cs
 | .tuple cs=>fS cs
 | .nilp=>true
 | .nilsl=>true
 | _=>false
def fS:List AV→Bool
 | []=>true
 | a::r=>scalar a&&fS r
end
theorem U4 {cs:List AV} (h:fS cs=true) {j:Nat} {c:AV} (hj:cs[j]?=some c):scalar c=true:=by
 induction cs generalizing j with
 | nil=>simp at hj
 | cons a r ih =>
  simp only [fS,zba] at h
  cases j with
  | zero=>simp at hj;exact hj ▸ h.1
  | succ j=>exact ih h.2 (by simpa using hj)
theorem Rep.scalar {w w':World} {I I':Nat→Prop} {T T':Tbl} {v:Value} {av:AV} (h:Rep w I T v av):scalar av=true→Rep w' I' T' v av:=by
 induction h generalizing T' with
 | junk=>intro _;exact .junk
 | int h=>intro _;exact .int h
 | bool=>intro _;exact .bool
 | str h h'=>intro _;exact .str h h'
 | agg h h1 _ ih=>intro hb;exact .agg h h1 fun j c hj=>ih j c hj (U4 hb hj)
 | tuple h _ ih=>intro hb;exact .tuple h fun j c hj=>ih j c hj (U4 hb hj)
 | nilp=>intro _;exact .nilp
 | nilsl=>intro _;exact .nilsl
 | _=>intro hb;simp [Go.Ab.scalar] at hb
def k9 {α:Type}:List α→Bool
 | []=>true
 | _=>false
def jD:List Nat→Bool
 | []=>true
 | a::r=>!(r.any (Nat.beq a))&&jD r
theorem AZ {l:List Nat} (h:jD l=true):∀ {i j a:Nat},l[i]?=some a→l[j]?=some a→i=j:=by
 induction l with
 | nil=>intro i j a hi;simp at hi
 | cons x r ih =>
  simp only [jD,zba,Bool.not_eq_true'] at h
  have hx:x∉r:=fun hm=>by have:=EG hm;rw [h.1] at this;cases this
  intro i j a hi hj
  cases i with
  | zero =>
   cases j with
   | zero=>rfl
   | succ j =>
    simp only [List.getElem?_cons_zero,Option.some.injEq] at hi
    subst hi
    exact absurd (List.mem_of_getElem? (by simpa using hj)) hx
  | succ i =>
   cases j with
   | zero =>
    simp only [List.getElem?_cons_zero,Option.some.injEq] at hj
    subst hj
    exact absurd (List.mem_of_getElem? (by simpa using hi)) hx
   | succ j =>
    have hi':r[i]?=some a:=by simpa using hi
    have hj':r[j]?=some a:=by simpa using hj
    rw [ih h.2 hi' hj']
def OJ (A:Operand→AV) (f:Operand):Option (FuncId×List AV) :=
 match A f with
 | .fn g caps=>some (g,caps)
 | _=>none
def pQ:yA→Bool
 | .unused=>true
 | _=>false
theorem nQ {b:yA} (h:pQ b=true):b=.unused:=by cases b<;>simp_all [pQ]
def L4 (P:Program) (np:Nat) (A:Operand→AV) (f:Operand) (args:List Operand) (B:Nat→yA) (h:xN):Option (List Prop×List (Nat×yA)×AV) :=
 match OJ A f with
 | none=>none
 | some (g,caps) =>
  bif Q5 P g&&(((h.l.all (wU (h.pre++h.giv).length)&&(h.pre++h.giv).all (o4 (h.pre++h.giv).length))&&(h.post.all (o4 h.ids.length)&&(jD (h.ids++h.gids)&&wU h.ids.length h.av))) &&
    (((Nat.ble h.pre.length h.ids.length&&Nat.beq h.post.length h.ids.length)&&((h.ids.drop h.pre.length).all (fun i=>pQ (B i))&&(k9 h.lend||((k9 h.ids&&k9 h.gids)&&scalar h.av)))) &&
     (((args.map A++caps).map (frz B h.lend)).all iY&&(Nat.beq h.giv.length h.gids.length&&h.gids.all (Nat.ble np))))) then
   some ((args.map A++caps).flatMap (bZ B h.lend)++[(args.map A++caps).map (frz B h.lend)=uns (h.ids.take h.pre.length++h.gids) h.l,
     (h.ids.take h.pre.length++h.gids).map B=(h.pre++h.giv).map (fun b=>yA.live (unB (h.ids.take h.pre.length++h.gids) b)),y5 P g h.pre h.giv h.l h.post h.av],
    (h.ids.zip (h.post.map fun b=>yA.live (unB h.ids b)))++h.gids.map (fun i=>(i,yA.dead)),un h.ids h.av)
  else none
def B9:List (Nat×wW)→Nat→Option wW
 | [],_=>none
 | (k,p)::r,i=>if i=k then some p else B9 r i
theorem zEs {ids:List Nat} {ps:List wW} (hd:jD ids=true) (hl:ps.length=ids.length) {i:Nat} :
  (∀ (k:Nat),ids[k]?=some i→B9 (ids.zip ps) i=ps[k]?)∧(i∉ids→B9 (ids.zip ps) i=none):=by
 induction ids generalizing ps with
 | nil=>exact ⟨fun k hk=>by simp at hk,fun _=>rfl⟩
 | cons x r ih =>
  cases ps with
  | nil=>simp at hl
  | cons y s =>
   simp only [jD,zba,Bool.not_eq_true'] at hd
   have hx:x∉r:=fun hm=>by have:=EG hm;rw [hd.1] at this;cases this
   obtain ⟨i1,i2⟩:=ih (ps:=s) hd.2 (by simpa using hl)
   simp only [List.zip_cons_cons,B9]
   constructor
   ·intro k hk
    cases k with
    | zero=>simp at hk;subst hk;simp
    | succ k =>
     have hk':r[k]?=some i:=by simpa using hk
     have hne:i≠x:=fun e=>hx (e ▸ List.mem_of_getElem? hk')
     rw [if_neg hne,i1 k hk']
     simp
   ·intro hn
    simp only [List.mem_cons,not_or] at hn
    rw [if_neg hn.1]
    exact i2 hn.2
theorem S8 {l:List Nat} (h:jD l=true) (n:Nat):jD (l.drop n)=true:=by
 induction l generalizing n with
 | nil=>simp [jD]
 | cons a r ih =>
  cases n with
  | zero=>exact h
  | succ n=>simp only [jD,zba] at h;exact ih h.2 n
theorem zDI {ids:List Nat} {bs:List yA} (hd:jD ids=true) (hl:bs.length=ids.length) {i:Nat} {d:yA} :
  (∀ (k:Nat),ids[k]?=some i→vG (ids.zip bs) i d=bs.getD k .dead)∧(i∉ids→vG (ids.zip bs) i d=d):=by
 induction ids generalizing bs with
 | nil=>exact ⟨fun k hk=>by simp at hk,fun _=>rfl⟩
 | cons x r ih =>
  cases bs with
  | nil=>simp at hl
  | cons y s =>
   have hd0:=hd
   simp only [jD,zba,Bool.not_eq_true'] at hd
   have hx:x∉r:=fun hm=>by have:=EG hm;rw [hd.1] at this;cases this
   obtain ⟨i1,i2⟩:=ih (bs:=s) hd.2 (by simpa using hl)
   simp only [List.zip_cons_cons,vG]
   constructor
   ·intro k hk
    cases k with
    | zero =>
     simp at hk;subst hk
     simp [List.getD]
    | succ k =>
     have hk':r[k]?=some i:=by simpa using hk
     have hne:i≠x:=fun e=>hx (e ▸ List.mem_of_getElem? hk')
     rw [q8 hne]
     simp only [cond_false]
     rw [i1 k hk']
     simp [List.getD]
   ·intro hn
    simp only [List.mem_cons,not_or] at hn
    rw [q8 hn.1]
    exact i2 hn.2
theorem UD {a b:Nat} (h:Nat.ble a b=true):a≤b:=zle h
theorem zDM {l m:List Nat} (h:jD (l++m)=true):jD l=true:=by
 induction l with
 | nil=>rfl
 | cons a r ih =>
  simp only [List.cons_append,jD,zba,Bool.not_eq_true',List.any_append,Bool.or_eq_false_iff] at h ⊢
  exact ⟨h.1.1,ih h.2⟩
theorem X6 {l m:List Nat} (h:jD (l++m)=true) {a:Nat} (h1:a∈l) (h2:a∈m):False:=by
 obtain ⟨i,hi⟩:=List.mem_iff_getElem?.1 h1
 obtain ⟨j,hj⟩:=List.mem_iff_getElem?.1 h2
 have hil:=(List.getElem?_eq_some_iff.1 hi).1
 have e1:(l++m)[i]?=some a:=by rw [List.getElem?_append_left hil];exact hi
 have e2:(l++m)[l.length+j]?=some a:=by rw [List.getElem?_append_right (by omega),show l.length+j - l.length=j by omega];exact hj
 have:=AZ h e1 e2
 omega
theorem WO {l m:List Nat} (h:jD (l++m)=true):jD m=true:=by
 have:=S8 h l.length
 simpa using this
theorem WS {l m:List (Nat×yA)} {i:Nat} {d:yA}:vG (l++m) i d=vG l i (vG m i d):=by
 induction l with
 | nil=>rfl
 | cons x r ih=>simp only [List.cons_append,vG,ih]
theorem XV {ids:List Nat} {i:Nat} {d:yA}:vG (ids.map fun i=>(i,yA.dead)) i d=if i∈ids then .dead else d:=by
 induction ids with
 | nil=>simp [vG]
 | cons x r ih =>
  simp only [List.map_cons,vG,ih,List.mem_cons]
  by_cases h:i=x
  ·subst h;simp
  ·rw [q8 h];simp [h]
mutual
theorem O9 {foot:List Nat}:∀ {c:AV},scalar c=true→scalar (un foot c)=true
 | .junk,_=>rfl
 | .int ..,_=>rfl
 | .bool _,_=>rfl
 | .str _,_=>rfl
 | .agg cs,h=>by simp only [un,scalar] at *;exact JV h
 | .tuple cs,h=>by simp only [un,scalar] at *;exact JV h
 | .nilp,_=>rfl
 | .nilsl,_=>rfl
theorem JV {foot:List Nat}:∀ {cs:List AV},fS cs=true→fS (uns foot cs)=true
 | [],_=>rfl
 | a::r,h=>by
  simp only [uns,fS,zba] at *
  exact ⟨O9 h.1,JV h.2⟩
end
theorem zBf {P:Program} {N np:Nat} {o:Oper} {f:Operand} {args:Array Operand} {ts:Array TypeId} {rs:List (Nat×AV)} {hn:xN} {B:Nat→yA} {r:List Prop×List (Nat×yA)×AV}
  (ho:o.op=.call { callee:=.value f,args:=args,argTypes:=ts }) (hf:xB f=true) (hx:∀ x∈args.toList,xB x=true)
  (h:L4 P np (xA rs) f args.toList B hn=some r) (hv:∀ p∈r.1,p) (hd:uD N o.dst=true) :
  uO P N np o { rs:=rs,rb:=(hn.ids++hn.gids++hn.lend).map (fun i=>(i,B i)),dst:=o.dst.map fun d=>(d,r.2.2),wb:=r.2.1 }:=by
 intro G st a w hN hnp hE ⟨T,hT⟩
 unfold L4 at h
 split at h
 ·cases h
 rename_i g caps hcal
 replace h:=xJ h;obtain ⟨hc,h⟩:=h
 simp only [zba,Bool.or_eq_true,List.all_eq_true] at hc
 obtain ⟨hcallable,⟨⟨hbl,hbpre⟩,hbpost,hnda,hbav⟩,⟨⟨hpl,hql⟩,hfresh,hdep⟩,hwhole,hgl,hgnp⟩:=hc
 have hpl:=UD hpl
 have hql:=x5.1 hql
 have hgl:=x5.1 hgl
 have hgnp:∀ i∈hn.gids,np≤i:=fun i hi=>UD (hgnp i hi)
 have hnd:=zDM hnda
 have hndg:=WO hnda
 have hdisj:∀ {i:Nat},i∈hn.ids→i∈hn.gids→False:=fun h1 h2=>X6 hnda h1 h2
 injection h with h;subst h
 simp only at hE hv
 generalize hidst:hn.ids.take hn.pre.length=idst at hv
 have hlt0:idst.length=hn.pre.length:=by rw [← hidst];simp;omega
 generalize hids0:idst++hn.gids=ids0 at hv
 generalize hpg:hn.pre++hn.giv=pg at hv hbl hbpre
 have hpgl:pg.length=hn.pre.length+hn.giv.length:=by rw [← hpg];simp
 have hl0:ids0.length=pg.length:=by rw [← hids0,hpgl];simp [hlt0,hgl]
 have hget0:∀ (k i:Nat),ids0[k]?=some i→(hn.ids[k]?=some i∧k<hn.pre.length)∨(hn.gids[k - hn.pre.length]?=some i∧hn.pre.length≤k):=by
  intro k i hk
  rw [← hids0] at hk
  rcases zlg k idst.length with hlt | hge
  ·rw [List.getElem?_append_left hlt,← hidst,List.getElem?_take] at hk
   split at hk
   ·exact .inl ⟨hk,by omega⟩
   ·cases hk
  ·rw [List.getElem?_append_right hge,hlt0] at hk
   exact .inr ⟨hk,by omega⟩
 have hput0:∀ (k i:Nat),hn.ids[k]?=some i→k<hn.pre.length→ids0[k]?=some i:=by
  intro k i hk hlt
  rw [← hids0,List.getElem?_append_left (by omega),← hidst,List.getElem?_take,if_pos hlt];exact hk
 have hmem0:∀ i,i∈ids0→i∈hn.ids∨i∈hn.gids:=by
  intro i hi
  rw [← hids0,← hidst] at hi
  rcases List.mem_append.1 hi with hi | hi
  ·exact .inl (List.mem_of_mem_take hi)
  ·exact .inr hi
 have e1:((args.toList.map (xA rs)++caps).map (frz B hn.lend))=uns ids0 hn.l:=hv _ (by simp)
 have e2:ids0.map B=pg.map (fun b=>yA.live (unB ids0 b)):=hv _ (by simp)
 have htri:y5 P g hn.pre hn.giv hn.l hn.post hn.av:=hv _ (by simp)
 have hvc:∀ x∈args.toList.map (xA rs)++caps,∀ p∈bZ B hn.lend x,p:=fun x hx p hp=>hv p (List.mem_append_left _ (List.mem_flatMap.2 ⟨x,hx,hp⟩))
 have hBi:∀ i∈hn.ids,st.box i=B i:=fun i hi=>hE.2 (i,B i) (List.mem_map.2 ⟨i,by simp [hi],rfl⟩)
 have hBg:∀ i∈hn.gids,st.box i=B i:=fun i hi=>hE.2 (i,B i) (List.mem_map.2 ⟨i,by simp [hi],rfl⟩)
 have hBl:∀ i∈hn.lend,st.box i=B i:=fun i hi=>hE.2 (i,B i) (List.mem_map.2 ⟨i,by simp [hi],rfl⟩)
 -- the new names
 have hnew:∀ (k i:Nat),hn.ids[k]?=some i→hn.pre.length≤k→st.box i=.unused:=by
  intro k i hk hge
  have hm:i∈hn.ids.drop hn.pre.length:=by
   refine List.mem_of_getElem? (i:=k - hn.pre.length) ?_
   rw [List.getElem?_drop,show hn.pre.length+(k - hn.pre.length)=k by omega];exact hk
  rw [hBi i (List.mem_of_getElem? hk)]
  exact nQ (hfresh i hm)
 -- the function value
 have hfr:=vO hT hE.1 hf
 have hfform:∃ cv,a.eval f=.func (.func g) #[] cv∧cv.size=caps.length∧∀ (j:Nat) (c:AV),caps[j]?=some c→Rep w (imm G st T) T (cv.getD j undef) c:=by
  unfold OJ at hcal
  split at hcal
  ·rename_i g' caps' hA
   simp only [Option.some.injEq,Prod.mk.injEq] at hcal
   obtain ⟨rfl,rfl⟩:=hcal
   rw [hA] at hfr
   generalize hvf:a.eval f=vf at hfr
   cases hfr with
   | fn h1 h2=>exact ⟨_,rfl,h1,h2⟩
  ·cases hcal
 obtain ⟨cv,hfv,hcs,hcr⟩:=hfform
 -- the blocks handed over
 have liveAt:∀ (k id:Nat),ids0[k]?=some id→∃ bx,pg[k]?=some bx∧st.box id=.live (unB ids0 bx):=by
  intro k id hk
  have h1:(ids0.map B)[k]?=some (B id):=by simp [hk]
  rw [e2,List.getElem?_map] at h1
  cases hpk:pg[k]? with
  | none=>rw [hpk] at h1;cases h1
  | some bx =>
   rw [hpk] at h1
   injection h1 with h1
   refine ⟨bx,rfl,?_⟩
   rcases hmem0 id (List.mem_of_getElem? hk) with hm | hm
   ·exact (hBi id hm).trans h1.symm
   ·exact (hBg id hm).trans h1.symm
 have hndi0:∀ {i j a:Nat},ids0[i]?=some a→ids0[j]?=some a→i=j:=by
  intro i j a hi hj
  rcases hget0 _ _ hi with ⟨h1,h2⟩ | ⟨h1,h2⟩<;>rcases hget0 _ _ hj with ⟨h3,h4⟩ | ⟨h3,h4⟩
  ·exact AZ hnd h1 h3
  ·exact (hdisj (List.mem_of_getElem? h1) (List.mem_of_getElem? h3)).elim
  ·exact (hdisj (List.mem_of_getElem? h3) (List.mem_of_getElem? h1)).elim
  ·have:=AZ hndg h1 h3;omega
 let foot:List wW:=idst.map fun id=>(T id).getD .nil
 let gp:List wW:=hn.gids.map fun id=>(T id).getD .nil
 have hfl:foot.length=hn.pre.length:=by simp [foot,hlt0]
 have hgpl:gp.length=hn.giv.length:=by simp [gp,hgl]
 have hfa:foot++gp=ids0.map fun id=>(T id).getD .nil:=by rw [← hids0];simp [foot,gp]
 have hTid:∀ (k id:Nat),ids0[k]?=some id→∃ p,T id=some p:=by
  intro k id hk
  obtain ⟨bx,_,hb⟩:=liveAt k id hk
  have hok:=hT.boxes id _ hb
  cases hTi:T id with
  | some p=>exact ⟨p,rfl⟩
  | none =>
   rw [hTi] at hok
   exact hok.no.elim
 have hTc:(fun i=>(foot++gp)[i]?)=Tc ids0 T:=by
  funext i
  rw [hfa]
  simp only [Tc,List.getElem?_map]
  cases hk:ids0[i]? with
  | none=>rfl
  | some id =>
   obtain ⟨p,hp⟩:=hTid i id hk
   simp [hp]
 have hfootmem:∀ b cap,wW.at b cap∈foot++gp→∃ (k id:Nat) (bx:Box),ids0[k]?=some id∧T id=some (.at b cap)∧st.box id=.live bx:=by
  intro b cap hm
  rw [hfa] at hm
  obtain ⟨k,hk⟩:=List.mem_iff_getElem?.1 hm
  simp only [List.getElem?_map] at hk
  cases hki:ids0[k]? with
  | none=>rw [hki] at hk;cases hk
  | some id =>
   rw [hki] at hk
   obtain ⟨p,hp⟩:=hTid k id hki
   simp only [Option.map_some,hp,Option.getD_some,Option.some.injEq] at hk
   obtain ⟨bx,_,hb⟩:=liveAt k id hki
   exact ⟨k,id,_,hki,by rw [hp,hk],hb⟩
 have hgpmem:∀ b cap,wW.at b cap∈gp→∃ (id:Nat) (bx:Box),id∈hn.gids∧T id=some (.at b cap)∧st.box id=.live bx:=by
  intro b cap hm
  obtain ⟨k,hk⟩:=List.mem_iff_getElem?.1 hm
  simp only [gp,List.getElem?_map] at hk
  cases hki:hn.gids[k]? with
  | none=>rw [hki] at hk;cases hk
  | some id =>
   rw [hki] at hk
   have hk0:ids0[idst.length+k]?=some id:=by
    rw [← hids0,List.getElem?_append_right (by omega),show idst.length+k - idst.length=k by omega];exact hki
   obtain ⟨p,hp⟩:=hTid _ id hk0
   simp only [Option.map_some,hp,Option.getD_some,Option.some.injEq] at hk
   obtain ⟨bx,_,hb⟩:=liveAt _ id hk0
   exact ⟨id,_,List.mem_of_getElem? hki,by rw [hp,hk],hb⟩
 let I:Nat→Prop:=zDm G st T hn.lend
 have hI:∀ b,imm G st T b→I b:=fun b hb=>.inl hb
 have hIl:∀ id b cap,id∈hn.lend→T id=some (.at b cap)→I b:=fun id b cap h1 h2=>.inr ⟨id,cap,h1,h2⟩
 have hnilids0:k9 hn.ids=true→k9 hn.gids=true→ids0=[]:=by
  intro h0 h1
  have e3:hn.ids=[]:=by cases hl1:hn.ids with | nil=>rfl | cons _ _=>rw [hl1] at h0;simp [k9] at h0
  have e4:hn.gids=[]:=by cases hl1:hn.gids with | nil=>rfl | cons _ _=>rw [hl1] at h1;simp [k9] at h1
  rw [← hids0,← hidst,e3,e4];simp
 have hIfoot:∀ b,I b→∀ cap,wW.at b cap∉foot++gp:=by
  intro b hb cap hm
  obtain ⟨k,id,bx,hk,hTi,hl⟩:=hfootmem b cap hm
  rcases hb with hb | ⟨id',cap',hm',hT'⟩
  ·exact hb.2 id bx cap hl hTi
  ·rcases hdep with h0 | h0
   ·have:hn.lend=[]:=by cases hl1:hn.lend with | nil=>rfl | cons _ _=>rw [hl1] at h0;simp [k9] at h0
    rw [this] at hm';cases hm'
   ·rw [hnilids0 h0.1.1 h0.1.2] at hk;simp at hk
 -- the arguments
 have hvals:(args.map a.eval++cv).size=hn.l.length:=by
  have h1:=congrArg List.length e1
  simp only [List.length_map,zla,cQ] at h1
  simp only [Array.size_append,Array.size_map,hcs]
  rw [← h1];simp
 have hargs:∀ (j:Nat) (av:AV),hn.l[j]?=some av→Rep w I (fun i=>(foot++gp)[i]?) ((args.map a.eval++cv).getD j undef) av:=by
  intro j av hj
  rw [hTc]
  have h1:(uns ids0 hn.l)[j]?=some (un ids0 av):=by rw [lR,hj];rfl
  rw [← e1,List.getElem?_map] at h1
  cases hxj:(args.toList.map (xA rs)++caps)[j]? with
  | none=>rw [hxj] at h1;cases h1
  | some X =>
   rw [hxj] at h1
   injection h1 with h1
   have hraw:Rep w (imm G st T) T ((args.map a.eval++cv).getD j undef) X:=by
    rcases zlg j args.size with hlt | hge
    ·rw [List.getElem?_append_left (by simpa using hlt),List.getElem?_map] at hxj
     cases hoj:args.toList[j]? with
     | none=>rw [hoj] at hxj;cases hxj
     | some x =>
      rw [hoj] at hxj;injection hxj with hxj
      rw [Array.getElem?_toList] at hoj
      have:(args.map a.eval++cv).getD j undef=a.eval x:=by
       simp only [Array.getD_eq_getD_getElem?]
       rw [Array.getElem?_append_left (by simpa using hlt)]
       simp [hoj]
      rw [this,← hxj]
      exact vO hT hE.1 (hx x (List.mem_of_getElem? (by rw [Array.getElem?_toList];exact hoj)))
    ·rw [List.getElem?_append_right (by simpa using hge)] at hxj
     simp only [List.length_map,Array.length_toList] at hxj
     have:(args.map a.eval++cv).getD j undef=cv.getD (j - args.size) undef:=by
      simp only [Array.getD_eq_getD_getElem?]
      rw [Array.getElem?_append_right (by simpa using hge)]
      simp
     rw [this]
     exact hcr _ _ hxj
   have hXm:=List.mem_of_getElem? hxj
   have hfz:=NE hT hBl hI hIl hraw (hvc X hXm) (hwhole _ (List.mem_map.2 ⟨X,hXm,rfl⟩))
   exact GP hfz av h1.symm (by rw [hl0];exact hbl av (List.mem_of_getElem? hj))
 have hcalls:=htri w I foot gp (args.map a.eval++cv) hfl hgpl hIfoot
  (by
   intro i j b c c' hi hj
   rw [hfa] at hi hj
   simp only [List.getElem?_map] at hi hj
   cases hki:ids0[i]? with
   | none=>rw [hki] at hi;cases hi
   | some id =>
    cases hkj:ids0[j]? with
    | none=>rw [hkj] at hj;cases hj
    | some id' =>
     rw [hki] at hi;rw [hkj] at hj
     obtain ⟨p,hp⟩:=hTid i id hki
     obtain ⟨p',hp'⟩:=hTid j id' hkj
     simp only [Option.map_some,hp,hp',Option.getD_some,Option.some.injEq] at hi hj
     obtain ⟨bx,_,hb⟩:=liveAt i id hki
     obtain ⟨bx',_,hb'⟩:=liveAt j id' hkj
     have:=hT.apart id id' _ _ b c c' hb hb' (by rw [hp,hi]) (by rw [hp',hj])
     subst this
     exact hndi0 hki hkj)
  (by
   intro b cap hm
   obtain ⟨k,id,bx,hk,hTi,hl⟩:=hfootmem b cap hm
   exact fW hT hl hTi)
  (by
   rw [hpg]
   intro i bx hbi
   have hil:i<ids0.length:=by
    rw [hl0]
    rcases zlg i pg.length with h' | h'
    ·exact h'
    ·rw [List.getElem?_eq_none h'] at hbi;cases hbi
   obtain ⟨bx',hb1,hb2⟩:=liveAt i _ (List.getElem?_eq_getElem hil)
   rw [hbi] at hb1;injection hb1 with hb1;subst hb1
   have hok:=hT.boxes _ _ hb2
   rw [hTc]
   have e3:(foot++gp)[i]?=T ids0[i]:=by
    have:=congrFun hTc i
    simp only [Tc,List.getElem?_eq_getElem hil] at this
    exact this
   rw [e3]
   exact L7 (hok.mono (Nat.le_refl _) (fun _ _ _=>rfl) (fun b hb _=>hI b hb) (fun _ _ h=>h) (fun _ _ _ _=>rfl)) (by rw [hl0];exact hbpre bx (List.mem_of_getElem? hbi)))
  hvals hargs
 -- the call
 have hexec:(execOp a.eval o).run P w=.ok (.enter g (args.map a.eval++cv)) w:=by
  unfold Q5 at hcallable
  split at hcallable
  ·rename_i fn hfn
   simp only [zba,Bool.not_eq_true',Option.isSome_iff_exists] at hcallable
   obtain ⟨hname,body,hbody⟩:=hcallable
   have hname : ¬ fn.name = "runtime.NumGoroutine" := fun e => by rw [e] at hname; simp at hname
   simp [execOp,ho,resolve,Deferred.ofValue,hfv,invoke,callFunc,hfn,hname,hbody]
  ·cases hcallable
 unfold Oper.wp
 rw [hexec]
 show Calls P g (args.map a.eval++cv) w _
 refine hcalls.mono ?_
 rintro e w' ⟨v,new,rfl,hos,htape,hout,hsize,hblk,hnl,hnew1,hnew2,hres,hpost⟩
 -- behind the call
 have hnln:new.length=(hn.ids.drop hn.pre.length).length:=by simp;omega
 have hzn:=fun (i:Nat)=>zEs (i:=i) (S8 hnd hn.pre.length) hnln
 let T':Tbl:=fun i=>match T i with | some p=>some p | none=>B9 ((hn.ids.drop hn.pre.length).zip new) i
 have hT'old:∀ i p,T i=some p→T' i=some p:=by intro i p h;simp [T',h]
 have hT'new:∀ (k i:Nat),hn.ids[k]?=some i→hn.pre.length≤k→T' i=new[k - hn.pre.length]?:=by
  intro k i hk hge
  have h0:=hT.unused i (hnew k i hk hge)
  simp only [T',h0]
  refine (hzn i).1 (k - hn.pre.length) ?_
  rw [List.getElem?_drop,show hn.pre.length+(k - hn.pre.length)=k by omega];exact hk
 have hT'out:∀ i,i∉hn.ids→T' i=T i:=by
  intro i hi
  cases h0:T i with
  | some p=>simp [T',h0]
  | none=>simp only [T',h0];exact (hzn i).2 fun hm=>hi (List.mem_of_mem_drop hm)
 have hidsget:∀ (k i:Nat),hn.ids[k]?=some i→k<hn.ids.length:=by
  intro k i hk
  rcases zlg k hn.ids.length with h' | h'
  ·exact h'
  ·rw [List.getElem?_eq_none h'] at hk;cases hk
 have hTc':(fun i=>(foot++new)[i]?)=Tc hn.ids T':=by
  funext i
  simp only [Tc]
  cases hk:hn.ids[i]? with
  | none =>
   have:hn.ids.length≤i:=List.getElem?_eq_none_iff.1 hk
   refine List.getElem?_eq_none ?_
   rw [zla,hfl];omega
  | some id =>
   rcases zlg i hn.pre.length with hlt | hge
   ·have hk0:ids0[i]?=some id:=hput0 i id hk hlt
    obtain ⟨p,hp⟩:=hTid i id hk0
    rw [List.getElem?_append_left (by omega)]
    have:=congrFun hTc i
    simp only [Tc,hk0] at this
    rw [List.getElem?_append_left (by omega)] at this
    simp only [hT'old id p hp]
    rw [this,hp]
   ·rw [List.getElem?_append_right (by omega),hfl]
    exact (hT'new i id hk hge).symm
 have hbox:∀ i,(st.upd { rs:=rs,rb:=(hn.ids++hn.gids++hn.lend).map (fun i=>(i,B i)),dst:=o.dst.map fun d=>(d,un hn.ids hn.av),wb:=hn.ids.zip (hn.post.map fun b=>yA.live (unB hn.ids b))++hn.gids.map (fun i=>(i,yA.dead)) }).box i =
   vG (hn.ids.zip (hn.post.map fun b=>yA.live (unB hn.ids b))) i (if i∈hn.gids then .dead else st.box i):=fun i=>by
  show vG (_++_) i (st.box i)=_
  rw [WS,XV]
 have hz:=fun (i:Nat)=>zDI (i:=i) (d:=if i∈hn.gids then .dead else st.box i) (bs:=hn.post.map fun b=>yA.live (unB hn.ids b)) hnd (by simp [hql])
 have inIds:∀ (k i:Nat),hn.ids[k]?=some i→∃ (bp:Box),hn.post[k]?=some bp∧vG (hn.ids.zip (hn.post.map fun b=>yA.live (unB hn.ids b))) i (if i∈hn.gids then .dead else st.box i)=.live (unB hn.ids bp):=by
  intro k i hk
  have hkl:k<hn.post.length:=by rw [hql];exact hidsget k i hk
  refine ⟨hn.post[k],List.getElem?_eq_getElem hkl,?_⟩
  rw [(hz i).1 k hk]
  simp [List.getD,hkl]
 have outIds:∀ (i:Nat) (bx:Box),i∉hn.ids→vG (hn.ids.zip (hn.post.map fun b=>yA.live (unB hn.ids b))) i (if i∈hn.gids then .dead else st.box i)=.live bx→i∉hn.gids∧st.box i=.live bx:=by
  intro i bx hi hl
  rw [(hz i).2 hi] at hl
  by_cases hg:i∈hn.gids
  ·rw [if_pos hg] at hl;cases hl
  ·rw [if_neg hg] at hl;exact ⟨hg,hl⟩
 have gDead:∀ (i:Nat),i∈hn.gids→vG (hn.ids.zip (hn.post.map fun b=>yA.live (unB hn.ids b))) i (if i∈hn.gids then .dead else st.box i)=.dead:=by
  intro i hi
  rw [(hz i).2 (fun h=>hdisj h hi),if_pos hi]
 have oldLive:∀ (k i:Nat),hn.ids[k]?=some i→k<hn.pre.length→∃ bx,st.box i=.live bx∧T' i=T i:=by
  intro k i hk hlt
  have hk0:ids0[k]?=some i:=hput0 k i hk hlt
  obtain ⟨bx,_,hb⟩:=liveAt k i hk0
  obtain ⟨p,hp⟩:=hTid k i hk0
  exact ⟨_,hb,by rw [hT'old i p hp,hp]⟩
 have hmemnew:∀ (k i b cap:Nat),hn.ids[k]?=some i→hn.pre.length≤k→T' i=some (.at b cap)→wW.at b cap∈new:=by
  intro k i b cap hk hge hTi
  rw [hT'new k i hk hge] at hTi
  exact List.mem_of_getElem? hTi
 have hIimm:k9 hn.lend=true→∀ b,kept I w gp new b→imm G (st.upd { rs:=rs,rb:=(hn.ids++hn.gids++hn.lend).map (fun i=>(i,B i)),dst:=o.dst.map fun d=>(d,un hn.ids hn.av),wb:=hn.ids.zip (hn.post.map fun b=>yA.live (unB hn.ids b))++hn.gids.map (fun i=>(i,yA.dead)) }) T' b:=by
  intro h0 b hb
  have h00:hn.lend=[]:=by cases hl1:hn.lend with | nil=>rfl | cons _ _=>rw [hl1] at h0;simp [k9] at h0
  have hold:(G.I0 b∨G.mine b):=by
   rcases hb with ⟨hb | ⟨id',_,hm',_⟩,_⟩ | ⟨hb | ⟨cap,hb⟩,_⟩
   ·exact hb.1
   ·rw [h00] at hm';cases hm'
   ·exact .inr (.inl (Nat.le_trans hT.kept.size hb))
   ·obtain ⟨gid,gbx,g1,g2,g3⟩:=hgpmem b cap hb
    exact .inr (hT.mine gid gbx b cap g3 g2 (by have:=hgnp gid g1;omega))
  refine ⟨hold,fun id bx cap hl hTi=>?_⟩
  rw [hbox] at hl
  have oldCase:∀ bx',st.box id=.live bx'→T' id=T id→id∉hn.gids→False:=by
   intro bx' hl' hTe hng
   rw [hTe] at hTi
   have hlt:=fW hT hl' hTi
   rcases hb with ⟨hb | ⟨id',_,hm',_⟩,_⟩ | ⟨hb | ⟨cap',hb⟩,_⟩
   ·exact hb.2 id bx' cap hl' hTi
   ·rw [h00] at hm';cases hm'
   ·omega
   ·obtain ⟨gid,gbx,g1,g2,g3⟩:=hgpmem b cap' hb
    have:=hT.apart id gid bx' gbx b cap cap' hl' g3 hTi g2
    exact hng (this ▸ g1)
  by_cases hi:id∈hn.ids
  ·obtain ⟨k,hk⟩:=List.mem_iff_getElem?.1 hi
   rcases zlg k hn.pre.length with hlt | hge
   ·obtain ⟨bx',hb',hTe⟩:=oldLive k id hk hlt
    exact oldCase bx' hb' hTe (fun h=>hdisj hi h)
   ·have hm:=hmemnew k id b cap hk hge hTi
    rcases hb with ⟨hb1,hb⟩ | ⟨_,hb⟩
    ·rcases hnew1 b cap hm with h' | ⟨cap',h'⟩
     ·omega
     ·exact hIfoot b hb1 cap' (List.mem_append_right _ h')
    ·exact hb cap hm
  ·obtain ⟨hg,hl⟩:=outIds id bx hi hl
   exact oldCase bx hl (hT'out id hi) hg
 refine hT.stepN (T':=T') (S:=fun b=>∃ cap,wW.at b cap∈foot++gp) hos htape hout hsize (fun b hb hn'=>hblk b hb fun cap hm=>hn' ⟨cap,hm⟩) ?_ hT'old (fun id bx b cap hl hTi=>fW hT hl hTi) ?_ ?_ ?_ (by simp [Option.map_map,Function.comp_def]) ?_ ?_
 ·rintro b ⟨cap,hm⟩
  obtain ⟨k,id,bx,hk,hTi,hl⟩:=hfootmem b cap hm
  exact ⟨id,bx,cap,hl,hTi⟩
 ·intro id bx hl
  rw [hbox] at hl
  by_cases hi:id∈hn.ids
  ·obtain ⟨k,hk⟩:=List.mem_iff_getElem?.1 hi
   rcases zlg k hn.pre.length with hlt | hge
   ·exact .inl (oldLive k id hk hlt)
   ·refine .inr ⟨hnew k id hk hge,fun b cap hTi=>?_⟩
    rcases hnew1 b cap (hmemnew k id b cap hk hge hTi) with h' | ⟨cap',h'⟩
    ·exact .inl h'
    ·obtain ⟨gid,gbx,g1,g2,g3⟩:=hgpmem b cap' h'
     refine .inr ⟨gid,gbx,cap',g3,g2,by have:=hgnp gid g1;omega,fun bx' hbx=>?_⟩
     rw [hbox,gDead gid g1] at hbx
     cases hbx
  ·obtain ⟨_,hl⟩:=outIds id bx hi hl
   exact .inl ⟨bx,hl,hT'out id hi⟩
 ·intro id hu
  rw [hbox] at hu
  by_cases hi:id∈hn.ids
  ·obtain ⟨k,hk⟩:=List.mem_iff_getElem?.1 hi
   obtain ⟨bp,_,hlk⟩:=inIds k id hk
   rw [hlk] at hu;cases hu
  ·rw [(hz id).2 hi] at hu
   rw [hT'out id hi]
   by_cases hg:id∈hn.gids
   ·rw [if_pos hg] at hu;cases hu
   ·rw [if_neg hg] at hu;exact hT.unused id hu
 ·intro id id' b c c' h1 h2 t1 t2
  have inNew:∀ (j b c:Nat),st.box j=.unused→T' j=some (.at b c)→∃ k,hn.ids[k]?=some j∧hn.pre.length≤k:=by
   intro j b c hu hTj
   by_cases hi:j∈hn.ids
   ·obtain ⟨k,hk⟩:=List.mem_iff_getElem?.1 hi
    rcases zlg k hn.pre.length with hlt | hge
    ·obtain ⟨bx',hb',_⟩:=oldLive k j hk hlt
     rw [hb'] at hu;cases hu
    ·exact ⟨k,hk,hge⟩
   ·rw [hT'out j hi,hT.unused j hu] at hTj;cases hTj
  obtain ⟨k,hk,hge⟩:=inNew id b c h1 t1
  obtain ⟨k',hk',hge'⟩:=inNew id' b c' h2 t2
  rw [hT'new k id hk hge] at t1
  rw [hT'new k' id' hk' hge'] at t2
  have:=hnew2 _ _ b c c' t1 t2
  have hkk:k=k':=by omega
  subst hkk
  rw [hk] at hk';injection hk'
 ·intro d av he
  obtain ⟨hlt,rfl⟩:=uH hd he
  refine ⟨by omega,?_⟩
  rw [hTc'] at hres
  have hres2:=S2 hres hbav
  rcases hdep with h0 | h0
  ·exact hres2.mono (Nat.le_refl _) (fun _ _ _=>rfl) (fun b hb _=>hIimm h0 b hb) (fun _ _ h=>h)
  ·exact hres2.scalar (O9 h0.2)
 ·intro id bx hl
  rw [hbox] at hl
  by_cases hi:id∈hn.ids
  ·obtain ⟨k,hk⟩:=List.mem_iff_getElem?.1 hi
   obtain ⟨bp,hpk,hlk⟩:=inIds k id hk
   rw [hlk] at hl;injection hl with hl;subst hl
   right
   have hnil:k9 hn.lend=true:=by
    rcases hdep with h0 | h0
    ·exact h0
    ·have:hn.ids=[]:=by cases hl1:hn.ids with | nil=>rfl | cons _ _=>rw [hl1] at h0;simp [k9] at h0
     rw [this] at hi;cases hi
   have hok:=hpost k bp hpk
   have e3:(foot++new)[k]?=T' id:=by
    have:=congrFun hTc' k
    simp only [Tc,hk] at this
    exact this
   rw [e3,hTc'] at hok
   have hok2:=zDv hok (hbpost bp (List.mem_of_getElem? hpk))
   exact hok2.mono (Nat.le_refl _) (fun _ _ _=>rfl) (fun b hb' _=>hIimm hnil b hb') (fun _ _ h=>h) (fun _ _ _ _=>rfl)
  ·obtain ⟨hg,hl⟩:=outIds id bx hi hl
   refine .inl ⟨hl,hT'out id hi,?_⟩
   rintro b cap ⟨cap',hm⟩ hTi
   obtain ⟨k,id',bx',hk,hTi',hl'⟩:=hfootmem b cap' hm
   have:=hT.apart id id' bx bx' b cap cap' hl hl' hTi hTi'
   rcases hmem0 _ (List.mem_of_getElem? hk) with h' | h'
   ·exact hi (this ▸ h')
   ·exact hg (this ▸ h')
end Go.Ab

/- Maps of the call's own: made, looked up, written, counted. -/
namespace Go.Ab
open Go
theorem zA8 {k:KSh} {a:AV} (h:kc k a=true):a.pure=true∧a.one=true∧a.cells=[a]:=by
 cases a<;>cases k<;>simp_all [kc,AV.pure,AV.one,AV.cells]
theorem ZT {l m:List Int} (hl:∀ x∈l,0≤x∧x<256) (hm:∀ x∈m,0≤x∧x<256) (h:w9 l=w9 m):l=m:=by
 have h1:l.map (fun x=>UInt8.ofNat x.toNat)=m.map (fun x=>UInt8.ofNat x.toNat):=by
  unfold w9 at h
  have:=congrArg (fun b:ByteArray=>b.data.toList) h
  simpa using this
 clear h
 induction l generalizing m with
 | nil=>cases m with
  | nil=>rfl
  | cons b s=>simp at h1
 | cons a r ih =>
  cases m with
  | nil=>simp at h1
  | cons b s =>
   simp only [List.map_cons,List.cons.injEq] at h1
   have ha:=hl a (List.mem_cons_self ..)
   have hb:=hm b (List.mem_cons_self ..)
   have e1:a=b:=by
    have:=congrArg UInt8.toNat h1.1
    simp only [UInt8.toNat_ofNat'] at this
    omega
   rw [e1,ih (fun x hx=>hl x (List.mem_cons_of_mem _ hx)) (fun x hx=>hm x (List.mem_cons_of_mem _ hx)) h1.2]
theorem QP {w w':World} {I I':Nat→Prop} {T T':Tbl} {v v':Value} {a a':AV} {k:KSh} (h:Rep w I T v a) (h':Rep w' I' T' v' a') (hk:kc k a=true) (hk':kc k a'=true):v=v'↔a=a':=by
 cases k<;>cases a<;>simp [kc] at hk<;>cases a'<;>simp [kc] at hk'
 ·subst hk;subst hk'
  cases h;cases h';simp
 ·cases h;cases h';simp
 ·rename_i l m
  cases h with
  | str h1 h2 =>
   cases h' with
   | str g1 g2 =>
    simp only [Value.string.injEq,AV.str.injEq]
    exact ⟨ZT h1 g1,fun e=>by rw [e]⟩
theorem OA {ks:List KSh} {cs:List AV} (h:kcs ks cs=true):ks.length=cs.length∧∀ (j:Nat) (k:KSh) (c:AV),ks[j]?=some k→cs[j]?=some c→kc k c=true:=by
 induction ks generalizing cs with
 | nil=>cases cs with
  | nil=>exact ⟨rfl,fun j k c hj=>by simp at hj⟩
  | cons a s=>simp [kcs] at h
 | cons k r ih =>
  cases cs with
  | nil=>simp [kcs] at h
  | cons a s =>
   simp only [kcs,zba] at h
   obtain ⟨e1,e2⟩:=ih h.2
   refine ⟨by simp [e1],fun j k' c hj hc=>?_⟩
   cases j with
   | zero=>simp at hj hc;subst hj;subst hc;exact h.1
   | succ j=>exact e2 j k' c (by simpa using hj) (by simpa using hc)
theorem zAO {ag:Bool} {ks:List KSh} {a:AV} (h:uP ag ks a=true):a.pure=true:=by
 have hl:∀ (ks:List KSh) (cs:List AV),kcs ks cs=true→AV.pures cs=true:=by
  intro ks
  induction ks with
  | nil=>intro cs h;cases cs<;>simp_all [kcs,AV.pures]
  | cons k r ih =>
   intro cs h
   cases cs with
   | nil=>rfl
   | cons c s =>
    simp only [kcs,zba] at h
    simp [AV.pures,(zA8 h.1).1,ih s h.2]
 cases a with
 | agg cs=>simp only [uP,zba] at h;exact hl ks cs h.2
 | _ =>
  simp only [uP,zba] at h
  have:=hl _ _ h.2
  simpa [AV.pures] using this
theorem oX {w w':World} {I I':Nat→Prop} {T T':Tbl} {v v':Value} {a a':AV} {ag:Bool} {ks:List KSh} (h:Rep w I T v a) (h':Rep w' I' T' v' a') (hk:uP ag ks a=true) (hk':uP ag ks a'=true):v=v'↔a=a':=by
 have one:∀ {x:AV},(∀ cs,x≠.agg cs)→uP ag ks x=true→ag=false∧∃ k,ks=[k]∧kc k x=true:=by
  intro x hx hm
  have:(!ag&&kcs ks [x])=true:=by
   cases x<;>first | exact hm | exact absurd rfl (hx _)
  simp only [zba,Bool.not_eq_true'] at this
  refine ⟨this.1,?_⟩
  have h2:=this.2
  cases ks with
  | nil=>simp [kcs] at h2
  | cons k r=>cases r with
   | nil=>exact ⟨k,rfl,by simpa [kcs] using h2⟩
   | cons k' r'=>simp [kcs] at h2
 by_cases ha:∃ cs,a=.agg cs
 ·obtain ⟨cs,rfl⟩:=ha
  simp only [uP,zba] at hk
  by_cases ha':∃ cs,a'=.agg cs
  ·obtain ⟨cs',rfl⟩:=ha'
   simp only [uP,zba] at hk'
   obtain ⟨l1,c1⟩:=OA hk.2
   obtain ⟨l2,c2⟩:=OA hk'.2
   cases h with
   | agg s1 o1 r1 =>
    cases h' with
    | agg s2 o2 r2 =>
     rename_i vs vs'
     have pt:∀ j (hj:j<ks.length),vs.getD j undef=vs'.getD j undef↔cs[j]'(by omega)=cs'[j]'(by omega):=by
      intro j hj
      exact QP (r1 j _ (List.getElem?_eq_getElem (by omega))) (r2 j _ (List.getElem?_eq_getElem (by omega)))
       (c1 j _ _ (List.getElem?_eq_getElem hj) (List.getElem?_eq_getElem (by omega))) (c2 j _ _ (List.getElem?_eq_getElem hj) (List.getElem?_eq_getElem (by omega)))
     simp only [Value.agg.injEq,AV.agg.injEq]
     constructor
     ·intro e
      refine List.ext_getElem (by omega) fun j hj hj'=>?_
      exact (pt j (by omega)).1 (by rw [e])
     ·intro e
      refine Array.ext (by omega) fun j hj hj'=>?_
      have:=(pt j (by omega)).2 (by simp [e])
      simpa [Array.getD,hj,hj'] using this
  ·have:=one (fun cs hc=>ha' ⟨cs,hc⟩) hk'
   rw [this.1] at hk;simp at hk
 ·obtain ⟨g1,k,e1,e2⟩:=one (fun cs hc=>ha ⟨cs,hc⟩) hk
  by_cases ha':∃ cs,a'=.agg cs
  ·obtain ⟨cs',rfl⟩:=ha'
   simp only [uP,zba] at hk'
   rw [g1] at hk';simp at hk'
  ·obtain ⟨_,k',e1',e2'⟩:=one (fun cs hc=>ha' ⟨cs,hc⟩) hk'
   rw [e1] at e1'
   injection e1' with e1' _
   exact QP h h' e2 (e1' ▸ e2')
structure u9 (P:Program) (k:TypeId) (ag:Bool) (ks:List KSh):Prop where
 keyed:Maps.Keyed P k
 reads:∀ (w:World) (I:Nat→Prop) (T:Tbl) (v:Value) (a:AV),Rep w I T v a→uP ag ks a=true→∃ l,keyOf P k v=some l
def dG (l:List (AV×AV)) (key z av:AV) (g:Bool):Prop:=(∃ (i:Nat) (x:AV×AV),l[i]?=some x∧x.1=key∧av=x.2∧g=true)∨((∀ x∈l,x.1≠key)∧av=z∧g=false)
def iU (l:List (AV×AV)) (key val:AV) (l':List (AV×AV)):Prop:=(∃ (i:Nat) (x:AV×AV),l[i]?=some x∧x.1=key∧l'=l.set i (key,val))∨((∀ x∈l,x.1≠key)∧l'=l++[(key,val)])
section
variable {P:Program} {w:World} {I:Nat→Prop} {T:Tbl} {ag:Bool} {ks:List KSh} {l:List (AV×AV)} {E:Array MapEntry} {k:TypeId} {key:AV} {v:Value}
theorem zCX (K:u9 P k ag ks) (hE:E.size=l.length) (hk:∀ x∈l,uP ag ks x.1=true) (hr:∀ (i:Nat) (x:AV×AV),l[i]?=some x→∃ e:MapEntry,E[i]?=some e∧Rep w I Tbl.empty e.key x.1∧Rep w I Tbl.empty e.val x.2) :
  ∀ e∈E.toList,∃ t,keyOf P k e.key=some t:=by
 intro e he
 obtain ⟨i,hi⟩:=List.mem_iff_getElem?.1 he
 have hil:i<l.length:=by
  have:=(List.getElem?_eq_some_iff.1 hi).1
  simp at this;omega
 obtain ⟨e',h1,h2,_⟩:=hr i _ (List.getElem?_eq_getElem hil)
 rw [Array.getElem?_toList] at hi
 rw [hi] at h1;injection h1 with h1;subst h1
 exact K.reads _ _ _ _ _ h2 (hk _ (List.getElem_mem hil))
theorem EA (K:u9 P k ag ks) (hE:E.size=l.length) (hk:∀ x∈l,uP ag ks x.1=true) (hr:∀ (i:Nat) (x:AV×AV),l[i]?=some x→∃ e:MapEntry,E[i]?=some e∧Rep w I Tbl.empty e.key x.1∧Rep w I Tbl.empty e.val x.2)
  (hv:Rep w I T v key) (hm:uP ag ks key=true) :
  ((Instr.findKey k v E.toList).run P w=.ok none w∧(∀ e∈E.toList,e.key≠v)∧∀ x∈l,x.1≠key) ∨
  ∃ j e x,(Instr.findKey k v E.toList).run P w=.ok (some (j,e.val)) w∧E[j]?=some e∧e.key=v∧l[j]?=some x∧x.1=key∧Rep w I Tbl.empty e.val x.2:=by
 obtain ⟨t,ht⟩:=K.reads _ _ _ _ _ hv hm
 rcases K.keyed.find w ht E.toList (zCX K hE hk hr) with ⟨h1,h2⟩ | ⟨j,e,h1,h2,h3⟩
 ·refine .inl ⟨h1,h2,fun x hx hxk=>?_⟩
  obtain ⟨i,hi⟩:=List.mem_iff_getElem?.1 hx
  obtain ⟨e,e1,e2,_⟩:=hr i x hi
  have:=(oX e2 hv (hk x hx) hm).2 hxk
  exact h2 e (by rw [← Array.getElem?_toList] at e1;exact List.mem_of_getElem? e1) this
 ·rw [Array.getElem?_toList] at h2
  have hjl:j<l.length:=by
   rcases zlg j E.size with h' | h'
   ·omega
   ·rw [Array.getElem?_eq_none h'] at h2;cases h2
  obtain ⟨e',e1,e2,e3⟩:=hr j _ (List.getElem?_eq_getElem hjl)
  rw [h2] at e1;injection e1 with e1;subst e1
  exact .inr ⟨j,e,l[j],h1,h2,h3,List.getElem?_eq_getElem hjl,(oX e2 hv (hk _ (List.getElem_mem hjl)) hm).1 h3,e3⟩
theorem NL {clock:Nat} (hS:MapKept.Stamped E clock) {i j:Nat} {e e':MapEntry} (hi:E[i]?=some e) (hj:E[j]?=some e') (h:e.key=e'.key):i=j:=by
 have hp:=((MapKept.stamped_iff E clock).1 hS).2.2
 rw [List.pairwise_iff_getElem] at hp
 rw [← Array.getElem?_toList] at hi hj
 obtain ⟨hi1,hi2⟩:=List.getElem?_eq_some_iff.1 hi
 obtain ⟨hj1,hj2⟩:=List.getElem?_eq_some_iff.1 hj
 rcases Nat.lt_trichotomy i j with h' | h' | h'
 ·exact absurd (by rw [hi2,hj2];exact h) (hp i j hi1 hj1 h')
 ·exact h'
 ·exact absurd (by rw [hi2,hj2];exact h.symm) (hp j i hj1 hi1 h')
end
def lG (P:Program) (t:TypeId):Option (TypeId×TypeId):=match P.underlying t with | some (.map k e)=>some (k,e) | _=>none
theorem G0 {P:Program} {t k e:TypeId} (h:lG P t=some (k,e)):P.underlying t=some (.map k e):=by
 unfold lG at h;split at h<;>simp_all
def HN (P:Program) (e:TypeId):Option AV :=
 match dJ P e with
 | some z=>bif mA z then some (oK z) else none
 | none=>none
theorem TJ {P:Program} {e:TypeId} {z:AV} {w:World} {I:Nat→Prop} {T:Tbl} (h:HN P e=some z):∃ v,(zeroValue e).run P w=.ok v w∧Rep w I T v z:=by
 unfold HN at h
 split at h
 case h_2=>cases h
 rename_i zv hz
 replace h:=xJ h;obtain ⟨hc,h⟩:=h
 injection h with h;subst h
 refine ⟨zv,?_,NP hc⟩
 unfold dJ at hz
 split at hz
 ·rename_i i hi
  simp [zeroValue,typeInfo,hi,hz]
 ·cases hz
def LW (P:Program) (t:TypeId) (m key:AV) (ok:Bool) (B:Nat→yA) (h:xN):Option (List Prop×Nat×AV) :=
 match lG P t,m with
 | some (k,e),.mp id =>
  match B id,HN P e with
  | .live (.map ag ks l),some z=>bif uP ag ks key then some ([u9 P k ag ks,dG l key z h.av h.g],id,bif ok then .tuple [h.av,.bool h.g] else h.av) else none
  | _,_=>none
 | _,_=>none
theorem YA {P:Program} {N np:Nat} {o:Oper} {t:TypeId} {x y:Operand} {ok:Bool} {rs:List (Nat×AV)} {hn:xN} {B:Nat→yA} {r:List Prop×Nat×AV}
  (ho:o.op=.lookup t x y ok) (hx:xB x=true) (hy:xB y=true)
  (h:LW P t (xA rs x) (xA rs y) ok B hn=some r) (hv:∀ p∈r.1,p) (hd:uD N o.dst=true) :
  uO P N np o { rs:=rs,rb:=[(r.2.1,B r.2.1)],dst:=o.dst.map fun d=>(d,r.2.2) }:=by
 intro G st a w hN hnp hE ⟨T,hT⟩
 have hrx:=vO hT hE.1 hx
 have hry:=vO hT hE.1 hy
 unfold LW at h
 split at h
 case h_2=>cases h
 rename_i k e id hmt hX
 have hu:=G0 hmt
 rw [hX] at hrx
 split at h
 case h_2=>cases h
 rename_i ag ks l z hB hz
 replace h:=xJ h;obtain ⟨hkm,h⟩:=h
 injection h with h;subst h
 simp only at hE hv
 have K:u9 P k ag ks:=hv _ (by simp)
 have hL:dG l (xA rs y) z hn.av hn.g:=hv _ (by simp)
 have hb:st.box id=.live (.map ag ks l):=(hE.2 (id,B id) (by simp)).trans hB
 obtain ⟨b,E,clock,hp,hh,h1,h2,hS,h3,h4⟩:=hT.boxes id _ hb
 generalize he:a.eval x=vx at hrx
 cases hrx with
 | mp hTi =>
 rename_i b'
 rw [hTi] at hp;injection hp with hp;injection hp with hp1 hp2;subst hp1
 obtain ⟨t',ht'⟩:=K.reads _ _ _ _ _ hry hkm
 have key:∃ v,Rep w (imm G st T) T v hn.av∧(Instr.lookup t (.map (some b')) (a.eval y) ok).run P w=.ok (if ok then .tuple #[v,.bool hn.g] else v) w:=by
  rcases EA K h1 h3 h4 hry hkm with ⟨f1,f2,f3⟩ | ⟨j,e',x',f1,f2,f3,f4,f5,f6⟩
  ·obtain ⟨zv,hzr,hzrep⟩:=TJ (w:=w) (I:=imm G st T) (T:=T) hz
   rcases hL with ⟨i,x',g1,g2,_⟩ | ⟨_,g1,g2⟩
   ·exact absurd g2 (f3 x' (List.mem_of_getElem? g1))
   ·refine ⟨zv,g1 ▸ hzrep,?_⟩
    rw [g2]
    simp [Instr.lookup,run_underlying hu,MapKept.run_getObj_map hh,K.keyed.check w _ ht',f1,hzr,Result.andThen]
  ·rcases hL with ⟨i,x2,g1,g2,g3,g4⟩ | ⟨g0,_⟩
   ·obtain ⟨e2,k1,k2,k3⟩:=h4 i x2 g1
    have hkv:=(oX k2 hry (h3 x2 (List.mem_of_getElem? g1)) hkm).2 g2
    have:=NL hS f2 k1 (f3.trans hkv.symm)
    subst this
    rw [f2] at k1;injection k1 with k1;subst k1
    refine ⟨e'.val,g3 ▸ (k3.mono (Nat.le_refl _) (fun _ _ _=>rfl) (fun _ h _=>h) (fun _ _ h=>by cases h)),?_⟩
    rw [g4]
    simp [Instr.lookup,run_underlying hu,MapKept.run_getObj_map hh,K.keyed.check w _ ht',f1,Result.andThen]
   ·exact absurd f5 (g0 x' (List.mem_of_getElem? f4))
 obtain ⟨v,hrep,hrun⟩:=key
 refine uR (v:=if ok then .tuple #[v,.bool hn.g] else v) (w':=w) ?_ ?_
 ·simp only [execOp,ho,he,Sem.run_bind,hrun,Result.andThen_ok]
  rfl
 ·refine hT.quiet (jN w) rfl (by simp [Option.map_map,Function.comp_def]) ?_
  intro d av' he'
  obtain ⟨hlt,rfl⟩:=uH hd he'
  refine ⟨by omega,?_⟩
  cases ok
  ·exact hrep
  ·refine .tuple (by simp) fun j c hj=>?_
   match j with
   | 0=>simp at hj;subst hj;exact hrep
   | 1=>simp at hj;subst hj;exact .bool
   | j+2=>simp at hj
def M2 (P:Program) (t:TypeId) (m key:AV) (ok:Bool) (h:xN):Option (List Prop×AV) :=
 match lG P t,m with
 | some (k,e),.fm _ l =>
  match HN P e with
  | some z=>bif uP h.mag h.mks key then some ([u9 P k h.mag h.mks,dG l key z h.av h.g,∀ x∈l,uP h.mag h.mks x.1=true],bif ok then .tuple [h.av,.bool h.g] else h.av) else none
  | none=>none
 | _,_=>none
theorem zA0 {P:Program} {N np:Nat} {o:Oper} {t:TypeId} {x y:Operand} {ok:Bool} {rs:List (Nat×AV)} {hn:xN} {r:List Prop×AV}
  (ho:o.op=.lookup t x y ok) (hx:xB x=true) (hy:xB y=true)
  (h:M2 P t (xA rs x) (xA rs y) ok hn=some r) (hv:∀ p∈r.1,p) (hd:uD N o.dst=true) :
  uO P N np o { rs:=rs,dst:=o.dst.map fun d=>(d,r.2) }:=by
 intro G st a w hN hnp hE ⟨T,hT⟩
 have hrx:=vO hT hE.1 hx
 have hry:=vO hT hE.1 hy
 unfold M2 at h
 split at h
 case h_2=>cases h
 rename_i k e n l hmt hX
 have hu:=G0 hmt
 rw [hX] at hrx
 split at h
 case h_2=>cases h
 rename_i z hz
 replace h:=xJ h;obtain ⟨hkm,h⟩:=h
 injection h with h;subst h
 simp only at hE hv
 have K:u9 P k hn.mag hn.mks:=hv _ (by simp)
 have hL:dG l (xA rs y) z hn.av hn.g:=hv _ (by simp)
 have h3:∀ x∈l,uP hn.mag hn.mks x.1=true:=hv _ (by simp)
 obtain ⟨t',ht'⟩:=K.reads _ _ _ _ _ hry hkm
 obtain ⟨zv,hzr,hzrep⟩:=TJ (w:=w) (I:=imm G st T) (T:=T) hz
 generalize he:a.eval x=vx at hrx
 have key:∃ v,Rep w (imm G st T) T v hn.av∧(Instr.lookup t vx (a.eval y) ok).run P w=.ok (if ok then .tuple #[v,.bool hn.g] else v) w:=by
  cases hrx with
  | fm0 =>
   rcases hL with ⟨i,x',g1,g2,_⟩ | ⟨_,g1,g2⟩
   ·simp at g1
   ·refine ⟨zv,g1 ▸ hzrep,?_⟩
    rw [g2]
    rcases EA (E:=#[]) (l:=[]) K rfl h3 (fun i x hx=>by simp at hx) hry hkm with ⟨f1,_,_⟩ | ⟨j,_,_,_,f2,_⟩
    ·simp [Instr.lookup,run_underlying hu,K.keyed.check w _ ht',f1,hzr,Result.andThen]
    ·simp at f2
  | fm gk gv h1 h2 hS hI hlt hh hent hk hvv =>
   rename_i b E clock
   have h4:∀ (i:Nat) (x:AV×AV),l[i]?=some x→∃ e:MapEntry,E[i]?=some e∧Rep w (imm G st T) Tbl.empty e.key x.1∧Rep w (imm G st T) Tbl.empty e.val x.2:=by
    intro i x hx
    obtain ⟨s,hs⟩:=hent i x hx
    exact ⟨_,hs,hk i x hx,hvv i x hx⟩
   rcases EA K h1 h3 h4 hry hkm with ⟨f1,f2,f3⟩ | ⟨j,e',x',f1,f2,f3,f4,f5,f6⟩
   ·rcases hL with ⟨i,x',g1,g2,_⟩ | ⟨_,g1,g2⟩
    ·exact absurd g2 (f3 x' (List.mem_of_getElem? g1))
    ·refine ⟨zv,g1 ▸ hzrep,?_⟩
     rw [g2]
     simp [Instr.lookup,run_underlying hu,MapKept.run_getObj_map hh,K.keyed.check w _ ht',f1,hzr,Result.andThen]
   ·rcases hL with ⟨i,x2,g1,g2,g3,g4⟩ | ⟨g0,_⟩
    ·obtain ⟨e2,k1,k2,k3⟩:=h4 i x2 g1
     have hkv:=(oX k2 hry (h3 x2 (List.mem_of_getElem? g1)) hkm).2 g2
     have:=NL hS f2 k1 (f3.trans hkv.symm)
     subst this
     rw [f2] at k1;injection k1 with k1;subst k1
     refine ⟨e'.val,g3 ▸ (k3.mono (Nat.le_refl _) (fun _ _ _=>rfl) (fun _ h _=>h) (fun _ _ h=>by cases h)),?_⟩
     rw [g4]
     simp [Instr.lookup,run_underlying hu,MapKept.run_getObj_map hh,K.keyed.check w _ ht',f1,Result.andThen]
    ·exact absurd f5 (g0 x' (List.mem_of_getElem? f4))
 obtain ⟨v,hrep,hrun⟩:=key
 refine uR (v:=if ok then .tuple #[v,.bool hn.g] else v) (w':=w) ?_ ?_
 ·simp only [execOp,ho,he,Sem.run_bind,hrun,Result.andThen_ok]
  rfl
 ·refine hT.quiet (jN w) rfl (by simp [Option.map_map,Function.comp_def]) ?_
  intro d av' he'
  obtain ⟨hlt,rfl⟩:=uH hd he'
  refine ⟨by omega,?_⟩
  cases ok
  ·exact hrep
  ·refine .tuple (by simp) fun j c hj=>?_
   match j with
   | 0=>simp at hj;subst hj;exact hrep
   | 1=>simp at hj;subst hj;exact .bool
   | j+2=>simp at hj
theorem zCj {P:Program} {N np:Nat} {o:Oper} {t:TypeId} {rs:List (Nat×AV)} {hn:xN} (ho:o.op=.makeMap t none) (hd:uD N o.dst=true) :
  uO P N np o { rs:=rs,rb:=[(hn.id,.unused)],dst:=o.dst.map fun d=>(d,.mp hn.id),wb:=[(hn.id,.live (.map hn.mag hn.mks []))] }:=by
 intro G st a w hN hnp hE ⟨T,hT⟩
 have hu:st.box hn.id=.unused:=hE.2 (hn.id,.unused) (by simp)
 refine uR (v:=.map (some w.heap.size)) (w':=w.alloc (.map #[] 0)) ?_ ?_
 ·simp [execOp,ho,run_makeMap_plain,Result.andThen]
 ·refine hT.new (p:=.at w.heap.size 0) (DE _ _) rfl hu (by simp [Option.map_map,Function.comp_def]) (fun b c hp=>by injection hp with hp;omega) ?_ ?_
  ·exact ⟨w.heap.size,#[],0,rfl,heap_alloc_new w _,rfl,by simp,MapKept.stamped_empty 0,by simp,fun i x hx=>by simp at hx⟩
  ·intro d av he
   obtain ⟨hlt,rfl⟩:=uH hd he
   exact ⟨by omega,.mp (Tbl.put_same _ _ _)⟩
def J5 (P:Program) (t:TypeId) (m key v:AV) (B:Nat→yA) (h:xN):Option (List Prop×Nat×Box) :=
 match lG P t,m with
 | some (k,_),.mp id =>
  match B id with
  | .live (.map ag ks l)=>bif uP ag ks key&&v.pure then some ([u9 P k ag ks,iU l key v h.es,l.length<maxLen],id,.map ag ks h.es) else none
  | _=>none
 | _,_=>none
theorem ZY {P:Program} {N np:Nat} {o:Oper} {t:TypeId} {x y z:Operand} {rs:List (Nat×AV)} {hn:xN} {B:Nat→yA} {r:List Prop×Nat×Box}
  (ho:o.op=.mapUpdate t x y z) (hx:xB x=true) (hy:xB y=true) (hz:xB z=true)
  (h:J5 P t (xA rs x) (xA rs y) (xA rs z) B hn=some r) (hv:∀ p∈r.1,p) (hd:o.dst=none) :
  uO P N np o { rs:=rs,rb:=[(r.2.1,B r.2.1)],wb:=[(r.2.1,.live r.2.2)] }:=by
 intro G st a w hN hnp hE ⟨T,hT⟩
 have hrx:=vO hT hE.1 hx
 have hry:=vO hT hE.1 hy
 have hrz:=vO hT hE.1 hz
 unfold J5 at h
 split at h
 case h_2=>cases h
 rename_i k e id hmt hX
 have hu:=G0 hmt
 rw [hX] at hrx
 split at h
 case h_2=>cases h
 rename_i ag ks l hB
 replace h:=xJ h;obtain ⟨hc,h⟩:=h
 simp only [zba] at hc
 obtain ⟨hkm,hpure⟩:=hc
 injection h with h;subst h
 simp only at hE hv
 have K:u9 P k ag ks:=hv _ (by simp)
 have hL:iU l (xA rs y) (xA rs z) hn.es:=hv _ (by simp)
 have hmax:l.length<maxLen:=hv _ (by simp)
 have hb:st.box id=.live (.map ag ks l):=(hE.2 (id,B id) (by simp)).trans hB
 obtain ⟨b,E,clock,hp,hh,h1,h2,hS,h3,h4⟩:=hT.boxes id _ hb
 generalize he:a.eval x=vx at hrx
 cases hrx with
 | mp hTi =>
 rename_i b'
 have hp0:=hp
 rw [hTi] at hp;injection hp with hp;injection hp with hp1 hp2;subst hp1
 obtain ⟨t',ht'⟩:=K.reads _ _ _ _ _ hry hkm
 have hrk:Rep w (imm G st T) Tbl.empty (a.eval y) (xA rs y):=hry.bare (zAO hkm)
 have hrv:Rep w (imm G st T) Tbl.empty (a.eval z) (xA rs z):=hrz.bare hpure
 have fin:∀ (E':Array MapEntry) (clock':Nat),(Instr.mapUpdate t (.map (some b')) (a.eval y) (a.eval z)).run P w=.ok () (ChangeMaps.setBlock w b' (.map E' clock'))→E'.size=hn.es.length→hn.es.length≤maxLen→MapKept.Stamped E' clock' →
   (∀ x∈hn.es,uP ag ks x.1=true)→(∀ (i:Nat) (x:AV×AV),hn.es[i]?=some x→∃ e:MapEntry,E'[i]?=some e∧Rep w (imm G st T) Tbl.empty e.key x.1∧Rep w (imm G st T) Tbl.empty e.val x.2) →
   o.wp P a w (fun a' w'=>Rel G (st.upd { rs:=rs,rb:=[(id,B id)],wb:=[(id,.live (.map ag ks hn.es))] }) a' w') (fun _ _ _=>False):=by
  intro E' clock' hrun k1 k2 k3 k4 k5
  have hex:(execOp a.eval o).run P w=.ok .skip (ChangeMaps.setBlock w b' (.map E' clock')):=by
   simp only [execOp,ho,he,Sem.run_bind,hrun,Result.andThen_ok]
   rfl
  unfold Oper.wp
  rw [hex]
  show Rel G _ (a.put o.dst undef) _
  ·refine hT.write hb hTi ⟨rfl,rfl,rfl,by simp [ChangeMaps.setBlock],fun i _ hi=>ChangeMaps.heap_setBlock_other hh _ (fun e=>hi (by rw [e]))⟩ rfl (by rw [hd];rfl) ?_ (fun d av he=>by cases he)
   rw [hp0]
   refine ⟨b',E',clock',by rw [← hp0,hTi],ChangeMaps.heap_setBlock_same hh _,k1,k2,k3,k4,fun i x hx=>?_⟩
   obtain ⟨e',q1,q2,q3⟩:=k5 i x hx
   have hmono:∀ {v av},Rep w (imm G st T) Tbl.empty v av→Rep (ChangeMaps.setBlock w b' (.map E' clock')) (imm G st T) Tbl.empty v av:=fun h =>
    h.mono (by simp [ChangeMaps.setBlock]) (fun c hc _=>ChangeMaps.heap_setBlock_other hh _ (fun e=>hc.2 id _ 0 hb (by rw [e];exact hTi))) (fun _ h _=>h) (fun _ _ h=>h)
   exact ⟨e',q1,hmono q2,hmono q3⟩
 rcases EA K h1 h3 h4 hry hkm with ⟨f1,f2,f3⟩ | ⟨j,e',x',f1,f2,f3,f4,f5,f6⟩
 ·rcases hL with ⟨i,x',g1,g2,_⟩ | ⟨_,g1⟩
  ·exact absurd g2 (f3 x' (List.mem_of_getElem? g1))
  ·refine fin (E.push ⟨a.eval y,a.eval z,clock⟩) (clock+1) ?_ (by rw [g1];simp [h1]) (by rw [g1];simp;omega) (MapKept.stamped_push hS f2) ?_ ?_
   ·simp [Instr.mapUpdate,run_underlying hu,MapKept.run_getObj_map hh,K.keyed.check w _ ht',f1,MapKept.run_setObj_map _ hh,Result.andThen,ChangeMaps.setBlock]
   ·intro x hx
    rw [g1] at hx
    rcases List.mem_append.1 hx with hx | hx
    ·exact h3 x hx
    ·rw [List.mem_singleton.1 hx];exact hkm
   ·intro i x hx
    rw [g1] at hx
    rcases zlg i l.length with hlt | hge
    ·rw [List.getElem?_append_left hlt] at hx
     obtain ⟨e2,q1,q2,q3⟩:=h4 i x hx
     exact ⟨e2,by rw [Array.getElem?_push,if_neg (by omega)];exact q1,q2,q3⟩
    ·rw [List.getElem?_append_right hge] at hx
     have hi:i=l.length:=by
      rcases zlg (i - l.length) 1 with h' | h'
      ·omega
      ·rw [List.getElem?_eq_none (by simpa using h')] at hx;cases hx
     subst hi
     simp at hx;subst hx
     exact ⟨⟨a.eval y,a.eval z,clock⟩,by rw [Array.getElem?_push,if_pos h1.symm],hrk,hrv⟩
 ·rcases hL with ⟨i,x2,g1,g2,g3⟩ | ⟨g0,_⟩
  ·obtain ⟨e2,k1,k2,k3⟩:=h4 i x2 g1
   have hkv:=(oX k2 hry (h3 x2 (List.mem_of_getElem? g1)) hkm).2 g2
   have:=NL hS f2 k1 (f3.trans hkv.symm)
   subst this
   have hil:j<l.length:=(List.getElem?_eq_some_iff.1 f4).1
   refine fin (E.modify j fun e=>{ e with key:=a.eval y,val:=a.eval z }) clock ?_ (by rw [g3];simp [h1]) (by rw [g3];simp;omega) (MapKept.stamped_modify hS _ _ (fun _ _=>rfl) (fun e3 _ he3=>by rw [f2] at he3;injection he3 with he3;subst he3;exact f3.symm)) ?_ ?_
   ·simp [Instr.mapUpdate,run_underlying hu,MapKept.run_getObj_map hh,K.keyed.check w _ ht',f1,f2,f3,K.keyed.stays w ht',MapKept.run_setObj_map _ hh,Result.andThen,ChangeMaps.setBlock]
   ·intro x hx
    rw [g3] at hx
    rcases List.mem_or_eq_of_mem_set hx with hx | hx
    ·exact h3 x hx
    ·rw [hx];exact hkm
   ·intro i x hx
    rw [g3,List.getElem?_set] at hx
    by_cases hij:j=i
    ·subst hij
     rw [if_pos rfl,if_pos hil] at hx
     injection hx with hx;subst hx
     exact ⟨{ e' with key:=a.eval y,val:=a.eval z },by rw [Array.getElem?_modify,if_pos rfl,f2];rfl,hrk,hrv⟩
    ·rw [if_neg hij] at hx
     obtain ⟨e2,q1,q2,q3⟩:=h4 i x hx
     exact ⟨e2,by rw [Array.getElem?_modify,if_neg hij];exact q1,q2,q3⟩
  ·exact absurd f5 (g0 x' (List.mem_of_getElem? f4))
def Q3 (P:Program) (t:TypeId) (m:AV) (B:Nat→yA):Option (Nat×Nat) :=
 match lG P t,m with
 | some _,.mp id=>match B id with
  | .live (.map _ _ l)=>some (l.length,id)
  | _=>none
 | _,_=>none
def ND (P:Program) (t:TypeId) (m:AV) (B:Nat→yA) (h:xN):Option (List Prop×Nat×AV) :=
 match Q3 P t m B with
 | some (n,id)=>some ([(n:Int)=(h.n:Int)],id,.int .i64 (h.n:Int))
 | none=>none
def GO (P:Program) (t:TypeId) (m:AV) (B:Nat→yA):Option (Nat×AV) :=
 match lG P t,m with
 | some _,.mp id=>match B id with
  | .live (.map _ _ l)=>some (id,.int .i64 (l.length:Int))
  | _=>none
 | _,_=>none
theorem XQ {P:Program} {N np:Nat} {o:Oper} {t:TypeId} {x:Operand} {rs:List (Nat×AV)} {B:Nat→yA} {r:Nat×AV}
  (ho:o.op=.call { callee:=.builtin .len,args:=#[x],argTypes:=#[t] }) (hx:xB x=true)
  (h:GO P t (xA rs x) B=some r) (hd:uD N o.dst=true) :
  uO P N np o { rs:=rs,rb:=[(r.1,B r.1)],dst:=o.dst.map fun d=>(d,r.2) }:=by
 intro G st a w hN hnp hE ⟨T,hT⟩
 have hrx:=vO hT hE.1 hx
 unfold GO at h
 split at h
 case h_2=>cases h
 rename_i kk id hmt hX
 obtain ⟨k,e⟩:=kk
 have hu:=G0 hmt
 rw [hX] at hrx
 split at h
 case h_2=>cases h
 rename_i ag ks l hB
 injection h with h;subst h
 simp only at hE
 have hb:st.box id=.live (.map ag ks l):=(hE.2 (id,B id) (by simp)).trans hB
 obtain ⟨b,E,clock,hp,hh,h1,h2,hS,h3,h4⟩:=hT.boxes id _ hb
 generalize he:a.eval x=vx at hrx
 cases hrx with
 | mp hTi =>
 rename_i b'
 rw [hTi] at hp;injection hp with hp;injection hp with hp1 hp2;subst hp1
 refine uR (v:=.int .i64 (l.length:Int)) (w':=w) ?_ ?_
 ·simp [execOp,ho,he,resolve,invoke,builtin,Builtin.len_,run_underlying hu,MapKept.run_getObj_map hh,Result.andThen,h1,goInt]
 ·refine hT.quiet (jN w) rfl (by simp [Option.map_map,Function.comp_def]) ?_
  intro d av' he'
  obtain ⟨hlt,rfl⟩:=uH hd he'
  refine ⟨by omega,.int ?_⟩
  rw [qC] at h2
  refine iD _ _ ?_
  simp only [IntKind.signed,IntKind.bits]
  simp
  omega
theorem WE {P:Program} {N np:Nat} {o:Oper} {t:TypeId} {x:Operand} {rs:List (Nat×AV)} {B:Nat→yA} {hn:xN} {r:List Prop×Nat×AV}
  (ho:o.op=.call { callee:=.builtin .len,args:=#[x],argTypes:=#[t] }) (hx:xB x=true)
  (h:ND P t (xA rs x) B hn=some r) (hv:∀ p∈r.1,p) (hd:uD N o.dst=true) :
  uO P N np o { rs:=rs,rb:=[(r.2.1,B r.2.1)],dst:=o.dst.map fun d=>(d,r.2.2) }:=by
 unfold ND at h
 split at h
 case h_2=>cases h
 rename_i n id h0
 injection h with h;subst h
 have e:(n:Int)=(hn.n:Int):=hv _ (by simp)
 unfold Q3 at h0
 split at h0
 case h_2=>cases h0
 rename_i kk id' hmt hX
 split at h0
 case h_2=>cases h0
 rename_i ag ks l hB
 simp only [Option.some.injEq,Prod.mk.injEq] at h0
 obtain ⟨rfl,rfl⟩:=h0
 have hold:GO P t (xA rs x) B=some (id',.int .i64 (l.length:Int)):=by
  unfold GO;rw [hmt,hX];simp only [hB]
 have:=XQ (N:=N) (np:=np) ho hx hold hd
 simp only [e] at this
 exact this
end Go.Ab

/- Structs and arrays compared. -/
namespace Go.Ab
open Go
structure pF (P:Program) (t:TypeId) (ks:List KSh):Prop where
 key:u9 P t true ks
 guard:P.eqGuardType P.depth t=false
 eq:∀ (w:World) (x y:Value) (lx ly:Lit),keyOf P t x=some lx→keyOf P t y=some ly→∃ r:Bool,(Op.equal t x y).run P w=.ok r w∧(r=true↔lx=ly)
theorem EY {P:Program} {t:TypeId} {ks:List KSh} (K:u9 P t true ks) (hk:(P.keyTypeAt 100 t&&!(P.eqGuardType P.depth t))=true)
  (hw:(match P.underlying t with | some (.array _ _) | some (.struct _)=>true | _=>false)=true):pF P t ks:=by
 simp only [zba,Bool.not_eq_true'] at hk
 exact ⟨K,hk.2,fun w x y lx ly hx hy=>run_equal_deep w (m:=100) (by omega) hk.1 hw hx hy⟩
def JS (P:Program) (op:BinOp) (t:TypeId) (x y:AV) (h:xN):Option (List Prop×AV) :=
 match x,y with
 | .agg cs,.agg ds =>
  bif kcs h.mks cs&&kcs h.mks ds then
   match op with
   | .eql=>some ([pF P t h.mks,(h.b=true↔AV.agg cs=AV.agg ds)],.bool h.b)
   | .neq=>some ([pF P t h.mks,(h.b=true↔AV.agg cs=AV.agg ds)],.bool !h.b)
   | _=>none
  else none
 | _,_=>none
theorem TE {P:Program} {op:BinOp} {t:TypeId} {x y:Operand} {w:World} {X Y:Array Value} (h:P.eqGuardType P.depth t=false) :
  (eqGuard op t x y (.agg X) (.agg Y)).run P w=.ok () w:=by
 unfold eqGuard
 cases op<;>simp [h]
theorem zCQ {P:Program} {N np:Nat} {o:Oper} {op:BinOp} {t yT:TypeId} {x y:Operand} {rs:List (Nat×AV)} {hn:xN} {r:List Prop×AV}
  (ho:o.op=.binOp op t x y yT) (hx:xB x=true) (hy:xB y=true)
  (h:JS P op t (xA rs x) (xA rs y) hn=some r) (hv:∀ p∈r.1,p) (hd:uD N o.dst=true) :
  uO P N np o { rs:=rs,dst:=o.dst.map fun d=>(d,r.2) }:=by
 intro G st a w hN hnp hE ⟨T,hT⟩
 have hrx:=vO hT hE.1 hx
 have hry:=vO hT hE.1 hy
 unfold JS at h
 split at h
 case h_2=>cases h
 rename_i cs ds hX hY
 rw [hX] at hrx
 rw [hY] at hry
 replace h:=xJ h;obtain ⟨hc,h⟩:=h
 simp only [zba] at hc
 have m1:uP true hn.mks (.agg cs)=true:=by simp [uP,hc.1]
 have m2:uP true hn.mks (.agg ds)=true:=by simp [uP,hc.2]
 have key:∀ (K:pF P t hn.mks),(hn.b=true↔AV.agg cs=AV.agg ds)→∃ X Y,a.eval x=.agg X∧a.eval y=.agg Y∧(Op.equal t (a.eval x) (a.eval y)).run P w=.ok hn.b w:=by
  intro K hb
  obtain ⟨lx,hlx⟩:=K.key.reads _ _ _ _ _ hrx m1
  obtain ⟨ly,hly⟩:=K.key.reads _ _ _ _ _ hry m2
  obtain ⟨q,hq,hiff⟩:=K.eq w _ _ lx ly hlx hly
  have e:q=hn.b:=by
   rw [Bool.eq_iff_iff,hiff,hb,← oX hrx hry m1 m2]
   constructor
   ·intro h;subst h;exact K.key.keyed.inj hlx hly
   ·intro h;rw [h,hly] at hlx;injection hlx with hlx;exact hlx.symm
  generalize hvx:a.eval x=vx at *
  generalize hvy:a.eval y=vy at *
  cases hrx with
  | agg _ _ _ =>
   cases hry with
   | agg _ _ _=>exact ⟨_,_,rfl,rfl,e ▸ hq⟩
 split at h
 ·injection h with h;subst h
  have K:pF P t hn.mks:=hv _ (by simp)
  obtain ⟨X,Y,e1,e2,hrun⟩:=key K (hv _ (by simp))
  rw [e1,e2] at hrun
  refine uR (pK (v:=.bool hn.b) ho e1 e2 (TE K.guard) (by simp [binOp,hrun,Result.andThen])) (hT.quiet (jN w) rfl (by simp [Option.map_map,Function.comp_def]) ?_)
  intro d av' he'
  obtain ⟨hlt,rfl⟩:=uH hd he'
  exact ⟨by omega,.bool⟩
 ·injection h with h;subst h
  have K:pF P t hn.mks:=hv _ (by simp)
  obtain ⟨X,Y,e1,e2,hrun⟩:=key K (hv _ (by simp))
  rw [e1,e2] at hrun
  refine uR (pK (v:=.bool !hn.b) ho e1 e2 (TE K.guard) (by simp [binOp,hrun,Result.andThen])) (hT.quiet (jN w) rfl (by simp [Option.map_map,Function.comp_def]) ?_)
  intro d av' he'
  obtain ⟨hlt,rfl⟩:=uH hd he'
  exact ⟨by omega,.bool⟩
 ·cases h
end Go.Ab

/- Further operations: the capacity of a nil slice, a nil slice cut, zeros appended to a nil slice, a row of the call's own cut short. -/
namespace Go.Ab
open Go
def G2 (P:Program) (t:TypeId):Bool:=match P.underlying t with | some (.int _)=>true | _=>false
def gP (P:Program) (t:TypeId):Bool:=match P.underlying t with | some (.slice e)=>vR P e | _=>false
theorem N4 {P:Program} {t:TypeId} (h:gP P t=true):∃ e,P.underlying t=some (.slice e)∧vR P e=true:=by
 unfold gP at h
 split at h
 ·exact ⟨_,by assumption,h⟩
 ·cases h
def xop (P:Program) (o:Oper) (rs:List (Nat×AV)) (B:Nat→yA) (h:xN):Option (List Prop×Eff) :=
 match o.op with
 | .call { callee:=.builtin b,args:=args,argTypes:=ts } =>
  match b,args.toList,ts.toList with
  | .cap,[x],[t] =>
   bif xB x&&gP P t then
    match xA rs x with
    | .nilsl=>some ([],{ rs:=rs,dst:=o.dst.map fun d=>(d,.int .i64 0) })
    | _=>none
   else none
  | .append,[x,y],[t,t2] =>
   bif (xB x&&xB y)&&(pQ (B h.id)&&G2 P t2) then
    match xA rs x,xA rs y,aZ P t with
    | .nilsl,.int _ n,some e=>some ([n=h.n,0<h.n,h.n * qV P e≤140737488355328],
      { rs:=rs,rb:=[(h.id,.unused)],dst:=o.dst.map fun d=>(d,.own h.id h.n),wb:=[(h.id,.live (.row e (szT P e) []))] })
    | _,_,_=>none
   else none
  | _,_,_=>none
 | .slice t x none (some y) none =>
  bif (xB x&&xB y)&&gP P t then
   match xA rs x,xA rs y with
   | .nilsl,.int _ n=>some ([n=0],{ rs:=rs,dst:=o.dst.map fun d=>(d,.nilsl) })
   | .own id n,.int _ m =>
    match B id with
    | .live (.row e sz l)=>some ([m=h.n,h.n≤n,h.l=l.take h.n],{ rs:=rs,rb:=[(id,B id)],dst:=o.dst.map fun d=>(d,.own id h.n),wb:=[(id,.live (.row e sz h.l))] })
    | _=>none
   | _,_=>none
  else none
 | .binOp .eql t x y _ =>
  bif (xB x&&xB y)&&rQ P t then
   match xA rs x,xA rs y with
   | .own id _,.nilsl =>
    match B id with
    | .live (.row _ _ l)=>some ([],{ rs:=rs,rb:=[(id,B id)],dst:=o.dst.map fun d=>(d,.nb l) })
    | _=>none
   | _,_=>none
  else none
 | _=>none
theorem zCk {P:Program} {N np:Nat} {o:Oper} {x y:Operand} {t t2:TypeId} {rs:List (Nat×AV)} {B:Nat→yA} {id m e sz:Nat} {l:List AV}
  (ho:o.op=.binOp .eql t x y t2) (hx:xB x=true) (hy:xB y=true) (ht:rQ P t=true) (hX:xA rs x=.own id m) (hY:xA rs y=.nilsl) (hB:B id=.live (.row e sz l)) (hd:uD N o.dst=true) :
  uO P N np o { rs:=rs,rb:=[(id,B id)],dst:=o.dst.map fun d=>(d,.nb l) }:=by
 intro G st a w hN hnp hE ⟨T,hT⟩
 have hrx:=vO hT hE.1 hx
 have hry:=vO hT hE.1 hy
 rw [hX] at hrx
 rw [hY] at hry
 have hb:st.box id=.live (.row e sz l):=(hE.2 (id,B id) (by simp)).trans hB
 have hbox:=hT.boxes id _ hb
 generalize hvx:a.eval x=vx at hrx
 generalize hvy:a.eval y=vy at hry
 obtain ⟨e',he⟩:=SK ht
 have hy':vy=.slice none 0 0:=by
  generalize hn:AV.nilsl=n at hry
  cases hry<;>first | rfl | cases hn
 subst hy'
 have fin:∀ q:Bool,(q=true→l=[])→(execOp a.eval o).run P w=.ok (.value (.bool q)) w→o.wp P a w (fun a' w'=>Rel G (st.upd { rs:=rs,rb:=[(id,B id)],dst:=o.dst.map fun d=>(d,.nb l) }) a' w') (fun _ _ _=>False):=by
  intro q hq hrun
  refine uR hrun ?_
  refine hT.quiet (jN w) rfl (by simp [Option.map_map,Function.comp_def]) ?_
  intro d av hE'
  obtain ⟨hlt,rfl⟩:=uH hd hE'
  exact ⟨by omega,.nb hq⟩
 cases hrx with
 | ownNil hTi =>
  have hnil:l=[]:=by
   rcases hbox with ⟨_,h⟩ | ⟨b,cap,C,hp,_⟩
   ·exact h
   ·rw [hTi] at hp;cases hp
  exact fin _ (fun _=>hnil) (pK ho hvx hvy (nU trivial) (Lib.run_eql_slice_nil w t e' _ _ _ _ _ he))
 | own hTi h1 h2=>exact fin _ (fun h=>by cases h) (pK ho hvx hvy (nU trivial) (Lib.run_eql_slice_nil w t e' _ _ _ _ _ he))
theorem zD8 {P:Program} {N np:Nat} {o:Oper} {x:Operand} {t:TypeId} {rs:List (Nat×AV)}
  (ho:o.op=.call { callee:=.builtin .cap,args:=#[x],argTypes:=#[t] }) (hx:xB x=true) (ht:gP P t=true) (hX:xA rs x=.nilsl) (hd:uD N o.dst=true) :
  uO P N np o { rs:=rs,dst:=o.dst.map fun d=>(d,.int .i64 0) }:=by
 intro G st a w hN hnp hE ⟨T,hT⟩
 have hrx:=vO hT hE.1 hx
 rw [hX] at hrx
 generalize hvx:a.eval x=vx at hrx
 cases hrx with
 | nilsl =>
 obtain ⟨e,he,_⟩:=N4 ht
 refine uR (v:=.int .i64 0) (w':=w) ?_ ?_
 ·simp [execOp,ho,resolve,invoke,builtin,hvx,Builtin.cap_,run_underlying he,goInt]
 ·refine hT.quiet (jN w) rfl (by simp [Option.map_map,Function.comp_def]) ?_
  intro d av hE'
  obtain ⟨hlt,rfl⟩:=uH hd hE'
  exact ⟨by omega,.int rfl⟩
theorem zBV {P:Program} {N np:Nat} {o:Oper} {x y:Operand} {t:TypeId} {rs:List (Nat×AV)} {k:IntKind} {n:Int}
  (ho:o.op=.slice t x none (some y) none) (hx:xB x=true) (hy:xB y=true) (ht:gP P t=true) (hX:xA rs x=.nilsl) (hY:xA rs y=.int k n) (hn:n=0) (hd:uD N o.dst=true) :
  uO P N np o { rs:=rs,dst:=o.dst.map fun d=>(d,.nilsl) }:=by
 intro G st a w hN hnp hE ⟨T,hT⟩
 have hrx:=vO hT hE.1 hx
 have hry:=vO hT hE.1 hy
 rw [hX] at hrx
 rw [hY] at hry
 generalize hvx:a.eval x=vx at hrx
 generalize hvy:a.eval y=vy at hry
 cases hrx with
 | nilsl =>
 cases hry with
 | int wn =>
 obtain ⟨e,he,hk⟩:=N4 ht
 subst hn
 refine uR (v:=.slice none 0 0) (w':=w) (nX ho (by rw [he];simp) (by rw [he];simp) ?_) ?_
 ·simp only [hvx,hvy,Instr.slice,Sem.run_bind,run_underlying he,Result.andThen_ok,Option.map_none,Option.map_some,Instr.sliceBounds,Sem.run_pure,jA hk]
  rw [bA (P:=P) (w:=w) (y:=0) rfl (Int.le_refl 0) (Int.le_refl 0)]
  simp only [Result.andThen_ok]
  rfl
 ·refine hT.quiet (jN w) rfl (by simp [Option.map_map,Function.comp_def]) ?_
  intro d av hE'
  obtain ⟨hlt,rfl⟩:=uH hd hE'
  exact ⟨by omega,.nilsl⟩
theorem zDl {P:Program} {t t2 e:TypeId} {i:TypeInfo} {z:Value} {w:World} {ty:TypeId} (ht:fT P t e i z) {q:IntKind} (h2:P.underlying t2=some (.int q)) {k:IntKind} {n:Nat}
  (h0:0<n) (hb:n * qV P e≤140737488355328) :
  (Builtin.append_ #[t,t2] ty #[.slice none 0 0,.int k (n:Int)]).run P w =
   .ok (.slice (some ⟨w.heap.size,0,none⟩) n (grownCap w n 0 e))
    (w.drew.alloc (.cells (Builtin.zeroCells z.cells n++Builtin.zeroCells z.cells (grownCap w n 0 e - n)) e)):=by
 have hm:=Nat.le_mul_of_pos_right n ht.bpos
 have hw:IntKind.i64.wrap (n:Int)=n:=by
  simp only [IntKind.wrap,IntKind.bits,IntKind.signed];simp;split<;>omega
 have h1:¬ ((n:Int)<0):=by omega
 have h3:¬ (281474976710656<(n:Int) * (i.bytes:Int)):=by rw [ht.bytes,← Int.natCast_mul];omega
 have h4:¬ (n=0):=by omega
 have h5:¬ (9223372036854775807:Int)<(n:Int):=by omega
 have h6:¬ (n * szT P e=0):=by have:=Nat.mul_pos h0 ht.pos;omega
 have hg:=growslice_fits (need:=n) (old:=0) (bytes:=qV P e) (by omega) hb
 rw [← ht.bytes] at hg
 have h48':¬ (281474976710656<Builtin.nextslicecap n 0 * i.bytes):=by omega
 rw [← ht.size] at h6
 simp only [Builtin.append_,List.getElem?_toArray,List.getElem?_cons_zero,List.getElem?_cons_succ,Sem.run_bind,run_underlying ht.und,run_underlying h2,Result.andThen_ok,sizeOf,typeInfo,run_program,
  ht.info,Sem.run_pure,asInt,asIntOf]
 simp [h1,h3,h4,h5,h48',h6,hw,Question.forced,newRow,grownCap,zeroValue,typeInfo,ht.info,ht.zero,Builtin.firstCells]
theorem zBm {P:Program} {t:TypeId} (h:G2 P t=true):∃ q,P.underlying t=some (.int q):=by
 unfold G2 at h
 split at h
 ·exact ⟨_,by assumption⟩
 ·cases h
theorem ZG {P:Program} {N np:Nat} {o:Oper} {x y:Operand} {t t2 e:TypeId} {rs:List (Nat×AV)} {k:IntKind} {n:Int} {id m:Nat}
  (ho:o.op=.call { callee:=.builtin .append,args:=#[x,y],argTypes:=#[t,t2] }) (hx:xB x=true) (hy:xB y=true) (ht2:G2 P t2=true) (hrow:aZ P t=some e)
  (hX:xA rs x=.nilsl) (hY:xA rs y=.int k n) (hn:n=m) (h0:0<m) (hb:m * qV P e≤140737488355328) (hd:uD N o.dst=true) :
  uO P N np o { rs:=rs,rb:=[(id,.unused)],dst:=o.dst.map fun d=>(d,.own id m),wb:=[(id,.live (.row e (szT P e) []))] }:=by
 intro G st a w hN hnp hE ⟨T,hT⟩
 have hrx:=vO hT hE.1 hx
 have hry:=vO hT hE.1 hy
 obtain ⟨i,z,ht⟩:=fC hrow
 obtain ⟨q,hq⟩:=zBm ht2
 rw [hX] at hrx
 rw [hY] at hry
 generalize hvx:a.eval x=vx at hrx
 generalize hvy:a.eval y=vy at hry
 cases hrx with
 | nilsl =>
 cases hry with
 | int wn =>
 subst hn
 have hu:st.box id=.unused:=hE.2 (id,.unused) (by simp)
 have hm:=Nat.le_mul_of_pos_right m ht.bpos
 have hmax:m≤maxLen:=by rw [qC];omega
 have hge:=grownCap_ge w m 0 e
 have hcm:=grownCap_le_maxLen w m 0 e hmax
 have hrun:=zDl (P:=P) (w:=w) (ty:=o.type) ht hq (k:=k) h0 hb
 refine uR (v:=.slice (some ⟨w.heap.size,0,none⟩) m (grownCap w m 0 e)) (w':=w.drew.alloc (.cells (Builtin.zeroCells z.cells m++Builtin.zeroCells z.cells (grownCap w m 0 e - m)) e)) ?_ ?_
 ·simp [execOp,ho,resolve,invoke,builtin,hvx,hvy,hrun]
 ·refine hT.new (p:=.at w.heap.size (grownCap w m 0 e)) ⟨rfl,rfl,rfl,by simp,fun k hk _=>heap_alloc_old w.drew _ k hk⟩ rfl hu (by simp [Option.map_map,Function.comp_def]) (fun b c hp=>by injection hp with hp;omega) ?_ ?_
  ·refine .inr ⟨_,_,_,rfl,heap_alloc_new w.drew _,?_,by simp,hcm,by simp,by simp,fun i' av j c hi=>by simp at hi⟩
   rw [Array.size_append,size_zeroCells,size_zeroCells,ht.zsize,← Nat.add_mul]
   congr 1;omega
  ·intro d av hE'
   obtain ⟨hlt,rfl⟩:=uH hd hE'
   exact ⟨by omega,.own (Tbl.put_same _ _ _) hge hcm⟩
theorem WY {P:Program} {N np:Nat} {o:Oper} {x y:Operand} {t:TypeId} {rs:List (Nat×AV)} {B:Nat→yA} {k:IntKind} {n:Int} {id m hm:Nat} {e sz:Nat} {l:List AV}
  (ho:o.op=.slice t x none (some y) none) (hx:xB x=true) (hy:xB y=true) (ht:gP P t=true) (hX:xA rs x=.own id m) (hY:xA rs y=.int k n)
  (hB:B id=.live (.row e sz l)) (hn:n=hm) (hle:hm≤m) (hd:uD N o.dst=true) :
  uO P N np o { rs:=rs,rb:=[(id,B id)],dst:=o.dst.map fun d=>(d,.own id hm),wb:=[(id,.live (.row e sz (l.take hm)))] }:=by
 intro G st a w hN hnp hE ⟨T,hT⟩
 have hrx:=vO hT hE.1 hx
 have hry:=vO hT hE.1 hy
 rw [hX] at hrx
 rw [hY] at hry
 have hb:st.box id=.live (.row e sz l):=(hE.2 (id,B id) (by simp)).trans hB
 generalize hvx:a.eval x=vx at hrx
 generalize hvy:a.eval y=vy at hry
 cases hry with
 | int wn =>
 obtain ⟨e',he,hk⟩:=N4 ht
 subst hn
 have hboxes:=hT.boxes id _ hb
 have hrun:∀ (base:Option Addr) (cap:Nat),hm≤cap→(Instr.slice t (.slice base m cap) none (some (.int k (hm:Int))) none).run P w=.ok (.slice (if cap=0 then base else base.map (·.add 0)) hm cap) w:=by
  intro base cap hc
  simp only [Instr.slice,Sem.run_bind,run_underlying he,Result.andThen_ok,Instr.sliceBounds,Sem.run_pure,jA hk]
  rw [bA (P:=P) (w:=w) (y:=cap) rfl (by omega) (by omega)]
  simp only [Result.andThen_ok,Int.toNat_natCast,Nat.zero_mul,Nat.sub_zero]
 cases hrx with
 | ownNil hTi =>
  rename_i a0
  have h0:hm=0:=by omega
  subst h0
  refine uR (nX ho (by rw [he];simp) (by rw [he];simp) (by simp only [hvx,hvy,Option.map_none,Option.map_some];exact hrun a0 0 (Nat.le_refl _))) ?_
  have hnil:l=[]:=by
   rcases hboxes with ⟨_,h⟩ | ⟨b,cap,C,hp,_⟩
   ·exact h
   ·rw [hTi] at hp;cases hp
  subst hnil
  have hst:(st.upd { rs:=rs,rb:=[(id,B id)],dst:=o.dst.map fun d=>(d,.own id 0),wb:=[(id,.live (.row e sz (([]:List AV).take 0)))] }).box=st.box:=by
   funext i
   rw [cR]
   simp only [dZ,List.take_zero]
   by_cases hi:i=id
   ·rw [if_pos hi,hi,hb]
   ·rw [if_neg hi]
  refine hT.quiet (jN w) hst (by simp [Option.map_map,Function.comp_def]) ?_
  intro d av hE'
  obtain ⟨hlt,rfl⟩:=uH hd hE'
  exact ⟨by omega,.ownNil hTi⟩
 | own hTi h1 h2 =>
  rename_i b cap
  refine uR (nX ho (by rw [he];simp) (by rw [he];simp) (by simp only [hvx,hvy,Option.map_none,Option.map_some];exact hrun _ cap (by omega))) ?_
  refine hT.write (bx':=.row e sz (l.take hm)) (b:=b) (cap:=cap) hb hTi ⟨rfl,rfl,rfl,Nat.le_refl _,fun _ _ _=>rfl⟩ rfl (by simp [Option.map_map,Function.comp_def]) ?_ ?_
  ·rcases hboxes with ⟨hp,h⟩ | ⟨b',cap',C,hp,hh,k1,k2,k3,k4,k5,k6⟩
   ·exact .inl ⟨hp,by rw [h];simp⟩
   ·refine .inr ⟨b',cap',C,hp,hh,k1,by rw [List.length_take];omega,k3,fun av hav=>k4 av (List.mem_of_mem_take hav),fun av hav=>k5 av (List.mem_of_mem_take hav),fun i av j c hi hj=>k6 i av j c ?_ hj⟩
    rw [List.getElem?_take] at hi
    split at hi
    ·exact hi
    ·cases hi
  ·intro d av hE'
   obtain ⟨hlt,rfl⟩:=uH hd hE'
   refine ⟨by omega,?_⟩
   have:(if cap=0 then some (⟨b,0,none⟩:Addr) else (some (⟨b,0,none⟩:Addr)).map (·.add 0))=some ⟨b,0,none⟩:=by
    split
    ·rfl
    ·simp [Addr.add]
   rw [this]
   exact .own hTi (by omega) h2
theorem zDV {P:Program} {N np:Nat} {o:Oper} {rs:List (Nat×AV)} {st:AS} {hn:xN} {r:List Prop×Eff} (h:xop P o rs st.box hn=some r) (hr:∀ x∈rs,st.slot x.1=x.2)
  (hv:∀ p∈r.1,p) (hd:uD N o.dst=true):r.2.holds st∧uO P N np o r.2:=by
 unfold xop at h
 split at h
 ·rename_i b args ts ho
  split at h
  ·rename_i x t ha ht
   rw [rK ha,rK ht] at ho
   replace h:=xJ h;obtain ⟨hu,h⟩:=h
   simp only [zba] at hu
   split at h
   ·rename_i hX
    injection h with h;subst h
    exact ⟨⟨hr,fun x hx=>by simp at hx⟩,zD8 ho hu.1 hu.2 hX hd⟩
   ·cases h
  ·rename_i x y t t2 ha ht
   rw [nN ha,nN ht] at ho
   replace h:=xJ h;obtain ⟨hu,h⟩:=h
   simp only [zba] at hu
   split at h
   ·rename_i k n e hX hY hrow
    injection h with h;subst h
    exact ⟨⟨hr,fun x hx=>by simp at hx;subst hx;exact nQ hu.2.1⟩,ZG ho hu.1.1 hu.1.2 hu.2.2 hrow hX hY (hv _ (by simp)) (hv _ (by simp)) (hv _ (by simp)) hd⟩
   ·cases h
  ·cases h
 ·rename_i t x y ho
  replace h:=xJ h;obtain ⟨hu,h⟩:=h
  simp only [zba] at hu
  split at h
  ·rename_i k n hX hY
   injection h with h;subst h
   exact ⟨⟨hr,fun x hx=>by simp at hx⟩,zBV ho hu.1.1 hu.1.2 hu.2 hX hY (hv _ (by simp)) hd⟩
  ·rename_i id m k n hX hY
   split at h
   ·rename_i e sz l hB
    injection h with h;subst h
    have e1:hn.l=l.take hn.n:=hv _ (by simp)
    refine ⟨⟨hr,fun x hx=>by simp at hx;subst hx;rfl⟩,?_⟩
    simp only [e1]
    exact WY ho hu.1.1 hu.1.2 hu.2 hX hY hB (hv _ (by simp)) (hv _ (by simp)) hd
   ·cases h
  ·cases h
 ·rename_i t x y t2 ho
  replace h:=xJ h;obtain ⟨hu,h⟩:=h
  simp only [zba] at hu
  split at h
  ·rename_i id n hX hY
   split at h
   ·rename_i e sz l hB
    injection h with h;subst h
    exact ⟨⟨hr,fun x hx=>by simp at hx;subst hx;rfl⟩,zCk ho hu.1.1 hu.1.2 hu.2 hX hY hB hd⟩
   ·cases h
  ·cases h
 ·cases h
end Go.Ab
