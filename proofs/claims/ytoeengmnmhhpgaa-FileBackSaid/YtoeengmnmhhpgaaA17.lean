/- A call as a step. -/
import Derived.Test.YtoeengmnmhhpgaaA14
namespace Go.Ab
open Go
def Q6 (P:Program) (f:FuncId):Bool :=
 match P.funcs[f]? with
 | some fn => !(fn.name == "runtime.NumGoroutine") && fn.body.isSome
 | none=>false
mutual
def scalar:AV→Bool
 | .junk=>true
 | .int ..=>true
 | .bool _=>true
 | .str _=>true
 | .agg cs=>fG cs
 | .tuple cs=>fG cs
 | .nilp=>true
 | .nilsl=>true
 | _=>false
def fG:List AV→Bool
 | []=>true
 | a::r=>scalar a&&fG r
end
theorem OD {cs:List AV} (h:fG cs=true) {j:Nat} {c:AV} (hj:cs[j]?=some c):scalar c=true:=by
 induction cs generalizing j with
 | nil=>simp at hj
 | cons a r ih =>
  simp only [fG,zba] at h
  cases j with
  | zero=>simp at hj;exact hj ▸ h.1
  | succ j=>exact ih h.2 (by simpa using hj)
theorem Rep.scalar {w w':World} {I I':Nat→Prop} {T T':Tbl} {v:Value} {av:AV} (h:Rep w I T v av):scalar av=true→Rep w' I' T' v av:=by
 induction h generalizing T' with
 | junk=>intro _;exact .junk
 | int h=>intro _;exact .int h
 | bool=>intro _;exact .bool
 | str h h'=>intro _;exact .str h h'
 | agg h h1 _ ih=>intro hb;exact .agg h h1 fun j c hj=>ih j c hj (OD hb hj)
 | tuple h _ ih=>intro hb;exact .tuple h fun j c hj=>ih j c hj (OD hb hj)
 | nilp=>intro _;exact .nilp
 | nilsl=>intro _;exact .nilsl
 | _=>intro hb;simp [Go.Ab.scalar] at hb
def kZ {α:Type}:List α→Bool
 | []=>true
 | _=>false
def jB:List Nat→Bool
 | []=>true
 | a::r=>!(r.any (Nat.beq a))&&jB r
theorem BM {l:List Nat} (h:jB l=true):∀ {i j a:Nat},l[i]?=some a→l[j]?=some a→i=j:=by
 induction l with
 | nil=>intro i j a hi;simp at hi
 | cons x r ih =>
  simp only [jB,zba,Bool.not_eq_true'] at h
  have hx:x∉r:=fun hm=>by have:=GN hm;rw [h.1] at this;cases this
  intro i j a hi hj
  cases i with
  | zero =>
   cases j with
   | zero=>rfl
   | succ j =>
    simp only [List.getElem?_cons_zero,Option.some.injEq] at hi
    subst hi
    exact absurd (List.mem_of_getElem? (by simpa using hj)) hx
  | succ i =>
   cases j with
   | zero =>
    simp only [List.getElem?_cons_zero,Option.some.injEq] at hj
    subst hj
    exact absurd (List.mem_of_getElem? (by simpa using hi)) hx
   | succ j =>
    have hi':r[i]?=some a:=by simpa using hi
    have hj':r[j]?=some a:=by simpa using hj
    rw [ih h.2 hi' hj']
def UJ (A:Operand→AV) (f:Operand):Option (FuncId×List AV) :=
 match A f with
 | .fn g caps=>some (g,caps)
 | _=>none
def pS:yB→Bool
 | .unused=>true
 | _=>false
theorem nX {b:yB} (h:pS b=true):b=.unused:=by cases b<;>simp_all [pS]
def KM (P:Program) (np:Nat) (A:Operand→AV) (f:Operand) (args:List Operand) (B:Nat→yB) (h:xN):Option (List Prop×List (Nat×yB)×AV) :=
 match UJ A f with
 | none=>none
 | some (g,caps) =>
  bif Q6 P g&&(((h.l.all (w6 (h.pre++h.giv).length)&&(h.pre++h.giv).all (oY (h.pre++h.giv).length))&&(h.post.all (oY h.ids.length)&&(jB (h.ids++h.gids)&&w6 h.ids.length h.av))) &&
    (((Nat.ble h.pre.length h.ids.length&&Nat.beq h.post.length h.ids.length)&&((h.ids.drop h.pre.length).all (fun i=>pS (B i))&&(kZ h.lend||((kZ h.ids&&kZ h.gids)&&scalar h.av)))) &&
     (((args.map A++caps).map (frz B h.lend)).all lS&&(Nat.beq h.giv.length h.gids.length&&h.gids.all (Nat.ble np))))) then
   some ((args.map A++caps).flatMap (bY B h.lend)++[(args.map A++caps).map (frz B h.lend)=uns (h.ids.take h.pre.length++h.gids) h.l,
     (h.ids.take h.pre.length++h.gids).map B=(h.pre++h.giv).map (fun b=>yB.live (unB (h.ids.take h.pre.length++h.gids) b)),y6 P g h.pre h.giv h.l h.post h.av],
    (h.ids.zip (h.post.map fun b=>yB.live (unB h.ids b)))++h.gids.map (fun i=>(i,yB.dead)),un h.ids h.av)
  else none
def CG:List (Nat×wV)→Nat→Option wV
 | [],_=>none
 | (k,p)::r,i=>if i=k then some p else CG r i
theorem zAp {ids:List Nat} {ps:List wV} (hd:jB ids=true) (hl:ps.length=ids.length) {i:Nat} :
  (∀ (k:Nat),ids[k]?=some i→CG (ids.zip ps) i=ps[k]?)∧(i∉ids→CG (ids.zip ps) i=none):=by
 induction ids generalizing ps with
 | nil=>exact ⟨fun k hk=>by simp at hk,fun _=>rfl⟩
 | cons x r ih =>
  cases ps with
  | nil=>simp at hl
  | cons y s =>
   simp only [jB,zba,Bool.not_eq_true'] at hd
   have hx:x∉r:=fun hm=>by have:=GN hm;rw [hd.1] at this;cases this
   obtain ⟨i1,i2⟩:=ih (ps:=s) hd.2 (by simpa using hl)
   simp only [List.zip_cons_cons,CG]
   constructor
   ·intro k hk
    cases k with
    | zero=>simp at hk;subst hk;simp
    | succ k =>
     have hk':r[k]?=some i:=by simpa using hk
     have hne:i≠x:=fun e=>hx (e ▸ List.mem_of_getElem? hk')
     rw [if_neg hne,i1 k hk']
     simp
   ·intro hn
    simp only [List.mem_cons,not_or] at hn
    rw [if_neg hn.1]
    exact i2 hn.2
theorem U9 {l:List Nat} (h:jB l=true) (n:Nat):jB (l.drop n)=true:=by
 induction l generalizing n with
 | nil=>simp [jB]
 | cons a r ih =>
  cases n with
  | zero=>exact h
  | succ n=>simp only [jB,zba] at h;exact ih h.2 n
theorem ZZ {ids:List Nat} {bs:List yB} (hd:jB ids=true) (hl:bs.length=ids.length) {i:Nat} {d:yB} :
  (∀ (k:Nat),ids[k]?=some i→vI (ids.zip bs) i d=bs.getD k .dead)∧(i∉ids→vI (ids.zip bs) i d=d):=by
 induction ids generalizing bs with
 | nil=>exact ⟨fun k hk=>by simp at hk,fun _=>rfl⟩
 | cons x r ih =>
  cases bs with
  | nil=>simp at hl
  | cons y s =>
   have hd0:=hd
   simp only [jB,zba,Bool.not_eq_true'] at hd
   have hx:x∉r:=fun hm=>by have:=GN hm;rw [hd.1] at this;cases this
   obtain ⟨i1,i2⟩:=ih (bs:=s) hd.2 (by simpa using hl)
   simp only [List.zip_cons_cons,vI]
   constructor
   ·intro k hk
    cases k with
    | zero =>
     simp at hk;subst hk
     simp [List.getD]
    | succ k =>
     have hk':r[k]?=some i:=by simpa using hk
     have hne:i≠x:=fun e=>hx (e ▸ List.mem_of_getElem? hk')
     rw [jC hne]
     simp only [cond_false]
     rw [i1 k hk']
     simp [List.getD]
   ·intro hn
    simp only [List.mem_cons,not_or] at hn
    rw [jC hn.1]
    exact i2 hn.2
theorem OQ {a b:Nat} (h:Nat.ble a b=true):a≤b:=zle h
theorem zDH {l m:List Nat} (h:jB (l++m)=true):jB l=true:=by
 induction l with
 | nil=>rfl
 | cons a r ih =>
  simp only [List.cons_append,jB,zba,Bool.not_eq_true',List.any_append,Bool.or_eq_false_iff] at h ⊢
  exact ⟨h.1.1,ih h.2⟩
theorem YV {l m:List Nat} (h:jB (l++m)=true) {a:Nat} (h1:a∈l) (h2:a∈m):False:=by
 obtain ⟨i,hi⟩:=List.mem_iff_getElem?.1 h1
 obtain ⟨j,hj⟩:=List.mem_iff_getElem?.1 h2
 have hil:=(List.getElem?_eq_some_iff.1 hi).1
 have e1:(l++m)[i]?=some a:=by rw [List.getElem?_append_left hil];exact hi
 have e2:(l++m)[l.length+j]?=some a:=by rw [List.getElem?_append_right (by omega),show l.length+j - l.length=j by omega];exact hj
 have:=BM h e1 e2
 omega
theorem zDP {l m:List Nat} (h:jB (l++m)=true):jB m=true:=by
 have:=U9 h l.length
 simpa using this
theorem WS {l m:List (Nat×yB)} {i:Nat} {d:yB}:vI (l++m) i d=vI l i (vI m i d):=by
 induction l with
 | nil=>rfl
 | cons x r ih=>simp only [List.cons_append,vI,ih]
theorem zCx {ids:List Nat} {i:Nat} {d:yB}:vI (ids.map fun i=>(i,yB.dead)) i d=if i∈ids then .dead else d:=by
 induction ids with
 | nil=>simp [vI]
 | cons x r ih =>
  simp only [List.map_cons,vI,ih,List.mem_cons]
  by_cases h:i=x
  ·subst h;simp
  ·rw [jC h];simp [h]
mutual
theorem RP {foot:List Nat}:∀ {c:AV},scalar c=true→scalar (un foot c)=true
 | .junk,_=>rfl
 | .int ..,_=>rfl
 | .bool _,_=>rfl
 | .str _,_=>rfl
 | .agg cs,h=>by simp only [un,scalar] at *;exact K5 h
 | .tuple cs,h=>by simp only [un,scalar] at *;exact K5 h
 | .nilp,_=>rfl
 | .nilsl,_=>rfl
theorem K5 {foot:List Nat}:∀ {cs:List AV},fG cs=true→fG (uns foot cs)=true
 | [],_=>rfl
 | a::r,h=>by
  simp only [uns,fG,zba] at *
  exact ⟨RP h.1,K5 h.2⟩
end
theorem VF {P:Program} {N np:Nat} {o:Oper} {f:Operand} {args:Array Operand} {ts:Array TypeId} {rs:List (Nat×AV)} {hn:xN} {B:Nat→yB} {r:List Prop×List (Nat×yB)×AV}
  (ho:o.op=.call { callee:=.value f,args:=args,argTypes:=ts }) (hf:xD f=true) (hx:∀ x∈args.toList,xD x=true)
  (h:KM P np (xC rs) f args.toList B hn=some r) (hv:∀ p∈r.1,p) (hd:uH N o.dst=true) :
  uN P N np o { rs:=rs,rb:=(hn.ids++hn.gids++hn.lend).map (fun i=>(i,B i)),dst:=o.dst.map fun d=>(d,r.2.2),wb:=r.2.1 }:=by
 intro G st a w hN hnp hE ⟨T,hT⟩
 unfold KM at h
 split at h
 ·cases h
 rename_i g caps hcal
 replace h:=xK h;obtain ⟨hc,h⟩:=h
 simp only [zba,Bool.or_eq_true,List.all_eq_true] at hc
 obtain ⟨hcallable,⟨⟨hbl,hbpre⟩,hbpost,hnda,hbav⟩,⟨⟨hpl,hql⟩,hfresh,hdep⟩,hwhole,hgl,hgnp⟩:=hc
 have hpl:=OQ hpl
 have hql:=x6.1 hql
 have hgl:=x6.1 hgl
 have hgnp:∀ i∈hn.gids,np≤i:=fun i hi=>OQ (hgnp i hi)
 have hnd:=zDH hnda
 have hndg:=zDP hnda
 have hdisj:∀ {i:Nat},i∈hn.ids→i∈hn.gids→False:=fun h1 h2=>YV hnda h1 h2
 injection h with h;subst h
 simp only at hE hv
 generalize hidst:hn.ids.take hn.pre.length=idst at hv
 have hlt0:idst.length=hn.pre.length:=by rw [← hidst];simp;omega
 generalize hids0:idst++hn.gids=ids0 at hv
 generalize hpg:hn.pre++hn.giv=pg at hv hbl hbpre
 have hpgl:pg.length=hn.pre.length+hn.giv.length:=by rw [← hpg];simp
 have hl0:ids0.length=pg.length:=by rw [← hids0,hpgl];simp [hlt0,hgl]
 have hget0:∀ (k i:Nat),ids0[k]?=some i→(hn.ids[k]?=some i∧k<hn.pre.length)∨(hn.gids[k - hn.pre.length]?=some i∧hn.pre.length≤k):=by
  intro k i hk
  rw [← hids0] at hk
  rcases zlg k idst.length with hlt | hge
  ·rw [List.getElem?_append_left hlt,← hidst,List.getElem?_take] at hk
   split at hk
   ·exact .inl ⟨hk,by omega⟩
   ·cases hk
  ·rw [List.getElem?_append_right hge,hlt0] at hk
   exact .inr ⟨hk,by omega⟩
 have hput0:∀ (k i:Nat),hn.ids[k]?=some i→k<hn.pre.length→ids0[k]?=some i:=by
  intro k i hk hlt
  rw [← hids0,List.getElem?_append_left (by omega),← hidst,List.getElem?_take,if_pos hlt];exact hk
 have hmem0:∀ i,i∈ids0→i∈hn.ids∨i∈hn.gids:=by
  intro i hi
  rw [← hids0,← hidst] at hi
  rcases List.mem_append.1 hi with hi | hi
  ·exact .inl (List.mem_of_mem_take hi)
  ·exact .inr hi
 have e1:((args.toList.map (xC rs)++caps).map (frz B hn.lend))=uns ids0 hn.l:=hv _ (by simp)
 have e2:ids0.map B=pg.map (fun b=>yB.live (unB ids0 b)):=hv _ (by simp)
 have htri:y6 P g hn.pre hn.giv hn.l hn.post hn.av:=hv _ (by simp)
 have hvc:∀ x∈args.toList.map (xC rs)++caps,∀ p∈bY B hn.lend x,p:=fun x hx p hp=>hv p (List.mem_append_left _ (List.mem_flatMap.2 ⟨x,hx,hp⟩))
 have hBi:∀ i∈hn.ids,st.box i=B i:=fun i hi=>hE.2 (i,B i) (List.mem_map.2 ⟨i,by simp [hi],rfl⟩)
 have hBg:∀ i∈hn.gids,st.box i=B i:=fun i hi=>hE.2 (i,B i) (List.mem_map.2 ⟨i,by simp [hi],rfl⟩)
 have hBl:∀ i∈hn.lend,st.box i=B i:=fun i hi=>hE.2 (i,B i) (List.mem_map.2 ⟨i,by simp [hi],rfl⟩)
 -- the new names
 have hnew:∀ (k i:Nat),hn.ids[k]?=some i→hn.pre.length≤k→st.box i=.unused:=by
  intro k i hk hge
  have hm:i∈hn.ids.drop hn.pre.length:=by
   refine List.mem_of_getElem? (i:=k - hn.pre.length) ?_
   rw [List.getElem?_drop,show hn.pre.length+(k - hn.pre.length)=k by omega];exact hk
  rw [hBi i (List.mem_of_getElem? hk)]
  exact nX (hfresh i hm)
 -- the function value
 have hfr:=vP hT hE.1 hf
 have hfform:∃ cv,a.eval f=.func (.func g) #[] cv∧cv.size=caps.length∧∀ (j:Nat) (c:AV),caps[j]?=some c→Rep w (imm G st T) T (cv.getD j undef) c:=by
  unfold UJ at hcal
  split at hcal
  ·rename_i g' caps' hA
   simp only [Option.some.injEq,Prod.mk.injEq] at hcal
   obtain ⟨rfl,rfl⟩:=hcal
   rw [hA] at hfr
   generalize hvf:a.eval f=vf at hfr
   cases hfr with
   | fn h1 h2=>exact ⟨_,rfl,h1,h2⟩
  ·cases hcal
 obtain ⟨cv,hfv,hcs,hcr⟩:=hfform
 -- the blocks handed over
 have liveAt:∀ (k id:Nat),ids0[k]?=some id→∃ bx,pg[k]?=some bx∧st.box id=.live (unB ids0 bx):=by
  intro k id hk
  have h1:(ids0.map B)[k]?=some (B id):=by simp [hk]
  rw [e2,List.getElem?_map] at h1
  cases hpk:pg[k]? with
  | none=>rw [hpk] at h1;cases h1
  | some bx =>
   rw [hpk] at h1
   injection h1 with h1
   refine ⟨bx,rfl,?_⟩
   rcases hmem0 id (List.mem_of_getElem? hk) with hm | hm
   ·exact (hBi id hm).trans h1.symm
   ·exact (hBg id hm).trans h1.symm
 have hndi0:∀ {i j a:Nat},ids0[i]?=some a→ids0[j]?=some a→i=j:=by
  intro i j a hi hj
  rcases hget0 _ _ hi with ⟨h1,h2⟩ | ⟨h1,h2⟩<;>rcases hget0 _ _ hj with ⟨h3,h4⟩ | ⟨h3,h4⟩
  ·exact BM hnd h1 h3
  ·exact (hdisj (List.mem_of_getElem? h1) (List.mem_of_getElem? h3)).elim
  ·exact (hdisj (List.mem_of_getElem? h3) (List.mem_of_getElem? h1)).elim
  ·have:=BM hndg h1 h3;omega
 let foot:List wV:=idst.map fun id=>(T id).getD .nil
 let gp:List wV:=hn.gids.map fun id=>(T id).getD .nil
 have hfl:foot.length=hn.pre.length:=by simp [foot,hlt0]
 have hgpl:gp.length=hn.giv.length:=by simp [gp,hgl]
 have hfa:foot++gp=ids0.map fun id=>(T id).getD .nil:=by rw [← hids0];simp [foot,gp]
 have hTid:∀ (k id:Nat),ids0[k]?=some id→∃ p,T id=some p:=by
  intro k id hk
  obtain ⟨bx,_,hb⟩:=liveAt k id hk
  have hok:=hT.boxes id _ hb
  cases hTi:T id with
  | some p=>exact ⟨p,rfl⟩
  | none =>
   rw [hTi] at hok
   exact hok.no.elim
 have hTc:(fun i=>(foot++gp)[i]?)=Tc ids0 T:=by
  funext i
  rw [hfa]
  simp only [Tc,List.getElem?_map]
  cases hk:ids0[i]? with
  | none=>rfl
  | some id =>
   obtain ⟨p,hp⟩:=hTid i id hk
   simp [hp]
 have hfootmem:∀ b cap,wV.at b cap∈foot++gp→∃ (k id:Nat) (bx:Box),ids0[k]?=some id∧T id=some (.at b cap)∧st.box id=.live bx:=by
  intro b cap hm
  rw [hfa] at hm
  obtain ⟨k,hk⟩:=List.mem_iff_getElem?.1 hm
  simp only [List.getElem?_map] at hk
  cases hki:ids0[k]? with
  | none=>rw [hki] at hk;cases hk
  | some id =>
   rw [hki] at hk
   obtain ⟨p,hp⟩:=hTid k id hki
   simp only [Option.map_some,hp,Option.getD_some,Option.some.injEq] at hk
   obtain ⟨bx,_,hb⟩:=liveAt k id hki
   exact ⟨k,id,_,hki,by rw [hp,hk],hb⟩
 have hgpmem:∀ b cap,wV.at b cap∈gp→∃ (id:Nat) (bx:Box),id∈hn.gids∧T id=some (.at b cap)∧st.box id=.live bx:=by
  intro b cap hm
  obtain ⟨k,hk⟩:=List.mem_iff_getElem?.1 hm
  simp only [gp,List.getElem?_map] at hk
  cases hki:hn.gids[k]? with
  | none=>rw [hki] at hk;cases hk
  | some id =>
   rw [hki] at hk
   have hk0:ids0[idst.length+k]?=some id:=by
    rw [← hids0,List.getElem?_append_right (by omega),show idst.length+k - idst.length=k by omega];exact hki
   obtain ⟨p,hp⟩:=hTid _ id hk0
   simp only [Option.map_some,hp,Option.getD_some,Option.some.injEq] at hk
   obtain ⟨bx,_,hb⟩:=liveAt _ id hk0
   exact ⟨id,_,List.mem_of_getElem? hki,by rw [hp,hk],hb⟩
 let I:Nat→Prop:=zB4 G st T hn.lend
 have hI:∀ b,imm G st T b→I b:=fun b hb=>.inl hb
 have hIl:∀ id b cap,id∈hn.lend→T id=some (.at b cap)→I b:=fun id b cap h1 h2=>.inr ⟨id,cap,h1,h2⟩
 have hnilids0:kZ hn.ids=true→kZ hn.gids=true→ids0=[]:=by
  intro h0 h1
  have e3:hn.ids=[]:=by cases hl1:hn.ids with | nil=>rfl | cons _ _=>rw [hl1] at h0;simp [kZ] at h0
  have e4:hn.gids=[]:=by cases hl1:hn.gids with | nil=>rfl | cons _ _=>rw [hl1] at h1;simp [kZ] at h1
  rw [← hids0,← hidst,e3,e4];simp
 have hIfoot:∀ b,I b→∀ cap,wV.at b cap∉foot++gp:=by
  intro b hb cap hm
  obtain ⟨k,id,bx,hk,hTi,hl⟩:=hfootmem b cap hm
  rcases hb with hb | ⟨id',cap',hm',hT'⟩
  ·exact hb.2 id bx cap hl hTi
  ·rcases hdep with h0 | h0
   ·have:hn.lend=[]:=by cases hl1:hn.lend with | nil=>rfl | cons _ _=>rw [hl1] at h0;simp [kZ] at h0
    rw [this] at hm';cases hm'
   ·rw [hnilids0 h0.1.1 h0.1.2] at hk;simp at hk
 -- the arguments
 have hvals:(args.map a.eval++cv).size=hn.l.length:=by
  have h1:=congrArg List.length e1
  simp only [List.length_map,zla,cP] at h1
  simp only [Array.size_append,Array.size_map,hcs]
  rw [← h1];simp
 have hargs:∀ (j:Nat) (av:AV),hn.l[j]?=some av→Rep w I (fun i=>(foot++gp)[i]?) ((args.map a.eval++cv).getD j undef) av:=by
  intro j av hj
  rw [hTc]
  have h1:(uns ids0 hn.l)[j]?=some (un ids0 av):=by rw [gW,hj];rfl
  rw [← e1,List.getElem?_map] at h1
  cases hxj:(args.toList.map (xC rs)++caps)[j]? with
  | none=>rw [hxj] at h1;cases h1
  | some X =>
   rw [hxj] at h1
   injection h1 with h1
   have hraw:Rep w (imm G st T) T ((args.map a.eval++cv).getD j undef) X:=by
    rcases zlg j args.size with hlt | hge
    ·rw [List.getElem?_append_left (by simpa using hlt),List.getElem?_map] at hxj
     cases hoj:args.toList[j]? with
     | none=>rw [hoj] at hxj;cases hxj
     | some x =>
      rw [hoj] at hxj;injection hxj with hxj
      rw [Array.getElem?_toList] at hoj
      have:(args.map a.eval++cv).getD j undef=a.eval x:=by
       simp only [Array.getD_eq_getD_getElem?]
       rw [Array.getElem?_append_left (by simpa using hlt)]
       simp [hoj]
      rw [this,← hxj]
      exact vP hT hE.1 (hx x (List.mem_of_getElem? (by rw [Array.getElem?_toList];exact hoj)))
    ·rw [List.getElem?_append_right (by simpa using hge)] at hxj
     simp only [List.length_map,Array.length_toList] at hxj
     have:(args.map a.eval++cv).getD j undef=cv.getD (j - args.size) undef:=by
      simp only [Array.getD_eq_getD_getElem?]
      rw [Array.getElem?_append_right (by simpa using hge)]
      simp
     rw [this]
     exact hcr _ _ hxj
   have hXm:=List.mem_of_getElem? hxj
   have hfz:=LJ hT hBl hI hIl hraw (hvc X hXm) (hwhole _ (List.mem_map.2 ⟨X,hXm,rfl⟩))
   exact G5 hfz av h1.symm (by rw [hl0];exact hbl av (List.mem_of_getElem? hj))
 have hcalls:=htri w I foot gp (args.map a.eval++cv) hfl hgpl hIfoot
  (by
   intro i j b c c' hi hj
   rw [hfa] at hi hj
   simp only [List.getElem?_map] at hi hj
   cases hki:ids0[i]? with
   | none=>rw [hki] at hi;cases hi
   | some id =>
    cases hkj:ids0[j]? with
    | none=>rw [hkj] at hj;cases hj
    | some id' =>
     rw [hki] at hi;rw [hkj] at hj
     obtain ⟨p,hp⟩:=hTid i id hki
     obtain ⟨p',hp'⟩:=hTid j id' hkj
     simp only [Option.map_some,hp,hp',Option.getD_some,Option.some.injEq] at hi hj
     obtain ⟨bx,_,hb⟩:=liveAt i id hki
     obtain ⟨bx',_,hb'⟩:=liveAt j id' hkj
     have:=hT.apart id id' _ _ b c c' hb hb' (by rw [hp,hi]) (by rw [hp',hj])
     subst this
     exact hndi0 hki hkj)
  (by
   intro b cap hm
   obtain ⟨k,id,bx,hk,hTi,hl⟩:=hfootmem b cap hm
   exact dR hT hl hTi)
  (by
   rw [hpg]
   intro i bx hbi
   have hil:i<ids0.length:=by
    rw [hl0]
    rcases zlg i pg.length with h' | h'
    ·exact h'
    ·rw [List.getElem?_eq_none h'] at hbi;cases hbi
   obtain ⟨bx',hb1,hb2⟩:=liveAt i _ (List.getElem?_eq_getElem hil)
   rw [hbi] at hb1;injection hb1 with hb1;subst hb1
   have hok:=hT.boxes _ _ hb2
   rw [hTc]
   have e3:(foot++gp)[i]?=T ids0[i]:=by
    have:=congrFun hTc i
    simp only [Tc,List.getElem?_eq_getElem hil] at this
    exact this
   rw [e3]
   exact J7 (hok.mono (Nat.le_refl _) (fun _ _ _=>rfl) (fun b hb _=>hI b hb) (fun _ _ h=>h) (fun _ _ _ _=>rfl)) (by rw [hl0];exact hbpre bx (List.mem_of_getElem? hbi)))
  hvals hargs
 -- the call
 have hexec:(execOp a.eval o).run P w=.ok (.enter g (args.map a.eval++cv)) w:=by
  unfold Q6 at hcallable
  split at hcallable
  ·rename_i fn hfn
   simp only [zba,Bool.not_eq_true',Option.isSome_iff_exists] at hcallable
   obtain ⟨hname,body,hbody⟩:=hcallable
   have hname : ¬ fn.name = "runtime.NumGoroutine" := fun e => by rw [e] at hname; simp at hname
   simp [execOp,ho,resolve,Deferred.ofValue,hfv,invoke,callFunc,hfn,hname,hbody]
  ·cases hcallable
 unfold Oper.wp
 rw [hexec]
 show Calls P g (args.map a.eval++cv) w _
 refine hcalls.mono ?_
 rintro e w' ⟨v,new,rfl,hos,htape,hout,hsize,hblk,hnl,hnew1,hnew2,hres,hpost⟩
 -- behind the call
 have hnln:new.length=(hn.ids.drop hn.pre.length).length:=by simp;omega
 have hzn:=fun (i:Nat)=>zAp (i:=i) (U9 hnd hn.pre.length) hnln
 let T':Tbl:=fun i=>match T i with | some p=>some p | none=>CG ((hn.ids.drop hn.pre.length).zip new) i
 have hT'old:∀ i p,T i=some p→T' i=some p:=by intro i p h;simp [T',h]
 have hT'new:∀ (k i:Nat),hn.ids[k]?=some i→hn.pre.length≤k→T' i=new[k - hn.pre.length]?:=by
  intro k i hk hge
  have h0:=hT.unused i (hnew k i hk hge)
  simp only [T',h0]
  refine (hzn i).1 (k - hn.pre.length) ?_
  rw [List.getElem?_drop,show hn.pre.length+(k - hn.pre.length)=k by omega];exact hk
 have hT'out:∀ i,i∉hn.ids→T' i=T i:=by
  intro i hi
  cases h0:T i with
  | some p=>simp [T',h0]
  | none=>simp only [T',h0];exact (hzn i).2 fun hm=>hi (List.mem_of_mem_drop hm)
 have hidsget:∀ (k i:Nat),hn.ids[k]?=some i→k<hn.ids.length:=by
  intro k i hk
  rcases zlg k hn.ids.length with h' | h'
  ·exact h'
  ·rw [List.getElem?_eq_none h'] at hk;cases hk
 have hTc':(fun i=>(foot++new)[i]?)=Tc hn.ids T':=by
  funext i
  simp only [Tc]
  cases hk:hn.ids[i]? with
  | none =>
   have:hn.ids.length≤i:=List.getElem?_eq_none_iff.1 hk
   refine List.getElem?_eq_none ?_
   rw [zla,hfl];omega
  | some id =>
   rcases zlg i hn.pre.length with hlt | hge
   ·have hk0:ids0[i]?=some id:=hput0 i id hk hlt
    obtain ⟨p,hp⟩:=hTid i id hk0
    rw [List.getElem?_append_left (by omega)]
    have:=congrFun hTc i
    simp only [Tc,hk0] at this
    rw [List.getElem?_append_left (by omega)] at this
    simp only [hT'old id p hp]
    rw [this,hp]
   ·rw [List.getElem?_append_right (by omega),hfl]
    exact (hT'new i id hk hge).symm
 have hbox:∀ i,(st.upd { rs:=rs,rb:=(hn.ids++hn.gids++hn.lend).map (fun i=>(i,B i)),dst:=o.dst.map fun d=>(d,un hn.ids hn.av),wb:=hn.ids.zip (hn.post.map fun b=>yB.live (unB hn.ids b))++hn.gids.map (fun i=>(i,yB.dead)) }).box i =
   vI (hn.ids.zip (hn.post.map fun b=>yB.live (unB hn.ids b))) i (if i∈hn.gids then .dead else st.box i):=fun i=>by
  show vI (_++_) i (st.box i)=_
  rw [WS,zCx]
 have hz:=fun (i:Nat)=>ZZ (i:=i) (d:=if i∈hn.gids then .dead else st.box i) (bs:=hn.post.map fun b=>yB.live (unB hn.ids b)) hnd (by simp [hql])
 have inIds:∀ (k i:Nat),hn.ids[k]?=some i→∃ (bp:Box),hn.post[k]?=some bp∧vI (hn.ids.zip (hn.post.map fun b=>yB.live (unB hn.ids b))) i (if i∈hn.gids then .dead else st.box i)=.live (unB hn.ids bp):=by
  intro k i hk
  have hkl:k<hn.post.length:=by rw [hql];exact hidsget k i hk
  refine ⟨hn.post[k],List.getElem?_eq_getElem hkl,?_⟩
  rw [(hz i).1 k hk]
  simp [List.getD,hkl]
 have outIds:∀ (i:Nat) (bx:Box),i∉hn.ids→vI (hn.ids.zip (hn.post.map fun b=>yB.live (unB hn.ids b))) i (if i∈hn.gids then .dead else st.box i)=.live bx→i∉hn.gids∧st.box i=.live bx:=by
  intro i bx hi hl
  rw [(hz i).2 hi] at hl
  by_cases hg:i∈hn.gids
  ·rw [if_pos hg] at hl;cases hl
  ·rw [if_neg hg] at hl;exact ⟨hg,hl⟩
 have gDead:∀ (i:Nat),i∈hn.gids→vI (hn.ids.zip (hn.post.map fun b=>yB.live (unB hn.ids b))) i (if i∈hn.gids then .dead else st.box i)=.dead:=by
  intro i hi
  rw [(hz i).2 (fun h=>hdisj h hi),if_pos hi]
 have oldLive:∀ (k i:Nat),hn.ids[k]?=some i→k<hn.pre.length→∃ bx,st.box i=.live bx∧T' i=T i:=by
  intro k i hk hlt
  have hk0:ids0[k]?=some i:=hput0 k i hk hlt
  obtain ⟨bx,_,hb⟩:=liveAt k i hk0
  obtain ⟨p,hp⟩:=hTid k i hk0
  exact ⟨_,hb,by rw [hT'old i p hp,hp]⟩
 have hmemnew:∀ (k i b cap:Nat),hn.ids[k]?=some i→hn.pre.length≤k→T' i=some (.at b cap)→wV.at b cap∈new:=by
  intro k i b cap hk hge hTi
  rw [hT'new k i hk hge] at hTi
  exact List.mem_of_getElem? hTi
 have hIimm:kZ hn.lend=true→∀ b,kept I w gp new b→imm G (st.upd { rs:=rs,rb:=(hn.ids++hn.gids++hn.lend).map (fun i=>(i,B i)),dst:=o.dst.map fun d=>(d,un hn.ids hn.av),wb:=hn.ids.zip (hn.post.map fun b=>yB.live (unB hn.ids b))++hn.gids.map (fun i=>(i,yB.dead)) }) T' b:=by
  intro h0 b hb
  have h00:hn.lend=[]:=by cases hl1:hn.lend with | nil=>rfl | cons _ _=>rw [hl1] at h0;simp [kZ] at h0
  have hold:(G.I0 b∨G.mine b):=by
   rcases hb with ⟨hb | ⟨id',_,hm',_⟩,_⟩ | ⟨hb | ⟨cap,hb⟩,_⟩
   ·exact hb.1
   ·rw [h00] at hm';cases hm'
   ·exact .inr (.inl (Nat.le_trans hT.kept.size hb))
   ·obtain ⟨gid,gbx,g1,g2,g3⟩:=hgpmem b cap hb
    exact .inr (hT.mine gid gbx b cap g3 g2 (by have:=hgnp gid g1;omega))
  refine ⟨hold,fun id bx cap hl hTi=>?_⟩
  rw [hbox] at hl
  have oldCase:∀ bx',st.box id=.live bx'→T' id=T id→id∉hn.gids→False:=by
   intro bx' hl' hTe hng
   rw [hTe] at hTi
   have hlt:=dR hT hl' hTi
   rcases hb with ⟨hb | ⟨id',_,hm',_⟩,_⟩ | ⟨hb | ⟨cap',hb⟩,_⟩
   ·exact hb.2 id bx' cap hl' hTi
   ·rw [h00] at hm';cases hm'
   ·omega
   ·obtain ⟨gid,gbx,g1,g2,g3⟩:=hgpmem b cap' hb
    have:=hT.apart id gid bx' gbx b cap cap' hl' g3 hTi g2
    exact hng (this ▸ g1)
  by_cases hi:id∈hn.ids
  ·obtain ⟨k,hk⟩:=List.mem_iff_getElem?.1 hi
   rcases zlg k hn.pre.length with hlt | hge
   ·obtain ⟨bx',hb',hTe⟩:=oldLive k id hk hlt
    exact oldCase bx' hb' hTe (fun h=>hdisj hi h)
   ·have hm:=hmemnew k id b cap hk hge hTi
    rcases hb with ⟨hb1,hb⟩ | ⟨_,hb⟩
    ·rcases hnew1 b cap hm with h' | ⟨cap',h'⟩
     ·omega
     ·exact hIfoot b hb1 cap' (List.mem_append_right _ h')
    ·exact hb cap hm
  ·obtain ⟨hg,hl⟩:=outIds id bx hi hl
   exact oldCase bx hl (hT'out id hi) hg
 refine hT.stepN (T':=T') (S:=fun b=>∃ cap,wV.at b cap∈foot++gp) hos htape hout hsize (fun b hb hn'=>hblk b hb fun cap hm=>hn' ⟨cap,hm⟩) ?_ hT'old (fun id bx b cap hl hTi=>dR hT hl hTi) ?_ ?_ ?_ (by simp [Option.map_map,Function.comp_def]) ?_ ?_
 ·rintro b ⟨cap,hm⟩
  obtain ⟨k,id,bx,hk,hTi,hl⟩:=hfootmem b cap hm
  exact ⟨id,bx,cap,hl,hTi⟩
 ·intro id bx hl
  rw [hbox] at hl
  by_cases hi:id∈hn.ids
  ·obtain ⟨k,hk⟩:=List.mem_iff_getElem?.1 hi
   rcases zlg k hn.pre.length with hlt | hge
   ·exact .inl (oldLive k id hk hlt)
   ·refine .inr ⟨hnew k id hk hge,fun b cap hTi=>?_⟩
    rcases hnew1 b cap (hmemnew k id b cap hk hge hTi) with h' | ⟨cap',h'⟩
    ·exact .inl h'
    ·obtain ⟨gid,gbx,g1,g2,g3⟩:=hgpmem b cap' h'
     refine .inr ⟨gid,gbx,cap',g3,g2,by have:=hgnp gid g1;omega,fun bx' hbx=>?_⟩
     rw [hbox,gDead gid g1] at hbx
     cases hbx
  ·obtain ⟨_,hl⟩:=outIds id bx hi hl
   exact .inl ⟨bx,hl,hT'out id hi⟩
 ·intro id hu
  rw [hbox] at hu
  by_cases hi:id∈hn.ids
  ·obtain ⟨k,hk⟩:=List.mem_iff_getElem?.1 hi
   obtain ⟨bp,_,hlk⟩:=inIds k id hk
   rw [hlk] at hu;cases hu
  ·rw [(hz id).2 hi] at hu
   rw [hT'out id hi]
   by_cases hg:id∈hn.gids
   ·rw [if_pos hg] at hu;cases hu
   ·rw [if_neg hg] at hu;exact hT.unused id hu
 ·intro id id' b c c' h1 h2 t1 t2
  have inNew:∀ (j b c:Nat),st.box j=.unused→T' j=some (.at b c)→∃ k,hn.ids[k]?=some j∧hn.pre.length≤k:=by
   intro j b c hu hTj
   by_cases hi:j∈hn.ids
   ·obtain ⟨k,hk⟩:=List.mem_iff_getElem?.1 hi
    rcases zlg k hn.pre.length with hlt | hge
    ·obtain ⟨bx',hb',_⟩:=oldLive k j hk hlt
     rw [hb'] at hu;cases hu
    ·exact ⟨k,hk,hge⟩
   ·rw [hT'out j hi,hT.unused j hu] at hTj;cases hTj
  obtain ⟨k,hk,hge⟩:=inNew id b c h1 t1
  obtain ⟨k',hk',hge'⟩:=inNew id' b c' h2 t2
  rw [hT'new k id hk hge] at t1
  rw [hT'new k' id' hk' hge'] at t2
  have:=hnew2 _ _ b c c' t1 t2
  have hkk:k=k':=by omega
  subst hkk
  rw [hk] at hk';injection hk'
 ·intro d av he
  obtain ⟨hlt,rfl⟩:=uE hd he
  refine ⟨by omega,?_⟩
  rw [hTc'] at hres
  have hres2:=RH hres hbav
  rcases hdep with h0 | h0
  ·exact hres2.mono (Nat.le_refl _) (fun _ _ _=>rfl) (fun b hb _=>hIimm h0 b hb) (fun _ _ h=>h)
  ·exact hres2.scalar (RP h0.2)
 ·intro id bx hl
  rw [hbox] at hl
  by_cases hi:id∈hn.ids
  ·obtain ⟨k,hk⟩:=List.mem_iff_getElem?.1 hi
   obtain ⟨bp,hpk,hlk⟩:=inIds k id hk
   rw [hlk] at hl;injection hl with hl;subst hl
   right
   have hnil:kZ hn.lend=true:=by
    rcases hdep with h0 | h0
    ·exact h0
    ·have:hn.ids=[]:=by cases hl1:hn.ids with | nil=>rfl | cons _ _=>rw [hl1] at h0;simp [kZ] at h0
     rw [this] at hi;cases hi
   have hok:=hpost k bp hpk
   have e3:(foot++new)[k]?=T' id:=by
    have:=congrFun hTc' k
    simp only [Tc,hk] at this
    exact this
   rw [e3,hTc'] at hok
   have hok2:=XO hok (hbpost bp (List.mem_of_getElem? hpk))
   exact hok2.mono (Nat.le_refl _) (fun _ _ _=>rfl) (fun b hb' _=>hIimm hnil b hb') (fun _ _ h=>h) (fun _ _ _ _=>rfl)
  ·obtain ⟨hg,hl⟩:=outIds id bx hi hl
   refine .inl ⟨hl,hT'out id hi,?_⟩
   rintro b cap ⟨cap',hm⟩ hTi
   obtain ⟨k,id',bx',hk,hTi',hl'⟩:=hfootmem b cap' hm
   have:=hT.apart id id' bx bx' b cap cap' hl hl' hTi hTi'
   rcases hmem0 _ (List.mem_of_getElem? hk) with h' | h'
   ·exact hi (this ▸ h')
   ·exact hg (this ▸ h')
end Go.Ab
