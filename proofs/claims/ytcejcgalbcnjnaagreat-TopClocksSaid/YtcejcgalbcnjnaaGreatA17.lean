/- Lemmas. No conditions but those that they name. -/
import Derived.Test.YtcejcgalbcnjnaaGreatA9
import Derived.WideMake
import Derived.DeepKeys4
namespace Go.Ab
open Go
def XZ (P:Program) (f:FuncId):Bool :=
 match P.funcs[f]? with
 | some fn => !(fn.name == "runtime.NumGoroutine") && fn.body.isSome
 | none=>false
mutual
def scalar:AV->Bool
 | .junk=>true
 | .int ..=>true
 | .bool _=>true
 | .str _=>true
 | .agg cs=>CE cs
 | .tuple cs=>CE cs
 | .nilp=>true
 | .nilsl=>true
 | _=>false
def CE:List AV->Bool
 | []=>true
 | a::r=>scalar a&&CE r
end
theorem zCI {cs:List AV} (h:CE cs=true) {j:Nat} {c:AV} (hj:cs[j]?=some c):scalar c=true:=by
 induction cs generalizing j with
 | nil=>simp at hj
 | cons a r ih =>
  simp only [CE,zba] at h;cases j with
  | zero=>simp at hj;exact hj ▸ h.1
  | succ j=>exact ih h.2 (by simpa using hj)
theorem Rep.scalar {w w':World} {I I':Nat->Prop} {T T':Tbl} {v:Value} {av:AV} (h:Rep w I T v av):scalar av=true->Rep w' I' T' v av:=by
 induction h generalizing T' with
 | junk=>intro _;exact .junk
 | int h=>intro _;exact .int h
 | bool=>intro _;exact .bool
 | str h h'=>intro _;exact .str h h'
 | agg h h1 _ ih=>intro hb;exact .agg h h1 fun j c hj=>ih j c hj (zCI hb hj)
 | tuple h _ ih=>intro hb;exact .tuple h fun j c hj=>ih j c hj (zCI hb hj)
 | nilp=>intro _;exact .nilp
 | nilsl=>intro _;exact .nilsl
 | _=>intro hb;simp [Go.Ab.scalar] at hb
def bZ {α:Type}:List α->Bool
 | []=>true
 | _=>false
def tZ:List Nat->Bool
 | []=>true
 | a::r=>!(r.any (Nat.beq a))&&tZ r
theorem B6 {l:List Nat} (h:tZ l=true):∀ {i j a:Nat},l[i]?=some a->l[j]?=some a->i=j:=by
 induction l with
 | nil=>intro i j a hi;simp at hi
 | cons x r ih =>
  simp only [tZ,zba,pH] at h;have hx:x∉r:=fun hm=>by have:=W1 hm;rw [h.1] at this;cases this
  intro i j a hi hj;cases i with
  | zero =>
   cases j with
   | zero=>rfl
   | succ j =>
    simp only [jY,uU] at hi;subst hi;exact absurd (yN (by simpa using hj)) hx
  | succ i =>
   cases j with
   | zero =>
    simp only [jY,uU] at hj;subst hj;exact absurd (yN (by simpa using hi)) hx
   | succ j =>
    have hi':r[i]?=some a:=by simpa using hi
    have hj':r[j]?=some a:=by simpa using hj
    rw [ih h.2 hi' hj']
def XV (A:Operand->AV) (f:Operand):Option (FuncId×List AV) :=
 match A f with
 | .fn g caps=>some (g,caps)
 | _=>none
def nF:zR->Bool
 | .unused=>true
 | _=>false
theorem bK {b:zR} (h:nF b=true):b=.unused:=by cases b<;>simp_all [nF]
def MY (P:Program) (np:Nat) (A:Operand->AV) (f:Operand) (args:List Operand) (B:Nat->zR) (h:wA):Option (List Prop×List (Nat×zR)×AV) :=
 match XV A f with
 | none=>none
 | some (g,caps) =>
  bif XZ P g&&(((h.l.all (qQ (h.pre++h.giv).length)&&(h.pre++h.giv).all (gY (h.pre++h.giv).length))&&(h.post.all (gY h.ids.length)&&(tZ (h.ids++h.gids)&&qQ h.ids.length h.av))) &&
    (((Nat.ble h.pre.length h.ids.length&&Nat.beq h.post.length h.ids.length)&&((h.ids.drop h.pre.length).all (fun i=>nF (B i))&&(bZ h.lend||((bZ h.ids&&bZ h.gids)&&scalar h.av)))) &&
     (((args.map A++caps).map (frz B h.lend)).all rS&&(Nat.beq h.giv.length h.gids.length&&h.gids.all (Nat.ble np))))) then
   some ((args.map A++caps).flatMap (oE B h.lend)++[(args.map A++caps).map (frz B h.lend)=uns (h.ids.take h.pre.length++h.gids) h.l,
     (h.ids.take h.pre.length++h.gids).map B=(h.pre++h.giv).map (fun b=>zR.live (unB (h.ids.take h.pre.length++h.gids) b)),y9 P g h.pre h.giv h.l h.post h.av],
    (h.ids.zip (h.post.map fun b=>zR.live (unB h.ids b)))++h.gids.map (fun i=>(i,zR.dead)),un h.ids h.av)
  else none
def R1:List (Nat×zY)->Nat->Option zY
 | [],_=>none
 | (k,p)::r,i=>if i=k then some p else R1 r i
theorem zKk {ids:List Nat} {ps:List zY} (hd:tZ ids=true) (hl:ps.length=ids.length) {i:Nat} :
  (∀ (k:Nat),ids[k]?=some i->R1 (ids.zip ps) i=ps[k]?)/\(i∉ids->R1 (ids.zip ps) i=none):=by
 induction ids generalizing ps with
 | nil=>exact ⟨fun k hk=>by simp at hk,fun _=>rfl⟩
 | cons x r ih =>
  cases ps with
  | nil=>simp at hl
  | cons y s =>
   simp only [tZ,zba,pH] at hd;have hx:x∉r:=fun hm=>by have:=W1 hm;rw [hd.1] at this;cases this
   obtain ⟨i1,i2⟩:=ih (ps:=s) hd.2 (by simpa using hl);simp only [EG,R1]
   constructor
   ·intro k hk;cases k with
    | zero=>simp at hk;subst hk;simp
    | succ k =>
     have hk':r[k]?=some i:=by simpa using hk
     have hne:i≠x:=fun e=>hx (e ▸ yN hk')
     rw [if_neg hne,i1 k hk'];simp
   ·intro hn;simp only [uA,not_or] at hn;rw [if_neg hn.1];exact i2 hn.2
theorem zCz {l:List Nat} (h:tZ l=true) (n:Nat):tZ (l.drop n)=true:=by
 induction l generalizing n with
 | nil=>simp [tZ]
 | cons a r ih =>
  cases n with
  | zero=>exact h
  | succ n=>simp only [tZ,zba] at h;exact ih h.2 n
theorem zLE {ids:List Nat} {bs:List zR} (hd:tZ ids=true) (hl:bs.length=ids.length) {i:Nat} {d:zR} :
  (∀ (k:Nat),ids[k]?=some i->yJ (ids.zip bs) i d=bs.getD k .dead)/\(i∉ids->yJ (ids.zip bs) i d=d):=by
 induction ids generalizing bs with
 | nil=>exact ⟨fun k hk=>by simp at hk,fun _=>rfl⟩
 | cons x r ih =>
  cases bs with
  | nil=>simp at hl
  | cons y s =>
   have hd0:=hd;simp only [tZ,zba,pH] at hd;have hx:x∉r:=fun hm=>by have:=W1 hm;rw [hd.1] at this;cases this
   obtain ⟨i1,i2⟩:=ih (bs:=s) hd.2 (by simpa using hl);simp only [EG,yJ]
   constructor
   ·intro k hk;cases k with
    | zero =>
     simp at hk;subst hk;simp [List.getD]
    | succ k =>
     have hk':r[k]?=some i:=by simpa using hk
     have hne:i≠x:=fun e=>hx (e ▸ yN hk')
     rw [wV hne];simp only [cond_false];rw [i1 k hk'];simp [List.getD]
   ·intro hn;simp only [uA,not_or] at hn;rw [wV hn.1];exact i2 hn.2
theorem zEs {a b:Nat} (h:Nat.ble a b=true):a<=b:=zle h
theorem zKc {l m:List Nat} (h:tZ (l++m)=true):tZ l=true:=by
 induction l with
 | nil=>rfl
 | cons a r ih =>
  simp only [B9,tZ,zba,pH,List.any_append,L8] at h ⊢;exact ⟨h.1.1,ih h.2⟩
theorem zNC {l m:List Nat} (h:tZ (l++m)=true) {a:Nat} (h1:a∈l) (h2:a∈m):False:=by
 obtain ⟨i,hi⟩:=uG.1 h1;obtain ⟨j,hj⟩:=uG.1 h2;have hil:=(vO.1 hi).1;have e1:(l++m)[i]?=some a:=by rw [uH hil];exact hi
 have e2:(l++m)[l.length+j]?=some a:=by rw [u4 (by omega),show l.length+j - l.length=j by omega];exact hj
 have:=B6 h e1 e2
 omega
theorem zHJ {l m:List Nat} (h:tZ (l++m)=true):tZ m=true:=by
 have:=zCz h l.length
 simpa using this
theorem zDE {l m:List (Nat×zR)} {i:Nat} {d:zR}:yJ (l++m) i d=yJ l i (yJ m i d):=by
 induction l with
 | nil=>rfl
 | cons x r ih=>simp only [B9,yJ,ih]
theorem zCm {ids:List Nat} {i:Nat} {d:zR}:yJ (ids.map fun i=>(i,zR.dead)) i d=if i∈ids then .dead else d:=by
 induction ids with
 | nil=>simp [yJ]
 | cons x r ih =>
  simp only [uM,yJ,ih,uA]
  by_cases h:i=x
  ·subst h;simp
  ·rw [wV h];simp [h]
mutual
theorem zCD {foot:List Nat}:∀ {c:AV},scalar c=true->scalar (un foot c)=true
 | .junk,_=>rfl
 | .int ..,_=>rfl
 | .bool _,_=>rfl
 | .str _,_=>rfl
 | .agg cs,h=>by simp only [un,scalar] at *;exact zBQ h
 | .tuple cs,h=>by simp only [un,scalar] at *;exact zBQ h
 | .nilp,_=>rfl
 | .nilsl,_=>rfl
theorem zBQ {foot:List Nat}:∀ {cs:List AV},CE cs=true->CE (uns foot cs)=true
 | [],_=>rfl
 | a::r,h=>by
  simp only [uns,CE,zba] at *;exact ⟨zCD h.1,zBQ h.2⟩
end
theorem zN7 {P:Program} {N np:Nat} {o:Oper} {f:Operand} {args:Array Operand} {ts:Array TypeId} {rs:List (Nat×AV)} {hn:wA} {B:Nat->zR} {r:List Prop×List (Nat×zR)×AV}
  (ho:o.op=.call { callee:=.value f,args:=args,argTypes:=ts }) (hf:xK f=true) (hx:∀ x∈args.toList,xK x=true)
  (h:MY P np (y7 rs) f args.toList B hn=some r) (hv:∀ p∈r.1,p) (hd:qF N o.dst=true) :
  qH P N np o { rs:=rs,rb:=(hn.ids++hn.gids++hn.lend).map (fun i=>(i,B i)),dst:=o.dst.map fun d=>(d,r.2.2),wb:=r.2.1 }:=by
 intro G st a w hN hnp hE ⟨T,hT⟩;unfold MY at h
 split at h
 ·cases h
 rename_i g caps hcal
 replace h:=xM h;obtain ⟨hc,h⟩:=h;simp only [zba,rJ,tC] at hc;obtain ⟨hcallable,⟨⟨hbl,hbpre⟩,hbpost,hnda,hbav⟩,⟨⟨hpl,hql⟩,hfresh,hdep⟩,hwhole,hgl,hgnp⟩:=hc;have hpl:=zEs hpl;have hql:=wT.1 hql;have hgl:=wT.1 hgl;have hgnp:∀ i∈hn.gids,np<=i:=fun i hi=>zEs (hgnp i hi)
 have hnd:=zKc hnda;have hndg:=zHJ hnda;have hdisj:∀ {i:Nat},i∈hn.ids->i∈hn.gids->False:=fun h1 h2=>zNC hnda h1 h2
 injection h with h;subst h;simp only at hE hv;generalize hidst:hn.ids.take hn.pre.length=idst at hv;have hlt0:idst.length=hn.pre.length:=by rw [<- hidst];simp;omega
 generalize hids0:idst++hn.gids=ids0 at hv;generalize hpg:hn.pre++hn.giv=pg at hv hbl hbpre;have hpgl:pg.length=hn.pre.length+hn.giv.length:=by rw [<- hpg];simp
 have hl0:ids0.length=pg.length:=by rw [<- hids0,hpgl];simp [hlt0,hgl]
 have hget0:∀ (k i:Nat),ids0[k]?=some i->(hn.ids[k]?=some i/\k<hn.pre.length)\/(hn.gids[k - hn.pre.length]?=some i/\hn.pre.length<=k):=by
  intro k i hk;rw [<- hids0] at hk;rcases zlg k idst.length with hlt | hge
  ·rw [uH hlt,<- hidst,aY] at hk
   split at hk
   ·exact .inl ⟨hk,by omega⟩
   ·cases hk
  ·rw [u4 hge,hlt0] at hk;exact .inr ⟨hk,by omega⟩
 have hput0:∀ (k i:Nat),hn.ids[k]?=some i->k<hn.pre.length->ids0[k]?=some i:=by
  intro k i hk hlt;rw [<- hids0,uH (by omega),<- hidst,aY,if_pos hlt];exact hk
 have hmem0:∀ i,i∈ids0->i∈hn.ids\/i∈hn.gids:=by
  intro i hi;rw [<- hids0,<- hidst] at hi;rcases wL.1 hi with hi | hi
  ·exact .inl (aK hi)
  ·exact .inr hi
 have e1:((args.toList.map (y7 rs)++caps).map (frz B hn.lend))=uns ids0 hn.l:=hv _ (by simp);have e2:ids0.map B=pg.map (fun b=>zR.live (unB ids0 b)):=hv _ (by simp);have htri:y9 P g hn.pre hn.giv hn.l hn.post hn.av:=hv _ (by simp);have hvc:∀ x∈args.toList.map (y7 rs)++caps,∀ p∈oE B hn.lend x,p:=fun x hx p hp=>hv p (rM _ (aB.2 ⟨x,hx,hp⟩))
 have hBi:∀ i∈hn.ids,st.box i=B i:=fun i hi=>hE.2 (i,B i) (vB.2 ⟨i,by simp [hi],rfl⟩)
 have hBg:∀ i∈hn.gids,st.box i=B i:=fun i hi=>hE.2 (i,B i) (vB.2 ⟨i,by simp [hi],rfl⟩)
 have hBl:∀ i∈hn.lend,st.box i=B i:=fun i hi=>hE.2 (i,B i) (vB.2 ⟨i,by simp [hi],rfl⟩)
 -- the new names
 have hnew:∀ (k i:Nat),hn.ids[k]?=some i->hn.pre.length<=k->st.box i=.unused:=by
  intro k i hk hge;have hm:i∈hn.ids.drop hn.pre.length:=by
   refine yN (i:=k - hn.pre.length) ?_;rw [gH,show hn.pre.length+(k - hn.pre.length)=k by omega];exact hk
  rw [hBi i (yN hk)];exact bK (hfresh i hm)
 -- the function value
 have hfr:=uS hT hE.1 hf;have hfform:∃ cv,a.eval f=.func (.func g) #[] cv/\cv.size=caps.length/\∀ (j:Nat) (c:AV),caps[j]?=some c->Rep w (imm G st T) T (cv.getD j undef) c:=by
  unfold XV at hcal
  split at hcal
  ·rename_i g' caps' hA
   simp only [uU,kU] at hcal;obtain ⟨rfl,rfl⟩:=hcal;rw [hA] at hfr;generalize hvf:a.eval f=vf at hfr;cases hfr with
   | fn h1 h2=>exact ⟨_,rfl,h1,h2⟩
  ·cases hcal
 obtain ⟨cv,hfv,hcs,hcr⟩:=hfform
 -- the blocks handed over
 have liveAt:∀ (k id:Nat),ids0[k]?=some id->∃ bx,pg[k]?=some bx/\st.box id=.live (unB ids0 bx):=by
  intro k id hk;have h1:(ids0.map B)[k]?=some (B id):=by simp [hk]
  rw [e2,vD] at h1;cases hpk:pg[k]? with
  | none=>rw [hpk] at h1;cases h1
  | some bx =>
   rw [hpk] at h1;injection h1 with h1;refine ⟨bx,rfl,?_⟩;rcases hmem0 id (yN hk) with hm | hm
   ·exact (hBi id hm).trans h1.symm
   ·exact (hBg id hm).trans h1.symm
 have hndi0:∀ {i j a:Nat},ids0[i]?=some a->ids0[j]?=some a->i=j:=by
  intro i j a hi hj;rcases hget0 _ _ hi with ⟨h1,h2⟩ | ⟨h1,h2⟩<;>rcases hget0 _ _ hj with ⟨h3,h4⟩ | ⟨h3,h4⟩
  ·exact B6 hnd h1 h3
  ·exact (hdisj (yN h1) (yN h3)).elim
  ·exact (hdisj (yN h3) (yN h1)).elim
  ·have:=B6 hndg h1 h3;omega
 let foot:List zY:=idst.map fun id=>(T id).getD .nil
 let gp:List zY:=hn.gids.map fun id=>(T id).getD .nil
 have hfl:foot.length=hn.pre.length:=by simp [foot,hlt0]
 have hgpl:gp.length=hn.giv.length:=by simp [gp,hgl]
 have hfa:foot++gp=ids0.map fun id=>(T id).getD .nil:=by rw [<- hids0];simp [foot,gp]
 have hTid:∀ (k id:Nat),ids0[k]?=some id->∃ p,T id=some p:=by
  intro k id hk;obtain ⟨bx,_,hb⟩:=liveAt k id hk;have hok:=hT.boxes id _ hb;cases hTi:T id with
  | some p=>exact ⟨p,rfl⟩
  | none =>
   rw [hTi] at hok;exact hok.no.elim
 have hTc:(fun i=>(foot++gp)[i]?)=Tc ids0 T:=by
  funext i
  rw [hfa];simp only [Tc,vD];cases hk:ids0[i]? with
  | none=>rfl
  | some id =>
   obtain ⟨p,hp⟩:=hTid i id hk;simp [hp]
 have hfootmem:∀ b cap,zY.at b cap∈foot++gp->∃ (k id:Nat) (bx:Box),ids0[k]?=some id/\T id=some (.at b cap)/\st.box id=.live bx:=by
  intro b cap hm;rw [hfa] at hm;obtain ⟨k,hk⟩:=uG.1 hm;simp only [vD] at hk;cases hki:ids0[k]? with
  | none=>rw [hki] at hk;cases hk
  | some id =>
   rw [hki] at hk;obtain ⟨p,hp⟩:=hTid k id hki;simp only [kH,hp,jE,uU] at hk;obtain ⟨bx,_,hb⟩:=liveAt k id hki;exact ⟨k,id,_,hki,by rw [hp,hk],hb⟩
 have hgpmem:∀ b cap,zY.at b cap∈gp->∃ (id:Nat) (bx:Box),id∈hn.gids/\T id=some (.at b cap)/\st.box id=.live bx:=by
  intro b cap hm;obtain ⟨k,hk⟩:=uG.1 hm;simp only [gp,vD] at hk;cases hki:hn.gids[k]? with
  | none=>rw [hki] at hk;cases hk
  | some id =>
   rw [hki] at hk;have hk0:ids0[idst.length+k]?=some id:=by
    rw [<- hids0,u4 (by omega),show idst.length+k - idst.length=k by omega];exact hki
   obtain ⟨p,hp⟩:=hTid _ id hk0;simp only [kH,hp,jE,uU] at hk;obtain ⟨bx,_,hb⟩:=liveAt _ id hk0;exact ⟨id,_,yN hki,by rw [hp,hk],hb⟩
 let I:Nat->Prop:=zMi G st T hn.lend
 have hI:∀ b,imm G st T b->I b:=fun b hb=>.inl hb
 have hIl:∀ id b cap,id∈hn.lend->T id=some (.at b cap)->I b:=fun id b cap h1 h2=>.inr ⟨id,cap,h1,h2⟩
 have hnilids0:bZ hn.ids=true->bZ hn.gids=true->ids0=[]:=by
  intro h0 h1;have e3:hn.ids=[]:=by cases hl1:hn.ids with | nil=>rfl | cons _ _=>rw [hl1] at h0;simp [bZ] at h0
  have e4:hn.gids=[]:=by cases hl1:hn.gids with | nil=>rfl | cons _ _=>rw [hl1] at h1;simp [bZ] at h1
  rw [<- hids0,<- hidst,e3,e4];simp
 have hIfoot:∀ b,I b->∀ cap,zY.at b cap∉foot++gp:=by
  intro b hb cap hm;obtain ⟨k,id,bx,hk,hTi,hl⟩:=hfootmem b cap hm;rcases hb with hb | ⟨id',cap',hm',hT'⟩
  ·exact hb.2 id bx cap hl hTi
  ·rcases hdep with h0 | h0
   ·have:hn.lend=[]:=by cases hl1:hn.lend with | nil=>rfl | cons _ _=>rw [hl1] at h0;simp [bZ] at h0
    rw [this] at hm';cases hm'
   ·rw [hnilids0 h0.1.1 h0.1.2] at hk;simp at hk
 -- the arguments
 have hvals:(args.map a.eval++cv).size=hn.l.length:=by
  have h1:=congrArg List.length e1;simp only [vL,zla,d7] at h1;simp only [Array.size_append,Array.size_map,hcs];rw [<- h1];simp
 have hargs:∀ (j:Nat) (av:AV),hn.l[j]?=some av->Rep w I (fun i=>(foot++gp)[i]?) ((args.map a.eval++cv).getD j undef) av:=by
  intro j av hj;rw [hTc];have h1:(uns ids0 hn.l)[j]?=some (un ids0 av):=by rw [lV,hj];rfl
  rw [<- e1,vD] at h1;cases hxj:(args.toList.map (y7 rs)++caps)[j]? with
  | none=>rw [hxj] at h1;cases h1
  | some X =>
   rw [hxj] at h1;injection h1 with h1;have hraw:Rep w (imm G st T) T ((args.map a.eval++cv).getD j undef) X:=by
    rcases zlg j args.size with hlt | hge
    ·rw [uH (by simpa using hlt),vD] at hxj;cases hoj:args.toList[j]? with
     | none=>rw [hoj] at hxj;cases hxj
     | some x =>
      rw [hoj] at hxj;injection hxj with hxj;rw [k9] at hoj
      have:(args.map a.eval++cv).getD j undef=a.eval x:=by
       simp only [bG];rw [LF (by simpa using hlt)];simp [hoj]
      rw [this,<- hxj];exact uS hT hE.1 (hx x (yN (by rw [k9];exact hoj)))
    ·rw [u4 (by simpa using hge)] at hxj;simp only [vL,oN] at hxj
     have:(args.map a.eval++cv).getD j undef=cv.getD (j - args.size) undef:=by
      simp only [bG];rw [Array.getElem?_append_right (by simpa using hge)];simp
     rw [this];exact hcr _ _ hxj
   have hXm:=yN hxj;have hfz:=ZT hT hBl hI hIl hraw (hvc X hXm) (hwhole _ (vB.2 ⟨X,hXm,rfl⟩));exact D0 hfz av h1.symm (by rw [hl0];exact hbl av (yN hj))
 have hcalls:=htri w I foot gp (args.map a.eval++cv) hfl hgpl hIfoot
  (by
   intro i j b c c' hi hj;rw [hfa] at hi hj;simp only [vD] at hi hj;cases hki:ids0[i]? with
   | none=>rw [hki] at hi;cases hi
   | some id =>
    cases hkj:ids0[j]? with
    | none=>rw [hkj] at hj;cases hj
    | some id' =>
     rw [hki] at hi;rw [hkj] at hj;obtain ⟨p,hp⟩:=hTid i id hki;obtain ⟨p',hp'⟩:=hTid j id' hkj;simp only [kH,hp,hp',jE,uU] at hi hj;obtain ⟨bx,_,hb⟩:=liveAt i id hki;obtain ⟨bx',_,hb'⟩:=liveAt j id' hkj
     have:=hT.apart id id' _ _ b c c' hb hb' (by rw [hp,hi]) (by rw [hp',hj])
     subst this;exact hndi0 hki hkj)
  (by
   intro b cap hm;obtain ⟨k,id,bx,hk,hTi,hl⟩:=hfootmem b cap hm;exact cS hT hl hTi)
  (by
   rw [hpg];intro i bx hbi;have hil:i<ids0.length:=by
    rw [hl0];rcases zlg i pg.length with h' | h'
    ·exact h'
    ·rw [vH h'] at hbi;cases hbi
   obtain ⟨bx',hb1,hb2⟩:=liveAt i _ (w7 hil);rw [hbi] at hb1;injection hb1 with hb1;subst hb1;have hok:=hT.boxes _ _ hb2;rw [hTc];have e3:(foot++gp)[i]?=T ids0[i]:=by
    have:=congrFun hTc i
    simp only [Tc,w7 hil] at this;exact this
   rw [e3];exact UE (hok.mono (yI _) (fun _ _ _=>rfl) (fun b hb _=>hI b hb) (fun _ _ h=>h) (fun _ _ _ _=>rfl)) (by rw [hl0];exact hbpre bx (yN hbi)))
  hvals hargs
 -- the call
 have hexec:(execOp a.eval o).run P w=.ok (.enter g (args.map a.eval++cv)) w:=by
  unfold XZ at hcallable
  split at hcallable
  ·rename_i fn hfn
   simp only [zba,pH,H7] at hcallable;obtain ⟨hname,body,hbody⟩:=hcallable
   have hname : ¬ fn.name = "runtime.NumGoroutine" := fun e => by rw [e] at hname; simp at hname
   simp [execOp,ho,resolve,Deferred.ofValue,hfv,invoke,callFunc,hfn,hname,hbody]
  ·cases hcallable
 unfold Oper.wp;rw [hexec];show Calls P g (args.map a.eval++cv) w _;refine hcalls.mono ?_;rintro e w' ⟨v,new,rfl,hos,htape,hout,hsize,hblk,hnl,hnew1,hnew2,hres,hpost⟩
 -- behind the call
 have hnln:new.length=(hn.ids.drop hn.pre.length).length:=by simp;omega
 have hzn:=fun (i:Nat)=>zKk (i:=i) (zCz hnd hn.pre.length) hnln
 let T':Tbl:=fun i=>match T i with | some p=>some p | none=>R1 ((hn.ids.drop hn.pre.length).zip new) i
 have hT'old:∀ i p,T i=some p->T' i=some p:=by intro i p h;simp [T',h]
 have hT'new:∀ (k i:Nat),hn.ids[k]?=some i->hn.pre.length<=k->T' i=new[k - hn.pre.length]?:=by
  intro k i hk hge;have h0:=hT.unused i (hnew k i hk hge);simp only [T',h0];refine (hzn i).1 (k - hn.pre.length) ?_;rw [gH,show hn.pre.length+(k - hn.pre.length)=k by omega];exact hk
 have hT'out:∀ i,i∉hn.ids->T' i=T i:=by
  intro i hi;cases h0:T i with
  | some p=>simp [T',h0]
  | none=>simp only [T',h0];exact (hzn i).2 fun hm=>hi (bS hm)
 have hidsget:∀ (k i:Nat),hn.ids[k]?=some i->k<hn.ids.length:=by
  intro k i hk;rcases zlg k hn.ids.length with h' | h'
  ·exact h'
  ·rw [vH h'] at hk;cases hk
 have hTc':(fun i=>(foot++new)[i]?)=Tc hn.ids T':=by
  funext i
  simp only [Tc];cases hk:hn.ids[i]? with
  | none =>
   have:hn.ids.length<=i:=List.getElem?_eq_none_iff.1 hk
   refine vH ?_;rw [zla,hfl];omega
  | some id =>
   rcases zlg i hn.pre.length with hlt | hge
   ·have hk0:ids0[i]?=some id:=hput0 i id hk hlt;obtain ⟨p,hp⟩:=hTid i id hk0;rw [uH (by omega)]
    have:=congrFun hTc i
    simp only [Tc,hk0] at this;rw [uH (by omega)] at this;simp only [hT'old id p hp];rw [this,hp]
   ·rw [u4 (by omega),hfl];exact (hT'new i id hk hge).symm
 have hbox:∀ i,(st.upd { rs:=rs,rb:=(hn.ids++hn.gids++hn.lend).map (fun i=>(i,B i)),dst:=o.dst.map fun d=>(d,un hn.ids hn.av),wb:=hn.ids.zip (hn.post.map fun b=>zR.live (unB hn.ids b))++hn.gids.map (fun i=>(i,zR.dead)) }).box i =
   yJ (hn.ids.zip (hn.post.map fun b=>zR.live (unB hn.ids b))) i (if i∈hn.gids then .dead else st.box i):=fun i=>by
  show yJ (_++_) i (st.box i)=_;rw [zDE,zCm]
 have hz:=fun (i:Nat)=>zLE (i:=i) (d:=if i∈hn.gids then .dead else st.box i) (bs:=hn.post.map fun b=>zR.live (unB hn.ids b)) hnd (by simp [hql])
 have inIds:∀ (k i:Nat),hn.ids[k]?=some i->∃ (bp:Box),hn.post[k]?=some bp/\yJ (hn.ids.zip (hn.post.map fun b=>zR.live (unB hn.ids b))) i (if i∈hn.gids then .dead else st.box i)=.live (unB hn.ids bp):=by
  intro k i hk;have hkl:k<hn.post.length:=by rw [hql];exact hidsget k i hk
  refine ⟨hn.post[k],w7 hkl,?_⟩;rw [(hz i).1 k hk];simp [List.getD,hkl]
 have outIds:∀ (i:Nat) (bx:Box),i∉hn.ids->yJ (hn.ids.zip (hn.post.map fun b=>zR.live (unB hn.ids b))) i (if i∈hn.gids then .dead else st.box i)=.live bx->i∉hn.gids/\st.box i=.live bx:=by
  intro i bx hi hl;rw [(hz i).2 hi] at hl
  by_cases hg:i∈hn.gids
  ·rw [if_pos hg] at hl;cases hl
  ·rw [if_neg hg] at hl;exact ⟨hg,hl⟩
 have gDead:∀ (i:Nat),i∈hn.gids->yJ (hn.ids.zip (hn.post.map fun b=>zR.live (unB hn.ids b))) i (if i∈hn.gids then .dead else st.box i)=.dead:=by
  intro i hi;rw [(hz i).2 (fun h=>hdisj h hi),if_pos hi]
 have oldLive:∀ (k i:Nat),hn.ids[k]?=some i->k<hn.pre.length->∃ bx,st.box i=.live bx/\T' i=T i:=by
  intro k i hk hlt;have hk0:ids0[k]?=some i:=hput0 k i hk hlt;obtain ⟨bx,_,hb⟩:=liveAt k i hk0;obtain ⟨p,hp⟩:=hTid k i hk0;exact ⟨_,hb,by rw [hT'old i p hp,hp]⟩
 have hmemnew:∀ (k i b cap:Nat),hn.ids[k]?=some i->hn.pre.length<=k->T' i=some (.at b cap)->zY.at b cap∈new:=by
  intro k i b cap hk hge hTi;rw [hT'new k i hk hge] at hTi;exact yN hTi
 have hIimm:bZ hn.lend=true->∀ b,kept I w gp new b->imm G (st.upd { rs:=rs,rb:=(hn.ids++hn.gids++hn.lend).map (fun i=>(i,B i)),dst:=o.dst.map fun d=>(d,un hn.ids hn.av),wb:=hn.ids.zip (hn.post.map fun b=>zR.live (unB hn.ids b))++hn.gids.map (fun i=>(i,zR.dead)) }) T' b:=by
  intro h0 b hb;have h00:hn.lend=[]:=by cases hl1:hn.lend with | nil=>rfl | cons _ _=>rw [hl1] at h0;simp [bZ] at h0
  have hold:(G.I0 b\/G.mine b):=by
   rcases hb with ⟨hb | ⟨id',_,hm',_⟩,_⟩ | ⟨hb | ⟨cap,hb⟩,_⟩
   ·exact hb.1
   ·rw [h00] at hm';cases hm'
   ·exact .inr (.inl (kX hT.kept.size hb))
   ·obtain ⟨gid,gbx,g1,g2,g3⟩:=hgpmem b cap hb;exact .inr (hT.mine gid gbx b cap g3 g2 (by have:=hgnp gid g1;omega))
  refine ⟨hold,fun id bx cap hl hTi=>?_⟩;rw [hbox] at hl;have oldCase:∀ bx',st.box id=.live bx'->T' id=T id->id∉hn.gids->False:=by
   intro bx' hl' hTe hng;rw [hTe] at hTi;have hlt:=cS hT hl' hTi;rcases hb with ⟨hb | ⟨id',_,hm',_⟩,_⟩ | ⟨hb | ⟨cap',hb⟩,_⟩
   ·exact hb.2 id bx' cap hl' hTi
   ·rw [h00] at hm';cases hm'
   ·omega
   ·obtain ⟨gid,gbx,g1,g2,g3⟩:=hgpmem b cap' hb
    have:=hT.apart id gid bx' gbx b cap cap' hl' g3 hTi g2
    exact hng (this ▸ g1)
  by_cases hi:id∈hn.ids
  ·obtain ⟨k,hk⟩:=uG.1 hi;rcases zlg k hn.pre.length with hlt | hge
   ·obtain ⟨bx',hb',hTe⟩:=oldLive k id hk hlt;exact oldCase bx' hb' hTe (fun h=>hdisj hi h)
   ·have hm:=hmemnew k id b cap hk hge hTi;rcases hb with ⟨hb1,hb⟩ | ⟨_,hb⟩
    ·rcases hnew1 b cap hm with h' | ⟨cap',h'⟩
     ·omega
     ·exact hIfoot b hb1 cap' (bT _ h')
    ·exact hb cap hm
  ·obtain ⟨hg,hl⟩:=outIds id bx hi hl;exact oldCase bx hl (hT'out id hi) hg
 refine hT.stepN (T':=T') (S:=fun b=>∃ cap,zY.at b cap∈foot++gp) hos htape hout hsize (fun b hb hn'=>hblk b hb fun cap hm=>hn' ⟨cap,hm⟩) ?_ hT'old (fun id bx b cap hl hTi=>cS hT hl hTi) ?_ ?_ ?_ (by simp [tY]) ?_ ?_
 ·rintro b ⟨cap,hm⟩;obtain ⟨k,id,bx,hk,hTi,hl⟩:=hfootmem b cap hm;exact ⟨id,bx,cap,hl,hTi⟩
 ·intro id bx hl;rw [hbox] at hl
  by_cases hi:id∈hn.ids
  ·obtain ⟨k,hk⟩:=uG.1 hi;rcases zlg k hn.pre.length with hlt | hge
   ·exact .inl (oldLive k id hk hlt)
   ·refine .inr ⟨hnew k id hk hge,fun b cap hTi=>?_⟩;rcases hnew1 b cap (hmemnew k id b cap hk hge hTi) with h' | ⟨cap',h'⟩
    ·exact .inl h'
    ·obtain ⟨gid,gbx,g1,g2,g3⟩:=hgpmem b cap' h';refine .inr ⟨gid,gbx,cap',g3,g2,by have:=hgnp gid g1;omega,fun bx' hbx=>?_⟩;rw [hbox,gDead gid g1] at hbx;cases hbx
  ·obtain ⟨_,hl⟩:=outIds id bx hi hl;exact .inl ⟨bx,hl,hT'out id hi⟩
 ·intro id hu;rw [hbox] at hu
  by_cases hi:id∈hn.ids
  ·obtain ⟨k,hk⟩:=uG.1 hi;obtain ⟨bp,_,hlk⟩:=inIds k id hk;rw [hlk] at hu;cases hu
  ·rw [(hz id).2 hi] at hu;rw [hT'out id hi]
   by_cases hg:id∈hn.gids
   ·rw [if_pos hg] at hu;cases hu
   ·rw [if_neg hg] at hu;exact hT.unused id hu
 ·intro id id' b c c' h1 h2 t1 t2;have inNew:∀ (j b c:Nat),st.box j=.unused->T' j=some (.at b c)->∃ k,hn.ids[k]?=some j/\hn.pre.length<=k:=by
   intro j b c hu hTj
   by_cases hi:j∈hn.ids
   ·obtain ⟨k,hk⟩:=uG.1 hi;rcases zlg k hn.pre.length with hlt | hge
    ·obtain ⟨bx',hb',_⟩:=oldLive k j hk hlt;rw [hb'] at hu;cases hu
    ·exact ⟨k,hk,hge⟩
   ·rw [hT'out j hi,hT.unused j hu] at hTj;cases hTj
  obtain ⟨k,hk,hge⟩:=inNew id b c h1 t1;obtain ⟨k',hk',hge'⟩:=inNew id' b c' h2 t2;rw [hT'new k id hk hge] at t1;rw [hT'new k' id' hk' hge'] at t2
  have:=hnew2 _ _ b c c' t1 t2
  have hkk:k=k':=by omega
  subst hkk;rw [hk] at hk';injection hk'
 ·intro d av he;obtain ⟨hlt,rfl⟩:=tW hd he;refine ⟨by omega,?_⟩;rw [hTc'] at hres;have hres2:=O3 hres hbav;rcases hdep with h0 | h0
  ·exact hres2.mono (yI _) (fun _ _ _=>rfl) (fun b hb _=>hIimm h0 b hb) (fun _ _ h=>h)
  ·exact hres2.scalar (zCD h0.2)
 ·intro id bx hl;rw [hbox] at hl
  by_cases hi:id∈hn.ids
  ·obtain ⟨k,hk⟩:=uG.1 hi;obtain ⟨bp,hpk,hlk⟩:=inIds k id hk;rw [hlk] at hl;injection hl with hl;subst hl
   right
   have hnil:bZ hn.lend=true:=by
    rcases hdep with h0 | h0
    ·exact h0
    ·have:hn.ids=[]:=by cases hl1:hn.ids with | nil=>rfl | cons _ _=>rw [hl1] at h0;simp [bZ] at h0
     rw [this] at hi;cases hi
   have hok:=hpost k bp hpk;have e3:(foot++new)[k]?=T' id:=by
    have:=congrFun hTc' k
    simp only [Tc,hk] at this;exact this
   rw [e3,hTc'] at hok;have hok2:=zFE hok (hbpost bp (yN hpk));exact hok2.mono (yI _) (fun _ _ _=>rfl) (fun b hb' _=>hIimm hnil b hb') (fun _ _ h=>h) (fun _ _ _ _=>rfl)
  ·obtain ⟨hg,hl⟩:=outIds id bx hi hl;refine .inl ⟨hl,hT'out id hi,?_⟩;rintro b cap ⟨cap',hm⟩ hTi;obtain ⟨k,id',bx',hk,hTi',hl'⟩:=hfootmem b cap' hm
   have:=hT.apart id id' bx bx' b cap cap' hl hl' hTi hTi'
   rcases hmem0 _ (yN hk) with h' | h'
   ·exact hi (this ▸ h')
   ·exact hg (this ▸ h')
theorem zN8 {k:KSh} {a:AV} (h:kc k a=true):a.pure=true/\a.one=true/\a.cells=[a]:=by
 cases a<;>cases k<;>simp_all [kc,AV.pure,AV.one,AV.cells]
theorem zNh {l m:List Int} (hl:∀ x∈l,0<=x/\x<256) (hm:∀ x∈m,0<=x/\x<256) (h:kE l=kE m):l=m:=by
 have h1:l.map (fun x=>UInt8.ofNat x.toNat)=m.map (fun x=>UInt8.ofNat x.toNat):=by
  unfold kE at h
  have:=congrArg (fun b:ByteArray=>b.data.toList) h
  simpa using this
 clear h
 induction l generalizing m with
 | nil=>cases m with
  | nil=>rfl
  | cons b s=>simp at h1
 | cons a r ih =>
  cases m with
  | nil=>simp at h1
  | cons b s =>
   simp only [uM,List.cons.injEq] at h1;have ha:=hl a (tK ..);have hb:=hm b (tK ..);have e1:a=b:=by
    have:=congrArg UInt8.toNat h1.1
    simp only [XR] at this;omega
   rw [e1,ih (fun x hx=>hl x (qX _ hx)) (fun x hx=>hm x (qX _ hx)) h1.2]
theorem zFb {w w':World} {I I':Nat->Prop} {T T':Tbl} {v v':Value} {a a':AV} {k:KSh} (h:Rep w I T v a) (h':Rep w' I' T' v' a') (hk:kc k a=true) (hk':kc k a'=true):v=v'↔a=a':=by
 cases k<;>cases a<;>simp [kc] at hk<;>cases a'<;>simp [kc] at hk'
 ·subst hk;subst hk';cases h;cases h';simp
 ·cases h;cases h';simp
 ·rename_i l m
  cases h with
  | str h1 h2 =>
   cases h' with
   | str g1 g2 =>
    simp only [Value.string.injEq,AV.str.injEq];exact ⟨zNh h1 g1,fun e=>by rw [e]⟩
theorem ZZ {ks:List KSh} {cs:List AV} (h:kcs ks cs=true):ks.length=cs.length/\∀ (j:Nat) (k:KSh) (c:AV),ks[j]?=some k->cs[j]?=some c->kc k c=true:=by
 induction ks generalizing cs with
 | nil=>cases cs with
  | nil=>exact ⟨rfl,fun j k c hj=>by simp at hj⟩
  | cons a s=>simp [kcs] at h
 | cons k r ih =>
  cases cs with
  | nil=>simp [kcs] at h
  | cons a s =>
   simp only [kcs,zba] at h;obtain ⟨e1,e2⟩:=ih h.2;refine ⟨by simp [e1],fun j k' c hj hc=>?_⟩;cases j with
   | zero=>simp at hj hc;subst hj;subst hc;exact h.1
   | succ j=>exact e2 j k' c (by simpa using hj) (by simpa using hc)
theorem zFS {ag:Bool} {ks:List KSh} {a:AV} (h:uI ag ks a=true):a.pure=true:=by
 have hl:∀ (ks:List KSh) (cs:List AV),kcs ks cs=true->AV.pures cs=true:=by
  intro ks
  induction ks with
  | nil=>intro cs h;cases cs<;>simp_all [kcs,AV.pures]
  | cons k r ih =>
   intro cs h;cases cs with
   | nil=>rfl
   | cons c s =>
    simp only [kcs,zba] at h;simp [AV.pures,(zN8 h.1).1,ih s h.2]
 cases a with
 | agg cs=>simp only [uI,zba] at h;exact hl ks cs h.2
 | _ =>
  simp only [uI,zba] at h
  have:=hl _ _ h.2
  simpa [AV.pures] using this
theorem dF {w w':World} {I I':Nat->Prop} {T T':Tbl} {v v':Value} {a a':AV} {ag:Bool} {ks:List KSh} (h:Rep w I T v a) (h':Rep w' I' T' v' a') (hk:uI ag ks a=true) (hk':uI ag ks a'=true):v=v'↔a=a':=by
 have one:∀ {x:AV},(∀ cs,x≠.agg cs)->uI ag ks x=true->ag=false/\∃ k,ks=[k]/\kc k x=true:=by
  intro x hx hm
  have:(!ag&&kcs ks [x])=true:=by
   cases x<;>first | exact hm | exact absurd rfl (hx _)
  simp only [zba,pH] at this;refine ⟨this.1,?_⟩;have h2:=this.2;cases ks with
  | nil=>simp [kcs] at h2
  | cons k r=>cases r with
   | nil=>exact ⟨k,rfl,by simpa [kcs] using h2⟩
   | cons k' r'=>simp [kcs] at h2
 by_cases ha:∃ cs,a=.agg cs
 ·obtain ⟨cs,rfl⟩:=ha;simp only [uI,zba] at hk
  by_cases ha':∃ cs,a'=.agg cs
  ·obtain ⟨cs',rfl⟩:=ha';simp only [uI,zba] at hk';obtain ⟨l1,c1⟩:=ZZ hk.2;obtain ⟨l2,c2⟩:=ZZ hk'.2;cases h with
   | agg s1 o1 r1 =>
    cases h' with
    | agg s2 o2 r2 =>
     rename_i vs vs'
     have pt:∀ j (hj:j<ks.length),vs.getD j undef=vs'.getD j undef↔cs[j]'(by omega)=cs'[j]'(by omega):=by
      intro j hj;exact zFb (r1 j _ (w7 (by omega))) (r2 j _ (w7 (by omega)))
       (c1 j _ _ (w7 hj) (w7 (by omega))) (c2 j _ _ (w7 hj) (w7 (by omega)))
     simp only [Value.agg.injEq,AV.agg.injEq]
     constructor
     ·intro e;refine List.ext_getElem (by omega) fun j hj hj'=>?_
      exact (pt j (by omega)).1 (by rw [e])
     ·intro e;refine Array.ext (by omega) fun j hj hj'=>?_
      have:=(pt j (by omega)).2 (by simp [e])
      simpa [Array.getD,hj,hj'] using this
  ·have:=one (fun cs hc=>ha' ⟨cs,hc⟩) hk'
   rw [this.1] at hk;simp at hk
 ·obtain ⟨g1,k,e1,e2⟩:=one (fun cs hc=>ha ⟨cs,hc⟩) hk
  by_cases ha':∃ cs,a'=.agg cs
  ·obtain ⟨cs',rfl⟩:=ha';simp only [uI,zba] at hk';rw [g1] at hk';simp at hk'
  ·obtain ⟨_,k',e1',e2'⟩:=one (fun cs hc=>ha' ⟨cs,hc⟩) hk';rw [e1] at e1';injection e1' with e1' _;exact zFb h h' e2 (e1' ▸ e2')
structure wW (P:Program) (k:TypeId) (ag:Bool) (ks:List KSh):Prop where
 keyed:Maps.Keyed P k
 reads:∀ (w:World) (I:Nat->Prop) (T:Tbl) (v:Value) (a:AV),Rep w I T v a->uI ag ks a=true->∃ l,keyOf P k v=some l
def u0 (l:List (AV×AV)) (key z av:AV) (g:Bool):Prop:=(∃ (i:Nat) (x:AV×AV),l[i]?=some x/\x.1=key/\av=x.2/\g=true)\/((∀ x∈l,x.1≠key)/\av=z/\g=false)
def jS (l:List (AV×AV)) (key val:AV) (l':List (AV×AV)):Prop:=(∃ (i:Nat) (x:AV×AV),l[i]?=some x/\x.1=key/\l'=l.set i (key,val))\/((∀ x∈l,x.1≠key)/\l'=l++[(key,val)])
section
variable {P:Program} {w:World} {I:Nat->Prop} {T:Tbl} {ag:Bool} {ks:List KSh} {l:List (AV×AV)} {E:Array MapEntry} {k:TypeId} {key:AV} {v:Value}
theorem zDI (K:wW P k ag ks) (hE:E.size=l.length) (hk:∀ x∈l,uI ag ks x.1=true) (hr:∀ (i:Nat) (x:AV×AV),l[i]?=some x->∃ e:MapEntry,E[i]?=some e/\Rep w I Tbl.empty e.key x.1/\Rep w I Tbl.empty e.val x.2) :
  ∀ e∈E.toList,∃ t,keyOf P k e.key=some t:=by
 intro e he;obtain ⟨i,hi⟩:=uG.1 he;have hil:i<l.length:=by
  have:=(vO.1 hi).1
  simp at this;omega
 obtain ⟨e',h1,h2,_⟩:=hr i _ (w7 hil);rw [k9] at hi;rw [hi] at h1;injection h1 with h1;subst h1;exact K.reads _ _ _ _ _ h2 (hk _ (g8 hil))
theorem VS (K:wW P k ag ks) (hE:E.size=l.length) (hk:∀ x∈l,uI ag ks x.1=true) (hr:∀ (i:Nat) (x:AV×AV),l[i]?=some x->∃ e:MapEntry,E[i]?=some e/\Rep w I Tbl.empty e.key x.1/\Rep w I Tbl.empty e.val x.2)
  (hv:Rep w I T v key) (hm:uI ag ks key=true) :
  ((Instr.findKey k v E.toList).run P w=.ok none w/\(∀ e∈E.toList,e.key≠v)/\∀ x∈l,x.1≠key) \/
  ∃ j e x,(Instr.findKey k v E.toList).run P w=.ok (some (j,e.val)) w/\E[j]?=some e/\e.key=v/\l[j]?=some x/\x.1=key/\Rep w I Tbl.empty e.val x.2:=by
 obtain ⟨t,ht⟩:=K.reads _ _ _ _ _ hv hm;rcases K.keyed.find w ht E.toList (zDI K hE hk hr) with ⟨h1,h2⟩ | ⟨j,e,h1,h2,h3⟩
 ·refine .inl ⟨h1,h2,fun x hx hxk=>?_⟩;obtain ⟨i,hi⟩:=uG.1 hx;obtain ⟨e,e1,e2,_⟩:=hr i x hi
  have:=(dF e2 hv (hk x hx) hm).2 hxk
  exact h2 e (by rw [<- k9] at e1;exact yN e1) this
 ·rw [k9] at h2;have hjl:j<l.length:=by
   rcases zlg j E.size with h' | h'
   ·omega
   ·rw [fJ h'] at h2;cases h2
  obtain ⟨e',e1,e2,e3⟩:=hr j _ (w7 hjl);rw [h2] at e1;injection e1 with e1;subst e1;exact .inr ⟨j,e,l[j],h1,h2,h3,w7 hjl,(dF e2 hv (hk _ (g8 hjl)) hm).1 h3,e3⟩
theorem rF {clock:Nat} (hS:MapKept.Stamped E clock) {i j:Nat} {e e':MapEntry} (hi:E[i]?=some e) (hj:E[j]?=some e') (h:e.key=e'.key):i=j:=by
 have hp:=((MapKept.stamped_iff E clock).1 hS).2.2;rw [BI] at hp;rw [<- k9] at hi hj;obtain ⟨hi1,hi2⟩:=vO.1 hi;obtain ⟨hj1,hj2⟩:=vO.1 hj;rcases DH i j with h' | h' | h'
 ·exact absurd (by rw [hi2,hj2];exact h) (hp i j hi1 hj1 h')
 ·exact h'
 ·exact absurd (by rw [hi2,hj2];exact h.symm) (hp j i hj1 hi1 h')
end
def rI (P:Program) (t:TypeId):Option (TypeId×TypeId):=match P.underlying t with | some (.map k e)=>some (k,e) | _=>none
theorem KR {P:Program} {t k e:TypeId} (h:rI P t=some (k,e)):P.underlying t=some (.map k e):=by
 unfold rI at h;split at h<;>simp_all
def R7 (P:Program) (e:TypeId):Option AV :=
 match rH P e with
 | some z=>bif GT z then some (H5 z) else none
 | none=>none
theorem OM {P:Program} {e:TypeId} {z:AV} {w:World} {I:Nat->Prop} {T:Tbl} (h:R7 P e=some z):∃ v,(zeroValue e).run P w=.ok v w/\Rep w I T v z:=by
 unfold R7 at h
 split at h
 case h_2=>cases h
 rename_i zv hz
 replace h:=xM h;obtain ⟨hc,h⟩:=h;injection h with h;subst h;refine ⟨zv,?_,YN hc⟩;unfold rH at hz
 split at hz
 ·rename_i i hi
  simp [zeroValue,typeInfo,hi,hz]
 ·cases hz
def mzl (h:wA):AV->AV
 | .nilsl=>bif h.b then .sl false h.n [] else .nilsl
 | z=>z
theorem zMU {w:World} {I:Nat->Prop} {T:Tbl} {v:Value} {z:AV} {h:wA} (hr:Rep w I T v z):Rep w I T v (mzl h z):=by
 cases z<;>try exact hr
 simp only [mzl];cases h.b
 ·exact hr
 ·cases hr;exact .sl0 (by simp [maxLen]) (by simp)
def Y7 (P:Program) (t:TypeId) (m key:AV) (ok:Bool) (B:Nat->zR) (h:wA):Option (List Prop×Nat×AV) :=
 match rI P t,m with
 | some (k,e),.mp id =>
  match B id,R7 P e with
  | .live (.map ag ks l),some z=>bif uI ag ks key then some ([wW P k ag ks,u0 l key (mzl h z) h.av h.k],id,bif ok then .tuple [h.av,.bool h.k] else h.av) else none
  | _,_=>none
 | _,_=>none
theorem zMR {P:Program} {N np:Nat} {o:Oper} {t:TypeId} {x y:Operand} {ok:Bool} {rs:List (Nat×AV)} {hn:wA} {B:Nat->zR} {r:List Prop×Nat×AV}
  (ho:o.op=.lookup t x y ok) (hx:xK x=true) (hy:xK y=true)
  (h:Y7 P t (y7 rs x) (y7 rs y) ok B hn=some r) (hv:∀ p∈r.1,p) (hd:qF N o.dst=true) :
  qH P N np o { rs:=rs,rb:=[(r.2.1,B r.2.1)],dst:=o.dst.map fun d=>(d,r.2.2) }:=by
 intro G st a w hN hnp hE ⟨T,hT⟩;have hrx:=uS hT hE.1 hx;have hry:=uS hT hE.1 hy;unfold Y7 at h
 split at h
 case h_2=>cases h
 rename_i k e id hmt hX
 have hu:=KR hmt;rw [hX] at hrx
 split at h
 case h_2=>cases h
 rename_i ag ks l z hB hz
 replace h:=xM h;obtain ⟨hkm,h⟩:=h;injection h with h;subst h;simp only at hE hv;have K:wW P k ag ks:=hv _ (by simp);have hL:u0 l (y7 rs y) (mzl hn z) hn.av hn.k:=hv _ (by simp);have hb:st.box id=.live (.map ag ks l):=(hE.2 (id,B id) (by simp)).trans hB;obtain ⟨b,E,clock,hp,hh,h1,h2,hS,h3,h4⟩:=hT.boxes id _ hb;generalize he:a.eval x=vx at hrx;cases hrx with
 | mp hTi =>
 rename_i b'
 rw [hTi] at hp;injection hp with hp;injection hp with hp1 hp2;subst hp1;obtain ⟨t',ht'⟩:=K.reads _ _ _ _ _ hry hkm;have key:∃ v,Rep w (imm G st T) T v hn.av/\(Instr.lookup t (.map (some b')) (a.eval y) ok).run P w=.ok (if ok then .tuple #[v,.bool hn.k] else v) w:=by
  rcases VS K h1 h3 h4 hry hkm with ⟨f1,f2,f3⟩ | ⟨j,e',x',f1,f2,f3,f4,f5,f6⟩
  ·obtain ⟨zv,hzr,hzrep⟩:=OM (w:=w) (I:=imm G st T) (T:=T) hz;rcases hL with ⟨i,x',g1,g2,_⟩ | ⟨_,g1,g2⟩
   ·exact absurd g2 (f3 x' (yN g1))
   ·refine ⟨zv,g1 ▸ zMU hzrep,?_⟩;rw [g2];simp [Instr.lookup,run_underlying hu,lQ hh,K.keyed.check w _ ht',f1,hzr,Result.andThen]
  ·rcases hL with ⟨i,x2,g1,g2,g3,g4⟩ | ⟨g0,_⟩
   ·obtain ⟨e2,k1,k2,k3⟩:=h4 i x2 g1;have hkv:=(dF k2 hry (h3 x2 (yN g1)) hkm).2 g2
    have:=rF hS f2 k1 (f3.trans hkv.symm)
    subst this;rw [f2] at k1;injection k1 with k1;subst k1;refine ⟨e'.val,g3 ▸ (k3.mono (yI _) (fun _ _ _=>rfl) (fun _ h _=>h) (fun _ _ h=>by cases h)),?_⟩;rw [g4];simp [Instr.lookup,run_underlying hu,lQ hh,K.keyed.check w _ ht',f1,Result.andThen]
   ·exact absurd f5 (g0 x' (yN f4))
 obtain ⟨v,hrep,hrun⟩:=key;refine jN (v:=if ok then .tuple #[v,.bool hn.k] else v) (w':=w) ?_ ?_
 ·simp only [execOp,ho,he,vV,hrun,v6];rfl
 ·refine hT.quiet (nC w) rfl (by simp [tY]) ?_;intro d av' he';obtain ⟨hlt,rfl⟩:=tW hd he';refine ⟨by omega,?_⟩;cases ok
  ·exact hrep
  ·refine .tuple (by simp) fun j c hj=>?_
   match j with
   | 0=>simp at hj;subst hj;exact hrep
   | 1=>simp at hj;subst hj;exact .bool
   | j+2=>simp at hj
def zAG (P:Program) (t:TypeId) (m key:AV) (ok:Bool) (h:wA):Option (List Prop×AV) :=
 match rI P t,m with
 | some (k,e),.fm _ l =>
  match R7 P e with
  | some z=>bif uI h.mag h.mks key then some ([wW P k h.mag h.mks,u0 l key z h.av h.k,∀ x∈l,uI h.mag h.mks x.1=true],bif ok then .tuple [h.av,.bool h.k] else h.av) else none
  | none=>none
 | _,_=>none
theorem zL8 {P:Program} {N np:Nat} {o:Oper} {t:TypeId} {x y:Operand} {ok:Bool} {rs:List (Nat×AV)} {hn:wA} {r:List Prop×AV}
  (ho:o.op=.lookup t x y ok) (hx:xK x=true) (hy:xK y=true)
  (h:zAG P t (y7 rs x) (y7 rs y) ok hn=some r) (hv:∀ p∈r.1,p) (hd:qF N o.dst=true) :
  qH P N np o { rs:=rs,dst:=o.dst.map fun d=>(d,r.2) }:=by
 intro G st a w hN hnp hE ⟨T,hT⟩;have hrx:=uS hT hE.1 hx;have hry:=uS hT hE.1 hy;unfold zAG at h
 split at h
 case h_2=>cases h
 rename_i k e n l hmt hX
 have hu:=KR hmt;rw [hX] at hrx
 split at h
 case h_2=>cases h
 rename_i z hz
 replace h:=xM h;obtain ⟨hkm,h⟩:=h;injection h with h;subst h;simp only at hE hv;have K:wW P k hn.mag hn.mks:=hv _ (by simp);have hL:u0 l (y7 rs y) z hn.av hn.k:=hv _ (by simp);have h3:∀ x∈l,uI hn.mag hn.mks x.1=true:=hv _ (by simp);obtain ⟨t',ht'⟩:=K.reads _ _ _ _ _ hry hkm;obtain ⟨zv,hzr,hzrep⟩:=OM (w:=w) (I:=imm G st T) (T:=T) hz;generalize he:a.eval x=vx at hrx;have key:∃ v,Rep w (imm G st T) T v hn.av/\(Instr.lookup t vx (a.eval y) ok).run P w=.ok (if ok then .tuple #[v,.bool hn.k] else v) w:=by
  cases hrx with
  | fm0 =>
   rcases hL with ⟨i,x',g1,g2,_⟩ | ⟨_,g1,g2⟩
   ·simp at g1
   ·refine ⟨zv,g1 ▸ hzrep,?_⟩;rw [g2];rcases VS (E:=#[]) (l:=[]) K rfl h3 (fun i x hx=>by simp at hx) hry hkm with ⟨f1,_,_⟩ | ⟨j,_,_,_,f2,_⟩
    ·simp [Instr.lookup,run_underlying hu,K.keyed.check w _ ht',f1,hzr,Result.andThen]
    ·simp at f2
  | fm gk gv h1 h2 hS hI hlt hh hent hk hvv =>
   rename_i b E clock
   have h4:∀ (i:Nat) (x:AV×AV),l[i]?=some x->∃ e:MapEntry,E[i]?=some e/\Rep w (imm G st T) Tbl.empty e.key x.1/\Rep w (imm G st T) Tbl.empty e.val x.2:=by
    intro i x hx;obtain ⟨s,hs⟩:=hent i x hx;exact ⟨_,hs,hk i x hx,hvv i x hx⟩
   rcases VS K h1 h3 h4 hry hkm with ⟨f1,f2,f3⟩ | ⟨j,e',x',f1,f2,f3,f4,f5,f6⟩
   ·rcases hL with ⟨i,x',g1,g2,_⟩ | ⟨_,g1,g2⟩
    ·exact absurd g2 (f3 x' (yN g1))
    ·refine ⟨zv,g1 ▸ hzrep,?_⟩;rw [g2];simp [Instr.lookup,run_underlying hu,lQ hh,K.keyed.check w _ ht',f1,hzr,Result.andThen]
   ·rcases hL with ⟨i,x2,g1,g2,g3,g4⟩ | ⟨g0,_⟩
    ·obtain ⟨e2,k1,k2,k3⟩:=h4 i x2 g1;have hkv:=(dF k2 hry (h3 x2 (yN g1)) hkm).2 g2
     have:=rF hS f2 k1 (f3.trans hkv.symm)
     subst this;rw [f2] at k1;injection k1 with k1;subst k1;refine ⟨e'.val,g3 ▸ (k3.mono (yI _) (fun _ _ _=>rfl) (fun _ h _=>h) (fun _ _ h=>by cases h)),?_⟩;rw [g4];simp [Instr.lookup,run_underlying hu,lQ hh,K.keyed.check w _ ht',f1,Result.andThen]
    ·exact absurd f5 (g0 x' (yN f4))
 obtain ⟨v,hrep,hrun⟩:=key;refine jN (v:=if ok then .tuple #[v,.bool hn.k] else v) (w':=w) ?_ ?_
 ·simp only [execOp,ho,he,vV,hrun,v6];rfl
 ·refine hT.quiet (nC w) rfl (by simp [tY]) ?_;intro d av' he';obtain ⟨hlt,rfl⟩:=tW hd he';refine ⟨by omega,?_⟩;cases ok
  ·exact hrep
  ·refine .tuple (by simp) fun j c hj=>?_
   match j with
   | 0=>simp at hj;subst hj;exact hrep
   | 1=>simp at hj;subst hj;exact .bool
   | j+2=>simp at hj
theorem zIv {P:Program} {N np:Nat} {o:Oper} {t:TypeId} {rs:List (Nat×AV)} {hn:wA} (ho:o.op=.makeMap t none) (hd:qF N o.dst=true) :
  qH P N np o { rs:=rs,rb:=[(hn.id,.unused)],dst:=o.dst.map fun d=>(d,.mp hn.id),wb:=[(hn.id,.live (.map hn.mag hn.mks []))] }:=by
 intro G st a w hN hnp hE ⟨T,hT⟩;have hu:st.box hn.id=.unused:=hE.2 (hn.id,.unused) (by simp);refine jN (v:=.map (some w.heap.size)) (w':=w.alloc (.map #[] 0)) ?_ ?_
 ·simp [execOp,ho,run_makeMap_plain,Result.andThen]
 ·refine hT.new (p:=.at w.heap.size 0) (OY _ _) rfl hu (by simp [tY]) (fun b c hp=>by injection hp with hp;omega) ?_ ?_
  ·exact ⟨w.heap.size,#[],0,rfl,heap_alloc_new w _,rfl,by simp,MapKept.stamped_empty 0,by simp,fun i x hx=>by simp at hx⟩
  ·intro d av he;obtain ⟨hlt,rfl⟩:=tW hd he;exact ⟨by omega,.mp (Tbl.put_same _ _ _)⟩
def NF (P:Program) (t:TypeId) (m key v:AV) (B:Nat->zR) (h:wA):Option (List Prop×Nat×Box) :=
 match rI P t,m with
 | some (k,_),.mp id =>
  match B id with
  | .live (.map ag ks l)=>bif uI ag ks key&&v.pure then some ([wW P k ag ks,jS l key v h.es,l.length<maxLen],id,.map ag ks h.es) else none
  | _=>none
 | _,_=>none
theorem zEh {P:Program} {N np:Nat} {o:Oper} {t:TypeId} {x y z:Operand} {rs:List (Nat×AV)} {hn:wA} {B:Nat->zR} {r:List Prop×Nat×Box}
  (ho:o.op=.mapUpdate t x y z) (hx:xK x=true) (hy:xK y=true) (hz:xK z=true)
  (h:NF P t (y7 rs x) (y7 rs y) (y7 rs z) B hn=some r) (hv:∀ p∈r.1,p) (hd:o.dst=none) :
  qH P N np o { rs:=rs,rb:=[(r.2.1,B r.2.1)],wb:=[(r.2.1,.live r.2.2)] }:=by
 intro G st a w hN hnp hE ⟨T,hT⟩;have hrx:=uS hT hE.1 hx;have hry:=uS hT hE.1 hy;have hrz:=uS hT hE.1 hz;unfold NF at h
 split at h
 case h_2=>cases h
 rename_i k e id hmt hX
 have hu:=KR hmt;rw [hX] at hrx
 split at h
 case h_2=>cases h
 rename_i ag ks l hB
 replace h:=xM h;obtain ⟨hc,h⟩:=h;simp only [zba] at hc;obtain ⟨hkm,hpure⟩:=hc;injection h with h;subst h;simp only at hE hv;have K:wW P k ag ks:=hv _ (by simp);have hL:jS l (y7 rs y) (y7 rs z) hn.es:=hv _ (by simp);have hmax:l.length<maxLen:=hv _ (by simp);have hb:st.box id=.live (.map ag ks l):=(hE.2 (id,B id) (by simp)).trans hB;obtain ⟨b,E,clock,hp,hh,h1,h2,hS,h3,h4⟩:=hT.boxes id _ hb;generalize he:a.eval x=vx at hrx;cases hrx with
 | mp hTi =>
 rename_i b'
 have hp0:=hp;rw [hTi] at hp;injection hp with hp;injection hp with hp1 hp2;subst hp1;obtain ⟨t',ht'⟩:=K.reads _ _ _ _ _ hry hkm;have hrk:Rep w (imm G st T) Tbl.empty (a.eval y) (y7 rs y):=hry.bare (zFS hkm);have hrv:Rep w (imm G st T) Tbl.empty (a.eval z) (y7 rs z):=hrz.bare hpure;have fin:∀ (E':Array MapEntry) (clock':Nat),(Instr.mapUpdate t (.map (some b')) (a.eval y) (a.eval z)).run P w=.ok () (ChangeMaps.setBlock w b' (.map E' clock'))->E'.size=hn.es.length->hn.es.length<=maxLen->MapKept.Stamped E' clock' ->
   (∀ x∈hn.es,uI ag ks x.1=true)->(∀ (i:Nat) (x:AV×AV),hn.es[i]?=some x->∃ e:MapEntry,E'[i]?=some e/\Rep w (imm G st T) Tbl.empty e.key x.1/\Rep w (imm G st T) Tbl.empty e.val x.2) ->
   o.wp P a w (fun a' w'=>Rel G (st.upd { rs:=rs,rb:=[(id,B id)],wb:=[(id,.live (.map ag ks hn.es))] }) a' w') (fun _ _ _=>False):=by
  intro E' clock' hrun k1 k2 k3 k4 k5;have hex:(execOp a.eval o).run P w=.ok .skip (ChangeMaps.setBlock w b' (.map E' clock')):=by
   simp only [execOp,ho,he,vV,hrun,v6];rfl
  unfold Oper.wp;rw [hex];show Rel G _ (a.put o.dst undef) _
  ·refine hT.write hb hTi ⟨rfl,rfl,rfl,by simp [ChangeMaps.setBlock],fun i _ hi=>zAw hh _ (fun e=>hi (by rw [e]))⟩ rfl (by rw [hd];rfl) ?_ (fun d av he=>by cases he);rw [hp0];refine ⟨b',E',clock',by rw [<- hp0,hTi],ChangeMaps.heap_setBlock_same hh _,k1,k2,k3,k4,fun i x hx=>?_⟩;obtain ⟨e',q1,q2,q3⟩:=k5 i x hx;have hmono:∀ {v av},Rep w (imm G st T) Tbl.empty v av->Rep (ChangeMaps.setBlock w b' (.map E' clock')) (imm G st T) Tbl.empty v av:=fun h =>
    h.mono (by simp [ChangeMaps.setBlock]) (fun c hc _=>zAw hh _ (fun e=>hc.2 id _ 0 hb (by rw [e];exact hTi))) (fun _ h _=>h) (fun _ _ h=>h)
   exact ⟨e',q1,hmono q2,hmono q3⟩
 rcases VS K h1 h3 h4 hry hkm with ⟨f1,f2,f3⟩ | ⟨j,e',x',f1,f2,f3,f4,f5,f6⟩
 ·rcases hL with ⟨i,x',g1,g2,_⟩ | ⟨_,g1⟩
  ·exact absurd g2 (f3 x' (yN g1))
  ·refine fin (E.push ⟨a.eval y,a.eval z,clock⟩) (clock+1) ?_ (by rw [g1];simp [h1]) (by rw [g1];simp;omega) (MapKept.stamped_push hS f2) ?_ ?_
   ·simp [Instr.mapUpdate,run_underlying hu,lQ hh,K.keyed.check w _ ht',f1,XL _ hh,Result.andThen,ChangeMaps.setBlock]
   ·intro x hx;rw [g1] at hx;rcases wL.1 hx with hx | hx
    ·exact h3 x hx
    ·rw [uO.1 hx];exact hkm
   ·intro i x hx;rw [g1] at hx;rcases zlg i l.length with hlt | hge
    ·rw [uH hlt] at hx;obtain ⟨e2,q1,q2,q3⟩:=h4 i x hx;exact ⟨e2,by rw [T6,if_neg (by omega)];exact q1,q2,q3⟩
    ·rw [u4 hge] at hx;have hi:i=l.length:=by
      rcases zlg (i - l.length) 1 with h' | h'
      ·omega
      ·rw [vH (by simpa using h')] at hx;cases hx
     subst hi;simp at hx;subst hx;exact ⟨⟨a.eval y,a.eval z,clock⟩,by rw [T6,if_pos h1.symm],hrk,hrv⟩
 ·rcases hL with ⟨i,x2,g1,g2,g3⟩ | ⟨g0,_⟩
  ·obtain ⟨e2,k1,k2,k3⟩:=h4 i x2 g1;have hkv:=(dF k2 hry (h3 x2 (yN g1)) hkm).2 g2
   have:=rF hS f2 k1 (f3.trans hkv.symm)
   subst this;have hil:j<l.length:=(vO.1 f4).1;refine fin (E.modify j fun e=>{ e with key:=a.eval y,val:=a.eval z }) clock ?_ (by rw [g3];simp [h1]) (by rw [g3];simp;omega) (MapKept.stamped_modify hS _ _ (fun _ _=>rfl) (fun e3 _ he3=>by rw [f2] at he3;injection he3 with he3;subst he3;exact f3.symm)) ?_ ?_
   ·simp [Instr.mapUpdate,run_underlying hu,lQ hh,K.keyed.check w _ ht',f1,f2,f3,K.keyed.stays w ht',XL _ hh,Result.andThen,ChangeMaps.setBlock]
   ·intro x hx;rw [g3] at hx;rcases mY hx with hx | hx
    ·exact h3 x hx
    ·rw [hx];exact hkm
   ·intro i x hx;rw [g3,GG] at hx
    by_cases hij:j=i
    ·subst hij;rw [if_pos rfl,if_pos hil] at hx;injection hx with hx;subst hx;exact ⟨{ e' with key:=a.eval y,val:=a.eval z },by rw [BJ,if_pos rfl,f2];rfl,hrk,hrv⟩
    ·rw [if_neg hij] at hx;obtain ⟨e2,q1,q2,q3⟩:=h4 i x hx;exact ⟨e2,by rw [BJ,if_neg hij];exact q1,q2,q3⟩
  ·exact absurd f5 (g0 x' (yN f4))
theorem zJ3 {P:Program} {N np:Nat} {o:Oper} {t:TypeId} {x y z:Operand} {rs:List (Nat×AV)} {hn:wA} {B:Nat->zR} {r:List Prop×Nat×Box}
  (ho:o.op=.insert t x y z) (hx:xK x=true) (hy:xK y=true) (hz:xK z=true)
  (h:NF P t (y7 rs x) (y7 rs y) (y7 rs z) B hn=some r) (hv:∀ p∈r.1,p) (hd:o.dst=none) :
  qH P N np o { rs:=rs,rb:=[(r.2.1,B r.2.1)],wb:=[(r.2.1,.live r.2.2)] }:=by
 have h2:=zEh (N:=N) (np:=np) (o:={ o with op:=.mapUpdate t x y z }) rfl hx hy hz h hv hd;intro G st a w hN hnp hE hR;have h3:=h2 G st a w hN hnp hE hR;unfold Oper.wp at h3 ⊢;have e:execOp a.eval o=execOp a.eval { o with op:=.mapUpdate t x y z }:=by simp only [execOp,ho]
 rw [e];exact h3
def zCe (P:Program) (t:TypeId) (m:AV) (B:Nat->zR):Option (Nat×Nat) :=
 match rI P t,m with
 | some _,.mp id=>match B id with
  | .live (.map _ _ l)=>some (l.length,id)
  | _=>none
 | _,_=>none
def zB7 (P:Program) (t:TypeId) (m:AV) (B:Nat->zR) (h:wA):Option (List Prop×Nat×AV) :=
 match zCe P t m B with
 | some (n,id)=>some ([(n:Int)=(h.n:Int)],id,.int .i64 (h.n:Int))
 | none=>none
def UD (P:Program) (t:TypeId) (m:AV) (B:Nat->zR):Option (Nat×AV) :=
 match rI P t,m with
 | some _,.mp id=>match B id with
  | .live (.map _ _ l)=>some (id,.int .i64 (l.length:Int))
  | _=>none
 | _,_=>none
theorem zLJ {P:Program} {N np:Nat} {o:Oper} {t:TypeId} {x:Operand} {rs:List (Nat×AV)} {B:Nat->zR} {r:Nat×AV}
  (ho:o.op=.call { callee:=.builtin .len,args:=#[x],argTypes:=#[t] }) (hx:xK x=true)
  (h:UD P t (y7 rs x) B=some r) (hd:qF N o.dst=true) :
  qH P N np o { rs:=rs,rb:=[(r.1,B r.1)],dst:=o.dst.map fun d=>(d,r.2) }:=by
 intro G st a w hN hnp hE ⟨T,hT⟩;have hrx:=uS hT hE.1 hx;unfold UD at h
 split at h
 case h_2=>cases h
 rename_i kk id hmt hX
 obtain ⟨k,e⟩:=kk;have hu:=KR hmt;rw [hX] at hrx
 split at h
 case h_2=>cases h
 rename_i ag ks l hB
 injection h with h;subst h;simp only at hE;have hb:st.box id=.live (.map ag ks l):=(hE.2 (id,B id) (by simp)).trans hB;obtain ⟨b,E,clock,hp,hh,h1,h2,hS,h3,h4⟩:=hT.boxes id _ hb;generalize he:a.eval x=vx at hrx;cases hrx with
 | mp hTi =>
 rename_i b'
 rw [hTi] at hp;injection hp with hp;injection hp with hp1 hp2;subst hp1;refine jN (v:=.int .i64 (l.length:Int)) (w':=w) ?_ ?_
 ·simp [execOp,ho,he,resolve,invoke,builtin,Builtin.len_,run_underlying hu,lQ hh,Result.andThen,h1,goInt]
 ·refine hT.quiet (nC w) rfl (by simp [tY]) ?_;intro d av' he';obtain ⟨hlt,rfl⟩:=tW hd he';refine ⟨by omega,.int ?_⟩;rw [nY] at h2;refine GI _ _ ?_;simp only [IntKind.signed,IntKind.bits];simp;omega
theorem zOq {P:Program} {N np:Nat} {o:Oper} {t:TypeId} {x:Operand} {rs:List (Nat×AV)} {B:Nat->zR} {hn:wA} {r:List Prop×Nat×AV}
  (ho:o.op=.call { callee:=.builtin .len,args:=#[x],argTypes:=#[t] }) (hx:xK x=true)
  (h:zB7 P t (y7 rs x) B hn=some r) (hv:∀ p∈r.1,p) (hd:qF N o.dst=true) :
  qH P N np o { rs:=rs,rb:=[(r.2.1,B r.2.1)],dst:=o.dst.map fun d=>(d,r.2.2) }:=by
 unfold zB7 at h
 split at h
 case h_2=>cases h
 rename_i n id h0
 injection h with h;subst h;have e:(n:Int)=(hn.n:Int):=hv _ (by simp);unfold zCe at h0
 split at h0
 case h_2=>cases h0
 rename_i kk id' hmt hX
 split at h0
 case h_2=>cases h0
 rename_i ag ks l hB
 simp only [uU,kU] at h0;obtain ⟨rfl,rfl⟩:=h0;have hold:UD P t (y7 rs x) B=some (id',.int .i64 (l.length:Int)):=by
  unfold UD;rw [hmt,hX];simp only [hB]
 have:=zLJ (N:=N) (np:=np) ho hx hold hd
 simp only [e] at this;exact this
structure bD (P:Program) (t:TypeId) (ks:List KSh):Prop where
 key:wW P t true ks
 guard:P.eqGuardType P.depth t=false
 eq:∀ (w:World) (x y:Value) (lx ly:Lit),keyOf P t x=some lx->keyOf P t y=some ly->∃ r:Bool,(Op.equal t x y).run P w=.ok r w/\(r=true↔lx=ly)
theorem X9 {P:Program} {t:TypeId} {ks:List KSh} (K:wW P t true ks) (hk:(P.keyTypeAt 100 t&&!(P.eqGuardType P.depth t))=true)
  (hw:(match P.underlying t with | some (.array _ _) | some (.struct _)=>true | _=>false)=true):bD P t ks:=by
 simp only [zba,pH] at hk;exact ⟨K,hk.2,fun w x y lx ly hx hy=>run_equal_deep w (m:=100) (by omega) hk.1 hw hx hy⟩
def YO (P:Program) (op:BinOp) (t:TypeId) (x y:AV) (h:wA):Option (List Prop×AV) :=
 match x,y with
 | .agg cs,.agg ds =>
  bif kcs h.mks cs&&kcs h.mks ds then
   match op with
   | .eql=>some ([bD P t h.mks,(h.b=true↔AV.agg cs=AV.agg ds)],.bool h.b)
   | .neq=>some ([bD P t h.mks,(h.b=true↔AV.agg cs=AV.agg ds)],.bool !h.b)
   | _=>none
  else none
 | _,_=>none
theorem zEW {P:Program} {op:BinOp} {t:TypeId} {x y:Operand} {w:World} {X Y:Array Value} (h:P.eqGuardType P.depth t=false) :
  (eqGuard op t x y (.agg X) (.agg Y)).run P w=.ok () w:=by
 unfold eqGuard;cases op<;>simp [h]
theorem zHy {P:Program} {N np:Nat} {o:Oper} {op:BinOp} {t yT:TypeId} {x y:Operand} {rs:List (Nat×AV)} {hn:wA} {r:List Prop×AV}
  (ho:o.op=.binOp op t x y yT) (hx:xK x=true) (hy:xK y=true)
  (h:YO P op t (y7 rs x) (y7 rs y) hn=some r) (hv:∀ p∈r.1,p) (hd:qF N o.dst=true) :
  qH P N np o { rs:=rs,dst:=o.dst.map fun d=>(d,r.2) }:=by
 intro G st a w hN hnp hE ⟨T,hT⟩;have hrx:=uS hT hE.1 hx;have hry:=uS hT hE.1 hy;unfold YO at h
 split at h
 case h_2=>cases h
 rename_i cs ds hX hY
 rw [hX] at hrx;rw [hY] at hry;replace h:=xM h;obtain ⟨hc,h⟩:=h;simp only [zba] at hc;have m1:uI true hn.mks (.agg cs)=true:=by simp [uI,hc.1]
 have m2:uI true hn.mks (.agg ds)=true:=by simp [uI,hc.2]
 have key:∀ (K:bD P t hn.mks),(hn.b=true↔AV.agg cs=AV.agg ds)->∃ X Y,a.eval x=.agg X/\a.eval y=.agg Y/\(Op.equal t (a.eval x) (a.eval y)).run P w=.ok hn.b w:=by
  intro K hb;obtain ⟨lx,hlx⟩:=K.key.reads _ _ _ _ _ hrx m1;obtain ⟨ly,hly⟩:=K.key.reads _ _ _ _ _ hry m2;obtain ⟨q,hq,hiff⟩:=K.eq w _ _ lx ly hlx hly;have e:q=hn.b:=by
   rw [WD,hiff,hb,<- dF hrx hry m1 m2]
   constructor
   ·intro h;subst h;exact K.key.keyed.inj hlx hly
   ·intro h;rw [h,hly] at hlx;injection hlx with hlx;exact hlx.symm
  generalize hvx:a.eval x=vx at *;generalize hvy:a.eval y=vy at *;cases hrx with
  | agg _ _ _ =>
   cases hry with
   | agg _ _ _=>exact ⟨_,_,rfl,rfl,e ▸ hq⟩
 split at h
 ·injection h with h;subst h;have K:bD P t hn.mks:=hv _ (by simp);obtain ⟨X,Y,e1,e2,hrun⟩:=key K (hv _ (by simp));rw [e1,e2] at hrun;refine jN (oU (v:=.bool hn.b) ho e1 e2 (zEW K.guard) (by simp [binOp,hrun,Result.andThen])) (hT.quiet (nC w) rfl (by simp [tY]) ?_);intro d av' he';obtain ⟨hlt,rfl⟩:=tW hd he';exact ⟨by omega,.bool⟩
 ·injection h with h;subst h;have K:bD P t hn.mks:=hv _ (by simp);obtain ⟨X,Y,e1,e2,hrun⟩:=key K (hv _ (by simp));rw [e1,e2] at hrun;refine jN (oU (v:=.bool !hn.b) ho e1 e2 (zEW K.guard) (by simp [binOp,hrun,Result.andThen])) (hT.quiet (nC w) rfl (by simp [tY]) ?_);intro d av' he';obtain ⟨hlt,rfl⟩:=tW hd he';exact ⟨by omega,.bool⟩
 ·cases h
def zBP (P:Program) (t:TypeId) (x:AV) (B:Nat->zR):Option (List Prop×Nat×AV) :=
 match x with
 | .ptr id sz i off =>
  bif u5 P t then
   match B id with
   | .live (.rowQ _ sz' l m x') =>
    bif Nat.beq sz sz' then
     match B1 P t x' off with
     | some av=>some ([i=l.length,m=true],id,av)
     | none=>none
    else none
   | _=>none
  else none
 | _=>none
theorem zJI {P:Program} {N np:Nat} {o:Oper} {t:TypeId} {x:Operand} {rs:List (Nat×AV)} {B:Nat->zR} {r:List Prop×Nat×AV} (ho:o.op=.load t x) (hx:xK x=true)
  (h:zBP P t (y7 rs x) B=some r) (hv:∀ p∈r.1,p) (hd:qF N o.dst=true) :
  qH P N np o { rs:=rs,rb:=[(r.2.1,B r.2.1)],dst:=o.dst.map fun d=>(d,r.2.2) }:=by
 intro G st a w hN hnp hE ⟨T,hT⟩;have hrep:=uS hT hE.1 hx;unfold zBP at h
 split at h
 case h_2=>cases h
 rename_i id sz i off hX
 rw [hX] at hrep;replace h:=xM h;obtain ⟨hk,h⟩:=h;generalize he:a.eval x=vx at hrep;cases hrep with
 | ptr hTi ho' =>
 rename_i o' b cap
 split at h
 case h_2=>cases h
 rename_i e sz' l m x' hB
 replace h:=xM h;obtain ⟨hs,h⟩:=h;have hs:=wT.1 hs;subst hs
 split at h
 case h_2=>cases h
 rename_i av hav
 injection h with h;subst h;simp only at hE hv;have hi:i=l.length:=hv _ (by simp);have hm:m=true:=hv _ (by simp);have hb:st.box id=.live (.rowQ e sz l m x'):=(hE.2 (id,B id) (by simp)).trans hB;rcases hT.boxes id _ hb with ⟨hp,_⟩ | ⟨b',cap',C,hp,hh,h1,h2,h3,h4,h5,h6,h7⟩
 ·rw [hTi] at hp;cases hp
 rw [hTi] at hp;injection hp with hp;injection hp with hp1 hp2;subst hp1;subst hp2;obtain ⟨q1,q2,q3⟩:=h7 hm;obtain ⟨ha,hnn,hsub,hone⟩:=HS hav q2;rw [hm] at h2;simp only [cond_true] at h2;have hmul:=qW sz h2;rw [t6] at hmul;have hC:∀ (j:Nat) (c:AV),av.cells[j]?=some c->w.cell? ⟨b,o'+j,none⟩=some (C.getD (xR cap+(l.length * sz+(off+j))) undef):=by
  intro j c hj;have hs:=hsub j c hj;have hlt:off+j<sz:=by
   rw [<- q1];rcases zlg (off+j) x'.length with h' | h'
   ·exact h'
   ·rw [vH h'] at hs;cases hs
  have hlt2:xR cap+(l.length * sz+(off+j))<C.size:=by omega
  have:o'+j=xR cap+(l.length * sz+(off+j)):=by rw [ho',hi];omega
  rw [this];simp [World.cell?,hh,hlt2]
 obtain ⟨v,hrun,hr⟩:=QP hk ha hnn hC hone (fun j c hj=>q3 _ _ (hsub j c hj));refine jN (v:=v) (w':=w) ?_ ?_
 ·simp only [execOp,ho,he,Instr.loadAt,Instr.sureAddr,vV,jV,v6,hrun]
 ·refine hT.quiet (nC w) rfl (by simp [tY]) ?_;intro d av' he';obtain ⟨hlt,rfl⟩:=tW hd he';exact ⟨by omega,hr⟩
def zAN (P:Program) (t:TypeId) (x v:AV) (B:Nat->zR):Option (List Prop×Nat×Box) :=
 match x with
 | .ptr id sz i off =>
  bif (u5 P t&&bN v)&&Nat.beq v.cells.length (szT P t) then
   match B id with
   | .live (.rowQ e sz' l m x') =>
    bif Nat.beq sz sz'&&Nat.ble (off+v.cells.length) x'.length then some ([i=l.length,m=true],id,.rowQ e sz' l m (b9 x' off v.cells)) else none
   | _=>none
  else none
 | _=>none
theorem zLw {P:Program} {N np:Nat} {o:Oper} {t:TypeId} {x y:Operand} {rs:List (Nat×AV)} {B:Nat->zR} {r:List Prop×Nat×Box} (ho:o.op=.store t x y) (hx:xK x=true) (hy:xK y=true)
  (h:zAN P t (y7 rs x) (y7 rs y) B=some r) (hv:∀ p∈r.1,p) (hd:o.dst=none) :
  qH P N np o { rs:=rs,rb:=[(r.2.1,B r.2.1)],wb:=[(r.2.1,.live r.2.2)] }:=by
 intro G st a w hN hnp hE ⟨T,hT⟩;have hrx:=uS hT hE.1 hx;have hry:=uS hT hE.1 hy;unfold zAN at h
 split at h
 case h_2=>cases h
 rename_i id sz i off hX
 rw [hX] at hrx;replace h:=xM h;obtain ⟨hc,h⟩:=h;simp only [zba] at hc;obtain ⟨⟨hk,hok⟩,hln⟩:=hc;have hln:=wT.1 hln;obtain ⟨c1,c2,c3⟩:=GC hry hok;have hvs:(a.eval y).cells.size=szT P t:=by rw [c1,hln]
 have hone:∀ u∈(a.eval y).cells.toList,u.oneCell'=true:=by
  intro u hu;obtain ⟨j,hj⟩:=uG.1 hu;have hjl:j<(a.eval y).cells.size:=by
   rcases zlg j (a.eval y).cells.size with h' | h'
   ·exact h'
   ·rw [vH (by simpa using h')] at hj;cases hj
  have hjc:j<(y7 rs y).cells.length:=by omega
  have:=c3 j _ (w7 hjc)
  have e:(a.eval y).cells.getD j undef=u:=by
   rw [k9] at hj;simp [hj]
  rw [e] at this;exact this.oneCell (c2 _ (g8 hjc))
 generalize he:a.eval x=vx at hrx;cases hrx with
 | ptr hTi ho' =>
 rename_i o' b cap
 have hexec:∀ {C:Array Value} {tt:TypeId},w.heap[b]?=some (.cells C tt (0,0))->o'+(a.eval y).cells.size<=C.size ->
   (execOp a.eval o).run P w=.ok .skip (w.setRow b (C.toList.take o'++(a.eval y).cells.toList++C.toList.drop (o'+(a.eval y).cells.size)).toArray):=by
  intro C tt hh hle;simp only [execOp,ho,he,Instr.storeAt,Instr.sureAddr,vV,jV,v6,zBE hk hvs hh hone hle]
 split at h
 case h_2=>cases h
 rename_i e sz' l m x' hB
 replace h:=xM h;obtain ⟨hc',h⟩:=h;simp only [zba] at hc';have hs:=wT.1 hc'.1;subst hs;have hle:=zle hc'.2;injection h with h;subst h;simp only at hE hv;have hi:i=l.length:=hv _ (by simp);have hm:m=true:=hv _ (by simp);have hb:st.box id=.live (.rowQ e sz l m x'):=(hE.2 (id,B id) (by simp)).trans hB;rcases hT.boxes id _ hb with ⟨hp,_⟩ | ⟨b',cap',C,hp,hh,h1,h2,h3,h4,h5,h6,h7⟩
 ·rw [hTi] at hp;cases hp
 have hp0:=hp;rw [hTi] at hp;injection hp with hp;injection hp with hp1 hp2;subst hp1;subst hp2;obtain ⟨q1,q2,q3⟩:=h7 hm;have h2':=h2;rw [hm] at h2';simp only [cond_true] at h2';have hmul:=qW sz h2';rw [t6] at hmul;subst hi;have hle2:o'+(a.eval y).cells.size<=C.size:=by omega
 unfold Oper.wp;rw [hexec hh hle2];show Rel G _ (a.put o.dst undef) _;have hmono:∀ {T':Tbl} {v av},Rep w (imm G st T) T' v av->Rep (w.setRow b (C.toList.take o'++(a.eval y).cells.toList++C.toList.drop (o'+(a.eval y).cells.size)).toArray) (imm G st T) T' v av:=fun h =>
  h.mono (by simp) (fun b2 hI _=>setRow_other w b b2 _ (fun e=>by subst e;exact hI.2 id _ cap hb hTi)) (fun _ h _=>h) (fun _ _ h=>h)
 refine hT.write hb hTi J7 rfl (by rw [hd];rfl) ?_ (fun d av hE=>by cases hE);have hsz:(a.eval y).cells.size=(a.eval y).cells.toList.length:=by simp
 refine .inr ⟨b,cap,_,hp0,setRow_heap w b C _ e _ hh,?_,h2,h3,h4,h5,?_,fun _=>⟨by rw [HV hle];exact q1,?_,?_⟩⟩
 ·simp;omega
 ·intro i' av j c hi' hj;rw [hsz,C6 (by simpa using hle2)];simp only [oN];have hil:i'<l.length:=(vO.1 hi').1;have hjl:j<sz:=by
   rw [<- h4 _ (yN hi')];exact (vO.1 hj).1
  have:=qW sz (show i'+1<=l.length by omega)
  rw [t6] at this;rw [if_neg (by omega)];exact hmono (h6 i' av j c hi' hj)
 ·intro c hc;unfold b9 at hc;rcases wL.1 hc with hc | hc
  ·rcases wL.1 hc with hc | hc
   ·exact q2 c (aK hc)
   ·exact c2 c hc
  ·exact q2 c (bS hc)
 ·intro j c hj;rw [Q0 hle] at hj;rw [hsz,C6 (by simpa using hle2)];simp only [oN]
  by_cases k1:j<off
  ·rw [if_pos k1] at hj;rw [if_neg (by omega)];exact hmono (q3 j c hj)
  ·rw [if_neg k1] at hj
   by_cases k2:j<off+(y7 rs y).cells.length
   ·rw [if_pos k2] at hj;rw [if_pos (by omega)]
    have:=c3 _ c hj
    refine hmono ?_;rw [show xR cap+(l.length * sz+j) - o'=j - off by omega];simpa [List.getD] using this
   ·rw [if_neg k2] at hj;rw [if_neg (by omega)];exact hmono (q3 j c hj)
/-! A row with one element that holds rows of the call's own. -/
def zAD (P:Program) (t:TypeId) (x:AV) (B:Nat->zR):Option (List Prop×Nat×AV) :=
 match x with
 | .ptr id sz i off =>
  bif u5 P t then
   match B id with
   | .live (.rowI _ sz' l m i0 x') =>
    bif Nat.beq sz sz' then
     match B1 P t x' off with
     | some av=>some ([i=i0,m=true],id,av)
     | none=>none
    else none
   | _=>none
  else none
 | _=>none
theorem zIy {P:Program} {N np:Nat} {o:Oper} {t:TypeId} {x:Operand} {rs:List (Nat×AV)} {B:Nat->zR} {r:List Prop×Nat×AV} (ho:o.op=.load t x) (hx:xK x=true)
  (h:zAD P t (y7 rs x) B=some r) (hv:∀ p∈r.1,p) (hd:qF N o.dst=true) :
  qH P N np o { rs:=rs,rb:=[(r.2.1,B r.2.1)],dst:=o.dst.map fun d=>(d,r.2.2) }:=by
 intro G st a w hN hnp hE ⟨T,hT⟩;have hrep:=uS hT hE.1 hx;unfold zAD at h
 split at h
 case h_2=>cases h
 rename_i id sz i off hX
 rw [hX] at hrep;replace h:=xM h;obtain ⟨hk,h⟩:=h;generalize he:a.eval x=vx at hrep;cases hrep with
 | ptr hTi ho' =>
 rename_i o' b cap
 split at h
 case h_2=>cases h
 rename_i e sz' l m i0 x' hB
 replace h:=xM h;obtain ⟨hs,h⟩:=h;have hs:=wT.1 hs;subst hs
 split at h
 case h_2=>cases h
 rename_i av hav
 injection h with h;subst h;simp only at hE hv;have hi:i=i0:=hv _ (by simp);have hm:m=true:=hv _ (by simp);have hb:st.box id=.live (.rowI e sz l m i0 x'):=(hE.2 (id,B id) (by simp)).trans hB;rcases hT.boxes id _ hb with ⟨hp,_⟩ | ⟨b',cap',C,hp,hh,h1,h2,h3,h4,h5,h6,h7⟩
 ·rw [hTi] at hp;cases hp
 rw [hTi] at hp;injection hp with hp;injection hp with hp1 hp2;subst hp1;subst hp2;obtain ⟨q0,q1,q2,q3⟩:=h7 hm;obtain ⟨ha,hnn,hsub,hone⟩:=HS hav q2;have hmul:=qW sz (show i0+1<=v7 cap by omega);rw [t6] at hmul;have hC:∀ (j:Nat) (c:AV),av.cells[j]?=some c->w.cell? ⟨b,o'+j,none⟩=some (C.getD (xR cap+(i0 * sz+(off+j))) undef):=by
  intro j c hj;have hs:=hsub j c hj;have hlt:off+j<sz:=by
   rw [<- q1];rcases zlg (off+j) x'.length with h' | h'
   ·exact h'
   ·rw [vH h'] at hs;cases hs
  have hlt2:xR cap+(i0 * sz+(off+j))<C.size:=by omega
  have:o'+j=xR cap+(i0 * sz+(off+j)):=by rw [ho',hi];omega
  rw [this];simp [World.cell?,hh,hlt2]
 obtain ⟨v,hrun,hr⟩:=QP hk ha hnn hC hone (fun j c hj=>q3 _ _ (hsub j c hj));refine jN (v:=v) (w':=w) ?_ ?_
 ·simp only [execOp,ho,he,Instr.loadAt,Instr.sureAddr,vV,jV,v6,hrun]
 ·refine hT.quiet (nC w) rfl (by simp [tY]) ?_;intro d av' he';obtain ⟨hlt,rfl⟩:=tW hd he';exact ⟨by omega,hr⟩
def zAn (P:Program) (t:TypeId) (x v:AV) (B:Nat->zR):Option (List Prop×Nat×Box) :=
 match x with
 | .ptr id sz i off =>
  bif (u5 P t&&bN v)&&Nat.beq v.cells.length (szT P t) then
   match B id with
   | .live (.rowI e sz' l m i0 x') =>
    bif Nat.beq sz sz'&&Nat.ble (off+v.cells.length) x'.length then some ([i=i0,m=true],id,.rowI e sz' l m i0 (b9 x' off v.cells)) else none
   | _=>none
  else none
 | _=>none
theorem zG8 {P:Program} {N np:Nat} {o:Oper} {t:TypeId} {x y:Operand} {rs:List (Nat×AV)} {B:Nat->zR} {r:List Prop×Nat×Box} (ho:o.op=.store t x y) (hx:xK x=true) (hy:xK y=true)
  (h:zAn P t (y7 rs x) (y7 rs y) B=some r) (hv:∀ p∈r.1,p) (hd:o.dst=none) :
  qH P N np o { rs:=rs,rb:=[(r.2.1,B r.2.1)],wb:=[(r.2.1,.live r.2.2)] }:=by
 intro G st a w hN hnp hE ⟨T,hT⟩;have hrx:=uS hT hE.1 hx;have hry:=uS hT hE.1 hy;unfold zAn at h
 split at h
 case h_2=>cases h
 rename_i id sz i off hX
 rw [hX] at hrx;replace h:=xM h;obtain ⟨hc,h⟩:=h;simp only [zba] at hc;obtain ⟨⟨hk,hok⟩,hln⟩:=hc;have hln:=wT.1 hln;obtain ⟨c1,c2,c3⟩:=GC hry hok;have hvs:(a.eval y).cells.size=szT P t:=by rw [c1,hln]
 have hone:∀ u∈(a.eval y).cells.toList,u.oneCell'=true:=by
  intro u hu;obtain ⟨j,hj⟩:=uG.1 hu;have hjl:j<(a.eval y).cells.size:=by
   rcases zlg j (a.eval y).cells.size with h' | h'
   ·exact h'
   ·rw [vH (by simpa using h')] at hj;cases hj
  have hjc:j<(y7 rs y).cells.length:=by omega
  have:=c3 j _ (w7 hjc)
  have e:(a.eval y).cells.getD j undef=u:=by
   rw [k9] at hj;simp [hj]
  rw [e] at this;exact this.oneCell (c2 _ (g8 hjc))
 generalize he:a.eval x=vx at hrx;cases hrx with
 | ptr hTi ho' =>
 rename_i o' b cap
 have hexec:∀ {C:Array Value} {tt:TypeId},w.heap[b]?=some (.cells C tt (0,0))->o'+(a.eval y).cells.size<=C.size ->
   (execOp a.eval o).run P w=.ok .skip (w.setRow b (C.toList.take o'++(a.eval y).cells.toList++C.toList.drop (o'+(a.eval y).cells.size)).toArray):=by
  intro C tt hh hle;simp only [execOp,ho,he,Instr.storeAt,Instr.sureAddr,vV,jV,v6,zBE hk hvs hh hone hle]
 split at h
 case h_2=>cases h
 rename_i e sz' l m i0 x' hB
 replace h:=xM h;obtain ⟨hc',h⟩:=h;simp only [zba] at hc';have hs:=wT.1 hc'.1;subst hs;have hle:=zle hc'.2;injection h with h;subst h;simp only at hE hv;have hi:i=i0:=hv _ (by simp);have hm:m=true:=hv _ (by simp);have hb:st.box id=.live (.rowI e sz l m i0 x'):=(hE.2 (id,B id) (by simp)).trans hB;rcases hT.boxes id _ hb with ⟨hp,_⟩ | ⟨b',cap',C,hp,hh,h1,h2,h3,h4,h5,h6,h7⟩
 ·rw [hTi] at hp;cases hp
 have hp0:=hp;rw [hTi] at hp;injection hp with hp;injection hp with hp1 hp2;subst hp1;subst hp2;obtain ⟨q0,q1,q2,q3⟩:=h7 hm;have hmul:=qW sz (show i0+1<=v7 cap by omega);rw [t6] at hmul;subst hi;have hle2:o'+(a.eval y).cells.size<=C.size:=by omega
 unfold Oper.wp;rw [hexec hh hle2];show Rel G _ (a.put o.dst undef) _;have hmono:∀ {T':Tbl} {v av},Rep w (imm G st T) T' v av->Rep (w.setRow b (C.toList.take o'++(a.eval y).cells.toList++C.toList.drop (o'+(a.eval y).cells.size)).toArray) (imm G st T) T' v av:=fun h =>
  h.mono (by simp) (fun b2 hI _=>setRow_other w b b2 _ (fun e=>by subst e;exact hI.2 id _ cap hb hTi)) (fun _ h _=>h) (fun _ _ h=>h)
 refine hT.write hb hTi J7 rfl (by rw [hd];rfl) ?_ (fun d av hE=>by cases hE);have hsz:(a.eval y).cells.size=(a.eval y).cells.toList.length:=by simp
 refine .inr ⟨b,cap,_,hp0,setRow_heap w b C _ e _ hh,?_,h2,h3,h4,h5,?_,fun _=>⟨q0,by rw [HV hle];exact q1,?_,?_⟩⟩
 ·simp;omega
 ·intro k av j c hk hi' hj;rw [hsz,C6 (by simpa using hle2)];simp only [oN];have hjl:j<sz:=by
   rw [<- h4 _ (yN hi')];exact (vO.1 hj).1
  rcases Nat.lt_or_gt_of_ne (hk hm) with hlt | hgt
  ·have:=qW sz hlt
   rw [Nat.succ_mul] at this;rw [if_neg (by omega)];exact hmono (h6 k av j c hk hi' hj)
  ·have:=qW sz hgt
   rw [Nat.succ_mul] at this;rw [if_neg (by omega)];exact hmono (h6 k av j c hk hi' hj)
 ·intro c hc;unfold b9 at hc;rcases wL.1 hc with hc | hc
  ·rcases wL.1 hc with hc | hc
   ·exact q2 c (aK hc)
   ·exact c2 c hc
  ·exact q2 c (bS hc)
 ·intro j c hj;rw [Q0 hle] at hj;rw [hsz,C6 (by simpa using hle2)];simp only [oN]
  by_cases k1:j<off
  ·rw [if_pos k1] at hj;rw [if_neg (by omega)];exact hmono (q3 j c hj)
  ·rw [if_neg k1] at hj
   by_cases k2:j<off+(y7 rs y).cells.length
   ·rw [if_pos k2] at hj;rw [if_pos (by omega)]
    have:=c3 _ c hj
    refine hmono ?_;rw [show xR cap+(i * sz+j) - o'=j - off by omega];simpa [List.getD] using this
   ·rw [if_neg k2] at hj;rw [if_neg (by omega)];exact hmono (q3 j c hj)
end Go.Ab
