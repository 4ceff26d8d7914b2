/- Lemmas. No conditions but those that they name. -/
import Derived.Test.YtcejcgalbcnjnaaGreatCtP
namespace Go.Ab
open Go
set_option linter.unusedVariables false
theorem zCk:∀ (P:List zO) (i:Nat),i<evN P->∃ p∈P,∃ n<p.Xe.length,(uE P)[i]?=some ⟨p.Xb,p.Xf+(n:Int)⟩/\(evL P)[i]?=p.Xe[n]?
 | [],i,h=>absurd h (Nat.not_lt_zero i)
 | p::P,i,h=>by
  have e1:uE (p::P)=bQ p++uE P:=by unfold uE;rw [bC]
  have e2:evL (p::P)=p.Xe++evL P:=by unfold evL;rw [bC]
  have e3:(bQ p).length=p.Xe.length:=by unfold bQ;rw [vL,rQ]
  have e4:evN (p::P)=p.Xe.length+evN P:=by unfold evN;rw [uM,lS]
  rw [e1,e2];rcases zlg i p.Xe.length with hh | hh
  ·refine ⟨p,tK ..,i,hh,?_,uH hh⟩;rw [uH (by omega)];unfold bQ;rw [vD,DJ hh];rfl
  ·obtain ⟨q,q1,n,n1,n2,n3⟩:=zCk P (i - p.Xe.length) (by omega);refine ⟨q,qX _ q1,n,n1,?_,?_⟩
   ·rw [u4 (by omega),e3];exact n2
   ·rw [u4 (by omega)];exact n3
theorem zIu {P:List zO} (h:(P.map (·.Xb)).Pairwise (·<·)):(uE P).Pairwise fun a b=>a.Xb<b.Xb\/(a.Xb=b.Xb/\a.Xf<b.Xf):=by
 unfold uE;rw [List.pairwise_flatMap];rw [List.pairwise_map] at h;refine ⟨fun p _=>?_,h.imp fun {p q} hpq a ha b hb=>.inl ?_⟩
 ·unfold bQ;rw [List.pairwise_map];exact List.pairwise_lt_range.imp fun {a b} hab=>.inr ⟨rfl,by simp only;omega⟩
 ·unfold bQ at ha hb;obtain ⟨i,_,rfl⟩:=vB.mp ha;obtain ⟨j,_,rfl⟩:=vB.mp hb;exact hpq
theorem zG0 {h:wR} (hh:gF h=0):AB h.Xi h.Xl=0:=by
 unfold gF at hh
 split at hh
 ·omega
 split at hh
 ·omega
 split at hh
 ·rename_i q hq
  exfalso
  have:∀ (i:Nat) (m:List wN) q,u6 (thF h.Xd) i m=.inr q->q≠0:=by
   intro i m
   induction m generalizing i with
   | nil=>intro q h;cases h
   | cons a r ih =>
    intro q hq;simp only [u6] at hq;cases hf:thF h.Xd i a with
    | none=>rw [hf] at hq;exact ih _ _ hq
    | some b =>
     rw [hf] at hq;injection hq with hq;subst hq;unfold thF at hf
     split at hf
     ·injection hf with hf;omega
     ·split at hf
      ·injection hf with hf;omega
      ·cases hf
  exact this _ _ _ hq hh
 ·split at hh
  ·rename_i h1;exact absurd hh h1
  ·rename_i h1;exact GN h1
section
variable {w:pN} {l:z6}
structure Ix (w:pN) (l:z6) (i:Nat):Prop where
 t:0<=(idA l i).Xb/\(idA l i).Xb<w.At.length
 s:0<=(idA l i).Xf/\(idA l i).Xf<(atQ w (idA l i).Xb).length
 a:(eA l i).At=(atQ w (idA l i).Xb).getD (idA l i).Xf.toNat 0
 st:(eA l i).Xs=[]
 k:zBf w w.Xq.length (idA l i).Xb (idA l i).Xf.toNat (eA l i)
 ok:J0 (atQ w (idA l i).Xb)
 r:0<=(eA l i).At/\(eA l i).At<=1000000
 d:0<=dmW w (idA l i).Xb/\dmW w (idA l i).Xb<=w.Xn.length
theorem fA (h:Blt w l) {i:Nat} (hi:i<evN l.Xa):Ix w l i:=by
 obtain ⟨p,hp,n,hn,e1,e2⟩:=zCk l.Xa i hi;have hk:=h.ps p hp;obtain ⟨a1,a2,a3⟩:=hk.e n hn;have e1:idA l i=⟨p.Xb,(n:Int)⟩:=by unfold idA;rw [getD_some e1,hk.s,Int.zero_add]
 have e2:eA l i=p.Xe.getD n default:=by
  unfold eA;rw [jG default hn] at e2;exact getD_some e2
 have ht:=h.th p.Xb.toNat (by have:=hk.t;omega);have hat:J0 (atQ w p.Xb):=ht.2.2;have hpl:=hk.l;have hr:=hat.2 n (by omega);refine ⟨?_,?_,?_,?_,?_,?_,?_,?_⟩
 all_goals try rw [e1]
 all_goals try rw [e2]
 all_goals try simp only [wB]
 ·exact hk.t
 ·omega
 ·exact a1
 ·exact a2
 ·exact a3
 ·exact hat
 ·rw [a1];omega
 ·exact ⟨ht.1,ht.2.1⟩
theorem zCb (hck:∀ c∈w.Xn,DB c) {d x y:Int} (hd:0<=d/\d<=w.Xn.length) (hxy:x<=y):tmW w d x<=tmW w d y:=by
 unfold tmW
 split
 ·exact hxy
 ·have hl:(d - 1).toNat<w.Xn.length:=by omega
  obtain ⟨c1,c2,c3,c4,c5,c6⟩:=hck _ (yN (jG default hl));exact zJC hxy (by omega) (by omega)
def bY (w:pN) (l:z6) (i:Nat):Int:=tmW w (dmW w (idA l i).Xb) (eA l i).At
def DC (w:pN) (l:z6) (i:Nat):Int:=bY w l i * 1000000000+(eA l i).At * 100+(idA l i).Xf
theorem X0 (h:Blt w l) {i j:Nat} (hi:i<evN l.Xa) (hj:j<evN l.Xa) (hl:bY w l i<bY w l j\/(bY w l i<=bY w l j/\((eA l i).At<(eA l j).At\/((eA l i).At<=(eA l j).At/\(idA l i).Xf<(idA l j).Xf)))):DC w l i<DC w l j:=by
 have h1:=fA h hi;have h2:=fA h hj;have a1:=h1.r;have a2:=h2.r;have b1:=h1.s;have b2:=h2.s;have c1:=h1.ok.1;have c2:=h2.ok.1;unfold DC;omega
theorem ZN {n:Nat} {t:wN} (h:t∈c7 w n):t.Xx=dmW w t.Id/\∃ i<n,t.Id=(i:Int):=by
 unfold c7 at h;obtain ⟨i,hi,rfl⟩:=vB.mp h;exact ⟨by unfold dmW;simp only [wB],i,dD.mp hi,rfl⟩
theorem zOU (h:Blt w l):evN l.Xa<=32:=by
 have:=zE6 (l:=l.Xa) fun p hp=>by
  have hk:=h.ps p hp
  have:=(h.th p.Xb.toNat (by have:=hk.t;omega)).2.2.1
  rw [hk.l];exact this
 have:=h.pl
 omega
theorem zDw {n i:Nat} (hi:i<n):(⟨(i:Int),[116],w.Xd.getD i 0⟩:wN)∈c7 w n:=vB.mpr ⟨i,dD.mpr hi,rfl⟩
theorem zOb (h:Blt w l):Tr l (DC w l):=by
 obtain ⟨sn,hh,s1,s2,s3⟩:=h.hd;have hps:=zIu h.srt;have hil:(uE l.Xa).length=evN l.Xa:=rK _;have hpw:∀ i j,i<j->j<evN l.Xa->(idA l i).Xb<(idA l j).Xb\/((idA l i).Xb=(idA l j).Xb/\(idA l i).Xf<(idA l j).Xf):=fun i j hij hj=>by
  have:=BI.mp hps i j (by omega) (by omega) hij
  unfold idA;rw [vQ,vQ,w7 (by omega),w7 (by omega)];exact this
 have hid:∀ i<evN l.Xa,∀ j<evN l.Xa,(idA l i).Xb=(idA l j).Xb->(idA l i).Xf=(idA l j).Xf->i=j:=fun i hi j hj e1 e2=>by
  rcases DH i j with h1 | h1 | h1
  ·have:=hpw i j h1 hj;omega
  ·exact h1
  ·have:=hpw j i h1 hi;omega
 have hth:l.Xc.Xd=c7 w w.At.length:=by rw [hh]
 refine ⟨h.small,h.chk,zOU h,?_,?_,fun i hi=>?_,fun i hi j hj k1 k2 e=>?_,fun i j hij hj e=>?_,fun i hi=>?_,fun k hk i hi k1 k2 e=>?_,fun a ha b hb hlt=>?_⟩
 ·rw [hth];unfold c7;rw [vL,rQ];have:=h.al;omega
 ·refine hps.imp fun {a b} hab e=>?_
  rw [e] at hab;omega
 ·have ht:=(fA h hi).t;refine ⟨_,by rw [hth];exact zDw (i:=(idA l i).Xb.toNat) (by omega),?_⟩;simp only;omega
 ·have a1:=fA h hi;have a2:=fA h hj;have b1:=a1.s;have b2:=a2.s;rcases a1.k with c | ⟨f,f1,f2,f3⟩
  ·omega
  rcases a2.k with c | ⟨g,g1,g2,g3⟩
  ·omega
  have hfg:f=g:=by omega
  subst hfg;rcases f3 with f3 | f3
  ·rcases g3 with g3 | g3
   ·exact hid i hi j hj (by rw [<- f3.2.1,<- g3.2.1]) (by omega)
   ·omega
  ·omega
 ·have hi:i<evN l.Xa:=by omega
  have a1:=fA h hi;have a2:=fA h hj;have hs:(idA l i).Xf<(idA l j).Xf:=by have:=hpw i j hij hj;omega
  refine ⟨X0 h hi hj (.inr ?_),hs⟩;have hat:(eA l i).At<=(eA l j).At:=by
   rw [a1.a,a2.a,e];have b1:=a1.s;have b2:=a2.s;exact zHI a2.ok _ _ (by omega) (by omega)
  refine ⟨?_,.inr ⟨hat,hs⟩⟩;unfold bY;rw [e];exact zCb h.ck a2.d hat
 ·have a1:=fA h hi;have b1:=a1.s
  have:=a1.ok.1
  omega
 ·have a1:=fA h hk;have a2:=fA h hi;have b1:=a1.s;have b2:=a2.s;refine X0 h hk hi (.inl ?_);rcases a1.k with c | ⟨f,f1,f2,f3⟩
  ·omega
  rcases a2.k with c | ⟨g,g1,g2,g3⟩
  ·omega
  have hfg:f=g:=by omega
  subst hfg;rcases f3 with f3 | f3
  ·rcases g3 with g3 | g3
   ·omega
   ·have hfl:=(h.fl f f1).2.2.2.2.2.2.2.2;rw [f3.2.1,g3.2.1,f3.2.2,g3.2.2,wB,wB,<- a1.a,<- a2.a] at hfl;exact hfl
  ·omega
 ·rintro ⟨s,hs,t,ht,e1,e2,e3⟩;rw [hth] at hs ht;have d1:=(ZN hs).1;have d2:=(ZN ht).1;refine X0 h ha hb (.inr ⟨?_,.inl hlt⟩);unfold bY;rw [<- e1,<- e2,<- d1,<- d2,e3,d2,e2];exact zCb h.ck (fA h hb).d (by omega)
def Lnk (w:pN):Prop:=∀ k∈w.Xd,k=0\/∃ s∈w.Seen,s.Xz+1=k
theorem zLC (h:Blt w l) (hlk:Lnk w):Al l (DC w l) (bY w l) (tmW w) (dmW w):=by
 obtain ⟨sn,hh,s1,s2,s3⟩:=h.hd;have hth:l.Xc.Xd=c7 w w.At.length:=by rw [hh]
 have hdo:l.Xc.Xi=mA w w.Xn.length:=by rw [hh]
 have hsn:l.Xc.Xl=sn:=by rw [hh]
 have hz:=(YT h.chk).1;have hcl:=h.cl;have t0:∀ x,tmW w 0 x=x:=fun x=>by unfold tmW;rw [if_pos (by omega)]
 have hdm:∀ i:Nat,i<w.Xn.length->(⟨(i:Int)+1,(w.Xn.getD i default).Xt⟩:yW)∈mA w w.Xn.length:=fun i hi=>qX _ (vB.mpr ⟨i,dD.mpr hi,rfl⟩)
 refine ⟨zOb h,zCc hz,fun t ht=>?_,fun p hp=>?_,fun p hp e he=>?_,fun i hi=>rfl,fun i hi j hj hle=>?_⟩
 ·rw [hth] at ht;exact ((ZN ht).1).symm
 ·have ht:=(h.ps p hp).t;refine ⟨_,by rw [hth];exact zDw (i:=p.Xb.toNat) (by omega),?_⟩;simp only;omega
 ·have hk:=h.ps p hp;have ht:=h.th p.Xb.toNat (by have:=hk.t;omega)
  change 0<=dmW w p.Xb/\dmW w p.Xb<=_/\J0 (atQ w p.Xb) at ht
  obtain ⟨n,hn⟩:=uG.mp he;have hnl:=(vO.mp hn).1;have hpl:=hk.l;have hea:e.At=(atQ w p.Xb).getD n 0:=by have:=(hk.e n hnl).1;rw [getD_some hn] at this;exact this
  have hr:=ht.2.2.2 n (by omega);rw [hdo,hsn];refine ⟨?_,List.cons_ne_nil _ _,s1,by have:=zG0 hz;rw [hdo,hsn] at this;exact this,t0,fun x hx=>?_,fun s hs=>?_,by rw [hea];omega,⟨_,tK ..,rfl⟩,?_,?_⟩
  ·unfold mA;rw [zlc,vL,rQ];omega
  ·unfold mA at hx;rcases uA.mp hx with rfl | hx
   ·exact ⟨aH _,by simp only;omega,fun e=>absurd rfl e⟩
   ·obtain ⟨i,hi,rfl⟩:=vB.mp hx;have hi:=dD.mp hi;obtain ⟨c1,c2,c3,c4,c5,c6⟩:=h.ck _ (yN (jG default hi));refine ⟨c1,c2,fun _ x y lo hi' h0 hxy _ a b=>?_⟩;simp only;rw [zBA,zBA];exact zJN hxy c4 c3 a b
  ·have hs:=s2 s hs;obtain ⟨i,i1,i2⟩:=hs.a
   have:=hs.b
   have:=hs.lo
   have:=hs.hi
   exact ⟨by omega,by omega,by omega,by omega,by omega,by omega,by omega,by omega⟩
  ·rcases MD 0 (dmW w p.Xb) with hd | hd
   ·refine ⟨_,hdm (dmW w p.Xb - 1).toNat (by omega),?_⟩;simp only;omega
   ·refine ⟨_,tK ..,?_⟩;simp only;omega
  ·have hm:dmW w p.Xb∈w.Xd:=yN (jG 0 (by have:=h.tl;have:=hk.t;omega));rcases hlk _ hm with hd | ⟨s,hs,e⟩
   ·exact .inl hd
   ·obtain ⟨t,t1,t2⟩:=s3 s hs;exact .inr ⟨t,t1,by rw [t2,e]⟩
 ·rcases MD (bY w l j) (bY w l i) with hlt | hge
  ·have:=X0 h hj hi (.inl hlt);omega
  ·exact hge
theorem ZP:JG FF=some true:=by kernel_rfl
theorem zNy (h4:w.Xd.length<=4) (h8:w.Seen.length<=8) (hs:∀ s∈w.Seen, -5<=s.Xz/\s.Xz<=5):Ok (LM FF w FF 0) fun o=>o=.inr true\/(o=.inl ()/\Lnk w):=by
 refine v9 (σ:=Nat) (fun n s=>LM FF w n s) (fun s=>s<=w.Xd.length/\∀ k∈w.Xd.take s,k=0\/∃ s∈w.Seen,s.Xz+1=k) _ (fun s=>w.Xd.length - s) ?_ 0 ⟨wI _,fun k hk=>by simp at hk⟩;rintro n v ⟨h1,h2⟩ ih;show Ok (TO _ _ _ _) _;unfold TO;refine xV (fun hi=>?_) fun hi=>yB (.inr ⟨rfl,?_⟩)
 ·refine vK (by omega) hi fun x hx=>?_
  rw [wB] at hx;refine yX (P:=fun c=>c=true->x=0\/∃ s∈w.Seen,s.Xz+1=x) ?_ ?_
  ·refine v9 (σ:=Bool×Nat) (fun n s=>NL FF w x n s.1 s.2) (fun s=>s.2<=w.Seen.length/\(s.1=true->x=0\/∃ s∈w.Seen,s.Xz+1=x)) _ (fun s=>w.Seen.length - s.2) ?_ (_,0) ⟨wI _,fun e=>.inl (eq_of_beq e)⟩;rintro n ⟨c,i⟩ ⟨g1,g2⟩ ih2;simp only at g1 g2 ih2 ⊢;show Ok (XX _ _ _ _ _ _) _;unfold XX;refine xV (fun hi2=>?_) fun _=>yB g2
   refine vK (by omega) hi2 fun s hs2=>?_
   have hm:=yN hs2;have hb:=hs s hm;rw [w64 (x:=s.Xz+1) (by omega) (by omega),w5];refine ih2 (_,i+1) ⟨by simp only;omega,fun e=>?_⟩ (by simp only;omega);rcases (rJ ..).mp e with e | e
   ·exact g2 e
   ·exact .inr ⟨s,hm,eq_of_beq e⟩
  ·intro c hc;refine vZ (fun _=>?_) fun e=>?_
   ·rw [ZP];exact yB (.inl rfl)
   ·rw [w5];refine ih (v+1) ⟨by omega,fun k hk=>?_⟩ (by omega);rw [nM,hx] at hk;rcases wL.mp hk with hk | hk
    ·exact h2 k hk
    ·simp at hk;subst hk;exact hc (by simpa using e)
 ·rw [show v=w.Xd.length by omega,CU] at h2;exact h2
theorem zKL (h:Blt w l) (hal:Al l (DC w l) (bY w l) (tmW w) (dmW w)) {wc:yR} (hs:bX FF l=some (wc,0)) (hw:Wld l (DC w l) wc) {k:vT} (hk:Kn l (DC w l) (bY w l) wc k) {out:List yO} (ho:SU l k out) :
  Ok (LA FF w (l,true) (out,0) FF 0) fun o=>o=.inl ():=by
 have hn:=hal.tr.n;have hcl:=h.cl;obtain ⟨s,hsl,rfl,hs1,hs2⟩:=ho;have hget:∀ {v:Nat},v<evN l.Xa->∃ i,s[v]?=some i/\i<evN l.Xa:=fun {v} hv=>by
  refine ⟨s.getD v 0,jG 0 (by omega),?_⟩;exact hs1 _ (yN (jG 0 (by omega)))
 refine v9 (σ:=Nat) (fun n v=>LA FF w (l,true) (s.map fun i=>k.Xu.getD i default,0) n v) (fun v=>v<=evN l.Xa) _ (fun v=>evN l.Xa - v) ?_ 0 (wI _);rintro n v hv ih;show Ok (WN _ _ _ _ _ _) _;unfold WN;simp only;rw [vL];refine xV (fun hv=>?_) fun hv=>yB rfl
 refine vK (by omega) (by rw [vL];exact hv) fun x hx=>?_
 obtain ⟨i,hi1,hi2⟩:=hget (v:=v) (by omega);rw [wB,vD,hi1] at hx;have hx:x=k.Xu.getD i default:=by injection hx with hx;exact hx.symm
 have hid:x.Id=idA l i:=by rw [hx];exact hk.tm.id i hi2
 have ix:=fA h hi2;have i1:=ix.t;have i2:=ix.s;have htm:=hk.tm.iv i hi2;rw [<- hx] at htm;rw [hid,w5];refine yX (P:=fun p=>p=false) ?_ ?_
 ·rw [xN (by omega),cond_false,xN (by omega),cond_false,xN (by omega),cond_false];refine vK i1.1 i1.2 fun y hy=>yB ?_
  have hy:y=atQ w (idA l i).Xb:=(getD_some hy).symm;rw [hy,xN (by omega)]
 rintro _ rfl;rw [cond_false];refine pU (ZK (by omega) h.ck h.tl h.th i1.1 i1.2 i2.1 i2.2) ?_;rw [<- ix.a];obtain ⟨t1,t2,_⟩:=htm
 change x.Xk.Lo<=bY w l i at t1
 change bY w l i<=_ at t2
 change Ok (bif decide (bY w l i<x.Xk.Lo)||decide (bY w l i>x.Xk.Hi) then _ else _) _
 rw [xN (by omega),xN (by omega),D6,cond_false];refine xV (fun hp=>?_) fun _=>ih (v+1) (by omega) (by omega)
 rw [o8];refine vK (by omega) (by rw [vL];omega) fun z hz=>?_
 obtain ⟨j,hj1,hj2⟩:=hget (v:=v - 1) (by omega);rw [show ((v:Int) - 1).toNat=v - 1 by omega,vD,hj1] at hz;have hz:z.Id=idA l j:=by injection hz with hz;rw [<- hz];exact hk.tm.id j hj2
 rw [hz];refine yX (zNp hal.tr hs hw hi2 hj2) ?_;rintro ⟨b,q⟩ hb;simp only at hb ⊢;refine vZ (fun e=>?_) fun _=>ih (v+1) (by omega) (by omega)
 exfalso
 have hord:Ord l k j i:=by
  have:=BI.mp hs2 (v - 1) v (by omega) (by omega) (by omega)
  rw [(vO.mp hj1).2,(vO.mp hi1).2] at this;exact this
 obtain ⟨c,c1,c2,_,_⟩:=LT hal hk hi2;have a1:=hord.ca c c1 c2;have a2:=(hk.vs.2 j hj2).v3 c c1 i hi2 c2.symm (hb e);omega
theorem zOj (w:pN):AN FF w=some true:=by
 suffices Ok (AN FF w) fun r=>r=true by
  obtain ⟨_,e,rfl⟩:=this;exact e
 unfold AN;refine yX (zNc w) ?_;rintro ⟨l,b⟩ hb;simp only at hb ⊢;refine vZ (fun _=>by rw [ZP];exact yB rfl) fun e=>?_
 have e:b=true:=by simpa using e
 subst e;have h:=hb rfl;have hlen:=h.tl;have hal4:=h.al;have hcl:=h.cl;refine yX (zNy (by omega) h.sl fun s hs=>?_) ?_
 ·obtain ⟨sn,_,_,n2,n3⟩:=h.hd;obtain ⟨t,t1,t2⟩:=n3 s hs;obtain ⟨i,i1,i2⟩:=(n2 t t1).a;omega
 rintro _ (rfl | ⟨rfl,hl⟩)
 ·exact yB rfl
 have hal:=zLC h hl;obtain ⟨⟨wc,q⟩,hs,e0,hw⟩:=zDr hal.tr;simp only at e0 hw;subst e0;obtain ⟨⟨out,q⟩,ho,e0,k,hk1,hk2,hk3⟩:=zHe hal hs hw;simp only at e0 hk3;subst e0;simp only;rw [ho,zbs];simp only;rw [tV rfl,cond_false,zOu hal (fun i hi=>by rw [(fA h hi).st];simp) hk2 hk1 hk3,zbs,zbs,cO,cond_false];refine yX (zKL h hal hs hw hk2 hk3) ?_;rintro _ rfl;simp only;rw [ZP];exact yB rfl
end
end Go.Ab
