/- Lemmas. No conditions but those that they name. -/
import Derived.Test.YtcejcgalbcnjnaaGreatCtO3
namespace Go.Ab
open Go
set_option linter.unusedVariables false
section
variable {l:z6} {ρ τ:Nat->Int} {T:Int->Int->Int} {dm:Int->Int} {w:yR} {k:vT} {W:List (List Int)} {b:List Bool}
theorem zDX {b:List Bool} {ρ:Nat->Int}:∀ n,(∃ x<n,b.getD x false=false)->∃ m<n,b.getD m false=false/\∀ x<n,b.getD x false=false->ρ m<=ρ x
 | 0,⟨x,h,_⟩=>absurd h (Nat.not_lt_zero x)
 | n+1,⟨x,h,hx⟩=>by
  by_cases hs:∃ y<n,b.getD y false=false
  ·obtain ⟨m,m1,m2,m3⟩:=zDX (b:=b) (ρ:=ρ) n hs
   by_cases hn:b.getD n false=false/\ρ n<ρ m
   ·refine ⟨n,by omega,hn.1,fun y hy hy2=>?_⟩;rcases zlg y n with hh | hh
    ·have:=m3 y hh hy2;omega
    ·rw [show y=n by omega];exact aH _
   ·refine ⟨m,by omega,m2,fun y hy hy2=>?_⟩;rcases zlg y n with hh | hh
    ·exact m3 y hh hy2
    ·rw [show y=n by omega] at hy2 ⊢
     have:¬ρ n<ρ m:=fun h2=>hn ⟨hy2,h2⟩
     omega
  ·have hxn:x=n:=by
    rcases zlg x n with hh | hh
    ·exact absurd ⟨x,hh,hx⟩ hs
    ·omega
   refine ⟨n,by omega,by rw [<- hxn];exact hx,fun y hy hy2=>?_⟩;rcases zlg y n with hh | hh
   ·exact absurd ⟨y,hh,hy2⟩ hs
   ·rw [show y=n by omega];exact aH _
theorem zFD (hW:Wt l (evN l.Xa) b W) {c:Nat} (hc:c<l.Xc.Xd.length) {i:Nat} (hi:i<evN l.Xa) (e:tA l c=(idA l i).Xb) (hb:b.getD i false=false):∃ (y:Nat) (r:List Int),W.getD c []=(y:Int)::r/\hdN W c=y/\y<=i/\y<evN l.Xa/\(idA l y).Xb=tA l c/\b.getD y false=false:=by
 have hm:=hW.all c hc i hi e hb;have hs:=hW.srt c hc;obtain ⟨r,e1,e2,e3,e4⟩:=GB hW hc (List.ne_nil_of_mem hm);refine ⟨hdN W c,r,e1,rfl,?_,e2,e3.symm,e4⟩;rw [e1] at hm hs;rcases uA.mp hm with hh | hh
 ·omega
 ·have:=(J1.mp hs).1 _ hh;omega
theorem zCN (h:Al l ρ τ T dm) (hk:Kn l ρ τ w k) (hW:Wt l (evN l.Xa) b W) (hx:∃ x<evN l.Xa,b.getD x false=false):∃ c<l.Xc.Xd.length,HF l k W c/\∀ x<evN l.Xa,b.getD x false=false->ρ (hdN W c)<=ρ x:=by
 obtain ⟨m,m1,m2,m3⟩:=zDX (ρ:=ρ) _ hx;obtain ⟨c,c1,c2,c3,_⟩:=LT h hk m1;obtain ⟨y,r,y1,y2,y3,y4,y5,y6⟩:=zFD hW c1 m1 c2 m2;have hy:y=m:=by
  apply GN;intro hne
  have:=(h.tr.e1 y m (by omega) m1 (by rw [y5,c2])).1
  have:=m3 y y4 y6
  omega
 refine ⟨c,c1,⟨by rw [y1];exact List.cons_ne_nil _ _,?_⟩,by rw [y2,hy];exact m3⟩;rw [y2,hy];intro d hd hne z r' hz;apply GN;intro hlt;have hzm:=hW.mem d hd z (by rw [hz];exact tK ..);obtain ⟨z1,z2,z3,z4⟩:=hzm;have hzn:z.toNat<evN l.Xa:=by omega
 obtain ⟨x,x1,x2,x3,x4⟩:=(hk.vs.2 m m1).v1 d hd _ (h.tr.ser _ hzn).1 (by omega);rcases x4 with x4 | x4
 ·exact hne (by rw [<- x2,x4])
 ·rcases DH x z.toNat with hh | hh | hh
  ·have:=(h.tr.e1 x _ hh hzn (by rw [x2,z3])).2;omega
  ·rw [hh] at x4
   have:=m3 _ hzn z4;omega
  ·have:=(h.tr.e1 _ x hh x1 (by rw [x2,z3])).1
   have:=m3 _ hzn z4;omega
structure Ord (l:z6) (k:vT) (j i:Nat):Prop where
 ne:j≠i
 ca:∀ c<l.Xc.Xd.length,tA l c=(idA l i).Xb->(k.Yg.getD j []).getD c 0<=(idA l i).Xf
 tm:(k.Xu.getD j default).Xk.Lo<=(k.Xu.getD i default).Xk.Hi
theorem zKA (h:Al l ρ τ T dm) (hk:Kn l ρ τ w k) (hW:Wt l (evN l.Xa) b W) {d:Nat} (hd:d<l.Xc.Xd.length) (hf:HF l k W d) (hm:∀ c<l.Xc.Xd.length,HF l k W c->LoH k W d<=LoH k W c) {i:Nat} (hi:i<evN l.Xa) (hb:b.getD i false=false) (hne:hdN W d≠i):Ord l k (hdN W d) i:=by
 obtain ⟨r,e1,e2,e3,e4⟩:=GB hW hd hf.1;refine ⟨hne,fun c hc ec=>?_,?_⟩
 ·obtain ⟨y,r',y1,y2,y3,y4,y5,y6⟩:=zFD hW hc hi ec hb
  by_cases hth:tA l c=(idA l (hdN W d)).Xb
  ·have hcd:c=d:=ZM h hc hd (by rw [hth,e3]);subst hcd;apply GN;intro hlt;have hji:hdN W c<i:=by omega
   obtain ⟨x,x1,x2,x3,x4⟩:=(hk.vs.2 _ e2).v1 c hc _ (h.tr.ser i hi).1 (by omega);have hs:=(h.tr.e1 _ i hji hi (by rw [<- e3,ec])).2;rcases x4 with x4 | x4
   ·rw [x4] at x3;omega
   ·rcases DH x (hdN W c) with hh | hh | hh
    ·have:=(h.tr.e1 x _ hh e2 (by rw [x2,e3])).2;omega
    ·rw [hh] at x4;omega
    ·have:=(h.tr.e1 _ x hh x1 (by rw [x2,e3])).1;omega
  ·have:=hf.2 c hc hth _ _ y1
   rw [wB] at this;rcases zlg y i with hh | hh
   ·have:=(h.tr.e1 y i hh hi (by rw [y5,ec])).2;omega
   ·rw [show y=i by omega] at this;exact this
 ·obtain ⟨c,c1,c2,c3⟩:=zCN h hk hW ⟨i,hi,hb⟩;obtain ⟨r',f1,f2,f3,f4⟩:=GB hW c1 c2.1;have a1:=hm c c1 c2;have a2:=hk.tm.iv _ f2;have a3:=h.mono _ f2 i hi (c3 i hi hb);have a4:=hk.tm.iv _ hi;unfold LoH at a1;unfold Iv at a2 a4;omega
def SU (l:z6) (k:vT) (out:List yO):Prop:=∃ s:List Nat,s.length=evN l.Xa/\out=s.map (fun i=>k.Xu.getD i default)/\(∀ x∈s,x<evN l.Xa)/\s.Pairwise (Ord l k)
theorem zIo (h:Al l ρ τ T dm) (hk:Kn l ρ τ w k) (hW:Wt l (evN l.Xa) (List.replicate (evN l.Xa) false) W):Ok (HK FF (k,0) FF 0 W []) fun o=>∃ r,o=.inl r/\SU l k r:=by
 have hn:=h.tr.n;have ht:=h.tr.thl;have hrl:=hk.tm.len;refine v9 (σ:=Nat×List (List Int)×List yO) (fun n s=>HK FF (k,0) n s.1 s.2.1 s.2.2)
  (fun s=>s.1<=evN l.Xa/\∃ (b:List Bool) (q:List Nat),b.length=evN l.Xa/\Wt l (evN l.Xa) b s.2.1/\b.count false+s.1=evN l.Xa/\q.length=s.1/\s.2.2=q.map (fun i=>k.Xu.getD i default)/\(∀ x∈q,x<evN l.Xa)/\q.Pairwise (Ord l k)/\∀ j∈q,∀ i<evN l.Xa,b.getD i false=false->Ord l k j i)
  _ (fun s=>evN l.Xa - s.1) ?_ (0,W,[]) ⟨wI _,List.replicate (evN l.Xa) false,[],k8,hW,by (simp only;rw [zA9];rfl),rfl,rfl,fun x hx=>(by cases hx),List.Pairwise.nil,fun j hj=>(by cases hj)⟩
 rintro n ⟨v,W,out⟩ ⟨h1,b,q,h2,h3,h4,h5,h6,h7,h8,h9⟩ ih;simp only at h1 h2 h3 h4 h5 h6 h7 h8 h9 ih ⊢;have hWl:=h3.len;show Ok (UU _ _ _ _ _ _) _;unfold UU;simp only;refine xV (fun hv=>?_) fun hv=>yB ⟨out,rfl,q,by omega,h6,h7,h8⟩
 have hex:∃ x<evN l.Xa,b.getD x false=false:=by
  have:0<b.count false:=by omega
  obtain ⟨x,hx⟩:=uG.mp (List.count_pos_iff.mp this);have hxl:=(vO.mp hx).1;exact ⟨x,by omega,getD_some hx⟩
 obtain ⟨c0,f1,f2,f3⟩:=zCN h hk h3 hex;refine yX (zJi h hk h3) ?_;rintro o (⟨_,g⟩ | ⟨d,d1,rfl,d3,d4⟩)
 ·exact absurd f2 (g c0 f1)
 obtain ⟨r,e1,e2,e3,e4⟩:=GB h3 d1 d3.1;refine xV (fun hlt=>by omega) fun _=>?_
 refine wO fun x10 hx10=>?_
 rw [wB] at hx10;have hx10:=(getD_some (d:=[]) hx10).symm;have hxl:=h3.rl d d1;rw [<- hx10] at hxl;rw [hx10,e1];refine vK (by omega) (by simp only [zlc];omega) fun x11 hx11=>?_
 have hx11:x11=(hdN W d:Int):=by simpa using hx11.symm
 rw [hx11];refine wO fun x12 hx12=>?_
 rw [wB] at hx12;have hx12:=(getD_some (d:=default) hx12).symm;refine wP (by rw [h6,vL,zls];omega) ?_;refine wO fun x13 hx13=>?_
 rw [wB] at hx13;have hx13:=(getD_some (d:=[]) hx13).symm;rw [hx13,e1];refine wP (by simp only [zlc];omega) (wO fun x14 hx14=>?_);rw [w5,wB,show sub ((hdN W d:Int)::r) 1 ((((hdN W d:Int)::r).length:Nat):Int)=r by unfold sub;rw [wB,CU];rfl];obtain ⟨c,c1,c2,c3,_⟩:=LT h hk e2;have hcd:=c3 d d1 e3;have hbg:b[hdN W d]?=some false:=by rw [jG false (by omega),e4]
 have hcnt:=zFk hbg;have hord:∀ i<evN l.Xa,b.getD i false=false->hdN W d≠i->Ord l k (hdN W d) i:=fun i hi hb hne=>zKA h hk h3 d1 d3 d4 hi hb hne
 refine ih (v+1,W.set d r,_) ⟨by simp only;omega,b.set (hdN W d) true,q++[hdN W d],by rw [kW];exact h2,zJP h3 d1 e1 (by omega) fun d' hd' e=>by rw [hcd];exact c3 d' hd' e,by simp only;omega,by simp only [zla,zls];omega,?_,fun x hx=>?_,?_,fun j hj i hi hbi=>?_⟩ (by simp only;omega)
 ·simp only;rw [h6,nH,hx12];rfl
 ·rcases wL.mp hx with hx | hx
  ·exact h7 x hx
  ·rw [uO.mp hx];exact e2
 ·rw [zAJ];exact ⟨h8,zA5 _ _,fun x hx y hy=>by rw [uO.mp hy];exact h9 x hx _ e2 e4⟩
 ·rw [qT (by omega)] at hbi
  split at hbi
  ·cases hbi
  ·rename_i hne
   rcases wL.mp hj with hj | hj
   ·exact h9 j hj i hi hbi
   ·rw [uO.mp hj];exact hord i hi hbi fun e=>hne e.symm
theorem zHe (h:Al l ρ τ T dm) (hs:bX FF l=some (w,0)) (hw:Wld l ρ w):Ok (HN FF l) fun r=>r.2=0/\∃ k,BT FF l=some (k,0)/\Kn l ρ τ w k/\SU l k r.1:=by
 have ht:=h.tr.thl;obtain ⟨⟨k,q⟩,hk,rfl,hk2⟩:=zMb h hs hw;simp only at hk2;unfold HN;rw [hk,zbs];simp only;rw [tV rfl,cond_false];refine wP (by omega) (yX (zLU h hk2) fun W hW=>wP hW.len (yX (zIo h hk2 hW) ?_));rintro _ ⟨r,rfl,hr⟩;exact yB ⟨rfl,k,rfl,hk2,hr⟩
theorem zKP (h:Al l ρ τ T dm) (hk:Kn l ρ τ w k):Ok (JI FF (k,0) FF 0 []) fun o=>∀ i<evN l.Xa,zV o (idA l i)=some (i:Int):=by
 have hn:=h.tr.n;have hrl:=hk.tm.len;have hil:(uE l.Xa).length=evN l.Xa:=rK _;refine v9 (σ:=Nat×List (xU×Int)) (fun n s=>JI FF (k,0) n s.1 s.2)
  (fun s=>s.1<=evN l.Xa/\s.2.length<=s.1/\∀ c<s.1,zV s.2 (idA l c)=some (c:Int)) _ (fun s=>evN l.Xa - s.1) ?_ (0,[]) ⟨wI _,yI _,fun c hc=>by simp only at hc;omega⟩
 rintro n ⟨i,o⟩ ⟨h1,h2,h3⟩ ih;simp only at h1 h2 h3 ih ⊢;show Ok (XW _ _ _ _ _) _;unfold XW;simp only;refine xV (fun hi=>?_) fun hi=>yB fun c hc=>h3 c (by omega)
 refine vK (by omega) hi fun x hx=>wP (by omega) ?_
 rw [wB] at hx;have hx:=(getD_some (d:=default) hx).symm;rw [w5,hx,hk.tm.id i (by omega)]
 have:=dG o (idA l i) (i:Int)
 refine ih (i+1,_) ⟨by simp only;omega,by simp only;omega,fun c hc=>?_⟩ (by simp only;omega);simp only at hc ⊢;rw [dJ];rcases zlg c i with hh | hh
 ·rw [if_neg fun e=>TU (d:=default) h.tr.nd hh (by omega) e.symm];exact h3 c hh
 ·rw [show c=i by omega,if_pos rfl]
theorem zJU {a b:wZ} (h:b.Lo<=a.Hi):Ok (M4 a b) fun r=>r=false:=by
 have hv:∀ x:wZ,∃ r,C8 x=some r:=fun x=>by
  unfold C8 dY
  by_cases h1:x.Lo<=x.Hi
  ·rw [wE h1,cond_true];simp only [zbs];cases decide (x.Lo >= -1000000000000000)&&decide (x.Lo<=1000000000000000)<;>exact ⟨_,rfl⟩
  ·rw [xN h1,cond_false];exact ⟨_,rfl⟩
 obtain ⟨r1,e1⟩:=hv a;obtain ⟨r2,e2⟩:=hv b;unfold M4;rw [e1,e2,zbs,zbs,xN (by omega)];cases r1<;>cases r2<;>exact yB rfl
theorem zJ0 (h:Al l ρ τ T dm) (hk:Kn l ρ τ w k) {i j:Nat} (hi:i<evN l.Xa) (hj:j<evN l.Xa) (ho:Ord l k j i):Ok (OJ k (i:Int) (j:Int)) fun r=>r=false:=by
 have hn:=h.tr.n;have ht:=h.tr.thl;have hrl:=hk.tm.len;have hvl:=hk.vs.1;unfold OJ;refine wO fun x hx=>?_
 rw [wB] at hx;have hx:=(getD_some (d:=default) hx).symm;obtain ⟨c,c1,c2,c3,c4⟩:=LT h hk hi;rw [hx,hk.tm.id i hi,c4];refine yX (P:=fun r=>r=false) (vZ (fun _=>?_) fun _=>yB rfl) fun r hr=>yB hr
 refine wO fun y hy=>?_
 rw [wB] at hy;have hy:=(getD_some (d:=[]) hy).symm;have hyl:=(hk.vs.2 j hj).len;rw [<- hy] at hyl;refine wO fun z hz=>yB ?_
 rw [wB] at hz;have hz:=(getD_some (d:=0) hz).symm
 have:=ho.ca c c1 c2
 rw [hz,hy,xN (by omega)]
theorem zOu (h:Al l ρ τ T dm) (hst:∀ i<evN l.Xa,(eA l i).Xs.length<=140737488355328) (hk:Kn l ρ τ w k) (hkn:BT FF l=some (k,0)) {out:List yO} (ho:SU l k out):LI FF l out=some true:=by
 have hn:=h.tr.n;have hrl:=hk.tm.len;obtain ⟨s,hsl,rfl,hs1,hs2⟩:=ho
 suffices hOk:Ok (LI FF l (s.map fun i=>k.Xu.getD i default)) fun r=>r=true by
  obtain ⟨_,e,rfl⟩:=hOk;exact e
 have hget:∀ {v:Nat},v<evN l.Xa->∃ i,s[v]?=some i/\i<evN l.Xa:=fun {v} hv=>by
  refine ⟨s.getD v 0,jG 0 (by omega),?_⟩;exact hs1 _ (yN (jG 0 (by omega)))
 unfold LI;rw [hkn,zbs];simp only;rw [tV rfl,tV (by rw [vL];omega),D6,cond_false];refine yX (zKP h hk) fun o hm=>?_
 refine yX (P:=fun q:Unit⊕Bool=>q=.inl ()) ?_ (by rintro _ rfl;exact yB rfl);refine v9 (σ:=Nat×List Int) (fun n q=>OE FF (s.map fun i=>k.Xu.getD i default) (k,0) o n q.1 q.2)
  (fun q=>q.1<=evN l.Xa/\q.2=(s.take q.1).map (fun i:Nat=>(i:Int))) _ (fun q=>evN l.Xa - q.1) ?_ (0,[]) ⟨wI _,rfl⟩
 rintro n ⟨v,seen⟩ ⟨h1,h2⟩ ih;simp only at h1 h2 ih ⊢;have hsn:seen.length=v:=by rw [h2,vL,nL];omega
 show Ok (TQ _ _ _ _ _ _ _) _;unfold TQ;rw [vL];refine xV (fun hv=>?_) fun hv=>yB rfl
 refine vK (by omega) (by rw [vL];exact hv) fun x hx=>?_
 obtain ⟨i,hi1,hi2⟩:=hget (v:=v) (by omega);rw [wB,vD,hi1] at hx;have hx:x=k.Xu.getD i default:=by injection hx with hx;exact hx.symm
 have hid:x.Id=idA l i:=by rw [hx];exact hk.tm.id i hi2
 have hev:x.Xo=eA l i:=by rw [hx];exact hk.tm.ev i hi2
 rw [hid,hm i hi2,jE,U8,cO,cond_false];refine yX (P:=fun p=>p=false) ?_ ?_
 ·simp only;refine wO fun x3 hx3=>?_
  rw [wB] at hx3;have hx3:x3=x:=by rw [hx];exact (getD_some (d:=default) hx3).symm
  rw [hx3,wE rfl,cO,cond_false];refine wO fun x4 hx4=>?_
  rw [wB] at hx4;have hx4:x4=x:=by rw [hx];exact (getD_some (d:=default) hx4).symm
  rw [hx4];refine pU (show EK FF _ _=_ from zDB (by rw [hev];exact hst i hi2)) (yB ?_);rw [wE rfl];rfl
 rintro _ rfl;rw [cond_false];refine yX (P:=fun q:Unit⊕Bool=>q=.inl ()) ?_ ?_
 ·refine v9 (σ:=Nat) (fun n q=>RS FF (k,0) o seen x n q) (fun q=>q<=v) _ (fun q=>v - q) ?_ 0 (wI _);rintro n p hp ih2;show Ok (YE _ _ _ _ _ _ _) _;unfold YE;refine xV (fun hlt=>?_) fun _=>yB rfl
  have hpv:p<v:=by omega
  refine vK (by omega) hlt fun x5 hx5=>?_
  obtain ⟨j,hj1,hj2⟩:=hget (v:=p) (by omega);have hx5:x5=(j:Int):=by
   rw [wB,h2,vD,LW hpv,hj1] at hx5;injection hx5 with hx5;exact hx5.symm
  have hord:Ord l k j i:=by
   have:=BI.mp hs2 p v (by omega) (by omega) hpv
   rw [(vO.mp hj1).2,(vO.mp hi1).2] at this;exact this
  rw [hx5,hid,hm i hi2,jE];refine yX (P:=fun p=>p=false) ?_ ?_
  ·rw [nK (fun e=>hord.ne (by omega)),cond_false];refine yX (zJ0 h hk hi2 hj2 hord) ?_;rintro _ rfl;rw [cond_false];refine vK (by omega) (by simp only;omega) fun x6 hx6=>?_
   rw [wB] at hx6;have hx6:=(getD_some (d:=default) hx6).symm;refine yX (zJU (by rw [hx6,hx];exact hord.tm)) fun r hr=>yB hr
  ·rintro _ rfl;rw [cond_false,w5];exact ih2 (p+1) hpv (by omega)
 ·rintro _ rfl;simp only;refine wP (by rw [zls];omega) ?_;rw [w5];refine ih (v+1,_) ⟨by simp only;omega,?_⟩ (by simp only;omega);simp only;rw [nM,hi1,nH,h2];rfl
end
end Go.Ab
