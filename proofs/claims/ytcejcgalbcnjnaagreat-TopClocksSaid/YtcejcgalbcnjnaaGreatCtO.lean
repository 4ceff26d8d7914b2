/- Lemmas. No conditions but those that they name. -/
import Derived.Test.YtcejcgalbcnjnaaGreatCtJ2
namespace Go.Ab
open Go
set_option linter.unusedVariables false
structure Al (l:z6) (ρ:Nat->Int) (τ:Nat->Int) (T:Int->Int->Int) (dm:Int->Int):Prop where
 tr:Tr l ρ
 tnd:(l.Xc.Xd.map (·.Id)).Nodup
 dmt:∀ t∈l.Xc.Xd,dm t.Id=t.Xx
 pth:∀ p∈l.Xa,∃ t∈l.Xc.Xd,t.Id=p.Xb
 bd:∀ p∈l.Xa,∀ e∈p.Xe,Bd l.Xc.Xi l.Xc.Xl T (dm p.Xb) e.At
 tau:∀ i<evN l.Xa,τ i=T (dm (idA l i).Xb) (eA l i).At
 mono:∀ i<evN l.Xa,∀ j<evN l.Xa,ρ i<=ρ j->τ i<=τ j
def Iv (t:Int) (w:wZ):Prop:=w.Lo<=t/\t<=w.Hi /\ -1000000000000000<=w.Lo/\w.Hi<=1000000000000000
section
variable {l:z6} {ρ τ:Nat->Int} {T:Int->Int->Int} {dm:Int->Int}
theorem zJe (h:Al l ρ τ T dm):Ok (KE FF l FF 0 []) fun o=>∀ t∈l.Xc.Xd,zV o t.Id=some t.Xx:=by
 have hn:=h.tr.thl;refine v9 (σ:=Nat×List (Int×Int)) (fun n s=>KE FF l n s.1 s.2)
  (fun s=>s.1<=l.Xc.Xd.length/\s.2.length<=s.1/\∀ t∈l.Xc.Xd.take s.1,zV s.2 t.Id=some t.Xx) _ (fun s=>l.Xc.Xd.length - s.1) ?_ (0,[]) ⟨wI _,yI _,fun t ht=>by simp at ht⟩
 rintro n ⟨i,o⟩ ⟨h1,h2,h3⟩ ih;simp only at h1 h2 h3 ih ⊢;show Ok (UZ _ _ _ _ _) _;unfold UZ;refine xV (fun hi=>?_) fun hi=>yB (by rw [kC (by omega)] at h3;exact h3)
 refine vK (by omega) hi fun x hx=>wP (by omega) ?_
 rw [wB] at hx;rw [w5]
 have:=dG o x.Id x.Xx
 refine ih (i+1,_) ⟨by simp only;omega,by simp only;omega,fun t ht=>?_⟩ (by simp only;omega);simp only at ht ⊢;rw [nM,hx,wL] at ht;rw [dJ];rcases ht with ht | ht
 ·rw [if_neg fun e=>?_]
  ·exact h3 t ht
  ·obtain ⟨j,hj⟩:=uG.mp ht;have hjl:=(vO.mp hj).1;rw [nL] at hjl;rw [LW (by omega)] at hj
   have:=TU (d:=0) h.tnd (i:=j) (j:=i) (by omega) (by rw [vL];omega)
   rw [vQ,vQ,vD,vD,hj,hx] at this;exact this e.symm
 ·simp at ht;subst ht;rw [if_pos rfl]
def Cch (T:Int->Int->Int) (m:List (jD×wZ)):Prop:=∀ k w,zV m k=some w->Iv (T k.c0 k.c1) w
theorem zHC (h:Al l ρ τ T dm) {o:List (Int×Int)} (ho:∀ t∈l.Xc.Xd,zV o t.Id=some t.Xx) {x:zO} (hx:x∈l.Xa) {m0:List (jD×wZ)} {r0:List yO} (hm:Cch T m0) (hml:m0.length<=r0.length) (hrl:r0.length+x.Xe.length<=32)
  (hr:∀ t∈r0,Iv (T (dm t.Id.Xb) t.Xo.At) t.Xk):Ok (K4 FF l o x FF 0 m0 r0) fun q=>∃ m r,q=.inl (m,r)/\Cch T m/\m.length<=r.length/\r.map (·.Id)=r0.map (·.Id)++bQ x/\r.map (·.Xo)=r0.map (·.Xo)++x.Xe/\∀ t∈r,Iv (T (dm t.Id.Xb) t.Xo.At) t.Xk:=by
 obtain ⟨t,ht,et⟩:=h.pth x hx;have hdm:(zV o x.Xb).getD 0=dm x.Xb:=by rw [<- et,ho t ht,h.dmt t ht];rfl
 have hpz:=lJ ((YT h.tr.chk).2.1.passed.valids x hx);have hidl:(bQ x).length=x.Xe.length:=by unfold bQ;rw [vL,rQ]
 refine v9 (σ:=Nat×List (jD×wZ)×List yO) (fun n s=>K4 FF l o x n s.1 s.2.1 s.2.2)
  (fun s=>s.1<=x.Xe.length/\Cch T s.2.1/\s.2.1.length<=s.2.2.length/\s.2.2.length=r0.length+s.1/\s.2.2.map (·.Id)=r0.map (·.Id)++(bQ x).take s.1/\s.2.2.map (·.Xo)=r0.map (·.Xo)++x.Xe.take s.1/\∀ t∈s.2.2,Iv (T (dm t.Id.Xb) t.Xo.At) t.Xk)
  _ (fun s=>x.Xe.length - s.1) ?_ (0,m0,r0) ⟨wI _,hm,hml,by simp only;omega,by simp,by simp,hr⟩
 rintro n ⟨i,m,r⟩ ⟨h1,h2,h3,h4,h5,h6,h7⟩ ih;simp only at h1 h2 h3 h4 h5 h6 h7 ih ⊢;show Ok (TS _ _ _ _ _ _ _ _) _;unfold TS;rw [hdm];refine xV (fun hi=>?_) fun hi=>yB ⟨m,r,rfl,h2,h3,by rw [h5,kC (by omega)],by rw [h6,kC (by omega)],h7⟩
 refine vK (by omega) hi fun e he=>?_
 rw [wB] at he;have hbd:=h.bd x hx e (yN he);refine yX (P:=fun q:(List (jD×wZ)×Int×Int)⊕(List yO×Int)=>∃ m' lo hi,q=.inl (m',lo,hi)/\Cch T m'/\m'.length<=r.length+1/\Iv (T (dm x.Xb) e.At) ⟨lo,hi⟩) ?_ ?_
 ·cases hk:zV m ⟨dm x.Xb,e.At⟩ with
  | some w =>
   rw [U8,cO,cond_false,jE];exact yB ⟨m,w.Lo,w.Hi,rfl,h2,by omega,h2 _ _ hk⟩
  | none =>
   rw [Option.isSome_none,Bool.not_false,cond_true];refine yX (zK9 hbd) ?_;rintro ⟨w,q⟩ ⟨a1,a2,a3,a4,a5⟩;simp only at a1 a2 a3 a4 a5 ⊢;rw [tV a1,cond_false]
   have:=dG m ⟨dm x.Xb,e.At⟩ w
   refine wP (by omega) (yB ⟨_,w.Lo,w.Hi,rfl,fun k w' hk'=>?_,by omega,⟨a2,a3,a4,a5⟩⟩);rw [dJ] at hk'
   split at hk'
   ·rename_i e1
    injection hk' with hk';rw [<- e1,<- hk'];exact ⟨a2,a3,a4,a5⟩
   ·exact h2 k w' hk'
 ·rintro _ ⟨m',lo,hi_,rfl,b1,b2,b3⟩;simp only;rw [w5,w64 (x:=x.Xf+(i:Int)) (by omega) (by omega)];refine wP (by rw [zls];omega) (ih (i+1,m',_) ⟨by simp only;omega,b1,by simp only [zla,zls];omega,by simp only [zla,zls];omega,?_,?_,fun t ht=>?_⟩ (by simp only;omega))
  ·simp only
   have:(bQ x)[i]?=some ⟨x.Xb,x.Xf+(i:Int)⟩:=by
    unfold bQ;rw [vD,DJ (by omega)];rfl
   rw [nH,h5,nM,this,oT];rfl
  ·simp only;rw [nH,h6,nM,he,oT];rfl
  ·simp only at ht;rcases wL.mp ht with ht | ht
   ·exact h7 t ht
   ·simp at ht;subst ht;exact b3
structure Tm (l:z6) (τ:Nat->Int) (r:List yO):Prop where
 len:r.length=evN l.Xa
 id:∀ i<evN l.Xa,(r.getD i default).Id=idA l i
 ev:∀ i<evN l.Xa,(r.getD i default).Xo=eA l i
 iv:∀ i<evN l.Xa,Iv (τ i) (r.getD i default).Xk
theorem zOf (h:Al l ρ τ T dm):Ok (QM FF l) fun r=>r.2=0/\Tm l τ r.1:=by
 have hN:=h.tr.n;have hpl:=h.tr.small.len;unfold QM XF;refine yX (P:=fun q:Int=>q=0) ?_ ?_
 ·refine yX (zDr h.tr) fun r hr=>?_
  rw [hr.1,tV rfl];exact yB rfl
 rintro _ rfl;rw [tV rfl,cond_false];refine yX (zJe h) fun o ho=>?_
 refine yX (P:=fun q:List yO⊕(List yO×Int)=>∃ r,q=.inl r/\r.map (·.Id)=uE l.Xa/\r.map (·.Xo)=evL l.Xa/\∀ t∈r,Iv (T (dm t.Id.Xb) t.Xo.At) t.Xk) ?_ ?_
 ·refine v9 (σ:=Nat×List (jD×wZ)×List yO) (fun n s=>ND FF l o n s.1 s.2.1 s.2.2)
   (fun s=>s.1<=l.Xa.length/\Cch T s.2.1/\s.2.1.length<=s.2.2.length/\s.2.2.map (·.Id)=uE (l.Xa.take s.1)/\s.2.2.map (·.Xo)=evL (l.Xa.take s.1)/\∀ t∈s.2.2,Iv (T (dm t.Id.Xb) t.Xo.At) t.Xk)
   _ (fun s=>l.Xa.length - s.1) ?_ (0,[],[]) ⟨wI _,fun k w hk=>by (cases hk),yI _,rfl,rfl,fun t ht=>by (cases ht)⟩
  rintro n ⟨i,m,r⟩ ⟨h1,h2,h3,h4,h5,h6⟩ ih;simp only at h1 h2 h3 h4 h5 h6 ih ⊢;show Ok (TD _ _ _ _ _ _ _) _;unfold TD;refine xV (fun hi=>?_) fun hi=>yB ⟨r,rfl,by rw [h4,kC (by omega)],by rw [h5,kC (by omega)],h6⟩
  refine vK (by omega) hi fun x hx=>?_
  rw [wB] at hx;have hxm:=yN hx;have e1:l.Xa.take (i+1)=l.Xa.take i++[x]:=by rw [nM,hx];rfl
  have hrl:r.length+x.Xe.length<=32:=by
   have a1:=RA l.Xa (i+1);rw [e1,XY] at a1;have a2:=congrArg List.length h5;rw [vL,LH] at a2;omega
  refine yX (zHC h ho hxm h2 h3 hrl h6) ?_;rintro _ ⟨m',r',rfl,b1,b2,b3,b4,b5⟩;simp only;rw [w5];refine ih (i+1,m',r') ⟨by simp only;omega,b1,b2,?_,?_,b5⟩ (by simp only;omega)
  ·simp only;rw [e1,b3,h4];simp [uE]
  ·simp only;rw [e1,b4,h5];simp [evL]
 ·rintro _ ⟨r,rfl,a1,a2,a3⟩;have hl:r.length=evN l.Xa:=by have:=congrArg List.length a2;rw [vL,LH] at this;exact this
  have hid:∀ i<evN l.Xa,(r.getD i default).Id=idA l i:=fun i hi=>by
   have e:=congrArg (fun l=>l[i]?) a1;simp only [vD] at e;rw [jG default (by omega)] at e;unfold idA;rw [getD_some e.symm]
  have hev:∀ i<evN l.Xa,(r.getD i default).Xo=eA l i:=fun i hi=>by
   have e:=congrArg (fun l=>l[i]?) a2;simp only [vD] at e;rw [jG default (by omega)] at e;unfold eA;rw [getD_some e.symm]
  refine yB ⟨rfl,hl,hid,hev,fun i hi=>?_⟩
  have:=a3 _ (yN (jG default (show i<r.length by omega)))
  rw [hid i hi,hev i hi,<- h.tau i hi] at this;exact this
end
end Go.Ab
