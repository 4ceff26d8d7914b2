/- Lemmas. No conditions but those that they name. -/
import Derived.Test.YtcejcgalbcnjnaaGreatCtI
namespace Go.Ab
open Go
set_option linter.unusedVariables false
def tri:Nat->Nat
 | 0=>0
 | n+1=>tri n+3 * n+3
theorem zFr {a b:Nat} (h:a<=b):tri a<=tri b:=by
 induction b with
 | zero=>rw [show a=0 by omega];exact yI _
 | succ b ih =>
  rcases zlg a (b+1) with h2 | h2
  ·have:=ih (by omega);show _<=tri b+3 * b+3;omega
  ·rw [show a=b+1 by omega];exact yI _
structure Don (m:qO) (es:List xD) (x:Int) (P:Int->Prop):Prop where
 z:x=0->∀ p,P p->∀ back,GF back m es ⟨0,p⟩
 t:x≠0->∀ p q,P p->P q->p≠q->lH m es x p q
theorem Don.ext {m m':qO} {es es':List xD} {x:Int} {P:Int->Prop} (h:Don m es x P) (hx:pW m es m' es'):Don m' es' x P :=
 ⟨fun h0 p hp b=>(h.z h0 p hp b).ext hx,fun h0 p q hp hq hpq=>(h.t h0 p q hp hq hpq).ext hx⟩
theorem lH.symm {m:qO} {es:List xD} {dom p q:Int} (h:lH m es dom p q):lH m es dom q p:=fun b=>⟨(h b).2,(h b).1⟩
section
variable {T:Int->Int->Int}
theorem zLa (hT0:∀ x,T 0 x=x) {x:yW} {o r:List Int} {m0:qO} {es0:List xD} {N:Nat} (hT:x.Id≠0->Cl T x.Id x.Xt) (hp:0<=x.Xt/\x.Xt<=10000) (hl:∀ y∈r,0<=y/\y<=10000000/\(x.Id≠0->y<=1000000)) (hs:r.Pairwise (·<=·)) (hor:o.length=r.length) (hrl:r.length<=25)
  (h:Gr T m0 es0 N) (hN:N<=50000) :
  Ok (K8 FF x o r FF 0 m0 es0) fun q=>Gr T q.1 q.2 (N+975)/\pW m0 es0 q.1 q.2/\Don q.1 q.2 x.Id (·∈r):=by
 have ht25:tri 25=975:=by decide
 refine v9 (σ:=Nat×qO×List xD) (fun n s=>K8 FF x o r n s.1 s.2.1 s.2.2)
  (fun s=>s.1<=r.length/\Gr T s.2.1 s.2.2 (N+tri s.1)/\pW m0 es0 s.2.1 s.2.2/\(x.Id=0->∀ j<s.1,∀ back,GF back s.2.1 s.2.2 ⟨0,r.getD j 0⟩)/\(x.Id≠0->∀ j<s.1,∀ i<j,lH s.2.1 s.2.2 x.Id (r.getD i 0) (r.getD j 0))) _ (fun s=>r.length - s.1) ?_ (0,m0,es0)
  ⟨wI _,h,.refl _ _,fun _ j hj=>by simp only at hj;omega,fun _ j hj=>by simp only at hj;omega⟩
 rintro n ⟨v,m,es⟩ ⟨h1,h2,h3,h4,h5⟩ ih;simp only at h1 h2 h3 h4 h5 ih ⊢;have htv:=zFr (show v<=25 by omega);show Ok (V1 _ _ _ _ _ _ _ _) _;unfold V1;refine xV (fun hi=>?_) fun hi=>yB ?_
 ·have hv:v<r.length:=by omega
  have htv1:=zFr (show v+1<=25 by omega);have htv2:tri (v+1)=tri v+3 * v+3:=rfl;refine wO fun x2 hx2=>?_
  rw [wB] at hx2;have m2:=hl x2 (yN hx2);refine yX (R6 h2 (by omega) x.Id x2) ?_;rintro ⟨k,m'⟩ ⟨n1,n2,n3⟩;simp only at n1 n2 n3 ⊢;rw [w5];obtain ⟨a1,a2,a3⟩:=n1.get n3;have hsz:=n1.size
  by_cases hz:x.Id=0
  ·rw [qN hz,cond_true,zEG (by omega) _ _ (by simp only;omega),zbs];simp only at a3;rw [hz,hT0] at a3;have p0:piG T m' 0=0:=if_pos rfl;obtain ⟨c1,c2⟩:=n1.add (e1:=⟨0,k,x2⟩) (e2:=⟨k,0, -x2⟩) (by simp only;omega) (by simp only;omega) (by simp only;rw [a3,p0];omega) (by simp only;rw [a3,p0];omega);refine ih (v+1,m',_) ⟨by simp only;omega,c1.mono (by simp only;omega),(h3.trans n2).trans c2,fun _ j hj back=>?_,fun hnz=>absurd hz hnz⟩ (by simp only;omega);simp only at hj ⊢;rcases zlg j v with hh | hh
   ·exact (h4 hz j hh back).ext (n2.trans c2)
   ·rw [show j=v by omega,getD_some hx2];have q1:(⟨0,k,x2⟩:xD)∈es++[⟨0,k,x2⟩,⟨k,0, -x2⟩]:=bT _ (by simp);have q2:(⟨k,0, -x2⟩:xD)∈es++[⟨0,k,x2⟩,⟨k,0, -x2⟩]:=bT _ (by simp);rw [hz] at n3;cases back
    ·exact ⟨k,n3,_,q1,rfl,rfl⟩
    ·exact ⟨k,n3,_,q2,rfl,rfl⟩
  ·rw [nK hz,cond_false];refine wP (by omega) ?_;refine yX (zKS (hT hz) hp (fun y hy=>⟨(hl y hy).1,(hl y hy).2.2 hz⟩) hs hv hx2 (by omega) (r5:=(k,m')) n1 (by omega) n3) ?_;rintro ⟨m3,es3⟩ ⟨d1,d2,d3⟩;simp only at d1 d2 d3 ⊢;refine ih (v+1,m3,es3) ⟨by simp only;omega,d1.mono (by simp only;omega),(h3.trans n2).trans d2,fun h0=>absurd h0 hz,fun _ j hj i hij=>?_⟩ (by simp only;omega);simp only at hj ⊢;rcases zlg j v with hh | hh
   ·exact (h5 hz j hh i hij).ext (n2.trans d2)
   ·have e:j=v:=by omega
    subst e;rw [getD_some hx2];exact d3 i hij
 ·have e:v=r.length:=by omega
  refine ⟨h2.mono (by omega),h3,fun h0 p hp back=>?_,fun h0 p q hp hq hpq=>?_⟩
  ·obtain ⟨i,hi⟩:=uG.mp hp
   have:=h4 h0 i (by rw [e];exact (vO.mp hi).1) back
   rw [getD_some hi] at this;exact this
  ·obtain ⟨i,hi⟩:=uG.mp hp;obtain ⟨j,hj⟩:=uG.mp hq;have il:=(vO.mp hi).1;have jl:=(vO.mp hj).1;rcases DH i j with hij | hij | hij
   ·have:=h5 h0 j (by omega) i hij
    rw [getD_some hi,getD_some hj] at this;exact this
   ·subst hij;rw [hi] at hj;injection hj with hj;exact absurd hj hpq
   ·have:=h5 h0 i (by omega) j hij
    rw [getD_some hi,getD_some hj] at this;exact this.symm
structure Bd (d:List yW) (l:List xO) (T:Int->Int->Int) (id a:Int):Prop where
 dl:d.length<=5
 d0:d≠[]
 ll:l.length<=8
 chk:AB d l=0
 t0:∀ x,T 0 x=x
 dom:∀ x∈d,0<=x.Xt/\x.Xt<=10000/\(x.Id≠0->Cl T x.Id x.Xt)
 sn:∀ s∈l,s.B=0/\s.A≠0/\0<=s.Xw/\s.Xw<=1000000/\0<=s.Xp.Lo/\s.Xp.Lo<=T s.A s.Xw/\T s.A s.Xw<=s.Xp.Hi/\s.Xp.Hi<=10000000
 at0:0<=a/\a<=1000000
 z:∃ x∈d,x.Id=0
 hid:∃ x∈d,x.Id=id
 lk:id=0\/∃ s∈l,s.A=id
variable {d:List yW} {l:List xO} {id a:Int}
def HL (l:List xO) (id a x p:Int):Prop:=CR l x p\/(x=id/\p=a)
theorem zHR (h:Bd d l T id a):Ok (HG FF d l id a FF 0 [] []) fun q=>Gr T q.1 q.2 4875/\∀ x∈d,Don q.1 q.2 x.Id (HL l id a x.Id):=by
 have hdl:=h.dl;have hll:=h.ll;refine v9 (σ:=Nat×qO×List xD) (fun n s=>HG FF d l id a n s.1 s.2.1 s.2.2)
  (fun s=>s.1<=d.length/\Gr T s.2.1 s.2.2 (975 * s.1)/\∀ x∈d.take s.1,Don s.2.1 s.2.2 x.Id (HL l id a x.Id)) _ (fun s=>d.length - s.1) ?_ (0,[],[])
  ⟨wI _,⟨fun i hi=>by (simp at hi),fun e he=>by (cases he),fun e he=>by (cases he),yI _⟩,fun x hx=>by simp at hx⟩
 rintro n ⟨v,m,es⟩ ⟨h1,h2,h3⟩ ih;simp only at h1 h2 h3 ih ⊢;show Ok (UQ _ _ _ _ _ _ _ _ _) _;unfold UQ;refine xV (fun hi=>?_) fun hi=>yB ⟨h2.mono (by omega),by rw [kC (by omega)] at h3;exact h3⟩
 refine vK (by omega) hi fun x hx=>?_
 rw [wB] at hx;have hxd:=yN hx;refine yX (zLM (by omega) x.Id) fun r1 hr1=>?_
 obtain ⟨p1,p2⟩:=hr1;refine yX (P:=fun b=>b=decide (x.Id=id/\a∉r1)) ?_ ?_
 ·by_cases e:x.Id=id
  ·rw [qN e,cond_true];refine yX (zIa (by omega) a) ?_;rintro _ rfl;refine yB ?_;simp [e]
  ·rw [nK e,cond_false];exact yB (by simp [e])
 rintro _ rfl;refine yX (P:=fun o=>o.length<=25/\∀ p,p∈o↔HL l id a x.Id p) ?_ fun o ho=>?_
 ·refine xV (fun e=>?_) fun e=>yB ⟨by omega,fun p=>?_⟩
  ·unfold LQ;rw [tB (by simp only [fC];omega),zbs,zbs];refine wP (by simp only [fC,zla,zls,zlc];omega) (yB ⟨by simp only [zla,zls,fC,zlc];omega,fun p=>?_⟩);unfold HL;simp only [EO,wL,uO,p2,e.1,true_and]
  ·unfold HL;rw [p2];refine ⟨.inl,fun hh=>hh.elim (fun h=>h) fun hh=>?_⟩
   by_cases e2:a∈r1
   ·rw [hh.2];exact (p2 a).mp e2
   ·exact absurd ⟨hh.1,e2⟩ e
 obtain ⟨o1,o2⟩:=ho;have hsl:=MK o;unfold slices_Sort_int;rw [tB (by omega),zbs,zbs];refine wP hsl ?_;have hd:=h.dom x hxd;have ha:=h.at0;refine yX (zLa h.t0 (x:=x) (o:=o) (r:=pM o) hd.2.2 ⟨hd.1,hd.2.1⟩ (fun y hy=>?_) (zIY o) hsl.symm (by omega) h2 (by omega)) ?_
 ·have hy:=(o2 y).mp ((G8 o y).mp hy);rcases hy with ⟨s,hs,(⟨e1,e2⟩ | ⟨e1,e2⟩)⟩ | ⟨e1,e2⟩
  ·have:=h.sn s hs
   exact ⟨by omega,by omega,fun _=>by omega⟩
  ·have:=h.sn s hs
   exact ⟨by omega,by omega,fun _=>by omega⟩
  ·exact ⟨by omega,by omega,fun _=>by omega⟩
 rintro ⟨m',es'⟩ ⟨g1,g2,g3⟩;simp only at g1 g2 g3 ⊢;rw [w5];refine ih (v+1,m',es') ⟨by simp only;omega,g1.mono (by simp only;omega),fun y hy=>?_⟩ (by simp only;omega);simp only at hy ⊢;rw [nM,hx,wL] at hy;have hiff:∀ p,p∈pM o↔HL l id a x.Id p:=fun p=>(G8 o p).trans (o2 p)
 rcases hy with hy | hy
 ·exact (h3 y hy).ext g2
 ·simp at hy;subst hy;exact ⟨fun h0 p hp=>g3.z h0 p ((hiff p).mpr hp),fun h0 p q hp hq=>g3.t h0 p q ((hiff p).mpr hp) ((hiff q).mpr hq)⟩
theorem zOP (h:Bd d l T id a) {m0:qO} {es0:List xD} (hg:Gr T m0 es0 4875):Ok (HC FF l FF 0 m0 es0) fun q=>Gr T q.1 q.2 6000/\pW m0 es0 q.1 q.2/\∀ s∈l,Arc false q.1 q.2 ⟨0,s.Xp.Hi⟩ ⟨s.A,s.Xw⟩/\Arc true q.1 q.2 ⟨0,s.Xp.Lo⟩ ⟨s.A,s.Xw⟩:=by
 have hll:=h.ll;refine v9 (σ:=Nat×qO×List xD) (fun n s=>HC FF l n s.1 s.2.1 s.2.2)
  (fun s=>s.1<=l.length/\Gr T s.2.1 s.2.2 (4875+5 * s.1)/\pW m0 es0 s.2.1 s.2.2/\∀ t∈l.take s.1,Arc false s.2.1 s.2.2 ⟨0,t.Xp.Hi⟩ ⟨t.A,t.Xw⟩/\Arc true s.2.1 s.2.2 ⟨0,t.Xp.Lo⟩ ⟨t.A,t.Xw⟩) _ (fun s=>l.length - s.1) ?_ (0,m0,es0)
  ⟨wI _,hg,.refl _ _,fun x hx=>by simp at hx⟩
 rintro n ⟨v,m,es⟩ ⟨h1,h2,h3,h4⟩ ih;simp only at h1 h2 h3 h4 ih ⊢;show Ok (UN _ _ _ _ _ _) _;unfold UN;refine xV (fun hi=>?_) fun hi=>yB ⟨h2.mono (by omega),h3,by rw [kC (by omega)] at h4;exact h4⟩
 refine vK (by omega) hi fun s hs=>?_
 rw [wB] at hs;obtain ⟨s1,s2,s3,s4,s5,s6,s7,s8⟩:=h.sn s (yN hs);refine yX (R6 h2 (by omega) s.A s.Xw) ?_;rintro ⟨k1,m1⟩ ⟨a1,a2,a3⟩;simp only at a1 a2 a3 ⊢;refine yX (R6 a1 (by omega) s.B s.Xp.Lo) ?_;rintro ⟨k2,m2⟩ ⟨b1,b2,b3⟩;simp only at b1 b2 b3 ⊢;refine yX (R6 b1 (by omega) s.B s.Xp.Hi) ?_;rintro ⟨k3,m3⟩ ⟨c1,c2,c3⟩;simp only at c1 c2 c3 ⊢;have hsz:=c1.size;refine wP (by simp only [zlc,fC];omega) ?_;rw [w5];have g1:=(b2.trans c2).get a3;have g2:=c2.get b3;rw [s1] at g2 c3;obtain ⟨e1,e2,e3⟩:=c1.get g1;obtain ⟨f1,f2,f3⟩:=c1.get g2;obtain ⟨i1,i2,i3⟩:=c1.get c3;simp only [h.t0] at e3 f3 i3;obtain ⟨j1,j2⟩:=c1.add (e1:=⟨k1,k2,0⟩) (e2:=⟨k3,k1,0⟩) (by simp only;omega) (by simp only;omega) (by simp only;rw [e3,f3];omega) (by simp only;rw [e3,i3];omega);refine ih (v+1,m3,_) ⟨by simp only;omega,j1.mono (by simp only;omega),((h3.trans a2).trans (b2.trans c2)).trans j2,fun t ht=>?_⟩ (by simp only;omega);simp only at ht ⊢;rw [nM,hs,wL] at ht;rcases ht with ht | ht
 ·have hx:=(a2.trans (b2.trans c2)).trans j2;exact ⟨(h4 t ht).1.ext hx,(h4 t ht).2.ext hx⟩
 ·simp at ht;subst ht;have q1:(⟨k1,k2,0⟩:xD)∈es++[⟨k1,k2,0⟩,⟨k3,k1,0⟩]:=bT _ (by simp);have q2:(⟨k3,k1,0⟩:xD)∈es++[⟨k1,k2,0⟩,⟨k3,k1,0⟩]:=bT _ (by simp);exact ⟨⟨k3,k1,c3,g1,_,q2,rfl,rfl⟩,⟨k2,k1,g2,g1,_,q1,rfl,rfl⟩⟩
theorem zH2 (h:Bd d l T id a):Ok (M5 FF d l id a) fun g=>∃ m,g.Yb=some m/\Gr T m g.Xj 6000/\∃ k,zV m ⟨id,a⟩=some k/\∀ back,Rch back g.Xj 3 k:=by
 unfold M5;refine yX (zHR h) ?_;rintro ⟨m1,es1⟩ ⟨a1,a2⟩;refine yX (zOP h a1) ?_;rintro ⟨m,es⟩ ⟨b1,b2,b3⟩;simp only at a1 a2 b1 b2 b3 ⊢;refine yB ⟨m,rfl,b1,?_⟩;simp only
 by_cases hid:id=0
 ·obtain ⟨x,hx,e⟩:=h.hid;have hA:∀ back,GF back m es ⟨0,a⟩:=fun back=>((a2 x hx).z (by rw [e,hid]) a (.inr ⟨e,rfl⟩) back).ext b2
  obtain ⟨k,hk,_⟩:=hA false;refine ⟨k,by rw [hid];exact hk,fun back=>.inl (.inl ?_)⟩;obtain ⟨k',hk',e,he,e1,e2⟩:=hA back;rw [hk] at hk';injection hk' with hk';subst hk';exact .inr ⟨e,he,e2,e1⟩
 ·obtain ⟨s,hs,es_⟩:=h.lk.resolve_left hid;obtain ⟨s1,_⟩:=h.sn s hs;obtain ⟨z,hz,ez⟩:=h.z;obtain ⟨x,hx,ex⟩:=h.hid;have hA:∀ back p,(p=s.Xp.Lo\/p=s.Xp.Hi)->GF back m es ⟨0,p⟩:=fun back p hp=>((a2 z hz).z ez p (.inl ⟨s,hs,.inr ⟨by rw [s1,ez],hp⟩⟩) back).ext b2
  obtain ⟨c1,c2⟩:=b3 s hs;rw [es_] at c1 c2
  -- the number of the snap's reading
  have hsn:∀ back,∃ k,zV m ⟨id,s.Xw⟩=some k/\Rch back es 2 k:=by
   intro back;cases back
   ·obtain ⟨n1,k,q1,q2,e,he,e1,e2⟩:=c1;obtain ⟨n2,q3,e',he',e1',e2'⟩:=hA false s.Xp.Hi (.inr rfl);rw [q1] at q3;injection q3 with q3;subst q3;exact ⟨k,q2,.inr ⟨e,he,e2,.inr ⟨e',he',by rw [e2',e1],e1'⟩⟩⟩
   ·obtain ⟨n1,k,q1,q2,e,he,e1,e2⟩:=c2;obtain ⟨n2,q3,e',he',e1',e2'⟩:=hA true s.Xp.Lo (.inl rfl);rw [q1] at q3;injection q3 with q3;subst q3;exact ⟨k,q2,.inr ⟨e,he,e2,.inr ⟨e',he',by rw [e2',e1],e1'⟩⟩⟩
  by_cases hat:a=s.Xw
  ·obtain ⟨k,hk,_⟩:=hsn false;refine ⟨k,by rw [hat];exact hk,fun back=>.inl ?_⟩;obtain ⟨k',hk',hr⟩:=hsn back;rw [hk] at hk';injection hk' with hk';subst hk';exact hr
  ·have ht:lH m es id s.Xw a:=by
    have:=(a2 x hx).t (by rw [ex];exact hid) s.Xw a (.inl ⟨s,hs,.inl ⟨by rw [ex,es_],rfl⟩⟩) (.inr ⟨ex,rfl⟩) (fun h=>hat h.symm)
    rw [ex] at this;exact this.ext b2
   obtain ⟨n1,k,q1,q2,_⟩:=(ht false).1;refine ⟨k,q2,fun back=>?_⟩;obtain ⟨n1',k',q1',q2',e,he,e1,e2⟩:=(ht back).1;obtain ⟨j,hj,hr⟩:=hsn back;rw [q2] at q2';injection q2' with q2';rw [q1'] at hj;injection hj with hj;exact .inr ⟨e,he,by rw [e2,<- q2'],by rw [e1,hj];exact hr⟩
end
end Go.Ab
