/- Lemmas. No conditions but those that they name. -/
import Derived.Test.YtcejcgalbcnjnaaGreatCtO4
namespace Go.Ab
open Go
set_option linter.unusedVariables false
abbrev pN:=uL
def DB (c:dH):Prop:=0<=c.Xt/\c.Xt<=10000/\c.Xr<=c.Xt /\ -c.Xt<=c.Xr/\0<=c.Yd/\c.Yd<=1000000
def tmW (w:pN) (d x:Int):Int:=if d<=0 then x else cT (w.Xn.getD (d - 1).toNat default) x
def dmW (w:pN) (t:Int):Int:=w.Xd.getD t.toNat 0
def atQ (w:pN) (t:Int):List Int:=w.At.getD t.toNat []
def mA (w:pN) (n:Nat):List yW:=⟨0,0⟩::(List.range n).map fun (i:Nat)=>⟨(i:Int)+1,(w.Xn.getD i default).Xt⟩
def c7 (w:pN) (n:Nat):List wN:=(List.range n).map fun (i:Nat)=>⟨(i:Int),[116],w.Xd.getD i 0⟩
def ev0 (x:Int):y8:=⟨x,3,[109],0,0,[]⟩
def J0 (r:List Int):Prop:=r.length<=8/\∀ n<r.length,0<=r.getD n 0/\r.getD n 0<=1000000/\(0<n->r.getD (n - 1) 0<=r.getD n 0)
def E9 (w:pN) (i:Nat):Prop:=0<=w.Xd.getD i 0/\w.Xd.getD i 0<=w.Xn.length/\J0 (w.At.getD i [])
structure zBY (w:pN) (s:xO):Prop where
 a:∃ i<w.Xn.length,s.A=(i:Int)+1
 b:s.B=0/\0<=s.Xw/\s.Xw<=1000000/\0<=s.Xp.Lo/\s.Xp.Hi<=10000000
 lo:s.Xp.Lo<=tmW w s.A s.Xw
 hi:tmW w s.A s.Xw<=s.Xp.Hi
theorem zHI {r:List Int} (h:J0 r):∀ (n m:Nat),n<=m->m<r.length->r.getD n 0<=r.getD m 0:=by
 intro n m hnm
 induction m with
 | zero=>intro _;rw [show n=0 by omega];exact aH _
 | succ m ih =>
  intro hm;rcases zlg n (m+1) with hh | hh
  ·have a:=ih (by omega) (by omega);have b:=(h.2 (m+1) hm).2.2 (by omega);rw [Nat.add_sub_cancel] at b;omega
  ·rw [show n=m+1 by omega];exact aH _
section
variable {w:pN}
theorem zBA {i:Nat} {x:Int}:tmW w ((i:Int)+1) x=cT (w.Xn.getD i default) x:=by
 unfold tmW;rw [if_neg (by omega),show ((i:Int)+1 - 1).toNat=i by omega]
def Bad {α:Type} (q:α⊕(z6×Bool)):Prop:=∃ p,q=.inr p/\p.2=false
theorem zNj (hc:w.Xn.length<=4):Ok (LJ FF w FF 0 [⟨0,0⟩]) fun o=>Bad o\/(o=.inl (mA w w.Xn.length)/\∀ c∈w.Xn,DB c):=by
 refine v9 (σ:=Nat×List yW) (fun n s=>LJ FF w n s.1 s.2)
  (fun s=>s.1<=w.Xn.length/\s.2=mA w s.1/\∀ c∈w.Xn.take s.1,DB c) _ (fun s=>w.Xn.length - s.1) ?_ (0,_) ⟨wI _,rfl,fun c hc=>by simp at hc⟩
 rintro n ⟨i,r⟩ ⟨h1,h2,h3⟩ ih;simp only at h1 h2 h3 ih ⊢;show Ok (YI _ _ _ _ _) _;unfold YI;refine xV (fun hi=>?_) fun hi=>yB (.inr ?_)
 ·refine vK (by omega) hi fun x hx=>?_
  rw [wB] at hx;have hx':=(getD_some (d:=default) hx).symm;refine vZ (fun hb=>yB (.inl ⟨_,rfl,rfl⟩)) fun hb=>?_
  simp only [L8,decide_eq_false_iff_not] at hb;obtain ⟨b1,b2,b3,b4,b5,b6⟩:=hb;rw [w64 (by omega) (by omega)] at b4;have hl:r.length=i+1:=by rw [h2];unfold mA;simp
  refine wP (by rw [zls];omega) ?_;rw [w5];refine ih (i+1,_) ⟨by simp only;omega,?_,?_⟩ (by simp only;omega)
  ·simp only;rw [h2];unfold mA;rw [List.range_succ,nH,hx'];rfl
  ·simp only;rw [nM,hx];intro c hc;rcases wL.mp hc with hc | hc
   ·exact h3 c hc
   ·simp at hc;subst hc;unfold DB;omega
 ·rw [show i=w.Xn.length by omega] at h2 h3;rw [CU] at h3;exact ⟨by rw [h2],h3⟩
theorem zHE (hc4:w.Xn.length<=4) (hs:w.Seen.length<=8) (hck:∀ c∈w.Xn,DB c) {q:List yW}:Ok (KZ FF w q FF 0 []) fun o=>Bad o\/∃ r,o=.inl r/\r.length<=8/\(∀ s∈r,zBY w s)/\∀ s∈w.Seen,∃ t∈r,t.A=s.Xz+1:=by
 refine v9 (σ:=Nat×List xO) (fun n s=>KZ FF w q n s.1 s.2)
  (fun s=>s.1<=w.Seen.length/\s.2.length=s.1/\(∀ t∈s.2,zBY w t)/\∀ x∈w.Seen.take s.1,∃ t∈s.2,t.A=x.Xz+1) _ (fun s=>w.Seen.length - s.1) ?_ (0,[]) ⟨wI _,rfl,fun c hc=>(by cases hc),fun c hc=>by simp at hc⟩
 rintro n ⟨i,r⟩ ⟨h1,h2,h3,h4⟩ ih;simp only at h1 h2 h3 h4 ih ⊢;show Ok (UO _ _ _ _ _ _) _;unfold UO;refine xV (fun hi=>?_) fun hi=>yB (.inr ⟨r,rfl,by omega,h3,?_⟩)
 ·refine vK (by omega) hi fun x hx=>?_
  rw [wB] at hx;refine vZ (fun hb=>yB (.inl ⟨_,rfl,rfl⟩)) fun hb=>?_
  simp only [L8,decide_eq_false_iff_not] at hb;obtain ⟨b1,b2,b3,b4,b5,b6,b7,b8⟩:=hb;refine wO fun c hc=>?_
  have hcm:=hck c (yN hc);have hc:=(getD_some (d:=default) hc).symm;obtain ⟨c1,c2,c3,c4,c5,c6⟩:=hcm;have hcr:=zGS (c:=c) (x:=x.At) (by omega) (by omega) c5 c6 (by omega) (by omega);refine pU (zEJ (by omega) (by omega) c5 c6 (by omega) (by omega)) ?_;refine wP (by rw [zls];omega) ?_;rw [w5,w5,w64 (x:=cT c x.At - x.Ye) (by omega) (by omega),w64 (x:=cT c x.At+x.Yf) (by omega) (by omega)];have hA:tmW w (x.Xz+1) x.At=cT c x.At:=by
   rw [show x.Xz=((x.Xz.toNat:Nat):Int) by omega,zBA,<- hc]
  refine ih (i+1,_) ⟨by simp only;omega,by simp only [zla,zls];omega,fun s hs=>?_,fun y hy=>?_⟩ (by simp only;omega)
  ·rcases wL.mp hs with hs | hs
   ·exact h3 s hs
   ·rw [uO.mp hs];refine ⟨⟨x.Xz.toNat,by omega,by simp only;omega⟩,⟨rfl,by simp only;omega,by simp only;omega,?_,by simp only;omega⟩,?_,?_⟩
    all_goals simp only
    ·unfold bP;split<;>omega
    ·rw [hA];unfold bP;split<;>omega
    ·rw [hA];omega
  ·simp only at hy ⊢;rw [nM,hx] at hy;rcases wL.mp hy with hy | hy
   ·obtain ⟨t,t1,t2⟩:=h4 y hy;exact ⟨t,rM _ t1,t2⟩
   ·simp at hy;subst hy;exact ⟨_,bT _ (uO.mpr rfl),rfl⟩
 ·rw [show i=w.Seen.length by omega,CU] at h4;exact h4
theorem zGn {q1:List yW} {q3:List xO} {v:Nat} {ps:List zO} {ts:List wN} {x:Int} (hv:v<w.At.length) (hl:(w.At.getD v []).length<=8):Ok (JC FF w q1 q3 v ps ts x (w.At.getD v []) FF 0 []) fun o=>Bad o\/(o=.inl ((w.At.getD v []).map ev0)/\J0 (w.At.getD v [])):=by
 have hat:=jG (l:=w.At) [] hv;generalize w.At.getD v []=a at *;refine v9 (σ:=Nat×List y8) (fun n s=>JC FF w q1 q3 v ps ts x a n s.1 s.2)
  (fun s=>s.1<=a.length/\s.2=(a.take s.1).map ev0/\∀ n<s.1,0<=a.getD n 0/\a.getD n 0<=1000000/\(0<n->a.getD (n - 1) 0<=a.getD n 0)) _ (fun s=>a.length - s.1) ?_ (0,[]) ⟨wI _,rfl,fun c hc=>by simp only at hc;omega⟩
 rintro n ⟨i,r⟩ ⟨h1,h2,h3⟩ ih;simp only at h1 h2 h3 ih ⊢;show Ok (TE _ _ _ _ _ _ _ _ _ _ _ _) _;unfold TE;refine xV (fun hi=>?_) fun hi=>yB (.inr ⟨?_,hl,fun n hn=>h3 n (by omega)⟩)
 ·refine vK (by omega) hi fun y hy=>?_
  rw [wB] at hy;have hy':=(getD_some (d:=0) hy).symm;refine yX (P:=fun p=>p=false->0<=y/\y<=1000000/\(0<i->a.getD (i - 1) 0<=y)) ?_ ?_
  ·refine xV (fun _=>yB fun e=>(by cases e)) fun y1=>?_
   refine xV (fun _=>yB fun e=>(by cases e)) fun y2=>?_
   refine xV (fun hi0=>?_) fun hi0=>yB fun _=>⟨by omega,by omega,fun h=>by omega⟩
   refine wO fun x8 hx8=>?_
   rw [wB,hat] at hx8;injection hx8 with hx8;subst hx8;rw [o8];refine wO fun z hz=>yB fun e=>⟨by omega,by omega,fun _=>?_⟩
   rw [show ((i:Int) - 1).toNat=i - 1 by omega] at hz;rw [getD_some hz];simp only [decide_eq_false_iff_not] at e;omega
  ·intro p hp;refine vZ (fun _=>yB (.inl ⟨_,rfl,rfl⟩)) fun e=>?_
   have hp:=hp e;have hrl:r.length=i:=by rw [h2,vL,nL];omega
   refine wP (by rw [zls];omega) ?_;rw [w5];refine ih (i+1,_) ⟨by simp only;omega,?_,fun n hn=>?_⟩ (by simp only;omega)
   ·simp only;rw [nM,hy,nH,h2];rfl
   ·simp only at hn;rcases zlg n i with hh | hh
    ·exact h3 n hh
    ·rw [show n=i by omega,<- hy'];exact hp
 ·rw [h2,kC (by omega)]
structure Ps0 (w:pN) (n:Nat) (ps:List zO):Prop where
 len:ps.length<=n
 srt:(ps.map (·.Xb)).Pairwise (·<·)
 thr:∀ p∈ps,∃ i<n,p=⟨(i:Int),0,0,(w.At.getD i []).map ev0⟩
theorem zOY {q1:List yW} {q3:List xO} (hl:w.Xd.length=w.At.length) (h4:w.At.length<=4):Ok (K9 FF w q1 q3 FF 0 [] []) fun o=>Bad o\/∃ ps,o=.inl (ps,c7 w w.At.length)/\Ps0 w w.At.length ps/\∀ i<w.At.length,E9 w i:=by
 refine v9 (σ:=Nat×List zO×List wN) (fun n s=>K9 FF w q1 q3 n s.1 s.2.1 s.2.2)
  (fun s=>s.1<=w.At.length/\s.2.2=c7 w s.1/\Ps0 w s.1 s.2.1/\∀ i<s.1,E9 w i) _ (fun s=>w.At.length - s.1) ?_ (0,[],[]) ⟨wI _,rfl,⟨yI _,List.Pairwise.nil,fun p hp=>(by cases hp)⟩,fun i hi=>by simp only at hi;omega⟩
 rintro n ⟨v,ps,ts⟩ ⟨h1,h2,h3,h5⟩ ih;simp only at h1 h2 h3 h5 ih ⊢;show Ok (XT _ _ _ _ _ _ _ _) _;unfold XT;refine xV (fun hi=>?_) fun hi=>yB (.inr ⟨ps,?_,?_⟩)
 ·have hv:v<w.At.length:=by omega
  refine vK (by omega) hi fun x hx=>?_
  rw [wB] at hx;have hx':=(getD_some (d:=0) hx).symm;have htl:ts.length=v:=by rw [h2];unfold c7;simp
  have hat:=jG (l:=w.At) [] hv;refine yX (P:=fun p=>p=false->0<=x/\x<=w.Xn.length/\(w.At.getD v []).length<=8) ?_ ?_
  ·refine xV (fun _=>yB fun e=>(by cases e)) fun y1=>?_
   refine xV (fun _=>yB fun e=>(by cases e)) fun y2=>?_
   refine wO fun z hz=>yB fun e=>⟨by omega,by omega,?_⟩
   rw [wB] at hz;rw [getD_some hz];simp only [decide_eq_false_iff_not] at e;omega
  intro p hp;refine vZ (fun _=>yB (.inl ⟨_,rfl,rfl⟩)) fun e=>?_
  obtain ⟨p1,p2,p3⟩:=hp e;refine wP (by rw [zls];omega) (wO fun z hz=>?_);rw [wB] at hz;rw [show z=w.At.getD v [] from (getD_some hz).symm];refine yX (zGn hv p3) ?_;rintro _ (⟨q,rfl,hq⟩ | ⟨rfl,hq⟩)
  ·exact yB (.inl ⟨_,rfl,hq⟩)
  simp only;rw [w5,vL];have hts:ts++[(⟨(v:Int),[116],x⟩:wN)]=c7 w (v+1):=by
   rw [h2];unfold c7;rw [List.range_succ,nH,hx'];rfl
  have hth:∀ i<v+1,E9 w i:=fun i hi=>by
   rcases zlg i v with hh | hh
   ·exact h5 i hh
   ·rw [show i=v by omega];unfold E9;rw [<- hx'];exact ⟨p1,p2,hq⟩
  have hpl:=h3.len;refine xV (fun hpos=>wP (by rw [zls];omega) ?_) fun hpos=>?_
  ·refine ih (v+1,_,_) ⟨by simp only;omega,hts,⟨by simp only [zla,zls];omega,?_,fun p hp=>?_⟩,hth⟩ (by simp only;omega)
   ·simp only;rw [nH,zAJ];refine ⟨h3.srt,zA5 _ _,fun a ha b hb=>?_⟩;obtain ⟨p,hp1,hp2⟩:=vB.mp ha;obtain ⟨i,i1,i2⟩:=h3.thr p hp1;have hb:b=(v:Int):=by simpa using hb
    rw [hb,<- hp2,i2];simp only;omega
   ·rcases wL.mp hp with hp | hp
    ·obtain ⟨i,i1,i2⟩:=h3.thr p hp;exact ⟨i,by simp only;omega,i2⟩
    ·exact ⟨v,by simp only;omega,uO.mp hp⟩
  ·refine ih (v+1,ps,_) ⟨by simp only;omega,hts,⟨by simp only;omega,h3.srt,fun p hp=>?_⟩,hth⟩ (by simp only;omega);obtain ⟨i,i1,i2⟩:=h3.thr p hp;exact ⟨i,by simp only;omega,i2⟩
 ·rw [h2,show v=w.At.length by omega]
 ·rw [show v=w.At.length by omega] at h3 h5;exact ⟨h3,h5⟩
theorem ZK (hc4:w.Xn.length<=4) (hck:∀ c∈w.Xn,DB c) (hl:w.Xd.length=w.At.length) (hth:∀ i<w.At.length,E9 w i) {t n:Int} (h0:0<=t) (h1:t<w.At.length) (n0:0<=n) (n1:n<(atQ w t).length):BY w t n=some (tmW w (dmW w t) ((atQ w t).getD n.toNat 0)):=by
 suffices Ok (BY w t n) fun r=>r=tmW w (dmW w t) ((atQ w t).getD n.toNat 0) by
  obtain ⟨_,e,rfl⟩:=this;exact e
 have ht:=hth t.toNat (by omega);obtain ⟨t1,t2,t3,t4⟩:=ht;unfold BY;refine vK h0 h1 fun x1 hx1=>?_
 have hx1:x1=atQ w t:=(getD_some hx1).symm;refine vK n0 (by rw [hx1];exact n1) fun x2 hx2=>vK h0 (by omega) fun x3 hx3=>?_
 have hx2:x2=(atQ w t).getD n.toNat 0:=by rw [hx1] at hx2;exact (getD_some hx2).symm
 have hx3:x3=dmW w t:=(getD_some hx3).symm;have hr:=t4 n.toNat (by unfold atQ at n1;omega)
 change 0<=(atQ w t).getD n.toNat 0/\_ at hr
 change 0<=dmW w t at t1
 change dmW w t<=_ at t2
 rw [hx2,hx3];refine xV (fun hp=>?_) fun hp=>yB (by unfold tmW;rw [if_pos (by omega)])
 rw [o8];refine wO fun c hc=>?_
 obtain ⟨c1,c2,c3,c4,c5,c6⟩:=hck c (yN hc);refine pU (zEJ hr.1 hr.2.1 c5 c6 (by omega) (by omega)) (yB ?_);unfold tmW;rw [if_neg (by omega),getD_some hc]
def zBf (w:pN) (m:Nat) (t:Int) (n:Nat) (e:y8):Prop:=e.Xg=3\/∃ f<m,e.N=(f:Int)/\((e.Xg=6/\(w.Xq.getD f default).From=t/\(w.Xq.getD f default).Xo=n)\/(e.Xg=7/\(w.Xq.getD f default).To=t/\(w.Xq.getD f default).Xy=n))
structure DK (w:pN) (m:Nat) (p:zO):Prop where
 t:0<=p.Xb/\p.Xb<w.At.length
 s:p.Xf=0
 l:p.Xe.length=(atQ w p.Xb).length
 e:∀ n<p.Xe.length,(p.Xe.getD n default).At=(atQ w p.Xb).getD n 0/\(p.Xe.getD n default).Xs=[]/\zBf w m p.Xb n (p.Xe.getD n default)
theorem DK.mono {m m':Nat} {p:zO} (h:DK w m p) (hm:m<=m'):DK w m' p:=by
 refine ⟨h.t,h.s,h.l,fun n hn=>?_⟩;obtain ⟨a,b,c⟩:=h.e n hn;refine ⟨a,b,c.imp id fun ⟨f,f1,f2⟩=>⟨f,by omega,f2⟩⟩
theorem zEf {m:Nat} {p:zO} (h:DK w m p) {n:Nat} (hn:n<p.Xe.length) {kd:Int} (hk:zBf w m p.Xb n ⟨(p.Xe.getD n default).At,kd,[],(m:Int) - 1,0,[]⟩):DK w m ⟨p.Xb,p.Xf,p.Xh,p.Xe.set n ⟨(p.Xe.getD n default).At,kd,[],(m:Int) - 1,0,[]⟩⟩:=by
 refine ⟨h.t,h.s,by rw [kW];exact h.l,fun i hi=>?_⟩;rw [kW] at hi;simp only;rw [qT hn]
 split
 ·rename_i e
  rw [e];exact ⟨(h.e n hn).1,rfl,hk⟩
 ·exact h.e i hi
def N1 (w:pN) (f:AD):Prop:=0<=f.From/\0<=f.To/\f.From<w.At.length/\f.To<w.At.length/\0<=f.Xo/\0<=f.Xy/\f.Xo<(atQ w f.From).length/\f.Xy<(atQ w f.To).length/\tmW w (dmW w f.From) ((atQ w f.From).getD f.Xo.toNat 0)<tmW w (dmW w f.To) ((atQ w f.To).getD f.Xy.toNat 0)
def oS (w:pN) (m:Nat) (ids:List Int) (ps:List zO):Prop:=ps.map (·.Xb)=ids/\∀ p∈ps,DK w m p
theorem zB2 {m:Nat} {ids:List Int} {ps:List zO} (h:oS w m ids ps) {i:Nat} (hi:i<ps.length) {p:zO} (hp:DK w m p) (e:p.Xb=(ps.getD i default).Xb):oS w m ids (ps.set i p):=by
 refine ⟨?_,fun q hq=>?_⟩
 ·rw [<- h.1,List.map_set,e];apply SA;intro j;rw [GG]
  split
  ·rename_i e;subst e
   rw [if_pos (by rw [vL];exact hi),vD,jG default hi];rfl
  ·rfl
 ·rcases mY hq with hq | hq
  ·exact h.2 q hq
  ·rw [hq];exact hp
theorem zNg {l:z6} {v:Nat} {ids:List Int} {row:List zO} (hlp:l.Xa.length<=4) (hrl:row.length=l.Xa.length) (hps:oS w (v+1) ids row) (hf:N1 w (w.Xq.getD v default)) (hv:v<8) :
  Ok (HB FF l v (w.Xq.getD v default) FF 0 row) fun o=>Bad o\/∃ r,o=.inl r/\r.length=l.Xa.length/\oS w (v+1) ids r:=by
 obtain ⟨f1,f2,f3,f4,f5,f6,f7,f8,f9⟩:=hf;refine v9 (σ:=Nat×List zO) (fun n s=>HB FF l v (w.Xq.getD v default) n s.1 s.2)
  (fun s=>s.1<=l.Xa.length/\s.2.length=l.Xa.length/\oS w (v+1) ids s.2) _ (fun s=>l.Xa.length - s.1) ?_ (0,row) ⟨wI _,hrl,hps⟩
 rintro n ⟨i,r⟩ ⟨h1,h2,h3⟩ ih;simp only at h1 h2 h3 ih ⊢;show Ok (WP _ _ _ _ _ _ _) _;unfold WP;refine xV (fun hi=>?_) fun hi=>yB (.inr ⟨r,rfl,h2,h3⟩)
 have hir:i<r.length:=by omega
 refine wO fun p hp=>wP hi ?_
 rw [wB] at hp ⊢;have hpk:=h3.2 p (yN hp);have hp':=(getD_some (d:=default) hp).symm;have hself:oS w (v+1) ids (r.set i ⟨p.Xb,p.Xf,p.Xh,p.Xe⟩):=zB2 h3 hir hpk (by rw [hp']);have hpl:=hpk.l;rw [w5];refine vZ (fun e=>?_) fun _=>vZ (fun _=>ih (i+1,_) ⟨by simp only;omega,by simp only [kW];exact h2,hself⟩ (by simp only;omega)) fun e=>?_
 ·have e:p.Xb=(w.Xq.getD v default).To:=eq_of_beq e;rw [<- e] at f8;refine vK f6 (by omega) fun x5 hx5=>?_
  refine vZ (fun _=>wP (by rw [kW];exact h2) (yB (.inl ⟨_,rfl,rfl⟩))) fun _=>?_
  refine vK f6 (by omega) fun x6 hx6=>vK f6 (by omega) fun x7 hx7=>?_
  rw [<- getD_some (d:=default) hx6];refine ih (i+1,_) ⟨by simp only;omega,by simp only [kW];exact h2,?_⟩ (by simp only;omega)
  have:=zEf (n:=(w.Xq.getD v default).Xy.toNat) (kd:=7) hpk (by omega) (.inr ⟨v,by omega,by simp only;omega,.inr ⟨rfl,e.symm,by omega⟩⟩)
  rw [show ((v+1:Nat):Int) - 1=v by omega] at this;exact zB2 h3 hir this (by rw [hp'])
 ·have e:p.Xb=(w.Xq.getD v default).From:=by simpa using e
  rw [<- e] at f7;refine vK f5 (by omega) fun x5 hx5=>?_
  refine vZ (fun _=>wP (by rw [kW];exact h2) (yB (.inl ⟨_,rfl,rfl⟩))) fun _=>?_
  refine vK f5 (by omega) fun x6 hx6=>vK f5 (by omega) fun x7 hx7=>?_
  rw [<- getD_some (d:=default) hx6];refine ih (i+1,_) ⟨by simp only;omega,by simp only [kW];exact h2,?_⟩ (by simp only;omega)
  have:=zEf (n:=(w.Xq.getD v default).Xo.toNat) (kd:=6) hpk (by omega) (.inr ⟨v,by omega,by simp only;omega,.inl ⟨rfl,e.symm,by omega⟩⟩)
  rw [show ((v+1:Nat):Int) - 1=v by omega] at this;exact zB2 h3 hir this (by rw [hp'])
theorem zKg (hc4:w.Xn.length<=4) (hck:∀ c∈w.Xn,DB c) (hl:w.Xd.length=w.At.length) (hth:∀ i<w.At.length,E9 w i) {l:z6} {ids:List Int} (hlp:l.Xa.length<=4) (hps:oS w 0 ids l.Xa) (hf8:w.Xq.length<=8) :
  Ok (LP FF w l FF 0 l.Xa) fun o=>Bad o\/∃ r,o=.inl r/\r.length=l.Xa.length/\oS w w.Xq.length ids r/\∀ f<w.Xq.length,N1 w (w.Xq.getD f default):=by
 refine v9 (σ:=Nat×List zO) (fun n s=>LP FF w l n s.1 s.2)
  (fun s=>s.1<=w.Xq.length/\s.2.length=l.Xa.length/\oS w s.1 ids s.2/\∀ f<s.1,N1 w (w.Xq.getD f default)) _ (fun s=>w.Xq.length - s.1) ?_ (0,l.Xa) ⟨wI _,rfl,hps,fun f hf=>by simp only at hf;omega⟩
 rintro n ⟨v,r⟩ ⟨h1,h2,h3,h4⟩ ih;simp only at h1 h2 h3 h4 ih ⊢;show Ok (X1 _ _ _ _ _ _) _;unfold X1;refine xV (fun hi=>?_) fun hi=>yB (.inr ⟨r,rfl,h2,by rw [show v=w.Xq.length by omega] at h3;exact h3,fun f hf=>h4 f (by omega)⟩)
 refine vK (by omega) hi fun x hx=>?_
 rw [wB] at hx;have hx':=(getD_some (d:=default) hx).symm;refine yX (P:=fun p=>p=false->0<=x.From/\0<=x.To/\x.From<w.At.length/\x.To<w.At.length/\0<=x.Xo/\0<=x.Xy/\x.Xo<(atQ w x.From).length/\x.Xy<(atQ w x.To).length) ?_ ?_
 ·refine xV (fun _=>yB fun e=>(by cases e)) fun a1=>?_
  refine xV (fun _=>yB fun e=>(by cases e)) fun a2=>?_
  refine xV (fun _=>yB fun e=>(by cases e)) fun a3=>?_
  refine xV (fun _=>yB fun e=>(by cases e)) fun a4=>?_
  refine vZ (fun _=>yB fun e=>(by cases e)) fun a5=>?_
  refine xV (fun _=>yB fun e=>(by cases e)) fun a6=>?_
  refine xV (fun _=>yB fun e=>(by cases e)) fun a7=>?_
  refine wO fun y hy=>?_
  have hy:y=atQ w x.From:=(getD_some hy).symm;refine xV (fun _=>yB fun e=>(by cases e)) fun a8=>?_
  refine wO fun z hz=>yB fun e=>?_
  have hz:z=atQ w x.To:=(getD_some hz).symm;rw [hy] at a8;rw [hz] at e;simp only [decide_eq_false_iff_not] at e;exact ⟨by omega,by omega,by omega,by omega,by omega,by omega,by omega,by omega⟩
 intro p hp;refine vZ (fun _=>wP h2 (yB (.inl ⟨_,rfl,rfl⟩))) fun e=>?_
 obtain ⟨f1,f2,f3,f4,f5,f6,f7,f8⟩:=hp e;refine pU (ZK hc4 hck hl hth f1 f3 f5 f7) (pU (ZK hc4 hck hl hth f2 f4 f6 f8) ?_);refine xV (fun _=>wP h2 (yB (.inl ⟨_,rfl,rfl⟩))) fun hge=>?_
 have hfl:N1 w (w.Xq.getD v default):=by rw [<- hx'];exact ⟨f1,f2,f3,f4,f5,f6,f7,f8,by omega⟩
 rw [hx'];refine yX (zNg hlp h2 ⟨h3.1,fun p hp=>(h3.2 p hp).mono (by omega)⟩ hfl (by omega)) ?_;rintro _ (⟨q,rfl,hq⟩ | ⟨r',rfl,r1,r2⟩)
 ·exact yB (.inl ⟨_,rfl,hq⟩)
 simp only;rw [w5];refine ih (v+1,r') ⟨by simp only;omega,r1,r2,fun f hf=>?_⟩ (by simp only;omega);simp only at hf;rcases zlg f v with hh | hh
 ·exact h4 f hh
 ·rw [show f=v by omega];exact hfl
structure Blt (w:pN) (l:z6):Prop where
 cl:w.Xn.length<=4
 sl:w.Seen.length<=8
 tl:w.Xd.length=w.At.length
 al:w.At.length<=4
 ck:∀ c∈w.Xn,DB c
 th:∀ i<w.At.length,E9 w i
 hd:∃ sn,l.Xc=⟨c7 w w.At.length,mA w w.Xn.length,sn⟩/\sn.length<=8/\(∀ s∈sn,zBY w s)/\∀ s∈w.Seen,∃ t∈sn,t.A=s.Xz+1
 pl:l.Xa.length<=4
 srt:(l.Xa.map (·.Xb)).Pairwise (·<·)
 ps:∀ p∈l.Xa,DK w w.Xq.length p
 fl:∀ f<w.Xq.length,N1 w (w.Xq.getD f default)
 chk:C9 l=0
 small:Small l.Xc l.Xa
theorem zE6 {l:List zO} (h:∀ p∈l,p.Xe.length<=8):evN l<=8 * l.length:=by
 induction l with
 | nil=>exact yI _
 | cons p r ih =>
  have:=ih fun q hq=>h q (qX _ hq)
  have hp:=h p (tK ..);unfold evN at *;rw [uM,lS,zlc];omega
theorem zNc (w:pN):Ok (JQ FF w) fun r=>r.2=true->Blt w r.1:=by
 unfold JQ;refine vZ (fun _=>yB fun e=>(by cases e)) fun hb=>?_
 simp only [L8,decide_eq_false_iff_not] at hb;obtain ⟨b1,b2,b3,b4,b5⟩:=hb;have b3':(w.Xd.length:Int)=w.At.length:=by simpa using b3
 have b3:w.Xd.length=w.At.length:=by omega
 have fin:∀ p:z6×Bool,p.2=false->Ok (some p) fun r=>r.2=true->Blt w r.1:=fun p hp=>yB fun e=>by rw [hp] at e;cases e
 refine yX (zNj (by omega)) ?_;rintro _ (⟨q,rfl,hq⟩ | ⟨rfl,hck⟩)
 ·exact fin q hq
 refine yX (zHE (by omega) (by omega) hck) ?_;rintro _ (⟨q,rfl,hq⟩ | ⟨sn,rfl,s1,s2,s3⟩)
 ·exact fin q hq
 refine yX (zOY b3 (by omega)) ?_;rintro _ (⟨q,rfl,hq⟩ | ⟨ps,rfl,p1,p2⟩)
 ·exact fin q hq
 simp only;unfold W5;have hpl:=p1.len;have hp0:oS w 0 (ps.map (·.Xb)) ps:=by
  refine ⟨rfl,fun p hp=>?_⟩;obtain ⟨i,i1,rfl⟩:=p1.thr p hp;refine ⟨⟨by simp only;omega,by simp only;omega⟩,rfl,?_,fun n hn=>?_⟩
  all_goals unfold atQ
  all_goals simp only [wB,vL] at *
  have hg:((w.At.getD i []).map ev0).getD n default=ev0 ((w.At.getD i []).getD n 0):=getD_some (by rw [vD,jG 0 hn];rfl);rw [hg];exact ⟨rfl,rfl,.inl rfl⟩
 refine yX (P:=fun r:z6×Bool=>r.2=true->Blt w r.1) ?_ fun r hr=>yB hr
 refine yX (zKg (by omega) hck b3 p2 (by simp only;omega) hp0 (by omega)) ?_;rintro _ (⟨q,rfl,hq⟩ | ⟨r,rfl,r1,r2,r3⟩)
 ·exact fin q hq
 simp only at r1 ⊢;have he8:∀ p∈r,p.Xe.length<=8:=fun p hp=>by
  have h:=r2.2 p hp
  have:=(p2 p.Xb.toNat (by have:=h.t;omega)).2.2.1
  rw [h.l];exact this
 have hev:=zE6 he8;have hsm:Small (⟨c7 w w.At.length,mA w w.Xn.length,sn⟩:wR) r:=by
  refine ⟨?_,?_,by simp only;omega,by omega,by omega⟩
  ·simp only;unfold c7;rw [vL,rQ];omega
  ·simp only;unfold mA;rw [zlc,vL,rQ];omega
 refine wP r1 (pU (show rV FF _=_ from ZV hsm) (yB fun e=>?_));exact ⟨by omega,by omega,b3,by omega,hck,p2,⟨sn,rfl,s1,s2,s3⟩,by simp only;omega,by simp only;rw [r2.1];exact p1.srt,r2.2,r3,eq_of_beq e,hsm⟩
end
end Go.Ab
