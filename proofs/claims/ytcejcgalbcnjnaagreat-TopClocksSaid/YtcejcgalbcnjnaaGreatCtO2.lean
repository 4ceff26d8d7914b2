/- Lemmas. No conditions but those that they name. -/
import Derived.Test.YtcejcgalbcnjnaaGreatCtO
namespace Go.Ab
open Go
set_option linter.unusedVariables false
section
variable {l:z6} {ρ τ:Nat->Int} {T:Int->Int->Int} {dm:Int->Int} {w:yR}
def XQ (l:z6) (o:List (Int×Int)):Prop:=∀ c<l.Xc.Xd.length,zV o (tA l c)=some (c:Int)
theorem zEl (h:Al l ρ τ T dm) {o:List (Int×Int)} (ho:XQ l o) {x:Nat} (hx:x<evN l.Xa):∃ c<l.Xc.Xd.length,tA l c=(idA l x).Xb/\(zV o (idA l x).Xb).getD 0=(c:Int):=by
 obtain ⟨t,ht,e⟩:=h.tr.th x hx;obtain ⟨c,hc⟩:=uG.mp ht;have hcl:=(vO.mp hc).1;have et:tA l c=(idA l x).Xb:=by unfold tA;rw [getD_some hc];exact e
 exact ⟨c,hcl,et,by rw [<- et,ho c hcl];rfl⟩
theorem ZM (h:Al l ρ τ T dm) {c d:Nat} (hc:c<l.Xc.Xd.length) (hd:d<l.Xc.Xd.length) (e:tA l c=tA l d):c=d:=by
 have key:∀ i j,i<j->j<l.Xc.Xd.length->tA l i≠tA l j:=fun i j hij hj=>by
  have:=TU (d:=0) h.tnd (i:=i) (j:=j) hij (by rw [vL];exact hj)
  rw [vQ,vQ,vD,vD,jG default (by omega),jG default hj] at this;exact this
 rcases DH c d with h1 | h1 | h1
 ·exact absurd e (key c d h1 hd)
 ·exact h1
 ·exact absurd e.symm (key d c h1 hc)
theorem zFY (h:Al l ρ τ T dm):Ok (EE FF l FF 0 []) (XQ l):=by
 have hn:=h.tr.thl;refine v9 (σ:=Nat×List (Int×Int)) (fun n s=>EE FF l n s.1 s.2)
  (fun s=>s.1<=l.Xc.Xd.length/\s.2.length<=s.1/\∀ c<s.1,zV s.2 (tA l c)=some (c:Int)) _ (fun s=>l.Xc.Xd.length - s.1) ?_ (0,[]) ⟨wI _,yI _,fun c hc=>by simp only at hc;omega⟩
 rintro n ⟨i,o⟩ ⟨h1,h2,h3⟩ ih;simp only at h1 h2 h3 ih ⊢;show Ok (KG _ _ _ _ _) _;unfold KG;refine xV (fun hi=>?_) fun hi=>yB fun c hc=>h3 c (by omega)
 refine vK (by omega) hi fun x hx=>wP (by omega) ?_
 rw [wB] at hx;rw [w5];have ex:tA l i=x.Id:=by unfold tA;rw [getD_some hx]
 have:=dG o x.Id (i:Int)
 refine ih (i+1,_) ⟨by simp only;omega,by simp only;omega,fun c hc=>?_⟩ (by simp only;omega);simp only at hc ⊢;rw [dJ,<- ex];rcases zlg c i with hh | hh
 ·rw [if_neg fun e=>by have:=ZM h (by omega) (by omega) e;omega];exact h3 c hh
 ·rw [show c=i by omega,if_pos rfl]
theorem zN6:∀ (n:Nat) (v:Int) (r:List (Int×Int)),QJ FF l n v r=EE FF l n v r:=by
 intro n
 induction n with
 | zero=>intro v r;rfl
 | succ n ih =>
  intro v r;show XN _ _ _ _ _=KG _ _ _ _ _;unfold XN KG;simp only [ih]
def R3 (l:z6) (ρ:Nat->Int) (w:yR) (r:List (List Int)):Prop:=r.length=evN l.Xa/\∀ i<evN l.Xa,Vec l ρ w i (r.getD i [])
theorem zE0 {α:Type} {l:List α} {x d:α} {i:Nat}:(l++[x]).getD i d=if i<l.length then l.getD i d else if i=l.length then x else d:=by
 rw [vQ]
 split
 ·rename_i h;rw [uH h,vQ]
 ·rename_i h
  rw [u4 (by omega)]
  split
  ·rename_i e;rw [e,GS];rfl
  ·rename_i e;rw [vH (by simp;omega)];rfl
theorem zJR (h:Al l ρ τ T dm) (hs:bX FF l=some (w,0)) (hw:Wld l ρ w):Ok (O9 FF l) fun r=>r.2=0/\R3 l ρ w r.1:=by
 have hn:=h.tr.n;have hil:(uE l.Xa).length=evN l.Xa:=rK _;unfold O9;refine pU (show C1 FF l=_ from zD9 h.tr.small) ?_;rw [V7,if_pos h.tr.chk];refine yX (P:=fun o:List (List Int)⊕(List (List Int)×Int)=>∃ r,o=.inl r/\R3 l ρ w r) ?_ ?_
 ·refine v9 (σ:=Nat×List (List Int)) (fun n s=>MM FF l (uE l.Xa) n s.1 s.2)
   (fun s=>s.1<=evN l.Xa/\s.2.length=s.1/\∀ i<s.1,Vec l ρ w i (s.2.getD i [])) _ (fun s=>evN l.Xa - s.1) ?_ (0,[]) ⟨wI _,rfl,fun c hc=>by simp only at hc;omega⟩
  rintro n ⟨i,r⟩ ⟨h1,h2,h3⟩ ih;simp only at h1 h2 h3 ih ⊢;show Ok (R8 _ _ _ _ _ _) _;unfold R8;refine xV (fun hi=>?_) fun hi=>yB ⟨r,rfl,by omega,fun j hj=>h3 j (by omega)⟩
  refine vK (by omega) hi fun x hx=>?_
  have ex:x=idA l i:=by rw [wB] at hx;exact (getD_some hx).symm
  rw [ex];refine yX (zEZ h.tr hs hw (j:=i) (by omega)) ?_;rintro ⟨v,q⟩ ⟨a1,a2⟩;simp only at a1 a2 ⊢;rw [tV a1,cond_false,w5];refine wP (by simp only [zlc,fC];omega) (ih (i+1,_) ⟨by simp only;omega,by simp only [zla,zls];omega,fun j hj=>?_⟩ (by simp only;omega));simp only at hj ⊢;rw [zE0];rcases zlg j i with hh | hh
  ·rw [if_pos (by omega)];exact h3 j hh
  ·rw [if_neg (by omega),if_pos (by omega),show j=i by omega];exact a2
 ·rintro _ ⟨r,rfl,hr⟩;exact yB ⟨rfl,hr⟩
theorem zJK (h:Al l ρ τ T dm) {i j c:Nat} (hi:i<evN l.Xa) (hj:j<evN l.Xa) {v:List Int} (hv:Vec l ρ w j v) (hc:c<l.Xc.Xd.length) (ec:tA l c=(idA l i).Xb) (hlt:(idA l i).Xf<v.getD c 0):ρ i<=ρ j:=by
 obtain ⟨x,hx,e1,e2,e3⟩:=hv.v1 c hc _ (h.tr.ser i hi).1 hlt;have hix:ρ i<=ρ x:=by
  rcases DH i x with h1 | h1 | h1
  ·have:=(h.tr.e1 i x h1 hx (by rw [e1,ec])).1;omega
  ·rw [h1];exact aH _
  ·have:=(h.tr.e1 x i h1 hi (by rw [e1,ec])).2;omega
 rcases e3 with rfl | e3
 ·exact hix
 ·omega
theorem zCJ {r:List yO} (hr:Tm l τ r) {i:Nat} (hi:i<evN l.Xa) {x:yO} (e1:x.Id=idA l i) (e2:x.Xo=eA l i) (e3:Iv (τ i) x.Xk):Tm l τ (r.set i x):=by
 have hl:=hr.len;refine ⟨by rw [kW];exact hl,fun j hj=>?_,fun j hj=>?_,fun j hj=>?_⟩
 all_goals rw [qT (by omega)]
 all_goals by_cases e:j=i
 ·rw [if_pos e,e];exact e1
 ·rw [if_neg e];exact hr.id j hj
 ·rw [if_pos e,e];exact e2
 ·rw [if_neg e];exact hr.ev j hj
 ·rw [if_pos e,e];exact e3
 ·rw [if_neg e];exact hr.iv j hj
theorem zI6 (h:Al l ρ τ T dm) {r:List yO} {vs:List (List Int)} {o:List (Int×Int)} (hr:Tm l τ r) (hv:R3 l ρ w vs) (ho:XQ l o) {i:Nat} (hi:i<evN l.Xa) {row:List yO} (hrow:Tm l τ row) :
  Ok (LN FF (r,0) (vs,0) o i FF 0 row) (Tm l τ):=by
 have hn:=h.tr.n;have hrl:=hr.len;have hvl:=hv.1;refine v9 (σ:=Nat×List yO) (fun n s=>LN FF (r,0) (vs,0) o i n s.1 s.2)
  (fun s=>s.1<=evN l.Xa/\Tm l τ s.2) _ (fun s=>evN l.Xa - s.1) ?_ (0,row) ⟨wI _,hrow⟩
 rintro n ⟨j,q⟩ ⟨h1,h2⟩ ih;simp only at h1 h2 ih ⊢;have hql:=h2.len;show Ok (TK _ _ _ _ _ _ _ _) _;unfold TK;simp only;refine xV (fun hj=>?_) fun hj=>yB h2
 have hj':j<evN l.Xa:=by omega
 refine wO fun x2 hx2=>wO fun x3 hx3=>?_
 rw [wB] at hx2 hx3;have hx2:=(getD_some (d:=[]) hx2).symm;have hx3:=(getD_some (d:=default) hx3).symm;have hvec:=hv.2 i hi;rw [<- hx2] at hvec;obtain ⟨c,c1,c2,c3⟩:=zEl h ho hj';have e3:x3.Id=idA l j:=by rw [hx3];exact hr.id j hj'
 have hxl:=hvec.len;rw [e3,c3];refine wO fun x4 hx4=>wO fun x5 hx5=>?_
 rw [wB] at hx4 hx5;have hx4:=(getD_some (d:=0) hx4).symm;have hx5:=(getD_some (d:=default) hx5).symm;rw [hx5,hr.id j hj',w5];refine xV (fun hlt=>?_) fun _=>ih (j+1,q) ⟨by simp only;omega,h2⟩ (by simp only;omega)
 have hle:=h.mono j hj' i hi (zJK h hj' hi hvec c1 c2 (by omega));refine wO fun x6 hx6=>wO fun x7 hx7=>wO fun x8 hx8=>?_
 rw [wB] at hx6 hx7 hx8;have hx6:=(getD_some (d:=default) hx6).symm;have hx7:=(getD_some (d:=default) hx7).symm;have hx8:=(getD_some (d:=default) hx8).symm;have i6:=h2.iv i hi;have i7:=hr.iv j hj';rw [<- hx6] at i6;rw [<- hx7] at i7;have s1:Tm l τ (q.set i ⟨x8.Id,x8.Xo,⟨bP x6.Xk.Lo x7.Xk.Lo,x8.Xk.Hi⟩⟩):=by
  refine zCJ h2 hi (by rw [hx8];exact h2.id i hi) (by rw [hx8];exact h2.ev i hi) ?_;have i8:=h2.iv i hi;rw [<- hx8] at i8;unfold Iv at *;unfold bP;simp only
  split<;>omega
 have hsl:=s1.len;rw [wB];refine wO fun x9 hx9=>wO fun x10 hx10=>wO fun x11 hx11=>?_
 rw [wB] at hx9 hx10 hx11;have hx9:=(getD_some (d:=default) hx9).symm;have hx10:=(getD_some (d:=default) hx10).symm;have hx11:=(getD_some (d:=default) hx11).symm;rw [wB];refine ih (j+1,_) ⟨by simp only;omega,zCJ s1 hj' (by rw [hx11];exact s1.id j hj') (by rw [hx11];exact s1.ev j hj') ?_⟩ (by simp only;omega);have i9:=s1.iv j hj';have i11:=i9;have i10:=hr.iv i hi;rw [<- hx9] at i9;rw [<- hx11] at i11;rw [<- hx10] at i10;unfold Iv at *;unfold qY;simp only
 split<;>omega
theorem zM0 {r:List yO} (hr:Tm l τ r) (hn:evN l.Xa<=32):NH FF r=some true:=by
 have hrl:=hr.len;unfold NH V4 R9
 have:Ok (KB FF r FF 0) fun o=>o=.inl ():=by
  refine v9 (σ:=Nat) (fun n s=>KB FF r n s) (fun s=>True) _ (fun s=>r.length - s) ?_ 0 trivial;rintro n i _ ih;show Ok (U9 _ _ _ _) _;unfold U9;refine xV (fun hi=>?_) fun hi=>yB rfl
  refine vK (by omega) hi fun x hx=>?_
  rw [wB] at hx;have hx:=(getD_some (d:=default) hx).symm;have iv:=hr.iv i (by omega);rw [<- hx] at iv;unfold Iv at iv;have e:O5 x=some false:=by
   unfold O5 C8 dY;rw [wE (p:=x.Xk.Lo<=x.Xk.Hi) (by omega),cond_true,wE (by omega),wE (by omega),wE (by omega),wE (by omega)];rfl
  rw [e,zbs,cond_false,w5];exact ih (i+1) trivial (by omega)
 obtain ⟨o,ho,rfl⟩:=this;rw [ho];rfl
theorem zOZ (h:Al l ρ τ T dm) (hs:bX FF l=some (w,0)) (hw:Wld l ρ w):Ok (RB FF l) fun r=>r.2=0/\Tm l τ r.1:=by
 have hn:=h.tr.n;unfold RB;refine yX (zOf h) ?_;rintro ⟨r,q⟩ ⟨rfl,hr⟩;simp only at hr ⊢;rw [tV rfl,cond_false];refine yX (zJR h hs hw) ?_;rintro ⟨vs,q⟩ ⟨rfl,hv⟩;simp only at hv ⊢;rw [tV rfl,cond_false];have hrl:=hr.len;refine yX (zFY h) fun o ho=>?_
 unfold SS;rw [tB (by simp only [fC];omega),zbs,zbs,EO];refine yX (P:=Tm l τ) ?_ fun t ht=>?_
 ·refine v9 (σ:=Nat×List yO) (fun n s=>Q6 FF (r,0) (vs,0) o n s.1 s.2)
   (fun s=>s.1<=evN l.Xa/\Tm l τ s.2) _ (fun s=>evN l.Xa - s.1) ?_ (0,r) ⟨wI _,hr⟩
  rintro n ⟨j,q⟩ ⟨h1,h2⟩ ih;simp only at h1 h2 ih ⊢;show Ok (S6 _ _ _ _ _ _ _) _;unfold S6;simp only;refine xV (fun hj=>?_) fun hj=>yB h2
  refine yX (zI6 h hr hv ho (by omega) h2) fun t ht=>?_
  rw [w5];exact ih (j+1,t) ⟨by simp only;omega,ht⟩ (by simp only;omega)
 ·rw [zM0 ht hn,zbs,cO,cond_false];exact yB ⟨rfl,ht⟩
structure Kn (l:z6) (ρ τ:Nat->Int) (w:yR) (k:vT):Prop where
 col:∃ o,k.Ya=some o/\XQ l o
 tm:Tm l τ k.Xu
 vs:R3 l ρ w k.Yg
theorem zMb (h:Al l ρ τ T dm) (hs:bX FF l=some (w,0)) (hw:Wld l ρ w):Ok (BT FF l) fun r=>r.2=0/\Kn l ρ τ w r.1:=by
 have hn:=h.tr.n;unfold BT;refine yX (zOZ h hs hw) ?_;rintro ⟨r,q⟩ ⟨rfl,hr⟩;simp only at hr ⊢;rw [tV rfl,cond_false,zN6];have hrl:=hr.len;refine yX (zFY h) fun o ho=>?_
 refine yX (P:=fun q:List (List Int)⊕(vT×Int)=>∃ r,q=.inl r/\R3 l ρ w r) ?_ ?_
 ·refine v9 (σ:=Nat×List (List Int)) (fun n s=>RU FF l (r,0) n s.1 s.2)
   (fun s=>s.1<=evN l.Xa/\s.2.length=s.1/\∀ i<s.1,Vec l ρ w i (s.2.getD i [])) _ (fun s=>evN l.Xa - s.1) ?_ (0,[]) ⟨wI _,rfl,fun c hc=>by simp only at hc;omega⟩
  rintro n ⟨i,vs⟩ ⟨h1,h2,h3⟩ ih;simp only at h1 h2 h3 ih ⊢;show Ok (S0 _ _ _ _ _ _) _;unfold S0;simp only;refine xV (fun hi=>?_) fun hi=>yB ⟨vs,rfl,by omega,fun j hj=>h3 j (by omega)⟩
  refine vK (by omega) hi fun x hx=>?_
  rw [wB] at hx;have hx:=(getD_some (d:=default) hx).symm;rw [hx,hr.id i (by omega)];refine yX (zEZ h.tr hs hw (j:=i) (by omega)) ?_;rintro ⟨v,q⟩ ⟨a1,a2⟩;simp only at a1 a2 ⊢;rw [tV a1,cond_false,w5];refine wP (by simp only [zlc,fC];omega) (ih (i+1,_) ⟨by simp only;omega,by simp only [zla,zls];omega,fun j hj=>?_⟩ (by simp only;omega));simp only at hj ⊢;rw [zE0];rcases zlg j i with hh | hh
  ·rw [if_pos (by omega)];exact h3 j hh
  ·rw [if_neg (by omega),if_pos (by omega),show j=i by omega];exact a2
 ·rintro _ ⟨vs,rfl,hvs⟩;exact yB ⟨rfl,⟨o,rfl,ho⟩,hr,hvs⟩
end
end Go.Ab
