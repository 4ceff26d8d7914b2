/- Lemmas. No conditions but those that they name. -/
import Derived.Test.YtcejcgalbcnjnaaGreatCtS2
namespace Go.Ab
open Go
set_option linter.unusedVariables false
section
variable {w:yR} {F:Nat}
structure Mrg (w:yR) (l r:List Int) (a b:Nat):Prop where
 fr:From l r
 srt:Srt w r a b
 seg:∀ p,a<=p->p<b->∃ q,a<=q/\q<b/\gt0 r p=gt0 l q
 out:∀ p,p<a\/b<=p->gt0 r p=gt0 l p
theorem mU {l:List Int} {i:Nat} {x:Int} {k:Int} (hx:l[k.toNat]?=some x) (h:k.toNat=i):gt0 l i=x:=by subst h;exact getD_some hx
theorem bis {L:Nat->Nat×Nat->Option Int} (P:Nat->Prop) (s0 r0:Nat) (hs:s0<=r0) (hmono:∀ i j,s0<=i->i<=j->j<r0->P j->P i)
  (h:∀ n s r,s0<=s->s<=r->r<=r0->(∀ Q:Int->Prop,(r<=s->Q s)->(s<r->P ((s+r) / 2)->Ok (L n ((s+r) / 2+1,r)) Q)->(s<r->¬ P ((s+r) / 2)->Ok (L n (s,(s+r) / 2)) Q)->Ok (L (n+1) (s,r)) Q)) {F:Nat} (hF:r0<F) :
  Ok (L F (s0,r0)) fun o=>∃ i:Nat,o=i/\s0<=i/\i<=r0/\(∀ c,s0<=c->c<i->P c)/\∀ c,i<=c->c<r0->¬ P c:=by
 refine gN L (fun s=>s0<=s.1/\s.1<=s.2/\s.2<=r0/\(∀ c,s0<=c->c<s.1->P c)/\∀ c,s.2<=c->c<r0->¬ P c) _ (fun s=>s.2 - s.1) ?_ F (s0,r0) ⟨yI _,hs,yI _,fun c h1 h2=>by simp only at h2;omega,fun c h1 h2=>by simp only at h1;omega⟩ (by simp only;omega);rintro n ⟨s,r⟩ ⟨h1,h2,h3,h4,h5⟩ ih;simp only at h1 h2 h3 h4 h5 ih ⊢;refine h n s r h1 h2 h3 _ (fun hle=>⟨s,rfl,h1,by omega,h4,fun c q1 q2=>h5 c (by omega) q2⟩) (fun hlt hp=>?_) (fun hlt hp=>?_)
 ·refine ih _ ⟨by simp only;omega,by simp only;omega,h3,fun c q1 q2=>?_,h5⟩ (by simp only;omega);simp only at q2;exact hmono c _ q1 (by omega) (by omega) hp
 ·refine ih _ ⟨h1,by simp only;omega,by simp only;omega,h4,fun c q1 q2 q3=>hp ?_⟩ (by simp only;omega);exact hmono _ c (by omega) q1 q2 q3
theorem zOz {a b:Nat} {l:List Int} (hl:l.length<1000) (hab:a+1<b) (hb:b<=l.length) (hf:dB w l) (hs:Srt w l (a+1) b) (hF:1000<F) :
  Ok ((LL F l a w F ((a+1:Nat):Int) b).bind fun o=>(DS F o F a l).bind fun o=>some o) fun r=>Mrg w l r a b:=by
 refine yX (bis (L:=fun n s=>LL F l a w n (s.1:Nat) (s.2:Nat)) (fun c=>atW w (gt0 l c)<atW w (gt0 l a)) (a+1) b (by omega) (fun i j h1 h2 h3 h4=>?_) (fun n s r h1 h2 h3 Q k1 k2 k3=>?_) (by omega)) ?_
 ·rcases O0 h2 with e | h
  ·rwa [e]
  ·exact Int.lt_of_le_of_lt (hs i j h1 h h3) h4
 ·show Ok (SJ _ _ _ _ _ _ _) _;unfold SJ;refine xV (fun hlt=>?_) fun hge=>yB (k1 (by omega))
  rw [ME (by omega) (by omega),show ((s:Int)+r) / 2=(((s+r) / 2:Nat):Int) by omega];refine wO fun x hx=>wO fun y hy=>?_
  obtain ⟨q,hq,hq2⟩:=WO (hf x (yN hx)) (hf y (yN hy));refine pU hq ?_;rw [<- mU (i:=(s+r) / 2) hx (by omega),<- mU (i:=a) hy (by omega)] at hq2;refine xV (fun h=>?_) fun h=>?_
  ·rw [w5];exact k2 (by omega) (hq2.1 h)
  ·exact k3 (by omega) fun h'=>h (hq2.2 h')
 ·rintro _ ⟨i,rfl,h1,h2,h3,h4⟩;have key:Ok (DS F i F a l) fun r=>From l r/\∀ p,gt0 r p=if a<=p/\p<i - 1 then gt0 l (p+1) else if p=i - 1 then gt0 l a else gt0 l p:=by
   refine gN (σ:=Nat×List Int) (fun n s=>DS F i n s.1 s.2) (fun s=>a<=s.1/\s.1<=i - 1/\From l s.2/\∀ p,gt0 s.2 p=if a<=p/\p<s.1 then gt0 l (p+1) else if p=s.1 then gt0 l a else gt0 l p) _ (fun s=>i - s.1) ?_ F (a,l)
    ⟨yI _,by simp only;omega,.refl l,fun p=>by
     simp only;rw [if_neg (by omega)]
     by_cases e:p=a
     ·rw [if_pos e,e]
     ·rw [if_neg e]⟩ (by simp only;omega)
   rintro n ⟨k,m⟩ ⟨q1,q2,q3,q4⟩ ih;simp only at q1 q2 q3 q4 ih ⊢;have hlen:m.length=l.length:=q3.1;show Ok (UL _ _ _ _ _) _;unfold UL;rw [o8];refine xV (fun hlt=>?_) fun hge=>yB ⟨q3,by rwa [show k=i - 1 by omega] at q4⟩
   rw [w5];refine wO fun x hx=>wO fun y hy=>wO fun z hz=>vK (by omega) (by simp;omega) fun u hu=>?_
   have ex:=mU (i:=k+1) hx (by omega);have ey:=mU (i:=k) hy (by omega);rw [q4,if_neg (by omega),if_neg (by omega)] at ex;rw [q4,if_neg (by omega),if_pos rfl] at ey;rw [show ((k:Int)+1).toNat=k+1 by omega,show (k:Int).toNat=k by omega];refine ih (k+1,_) ⟨by simp only;omega,by simp only;omega,q3.trans (WL (yN hx) (yN hy)),fun p=>?_⟩ (by simp only;omega);simp only;have hg:gt0 ((m.set k x).set (k+1) y) p=if p=k+1 then y else if p=k then x else gt0 m p:=by
    unfold gt0;rw [qT (by simp;omega),qT (by omega)]
   rw [hg,q4,<- ex,<- ey]
   repeat' split
   all_goals first | rfl | (exfalso;omega) | (congr 1;omega)
  refine yX key fun r hr=>yB ?_
  obtain ⟨e1,e2⟩:=hr;refine ⟨e1,fun p q p1 p2 p3=>?_,fun p p1 p2=>?_,fun p hp=>by rw [e2,if_neg (by omega),if_neg (by omega)]⟩
  ·rw [e2,e2];have hlow:∀ c,a+1<=c->c<i->atW w (gt0 l c)<=atW w (gt0 l a):=fun c c1 c2=>Int.le_of_lt (h3 c c1 c2)
   have hup:∀ c,i<=c->c<b->atW w (gt0 l a)<=atW w (gt0 l c):=fun c c1 c2=>Int.not_lt.1 (h4 c c1 c2)
   repeat' split
   all_goals first
    | exact aH _
    | exact hs _ _ (by omega) (by omega) (by omega)
    | exact hlow _ (by omega) (by omega)
    | exact hup _ (by omega) (by omega)
    | (exfalso;omega)
  ·rw [e2]
   repeat' split
   ·exact ⟨p+1,by omega,by omega,rfl⟩
   ·exact ⟨a,by omega,by omega,rfl⟩
   ·exact ⟨p,p1,p2,rfl⟩
theorem zM6 {a m:Nat} {l:List Int} (hl:l.length<1000) (hab:a<m) (hb:m+1<=l.length) (hf:dB w l) (hs:Srt w l a m) (hF:1000<F) :
  Ok ((HA F l m w F a m).bind fun o=>(EJ F o F m l).bind fun o=>some o) fun r=>Mrg w l r a (m+1):=by
 refine yX (bis (L:=fun n s=>HA F l m w n (s.1:Nat) (s.2:Nat)) (fun c=>¬ atW w (gt0 l m)<atW w (gt0 l c)) a m (by omega) (fun i j h1 h2 h3 h4=>?_) (fun n s r h1 h2 h3 Q k1 k2 k3=>?_) (by omega)) ?_
 ·rcases O0 h2 with e | h
  ·rwa [e]
  ·exact fun h5=>h4 (Int.lt_of_lt_of_le h5 (hs i j h1 h h3))
 ·show Ok (UV _ _ _ _ _ _ _) _;unfold UV;refine xV (fun hlt=>?_) fun hge=>yB (k1 (by omega))
  rw [ME (by omega) (by omega),show ((s:Int)+r) / 2=(((s+r) / 2:Nat):Int) by omega];refine wO fun x hx=>wO fun y hy=>?_
  obtain ⟨q,hq,hq2⟩:=WO (hf x (yN hx)) (hf y (yN hy));refine pU hq ?_;rw [<- mU (i:=m) hx (by omega),<- mU (i:=(s+r) / 2) hy (by omega)] at hq2;refine vZ (fun h=>?_) fun h=>?_
  ·rw [w5];exact k2 (by omega) fun h'=>by rw [wE (hq2.2 h')] at h;cases h
  ·exact k3 (by omega) fun h'=>h' (hq2.1 (by simpa using h))
 ·rintro _ ⟨i,rfl,h1,h2,h3,h4⟩;have key:Ok (EJ F i F m l) fun r=>From l r/\∀ p,gt0 r p=if i<p/\p<=m then gt0 l (p - 1) else if p=i then gt0 l m else gt0 l p:=by
   refine gN (σ:=Nat×List Int) (fun n s=>EJ F i n s.1 s.2) (fun s=>i<=s.1/\s.1<=m/\From l s.2/\∀ p,gt0 s.2 p=if s.1<p/\p<=m then gt0 l (p - 1) else if p=s.1 then gt0 l m else gt0 l p) _ (fun s=>s.1) ?_ F (m,l)
    ⟨h2,by simp only;omega,.refl l,fun p=>by
     simp only;rw [if_neg (by omega)]
     by_cases e:p=m
     ·rw [if_pos e,e]
     ·rw [if_neg e]⟩ (by simp only;omega)
   rintro n ⟨k,m'⟩ ⟨q1,q2,q3,q4⟩ ih;simp only at q1 q2 q3 q4 ih ⊢;have hlen:m'.length=l.length:=q3.1;show Ok (YF _ _ _ _ _) _;unfold YF;refine xV (fun hlt=>?_) fun hge=>yB ⟨q3,by rwa [show k=i by omega] at q4⟩
   rw [o8];refine wO fun x hx=>wO fun y hy=>wO fun z hz=>vK (by omega) (by simp;omega) fun u hu=>?_
   have ex:=mU (i:=k - 1) hx (by omega);have ey:=mU (i:=k) hy (by omega);rw [q4,if_neg (by omega),if_neg (by omega)] at ex;rw [q4,if_neg (by omega),if_pos rfl] at ey;rw [show ((k:Int) - 1).toNat=k - 1 by omega,show (k:Int).toNat=k by omega,show (k:Int) - 1=((k - 1:Nat):Int) by omega];refine ih (k - 1,_) ⟨by simp only;omega,by simp only;omega,q3.trans (WL (yN hx) (yN hy)),fun p=>?_⟩ (by simp only;omega);simp only;have hg:gt0 ((m'.set k x).set (k - 1) y) p=if p=k - 1 then y else if p=k then x else gt0 m' p:=by
    unfold gt0;rw [qT (by simp;omega),qT (by omega)]
   rw [hg,q4,<- ex,<- ey]
   repeat' split
   all_goals first | rfl | (exfalso;omega) | (congr 1;omega)
  refine yX key fun r hr=>yB ?_
  obtain ⟨e1,e2⟩:=hr;refine ⟨e1,fun p q p1 p2 p3=>?_,fun p p1 p2=>?_,fun p hp=>by rw [e2,if_neg (by omega),if_neg (by omega)]⟩
  ·rw [e2,e2];have hlow:∀ c,a<=c->c<i->atW w (gt0 l c)<=atW w (gt0 l m):=fun c c1 c2=>Int.not_lt.1 (h3 c c1 c2)
   have hup:∀ c,i<=c->c<m->atW w (gt0 l m)<=atW w (gt0 l c):=fun c c1 c2=>Int.le_of_lt (Int.not_le.1 fun h=>h4 c c1 c2 (Int.not_lt.2 h))
   repeat' split
   all_goals first
    | exact aH _
    | exact hs _ _ (by omega) (by omega) (by omega)
    | exact hlow _ (by omega) (by omega)
    | exact hup _ (by omega) (by omega)
    | (exfalso;omega)
  ·rw [e2]
   repeat' split
   ·exact ⟨p - 1,by omega,by omega,rfl⟩
   ·exact ⟨m,by omega,by omega,rfl⟩
   ·exact ⟨p,p1,p2,rfl⟩
end
end Go.Ab
