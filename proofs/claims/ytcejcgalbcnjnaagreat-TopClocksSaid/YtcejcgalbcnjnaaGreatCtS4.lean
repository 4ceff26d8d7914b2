/- Lemmas. No conditions but those that they name. -/
import Derived.Test.YtcejcgalbcnjnaaGreatCtS3
namespace Go.Ab
open Go
set_option linter.unusedVariables false
section
variable {w:yR} {F:Nat}
theorem Mrg.same {l:List Int} {a b:Nat} (h:Srt w l a b):Mrg w l l a b:=⟨.refl l,h,fun p h1 h2=>⟨p,h1,h2,rfl⟩,fun _ _=>rfl⟩
theorem zGi {a m b:Nat} {l:List Int} (hl:l.length<1000) (h1:a<m) (h2:m<b) (hb:b<=l.length) (hf:dB w l) (s1:Srt w l a m) (s2:Srt w l m b) {s0 r0:Nat} (hs:if m>(a+b) / 2 then s0=(a+b) / 2+m - b/\r0=(a+b) / 2 else s0=a/\r0=m) (hF:2000<F) :
  Ok (KA F l a m b w F s0 r0) fun o=>∃ i:Nat,o=i/\s0<=i/\i<=r0/\(∀ c,s0<=c->c<i->¬ atW w (gt0 l ((a+b) / 2+m - 1 - c))<atW w (gt0 l c))/\∀ c,i<=c->c<r0->atW w (gt0 l ((a+b) / 2+m - 1 - c))<atW w (gt0 l c):=by
 have hs0:s0<=r0/\a<=s0/\r0<=m/\∀ c,s0<=c->c<r0->m<=(a+b) / 2+m - 1 - c/\(a+b) / 2+m - 1 - c<b:=by
  split at hs
  ·obtain ⟨rfl,rfl⟩:=hs;exact ⟨by omega,by omega,by omega,fun c _ _=>by omega⟩
  ·obtain ⟨rfl,rfl⟩:=hs;exact ⟨by omega,by omega,by omega,fun c _ _=>by omega⟩
 obtain ⟨k1,k2,k3,k4⟩:=hs0;refine zLI (bis (L:=fun n s=>KA F l a m b w n (s.1:Nat) (s.2:Nat)) (fun c=>¬ atW w (gt0 l ((a+b) / 2+m - 1 - c))<atW w (gt0 l c)) s0 r0 k1 (fun i j q1 q2 q3 q4=>?_) (fun n s r q1 q2 q3 Q e1 e2 e3=>?_) (by omega)) ?_
 ·rcases O0 q2 with e | h
  ·rwa [e]
  ·have u1:=s1 i j (by omega) h (by omega)
   have:=k4 i q1 (by omega);have:=k4 j (by omega) q3
   have u2:=s2 ((a+b) / 2+m - 1 - j) ((a+b) / 2+m - 1 - i) (by omega) (by omega) (by omega);omega
 ·show Ok (V2 _ _ _ _ _ _ _ _ _) _;unfold V2;refine xV (fun hlt=>?_) fun hge=>yB (e1 (by omega))
  have:=k4 ((s+r) / 2) (by omega) (by omega)
  rw [ME (x:=(s:Int)+r) (by omega) (by omega),ME (x:=(a:Int)+b) (by omega) (by omega),show ((s:Int)+r) / 2=(((s+r) / 2:Nat):Int) by omega,w64 (x:=((a:Int)+b) / 2+m) (by omega) (by omega),w64 (x:=((a:Int)+b) / 2+m - 1) (by omega) (by omega),w64 (x:=((a:Int)+b) / 2+m - 1 - (((s+r) / 2:Nat):Int)) (by omega) (by omega)];refine wO fun x hx=>wO fun y hy=>?_
  obtain ⟨q,hq,hq2⟩:=WO (hf x (yN hx)) (hf y (yN hy));refine pU hq ?_;rw [<- mU (i:=(a+b) / 2+m - 1 - (s+r) / 2) hx (by omega),<- mU (i:=(s+r) / 2) hy (by omega)] at hq2;refine vZ (fun h=>?_) fun h=>?_
  ·rw [w5];exact e2 (by omega) fun h'=>by rw [wE (hq2.2 h')] at h;cases h
  ·exact e3 (by omega) fun h'=>h' (hq2.1 (by simpa using h))
 ·rintro _ ⟨i,rfl,q1,q2,q3,q4⟩;exact ⟨i,rfl,q1,q2,q3,fun c c1 c2=>GN fun h=>q4 c c1 c2 h⟩
theorem zLR:∀ (d F a m b:Nat) (l:List Int),b - a<=d->4000+d<F->l.length<1000->a<m->m<b->b<=l.length->dB w l->Srt w l a m->Srt w l m b->Ok (BR F l a m b w) fun r=>Mrg w l r a b:=by
 intro d
 induction d with
 | zero=>intro F a m b l h1 _ _ h2 h3;omega
 | succ d ih =>
  intro F a m b l hd hF hl h1 h2 hb hf s1 s2;cases F with
  | zero=>omega
  | succ F =>
  rw [BR];rw [w64 (x:=(m:Int) - a) (by omega) (by omega),w64 (x:=(b:Int) - m) (by omega) (by omega)];refine vZ (fun e=>?_) fun e=>?_
  ·have e:(m:Int) - a=1:=by simpa using e
   have:m=a+1:=by omega
   subst this;exact zOz hl (by omega) hb hf s2 (by omega)
  have e:¬ (m:Int) - a=1:=by simpa using e
  refine vZ (fun e2=>?_) fun e2=>?_
  ·have e2:(b:Int) - m=1:=by simpa using e2
   have:b=m+1:=by omega
   subst this;exact zM6 hl (by omega) hb hf s1 (by omega)
  have e2:¬ (b:Int) - m=1:=by simpa using e2
  have hmid:zG (xX .u64 (z9 (zG ((a:Int)+b))) (1:Int))=(((a+b) / 2:Nat):Int):=by rw [ME (by omega) (by omega)];omega
  simp only [hmid];have hn:zG ((((a+b) / 2:Nat):Int)+m)=(((a+b) / 2+m:Nat):Int):=by rw [w64 (by omega) (by omega)];omega
  simp only [hn];refine yX (P:=fun o:Int×Int=>∃ s0 r0:Nat,o=((s0:Int),(r0:Int))/\if m>(a+b) / 2 then s0=(a+b) / 2+m - b/\r0=(a+b) / 2 else s0=a/\r0=m) ?_ ?_
  ·refine xV (fun h=>yB ⟨(a+b) / 2+m - b,(a+b) / 2,?_,?_⟩) fun h=>yB ⟨a,m,rfl,?_⟩
   ·rw [w64 (by omega) (by omega)];congr 1;omega
   ·rw [if_pos (by omega)];exact ⟨rfl,rfl⟩
   ·rw [if_neg (by omega)];exact ⟨rfl,rfl⟩
  rintro _ ⟨s0,r0,rfl,hs⟩;simp only;refine yX (zGi hl h1 h2 hb hf s1 s2 hs (by omega)) ?_;rintro _ ⟨st,rfl,c1,c2,c3,c4⟩;have hr:a<=st/\st<=m/\(a+b) / 2+m - st<=b/\m<=(a+b) / 2+m - st/\st<=(a+b) / 2:=by
   split at hs
   ·obtain ⟨rfl,rfl⟩:=hs;omega
   ·obtain ⟨rfl,rfl⟩:=hs;omega
  generalize hmm:(a+b) / 2=mid at *;generalize hen:mid+m - st=en at *;have hend:zG (((mid+m:Nat):Int) - st)=(en:Int):=by rw [w64 (by omega) (by omega)];omega
  simp only [hend]
  -- all of the left AX are at most all of the right one
  have hcross:∀ c d,(a<=c/\c<st\/m<=c/\c<en)->(st<=d/\d<m\/en<=d/\d<b)->atW w (gt0 l c)<=atW w (gt0 l d):=by
   intro c d hc hd;have hle:∀ {i j u v},Srt w l u v->u<=i->i<=j->j<v->atW w (gt0 l i)<=atW w (gt0 l j):=fun hs q1 q2 q3=>by
    rcases O0 q2 with e | h
    ·rw [e];exact aH _
    ·exact hs _ _ q1 h q3
   rcases hc with hc | hc<;>rcases hd with hd | hd
   ·exact hle s1 hc.1 (by omega) hd.2
   ·have hst:s0<st:=by
     split at hs
     ·obtain ⟨rfl,rfl⟩:=hs;omega
     ·obtain ⟨rfl,rfl⟩:=hs;omega
    have h3:=c3 (st - 1) (by omega) (by omega);rw [show mid+m - 1 - (st - 1)=en by omega] at h3;have h4:=hle s1 (i:=c) (j:=st - 1) hc.1 (by omega) (by omega);have h5:=hle s2 (i:=en) (j:=d) (by omega) hd.1 hd.2;omega
   ·have hst:st<r0:=by
     split at hs
     ·obtain ⟨rfl,rfl⟩:=hs;omega
     ·obtain ⟨rfl,rfl⟩:=hs;omega
    have h3:=c4 st (yI _) hst;rw [show mid+m - 1 - st=en - 1 by omega] at h3;have h4:=hle s2 (i:=c) (j:=en - 1) hc.1 (by omega) (by omega);have h5:=hle s1 (i:=st) (j:=d) (by omega) hd.1 hd.2;omega
   ·exact hle s2 hc.1 (by omega) hd.2
  refine yX (P:=fun r=>From l r/\∀ p,gt0 r p=j8 (gt0 l) m (m - st) (en - m) p) ?_ fun r7 hr7=>?_
  ·refine vZ (fun h=>?_) fun h=>yB ⟨.refl l,fun p=>(zHb ?_).symm⟩
   ·simp only [zba,decide_eq_true_eq] at h;exact yX (zNV st m en (l:=l) hl (by omega) (by omega) (by omega) (by omega)) fun r hr=>wP hr.1.1 (yB hr)
   ·simp only [YK,decide_eq_false_iff_not] at h;omega
  obtain ⟨f7,g7⟩:=hr7
  -- where an element of the two halves was
  have hleft:∀ p,a<=p->p<mid->∃ c,(a<=c/\c<st\/m<=c/\c<en)/\gt0 r7 p=gt0 l c:=by
   intro p p1 p2;rw [g7];unfold j8
   repeat' split
   ·exact ⟨p+(m - st),by omega,rfl⟩
   ·omega
   ·exact ⟨p,by omega,rfl⟩
  have hright:∀ p,mid<=p->p<b->∃ c,(st<=c/\c<m\/en<=c/\c<b)/\gt0 r7 p=gt0 l c:=by
   intro p p1 p2;rw [g7];unfold j8
   repeat' split
   ·omega
   ·exact ⟨p - (en - m),by omega,rfl⟩
   ·exact ⟨p,by omega,rfl⟩
  have hsub:∀ u v u' v' k,(∀ p,u<=p->p<v->u'<=p+k/\gt0 r7 p=gt0 l (p+k)/\p+k<v')->Srt w l u' v'->Srt w r7 u v:=by
   intro u v u' v' k h hs i j i1 i2 i3;obtain ⟨q1,q2,q3⟩:=h i i1 (by omega);obtain ⟨q4,q5,q6⟩:=h j (by omega) i3;rw [q2,q5];exact hs _ _ q1 (by omega) q6
  have hsubr:∀ u v u' v' k,(∀ p,u<=p->p<v->k<=p/\u'<=p - k/\gt0 r7 p=gt0 l (p - k)/\p - k<v')->Srt w l u' v'->Srt w r7 u v:=by
   intro u v u' v' k h hs i j i1 i2 i3;obtain ⟨q0,q1,q2,q3⟩:=h i i1 (by omega);obtain ⟨q0',q4,q5,q6⟩:=h j (by omega) i3;rw [q2,q5];exact hs _ _ q1 (by omega) q6
  have t1:Srt w r7 a st:=hsub a st a m 0 (fun p p1 p2=>⟨by omega,by rw [g7];unfold j8;rw [if_neg (by omega),if_neg (by omega)];rfl,by omega⟩) s1;have t2:Srt w r7 st mid:=hsub st mid m b (m - st) (fun p p1 p2=>⟨by omega,by rw [g7];unfold j8;rw [if_pos (by omega)],by omega⟩) s2;have t3:Srt w r7 mid en:=hsubr mid en a m (en - m) (fun p p1 p2=>⟨by omega,by omega,by rw [g7];unfold j8;rw [if_neg (by omega),if_pos (by omega)],by omega⟩) s1;have t4:Srt w r7 en b:=hsub en b m b 0 (fun p p1 p2=>⟨by omega,by rw [g7];unfold j8;rw [if_neg (by omega),if_neg (by omega)];rfl,by omega⟩) s2;refine yX (P:=fun r8=>Mrg w r7 r8 a mid) ?_ fun r8 h8=>?_
  ·refine vZ (fun h=>?_) fun h=>yB (Mrg.same ?_)
   ·simp only [zba,decide_eq_true_eq] at h;exact yX (ih F a st mid r7 (by omega) (by omega) (by rw [f7.1];exact hl) (by omega) (by omega) (by rw [f7.1];omega) (hf.from f7) t1 t2) fun r hr=>wP hr.fr.1 (yB hr)
   ·simp only [YK,decide_eq_false_iff_not] at h;rcases O0 hr.1 with e | e
    ·rw [<- e] at t2;exact t2
    ·rw [show mid=st by omega];exact t1
  have u3:∀ {u v},mid<=u->Srt w r7 u v->Srt w r8 u v:=fun hu h i j i1 i2 i3=>by rw [h8.out i (by omega),h8.out j (by omega)];exact h i j i1 i2 i3
  have key:∀ r9,Mrg w r8 r9 mid b->Mrg w l r9 a b:=by
   intro r9 h9;have hl9:∀ p,a<=p->p<mid->∃ c,(a<=c/\c<st\/m<=c/\c<en)/\gt0 r9 p=gt0 l c:=by
    intro p p1 p2;rw [h9.out p (by omega)];obtain ⟨q,q1,q2,q3⟩:=h8.seg p p1 p2;rw [q3];exact hleft q q1 q2
   have hr9:∀ p,mid<=p->p<b->∃ c,(st<=c/\c<m\/en<=c/\c<b)/\gt0 r9 p=gt0 l c:=by
    intro p p1 p2;obtain ⟨q,q1,q2,q3⟩:=h9.seg p p1 p2;rw [q3,h8.out q (by omega)];exact hright q q1 q2
   refine ⟨(f7.trans h8.fr).trans h9.fr,fun i j i1 i2 i3=>?_,fun p p1 p2=>?_,fun p hp=>?_⟩
   ·rcases zlg j mid with hj | hj
    ·rw [h9.out i (by omega),h9.out j (by omega)];exact h8.srt i j i1 i2 hj
    ·rcases zlg i mid with hi | hi
     ·obtain ⟨c,hc,ec⟩:=hl9 i i1 hi;obtain ⟨d',hd',ed⟩:=hr9 j hj i3;rw [ec,ed];exact hcross c d' hc hd'
     ·exact h9.srt i j hi i2 i3
   ·rcases zlg p mid with hp | hp
    ·obtain ⟨c,hc,ec⟩:=hl9 p p1 hp;exact ⟨c,by omega,by omega,ec⟩
    ·obtain ⟨c,hc,ec⟩:=hr9 p hp p2;exact ⟨c,by omega,by omega,ec⟩
   ·rw [h9.out p (by omega),h8.out p (by omega),g7];unfold j8;rw [if_neg (by omega),if_neg (by omega)]
  have l8:r8.length=l.length:=h8.fr.1.trans f7.1;refine vZ (fun h=>?_) fun h=>yB (key r8 (Mrg.same ?_))
  ·simp only [zba,decide_eq_true_eq] at h;refine yX (ih F mid en b r8 (by omega) (by omega) (by omega) (by omega) (by omega) (by omega) ((hf.from f7).from h8.fr) (u3 (yI _) t3) (u3 (by omega) t4)) fun r hr=>wP hr.fr.1 (yB (key r hr))
  ·simp only [YK,decide_eq_false_iff_not] at h;rcases zlg mid en with e | e
   ·have:en=b:=by omega
    rw [this] at t3;exact u3 (yI _) t3
   ·have:en=mid:=by omega
    rw [this] at t4;exact u3 (yI _) t4
theorem zK1 {l:List Int} (hl:l.length<40) (hf:dB w l) (hF:6000<F):Ok (MF F l w) fun r=>From l r/\Srt w r 0 l.length:=by
 unfold MF UP;obtain ⟨G,rfl⟩:∃ G,F=G+1+1+1:=⟨F - 3,by omega⟩;refine yX (P:=fun r=>From l r/\Srt w r 0 l.length) ?_ fun r hr=>wP hr.1.1 (yB hr)
 refine yX (P:=fun o:Int×List Int=>∃ a:Nat,o.1=a/\From l o.2/\Srt w o.2 0 a/\(a=0/\l.length<20\/a=20/\20<=l.length)) ?_ ?_
 ·show Ok (LE _ _ _ _ _ _ _) _;unfold LE;refine xV (fun h=>?_) fun h=>yB ⟨0,rfl,.refl l,fun i j _ _ h=>by omega,by omega⟩
  refine yX (zFJ 0 20 (l:=l) (by omega) (by omega) (by omega) hf (by omega)) fun m hm=>wP hm.1.1 ?_
  rw [w64 (by omega) (by omega)];show Ok (LE _ _ _ _ _ _ _) _;unfold LE;exact xV (fun h=>by omega) fun h=>yB ⟨20,rfl,hm.1,hm.2.1,by omega⟩
 rintro ⟨q,m⟩ ⟨a,e,h1,h2,h3⟩;simp only at e h1 h2 ⊢;subst e;have hlm:m.length=l.length:=h1.1;rcases zlg a l.length with hlt | hge
 ·refine yX (zFJ a l.length (l:=m) (by omega) (by omega) hlt (hf.from h1) (by omega)) fun k hk=>wP hk.1.1 ?_
  have hlk:k.length=l.length:=hk.1.1.trans hlm;have hk0:Srt w k 0 a:=fun i j i1 i2 i3=>by rw [hk.2.2 i (by omega),hk.2.2 j (by omega)];exact h2 i j i1 i2 i3
  refine yX (P:=fun r=>From l r/\Srt w r 0 l.length) ?_ fun r hr=>yB hr
  show Ok (C7 _ _ _ _ _ _) _;unfold C7;refine xV (fun h=>?_) fun h=>yB ⟨h1.trans hk.1,?_⟩
  ·have ha:a=20:=by omega
   subst ha;refine yX (P:=fun o:Int×List Int=>o=(0,k)) ?_ ?_
   ·show Ok (XC _ _ _ _ _ _ _ _) _;unfold XC;rw [w64 (by omega) (by omega)];exact xV (fun h=>by omega) fun h=>yB rfl
   ·rintro _ rfl;simp only;rw [w64 (x:=(0:Int)+20) (by omega) (by omega)];refine yX (P:=fun r=>From l r/\Srt w r 0 l.length) ?_ fun r hr=>?_
    ·refine xV (fun h=>?_) fun h=>by omega
     refine yX (zLR (w:=w) l.length (G+1+1+1) 0 20 l.length k (by omega) (by omega) (by omega) (by omega) (by omega) (by omega) (hf.from (h1.trans hk.1)) hk0 hk.2.1) fun r hr=>wP hr.fr.1 (yB ⟨(h1.trans hk.1).trans hr.fr,hr.srt⟩)
    ·rw [w64 (by omega) (by omega)];show Ok (C7 _ _ _ _ _ _) _;unfold C7;exact xV (fun h=>by omega) fun h=>yB hr
  ·have:a=0:=by omega
   subst this;exact hk.2.1
 · -- nothing is behind the last block
  have hle:l.length=a:=by omega
  refine yX (P:=fun k=>From l k/\Srt w k 0 l.length) ?_ fun k hk=>wP (hk.1.1.trans hlm.symm) ?_
  ·unfold GK;rw [w5];refine yX (P:=fun k=>From l k/\Srt w k 0 l.length) ?_ fun m hm=>yB hm
   show Ok (JM _ _ _ _ _ _ _) _;unfold JM;exact xV (fun h=>by omega) fun h=>yB ⟨h1,by rw [hle];exact h2⟩
  ·refine yX (P:=fun r=>From l r/\Srt w r 0 l.length) ?_ fun r hr=>yB hr
   show Ok (C7 _ _ _ _ _ _) _;unfold C7;exact xV (fun h=>by omega) fun h=>yB hk
end
end Go.Ab
