/- Lemmas. No conditions but those that they name. -/
import Derived.Test.YtcejcgalbcnjnaaGreatPtxD
import Derived.Test.YtcejcgalbcnjnaaGreatCtW
namespace Go.Ab
open Go
set_option linter.unusedVariables false
def ev (w:yR) (x:Int):y8:=w.Xm.getD x.toNat default
def atW (w:yR) (x:Int):Int:=(ev w x).At
abbrev gt0 (l:List Int) (i:Nat):Int:=l.getD i 0
def dB (w:yR) (l:List Int):Prop:=∀ x∈l,0<=x/\x<w.Xm.length
def From (l l':List Int):Prop:=l'.length=l.length/\∀ x∈l',x∈l
def Srt (w:yR) (l:List Int) (a b:Nat):Prop:=∀ i j,a<=i->i<j->j<b->atW w (gt0 l i)<=atW w (gt0 l j)
theorem From.refl (l:List Int):From l l:=⟨rfl,fun _ h=>h⟩
theorem From.trans {l m k:List Int} (h:From l m) (h2:From m k):From l k:=⟨h2.1.trans h.1,fun x hx=>h.2 x (h2.2 x hx)⟩
theorem dB.from {w:yR} {l m:List Int} (h:dB w l) (h2:From l m):dB w m:=fun x hx=>h x (h2.2 x hx)
theorem zAr {l:List Int} {i:Nat} (h:i<l.length):gt0 l i∈l:=yN (jG 0 h)
theorem WL {l:List Int} {i j:Nat} {x y:Int} (hx:x∈l) (hy:y∈l):From l ((l.set i x).set j y):=by
 refine ⟨by simp,fun z hz=>?_⟩;rcases mY hz with h | rfl
 ·rcases mY h with h | rfl
  ·exact h
  ·exact hx
 ·exact hy
theorem WO {w:yR} {x y:Int} (hx:0<=x/\x<w.Xm.length) (hy:0<=y/\y<w.Xm.length):∃ r,C5 x y w=some r/\(r<0↔atW w x<atW w y):=by
 unfold C5;refine vK hx.1 hx.2 fun u hu=>vK hy.1 hy.2 fun v hv=>?_
 have e1:atW w x=u.At:=by unfold atW ev;rw [getD_some hu]
 have e2:atW w y=v.At:=by unfold atW ev;rw [getD_some hv]
 unfold X6 N0;simp only [zbs,bne_self_eq_false,cond_false,e1,e2]
 by_cases h:u.At<v.At
 ·rw [wE h];exact ⟨-1,rfl,by simp [h]⟩
 ·rw [xN h,cond_false]
  by_cases h2:u.At>v.At
  ·rw [wE h2];exact ⟨1,rfl,by simp [h]⟩
  ·rw [xN h2];exact ⟨0,rfl,by simp [h]⟩
section
variable {w:yR} {F:Nat}
theorem zKf (a i:Nat) {l:List Int} (hl:l.length<1000) (hi:i<l.length) (ha:a<=i) (hf:dB w l) (hs:Srt w l a i) (hF:1000<F) :
  Ok (JB F a w F i l) fun m=>From l m/\Srt w m a (i+1)/\∀ p,p<a\/i<p->gt0 m p=gt0 l p:=by
 refine gN (σ:=Nat×List Int) (fun n s=>JB F a w n s.1 s.2)
  (fun s=>a<=s.1/\s.1<=i/\From l s.2/\(∀ p q,a<=p->p<q->q<=i->p≠s.1->q≠s.1->atW w (gt0 s.2 p)<=atW w (gt0 s.2 q))/\(∀ q,s.1<q->q<=i->atW w (gt0 s.2 s.1)<atW w (gt0 s.2 q))/\∀ p,p<a\/i<p->gt0 s.2 p=gt0 l p)
  _ (fun s=>s.1) ?_ F (i,l) ⟨ha,yI _,.refl l,fun p q h1 h2 h3 h4 h5=>hs p q h1 h2 (by omega),fun q h1 h2=>by omega,fun _ _=>rfl⟩ (by simp only;omega)
 rintro n ⟨j,m⟩ ⟨h1,h2,h3,h4,h5,h6⟩ ih;simp only at h1 h2 h3 h4 h5 h6 ih ⊢;have hlen:m.length=l.length:=h3.1;have hfm:=hf.from h3;show Ok (VF _ _ _ _ _ _) _;unfold VF;refine yX (P:=fun c=>c=true↔(a<j/\atW w (gt0 m j)<atW w (gt0 m (j - 1)))) ?_ fun c hc=>?_
 ·refine xV (fun hj=>?_) fun hj=>yB (by simp;omega)
  rw [o8];refine wO fun x hx=>wO fun y hy=>?_
  have ex:gt0 m j=x:=by rw [<- getD_some (d:=0) hx];rfl
  have ey:gt0 m (j - 1)=y:=by rw [<- getD_some (d:=0) hy];congr 1;omega
  obtain ⟨r,hr,hr2⟩:=WO (hfm x (yN hx)) (hfm y (yN hy));refine pU hr (yB ?_);rw [decide_eq_true_iff,hr2,ex,ey];exact ⟨fun h=>⟨by omega,h⟩,fun h=>h.2⟩
 refine vZ (fun e=>?_) fun e=>yB ?_
 ·obtain ⟨c1,c2⟩:=hc.1 e;rw [o8];refine wO fun x hx=>wO fun y hy=>wO fun z hz=>vK (by omega) (by simp;omega) fun u hu=>?_
  have ej:((j:Int) - 1).toNat=j - 1:=by omega
  have ej2:(j:Int).toNat=j:=by omega
  rw [ej] at hx;rw [ej2] at hy;have ex:gt0 m (j - 1)=x:=getD_some hx;have ey:gt0 m j=y:=getD_some hy;rw [ej,ej2,show (j:Int) - 1=((j - 1:Nat):Int) by omega];have hg:∀ p,gt0 ((m.set j x).set (j - 1) y) p=if p=j - 1 then y else if p=j then x else gt0 m p:=fun p=>by
   unfold gt0;rw [qT (by simp;omega),qT (by omega)]
  refine ih (j - 1,_) ⟨by simp only;omega,by simp only;omega,h3.trans (WL (yN hx) (yN hy)),fun p q q1 q2 q3 q4 q5=>?_,fun q q1 q2=>?_,fun p hp=>?_⟩ (by simp only;omega)
  ·simp only at q4 q5 ⊢;rw [hg,hg,if_neg q4,if_neg q5]
   by_cases e1:p=j
   ·rw [if_pos e1,if_neg (by omega),<- ex];exact h4 _ _ (by omega) (by omega) q3 (by omega) (by omega)
   ·rw [if_neg e1]
    by_cases e2:q=j
    ·rw [if_pos e2,<- ex];exact h4 _ _ q1 (by omega) (by omega) e1 (by omega)
    ·rw [if_neg e2];exact h4 _ _ q1 q2 q3 e1 e2
  ·simp only at q1 ⊢;rw [hg,hg,if_pos rfl,if_neg (by omega)]
   by_cases e1:q=j
   ·rw [if_pos e1,<- ey,<- ex];exact c2
   ·rw [if_neg e1,<- ey];exact h5 q (by omega) q2
  ·simp only;rw [hg,if_neg (by omega),if_neg (by omega)];exact h6 p hp
 ·refine ⟨h3,fun p q q1 q2 q3=>?_,h6⟩;have hno:¬ (a<j/\atW w (gt0 m j)<atW w (gt0 m (j - 1))):=fun h=>by rw [hc.2 h] at e;cases e
  by_cases e1:p=j
  ·subst e1;exact Int.le_of_lt (h5 q q2 (by omega))
  ·by_cases e2:q=j
   ·subst e2;have h7:atW w (gt0 m (q - 1))<=atW w (gt0 m q):=by
     rcases MD (atW w (gt0 m q)) (atW w (gt0 m (q - 1))) with h | h
     ·exact absurd ⟨by omega,h⟩ hno
     ·exact h
    by_cases e3:p=q - 1
    ·rw [e3];exact h7
    ·exact Int.le_trans (h4 p (q - 1) q1 (by omega) (by omega) e1 (by omega)) h7
   ·exact h4 p q q1 q2 (by omega) e1 e2
theorem zFJ (a b:Nat) {l:List Int} (hl:l.length<1000) (hb:b<=l.length) (ha:a<b) (hf:dB w l) (hF:1000<F) :
  Ok (GK F l a b w) fun m=>From l m/\Srt w m a b/\∀ p,p<a\/b<=p->gt0 m p=gt0 l p:=by
 unfold GK;rw [w5];refine yX (P:=fun m=>From l m/\Srt w m a b/\∀ p,p<a\/b<=p->gt0 m p=gt0 l p) ?_ fun m hm=>yB hm
 refine gN (σ:=Nat×List Int) (fun n s=>MA F a b w n s.1 s.2) (fun s=>a<s.1/\s.1<=b/\From l s.2/\Srt w s.2 a s.1/\∀ p,p<a\/b<=p->gt0 s.2 p=gt0 l p) _ (fun s=>b - s.1) ?_ F (a+1,l)
  ⟨by simp,by simp only;omega,.refl l,fun i j h1 h2 h3=>by simp only at h3;omega,fun _ _=>rfl⟩ (by simp only;omega)
 rintro n ⟨i,m⟩ ⟨h1,h2,h3,h4,h5⟩ ih;simp only at h1 h2 h3 h4 h5 ih ⊢;have hlen:m.length=l.length:=h3.1;show Ok (JM _ _ _ _ _ _ _) _;unfold JM;refine xV (fun hlt=>?_) fun hge=>yB ⟨h3,by rwa [show i=b by omega] at h4,h5⟩
 refine yX (zKf a i (l:=m) (by omega) (by omega) (by omega) (hf.from h3) h4 hF) fun k hk=>?_
 rw [w5];exact ih (i+1,k) ⟨by simp only;omega,by simp only;omega,h3.trans hk.1,hk.2.1,fun p hp=>(hk.2.2 p (by omega)).trans (h5 p hp)⟩ (by simp only;omega)
end
end Go.Ab
