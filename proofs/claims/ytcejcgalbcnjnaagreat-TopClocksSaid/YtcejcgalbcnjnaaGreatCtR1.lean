/- Lemmas. No conditions but those that they name. -/
import Derived.Test.YtcejcgalbcnjnaaGreatCtS4
namespace Go.Ab
open Go
set_option linter.unusedVariables false
def fG (C:Nat->List Int) (next:List (List Int)):List (List Int):=(List.range next.length).map fun a=>next.getD a []++C a
theorem dL (C:Nat->List Int) (next:List (List Int)):(fG C next).length=next.length:=by simp [fG]
theorem rU {C:Nat->List Int} {next:List (List Int)} {a:Nat} (h:a<next.length):(fG C next).getD a []=next.getD a []++C a:=by
 rw [vQ];simp [fG,h]
theorem zAZ {α:Type} {l m:List (List α)} (h:l.length=m.length) (h2:∀ a,a<l.length->l.getD a []=m.getD a []):l=m:=by
 apply SA;intro i
 by_cases hi:i<l.length
 ·rw [jG [] hi,jG [] (h ▸ hi),h2 i hi]
 ·rw [vH (by omega),vH (by omega)]
theorem zA4 (next:List (List Int)):fG (fun _=>[]) next=next:=zAZ (dL _ _) fun a h=>by
 rw [rU (by rw [dL] at h;exact h),aE]
theorem zBF (C D:Nat->List Int) (next:List (List Int)):fG D (fG C next)=fG (fun a=>C a++D a) next:=zAZ (by simp [dL]) fun a h=>by
 rw [dL,dL] at h;rw [rU (by rw [dL];exact h),rU h,rU h,oT]
theorem zLL {next:List (List Int)} {i:Nat} (h:i<next.length) (g:List Int):next.set i (next.getD i []++g)=fG (fun a=>if a=i then g else []) next:=zAZ (by simp [dL]) fun a ha=>by
 rw [kW] at ha;rw [rU ha,qT h]
 by_cases e:a=i
 ·rw [if_pos e,if_pos e,e]
 ·rw [if_neg e,if_neg e,aE]
def DF (n:Nat) (C:Nat->List Int) (f:List (List Int)->Option (List (List Int))):Prop :=
 ∀ row,row.length=n->(∀ a,(row.getD a []).length+(C a).length<=1000000000000)->f row=some (fG C row)
theorem zIP {n:Nat} {C D:Nat->List Int} {f g:List (List Int)->Option (List (List Int))} (hf:DF n C f) (hg:DF n D g):DF n (fun a=>C a++D a) fun r=>(f r).bind g:=by
 intro row hn hb;show (f row).bind g=_;rw [hf row hn fun a=>by have:=hb a;simp only [zla] at this;omega,zbs,hg _ (by rw [dL];exact hn) ?_,zBF];intro a
 by_cases ha:a<row.length
 ·rw [rU ha,zla];have:=hb a;simp only [zla] at this;omega
 ·rw [vQ,vH (by rw [dL];omega)]
  have:=hb a;simp only [zla] at this
  simp;omega
theorem zKM {l:List Int} {k o:Nat} {x:Int} (h:x∈(l.take o).drop k):∃ q,k<=q/\q<o/\q<l.length/\gt0 l q=x:=by
 obtain ⟨i,hi,e⟩:=List.mem_iff_getElem.mp h;rw [DU,nL] at hi;refine ⟨k+i,by omega,by omega,by omega,?_⟩;rw [List.getElem_drop,List.getElem_take] at e;unfold gt0;rw [vQ,w7 (by omega)];exact e
section
variable {w:yR} {F:Nat}
theorem zLv {l:List Int} (hl:l.length<1000) (hf:dB w l) (hs:Srt w l 0 l.length) (hF:1000<F) {k:Nat} (hk:k<l.length) :
  Ok (K7 F w l k F k) fun o=>∃ m:Nat,o=m/\k<m/\m<=l.length/\(∀ q,k<=q->q<m->atW w (gt0 l q)=atW w (gt0 l k))/\∀ q,m<=q->q<l.length->atW w (gt0 l k)<atW w (gt0 l q):=by
 refine gN (σ:=Nat) (fun n s=>K7 F w l k n s)
  (fun s=>k<=s/\s<=l.length/\∀ q,k<=q->q<s->atW w (gt0 l q)=atW w (gt0 l k)) _ (fun s=>l.length - s) ?_ F k ⟨yI _,by omega,fun q h1 h2=>by omega⟩ (by omega)
 rintro n s ⟨h1,h2,h3⟩ ih;show Ok (SE _ _ _ _ _ _) _;unfold SE;refine yX (P:=fun c=>c=true↔(s<l.length/\atW w (gt0 l s)=atW w (gt0 l k))) ?_ fun c hc=>?_
 ·refine xV (fun hj=>?_) fun hj=>yB (by simp;omega)
  have hj':s<l.length:=by omega
  refine wO fun x hx=>?_
  have ex:gt0 l s=x:=by rw [<- getD_some (d:=0) hx];rfl
  have hmx:=hf x (yN hx);refine vK hmx.1 hmx.2 fun u hu=>wO fun y hy=>?_
  have ey:gt0 l k=y:=by rw [<- getD_some (d:=0) hy];rfl
  have hmy:=hf y (yN hy);refine vK hmy.1 hmy.2 fun v hv=>yB ?_
  have e1:atW w x=u.At:=by unfold atW ev;rw [getD_some hu]
  have e2:atW w y=v.At:=by unfold atW ev;rw [getD_some hv]
  rw [ex,ey,e1,e2];simp [hj']
 ·refine vZ (fun h=>?_) fun h=>yB ?_
  ·obtain ⟨a1,a2⟩:=hc.mp h;rw [w5];refine ih (s+1) ⟨by omega,by omega,fun q q1 q2=>?_⟩ (by omega);rcases zlg q s with hq | hq
   ·exact h3 q q1 hq
   ·rw [show q=s by omega];exact a2
  ·have hn:¬(s<l.length/\atW w (gt0 l s)=atW w (gt0 l k)):=fun hh=>by rw [hc.mpr hh] at h;cases h
   have hks:k<s:=by
    rcases zlg k s with hh | hh
    ·exact hh
    ·exact absurd ⟨by omega,by rw [show s=k by omega]⟩ hn
   refine ⟨s,rfl,hks,h2,h3,fun q q1 q2=>?_⟩;have a1:=hs k s (wI _) hks (by omega);have a2:atW w (gt0 l s)≠atW w (gt0 l k):=fun hh=>hn ⟨by omega,hh⟩
   rcases zlg s q with hh | hh
   ·have:=hs s q (wI _) hh (by omega);omega
   ·rw [show q=s by omega];omega
theorem zGE {nx:List (List Int)} {l:List Int} (hl:l.length<40) (hf:dB w l) {n:Nat} (hn:w.next.length=n) (hn2:w.Xm.length=n) {b1 b2 k o:Nat} (hb:b2<=l.length) (hk:k<=o) (ho:o<=l.length) :
  ∀ (m f v:Nat),m<f->b1+v+m=b2\/m=0/\b2<=b1+v->v<1000->∃ C,(∀ nx,DF n C fun row=>OB F w nx l b1 b2 k o f v row)/\(∀ a,(C a).length<=m * 40)/\∀ a x,x∈C a->∃ p q,b1<=p/\p<b2/\k<=q/\q<o/\gt0 l p=(a:Int)/\gt0 l q=x:=by
 intro m
 induction m with
 | zero =>
  intro f v hf' hv hv2;refine ⟨fun _=>[],fun nx row h1 h2=>?_,fun a=>by simp,fun a x h=>by simp at h⟩;obtain ⟨f,rfl⟩:∃ g,f=g+1:=⟨f - 1,by omega⟩;show G5 _ _ _ _ _ _ _ _ _ _ _=_;unfold G5;rw [xN (by omega),cond_false,zA4]
 | succ m ih =>
  intro f v hf' hv hv2;obtain ⟨f,rfl⟩:∃ g,f=g+1:=⟨f - 1,by omega⟩;obtain ⟨C,hC,hC2,hC3⟩:=ih f (v+1) (by omega) (by omega) (by omega);obtain ⟨g,hg⟩:∃ g,l.getD (b1+v) 0=g:=⟨_,rfl⟩;have hmem:g∈l:=hg ▸ zAr (by omega);obtain ⟨i1,i2⟩:=hf _ hmem;have hlen:((l.take o).drop k).length<=40:=by rw [DU,nL];omega
  refine ⟨fun a=>(if a=g.toNat then (l.take o).drop k else [])++C a,fun nx=>?_,fun a=>?_,fun a x h=>?_⟩
  ·intro row h1 h2;show G5 _ _ _ _ _ _ _ _ _ _ _=_;unfold G5;rw [wE (by omega),cond_true,tB (by omega),zbs,show b1+((v:Nat):Int).toNat=b1+v by omega,jG 0 (by omega),zbs,hg];rw [WS i1,jG [] (by omega),zbs,tB (by omega),zbs,tB (by omega),zbs,tB (by omega),zbs];have hb':=h2 g.toNat;simp only [if_pos,zla] at hb';simp only [wB];rw [tB (by omega),zbs,zbs,zLL (by omega),w5]
   have:=hC nx (fG (fun a=>if a=g.toNat then (l.take o).drop k else []) row) (by rw [dL];exact h1) ?_
   ·rw [zBF] at this;exact this
   ·intro a
    have:=h2 a
    simp only [zla] at this
    by_cases ha:a<row.length
    ·rw [rU ha,zla];omega
    ·rw [vQ,vH (by rw [dL];omega)];show 0+_<=_;omega
  ·have:=hC2 a
   show (_++_:List Int).length<=_;rw [zla]
   by_cases e:a=g.toNat
   ·rw [if_pos e];omega
   ·rw [if_neg e];show 0+_<=_;omega
  ·rcases wL.mp h with h | h
   ·by_cases e:a=g.toNat
    ·rw [if_pos e] at h;obtain ⟨q,q1,q2,q3,q4⟩:=zKM h;exact ⟨b1+v,q,by omega,by omega,q1,q2,by show l.getD _ _=_;omega,q4⟩
    ·rw [if_neg e] at h;cases h
   ·exact hC3 a x h
theorem zMn {l:List Int} (hl:l.length<40) (hf:dB w l) (hs:Srt w l 0 l.length) {n:Nat} (hn:w.next.length=n) (hn2:w.Xm.length=n) (hF:1000<F) :
  ∀ (m f b1 b2 k:Nat),m<f->k+m=l.length->b2<=k->(∀ p q,b1<=p->p<b2->k<=q->q<l.length->atW w (gt0 l p)<atW w (gt0 l q)) ->
  ∃ C,(∀ nx,DF n C fun row=>MW F w nx l f b1 b2 k row)/\(∀ a,(C a).length<=m * 1600)/\∀ a x,x∈C a->(a:Int)∈l/\x∈l/\atW w a<atW w x:=by
 intro m
 induction m using Nat.strongRecOn with
 | ind m ih =>
  intro f b1 b2 k hf' hk hb hlt;obtain ⟨f,rfl⟩:∃ g,f=g+1:=⟨f - 1,by omega⟩;rcases DD m with h0 | h0
  ·refine ⟨fun _=>[],fun nx row h1 h2=>?_,fun a=>by simp,fun a x h=>by simp at h⟩;show HH _ _ _ _ _ _ _ _ _=_;unfold HH;rw [xN (by omega),cond_false,zA4]
  ·obtain ⟨_,ho,o,rfl,o1,o2,o3,o4⟩:=zLv (w:=w) (F:=F) (by omega) hf hs hF (k:=k) (by omega);obtain ⟨C,hC,hC2,hC3⟩:=zGE (F:=F) (nx:=[]) (b1:=b1) hl hf hn hn2 (b2:=b2) (k:=k) (o:=o) (by omega) (by omega) o2 (b2 - b1) F 0 (by omega) (by omega) (by omega);obtain ⟨D,hD,hD2,hD3⟩:=ih (l.length - o) (by omega) f k o o (by omega) (by omega) (yI _) fun p q p1 p2 q1 q2=>by
    rw [o3 p p1 p2];exact o4 q q1 q2
   refine ⟨fun a=>C a++D a,fun nx=>?_,fun a=>?_,fun a x h=>?_⟩
   ·intro row h1 h2;show HH _ _ _ _ _ _ _ _ _=_;unfold HH;rw [wE (by omega),cond_true,ho,zbs]
    have:=zIP (hC nx) (hD nx) row h1 h2
    simp only [wB] at this ⊢;rw [tB (by omega)];exact this
   ·have:=hC2 a
    have:=hD2 a
    rw [zla];have h40:b2 - b1<=40:=by omega
    have:(b2 - b1) * 40<=1600:=by omega
    have:(l.length - o) * 1600+1600<=m * 1600:=by omega
    omega
   ·rcases wL.mp h with h | h
    ·obtain ⟨p,q,p1,p2,q1,q2,e1,e2⟩:=hC3 a x h;have hp:gt0 l p∈l:=zAr (by omega);have hq:gt0 l q∈l:=zAr (by omega);rw [e1] at hp;rw [e2] at hq;refine ⟨hp,hq,?_⟩;rw [<- e1,<- e2];exact hlt p q p1 p2 q1 (by omega)
    ·exact hD3 a x h
theorem zLz {l:List Int} (hl:l.length<40) (hf:dB w l) {n:Nat} (hn:w.next.length=n) (hn2:w.Xm.length=n) (hF:9000<F) :
  ∃ C,DF n C (BD F w l)/\(∀ a,(C a).length<=64000)/\∀ a x,x∈C a->(a:Int)∈l/\x∈l/\atW w a<atW w x:=by
 obtain ⟨r,hr,h1,h2⟩:=zK1 (w:=w) (F:=F) hl hf (by omega);obtain ⟨C,hC,hC2,hC3⟩:=zMn (w:=w) (F:=F) (l:=r) (by rw [h1.1];exact hl) (hf.from h1) (by rw [h1.1];exact h2) hn hn2 (by omega) r.length F 0 0 0 (by rw [h1.1];omega) (by omega) (yI _) fun p q _ h=>by omega
 refine ⟨C,fun row a b=>?_,fun a=>?_,fun a x h=>?_⟩
 ·unfold BD;rw [hr,zbs,tB h1.1,zbs]
  have:=hC row row a b
  simp only at this;have e:((0:Nat):Int)=0:=rfl;rw [e] at this;rw [this,zbs]
 ·have:=hC2 a
  have:r.length * 1600<=64000:=by rw [h1.1];omega
  omega
 ·obtain ⟨a1,a2,a3⟩:=hC3 a x h;exact ⟨h1.2 _ a1,h1.2 _ a2,a3⟩
end
end Go.Ab
