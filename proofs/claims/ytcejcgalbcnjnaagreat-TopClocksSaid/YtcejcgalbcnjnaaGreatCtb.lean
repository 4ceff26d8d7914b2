/- Lemmas. No conditions but those that they name. -/
import Derived.Test.YtcejcgalbcnjnaaGreatCta
import Derived.Test.YtcejcgalbcnjnaaGreatBtd
namespace Go.Ab
open Go
set_option linter.unusedVariables false
def BE (k:Int) (a:Int×Int) (p:zO):Int×Int:=if p.Xb=k then (p.Xf+p.Xe.length,zAd p.Xe) else a
def qU (l:List zO) (k:Int):Int×Int:=l.foldl (BE k) (0,0)
theorem zBy (l:List zO) (p:zO) (k:Int):qU (l++[p]) k=BE k (qU l k) p:=by simp [qU]
def evN (l:List zO):Nat:=(l.map fun p=>p.Xe.length).sum
theorem XY (l:List zO) (p:zO):evN (l++[p])=evN l+p.Xe.length:=by simp [evN]
theorem zG6 (l m:List zO):evN (l++m)=evN l+evN m:=by simp [evN]
theorem zFj {l:List zO} {p:zO} (h:p∈l):p.Xe.length<=evN l:=by
 induction l with
 | nil=>cases h
 | cons a r ih =>
  simp only [evN,uM,lS];rcases uA.1 h with rfl | h
  ·omega
  ·have:=ih h;simp only [evN] at this;omega
theorem RA (l:List zO) (i:Nat):evN (l.take i)<=evN l:=by
 have:=zG6 (l.take i) (l.drop i)
 rw [VQ] at this;omega
def o9 (l:List zO):Prop:=∀ p∈l,kY p=0
theorem zLy {l:List zO} (h:o9 l) (k:Int):0<=(qU l k).1/\(qU l k).1<=1000000000000000:=by
 have:∀ (l:List zO) (a:Int×Int),o9 l->0<=a.1/\a.1<=1000000000000000->0<=(l.foldl (BE k) a).1/\(l.foldl (BE k) a).1<=1000000000000000:=by
  intro l
  induction l with
  | nil=>intro a _ h;exact h
  | cons p r ih =>
   intro a h ha;refine ih _ (fun q hq=>h q (by simp [hq])) ?_
   have:=lJ (h p (by simp))
   unfold BE
   split
   ·simp only;omega
   ·exact ha
 exact this l _ h (by simp)
theorem zIn {l:List zO} (h:o9 l) {p:zO} (hp:p∈l):0<p.Xe.length:=(lJ (h p hp)).2.2.2.2.2.2.1
def lO (l:List zO) (p:zO):Bool:=decide (p.Xf=(qU l p.Xb).1+p.Xh)&&decide (zCV p.Xe>=(qU l p.Xb).2)
theorem zNr {l:List zO} {p:zO} (hv:o9 l) (hp:kY p=0):MI ⟨(qU l p.Xb).1,(qU l p.Xb).2⟩ p=some (lO l p):=by
 have hz:=lJ hp;have hr:=zLy hv p.Xb;obtain ⟨e,h1,h2⟩:=zNk hz.2.2.2.2.2.2.1;unfold MI lO;rw [h1,w64 (by omega) (by omega),zbs,h2]
 by_cases h:p.Xf=(qU l p.Xb).1+p.Xh
 ·rw [qN (show p.Xf - p.Xh=(qU l p.Xb).1 by omega),wE h];simp
 ·rw [nK (show p.Xf - p.Xh≠(qU l p.Xb).1 by omega),xN h];simp
theorem zMs {l:List zO} {p:zO} {t:tG} (hp:kY p=0) (hl:p.Xe.length<=100000):OQ t p=some ⟨(qU (l++[p]) p.Xb).1,(qU (l++[p]) p.Xb).2⟩:=by
 have hz:=lJ hp;obtain ⟨e,h1,h2⟩:=zOc hz.2.2.2.2.2.2.1 hl;unfold OQ;rw [h1,zbs,w64 (by omega) (by omega),h2,zBy];simp [BE]
def cE (h:wR):List Int:=h.Xd.map (·.Id)
def lG (h:wR) (l:List zO) (i:Nat) (p:zO):Option Int :=
 if kY p≠0 then some (kY p) else if p.Xb∉cE h then some 5 else if lO (l.take i) p=false then some 11 else none
def AR (h:wR) (l:List zO):Int:=match u6 (lG h l) 0 l with | .inr q=>q | .inl _=>if evN l>20000 then 7 else 0
theorem zNJ {h:wR} (hl:h.Xd.length<=100000):∀ (n i:Nat) (row:List (Int×tG)),i<=h.Xd.length->row.length<=i->(∀ k,zV row k=if k∈(cE h).take i then some ⟨0,0⟩ else none)->(h.Xd.drop i).length<n ->
  ∃ row',CW 281474976710656 h n (i:Nat) row=some row'/\row'.length<=h.Xd.length/\∀ k,zV row' k=if k∈cE h then some ⟨0,0⟩ else none:=by
 intro n
 induction n with
 | zero=>intro i row _ _ _ h;omega
 | succ n ih =>
  intro i row hil hlen hg hn;have hu:CW 281474976710656 h (n+1) (i:Nat) row=S2 281474976710656 h (CW 281474976710656 h n) (i:Nat) row:=rfl;rw [hu];unfold S2;rcases hd:h.Xd.drop i with _ | ⟨x,r⟩
  ·have:=fM hd
   rw [xN (by omega),cond_false];refine ⟨row,rfl,by omega,fun k=>?_⟩;rw [hg,kC (by simpa [cE] using this)]
  ·have hi:=fL hd;rw [hd] at hn;simp only [zlc] at hn;rw [wE (by omega),cond_true,qB hd,zbs,tB (by omega),zbs,j6 (by omega)];refine ih (i+1) _ (by omega) (by have:=dG row x.Id (⟨0,0⟩:tG);omega) ?_ (by rw [nN hd];omega);intro k;rw [dJ,hg];have ht:(cE h).take (i+1)=(cE h).take i++[x.Id]:=by
    unfold cE;rw [<- O4,<- O4,lD hd];simp
   rw [ht]
   by_cases hk:x.Id=k
   ·rw [if_pos hk,if_pos (by simp [hk])]
   ·rw [if_neg hk];simp [Ne.symm hk]
theorem zIE {α β:Type} (f:Nat->α->Option β) (i:Nat) (x:α) (r:List α):u6 f i (x::r)=match f i x with | none=>u6 f (i+1) r | some b=>.inr b:=rfl
theorem zHZ {h:wR} {l:List zO} (hl:l.length<=100000) (hN:evN l<=100000) (ht:h.Xd.length<=100000):∀ (n i:Nat) (row:List (Int×tG)),row.length<=100000+i->o9 (l.take i) ->
  (∀ k,zV row k=if k∈cE h then some ⟨(qU (l.take i) k).1,(qU (l.take i) k).2⟩ else none)->(l.drop i).length<n ->
  BM 281474976710656 l n (evN (l.take i):Nat) (i:Nat) row=some (match u6 (lG h l) i (l.drop i) with | .inr q=>.inr q | .inl _=>.inl (evN l:Nat)):=by
 intro n
 induction n with
 | zero=>intro i row _ _ _ h;omega
 | succ n ih =>
  intro i row hlen hv hg hn;have hu:BM 281474976710656 l (n+1) (evN (l.take i):Nat) (i:Nat) row=TF 281474976710656 l (BM 281474976710656 l n) (evN (l.take i):Nat) (i:Nat) row:=rfl;rw [hu];unfold TF;rcases hd:l.drop i with _ | ⟨x,r⟩
  ·have:=fM hd
   rw [xN (by omega),cond_false,kC this];rfl
  ·have hi:=fL hd;rw [hd] at hn;simp only [zlc] at hn;have hx:=OO hd;have hle:=zFj hx;have hlt:=RA l i;rw [wE (by omega),cond_true,qB hd,zbs,zMV (by omega),zbs,zIE,
    show lG h l i x=if kY x≠0 then some (kY x) else if x.Xb∉cE h then some 5 else if lO (l.take i) x=false then some 11 else none from rfl]
   by_cases h1:kY x≠0
   ·rw [if_pos h1,aN h1];rfl
   have h1:kY x=0:=by omega
   rw [if_neg (by omega),tV h1,cond_false]
   by_cases h2:x.Xb∈cE h
   ·rw [if_neg (by simpa using h2)];have hrow:zV row x.Xb=some ⟨(qU (l.take i) x.Xb).1,(qU (l.take i) x.Xb).2⟩:=by rw [hg,if_pos h2]
    rw [hrow];simp only [W0];rw [zNr hv h1,zbs];cases h3:lO (l.take i) x
    ·simp
    ·have hv':o9 (l.take (i+1)):=by
      rw [lD hd];intro p hp;rcases wL.1 hp with hp | hp
      ·exact hv p hp
      ·rw [uO.1 hp];exact h1
     have hN':evN (l.take (i+1))=evN (l.take i)+x.Xe.length:=by rw [lD hd,XY]
     simp only [cO,cond_false,Bool.true_eq_false,if_false];rw [zMs (l:=l.take i) h1 (by omega),zbs,j6 (by omega),w64 (by omega) (by omega)]
     have:=ih (i+1) (xC row x.Xb ⟨(qU (l.take i++[x]) x.Xb).1,(qU (l.take i++[x]) x.Xb).2⟩) (by have:=dG row x.Xb (⟨(qU (l.take i++[x]) x.Xb).1,(qU (l.take i++[x]) x.Xb).2⟩:tG);omega) hv' ?_ (by rw [nN hd];omega)
     ·rw [nN hd,hN'] at this;rw [show ((evN (l.take i):Nat):Int)+(x.Xe.length:Int)=((evN (l.take i)+x.Xe.length:Nat):Int) by omega];exact this
     ·intro k;rw [dJ,hg,lD hd]
      by_cases hk:x.Xb=k
      ·subst hk;rw [if_pos rfl,if_pos h2]
      ·rw [if_neg hk,zBy];simp only [BE,if_neg hk]
   ·have hrow:zV row x.Xb=none:=by rw [hg,if_neg h2]
    rw [if_pos h2,hrow];rfl
theorem zO3 {h:wR} {l:List zO} (hl:l.length<=100000) (hN:evN l<=100000) (ht:h.Xd.length<=100000):MO 281474976710656 h l=some (AR h l):=by
 unfold MO AR;obtain ⟨row,h1,h2,h3⟩:=zNJ ht 281474976710656 0 [] (by omega) (by simp) (by simp [zV]) (by simp;omega);rw [show CW 281474976710656 h 281474976710656 (0:Int) []=some row from h1,zbs]
 have:=zHZ (h:=h) hl hN ht 281474976710656 0 row (by omega) (fun p hp=>by simp at hp) (by simpa [qU] using h3) (by simp;omega)
 simp only [WX,zdz] at this;rw [show BM 281474976710656 l 281474976710656 (0:Int) (0:Int) row=_ from this,zbs];cases u6 (lG h l) 0 l with
 | inr q=>rfl
 | inl u =>
  simp only
  by_cases hc:evN l>20000
  ·rw [if_pos hc,wE (by omega)];rfl
  ·rw [if_neg hc,xN (by omega)];rfl
end Go.Ab
