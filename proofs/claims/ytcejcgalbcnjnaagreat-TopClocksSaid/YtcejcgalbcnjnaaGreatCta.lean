/- Lemmas. No conditions but those that they name. -/
import Derived.Test.YtcejcgalbcnjnaaGreatBte
import Derived.Test.YtcejcgalbcnjnaaGreatCtz
namespace Go.Ab
open Go
set_option linter.unusedVariables false
theorem NJ {α β:Type} {l:List α} (L:Nat->Int->Option (Unit⊕β)) (f:Nat->α->Option β) (hl:l.length<=100000)
  (h0:∀ n i,l.length<=i->L (n+1) (i:Nat)=some (.inl ()))
  (h1:∀ n i x r,l.drop i=x::r->i<l.length->L (n+1) (i:Nat)=match f i x with | none=>L n ((i+1:Nat):Int) | some b=>some (.inr b)):L 281474976710656 0=some (u6 f 0 l):=by
 have key:∀ (n i:Nat),(l.drop i).length<n->L n (i:Int)=some (u6 f i (l.drop i)):=by
  intro n
  induction n with
  | zero=>intro i h;omega
  | succ n ih =>
   intro i hn;rcases hd:l.drop i with _ | ⟨x,r⟩
   ·rw [h0 n i (fM hd)];rfl
   ·rw [h1 n i x r hd (fL hd)];rw [hd] at hn;simp only [zlc] at hn;simp only [u6];cases hf:f i x with
    | none=>simp only;rw [ih (i+1) (by rw [nN hd];omega),nN hd]
    | some b=>rfl
 have:=key 281474976710656 0 (by simp;omega)
 simpa using this
def pK {α:Type} (p:α->Bool) (l:List α):Int:=match u6 (fun i x=>bif p x then some ((i:Nat):Int) else none) 0 l with | .inl _ => -1 | .inr q=>q
theorem zEM {α:Type} (p:α->Bool):∀ (l:List α) (i:Nat),(u6 (fun i x=>bif p x then some ((i:Nat):Int) else none) i l=.inl ()/\∀ x∈l,p x=false) \/
  ∃ (j:Nat) (x:α),u6 (fun i x=>bif p x then some ((i:Nat):Int) else none) i l=.inr ((i+j:Nat):Int)/\l[j]?=some x/\p x=true/\∀ k y,k<j->l[k]?=some y->p y=false
 | [],i=>.inl ⟨rfl,by simp⟩
 | a::r,i=>by
  simp only [u6];cases hp:p a
  ·simp only [cond_false];rcases zEM p r (i+1) with ⟨h1,h2⟩ | ⟨j,x,h1,h2,h3,h4⟩
   ·exact .inl ⟨h1,fun x hx=>by rcases uA.1 hx with rfl | hx;exact hp;exact h2 x hx⟩
   ·refine .inr ⟨j+1,x,by rw [h1];congr 1;omega,by simpa using h2,h3,fun k y hk hy=>?_⟩;cases k with
    | zero=>simp at hy;subst hy;exact hp
    | succ k=>exact h4 k y (by omega) (by simpa using hy)
  ·simp only [cond_true];exact .inr ⟨0,a,by simp,rfl,hp,fun k y hk=>by omega⟩
theorem zJA {α:Type} (p:α->Bool) (l:List α):(pK p l = -1/\∀ x∈l,p x=false)\/∃ (j:Nat) (x:α),pK p l=(j:Int)/\l[j]?=some x/\p x=true/\∀ k y,k<j->l[k]?=some y->p y=false:=by
 unfold pK;rcases zEM p l 0 with ⟨h1,h2⟩ | ⟨j,x,h1,h2,h3,h4⟩
 ·rw [h1];exact .inl ⟨rfl,h2⟩
 ·rw [h1];exact .inr ⟨j,x,by simp,h2,h3,h4⟩
theorem zNb {α:Type} (p:α->Bool) (l:List α):pK p l>=0↔∃ x∈l,p x=true:=by
 rcases zJA p l with ⟨h1,h2⟩ | ⟨j,x,h1,h2,h3,_⟩
 ·rw [h1];exact ⟨fun h=>by omega,fun ⟨x,hx,hp⟩=>by rw [h2 x hx] at hp;cases hp⟩
 ·rw [h1];exact ⟨fun _=>⟨x,yN h2,h3⟩,fun _=>by omega⟩
def idP (id:Int) (d:yW):Bool:=d.Id==id
theorem zLZ {d:List yW} {id:Int} (hl:d.length<=100000):OX 281474976710656 d id=some (pK (idP id) d):=by
 unfold OX;rw [NJ (l:=d) (fun n i=>Q4 281474976710656 d id n i) (fun i x=>bif idP id x then some ((i:Nat):Int) else none) hl]
 ·rw [zbs];first | (unfold pK;split<;>simp_all) | (unfold uz;split<;>simp_all) | (split<;>simp_all)
 ·intro n i hi;show KF _ _ _ _ _=_;unfold KF;rw [xN (by omega),cond_false]
 ·intro n i x r hd hi;show KF _ _ _ _ _=_;unfold KF;rw [wE (by omega),cond_true,qB hd,zbs,j6 (by omega)];unfold V5 idP;rw [zbs];cases (x.Id==id)<;>rfl
theorem zKo {d:List yW} {t:wN} (hl:d.length<=100000):MV 281474976710656 d t=some (pK (idP t.Xx) d):=by
 unfold MV;rw [NJ (l:=d) (fun n i=>OZ 281474976710656 d t n i) (fun i x=>bif idP t.Xx x then some ((i:Nat):Int) else none) hl]
 ·rw [zbs];first | (unfold pK;split<;>simp_all) | (unfold uz;split<;>simp_all) | (split<;>simp_all)
 ·intro n i hi;show LX _ _ _ _ _=_;unfold LX;rw [xN (by omega),cond_false]
 ·intro n i x r hd hi;show LX _ _ _ _ _=_;unfold LX;rw [wE (by omega),cond_true,qB hd,zbs,j6 (by omega)];unfold X4 idP;rw [zbs];cases (x.Id==t.Xx)<;>rfl
theorem TI {d:List yW} {id:Int} (hl:d.length<=100000):AK 281474976710656 d id=some (pK (idP id) d):=by
 unfold AK;rw [zLZ hl];rfl
def RE (x:yW):Prop:=x.Id<0\/x.Id>=8\/x.Xt<0\/x.Xt>10000
instance decDomBad {x:yW}:Decidable (RE x):=inferInstanceAs (Decidable (_\/_))
def X2 (d:List yW) (i:Nat) (x:yW):Option Int:=if RE x then some 2 else if pK (idP x.Id) (d.take i)>=0 then some 4 else none
theorem zKj {d:List yW} (hl:d.length<=100000):O7 281474976710656 d=some (match u6 (X2 d) 0 d with | .inl _=>0 | .inr q=>q):=by
 unfold O7;rw [NJ (l:=d) (fun n i=>MZ 281474976710656 d n i) (X2 d) hl]
 ·rw [zbs];first | (unfold pK;split<;>simp_all) | (unfold uz;split<;>simp_all) | (split<;>simp_all)
 ·intro n i hi;show J9 _ _ _ _=_;unfold J9;rw [xN (by omega),cond_false]
 ·intro n i x r hd hi;show J9 _ _ _ _=_;unfold J9;rw [wE (by omega),cond_true,qB hd,zbs,j6 (by omega),tB (by omega),zMq,TI (by rw [nL];omega)];unfold X2
  by_cases h:RE x
  ·rw [if_pos h,WB (by simpa [RE] using h) rfl]
  ·rw [if_neg h,zAF (by unfold RE at h;simp;omega) rfl,zbs,zbs]
   by_cases h2:pK (idP x.Id) (d.take i)>=0
   ·rw [if_pos h2,wE h2];rfl
   ·rw [if_neg h2,xN h2];rfl
def rT (n:Int):Bool:=decide (n>=0)&&decide (n<=1000000000000)
def Q7 (d:List yW) (x:xO):Int :=
 if pK (idP x.A) d<0\/pK (idP x.B) d<0 then 5 else if x.A=x.B then 1 else
 if (rT x.Xw&&(rT x.Xp.Lo&&rT x.Xp.Hi))=false\/x.Xp.Lo>x.Xp.Hi then 2 else 0
theorem zIl {d:List yW} {x:xO} (hl:d.length<=100000):RT 281474976710656 d x=some (Q7 d x):=by
 unfold RT Q7 LU;rw [TI hl,zbs];simp only [TI hl,zbs];rw [show (decide (x.Xw>=(0:Int))&&decide (x.Xw<=(1000000000000:Int)))=rT x.Xw from rfl,show (decide (x.Xp.Lo>=(0:Int))&&decide (x.Xp.Lo<=(1000000000000:Int)))=rT x.Xp.Lo from rfl,
  show (decide (x.Xp.Hi>=(0:Int))&&decide (x.Xp.Hi<=(1000000000000:Int)))=rT x.Xp.Hi from rfl]
 generalize pK (idP x.A) d=p;generalize pK (idP x.B) d=q;generalize rT x.Xw=r1;generalize rT x.Xp.Lo=r2;generalize rT x.Xp.Hi=r3
 by_cases h1:p<0
 ·rw [wE h1];simp [h1]
 ·rw [xN h1]
  by_cases h2:q<0
  ·rw [wE h2];simp [h1,h2]
  ·rw [xN h2];simp only [cond_false,zbs,h1,h2,or_self,if_false]
   by_cases h3:x.A=x.B
   ·rw [qN h3,if_pos h3];rfl
   ·rw [nK h3,if_neg h3]
    by_cases h4:x.Xp.Lo>x.Xp.Hi
    ·rw [wE h4];cases r1<;>cases r2<;>cases r3<;>simp [h4]
    ·rw [xN h4];cases r1<;>cases r2<;>cases r3<;>simp [h4]
def snF (d:List yW) (_:Nat) (x:xO):Option Int:=if Q7 d x≠0 then some (Q7 d x) else none
def uz (o:Unit⊕Int):Int:=match o with | .inl _=>0 | .inr q=>q
def M0 (d:List yW):Int:=uz (u6 (X2 d) 0 d)
def AB (d:List yW) (l:List xO):Int :=
 if d.length=0 then 8 else if d.length>8\/l.length>200 then 7 else if d[0]?≠some ⟨0,0⟩ then 10 else if M0 d≠0 then M0 d else uz (u6 (snF d) 0 l)
theorem zAb {d:List yW} {l:List xO} (hl:d.length<=100000) (hm:l.length<=100000):A4 281474976710656 d l=some (AB d l):=by
 unfold A4 AB
 by_cases h0:d.length=0
 ·rw [if_pos h0,qN (by omega)];rfl
 rw [if_neg h0,nK (by omega),cond_false]
 by_cases h1:d.length>8\/l.length>200
 ·rw [if_pos h1,WB (by simp;omega) rfl]
 rw [if_neg h1,zAF (by simp;omega) rfl,show z0 d (0:Int)=d[0]? from ZD d 0];cases hd:d[0]? with
 | none=>rw [List.getElem?_eq_none_iff] at hd;omega
 | some x =>
  rw [zbs]
  by_cases h2:x=⟨0,0⟩
  ·rw [if_neg (by simp [h2]),zAF (by simp [h2]) rfl,zKj hl,zbs];show (bif (M0 d != 0) then some (M0 d) else _)=_
   by_cases h3:M0 d≠0
   ·rw [if_pos h3,aN h3];rfl
   ·rw [if_neg h3,tV (by omega),cond_false,NJ (l:=l) (fun n i=>RX 281474976710656 d l n i) (snF d) hm]
    ·rw [zbs];first | (unfold pK;split<;>simp_all) | (unfold uz;split<;>simp_all) | (split<;>simp_all)
    ·intro n i hi;show HY _ _ _ _ _=_;unfold HY;rw [xN (by omega),cond_false]
    ·intro n i x r hd hi;show HY _ _ _ _ _=_;unfold HY;rw [wE (by omega),cond_true,qB hd,zbs,j6 (by omega),zIl hl,zbs];unfold snF
     by_cases h:Q7 d x≠0
     ·rw [if_pos h,aN h];rfl
     ·rw [if_neg h,tV (by omega)];rfl
  ·rw [if_pos (by simpa using h2),WB (by simpa using h2) rfl]
def thF (l:List wN) (i:Nat) (t:wN):Option Int:=if R2 t≠0 then some (R2 t) else if t.Id∈(l.take i).map (·.Id) then some 4 else none
def doF (d:List yW) (_:Nat) (t:wN):Option Int:=if pK (idP t.Xx) d>=0 then none else some 5
def gF (h:wR):Int :=
 if h.Xd.length=0 then 8 else if h.Xd.length>64 then 7 else
 match u6 (thF h.Xd) 0 h.Xd with
 | .inr q=>q
 | .inl _=>if AB h.Xi h.Xl≠0 then AB h.Xi h.Xl else uz (u6 (doF h.Xi) 0 h.Xd)
theorem zO2 {h:wR} (hl:h.Xd.length<=100000):∀ (n i:Nat) (row:List (Int×Bool)),Seen row ((h.Xd.take i).map (·.Id))->(h.Xd.drop i).length<n ->
  JE 281474976710656 h n (i:Nat) row=some (u6 (thF h.Xd) i (h.Xd.drop i)):=by
 intro n
 induction n with
 | zero=>intro i row _ h;omega
 | succ n ih =>
  intro i row hs hn;show YD _ _ _ _ _=_;unfold YD;rcases hd:h.Xd.drop i with _ | ⟨x,r⟩
  ·have:=fM hd
   rw [xN (by omega),cond_false];rfl
  ·have hi:=fL hd;rw [hd] at hn;simp only [zlc] at hn;rw [wE (by omega),cond_true,qB hd,zbs,zIe,zbs,j6 (by omega)];simp only [u6,thF]
   by_cases h1:R2 x≠0
   ·rw [if_pos h1,aN h1];rfl
   ·rw [if_neg h1,tV (by omega),cond_false,hs.2]
    by_cases h2:x.Id∈(h.Xd.take i).map (·.Id)
    ·rw [if_pos h2,wE h2];rfl
    ·have hlen:=hs.1;simp only [vL,nL] at hlen;rw [if_neg h2,xN h2,cond_false,tB (by omega),zbs,ih (i+1) _ ?_ (by rw [nN hd];omega),nN hd];rw [lD hd,nH];exact zO7 hs x.Id
theorem zLh {h:wR} (hl:h.Xd.length<=100000) (hd:h.Xi.length<=100000) (hs:h.Xl.length<=100000):NC 281474976710656 h=some (gF h):=by
 unfold NC gF
 by_cases h0:h.Xd.length=0
 ·rw [if_pos h0,qN (by omega)];rfl
 rw [if_neg h0,nK (by omega),cond_false]
 by_cases h1:h.Xd.length>64
 ·rw [if_pos h1,wE (by omega)];rfl
 rw [if_neg h1,xN (by omega),cond_false,show JE 281474976710656 h 281474976710656 (0:Int) []=_ from zO2 hl 281474976710656 0 [] (by simpa using zO1) (by simp;omega),zbs,zdz];cases u6 (thF h.Xd) 0 h.Xd with
 | inr q=>rfl
 | inl u =>
  simp only;rw [zAb hd hs,zbs]
  by_cases h2:AB h.Xi h.Xl≠0
  ·rw [if_pos h2,aN h2];rfl
  ·rw [if_neg h2];have h2:AB h.Xi h.Xl=0:=by omega
   rw [h2];show Option.bind (LK 281474976710656 h 281474976710656 0) _=_;rw [NJ (l:=h.Xd) (fun n i=>LK 281474976710656 h n i) (doF h.Xi) hl]
   ·rw [zbs];first | (unfold pK;split<;>simp_all) | (unfold uz;split<;>simp_all) | (split<;>simp_all)
   ·intro n i hi;show K5 _ _ _ _=_;unfold K5;rw [xN (by omega),cond_false]
   ·intro n i x r hx hi;show K5 _ _ _ _=_;unfold K5;rw [wE (by omega),cond_true,qB hx,zbs,j6 (by omega)];unfold WE doF;rw [zKo hd,zbs,zbs]
    by_cases h3:pK (idP x.Xx) h.Xi>=0
    ·rw [if_pos h3,wE h3];rfl
    ·rw [if_neg h3,xN h3];rfl
end Go.Ab
