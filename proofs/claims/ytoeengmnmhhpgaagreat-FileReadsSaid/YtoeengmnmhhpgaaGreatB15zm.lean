/- Plain laws of the functions uV this seat's, laid anew from another seat's text. No conditions but those that the theorems name. -/
import Derived.Test.YtoeengmnmhhpgaaGreatP15zxD
import Derived.Test.YtoeengmnmhhpgaaGreatB15za
import Derived.Test.YtoeengmnmhhpgaaGreatB15zb
import Derived.Test.YtoeengmnmhhpgaaGreatB15zc
import Derived.Test.YtoeengmnmhhpgaaGreatB15zd
import Derived.Test.YtoeengmnmhhpgaaGreatB15zt
namespace Go.Ab
open Go
set_option linter.unusedVariables false
theorem n6 {α β:Type} {l:List α} (L:Nat→Int→Option (Unit⊕β)) (f:Nat→α→Option β) (hl:l.length≤100000)
  (h0:∀ n i,l.length≤i→L (n+1) (i:Nat)=some (.inl ()))
  (h1:∀ n i x r,l.drop i=x::r→i<l.length→L (n+1) (i:Nat)=match f i x with | none=>L n ((i+1:Nat):Int) | some b=>some (.inr b)):L 281474976710656 0=some (uS f 0 l):=by
 have key:∀ (n i:Nat),(l.drop i).length<n→L n (i:Int)=some (uS f i (l.drop i)):=by
  intro n
  induction n with
  | zero=>intro i h;omega
  | succ n ih =>
   intro i hn
   rcases hd:l.drop i with _ | ⟨x,r⟩
   ·rw [h0 n i (tZ hd)];rfl
   ·rw [h1 n i x r hd (tQ hd)]
    rw [hd] at hn
    simp only [List.length_cons] at hn
    simp only [uS]
    cases hf:f i x with
    | none=>simp only;rw [ih (i+1) (by rw [wZ hd];omega),wZ hd]
    | some b=>rfl
 have:=key 281474976710656 0 (by simp;omega)
 simpa using this
def tX {α:Type} (p:α→Bool) (l:List α):Int:=match uS (fun i x=>bif p x then some ((i:Nat):Int) else none) 0 l with | .inl _ => -1 | .inr q=>q
theorem W4 {α:Type} (p:α→Bool):∀ (l:List α) (i:Nat),(uS (fun i x=>bif p x then some ((i:Nat):Int) else none) i l=.inl ()∧∀ x∈l,p x=false) ∨
  ∃ (j:Nat) (x:α),uS (fun i x=>bif p x then some ((i:Nat):Int) else none) i l=.inr ((i+j:Nat):Int)∧l[j]?=some x∧p x=true∧∀ k y,k<j→l[k]?=some y→p y=false
 | [],i=>.inl ⟨rfl,by simp⟩
 | a::r,i=>by
  simp only [uS]
  cases hp:p a
  ·simp only [cond_false]
   rcases W4 p r (i+1) with ⟨h1,h2⟩ | ⟨j,x,h1,h2,h3,h4⟩
   ·exact .inl ⟨h1,fun x hx=>by rcases List.mem_cons.1 hx with rfl | hx;exact hp;exact h2 x hx⟩
   ·refine .inr ⟨j+1,x,by rw [h1];congr 1;omega,by simpa using h2,h3,fun k y hk hy=>?_⟩
    cases k with
    | zero=>simp at hy;subst hy;exact hp
    | succ k=>exact h4 k y (by omega) (by simpa using hy)
  ·simp only [cond_true]
   exact .inr ⟨0,a,by simp,rfl,hp,fun k y hk=>by omega⟩
theorem NK {α:Type} (p:α→Bool) (l:List α):(tX p l = -1∧∀ x∈l,p x=false)∨∃ (j:Nat) (x:α),tX p l=(j:Int)∧l[j]?=some x∧p x=true∧∀ k y,k<j→l[k]?=some y→p y=false:=by
 unfold tX
 rcases W4 p l 0 with ⟨h1,h2⟩ | ⟨j,x,h1,h2,h3,h4⟩
 ·rw [h1];exact .inl ⟨rfl,h2⟩
 ·rw [h1];exact .inr ⟨j,x,by simp,h2,h3,h4⟩
theorem zAL {α:Type} (p:α→Bool) (l:List α):tX p l≥0↔∃ x∈l,p x=true:=by
 rcases NK p l with ⟨h1,h2⟩ | ⟨j,x,h1,h2,h3,_⟩
 ·rw [h1]
  exact ⟨fun h=>by omega,fun ⟨x,hx,hp⟩=>by rw [h2 x hx] at hp;cases hp⟩
 ·rw [h1]
  exact ⟨fun _=>⟨x,List.mem_of_getElem? h2,h3⟩,fun _=>by omega⟩
theorem zCf {α:Type} (p:α→Bool) (l:List α) {i:Nat} {x:α} (hi:l[i]?=some x) (hp:p x=true):tX p l<i↔tX p (l.take i)≥0:=by
 rw [zAL]
 rcases NK p l with ⟨h1,h2⟩ | ⟨j,y,h1,h2,h3,h4⟩
 ·rw [h2 x (List.mem_of_getElem? hi)] at hp;cases hp
 ·rw [h1]
  constructor
  ·intro h
   exact ⟨y,List.mem_of_getElem? (i:=j) (by rw [List.getElem?_take,if_pos (by omega)];exact h2),h3⟩
  ·rintro ⟨z,hz,hpz⟩
   obtain ⟨k,hk⟩:=List.mem_iff_getElem?.1 hz
   rw [List.getElem?_take] at hk
   split at hk
   ·rename_i hki
    rcases Nat.lt_or_ge k j with h | h
    ·rw [h4 k z h hk] at hpz;cases hpz
    ·omega
   ·cases hk
def idP (id:Int) (d:yS):Bool:=d.Id==id
theorem zFk {d:List yS} {id:Int} (hl:d.length≤100000):DH 281474976710656 d id=some (tX (idP id) d):=by
 unfold DH
 rw [n6 (l:=d) (fun n i=>HH 281474976710656 d id n i) (fun i x=>bif idP id x then some ((i:Nat):Int) else none) hl]
 ·rw [zbs];first | (unfold tX;split<;>simp_all) | (unfold uz;split<;>simp_all) | (split<;>simp_all)
 ·intro n i hi
  show oL _ _ _ _ _=_
  unfold oL
  rw [yM (by omega),cond_false]
 ·intro n i x r hd hi
  show oL _ _ _ _ _=_
  unfold oL
  rw [yP (by omega),cond_true,w5 hd,zbs,wW (by omega)]
  unfold MG idP
  rw [zbs]
  cases (x.Id==id)<;>rfl
theorem zFZ {d:List yS} {t:y7} (hl:d.length≤100000):C6 281474976710656 d t=some (tX (idP t.Domain) d):=by
 unfold C6
 rw [n6 (l:=d) (fun n i=>GB 281474976710656 d t n i) (fun i x=>bif idP t.Domain x then some ((i:Nat):Int) else none) hl]
 ·rw [zbs];first | (unfold tX;split<;>simp_all) | (unfold uz;split<;>simp_all) | (split<;>simp_all)
 ·intro n i hi
  show mF _ _ _ _ _=_
  unfold mF
  rw [yM (by omega),cond_false]
 ·intro n i x r hd hi
  show mF _ _ _ _ _=_
  unfold mF
  rw [yP (by omega),cond_true,w5 hd,zbs,wW (by omega)]
  unfold J0 idP
  rw [zbs]
  cases (x.Id==t.Domain)<;>rfl
theorem R2 {d:List yS} {id:Int} (hl:d.length≤100000):lV 281474976710656 d id=some (tX (idP id) d):=by
 unfold lV;rw [zFk hl];rfl
theorem KE {d:List yS} {id:Int} (hl:d.length≤100000):fD 281474976710656 d id=some (tX (idP id) d):=by
 unfold fD
 rw [n6 (l:=d) (fun n i=>EE 281474976710656 d id n i) (fun i x=>bif idP id x then some ((i:Nat):Int) else none) hl]
 ·rw [zbs];first | (unfold tX;split<;>simp_all) | (unfold uz;split<;>simp_all) | (split<;>simp_all)
 ·intro n i hi
  show lJ _ _ _ _ _=_
  unfold lJ
  rw [yM (by omega),cond_false]
 ·intro n i x r hd hi
  show lJ _ _ _ _ _=_
  unfold lJ
  rw [yP (by omega),cond_true,w5 hd,zbs,wW (by omega)]
  unfold idP
  cases (x.Id==id)<;>rfl
def fM (x:yS):Prop:=x.Id<0∨x.Id≥8∨x.Ppm<0∨x.Ppm>10000
instance decDomBad {x:yS}:Decidable (fM x):=inferInstanceAs (Decidable (_∨_))
def cK (d:List yS) (i:Nat) (x:yS):Option Int:=if fM x then some 2 else if tX (idP x.Id) (d.take i)≥0 then some 4 else none
theorem zC5 {d:List yS} (hl:d.length≤100000):GH 281474976710656 d=some (match uS (cK d) 0 d with | .inl _=>0 | .inr q=>q):=by
 unfold GH
 rw [n6 (l:=d) (fun n i=>GK 281474976710656 d n i) (cK d) hl]
 ·rw [zbs];first | (unfold tX;split<;>simp_all) | (unfold uz;split<;>simp_all) | (split<;>simp_all)
 ·intro n i hi
  show m6 _ _ _ _=_
  unfold m6
  rw [yM (by omega),cond_false]
 ·intro n i x r hd hi
  show m6 _ _ _ _=_
  unfold m6
  rw [yP (by omega),cond_true,w5 hd,zbs,wW (by omega),xZ (by omega),MZ,R2 (by rw [List.length_take];omega)]
  unfold cK
  by_cases h:fM x
  ·rw [if_pos h,GL (by simpa [fM] using h) rfl]
  ·rw [if_neg h,L1 (by unfold fM at h;simp;omega) rfl,zbs,zbs]
   by_cases h2:tX (idP x.Id) (d.take i)≥0
   ·rw [if_pos h2,yP h2];rfl
   ·rw [if_neg h2,yM h2];rfl
def pV (n:Int):Bool:=decide (n≥0)&&decide (n≤1000000000000)
def gD (d:List yS) (x:yU):Int :=
 if tX (idP x.A) d<0∨tX (idP x.B) d<0 then 5 else if x.A=x.B then 1 else
 if (pV x.AtA&&(pV x.AtB.Lo&&pV x.AtB.Hi))=false∨x.AtB.Lo>x.AtB.Hi then 2 else 0
theorem zDf {d:List yS} {x:yU} (hl:d.length≤100000):DY 281474976710656 d x=some (gD d x):=by
 unfold DY gD r5
 rw [R2 hl,zbs]
 simp only [R2 hl,zbs]
 rw [show (decide (x.AtA≥(0:Int))&&decide (x.AtA≤(1000000000000:Int)))=pV x.AtA from rfl,show (decide (x.AtB.Lo≥(0:Int))&&decide (x.AtB.Lo≤(1000000000000:Int)))=pV x.AtB.Lo from rfl,
  show (decide (x.AtB.Hi≥(0:Int))&&decide (x.AtB.Hi≤(1000000000000:Int)))=pV x.AtB.Hi from rfl]
 generalize tX (idP x.A) d=p
 generalize tX (idP x.B) d=q
 generalize pV x.AtA=r1
 generalize pV x.AtB.Lo=r2
 generalize pV x.AtB.Hi=r3
 by_cases h1:p<0
 ·rw [yP h1];simp [h1]
 ·rw [yM h1]
  by_cases h2:q<0
  ·rw [yP h2];simp [h1,h2]
  ·rw [yM h2]
   simp only [cond_false,zbs,h1,h2,or_self,if_false]
   by_cases h3:x.A=x.B
   ·rw [uF h3,if_pos h3];rfl
   ·rw [uH h3,if_neg h3]
    by_cases h4:x.AtB.Lo>x.AtB.Hi
    ·rw [yP h4];cases r1<;>cases r2<;>cases r3<;>simp [h4]
    ·rw [yM h4];cases r1<;>cases r2<;>cases r3<;>simp [h4]
theorem zDY {d:List yS} {x:yU} (hl:d.length≤100000):G1 281474976710656 d x=some (gD d x):=by
 unfold G1 gD BG
 rw [KE hl,KE hl]
 simp only [zbs]
 rw [show (decide (x.AtA≥(0:Int))&&decide (x.AtA≤(1000000000000:Int)))=pV x.AtA from rfl,show (decide (x.AtB.Lo≥(0:Int))&&decide (x.AtB.Lo≤(1000000000000:Int)))=pV x.AtB.Lo from rfl,
  show (decide (x.AtB.Hi≥(0:Int))&&decide (x.AtB.Hi≤(1000000000000:Int)))=pV x.AtB.Hi from rfl]
 generalize tX (idP x.A) d=p
 generalize tX (idP x.B) d=q
 generalize pV x.AtA=r1
 generalize pV x.AtB.Lo=r2
 generalize pV x.AtB.Hi=r3
 by_cases h1:p<0
 ·rw [yP h1];simp [h1]
 ·rw [yM h1]
  by_cases h2:q<0
  ·rw [yP h2];simp [h1,h2]
  ·rw [yM h2]
   simp only [cond_false,zbs,h1,h2,or_self,if_false]
   by_cases h3:x.A=x.B
   ·rw [uF h3,if_pos h3];rfl
   ·rw [uH h3,if_neg h3]
    by_cases h4:x.AtB.Lo>x.AtB.Hi
    ·rw [yP h4];cases r1<;>cases r2<;>cases r3<;>simp [h4]
    ·rw [yM h4];cases r1<;>cases r2<;>cases r3<;>simp [h4]
def snF (d:List yS) (_:Nat) (x:yU):Option Int:=if gD d x≠0 then some (gD d x) else none
def uz (o:Unit⊕Int):Int:=match o with | .inl _=>0 | .inr q=>q
def A0 (d:List yS):Int:=uz (uS (cK d) 0 d)
def kJ (d:List yS) (l:List yU):Int :=
 if d.length=0 then 8 else if d.length>8∨l.length>200 then 7 else if d[0]?≠some ⟨0,0⟩ then 10 else if A0 d≠0 then A0 d else uz (uS (snF d) 0 l)
theorem VX {d:List yS} {l:List yU} (hl:d.length≤100000) (hm:l.length≤100000):lP 281474976710656 d l=some (kJ d l):=by
 unfold lP kJ
 by_cases h0:d.length=0
 ·rw [if_pos h0,uF (by omega)];rfl
 rw [if_neg h0,uH (by omega),cond_false]
 by_cases h1:d.length>8∨l.length>200
 ·rw [if_pos h1,GL (by simp;omega) rfl]
 rw [if_neg h1,L1 (by simp;omega) rfl,show yZ d (0:Int)=d[0]? from pR d 0]
 cases hd:d[0]? with
 | none=>rw [List.getElem?_eq_none_iff] at hd;omega
 | some x =>
  rw [zbs]
  by_cases h2:x=⟨0,0⟩
  ·rw [if_neg (by simp [h2]),L1 (by simp [h2]) rfl,zC5 hl,zbs]
   show (bif (A0 d != 0) then some (A0 d) else _)=_
   by_cases h3:A0 d≠0
   ·rw [if_pos h3,wE h3];rfl
   ·rw [if_neg h3,wF (by omega),cond_false,n6 (l:=l) (fun n i=>D0 281474976710656 d l n i) (snF d) hm]
    ·rw [zbs];first | (unfold tX;split<;>simp_all) | (unfold uz;split<;>simp_all) | (split<;>simp_all)
    ·intro n i hi
     show m5 _ _ _ _ _=_
     unfold m5
     rw [yM (by omega),cond_false]
    ·intro n i x r hd hi
     show m5 _ _ _ _ _=_
     unfold m5
     rw [yP (by omega),cond_true,w5 hd,zbs,wW (by omega),zDf hl,zbs]
     unfold snF
     by_cases h:gD d x≠0
     ·rw [if_pos h,wE h];rfl
     ·rw [if_neg h,wF (by omega)];rfl
  ·rw [if_pos (by simpa using h2),GL (by simpa using h2) rfl]
theorem NW {d:List yS} {l:List yU} (hl:d.length≤100000) (hm:l.length≤100000):iU 281474976710656 d l=some (kJ d l):=by
 unfold iU kJ
 by_cases h0:d.length=0
 ·rw [if_pos h0,uF (by omega)];rfl
 rw [if_neg h0,uH (by omega),cond_false]
 by_cases h1:d.length>8∨l.length>200
 ·rw [if_pos h1,GL (by simp;omega) rfl]
 rw [if_neg h1,L1 (by simp;omega) rfl,show yZ d (0:Int)=d[0]? from pR d 0]
 cases hd:d[0]? with
 | none=>rw [List.getElem?_eq_none_iff] at hd;omega
 | some x =>
  simp only [zbs]
  by_cases h2:x=⟨0,0⟩
  ·rw [if_neg (by simp [h2])]
   subst h2
   simp only [bne_self_eq_false,cond_false,zbs]
   rw [n6 (l:=d) (fun n i=>DJ 281474976710656 d n i) (cK d) hl]
   ·rw [zbs]
    unfold A0
    cases hq:uS (cK d) 0 d with
    | inr q =>
     have hq0:q≠0:=by
      have:∀ (i:Nat) (m:List yS) q,uS (cK d) i m=.inr q→q≠0:=by
       intro i m
       induction m generalizing i with
       | nil=>intro q h;cases h
       | cons a r ih =>
        intro q h
        simp only [uS] at h
        cases hf:cK d i a with
        | none=>rw [hf] at h;exact ih _ _ h
        | some b =>
         rw [hf] at h;injection h with h;subst h
         unfold cK at hf
         split at hf
         ·injection hf with hf;omega
         ·split at hf
          ·injection hf with hf;omega
          ·cases hf
      exact this _ _ _ hq
     simp [uz,hq0]
    | inl u =>
     simp only [uz,ne_eq,not_true_eq_false,if_false]
     rw [n6 (l:=l) (fun n i=>HX 281474976710656 d l n i) (snF d) hm]
     ·rw [zbs];first | (unfold tX;split<;>simp_all) | (unfold uz;split<;>simp_all) | (split<;>simp_all)
     ·intro n i hi
      show lZ _ _ _ _ _=_
      unfold lZ
      rw [yM (by omega),cond_false]
     ·intro n i x r hd hi
      show lZ _ _ _ _ _=_
      unfold lZ
      rw [yP (by omega),cond_true,w5 hd,zbs,wW (by omega),zDY hl,zbs]
      unfold snF
      by_cases h:gD d x≠0
      ·rw [if_pos h,wE h];rfl
      ·rw [if_neg h,wF (by omega)];rfl
   ·intro n i hi
    show mC _ _ _ _=_
    unfold mC
    rw [yM (by omega),cond_false]
   ·intro n i x r hd hi
    show mC _ _ _ _=_
    unfold mC
    rw [yP (by omega),cond_true,w5 hd,wW (by omega)]
    simp only [zbs,KE hl]
    unfold cK
    have hb:(bif decide (x.Id<0) then some true else bif decide (x.Id≥8) then some true else bif decide (x.Ppm<0) then some true else some (decide (x.Ppm>10000)))=some (decide (fM x)):=by
     unfold fM
     by_cases k1:x.Id<0
     ·simp [k1]
     ·by_cases k2:x.Id≥8
      ·simp [k1,k2]
      ·by_cases k3:x.Ppm<0
       ·simp [k1,k2,k3]
       ·simp [k1,k2,k3]
    rw [hb,zbs]
    by_cases h:fM x
    ·rw [if_pos h,yP h];rfl
    ·rw [if_neg h,yM h,cond_false]
     have:=zCf (idP x.Id) d (GI hd) (by simp [idP])
     by_cases h2:tX (idP x.Id) (d.take i)≥0
     ·rw [if_pos h2,yP (this.2 h2)];rfl
     ·rw [if_neg h2,yM (fun h=>h2 (this.1 h))];rfl
  ·have hx:(bif (x.Id != 0) then some true else some (x.Ppm != 0))=some true:=by
    by_cases k1:x.Id=0
    ·by_cases k2:x.Ppm=0
     ·exact absurd (by cases x;simp_all) h2
     ·rw [wF k1,wE k2];rfl
    ·rw [wE k1];rfl
   rw [if_pos (by simpa using h2),hx,zbs];rfl
theorem zCk {d:List yS} {l:List yU} (h:kJ d l=0):kJ d []=0:=by
 unfold kJ at *
 split at h
 ·omega
 rename_i h0
 split at h
 ·omega
 rename_i h1
 split at h
 ·omega
 rename_i h2
 split at h
 ·rename_i h3;exact absurd h h3
 rename_i h3
 rw [if_neg h0,if_neg (by simp only [List.length_nil];omega),if_neg h2,if_neg h3];rfl
theorem zB8 {d:List yS} {id:Int} (hl:d.length≤100000) (hc:kJ d []=0):∃ q,HR 281474976710656 d id=some (q,decide (tX (idP id) d≥0)):=by
 unfold HR
 rw [KE hl,zbs,NW hl (by simp),zbs,wF hc,cond_false,zbs]
 rcases NK (idP id) d with ⟨h1,_⟩ | ⟨j,x,h1,h2,_⟩
 ·rw [h1];exact ⟨0,rfl⟩
 ·rw [h1,yM (by omega),cond_false,pR,h2]
  exact ⟨x.Ppm,by rw [yP (by omega)];rfl⟩
def thF (l:List y7) (i:Nat) (t:y7):Option Int:=if fK t≠0 then some (fK t) else if t.Id∈(l.take i).map (·.Id) then some 4 else none
def doF (d:List yS) (_:Nat) (t:y7):Option Int:=if tX (idP t.Domain) d≥0 then none else some 5
def aH (h:yF):Int :=
 if h.Threads.length=0 then 8 else if h.Threads.length>64 then 7 else
 match uS (thF h.Threads) 0 h.Threads with
 | .inr q=>q
 | .inl _=>if kJ h.Domains h.Snaps≠0 then kJ h.Domains h.Snaps else uz (uS (doF h.Domains) 0 h.Threads)
theorem zF2 {h:yF} (hl:h.Threads.length≤100000):∀ (n i:Nat) (row:List (Int×Bool)),o8 row ((h.Threads.take i).map (·.Id))→(h.Threads.drop i).length<n →
  rW 281474976710656 h n (i:Nat) row=some (uS (thF h.Threads) i (h.Threads.drop i)):=by
 intro n
 induction n with
 | zero=>intro i row _ h;omega
 | succ n ih =>
  intro i row hs hn
  show GF _ _ _ _ _=_
  unfold GF
  rcases hd:h.Threads.drop i with _ | ⟨x,r⟩
  ·have:=tZ hd
   rw [yM (by omega),cond_false];rfl
  ·have hi:=tQ hd
   rw [hd] at hn
   simp only [List.length_cons] at hn
   rw [yP (by omega),cond_true,w5 hd,zbs,zE8,zbs,wW (by omega)]
   simp only [uS,thF]
   by_cases h1:fK x≠0
   ·rw [if_pos h1,wE h1];rfl
   ·rw [if_neg h1,wF (by omega),cond_false,hs.2]
    by_cases h2:x.Id∈(h.Threads.take i).map (·.Id)
    ·rw [if_pos h2,yP h2];rfl
    ·have hlen:=hs.1
     simp only [List.length_map,List.length_take] at hlen
     rw [if_neg h2,yM h2,cond_false,xZ (by omega),zbs,ih (i+1) _ ?_ (by rw [wZ hd];omega),wZ hd]
     rw [bC hd,List.map_append]
     exact QE hs x.Id
theorem zGe {h:yF} (hl:h.Threads.length≤100000) (hd:h.Domains.length≤100000) (hs:h.Snaps.length≤100000):oF 281474976710656 h=some (aH h):=by
 unfold oF aH
 by_cases h0:h.Threads.length=0
 ·rw [if_pos h0,uF (by omega)];rfl
 rw [if_neg h0,uH (by omega),cond_false]
 by_cases h1:h.Threads.length>64
 ·rw [if_pos h1,yP (by omega)];rfl
 rw [if_neg h1,yM (by omega),cond_false,show rW 281474976710656 h 281474976710656 (0:Int) []=_ from zF2 hl 281474976710656 0 [] (by simpa using NL) (by simp;omega),zbs,List.drop_zero]
 cases uS (thF h.Threads) 0 h.Threads with
 | inr q=>rfl
 | inl u =>
  simp only
  rw [VX hd hs,zbs]
  by_cases h2:kJ h.Domains h.Snaps≠0
  ·rw [if_pos h2,wE h2];rfl
  ·rw [if_neg h2]
   have h2:kJ h.Domains h.Snaps=0:=by omega
   rw [h2]
   show Option.bind (oX 281474976710656 h 281474976710656 0) _=_
   rw [n6 (l:=h.Threads) (fun n i=>oX 281474976710656 h n i) (doF h.Domains) hl]
   ·rw [zbs];first | (unfold tX;split<;>simp_all) | (unfold uz;split<;>simp_all) | (split<;>simp_all)
   ·intro n i hi
    show oA _ _ _ _=_
    unfold oA
    rw [yM (by omega),cond_false]
   ·intro n i x r hx hi
    show oA _ _ _ _=_
    unfold oA
    rw [yP (by omega),cond_true,w5 hx,zbs,wW (by omega)]
    unfold KL doF
    rw [zFZ hd,zbs,zbs]
    by_cases h3:tX (idP x.Domain) h.Domains≥0
    ·rw [if_pos h3,yP h3];rfl
    ·rw [if_neg h3,yM h3];rfl
theorem zFs {h:yF} {i:Nat} {x:y7} {r:List y7} (hl:h.Threads.length≤100000) (hd:h.Threads.drop i=x::r) :
  CC 281474976710656 h (i:Nat) 281474976710656 0=some (if x.Id∈(h.Threads.take i).map (·.Id) then .inr 4 else .inl ()):=by
 have hi:=tQ hd
 rw [n6 (l:=h.Threads.take i) (fun n k=>CC 281474976710656 h (i:Nat) n k) (fun _ y=>if y.Id=x.Id then some 4 else none) (by rw [List.length_take];omega)]
 ·congr 1
  split
  ·rename_i hm
   obtain ⟨y,hy,hyx⟩:=List.mem_map.1 hm
   have:∀ (m:List y7) (k:Nat),y∈m→uS (fun (_:Nat) (y:y7)=>if y.Id=x.Id then some (4:Int) else none) k m=.inr 4:=by
    intro m
    induction m with
    | nil=>intro k h;cases h
    | cons a m ih =>
     intro k h
     simp only [uS]
     by_cases ha:a.Id=x.Id
     ·rw [if_pos ha]
     ·rw [if_neg ha]
      rcases List.mem_cons.1 h with rfl | h
      ·exact absurd hyx ha
      ·exact ih _ h
   exact this _ _ hy
  ·rename_i hm
   refine UF fun j y hj=>?_
   rw [if_neg]
   intro he
   exact hm (List.mem_map.2 ⟨y,List.mem_of_getElem? hj,he⟩)
 ·intro n k hk
  rw [List.length_take] at hk
  show mX _ _ _ _ _=_
  unfold mX
  rw [yM (by omega),cond_false]
 ·intro n k y r2 hk hlt
  rw [List.length_take] at hlt
  show mX _ _ _ _ _=_
  unfold mX
  have hy:h.Threads[k]?=some y:=by
   have:=GI hk
   rw [List.getElem?_take] at this
   split at this
   ·exact this
   ·cases this
  rw [yP (by omega),cond_true,pR,hy,zbs,w5 hd,zbs,wW (by omega)]
  by_cases he:y.Id=x.Id
  ·rw [uF he,if_pos he];rfl
  ·rw [uH he,if_neg he];rfl
theorem zFT {h:yF} (hl:h.Threads.length≤100000) (hd:h.Domains.length≤100000) (hs:h.Snaps.length≤100000):HV 281474976710656 h=some (aH h):=by
 unfold HV aH
 by_cases h0:h.Threads.length=0
 ·rw [if_pos h0,uF (by omega)];rfl
 rw [if_neg h0,uH (by omega),cond_false]
 by_cases h1:h.Threads.length>64
 ·rw [if_pos h1,yP (by omega)];rfl
 rw [if_neg h1,yM (by omega),cond_false,n6 (l:=h.Threads) (fun n i=>H2 281474976710656 h n i) (thF h.Threads) hl]
 ·rw [zbs]
  cases uS (thF h.Threads) 0 h.Threads with
  | inr q=>rfl
  | inl u =>
   simp only
   rw [NW hd hs,zbs]
   by_cases h2:kJ h.Domains h.Snaps≠0
   ·rw [if_pos h2,wE h2];rfl
   ·rw [if_neg h2]
    have h2:kJ h.Domains h.Snaps=0:=by omega
    rw [h2]
    show Option.bind (BX 281474976710656 h 281474976710656 0) _=_
    rw [n6 (l:=h.Threads) (fun n i=>BX 281474976710656 h n i) (doF h.Domains) hl]
    ·rw [zbs];first | (unfold tX;split<;>simp_all) | (unfold uz;split<;>simp_all) | (split<;>simp_all)
    ·intro n i hi
     show iO _ _ _ _=_
     unfold iO
     rw [yM (by omega),cond_false]
    ·intro n i x r hx hi
     show iO _ _ _ _=_
     unfold iO doF
     obtain ⟨q,hq⟩:=zB8 (id:=x.Domain) hd (zCk h2)
     rw [yP (by omega),cond_true,w5 hx,zbs,wW (by omega),hq,zbs]
     by_cases h3:tX (idP x.Domain) h.Domains≥0
     ·rw [if_pos h3,yP h3];rfl
     ·rw [if_neg h3,yM h3];rfl
 ·intro n i hi
  show oD _ _ _ _=_
  unfold oD
  rw [yM (by omega),cond_false]
 ·intro n i x r hx hi
  show oD _ _ _ _=_
  unfold oD thF
  rw [yP (by omega),cond_true,w5 hx,zbs,wW (by omega),zER,zbs]
  by_cases h2:fK x≠0
  ·rw [if_pos h2,wE h2];rfl
  ·rw [if_neg h2,wF (by omega),cond_false,zFs hl hx,zbs]
   by_cases h3:x.Id∈(h.Threads.take i).map (·.Id)
   ·rw [if_pos h3,if_pos h3]
   ·rw [if_neg h3,if_neg h3]
end Go.Ab
