/- What the functions about a log's head compute. No conditions but the bounds on lengths that the theorems name. -/
import Derived.Test.YtbifmbdcejggkaaP16xD
import Derived.Test.YtbifmbdcejggkaaB16e
namespace Go.Ab
open Go
set_option linter.unusedVariables false
theorem qB {α β:Type} {l:List α} (L:Nat→Int→Option (Unit⊕β)) (f:Nat→α→Option β) (hl:l.length≤100000)
  (h0:∀ n i,l.length≤i→L (n+1) (i:Nat)=some (.inl ()))
  (h1:∀ n i x r,l.drop i=x::r→i<l.length→L (n+1) (i:Nat)=match f i x with | none=>L n ((i+1:Nat):Int) | some b=>some (.inr b)):L 200000 0=some (xI f 0 l):=by
 have key:∀ (n i:Nat),(l.drop i).length<n→L n (i:Int)=some (xI f i (l.drop i)):=by
  intro n
  induction n with
  | zero=>intro i h;omega
  | succ n ih =>
   intro i hn
   rcases hd:l.drop i with _ | ⟨x,r⟩
   ·rw [h0 n i (uH hd)];rfl
   ·rw [h1 n i x r hd (uQ hd)]
    rw [hd] at hn
    simp only [List.length_cons] at hn
    simp only [xI]
    cases hf:f i x with
    | none=>simp only;rw [ih (i+1) (by rw [wR hd];omega),wR hd]
    | some b=>rfl
 have:=key 200000 0 (by simp;omega)
 simpa using this
def tM {α:Type} (p:α→Bool) (l:List α):Int:=match xI (fun i x=>bif p x then some ((i:Nat):Int) else none) 0 l with | .inl _ => -1 | .inr q=>q
theorem zLb {α:Type} (p:α→Bool):∀ (l:List α) (i:Nat),(xI (fun i x=>bif p x then some ((i:Nat):Int) else none) i l=.inl ()∧∀ x∈l,p x=false) ∨
  ∃ (j:Nat) (x:α),xI (fun i x=>bif p x then some ((i:Nat):Int) else none) i l=.inr ((i+j:Nat):Int)∧l[j]?=some x∧p x=true∧∀ k y,k<j→l[k]?=some y→p y=false
 | [],i=>.inl ⟨rfl,by simp⟩
 | a::r,i=>by
  simp only [xI]
  cases hp:p a
  ·simp only [cond_false]
   rcases zLb p r (i+1) with ⟨h1,h2⟩ | ⟨j,x,h1,h2,h3,h4⟩
   ·exact .inl ⟨h1,fun x hx=>by rcases List.mem_cons.1 hx with rfl | hx;exact hp;exact h2 x hx⟩
   ·refine .inr ⟨j+1,x,by rw [h1];congr 1;omega,by simpa using h2,h3,fun k y hk hy=>?_⟩
    cases k with
    | zero=>simp at hy;subst hy;exact hp
    | succ k=>exact h4 k y (by omega) (by simpa using hy)
  ·simp only [cond_true]
   exact .inr ⟨0,a,by simp,rfl,hp,fun k y hk=>by omega⟩
theorem zEb {α:Type} (p:α→Bool) (l:List α):(tM p l = -1∧∀ x∈l,p x=false)∨∃ (j:Nat) (x:α),tM p l=(j:Int)∧l[j]?=some x∧p x=true∧∀ k y,k<j→l[k]?=some y→p y=false:=by
 unfold tM
 rcases zLb p l 0 with ⟨h1,h2⟩ | ⟨j,x,h1,h2,h3,h4⟩
 ·rw [h1];exact .inl ⟨rfl,h2⟩
 ·rw [h1];exact .inr ⟨j,x,by simp,h2,h3,h4⟩
theorem zOe {α:Type} (p:α→Bool) (l:List α):tM p l≥0↔∃ x∈l,p x=true:=by
 rcases zEb p l with ⟨h1,h2⟩ | ⟨j,x,h1,h2,h3,_⟩
 ·rw [h1]
  exact ⟨fun h=>by omega,fun ⟨x,hx,hp⟩=>by rw [h2 x hx] at hp;cases hp⟩
 ·rw [h1]
  exact ⟨fun _=>⟨x,List.mem_of_getElem? h2,h3⟩,fun _=>by omega⟩
theorem zN7 {α:Type} (p:α→Bool) (l:List α) {i:Nat} {x:α} (hi:l[i]?=some x) (hp:p x=true):tM p l<i↔tM p (l.take i)≥0:=by
 rw [zOe]
 rcases zEb p l with ⟨h1,h2⟩ | ⟨j,y,h1,h2,h3,h4⟩
 ·rw [h2 x (List.mem_of_getElem? hi)] at hp;cases hp
 ·rw [h1]
  constructor
  ·intro h
   exact ⟨y,List.mem_of_getElem? (i:=j) (by rw [List.getElem?_take,if_pos (by omega)];exact h2),h3⟩
  ·rintro ⟨z,hz,hpz⟩
   obtain ⟨k,hk⟩:=List.mem_iff_getElem?.1 hz
   rw [List.getElem?_take] at hk
   split at hk
   ·rename_i hki
    rcases Nat.lt_or_ge k j with h | h
    ·rw [h4 k z h hk] at hpz;cases hpz
    ·omega
   ·cases hk
def idP (id:Int) (d:zS):Bool:=d.Id==id
theorem zNT {d:List zS} {id:Int} (hl:d.length≤100000):xU 200000 d id=some (tM (idP id) d):=by
 unfold xU
 rw [qB (l:=d) (fun n i=>xO 200000 d id n i) (fun i x=>bif idP id x then some ((i:Nat):Int) else none) hl]
 ·rw [Option.bind_some];first | (unfold tM;split<;>simp_all) | (unfold uz;split<;>simp_all) | (split<;>simp_all)
 ·intro n i hi
  show yS _ _ _ _ _=_
  unfold yS
  rw [yH (by omega),cond_false]
 ·intro n i x r hd hi
  show yS _ _ _ _ _=_
  unfold yS
  rw [yK (by omega),cond_true,yX hd,Option.bind_some,wI (by omega)]
  unfold zAt idP
  rw [Option.bind_some]
  cases (x.Id==id)<;>rfl
theorem zMH {d:List zS} {t:zY} (hl:d.length≤100000):xP 200000 d t=some (tM (idP t.Domain) d):=by
 unfold xP
 rw [qB (l:=d) (fun n i=>xK 200000 d t n i) (fun i x=>bif idP t.Domain x then some ((i:Nat):Int) else none) hl]
 ·rw [Option.bind_some];first | (unfold tM;split<;>simp_all) | (unfold uz;split<;>simp_all) | (split<;>simp_all)
 ·intro n i hi
  show yR _ _ _ _ _=_
  unfold yR
  rw [yH (by omega),cond_false]
 ·intro n i x r hd hi
  show yR _ _ _ _ _=_
  unfold yR
  rw [yK (by omega),cond_true,yX hd,Option.bind_some,wI (by omega)]
  unfold zBL idP
  rw [Option.bind_some]
  cases (x.Id==t.Domain)<;>rfl
theorem zBs {d:List zS} {id:Int} (hl:d.length≤100000):j9 200000 d id=some (tM (idP id) d):=by
 unfold j9;rw [zNT hl];rfl
theorem zBH {d:List zS} {id:Int} (hl:d.length≤100000):nD 200000 d id=some (tM (idP id) d):=by
 unfold nD
 rw [qB (l:=d) (fun n i=>zAp 200000 d id n i) (fun i x=>bif idP id x then some ((i:Nat):Int) else none) hl]
 ·rw [Option.bind_some];first | (unfold tM;split<;>simp_all) | (unfold uz;split<;>simp_all) | (split<;>simp_all)
 ·intro n i hi
  show tN _ _ _ _ _=_
  unfold tN
  rw [yH (by omega),cond_false]
 ·intro n i x r hd hi
  show tN _ _ _ _ _=_
  unfold tN
  rw [yK (by omega),cond_true,yX hd,Option.bind_some,wI (by omega)]
  unfold idP
  cases (x.Id==id)<;>rfl
def zBU (x:zS):Prop:=x.Id<0∨x.Id≥8∨x.Ppm<0∨x.Ppm>10000
instance decDomBad {x:zS}:Decidable (zBU x):=inferInstanceAs (Decidable (_∨_))
def zDb (d:List zS) (i:Nat) (x:zS):Option Int:=if zBU x then some 2 else if tM (idP x.Id) (d.take i)≥0 then some 4 else none
theorem zF7 {d:List zS} (hl:d.length≤100000):pN 200000 d=some (match xI (zDb d) 0 d with | .inl _=>0 | .inr q=>q):=by
 unfold pN
 rw [qB (l:=d) (fun n i=>jG 200000 d n i) (zDb d) hl]
 ·rw [Option.bind_some];first | (unfold tM;split<;>simp_all) | (unfold uz;split<;>simp_all) | (split<;>simp_all)
 ·intro n i hi
  show vW _ _ _ _=_
  unfold vW
  rw [yH (by omega),cond_false]
 ·intro n i x r hd hi
  show vW _ _ _ _=_
  unfold vW
  rw [yK (by omega),cond_true,yX hd,Option.bind_some,wI (by omega),u1 (by omega),zKh,zBs (by rw [List.length_take];omega)]
  unfold zDb
  by_cases h:zBU x
  ·rw [if_pos h,zDs (by simpa [zBU] using h) rfl]
  ·rw [if_neg h,zFi (by unfold zBU at h;simp;omega) rfl,Option.bind_some,Option.bind_some]
   by_cases h2:tM (idP x.Id) (d.take i)≥0
   ·rw [if_pos h2,yK h2];rfl
   ·rw [if_neg h2,yH h2];rfl
def pJ (n:Int):Bool:=decide (n≥0)&&decide (n≤1000000000000)
def zCU (d:List zS) (x:xM):Int :=
 if tM (idP x.A) d<0∨tM (idP x.B) d<0 then 5 else if x.A=x.B then 1 else
 if (pJ x.AtA&&(pJ x.AtB.Lo&&pJ x.AtB.Hi))=false∨x.AtB.Lo>x.AtB.Hi then 2 else 0
theorem zIy {d:List zS} {x:xM} (hl:d.length≤100000):zA7 200000 d x=some (zCU d x):=by
 unfold zA7 zCU jM
 rw [zBs hl,Option.bind_some]
 simp only [zBs hl,Option.bind_some]
 rw [show (decide (x.AtA≥(0:Int))&&decide (x.AtA≤(1000000000000:Int)))=pJ x.AtA from rfl,show (decide (x.AtB.Lo≥(0:Int))&&decide (x.AtB.Lo≤(1000000000000:Int)))=pJ x.AtB.Lo from rfl,
  show (decide (x.AtB.Hi≥(0:Int))&&decide (x.AtB.Hi≤(1000000000000:Int)))=pJ x.AtB.Hi from rfl]
 generalize tM (idP x.A) d=p
 generalize tM (idP x.B) d=q
 generalize pJ x.AtA=r1
 generalize pJ x.AtB.Lo=r2
 generalize pJ x.AtB.Hi=r3
 by_cases h1:p<0
 ·rw [yK h1];simp [h1]
 ·rw [yH h1]
  by_cases h2:q<0
  ·rw [yK h2];simp [h1,h2]
  ·rw [yH h2]
   simp only [cond_false,Option.bind_some,h1,h2,or_self,if_false]
   by_cases h3:x.A=x.B
   ·rw [vJ h3,if_pos h3];rfl
   ·rw [tH h3,if_neg h3]
    by_cases h4:x.AtB.Lo>x.AtB.Hi
    ·rw [yK h4];cases r1<;>cases r2<;>cases r3<;>simp [h4]
    ·rw [yH h4];cases r1<;>cases r2<;>cases r3<;>simp [h4]
theorem zKQ {d:List zS} {x:xM} (hl:d.length≤100000):zCx 200000 d x=some (zCU d x):=by
 unfold zCx zCU pU
 rw [zBH hl,zBH hl]
 simp only [Option.bind_some]
 rw [show (decide (x.AtA≥(0:Int))&&decide (x.AtA≤(1000000000000:Int)))=pJ x.AtA from rfl,show (decide (x.AtB.Lo≥(0:Int))&&decide (x.AtB.Lo≤(1000000000000:Int)))=pJ x.AtB.Lo from rfl,
  show (decide (x.AtB.Hi≥(0:Int))&&decide (x.AtB.Hi≤(1000000000000:Int)))=pJ x.AtB.Hi from rfl]
 generalize tM (idP x.A) d=p
 generalize tM (idP x.B) d=q
 generalize pJ x.AtA=r1
 generalize pJ x.AtB.Lo=r2
 generalize pJ x.AtB.Hi=r3
 by_cases h1:p<0
 ·rw [yK h1];simp [h1]
 ·rw [yH h1]
  by_cases h2:q<0
  ·rw [yK h2];simp [h1,h2]
  ·rw [yH h2]
   simp only [cond_false,Option.bind_some,h1,h2,or_self,if_false]
   by_cases h3:x.A=x.B
   ·rw [vJ h3,if_pos h3];rfl
   ·rw [tH h3,if_neg h3]
    by_cases h4:x.AtB.Lo>x.AtB.Hi
    ·rw [yK h4];cases r1<;>cases r2<;>cases r3<;>simp [h4]
    ·rw [yH h4];cases r1<;>cases r2<;>cases r3<;>simp [h4]
def snF (d:List zS) (_:Nat) (x:xM):Option Int:=if zCU d x≠0 then some (zCU d x) else none
def uz (o:Unit⊕Int):Int:=match o with | .inl _=>0 | .inr q=>q
def zFo (d:List zS):Int:=uz (xI (zDb d) 0 d)
def jW (d:List zS) (l:List xM):Int :=
 if d.length=0 then 8 else if d.length>8∨l.length>200 then 7 else if d[0]?≠some ⟨0,0⟩ then 10 else if zFo d≠0 then zFo d else uz (xI (snF d) 0 l)
theorem zHH {d:List zS} {l:List xM} (hl:d.length≤100000) (hm:l.length≤100000):zAl 200000 d l=some (jW d l):=by
 unfold zAl jW
 by_cases h0:d.length=0
 ·rw [if_pos h0,vJ (by omega)];rfl
 rw [if_neg h0,tH (by omega),cond_false]
 by_cases h1:d.length>8∨l.length>200
 ·rw [if_pos h1,zDs (by simp;omega) rfl]
 rw [if_neg h1,zFi (by simp;omega) rfl,show xD d (0:Int)=d[0]? from nI d 0]
 cases hd:d[0]? with
 | none=>rw [List.getElem?_eq_none_iff] at hd;omega
 | some x =>
  rw [Option.bind_some]
  by_cases h2:x=⟨0,0⟩
  ·rw [if_neg (by simp [h2]),zFi (by simp [h2]) rfl,zF7 hl,Option.bind_some]
   show (bif (zFo d != 0) then some (zFo d) else _)=_
   by_cases h3:zFo d≠0
   ·rw [if_pos h3,vX h3];rfl
   ·rw [if_neg h3,v7 (by omega),cond_false,qB (l:=l) (fun n i=>kN 200000 d l n i) (snF d) hm]
    ·rw [Option.bind_some];first | (unfold tM;split<;>simp_all) | (unfold uz;split<;>simp_all) | (split<;>simp_all)
    ·intro n i hi
     show uG _ _ _ _ _=_
     unfold uG
     rw [yH (by omega),cond_false]
    ·intro n i x r hd hi
     show uG _ _ _ _ _=_
     unfold uG
     rw [yK (by omega),cond_true,yX hd,Option.bind_some,wI (by omega),zIy hl,Option.bind_some]
     unfold snF
     by_cases h:zCU d x≠0
     ·rw [if_pos h,vX h];rfl
     ·rw [if_neg h,v7 (by omega)];rfl
  ·rw [if_pos (by simpa using h2),zDs (by simpa using h2) rfl]
theorem zEw {d:List zS} {l:List xM} (hl:d.length≤100000) (hm:l.length≤100000):zAT 200000 d l=some (jW d l):=by
 unfold zAT jW
 by_cases h0:d.length=0
 ·rw [if_pos h0,vJ (by omega)];rfl
 rw [if_neg h0,tH (by omega),cond_false]
 by_cases h1:d.length>8∨l.length>200
 ·rw [if_pos h1,zDs (by simp;omega) rfl]
 rw [if_neg h1,zFi (by simp;omega) rfl,show xD d (0:Int)=d[0]? from nI d 0]
 cases hd:d[0]? with
 | none=>rw [List.getElem?_eq_none_iff] at hd;omega
 | some x =>
  simp only [Option.bind_some]
  by_cases h2:x=⟨0,0⟩
  ·rw [if_neg (by simp [h2])]
   subst h2
   simp only [bne_self_eq_false,cond_false,Option.bind_some]
   rw [qB (l:=d) (fun n i=>nB 200000 d n i) (zDb d) hl]
   ·rw [Option.bind_some]
    unfold zFo
    cases hq:xI (zDb d) 0 d with
    | inr q =>
     have hq0:q≠0:=by
      have:∀ (i:Nat) (m:List zS) q,xI (zDb d) i m=.inr q→q≠0:=by
       intro i m
       induction m generalizing i with
       | nil=>intro q h;cases h
       | cons a r ih =>
        intro q h
        simp only [xI] at h
        cases hf:zDb d i a with
        | none=>rw [hf] at h;exact ih _ _ h
        | some b =>
         rw [hf] at h;injection h with h;subst h
         unfold zDb at hf
         split at hf
         ·injection hf with hf;omega
         ·split at hf
          ·injection hf with hf;omega
          ·cases hf
      exact this _ _ _ hq
     simp [uz,hq0]
    | inl u =>
     simp only [uz,ne_eq,not_true_eq_false,if_false]
     rw [qB (l:=l) (fun n i=>nF 200000 d l n i) (snF d) hm]
     ·rw [Option.bind_some];first | (unfold tM;split<;>simp_all) | (unfold uz;split<;>simp_all) | (split<;>simp_all)
     ·intro n i hi
      show u4 _ _ _ _ _=_
      unfold u4
      rw [yH (by omega),cond_false]
     ·intro n i x r hd hi
      show u4 _ _ _ _ _=_
      unfold u4
      rw [yK (by omega),cond_true,yX hd,Option.bind_some,wI (by omega),zKQ hl,Option.bind_some]
      unfold snF
      by_cases h:zCU d x≠0
      ·rw [if_pos h,vX h];rfl
      ·rw [if_neg h,v7 (by omega)];rfl
   ·intro n i hi
    show u6 _ _ _ _=_
    unfold u6
    rw [yH (by omega),cond_false]
   ·intro n i x r hd hi
    show u6 _ _ _ _=_
    unfold u6
    rw [yK (by omega),cond_true,yX hd,wI (by omega)]
    simp only [Option.bind_some,zBH hl]
    unfold zDb
    have hb:(bif decide (x.Id<0) then some true else bif decide (x.Id≥8) then some true else bif decide (x.Ppm<0) then some true else some (decide (x.Ppm>10000)))=some (decide (zBU x)):=by
     unfold zBU
     by_cases k1:x.Id<0
     ·simp [k1]
     ·by_cases k2:x.Id≥8
      ·simp [k1,k2]
      ·by_cases k3:x.Ppm<0
       ·simp [k1,k2,k3]
       ·simp [k1,k2,k3]
    rw [hb,Option.bind_some]
    by_cases h:zBU x
    ·rw [if_pos h,yK h];rfl
    ·rw [if_neg h,yH h,cond_false]
     have:=zN7 (idP x.Id) d (zD5 hd) (by simp [idP])
     by_cases h2:tM (idP x.Id) (d.take i)≥0
     ·rw [if_pos h2,yK (this.2 h2)];rfl
     ·rw [if_neg h2,yH (fun h=>h2 (this.1 h))];rfl
  ·have hx:(bif (x.Id != 0) then some true else some (x.Ppm != 0))=some true:=by
    by_cases k1:x.Id=0
    ·by_cases k2:x.Ppm=0
     ·exact absurd (by cases x;simp_all) h2
     ·rw [v7 k1,vX k2];rfl
    ·rw [vX k1];rfl
   rw [if_pos (by simpa using h2),hx,Option.bind_some];rfl
theorem zL0 {d:List zS} {l:List xM} (h:jW d l=0):jW d []=0:=by
 unfold jW at *
 split at h
 ·omega
 rename_i h0
 split at h
 ·omega
 rename_i h1
 split at h
 ·omega
 rename_i h2
 split at h
 ·rename_i h3;exact absurd h h3
 rename_i h3
 rw [if_neg h0,if_neg (by simp only [List.length_nil];omega),if_neg h2,if_neg h3];rfl
theorem zL3 {d:List zS} {id:Int} (hl:d.length≤100000) (hc:jW d []=0):∃ q,zDr 200000 d id=some (q,decide (tM (idP id) d≥0)):=by
 unfold zDr
 rw [zBH hl,Option.bind_some,zEw hl (by simp),Option.bind_some,v7 hc,cond_false,Option.bind_some]
 rcases zEb (idP id) d with ⟨h1,_⟩ | ⟨j,x,h1,h2,_⟩
 ·rw [h1];exact ⟨0,rfl⟩
 ·rw [h1,yH (by omega),cond_false,nI,h2]
  exact ⟨x.Ppm,by rw [yK (by omega)];rfl⟩
def thF (l:List zY) (i:Nat) (t:zY):Option Int:=if zAV t≠0 then some (zAV t) else if t.Id∈(l.take i).map (·.Id) then some 4 else none
def doF (d:List zS) (_:Nat) (t:zY):Option Int:=if tM (idP t.Domain) d≥0 then none else some 5
def zA6 (h:zL):Int :=
 if h.Threads.length=0 then 8 else if h.Threads.length>64 then 7 else
 match xI (thF h.Threads) 0 h.Threads with
 | .inr q=>q
 | .inl _=>if jW h.Domains h.Snaps≠0 then jW h.Domains h.Snaps else uz (xI (doF h.Domains) 0 h.Threads)
theorem zHd {h:zL} (hl:h.Threads.length≤100000):∀ (n i:Nat) (row:List (Int×Bool)),zLq row ((h.Threads.take i).map (·.Id))→(h.Threads.drop i).length<n →
  kK 200000 h n (i:Nat) row=some (xI (thF h.Threads) i (h.Threads.drop i)):=by
 intro n
 induction n with
 | zero=>intro i row _ h;omega
 | succ n ih =>
  intro i row hs hn
  show q7 _ _ _ _ _=_
  unfold q7
  rcases hd:h.Threads.drop i with _ | ⟨x,r⟩
  ·have:=uH hd
   rw [yH (by omega),cond_false];rfl
  ·have hi:=uQ hd
   rw [hd] at hn
   simp only [List.length_cons] at hn
   rw [yK (by omega),cond_true,yX hd,Option.bind_some,zE7,Option.bind_some,wI (by omega)]
   simp only [xI,thF]
   by_cases h1:zAV x≠0
   ·rw [if_pos h1,vX h1];rfl
   ·rw [if_neg h1,v7 (by omega),cond_false,hs.2]
    by_cases h2:x.Id∈(h.Threads.take i).map (·.Id)
    ·rw [if_pos h2,yK h2];rfl
    ·have hlen:=hs.1
     simp only [List.length_map,List.length_take] at hlen
     rw [if_neg h2,yH h2,cond_false,u1 (by omega),Option.bind_some,ih (i+1) _ ?_ (by rw [wR hd];omega),wR hd]
     rw [tA hd,List.map_append]
     exact zNo hs x.Id
theorem zJg {h:zL} (hl:h.Threads.length≤100000) (hd:h.Domains.length≤100000) (hs:h.Snaps.length≤100000):zB0 200000 h=some (zA6 h):=by
 unfold zB0 zA6
 by_cases h0:h.Threads.length=0
 ·rw [if_pos h0,vJ (by omega)];rfl
 rw [if_neg h0,tH (by omega),cond_false]
 by_cases h1:h.Threads.length>64
 ·rw [if_pos h1,yK (by omega)];rfl
 rw [if_neg h1,yH (by omega),cond_false,show kK 200000 h 200000 (0:Int) []=_ from zHd hl 200000 0 [] (by simpa using zNx) (by simp;omega),Option.bind_some,List.drop_zero]
 cases xI (thF h.Threads) 0 h.Threads with
 | inr q=>rfl
 | inl u =>
  simp only
  rw [zHH hd hs,Option.bind_some]
  by_cases h2:jW h.Domains h.Snaps≠0
  ·rw [if_pos h2,vX h2];rfl
  ·rw [if_neg h2]
   have h2:jW h.Domains h.Snaps=0:=by omega
   rw [h2]
   show Option.bind (kL 200000 h 200000 0) _=_
   rw [qB (l:=h.Threads) (fun n i=>kL 200000 h n i) (doF h.Domains) hl]
   ·rw [Option.bind_some];first | (unfold tM;split<;>simp_all) | (unfold uz;split<;>simp_all) | (split<;>simp_all)
   ·intro n i hi
    show u5 _ _ _ _=_
    unfold u5
    rw [yH (by omega),cond_false]
   ·intro n i x r hx hi
    show u5 _ _ _ _=_
    unfold u5
    rw [yK (by omega),cond_true,yX hx,Option.bind_some,wI (by omega)]
    unfold x9 doF
    rw [zMH hd,Option.bind_some,Option.bind_some]
    by_cases h3:tM (idP x.Domain) h.Domains≥0
    ·rw [if_pos h3,yK h3];rfl
    ·rw [if_neg h3,yH h3];rfl
theorem zHt {h:zL} {i:Nat} {x:zY} {r:List zY} (hl:h.Threads.length≤100000) (hd:h.Threads.drop i=x::r) :
  pV 200000 h (i:Nat) 200000 0=some (if x.Id∈(h.Threads.take i).map (·.Id) then .inr 4 else .inl ()):=by
 have hi:=uQ hd
 rw [qB (l:=h.Threads.take i) (fun n k=>pV 200000 h (i:Nat) n k) (fun _ y=>if y.Id=x.Id then some 4 else none) (by rw [List.length_take];omega)]
 ·congr 1
  split
  ·rename_i hm
   obtain ⟨y,hy,hyx⟩:=List.mem_map.1 hm
   have:∀ (m:List zY) (k:Nat),y∈m→xI (fun (_:Nat) (y:zY)=>if y.Id=x.Id then some (4:Int) else none) k m=.inr 4:=by
    intro m
    induction m with
    | nil=>intro k h;cases h
    | cons a m ih =>
     intro k h
     simp only [xI]
     by_cases ha:a.Id=x.Id
     ·rw [if_pos ha]
     ·rw [if_neg ha]
      rcases List.mem_cons.1 h with rfl | h
      ·exact absurd hyx ha
      ·exact ih _ h
   exact this _ _ hy
  ·rename_i hm
   refine zCD fun j y hj=>?_
   rw [if_neg]
   intro he
   exact hm (List.mem_map.2 ⟨y,List.mem_of_getElem? hj,he⟩)
 ·intro n k hk
  rw [List.length_take] at hk
  show tS _ _ _ _ _=_
  unfold tS
  rw [yH (by omega),cond_false]
 ·intro n k y r2 hk hlt
  rw [List.length_take] at hlt
  show tS _ _ _ _ _=_
  unfold tS
  have hy:h.Threads[k]?=some y:=by
   have:=zD5 hk
   rw [List.getElem?_take] at this
   split at this
   ·exact this
   ·cases this
  rw [yK (by omega),cond_true,nI,hy,Option.bind_some,yX hd,Option.bind_some,wI (by omega)]
  by_cases he:y.Id=x.Id
  ·rw [vJ he,if_pos he];rfl
  ·rw [tH he,if_neg he];rfl
theorem zKC {h:zL} (hl:h.Threads.length≤100000) (hd:h.Domains.length≤100000) (hs:h.Snaps.length≤100000):zCy 200000 h=some (zA6 h):=by
 unfold zCy zA6
 by_cases h0:h.Threads.length=0
 ·rw [if_pos h0,vJ (by omega)];rfl
 rw [if_neg h0,tH (by omega),cond_false]
 by_cases h1:h.Threads.length>64
 ·rw [if_pos h1,yK (by omega)];rfl
 rw [if_neg h1,yH (by omega),cond_false,qB (l:=h.Threads) (fun n i=>zAe 200000 h n i) (thF h.Threads) hl]
 ·rw [Option.bind_some]
  cases xI (thF h.Threads) 0 h.Threads with
  | inr q=>rfl
  | inl u =>
   simp only
   rw [zEw hd hs,Option.bind_some]
   by_cases h2:jW h.Domains h.Snaps≠0
   ·rw [if_pos h2,vX h2];rfl
   ·rw [if_neg h2]
    have h2:jW h.Domains h.Snaps=0:=by omega
    rw [h2]
    show Option.bind (p0 200000 h 200000 0) _=_
    rw [qB (l:=h.Threads) (fun n i=>p0 200000 h n i) (doF h.Domains) hl]
    ·rw [Option.bind_some];first | (unfold tM;split<;>simp_all) | (unfold uz;split<;>simp_all) | (split<;>simp_all)
    ·intro n i hi
     show tO _ _ _ _=_
     unfold tO
     rw [yH (by omega),cond_false]
    ·intro n i x r hx hi
     show tO _ _ _ _=_
     unfold tO doF
     obtain ⟨q,hq⟩:=zL3 (id:=x.Domain) hd (zL0 h2)
     rw [yK (by omega),cond_true,yX hx,Option.bind_some,wI (by omega),hq,Option.bind_some]
     by_cases h3:tM (idP x.Domain) h.Domains≥0
     ·rw [if_pos h3,yK h3];rfl
     ·rw [if_neg h3,yH h3];rfl
 ·intro n i hi
  show tT _ _ _ _=_
  unfold tT
  rw [yH (by omega),cond_false]
 ·intro n i x r hx hi
  show tT _ _ _ _=_
  unfold tT thF
  rw [yK (by omega),cond_true,yX hx,Option.bind_some,wI (by omega),zIA,Option.bind_some]
  by_cases h2:zAV x≠0
  ·rw [if_pos h2,vX h2];rfl
  ·rw [if_neg h2,v7 (by omega),cond_false,zHt hl hx,Option.bind_some]
   by_cases h3:x.Id∈(h.Threads.take i).map (·.Id)
   ·rw [if_pos h3,if_pos h3]
   ·rw [if_neg h3,if_neg h3]
end Go.Ab
