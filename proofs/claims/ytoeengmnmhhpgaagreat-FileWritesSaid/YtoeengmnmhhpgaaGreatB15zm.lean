/- Plain laws of the functions uS this seat's, laid anew from another seat's text. No conditions but those that the theorems name. -/
import Derived.Test.YtoeengmnmhhpgaaGreatP15zxD
import Derived.Test.YtoeengmnmhhpgaaGreatB15za
import Derived.Test.YtoeengmnmhhpgaaGreatB15zb
import Derived.Test.YtoeengmnmhhpgaaGreatB15zc
import Derived.Test.YtoeengmnmhhpgaaGreatB15zd
import Derived.Test.YtoeengmnmhhpgaaGreatB15zt
namespace Go.Ab
open Go
set_option linter.unusedVariables false
theorem aJ {α β:Type} {l:List α} (L:Nat->Int->Option (Unit⊕β)) (f:Nat->α->Option β) (hl:l.length<=100000)
  (h0:∀ n i,l.length<=i->L (n+1) (i:Nat)=some (.inl ()))
  (h1:∀ n i x r,l.drop i=x::r->i<l.length->L (n+1) (i:Nat)=match f i x with | none=>L n ((i+1:Nat):Int) | some b=>some (.inr b)):L 281474976710656 0=some (uR f 0 l):=by
 have key:∀ (n i:Nat),(l.drop i).length<n->L n (i:Int)=some (uR f i (l.drop i)):=by
  intro n
  induction n with
  | zero=>intro i h;omega
  | succ n ih =>
   intro i hn;rcases hd:l.drop i with _ | ⟨x,r⟩
   ·rw [h0 n i (qC hd)];rfl
   ·rw [h1 n i x r hd (tZ hd)];rw [hd] at hn;simp only [zlc] at hn;simp only [uR];cases hf:f i x with
    | none=>simp only;rw [ih (i+1) (by rw [w6 hd];omega),w6 hd]
    | some b=>rfl
 have:=key 281474976710656 0 (by simp;omega)
 simpa using this
def qE {α:Type} (p:α->Bool) (l:List α):Int:=match uR (fun i x=>bif p x then some ((i:Nat):Int) else none) 0 l with | .inl _ => -1 | .inr q=>q
theorem XO {α:Type} (p:α->Bool):∀ (l:List α) (i:Nat),(uR (fun i x=>bif p x then some ((i:Nat):Int) else none) i l=.inl ()/\∀ x∈l,p x=false) \/
  ∃ (j:Nat) (x:α),uR (fun i x=>bif p x then some ((i:Nat):Int) else none) i l=.inr ((i+j:Nat):Int)/\l[j]?=some x/\p x=true/\∀ k y,k<j->l[k]?=some y->p y=false
 | [],i=>.inl ⟨rfl,by simp⟩
 | a::r,i=>by
  simp only [uR];cases hp:p a
  ·simp only [cond_false];rcases XO p r (i+1) with ⟨h1,h2⟩ | ⟨j,x,h1,h2,h3,h4⟩
   ·exact .inl ⟨h1,fun x hx=>by rcases List.mem_cons.1 hx with rfl | hx;exact hp;exact h2 x hx⟩
   ·refine .inr ⟨j+1,x,by rw [h1];congr 1;omega,by simpa using h2,h3,fun k y hk hy=>?_⟩;cases k with
    | zero=>simp at hy;subst hy;exact hp
    | succ k=>exact h4 k y (by omega) (by simpa using hy)
  ·simp only [cond_true];exact .inr ⟨0,a,by simp,rfl,hp,fun k y hk=>by omega⟩
theorem UE {α:Type} (p:α->Bool) (l:List α):(qE p l = -1/\∀ x∈l,p x=false)\/∃ (j:Nat) (x:α),qE p l=(j:Int)/\l[j]?=some x/\p x=true/\∀ k y,k<j->l[k]?=some y->p y=false:=by
 unfold qE;rcases XO p l 0 with ⟨h1,h2⟩ | ⟨j,x,h1,h2,h3,h4⟩
 ·rw [h1];exact .inl ⟨rfl,h2⟩
 ·rw [h1];exact .inr ⟨j,x,by simp,h2,h3,h4⟩
theorem zH7 {α:Type} (p:α->Bool) (l:List α):qE p l>=0↔∃ x∈l,p x=true:=by
 rcases UE p l with ⟨h1,h2⟩ | ⟨j,x,h1,h2,h3,_⟩
 ·rw [h1];exact ⟨fun h=>by omega,fun ⟨x,hx,hp⟩=>by rw [h2 x hx] at hp;cases hp⟩
 ·rw [h1];exact ⟨fun _=>⟨x,List.mem_of_getElem? h2,h3⟩,fun _=>by omega⟩
theorem zEs {α:Type} (p:α->Bool) (l:List α) {i:Nat} {x:α} (hi:l[i]?=some x) (hp:p x=true):qE p l<i↔qE p (l.take i)>=0:=by
 rw [zH7];rcases UE p l with ⟨h1,h2⟩ | ⟨j,y,h1,h2,h3,h4⟩
 ·rw [h2 x (List.mem_of_getElem? hi)] at hp;cases hp
 ·rw [h1]
  constructor
  ·intro h;exact ⟨y,List.mem_of_getElem? (i:=j) (by rw [List.getElem?_take,if_pos (by omega)];exact h2),h3⟩
  ·rintro ⟨z,hz,hpz⟩;obtain ⟨k,hk⟩:=List.mem_iff_getElem?.1 hz;rw [List.getElem?_take] at hk
   split at hk
   ·rename_i hki
    rcases zlg k j with h | h
    ·rw [h4 k z h hk] at hpz;cases hpz
    ·omega
   ·cases hk
def idP (id:Int) (d:xA):Bool:=d.Id==id
theorem zEM {d:List xA} {id:Int} (hl:d.length<=100000):JW 281474976710656 d id=some (qE (idP id) d):=by
 unfold JW;rw [aJ (l:=d) (fun n i=>ED 281474976710656 d id n i) (fun i x=>bif idP id x then some ((i:Nat):Int) else none) hl]
 ·rw [zbs];first | (unfold qE;split<;>simp_all) | (unfold uz;split<;>simp_all) | (split<;>simp_all)
 ·intro n i hi;show oH _ _ _ _ _=_;unfold oH;rw [yP (by omega),cond_false]
 ·intro n i x r hd hi;show oH _ _ _ _ _=_;unfold oH;rw [yN (by omega),cond_true,vE hd,zbs,wX (by omega)];unfold OM idP;rw [zbs];cases (x.Id==id)<;>rfl
theorem zGD {d:List xA} {t:xI} (hl:d.length<=100000):G1 281474976710656 d t=some (qE (idP t.Domain) d):=by
 unfold G1;rw [aJ (l:=d) (fun n i=>EB 281474976710656 d t n i) (fun i x=>bif idP t.Domain x then some ((i:Nat):Int) else none) hl]
 ·rw [zbs];first | (unfold qE;split<;>simp_all) | (unfold uz;split<;>simp_all) | (split<;>simp_all)
 ·intro n i hi;show o8 _ _ _ _ _=_;unfold o8;rw [yP (by omega),cond_false]
 ·intro n i x r hd hi;show o8 _ _ _ _ _=_;unfold o8;rw [yN (by omega),cond_true,vE hd,zbs,wX (by omega)];unfold OL idP;rw [zbs];cases (x.Id==t.Domain)<;>rfl
theorem R1 {d:List xA} {id:Int} (hl:d.length<=100000):lS 281474976710656 d id=some (qE (idP id) d):=by
 unfold lS;rw [zEM hl];rfl
theorem OK {d:List xA} {id:Int} (hl:d.length<=100000):gJ 281474976710656 d id=some (qE (idP id) d):=by
 unfold gJ;rw [aJ (l:=d) (fun n i=>K5 281474976710656 d id n i) (fun i x=>bif idP id x then some ((i:Nat):Int) else none) hl]
 ·rw [zbs];first | (unfold qE;split<;>simp_all) | (unfold uz;split<;>simp_all) | (split<;>simp_all)
 ·intro n i hi;show m4 _ _ _ _ _=_;unfold m4;rw [yP (by omega),cond_false]
 ·intro n i x r hd hi;show m4 _ _ _ _ _=_;unfold m4;rw [yN (by omega),cond_true,vE hd,zbs,wX (by omega)];unfold idP;cases (x.Id==id)<;>rfl
def iY (x:xA):Prop:=x.Id<0\/x.Id>=8\/x.Ppm<0\/x.Ppm>10000
instance decDomBad {x:xA}:Decidable (iY x):=inferInstanceAs (Decidable (_\/_))
def cU (d:List xA) (i:Nat) (x:xA):Option Int:=if iY x then some 2 else if qE (idP x.Id) (d.take i)>=0 then some 4 else none
theorem zDe {d:List xA} (hl:d.length<=100000):HM 281474976710656 d=some (match uR (cU d) 0 d with | .inl _=>0 | .inr q=>q):=by
 unfold HM;rw [aJ (l:=d) (fun n i=>DX 281474976710656 d n i) (cU d) hl]
 ·rw [zbs];first | (unfold qE;split<;>simp_all) | (unfold uz;split<;>simp_all) | (split<;>simp_all)
 ·intro n i hi;show mY _ _ _ _=_;unfold mY;rw [yP (by omega),cond_false]
 ·intro n i x r hd hi;show mY _ _ _ _=_;unfold mY;rw [yN (by omega),cond_true,vE hd,zbs,wX (by omega),xQ (by omega),SV,R1 (by rw [List.length_take];omega)];unfold cU
  by_cases h:iY x
  ·rw [if_pos h,HS (by simpa [iY] using h) rfl]
  ·rw [if_neg h,LY (by unfold iY at h;simp;omega) rfl,zbs,zbs]
   by_cases h2:qE (idP x.Id) (d.take i)>=0
   ·rw [if_pos h2,yN h2];rfl
   ·rw [if_neg h2,yP h2];rfl
def nP (n:Int):Bool:=decide (n>=0)&&decide (n<=1000000000000)
def iE (d:List xA) (x:yZ):Int :=
 if qE (idP x.A) d<0\/qE (idP x.B) d<0 then 5 else if x.A=x.B then 1 else
 if (nP x.AtA&&(nP x.AtB.Lo&&nP x.AtB.Hi))=false\/x.AtB.Lo>x.AtB.Hi then 2 else 0
theorem zG4 {d:List xA} {x:yZ} (hl:d.length<=100000):D1 281474976710656 d x=some (iE d x):=by
 unfold D1 iE C3;rw [R1 hl,zbs];simp only [R1 hl,zbs];rw [show (decide (x.AtA>=(0:Int))&&decide (x.AtA<=(1000000000000:Int)))=nP x.AtA from rfl,show (decide (x.AtB.Lo>=(0:Int))&&decide (x.AtB.Lo<=(1000000000000:Int)))=nP x.AtB.Lo from rfl,
  show (decide (x.AtB.Hi>=(0:Int))&&decide (x.AtB.Hi<=(1000000000000:Int)))=nP x.AtB.Hi from rfl]
 generalize qE (idP x.A) d=p;generalize qE (idP x.B) d=q;generalize nP x.AtA=r1;generalize nP x.AtB.Lo=r2;generalize nP x.AtB.Hi=r3
 by_cases h1:p<0
 ·rw [yN h1];simp [h1]
 ·rw [yP h1]
  by_cases h2:q<0
  ·rw [yN h2];simp [h1,h2]
  ·rw [yP h2];simp only [cond_false,zbs,h1,h2,or_self,if_false]
   by_cases h3:x.A=x.B
   ·rw [u9 h3,if_pos h3];rfl
   ·rw [uK h3,if_neg h3]
    by_cases h4:x.AtB.Lo>x.AtB.Hi
    ·rw [yN h4];cases r1<;>cases r2<;>cases r3<;>simp [h4]
    ·rw [yP h4];cases r1<;>cases r2<;>cases r3<;>simp [h4]
theorem zFr {d:List xA} {x:yZ} (hl:d.length<=100000):K2 281474976710656 d x=some (iE d x):=by
 unfold K2 iE CG;rw [OK hl,OK hl];simp only [zbs];rw [show (decide (x.AtA>=(0:Int))&&decide (x.AtA<=(1000000000000:Int)))=nP x.AtA from rfl,show (decide (x.AtB.Lo>=(0:Int))&&decide (x.AtB.Lo<=(1000000000000:Int)))=nP x.AtB.Lo from rfl,
  show (decide (x.AtB.Hi>=(0:Int))&&decide (x.AtB.Hi<=(1000000000000:Int)))=nP x.AtB.Hi from rfl]
 generalize qE (idP x.A) d=p;generalize qE (idP x.B) d=q;generalize nP x.AtA=r1;generalize nP x.AtB.Lo=r2;generalize nP x.AtB.Hi=r3
 by_cases h1:p<0
 ·rw [yN h1];simp [h1]
 ·rw [yP h1]
  by_cases h2:q<0
  ·rw [yN h2];simp [h1,h2]
  ·rw [yP h2];simp only [cond_false,zbs,h1,h2,or_self,if_false]
   by_cases h3:x.A=x.B
   ·rw [u9 h3,if_pos h3];rfl
   ·rw [uK h3,if_neg h3]
    by_cases h4:x.AtB.Lo>x.AtB.Hi
    ·rw [yN h4];cases r1<;>cases r2<;>cases r3<;>simp [h4]
    ·rw [yP h4];cases r1<;>cases r2<;>cases r3<;>simp [h4]
def snF (d:List xA) (_:Nat) (x:yZ):Option Int:=if iE d x≠0 then some (iE d x) else none
def uz (o:Unit⊕Int):Int:=match o with | .inl _=>0 | .inr q=>q
def CU (d:List xA):Int:=uz (uR (cU d) 0 d)
def tV (d:List xA) (l:List yZ):Int :=
 if d.length=0 then 8 else if d.length>8\/l.length>200 then 7 else if d[0]?≠some ⟨0,0⟩ then 10 else if CU d≠0 then CU d else uz (uR (snF d) 0 l)
theorem UP {d:List xA} {l:List yZ} (hl:d.length<=100000) (hm:l.length<=100000):oQ 281474976710656 d l=some (tV d l):=by
 unfold oQ tV
 by_cases h0:d.length=0
 ·rw [if_pos h0,u9 (by omega)];rfl
 rw [if_neg h0,uK (by omega),cond_false]
 by_cases h1:d.length>8\/l.length>200
 ·rw [if_pos h1,HS (by simp;omega) rfl]
 rw [if_neg h1,LY (by simp;omega) rfl,show yX d (0:Int)=d[0]? from nG d 0];cases hd:d[0]? with
 | none=>rw [List.getElem?_eq_none_iff] at hd;omega
 | some x =>
  rw [zbs]
  by_cases h2:x=⟨0,0⟩
  ·rw [if_neg (by simp [h2]),LY (by simp [h2]) rfl,zDe hl,zbs];show (bif (CU d != 0) then some (CU d) else _)=_
   by_cases h3:CU d≠0
   ·rw [if_pos h3,xX h3];rfl
   ·rw [if_neg h3,x7 (by omega),cond_false,aJ (l:=l) (fun n i=>G2 281474976710656 d l n i) (snF d) hm]
    ·rw [zbs];first | (unfold qE;split<;>simp_all) | (unfold uz;split<;>simp_all) | (split<;>simp_all)
    ·intro n i hi;show oX _ _ _ _ _=_;unfold oX;rw [yP (by omega),cond_false]
    ·intro n i x r hd hi;show oX _ _ _ _ _=_;unfold oX;rw [yN (by omega),cond_true,vE hd,zbs,wX (by omega),zG4 hl,zbs];unfold snF
     by_cases h:iE d x≠0
     ·rw [if_pos h,xX h];rfl
     ·rw [if_neg h,x7 (by omega)];rfl
  ·rw [if_pos (by simpa using h2),HS (by simpa using h2) rfl]
theorem ML {d:List xA} {l:List yZ} (hl:d.length<=100000) (hm:l.length<=100000):g7 281474976710656 d l=some (tV d l):=by
 unfold g7 tV
 by_cases h0:d.length=0
 ·rw [if_pos h0,u9 (by omega)];rfl
 rw [if_neg h0,uK (by omega),cond_false]
 by_cases h1:d.length>8\/l.length>200
 ·rw [if_pos h1,HS (by simp;omega) rfl]
 rw [if_neg h1,LY (by simp;omega) rfl,show yX d (0:Int)=d[0]? from nG d 0];cases hd:d[0]? with
 | none=>rw [List.getElem?_eq_none_iff] at hd;omega
 | some x =>
  simp only [zbs]
  by_cases h2:x=⟨0,0⟩
  ·rw [if_neg (by simp [h2])];subst h2;simp only [bne_self_eq_false,cond_false,zbs];rw [aJ (l:=d) (fun n i=>J5 281474976710656 d n i) (cU d) hl]
   ·rw [zbs];unfold CU;cases hq:uR (cU d) 0 d with
    | inr q =>
     have hq0:q≠0:=by
      have:∀ (i:Nat) (m:List xA) q,uR (cU d) i m=.inr q->q≠0:=by
       intro i m
       induction m generalizing i with
       | nil=>intro q h;cases h
       | cons a r ih =>
        intro q h;simp only [uR] at h;cases hf:cU d i a with
        | none=>rw [hf] at h;exact ih _ _ h
        | some b =>
         rw [hf] at h;injection h with h;subst h;unfold cU at hf
         split at hf
         ·injection hf with hf;omega
         ·split at hf
          ·injection hf with hf;omega
          ·cases hf
      exact this _ _ _ hq
     simp [uz,hq0]
    | inl u =>
     simp only [uz,ne_eq,not_true_eq_false,if_false];rw [aJ (l:=l) (fun n i=>J3 281474976710656 d l n i) (snF d) hm]
     ·rw [zbs];first | (unfold qE;split<;>simp_all) | (unfold uz;split<;>simp_all) | (split<;>simp_all)
     ·intro n i hi;show oV _ _ _ _ _=_;unfold oV;rw [yP (by omega),cond_false]
     ·intro n i x r hd hi;show oV _ _ _ _ _=_;unfold oV;rw [yN (by omega),cond_true,vE hd,zbs,wX (by omega),zFr hl,zbs];unfold snF
      by_cases h:iE d x≠0
      ·rw [if_pos h,xX h];rfl
      ·rw [if_neg h,x7 (by omega)];rfl
   ·intro n i hi;show m8 _ _ _ _=_;unfold m8;rw [yP (by omega),cond_false]
   ·intro n i x r hd hi;show m8 _ _ _ _=_;unfold m8;rw [yN (by omega),cond_true,vE hd,wX (by omega)];simp only [zbs,OK hl];unfold cU;have hb:(bif decide (x.Id<0) then some true else bif decide (x.Id>=8) then some true else bif decide (x.Ppm<0) then some true else some (decide (x.Ppm>10000)))=some (decide (iY x)):=by
     unfold iY
     by_cases k1:x.Id<0
     ·simp [k1]
     ·by_cases k2:x.Id>=8
      ·simp [k1,k2]
      ·by_cases k3:x.Ppm<0
       ·simp [k1,k2,k3]
       ·simp [k1,k2,k3]
    rw [hb,zbs]
    by_cases h:iY x
    ·rw [if_pos h,yN h];rfl
    ·rw [if_neg h,yP h,cond_false]
     have:=zEs (idP x.Id) d (GF hd) (by simp [idP])
     by_cases h2:qE (idP x.Id) (d.take i)>=0
     ·rw [if_pos h2,yN (this.2 h2)];rfl
     ·rw [if_neg h2,yP (fun h=>h2 (this.1 h))];rfl
  ·have hx:(bif (x.Id != 0) then some true else some (x.Ppm != 0))=some true:=by
    by_cases k1:x.Id=0
    ·by_cases k2:x.Ppm=0
     ·exact absurd (by cases x;simp_all) h2
     ·rw [x7 k1,xX k2];rfl
    ·rw [xX k1];rfl
   rw [if_pos (by simpa using h2),hx,zbs];rfl
theorem zGL {d:List xA} {l:List yZ} (h:tV d l=0):tV d []=0:=by
 unfold tV at *
 split at h
 ·omega
 rename_i h0
 split at h
 ·omega
 rename_i h1
 split at h
 ·omega
 rename_i h2
 split at h
 ·rename_i h3;exact absurd h h3
 rename_i h3
 rw [if_neg h0,if_neg (by simp only [List.length_nil];omega),if_neg h2,if_neg h3];rfl
theorem zDq {d:List xA} {id:Int} (hl:d.length<=100000) (hc:tV d []=0):∃ q,G6 281474976710656 d id=some (q,decide (qE (idP id) d>=0)):=by
 unfold G6;rw [OK hl,zbs,ML hl (by simp),zbs,x7 hc,cond_false,zbs];rcases UE (idP id) d with ⟨h1,_⟩ | ⟨j,x,h1,h2,_⟩
 ·rw [h1];exact ⟨0,rfl⟩
 ·rw [h1,yP (by omega),cond_false,nG,h2];exact ⟨x.Ppm,by rw [yN (by omega)];rfl⟩
def thF (l:List xI) (i:Nat) (t:xI):Option Int:=if bL t≠0 then some (bL t) else if t.Id∈(l.take i).map (·.Id) then some 4 else none
def doF (d:List xA) (_:Nat) (t:xI):Option Int:=if qE (idP t.Domain) d>=0 then none else some 5
def pC (h:yB):Int :=
 if h.Threads.length=0 then 8 else if h.Threads.length>64 then 7 else
 match uR (thF h.Threads) 0 h.Threads with
 | .inr q=>q
 | .inl _=>if tV h.Domains h.Snaps≠0 then tV h.Domains h.Snaps else uz (uR (doF h.Domains) 0 h.Threads)
theorem zIL {h:yB} (hl:h.Threads.length<=100000):∀ (n i:Nat) (row:List (Int×Bool)),BZ row ((h.Threads.take i).map (·.Id))->(h.Threads.drop i).length<n ->
  C7 281474976710656 h n (i:Nat) row=some (uR (thF h.Threads) i (h.Threads.drop i)):=by
 intro n
 induction n with
 | zero=>intro i row _ h;omega
 | succ n ih =>
  intro i row hs hn;show HI _ _ _ _ _=_;unfold HI;rcases hd:h.Threads.drop i with _ | ⟨x,r⟩
  ·have:=qC hd
   rw [yP (by omega),cond_false];rfl
  ·have hi:=tZ hd;rw [hd] at hn;simp only [zlc] at hn;rw [yN (by omega),cond_true,vE hd,zbs,zCO,zbs,wX (by omega)];simp only [uR,thF]
   by_cases h1:bL x≠0
   ·rw [if_pos h1,xX h1];rfl
   ·rw [if_neg h1,x7 (by omega),cond_false,hs.2]
    by_cases h2:x.Id∈(h.Threads.take i).map (·.Id)
    ·rw [if_pos h2,yN h2];rfl
    ·have hlen:=hs.1;simp only [List.length_map,List.length_take] at hlen;rw [if_neg h2,yP h2,cond_false,xQ (by omega),zbs,ih (i+1) _ ?_ (by rw [w6 hd];omega),w6 hd];rw [bO hd,List.map_append];exact O6 hs x.Id
theorem W7 {h:yB} (hl:h.Threads.length<=100000) (hd:h.Domains.length<=100000) (hs:h.Snaps.length<=100000):rA 281474976710656 h=some (pC h):=by
 unfold rA pC
 by_cases h0:h.Threads.length=0
 ·rw [if_pos h0,u9 (by omega)];rfl
 rw [if_neg h0,uK (by omega),cond_false]
 by_cases h1:h.Threads.length>64
 ·rw [if_pos h1,yN (by omega)];rfl
 rw [if_neg h1,yP (by omega),cond_false,show C7 281474976710656 h 281474976710656 (0:Int) []=_ from zIL hl 281474976710656 0 [] (by simpa using RR) (by simp;omega),zbs,zdz];cases uR (thF h.Threads) 0 h.Threads with
 | inr q=>rfl
 | inl u =>
  simp only;rw [UP hd hs,zbs]
  by_cases h2:tV h.Domains h.Snaps≠0
  ·rw [if_pos h2,xX h2];rfl
  ·rw [if_neg h2];have h2:tV h.Domains h.Snaps=0:=by omega
   rw [h2];show Option.bind (AN 281474976710656 h 281474976710656 0) _=_;rw [aJ (l:=h.Threads) (fun n i=>AN 281474976710656 h n i) (doF h.Domains) hl]
   ·rw [zbs];first | (unfold qE;split<;>simp_all) | (unfold uz;split<;>simp_all) | (split<;>simp_all)
   ·intro n i hi;show oU _ _ _ _=_;unfold oU;rw [yP (by omega),cond_false]
   ·intro n i x r hx hi;show oU _ _ _ _=_;unfold oU;rw [yN (by omega),cond_true,vE hx,zbs,wX (by omega)];unfold L1 doF;rw [zGD hd,zbs,zbs]
    by_cases h3:qE (idP x.Domain) h.Domains>=0
    ·rw [if_pos h3,yN h3];rfl
    ·rw [if_neg h3,yP h3];rfl
theorem zDt {h:yB} {i:Nat} {x:xI} {r:List xI} (hl:h.Threads.length<=100000) (hd:h.Threads.drop i=x::r) :
  B2 281474976710656 h (i:Nat) 281474976710656 0=some (if x.Id∈(h.Threads.take i).map (·.Id) then .inr 4 else .inl ()):=by
 have hi:=tZ hd;rw [aJ (l:=h.Threads.take i) (fun n k=>B2 281474976710656 h (i:Nat) n k) (fun _ y=>if y.Id=x.Id then some 4 else none) (by rw [List.length_take];omega)]
 ·congr 1
  split
  ·rename_i hm
   obtain ⟨y,hy,hyx⟩:=List.mem_map.1 hm
   have:∀ (m:List xI) (k:Nat),y∈m->uR (fun (_:Nat) (y:xI)=>if y.Id=x.Id then some (4:Int) else none) k m=.inr 4:=by
    intro m
    induction m with
    | nil=>intro k h;cases h
    | cons a m ih =>
     intro k h;simp only [uR]
     by_cases ha:a.Id=x.Id
     ·rw [if_pos ha]
     ·rw [if_neg ha];rcases List.mem_cons.1 h with rfl | h
      ·exact absurd hyx ha
      ·exact ih _ h
   exact this _ _ hy
  ·rename_i hm
   refine zAp fun j y hj=>?_
   rw [if_neg];intro he;exact hm (List.mem_map.2 ⟨y,List.mem_of_getElem? hj,he⟩)
 ·intro n k hk;rw [List.length_take] at hk;show lR _ _ _ _ _=_;unfold lR;rw [yP (by omega),cond_false]
 ·intro n k y r2 hk hlt;rw [List.length_take] at hlt;show lR _ _ _ _ _=_;unfold lR;have hy:h.Threads[k]?=some y:=by
   have:=GF hk
   rw [List.getElem?_take] at this
   split at this
   ·exact this
   ·cases this
  rw [yN (by omega),cond_true,nG,hy,zbs,vE hd,zbs,wX (by omega)]
  by_cases he:y.Id=x.Id
  ·rw [u9 he,if_pos he];rfl
  ·rw [uK he,if_neg he];rfl
theorem ZC {h:yB} (hl:h.Threads.length<=100000) (hd:h.Domains.length<=100000) (hs:h.Snaps.length<=100000):DP 281474976710656 h=some (pC h):=by
 unfold DP pC
 by_cases h0:h.Threads.length=0
 ·rw [if_pos h0,u9 (by omega)];rfl
 rw [if_neg h0,uK (by omega),cond_false]
 by_cases h1:h.Threads.length>64
 ·rw [if_pos h1,yN (by omega)];rfl
 rw [if_neg h1,yP (by omega),cond_false,aJ (l:=h.Threads) (fun n i=>JB 281474976710656 h n i) (thF h.Threads) hl]
 ·rw [zbs];cases uR (thF h.Threads) 0 h.Threads with
  | inr q=>rfl
  | inl u =>
   simp only;rw [ML hd hs,zbs]
   by_cases h2:tV h.Domains h.Snaps≠0
   ·rw [if_pos h2,xX h2];rfl
   ·rw [if_neg h2];have h2:tV h.Domains h.Snaps=0:=by omega
    rw [h2];show Option.bind (AH 281474976710656 h 281474976710656 0) _=_;rw [aJ (l:=h.Threads) (fun n i=>AH 281474976710656 h n i) (doF h.Domains) hl]
    ·rw [zbs];first | (unfold qE;split<;>simp_all) | (unfold uz;split<;>simp_all) | (split<;>simp_all)
    ·intro n i hi;show lW _ _ _ _=_;unfold lW;rw [yP (by omega),cond_false]
    ·intro n i x r hx hi;show lW _ _ _ _=_;unfold lW doF;obtain ⟨q,hq⟩:=zDq (id:=x.Domain) hd (zGL h2);rw [yN (by omega),cond_true,vE hx,zbs,wX (by omega),hq,zbs]
     by_cases h3:qE (idP x.Domain) h.Domains>=0
     ·rw [if_pos h3,yN h3];rfl
     ·rw [if_neg h3,yP h3];rfl
 ·intro n i hi;show o4 _ _ _ _=_;unfold o4;rw [yP (by omega),cond_false]
 ·intro n i x r hx hi;show o4 _ _ _ _=_;unfold o4 thF;rw [yN (by omega),cond_true,vE hx,zbs,wX (by omega),zHD,zbs]
  by_cases h2:bL x≠0
  ·rw [if_pos h2,xX h2];rfl
  ·rw [if_neg h2,x7 (by omega),cond_false,zDt hl hx,zbs]
   by_cases h3:x.Id∈(h.Threads.take i).map (·.Id)
   ·rw [if_pos h3,if_pos h3]
   ·rw [if_neg h3,if_neg h3]
end Go.Ab
