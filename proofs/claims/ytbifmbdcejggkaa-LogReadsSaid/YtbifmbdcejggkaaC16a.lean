/- What the functions about a log's head compute. No conditions but the bounds on lengths that the theorems name. -/
import Derived.Test.YtbifmbdcejggkaaP16xD
import Derived.Test.YtbifmbdcejggkaaB16e
namespace Go.Ab
open Go
set_option linter.unusedVariables false
theorem qB {α β:Type} {l:List α} (L:Nat→Int→Option (Unit⊕β)) (f:Nat→α→Option β) (hl:l.length≤100000)
  (h0:∀ n i,l.length≤i→L (n+1) (i:Nat)=some (.inl ()))
  (h1:∀ n i x r,l.drop i=x::r→i<l.length→L (n+1) (i:Nat)=match f i x with | none=>L n ((i+1:Nat):Int) | some b=>some (.inr b)):L 281474976710656 0=some (xL f 0 l):=by
 have key:∀ (n i:Nat),(l.drop i).length<n→L n (i:Int)=some (xL f i (l.drop i)):=by
  intro n
  induction n with
  | zero=>intro i h;omega
  | succ n ih =>
   intro i hn
   rcases hd:l.drop i with _ | ⟨x,r⟩
   ·rw [h0 n i (uA hd)];rfl
   ·rw [h1 n i x r hd (uS hd)]
    rw [hd] at hn
    simp only [List.length_cons] at hn
    simp only [xL]
    cases hf:f i x with
    | none=>simp only;rw [ih (i+1) (by rw [wT hd];omega),wT hd]
    | some b=>rfl
 have:=key 281474976710656 0 (by simp;omega)
 simpa using this
def t4 {α:Type} (p:α→Bool) (l:List α):Int:=match xL (fun i x=>bif p x then some ((i:Nat):Int) else none) 0 l with | .inl _ => -1 | .inr q=>q
theorem zL1 {α:Type} (p:α→Bool):∀ (l:List α) (i:Nat),(xL (fun i x=>bif p x then some ((i:Nat):Int) else none) i l=.inl ()∧∀ x∈l,p x=false) ∨
  ∃ (j:Nat) (x:α),xL (fun i x=>bif p x then some ((i:Nat):Int) else none) i l=.inr ((i+j:Nat):Int)∧l[j]?=some x∧p x=true∧∀ k y,k<j→l[k]?=some y→p y=false
 | [],i=>.inl ⟨rfl,by simp⟩
 | a::r,i=>by
  simp only [xL]
  cases hp:p a
  ·simp only [cond_false]
   rcases zL1 p r (i+1) with ⟨h1,h2⟩ | ⟨j,x,h1,h2,h3,h4⟩
   ·exact .inl ⟨h1,fun x hx=>by rcases List.mem_cons.1 hx with rfl | hx;exact hp;exact h2 x hx⟩
   ·refine .inr ⟨j+1,x,by rw [h1];congr 1;omega,by simpa using h2,h3,fun k y hk hy=>?_⟩
    cases k with
    | zero=>simp at hy;subst hy;exact hp
    | succ k=>exact h4 k y (by omega) (by simpa using hy)
  ·simp only [cond_true]
   exact .inr ⟨0,a,by simp,rfl,hp,fun k y hk=>by omega⟩
theorem zEE {α:Type} (p:α→Bool) (l:List α):(t4 p l = -1∧∀ x∈l,p x=false)∨∃ (j:Nat) (x:α),t4 p l=(j:Int)∧l[j]?=some x∧p x=true∧∀ k y,k<j→l[k]?=some y→p y=false:=by
 unfold t4
 rcases zL1 p l 0 with ⟨h1,h2⟩ | ⟨j,x,h1,h2,h3,h4⟩
 ·rw [h1];exact .inl ⟨rfl,h2⟩
 ·rw [h1];exact .inr ⟨j,x,by simp,h2,h3,h4⟩
theorem zPx {α:Type} (p:α→Bool) (l:List α):t4 p l≥0↔∃ x∈l,p x=true:=by
 rcases zEE p l with ⟨h1,h2⟩ | ⟨j,x,h1,h2,h3,_⟩
 ·rw [h1]
  exact ⟨fun h=>by omega,fun ⟨x,hx,hp⟩=>by rw [h2 x hx] at hp;cases hp⟩
 ·rw [h1]
  exact ⟨fun _=>⟨x,List.mem_of_getElem? h2,h3⟩,fun _=>by omega⟩
theorem zPy {α:Type} (p:α→Bool) (l:List α) {i:Nat} {x:α} (hi:l[i]?=some x) (hp:p x=true):t4 p l<i↔t4 p (l.take i)≥0:=by
 rw [zPx]
 rcases zEE p l with ⟨h1,h2⟩ | ⟨j,y,h1,h2,h3,h4⟩
 ·rw [h2 x (List.mem_of_getElem? hi)] at hp;cases hp
 ·rw [h1]
  constructor
  ·intro h
   exact ⟨y,List.mem_of_getElem? (i:=j) (by rw [List.getElem?_take,if_pos (by omega)];exact h2),h3⟩
  ·rintro ⟨z,hz,hpz⟩
   obtain ⟨k,hk⟩:=List.mem_iff_getElem?.1 hz
   rw [List.getElem?_take] at hk
   split at hk
   ·rename_i hki
    rcases Nat.lt_or_ge k j with h | h
    ·rw [h4 k z h hk] at hpz;cases hpz
    ·omega
   ·cases hk
def idP (id:Int) (d:zU):Bool:=d.Id==id
theorem zOX {d:List zU} {id:Int} (hl:d.length≤100000):x3 281474976710656 d id=some (t4 (idP id) d):=by
 unfold x3
 rw [qB (l:=d) (fun n i=>xU 281474976710656 d id n i) (fun i x=>bif idP id x then some ((i:Nat):Int) else none) hl]
 ·rw [Option.bind_some];first | (unfold t4;split<;>simp_all) | (unfold uz;split<;>simp_all) | (split<;>simp_all)
 ·intro n i hi
  show y2 _ _ _ _ _=_
  unfold y2
  rw [yN (by omega),cond_false]
 ·intro n i x r hd hi
  show y2 _ _ _ _ _=_
  unfold y2
  rw [yP (by omega),cond_true,y1 hd,Option.bind_some,wE (by omega)]
  unfold zA3 idP
  rw [Option.bind_some]
  cases (x.Id==id)<;>rfl
theorem zNk {d:List zU} {t:z0} (hl:d.length≤100000):xV 281474976710656 d t=some (t4 (idP t.Domain) d):=by
 unfold xV
 rw [qB (l:=d) (fun n i=>xP 281474976710656 d t n i) (fun i x=>bif idP t.Domain x then some ((i:Nat):Int) else none) hl]
 ·rw [Option.bind_some];first | (unfold t4;split<;>simp_all) | (unfold uz;split<;>simp_all) | (split<;>simp_all)
 ·intro n i hi
  show y0 _ _ _ _ _=_
  unfold y0
  rw [yN (by omega),cond_false]
 ·intro n i x r hd hi
  show y0 _ _ _ _ _=_
  unfold y0
  rw [yP (by omega),cond_true,y1 hd,Option.bind_some,wE (by omega)]
  unfold zCe idP
  rw [Option.bind_some]
  cases (x.Id==t.Domain)<;>rfl
theorem zBX {d:List zU} {id:Int} (hl:d.length≤100000):kZ 281474976710656 d id=some (t4 (idP id) d):=by
 unfold kZ;rw [zOX hl];rfl
theorem zCj {d:List zU} {id:Int} (hl:d.length≤100000):zAo 281474976710656 d id=some (t4 (idP id) d):=by
 unfold zAo
 rw [qB (l:=d) (fun n i=>zAQ 281474976710656 d id n i) (fun i x=>bif idP id x then some ((i:Nat):Int) else none) hl]
 ·rw [Option.bind_some];first | (unfold t4;split<;>simp_all) | (unfold uz;split<;>simp_all) | (split<;>simp_all)
 ·intro n i hi
  show t5 _ _ _ _ _=_
  unfold t5
  rw [yN (by omega),cond_false]
 ·intro n i x r hd hi
  show t5 _ _ _ _ _=_
  unfold t5
  rw [yP (by omega),cond_true,y1 hd,Option.bind_some,wE (by omega)]
  unfold idP
  cases (x.Id==id)<;>rfl
def zCt (x:zU):Prop:=x.Id<0∨x.Id≥8∨x.Ppm<0∨x.Ppm>10000
instance decDomBad {x:zU}:Decidable (zCt x):=inferInstanceAs (Decidable (_∨_))
def zDU (d:List zU) (i:Nat) (x:zU):Option Int:=if zCt x then some 2 else if t4 (idP x.Id) (d.take i)≥0 then some 4 else none
theorem zGZ {d:List zU} (hl:d.length≤100000):nQ 281474976710656 d=some (match xL (zDU d) 0 d with | .inl _=>0 | .inr q=>q):=by
 unfold nQ
 rw [qB (l:=d) (fun n i=>jT 281474976710656 d n i) (zDU d) hl]
 ·rw [Option.bind_some];first | (unfold t4;split<;>simp_all) | (unfold uz;split<;>simp_all) | (split<;>simp_all)
 ·intro n i hi
  show v9 _ _ _ _=_
  unfold v9
  rw [yN (by omega),cond_false]
 ·intro n i x r hd hi
  show v9 _ _ _ _=_
  unfold v9
  rw [yP (by omega),cond_true,y1 hd,Option.bind_some,wE (by omega),uX (by omega),zKS,zBX (by rw [List.length_take];omega)]
  unfold zDU
  by_cases h:zCt x
  ·rw [if_pos h,zEg (by simpa [zCt] using h) rfl]
  ·rw [if_neg h,zF3 (by unfold zCt at h;simp;omega) rfl,Option.bind_some,Option.bind_some]
   by_cases h2:t4 (idP x.Id) (d.take i)≥0
   ·rw [if_pos h2,yP h2];rfl
   ·rw [if_neg h2,yN h2];rfl
def nK (n:Int):Bool:=decide (n≥0)&&decide (n≤1000000000000)
def zDB (d:List zU) (x:xR):Int :=
 if t4 (idP x.A) d<0∨t4 (idP x.B) d<0 then 5 else if x.A=x.B then 1 else
 if (nK x.AtA&&(nK x.AtB.Lo&&nK x.AtB.Hi))=false∨x.AtB.Lo>x.AtB.Hi then 2 else 0
theorem zJj {d:List zU} {x:xR} (hl:d.length≤100000):zBA 281474976710656 d x=some (zDB d x):=by
 unfold zBA zDB kA
 rw [zBX hl,Option.bind_some]
 simp only [zBX hl,Option.bind_some]
 rw [show (decide (x.AtA≥(0:Int))&&decide (x.AtA≤(1000000000000:Int)))=nK x.AtA from rfl,show (decide (x.AtB.Lo≥(0:Int))&&decide (x.AtB.Lo≤(1000000000000:Int)))=nK x.AtB.Lo from rfl,
  show (decide (x.AtB.Hi≥(0:Int))&&decide (x.AtB.Hi≤(1000000000000:Int)))=nK x.AtB.Hi from rfl]
 generalize t4 (idP x.A) d=p
 generalize t4 (idP x.B) d=q
 generalize nK x.AtA=r1
 generalize nK x.AtB.Lo=r2
 generalize nK x.AtB.Hi=r3
 by_cases h1:p<0
 ·rw [yP h1];simp [h1]
 ·rw [yN h1]
  by_cases h2:q<0
  ·rw [yP h2];simp [h1,h2]
  ·rw [yN h2]
   simp only [cond_false,Option.bind_some,h1,h2,or_self,if_false]
   by_cases h3:x.A=x.B
   ·rw [vP h3,if_pos h3];rfl
   ·rw [tM h3,if_neg h3]
    by_cases h4:x.AtB.Lo>x.AtB.Hi
    ·rw [yP h4];cases r1<;>cases r2<;>cases r3<;>simp [h4]
    ·rw [yN h4];cases r1<;>cases r2<;>cases r3<;>simp [h4]
theorem zLu {d:List zU} {x:xR} (hl:d.length≤100000):zC5 281474976710656 d x=some (zDB d x):=by
 unfold zC5 zDB nY
 rw [zCj hl,zCj hl]
 simp only [Option.bind_some]
 rw [show (decide (x.AtA≥(0:Int))&&decide (x.AtA≤(1000000000000:Int)))=nK x.AtA from rfl,show (decide (x.AtB.Lo≥(0:Int))&&decide (x.AtB.Lo≤(1000000000000:Int)))=nK x.AtB.Lo from rfl,
  show (decide (x.AtB.Hi≥(0:Int))&&decide (x.AtB.Hi≤(1000000000000:Int)))=nK x.AtB.Hi from rfl]
 generalize t4 (idP x.A) d=p
 generalize t4 (idP x.B) d=q
 generalize nK x.AtA=r1
 generalize nK x.AtB.Lo=r2
 generalize nK x.AtB.Hi=r3
 by_cases h1:p<0
 ·rw [yP h1];simp [h1]
 ·rw [yN h1]
  by_cases h2:q<0
  ·rw [yP h2];simp [h1,h2]
  ·rw [yN h2]
   simp only [cond_false,Option.bind_some,h1,h2,or_self,if_false]
   by_cases h3:x.A=x.B
   ·rw [vP h3,if_pos h3];rfl
   ·rw [tM h3,if_neg h3]
    by_cases h4:x.AtB.Lo>x.AtB.Hi
    ·rw [yP h4];cases r1<;>cases r2<;>cases r3<;>simp [h4]
    ·rw [yN h4];cases r1<;>cases r2<;>cases r3<;>simp [h4]
def snF (d:List zU) (_:Nat) (x:xR):Option Int:=if zDB d x≠0 then some (zDB d x) else none
def uz (o:Unit⊕Int):Int:=match o with | .inl _=>0 | .inr q=>q
def zFZ (d:List zU):Int:=uz (xL (zDU d) 0 d)
def kQ (d:List zU) (l:List xR):Int :=
 if d.length=0 then 8 else if d.length>8∨l.length>200 then 7 else if d[0]?≠some ⟨0,0⟩ then 10 else if zFZ d≠0 then zFZ d else uz (xL (snF d) 0 l)
theorem zIz {d:List zU} {l:List xR} (hl:d.length≤100000) (hm:l.length≤100000):zAZ 281474976710656 d l=some (kQ d l):=by
 unfold zAZ kQ
 by_cases h0:d.length=0
 ·rw [if_pos h0,vP (by omega)];rfl
 rw [if_neg h0,tM (by omega),cond_false]
 by_cases h1:d.length>8∨l.length>200
 ·rw [if_pos h1,zEg (by simp;omega) rfl]
 rw [if_neg h1,zF3 (by simp;omega) rfl,show y6 d (0:Int)=d[0]? from zAr d 0]
 cases hd:d[0]? with
 | none=>rw [List.getElem?_eq_none_iff] at hd;omega
 | some x =>
  rw [Option.bind_some]
  by_cases h2:x=⟨0,0⟩
  ·rw [if_neg (by simp [h2]),zF3 (by simp [h2]) rfl,zGZ hl,Option.bind_some]
   show (bif (zFZ d != 0) then some (zFZ d) else _)=_
   by_cases h3:zFZ d≠0
   ·rw [if_pos h3,vS h3];rfl
   ·rw [if_neg h3,vY (by omega),cond_false,qB (l:=l) (fun n i=>pD 281474976710656 d l n i) (snF d) hm]
    ·rw [Option.bind_some];first | (unfold t4;split<;>simp_all) | (unfold uz;split<;>simp_all) | (split<;>simp_all)
    ·intro n i hi
     show uV _ _ _ _ _=_
     unfold uV
     rw [yN (by omega),cond_false]
    ·intro n i x r hd hi
     show uV _ _ _ _ _=_
     unfold uV
     rw [yP (by omega),cond_true,y1 hd,Option.bind_some,wE (by omega),zJj hl,Option.bind_some]
     unfold snF
     by_cases h:zDB d x≠0
     ·rw [if_pos h,vS h];rfl
     ·rw [if_neg h,vY (by omega)];rfl
  ·rw [if_pos (by simpa using h2),zEg (by simpa using h2) rfl]
theorem zFo {d:List zU} {l:List xR} (hl:d.length≤100000) (hm:l.length≤100000):zBn 281474976710656 d l=some (kQ d l):=by
 unfold zBn kQ
 by_cases h0:d.length=0
 ·rw [if_pos h0,vP (by omega)];rfl
 rw [if_neg h0,tM (by omega),cond_false]
 by_cases h1:d.length>8∨l.length>200
 ·rw [if_pos h1,zEg (by simp;omega) rfl]
 rw [if_neg h1,zF3 (by simp;omega) rfl,show y6 d (0:Int)=d[0]? from zAr d 0]
 cases hd:d[0]? with
 | none=>rw [List.getElem?_eq_none_iff] at hd;omega
 | some x =>
  simp only [Option.bind_some]
  by_cases h2:x=⟨0,0⟩
  ·rw [if_neg (by simp [h2])]
   subst h2
   simp only [bne_self_eq_false,cond_false,Option.bind_some]
   rw [qB (l:=d) (fun n i=>zAd 281474976710656 d n i) (zDU d) hl]
   ·rw [Option.bind_some]
    unfold zFZ
    cases hq:xL (zDU d) 0 d with
    | inr q =>
     have hq0:q≠0:=by
      have:∀ (i:Nat) (m:List zU) q,xL (zDU d) i m=.inr q→q≠0:=by
       intro i m
       induction m generalizing i with
       | nil=>intro q h;cases h
       | cons a r ih =>
        intro q h
        simp only [xL] at h
        cases hf:zDU d i a with
        | none=>rw [hf] at h;exact ih _ _ h
        | some b =>
         rw [hf] at h;injection h with h;subst h
         unfold zDU at hf
         split at hf
         ·injection hf with hf;omega
         ·split at hf
          ·injection hf with hf;omega
          ·cases hf
      exact this _ _ _ hq
     simp [uz,hq0]
    | inl u =>
     simp only [uz,ne_eq,not_true_eq_false,if_false]
     rw [qB (l:=l) (fun n i=>zAe 281474976710656 d l n i) (snF d) hm]
     ·rw [Option.bind_some];first | (unfold t4;split<;>simp_all) | (unfold uz;split<;>simp_all) | (split<;>simp_all)
     ·intro n i hi
      show tK _ _ _ _ _=_
      unfold tK
      rw [yN (by omega),cond_false]
     ·intro n i x r hd hi
      show tK _ _ _ _ _=_
      unfold tK
      rw [yP (by omega),cond_true,y1 hd,Option.bind_some,wE (by omega),zLu hl,Option.bind_some]
      unfold snF
      by_cases h:zDB d x≠0
      ·rw [if_pos h,vS h];rfl
      ·rw [if_neg h,vY (by omega)];rfl
   ·intro n i hi
    show tI _ _ _ _=_
    unfold tI
    rw [yN (by omega),cond_false]
   ·intro n i x r hd hi
    show tI _ _ _ _=_
    unfold tI
    rw [yP (by omega),cond_true,y1 hd,wE (by omega)]
    simp only [Option.bind_some,zCj hl]
    unfold zDU
    have hb:(bif decide (x.Id<0) then some true else bif decide (x.Id≥8) then some true else bif decide (x.Ppm<0) then some true else some (decide (x.Ppm>10000)))=some (decide (zCt x)):=by
     unfold zCt
     by_cases k1:x.Id<0
     ·simp [k1]
     ·by_cases k2:x.Id≥8
      ·simp [k1,k2]
      ·by_cases k3:x.Ppm<0
       ·simp [k1,k2,k3]
       ·simp [k1,k2,k3]
    rw [hb,Option.bind_some]
    by_cases h:zCt x
    ·rw [if_pos h,yP h];rfl
    ·rw [if_neg h,yN h,cond_false]
     have:=zPy (idP x.Id) d (zEI hd) (by simp [idP])
     by_cases h2:t4 (idP x.Id) (d.take i)≥0
     ·rw [if_pos h2,yP (this.2 h2)];rfl
     ·rw [if_neg h2,yN (fun h=>h2 (this.1 h))];rfl
  ·have hx:(bif (x.Id != 0) then some true else some (x.Ppm != 0))=some true:=by
    by_cases k1:x.Id=0
    ·by_cases k2:x.Ppm=0
     ·exact absurd (by cases x;simp_all) h2
     ·rw [vY k1,vS k2];rfl
    ·rw [vS k1];rfl
   rw [if_pos (by simpa using h2),hx,Option.bind_some];rfl
theorem zMF {d:List zU} {l:List xR} (h:kQ d l=0):kQ d []=0:=by
 unfold kQ at *
 split at h
 ·omega
 rename_i h0
 split at h
 ·omega
 rename_i h1
 split at h
 ·omega
 rename_i h2
 split at h
 ·rename_i h3;exact absurd h h3
 rename_i h3
 rw [if_neg h0,if_neg (by simp only [List.length_nil];omega),if_neg h2,if_neg h3];rfl
theorem zMb {d:List zU} {id:Int} (hl:d.length≤100000) (hc:kQ d []=0):∃ q,zD8 281474976710656 d id=some (q,decide (t4 (idP id) d≥0)):=by
 unfold zD8
 rw [zCj hl,Option.bind_some,zFo hl (by simp),Option.bind_some,vY hc,cond_false,Option.bind_some]
 rcases zEE (idP id) d with ⟨h1,_⟩ | ⟨j,x,h1,h2,_⟩
 ·rw [h1];exact ⟨0,rfl⟩
 ·rw [h1,yN (by omega),cond_false,zAr,h2]
  exact ⟨x.Ppm,by rw [yP (by omega)];rfl⟩
def thF (l:List z0) (i:Nat) (t:z0):Option Int:=if zBj t≠0 then some (zBj t) else if t.Id∈(l.take i).map (·.Id) then some 4 else none
def doF (d:List zU) (_:Nat) (t:z0):Option Int:=if t4 (idP t.Domain) d≥0 then none else some 5
def zAF (h:zL):Int :=
 if h.Threads.length=0 then 8 else if h.Threads.length>64 then 7 else
 match xL (thF h.Threads) 0 h.Threads with
 | .inr q=>q
 | .inl _=>if kQ h.Domains h.Snaps≠0 then kQ h.Domains h.Snaps else uz (xL (doF h.Domains) 0 h.Threads)
theorem zH4 {h:zL} (hl:h.Threads.length≤100000):∀ (n i:Nat) (row:List (Int×Bool)),zL5 row ((h.Threads.take i).map (·.Id))→(h.Threads.drop i).length<n →
  pM 281474976710656 h n (i:Nat) row=some (xL (thF h.Threads) i (h.Threads.drop i)):=by
 intro n
 induction n with
 | zero=>intro i row _ h;omega
 | succ n ih =>
  intro i row hs hn
  show jO _ _ _ _ _=_
  unfold jO
  rcases hd:h.Threads.drop i with _ | ⟨x,r⟩
  ·have:=uA hd
   rw [yN (by omega),cond_false];rfl
  ·have hi:=uS hd
   rw [hd] at hn
   simp only [List.length_cons] at hn
   rw [yP (by omega),cond_true,y1 hd,Option.bind_some,zFj,Option.bind_some,wE (by omega)]
   simp only [xL,thF]
   by_cases h1:zBj x≠0
   ·rw [if_pos h1,vS h1];rfl
   ·rw [if_neg h1,vY (by omega),cond_false,hs.2]
    by_cases h2:x.Id∈(h.Threads.take i).map (·.Id)
    ·rw [if_pos h2,yP h2];rfl
    ·have hlen:=hs.1
     simp only [List.length_map,List.length_take] at hlen
     rw [if_neg h2,yN h2,cond_false,uX (by omega),Option.bind_some,ih (i+1) _ ?_ (by rw [wT hd];omega),wT hd]
     rw [uU hd,List.map_append]
     exact zO7 hs x.Id
theorem zJQ {h:zL} (hl:h.Threads.length≤100000) (hd:h.Domains.length≤100000) (hs:h.Snaps.length≤100000):zCs 281474976710656 h=some (zAF h):=by
 unfold zCs zAF
 by_cases h0:h.Threads.length=0
 ·rw [if_pos h0,vP (by omega)];rfl
 rw [if_neg h0,tM (by omega),cond_false]
 by_cases h1:h.Threads.length>64
 ·rw [if_pos h1,yP (by omega)];rfl
 rw [if_neg h1,yN (by omega),cond_false,show pM 281474976710656 h 281474976710656 (0:Int) []=_ from zH4 hl 281474976710656 0 [] (by simpa using zOA) (by simp;omega),Option.bind_some,List.drop_zero]
 cases xL (thF h.Threads) 0 h.Threads with
 | inr q=>rfl
 | inl u =>
  simp only
  rw [zIz hd hs,Option.bind_some]
  by_cases h2:kQ h.Domains h.Snaps≠0
  ·rw [if_pos h2,vS h2];rfl
  ·rw [if_neg h2]
   have h2:kQ h.Domains h.Snaps=0:=by omega
   rw [h2]
   show Option.bind (pC 281474976710656 h 281474976710656 0) _=_
   rw [qB (l:=h.Threads) (fun n i=>pC 281474976710656 h n i) (doF h.Domains) hl]
   ·rw [Option.bind_some];first | (unfold t4;split<;>simp_all) | (unfold uz;split<;>simp_all) | (split<;>simp_all)
   ·intro n i hi
    show tH _ _ _ _=_
    unfold tH
    rw [yN (by omega),cond_false]
   ·intro n i x r hx hi
    show tH _ _ _ _=_
    unfold tH
    rw [yP (by omega),cond_true,y1 hx,Option.bind_some,wE (by omega)]
    unfold wF doF
    rw [zNk hd,Option.bind_some,Option.bind_some]
    by_cases h3:t4 (idP x.Domain) h.Domains≥0
    ·rw [if_pos h3,yP h3];rfl
    ·rw [if_neg h3,yN h3];rfl
theorem zIn {h:zL} {i:Nat} {x:z0} {r:List z0} (hl:h.Threads.length≤100000) (hd:h.Threads.drop i=x::r) :
  nZ 281474976710656 h (i:Nat) 281474976710656 0=some (if x.Id∈(h.Threads.take i).map (·.Id) then .inr 4 else .inl ()):=by
 have hi:=uS hd
 rw [qB (l:=h.Threads.take i) (fun n k=>nZ 281474976710656 h (i:Nat) n k) (fun _ y=>if y.Id=x.Id then some 4 else none) (by rw [List.length_take];omega)]
 ·congr 1
  split
  ·rename_i hm
   obtain ⟨y,hy,hyx⟩:=List.mem_map.1 hm
   have:∀ (m:List z0) (k:Nat),y∈m→xL (fun (_:Nat) (y:z0)=>if y.Id=x.Id then some (4:Int) else none) k m=.inr 4:=by
    intro m
    induction m with
    | nil=>intro k h;cases h
    | cons a m ih =>
     intro k h
     simp only [xL]
     by_cases ha:a.Id=x.Id
     ·rw [if_pos ha]
     ·rw [if_neg ha]
      rcases List.mem_cons.1 h with rfl | h
      ·exact absurd hyx ha
      ·exact ih _ h
   exact this _ _ hy
  ·rename_i hm
   refine zDc fun j y hj=>?_
   rw [if_neg]
   intro he
   exact hm (List.mem_map.2 ⟨y,List.mem_of_getElem? hj,he⟩)
 ·intro n k hk
  rw [List.length_take] at hk
  show t8 _ _ _ _ _=_
  unfold t8
  rw [yN (by omega),cond_false]
 ·intro n k y r2 hk hlt
  rw [List.length_take] at hlt
  show t8 _ _ _ _ _=_
  unfold t8
  have hy:h.Threads[k]?=some y:=by
   have:=zEI hk
   rw [List.getElem?_take] at this
   split at this
   ·exact this
   ·cases this
  rw [yP (by omega),cond_true,zAr,hy,Option.bind_some,y1 hd,Option.bind_some,wE (by omega)]
  by_cases he:y.Id=x.Id
  ·rw [vP he,if_pos he];rfl
  ·rw [tM he,if_neg he];rfl
theorem zLw {h:zL} (hl:h.Threads.length≤100000) (hd:h.Domains.length≤100000) (hs:h.Snaps.length≤100000):zDb 281474976710656 h=some (zAF h):=by
 unfold zDb zAF
 by_cases h0:h.Threads.length=0
 ·rw [if_pos h0,vP (by omega)];rfl
 rw [if_neg h0,tM (by omega),cond_false]
 by_cases h1:h.Threads.length>64
 ·rw [if_pos h1,yP (by omega)];rfl
 rw [if_neg h1,yN (by omega),cond_false,qB (l:=h.Threads) (fun n i=>zAS 281474976710656 h n i) (thF h.Threads) hl]
 ·rw [Option.bind_some]
  cases xL (thF h.Threads) 0 h.Threads with
  | inr q=>rfl
  | inl u =>
   simp only
   rw [zFo hd hs,Option.bind_some]
   by_cases h2:kQ h.Domains h.Snaps≠0
   ·rw [if_pos h2,vS h2];rfl
   ·rw [if_neg h2]
    have h2:kQ h.Domains h.Snaps=0:=by omega
    rw [h2]
    show Option.bind (nW 281474976710656 h 281474976710656 0) _=_
    rw [qB (l:=h.Threads) (fun n i=>nW 281474976710656 h n i) (doF h.Domains) hl]
    ·rw [Option.bind_some];first | (unfold t4;split<;>simp_all) | (unfold uz;split<;>simp_all) | (split<;>simp_all)
    ·intro n i hi
     show t7 _ _ _ _=_
     unfold t7
     rw [yN (by omega),cond_false]
    ·intro n i x r hx hi
     show t7 _ _ _ _=_
     unfold t7 doF
     obtain ⟨q,hq⟩:=zMb (id:=x.Domain) hd (zMF h2)
     rw [yP (by omega),cond_true,y1 hx,Option.bind_some,wE (by omega),hq,Option.bind_some]
     by_cases h3:t4 (idP x.Domain) h.Domains≥0
     ·rw [if_pos h3,yP h3];rfl
     ·rw [if_neg h3,yN h3];rfl
 ·intro n i hi
  show t3 _ _ _ _=_
  unfold t3
  rw [yN (by omega),cond_false]
 ·intro n i x r hx hi
  show t3 _ _ _ _=_
  unfold t3 thF
  rw [yP (by omega),cond_true,y1 hx,Option.bind_some,wE (by omega),zJh,Option.bind_some]
  by_cases h2:zBj x≠0
  ·rw [if_pos h2,vS h2];rfl
  ·rw [if_neg h2,vY (by omega),cond_false,zIn hl hx,Option.bind_some]
   by_cases h3:x.Id∈(h.Threads.take i).map (·.Id)
   ·rw [if_pos h3,if_pos h3]
   ·rw [if_neg h3,if_neg h3]
end Go.Ab
