/- Plain laws of the functions w6 this seat's, laid anew from another seat's text. No conditions but those that the theorems name. -/
import Derived.Test.YtoeengmnmhhpgaaP15xD
import Derived.Test.YtoeengmnmhhpgaaB15a
import Derived.Test.YtoeengmnmhhpgaaB15b
import Derived.Test.YtoeengmnmhhpgaaB15c
import Derived.Test.YtoeengmnmhhpgaaB15d
import Derived.Test.YtoeengmnmhhpgaaB15e
import Derived.Test.YtoeengmnmhhpgaaB15f
import Derived.Test.YtoeengmnmhhpgaaB15g
import Derived.Test.YtoeengmnmhhpgaaB15h
namespace Go.Ab
open Go
set_option linter.unusedVariables false
def pE (b:List Int) (u f most:Int):Int×Int×Int :=
 if (vM b u f).2.2≠0 then (0,(vM b u f).2.1,(vM b u f).2.2) else if (vM b u f).1<0 then (0,(vM b u f).2.1,10) else if (vM b u f).1>most then (0,(vM b u f).2.1,7) else vM b u f
def j8 (b:List Int) (u f:Int):List Int×Int×Int:=if f≠0 then ([],u,f) else ((txt (b.drop u.toNat) 40).1,u+(txt (b.drop u.toNat) 40).2.1,(txt (b.drop u.toNat) 40).2.2)
def bD (b:List Int):Nat→Int→Int→List (List Int)→Int×Int×List (List Int)
 | 0,u,f,row=>(u,f,row)
 | k+1,u,f,row=>if f≠0 then (u,f,row) else bD b k (j8 b u f).2.1 (j8 b u f).2.2 (row++[(j8 b u f).1])
def two (b:List Int) (u f:Int):Int×Int×Int:=vM b (vM b u f).2.1 (vM b u f).2.2
def bU (b:List Int):Nat→Int→Int→List zT→Int×Int×List zT
 | 0,u,f,row=>(u,f,row)
 | k+1,u,f,row=>if f≠0 then (u,f,row) else bU b k (two b u f).2.1 (two b u f).2.2 (row++[⟨(vM b u f).1,(two b u f).1⟩])
def aD (n:List (List Int)) (s:List zT) (b:List Int):Nat→Int→Int→List xA→Int×Int×List xA
 | 0,u,f,row=>(u,f,row)
 | k+1,u,f,row=>if f≠0 then (u,f,row) else aD n s b k (u+(kR n s (b.drop u.toNat)).2.1) (kR n s (b.drop u.toNat)).2.2 (row++[(kR n s (b.drop u.toNat)).1])
def dT (b:List Int):=vM b 0 0
def dS (b:List Int):=vM b (dT b).2.1 (dT b).2.2
def dL (b:List Int):=vM b (dS b).2.1 (dS b).2.2
def dC1 (b:List Int):=pE b (dL b).2.1 (dL b).2.2 1000
def dN (b:List Int):=bD b (dC1 b).1.toNat (dC1 b).2.1 (dC1 b).2.2 []
def dC2 (b:List Int):=pE b (dN b).1 (dN b).2.1 1000
def dSt (b:List Int):=bU b (dC2 b).1.toNat (dC2 b).2.1 (dC2 b).2.2 []
def dF3 (b:List Int):Int:=if (dSt b).2.1=0 then nU (dN b).2.2 (dSt b).2.2 else (dSt b).2.1
def dC3 (b:List Int):=pE b (dSt b).1 (dF3 b) 1000
def dE (b:List Int):=aD (dN b).2.2 (dSt b).2.2 b (dC3 b).1.toNat (dC3 b).2.1 (dC3 b).2.2 []
def dP (b:List Int):zQ:=⟨(dT b).1,(dS b).1,(dL b).1,(dE b).2.2⟩
def dF5 (b:List Int):Int:=if (dE b).2.1=0 then tU (dP b) else (dE b).2.1
def uY (b:List Int):zQ×Int×Int :=
 if dF5 b≠0 then (pk0,0,dF5 b) else if (vU (dP b)).2≠0∨(vU (dP b)).1≠b.take (dE b).1.toNat then (pk0,0,10) else (dP b,(dE b).1,0)
theorem MJ {b:List Int} {u f most:Int} (hb:∀ x∈b,xO x) (h0:0≤u) (h1:u≤b.length) (hm:0≤most):0≤(pE b u f most).1∧(pE b u f most).1≤most∧u≤(pE b u f most).2.1∧(pE b u f most).2.1≤b.length∧((pE b u f most).2.2=0→f=0):=by
 have h:=nK (f:=f) hb h0 h1
 unfold pE
 split
 ·exact ⟨by simp,hm,h.2.1,h.2.2.1,fun e=>absurd e (by assumption)⟩
 split
 ·exact ⟨by simp,hm,h.2.1,h.2.2.1,fun e=>by simp at e⟩
 split
 ·exact ⟨by simp,hm,h.2.1,h.2.2.1,fun e=>by simp at e⟩
 ·exact ⟨by omega,by omega,h.2.1,h.2.2.1,fun e=>(h.2.2.2 e).1⟩
theorem ZX {b:List Int} {most:Int} (hb:∀ x∈b,xO x):0≤(txt b most).2.1∧(txt b most).2.1≤b.length:=by
 have hv:=(dF (i:=0) (u:=0) hb (by omega) (by omega) (by simp))
 unfold txt
 simp only
 split
 ·simp
 split
 ·simp
 split
 ·simp
 split
 ·simp
 ·have:=hv.2.1 (by omega)
  simp only;omega
theorem LE {b:List Int} {u f:Int} (hb:∀ x∈b,xO x) (h0:0≤u) (h1:u≤b.length):u≤(j8 b u f).2.1∧(j8 b u f).2.1≤b.length:=by
 unfold j8
 split
 ·exact ⟨Int.le_refl _,h1⟩
 ·have:=ZX (most:=40) (d0 hb u.toNat)
  rw [List.length_drop] at this
  simp only;omega
theorem zDO {b:List Int} (hb:∀ x∈b,xO x):∀ (k:Nat) (u f:Int) (row:List (List Int)),0≤u→u≤b.length→u≤(bD b k u f row).1∧(bD b k u f row).1≤b.length:=by
 intro k
 induction k with
 | zero=>intro u f row h0 h1;exact ⟨Int.le_refl _,h1⟩
 | succ k ih =>
  intro u f row h0 h1
  simp only [bD]
  split
  ·exact ⟨Int.le_refl _,h1⟩
  ·have h:=LE (f:=f) hb h0 h1
   have:=ih (j8 b u f).2.1 (j8 b u f).2.2 (row++[(j8 b u f).1]) (by omega) h.2
   omega
theorem QI {b:List Int} {u f:Int} (hb:∀ x∈b,xO x) (h0:0≤u) (h1:u≤b.length):u≤(two b u f).2.1∧(two b u f).2.1≤b.length:=by
 have h:=nK (f:=f) hb h0 h1
 have:=nK (u:=(vM b u f).2.1) (f:=(vM b u f).2.2) hb (by omega) h.2.2.1
 unfold two;omega
theorem zCA {b:List Int} (hb:∀ x∈b,xO x):∀ (k:Nat) (u f:Int) (row:List zT),0≤u→u≤b.length→u≤(bU b k u f row).1∧(bU b k u f row).1≤b.length:=by
 intro k
 induction k with
 | zero=>intro u f row h0 h1;exact ⟨Int.le_refl _,h1⟩
 | succ k ih =>
  intro u f row h0 h1
  simp only [bU]
  split
  ·exact ⟨Int.le_refl _,h1⟩
  ·have h:=QI (f:=f) hb h0 h1
   have:=ih (two b u f).2.1 (two b u f).2.2 (row++[⟨(vM b u f).1,(two b u f).1⟩]) (by omega) h.2
   omega
theorem U0 {n:List (List Int)} {s:List zT} {b:List Int} (hb:∀ x∈b,xO x):0≤(kR n s b).2.1∧(kR n s b).2.1≤b.length:=by
 have h:=O3 hb
 unfold kR
 split
 ·simp
 split
 ·simp
 split
 ·simp
 split
 ·simp
 split
 ·simp
 ·exact ⟨by simp only;omega,h.2.2.2.2.2.2⟩
theorem zCo {n:List (List Int)} {s:List zT} {b:List Int} (hb:∀ x∈b,xO x):∀ (k:Nat) (u f:Int) (row:List xA),0≤u→u≤b.length→u≤(aD n s b k u f row).1∧(aD n s b k u f row).1≤b.length∧(aD n s b k u f row).2.2.length≤row.length+k:=by
 intro k
 induction k with
 | zero=>intro u f row h0 h1;exact ⟨Int.le_refl _,h1,by simp [aD]⟩
 | succ k ih =>
  intro u f row h0 h1
  simp only [aD]
  split
  ·exact ⟨Int.le_refl _,h1,by simp only;omega⟩
  ·have h:=U0 (n:=n) (s:=s) (d0 hb u.toNat)
   rw [List.length_drop] at h
   have:=ih (u+(kR n s (b.drop u.toNat)).2.1) (kR n s (b.drop u.toNat)).2.2 (row++[(kR n s (b.drop u.toNat)).1]) (by omega) (by omega)
   simp only [zla,zlc,List.length_nil] at this
   omega
theorem QT {b:List Int} (hb:∀ x∈b,xO x) :
  (0≤(dT b).2.1∧(dT b).2.1≤b.length)∧(0≤(dS b).2.1∧(dS b).2.1≤b.length)∧(0≤(dL b).2.1∧(dL b).2.1≤b.length) ∧
  (0≤(dC1 b).1∧(dC1 b).1≤1000∧0≤(dC1 b).2.1∧(dC1 b).2.1≤b.length)∧(0≤(dN b).1∧(dN b).1≤b.length) ∧
  (0≤(dC2 b).1∧(dC2 b).1≤1000∧0≤(dC2 b).2.1∧(dC2 b).2.1≤b.length)∧(0≤(dSt b).1∧(dSt b).1≤b.length) ∧
  (0≤(dC3 b).1∧(dC3 b).1≤1000∧0≤(dC3 b).2.1∧(dC3 b).2.1≤b.length)∧(0≤(dE b).1∧(dE b).1≤b.length∧(dE b).2.2.length≤1000)∧(dT b).2.1≤(dE b).1:=by
 have h1:0≤(dT b).2.1∧(dT b).2.1≤b.length:=by have:=nK (u:=0) (f:=0) hb (by omega) (by omega);exact ⟨this.2.1,this.2.2.1⟩
 have h2:(dT b).2.1≤(dS b).2.1∧(dS b).2.1≤b.length:=by have:=nK (u:=(dT b).2.1) (f:=(dT b).2.2) hb (by omega) (by omega);exact ⟨this.2.1,this.2.2.1⟩
 have h3:(dS b).2.1≤(dL b).2.1∧(dL b).2.1≤b.length:=by have:=nK (u:=(dS b).2.1) (f:=(dS b).2.2) hb (by omega) (by omega);exact ⟨this.2.1,this.2.2.1⟩
 have h4:0≤(dC1 b).1∧(dC1 b).1≤1000∧(dL b).2.1≤(dC1 b).2.1∧(dC1 b).2.1≤b.length:=by have:=MJ (u:=(dL b).2.1) (f:=(dL b).2.2) (most:=1000) hb (by omega) (by omega) (by omega);exact ⟨this.1,this.2.1,this.2.2.1,this.2.2.2.1⟩
 have h5:(dC1 b).2.1≤(dN b).1∧(dN b).1≤b.length:=zDO hb _ _ _ _ (by omega) (by omega)
 have h6:0≤(dC2 b).1∧(dC2 b).1≤1000∧(dN b).1≤(dC2 b).2.1∧(dC2 b).2.1≤b.length:=by have:=MJ (u:=(dN b).1) (f:=(dN b).2.1) (most:=1000) hb (by omega) (by omega) (by omega);exact ⟨this.1,this.2.1,this.2.2.1,this.2.2.2.1⟩
 have h7:(dC2 b).2.1≤(dSt b).1∧(dSt b).1≤b.length:=zCA hb _ _ _ _ (by omega) (by omega)
 have h8:0≤(dC3 b).1∧(dC3 b).1≤1000∧(dSt b).1≤(dC3 b).2.1∧(dC3 b).2.1≤b.length:=by have:=MJ (u:=(dSt b).1) (f:=dF3 b) (most:=1000) hb (by omega) (by omega) (by omega);exact ⟨this.1,this.2.1,this.2.2.1,this.2.2.2.1⟩
 have h9:(dC3 b).2.1≤(dE b).1∧(dE b).1≤b.length∧(dE b).2.2.length≤([]:List xA).length+(dC3 b).1.toNat:=zCo hb _ _ _ _ (by omega) (by omega)
 simp only [List.length_nil] at h9
 omega
theorem o7 {b:List Int} {u f:Int} (hb:∀ x∈b,xO x) (hl:b.length≤100000) (h0:0≤u) (h1:u≤b.length) :
  aK 281474976710656 ⟨b,u,f⟩=some ((vM b u f).1,⟨b,(vM b u f).2.1,(vM b u f).2.2⟩):=by
 unfold aK
 have hr:=nK (f:=f) hb h0 h1
 unfold vM at *
 by_cases hf:f≠0
 ·rw [wA hf,if_pos hf];rfl
 ·rw [if_neg hf] at hr ⊢
  rw [x8 (show f=0 by omega),cond_false,xY ⟨h0,h1⟩,zbs,HH b h0,oH (d0 hb _) (by rw [List.length_drop];omega) (by rw [List.length_drop];omega),zbs]
  simp only at hr
  show some (_,(⟨b,zI (u+_),_⟩:uZ))=_
  rw [w64 (by omega) (by omega)]
theorem LO {b:List Int} {u f most:Int} (hb:∀ x∈b,xO x) (hl:b.length≤100000) (h0:0≤u) (h1:u≤b.length) :
  bJ 281474976710656 ⟨b,u,f⟩ most=some ((pE b u f most).1,⟨b,(pE b u f most).2.1,(pE b u f most).2.2⟩):=by
 unfold bJ pE
 rw [o7 hb hl h0 h1,zbs]
 simp only
 by_cases c1:(vM b u f).2.2≠0
 ·rw [wA c1,if_pos c1];rfl
 rw [x8 (by omega),if_neg c1,cond_false]
 by_cases c2:(vM b u f).1<0
 ·rw [yR c2,if_pos c2];rfl
 rw [yO c2,if_neg c2,cond_false]
 by_cases c3:(vM b u f).1>most
 ·rw [yR c3,if_pos c3];rfl
 ·rw [yO c3,if_neg c3,cond_false]
theorem ZQ {b:List Int} {u f:Int} (hb:∀ x∈b,xO x) (hl:b.length≤100000) (h0:0≤u) (h1:u≤b.length) :
  CD 281474976710656 ⟨b,u,f⟩=some ((j8 b u f).1,⟨b,(j8 b u f).2.1,(j8 b u f).2.2⟩):=by
 unfold CD
 have hr:=LE (f:=f) hb h0 h1
 unfold j8 at *
 by_cases hf:f≠0
 ·rw [wA hf,if_pos hf];rfl
 ·rw [if_neg hf] at hr ⊢
  rw [x8 (show f=0 by omega),cond_false,xY ⟨h0,h1⟩,zbs,HH b h0,R7 (d0 hb _) (by rw [List.length_drop];omega) (by rw [List.length_drop];omega),zbs]
  simp only at hr
  show some (_,(⟨b,zI (u+_),_⟩:uZ))=_
  rw [w64 (by omega) (by omega)]
theorem mR {p:Prop} [Decidable p] {q:Bool} (h:¬ p∨q=false):(decide p&&q)=false:=by
 rcases h with h | h
 ·rw [yO h];rfl
 ·rw [h,Bool.and_false]
theorem zBg {b:List Int} (hb:∀ x∈b,xO x) (hl:b.length≤100000):∀ (k m:Nat) (u f:Int) (row:List (List Int)),k<m→0≤u→u≤b.length→row.length+k≤1000 →
  rD 281474976710656 m (k:Int) b u f row=some (b,bD b k u f row):=by
 intro k
 induction k with
 | zero =>
  intro m u f row hm h0 h1 hr
  obtain ⟨g,rfl⟩:∃ g,m=g+1:=⟨m - 1,by omega⟩
  show gE _ _ _ _ _ _ _=_
  unfold gE
  rw [mR (.inl (by omega))];rfl
 | succ k ih =>
  intro m u f row hm h0 h1 hr
  obtain ⟨g,rfl⟩:∃ g,m=g+1:=⟨m - 1,by omega⟩
  show gE _ _ _ _ _ _ _=_
  unfold gE
  simp only [bD]
  by_cases hf:f≠0
  ·rw [mR (.inr (qQ hf)),if_pos hf];rfl
  have ht:=LE (f:=f) hb h0 h1
  rw [yR (by omega),uW (by omega),if_neg hf,Bool.and_self,cond_true,ZQ hb hl h0 h1,zbs,xY (by simp;omega),zbs,w64 (by omega) (by omega),show (((k+1:Nat):Int) - 1)=(k:Int) by omega]
  exact ih g (j8 b u f).2.1 (j8 b u f).2.2 (row++[(j8 b u f).1]) (by omega) (by omega) (by omega) (by simp;omega)
theorem zBh {b:List Int} (hb:∀ x∈b,xO x) (hl:b.length≤100000):∀ (k m:Nat) (u f:Int) (row:List zT),k<m→0≤u→u≤b.length→row.length+k≤1000 →
  rY 281474976710656 m (k:Int) b u f row=some (b,bU b k u f row):=by
 intro k
 induction k with
 | zero =>
  intro m u f row hm h0 h1 hr
  obtain ⟨g,rfl⟩:∃ g,m=g+1:=⟨m - 1,by omega⟩
  show fX _ _ _ _ _ _ _=_
  unfold fX
  rw [mR (.inl (by omega))];rfl
 | succ k ih =>
  intro m u f row hm h0 h1 hr
  obtain ⟨g,rfl⟩:∃ g,m=g+1:=⟨m - 1,by omega⟩
  show fX _ _ _ _ _ _ _=_
  unfold fX
  simp only [bU]
  by_cases hf:f≠0
  ·rw [mR (.inr (qQ hf)),if_pos hf];rfl
  have ht:=QI (f:=f) hb h0 h1
  have hn:=nK (f:=f) hb h0 h1
  rw [yR (by omega),uW (by omega),if_neg hf,Bool.and_self,cond_true,o7 hb hl h0 h1,zbs]
  simp only
  rw [o7 hb hl (by omega) hn.2.2.1,zbs,xY (by simp;omega),zbs,w64 (by omega) (by omega),show (((k+1:Nat):Int) - 1)=(k:Int) by omega]
  exact ih g (two b u f).2.1 (two b u f).2.2 (row++[⟨(vM b u f).1,(two b u f).1⟩]) (by omega) (by omega) (by omega) (by simp;omega)
theorem zCr {b:List Int} {o1:(List Int)×Int×Int×(List (List Int))} {o2:(List Int)×Int×Int×(List zT)} (hb:∀ x∈b,xO x) (hl:b.length≤100000):∀ (k m:Nat) (u f:Int) (row:List xA),k<m→0≤u→u≤b.length→row.length+k≤1000 →
  oN 281474976710656 b o1 o2 m (k:Int) u f row=some (aD o1.2.2.2 o2.2.2.2 b k u f row):=by
 intro k
 induction k with
 | zero =>
  intro m u f row hm h0 h1 hr
  obtain ⟨g,rfl⟩:∃ g,m=g+1:=⟨m - 1,by omega⟩
  show gY _ _ _ _ _ _ _ _ _=_
  unfold gY
  rw [mR (.inl (by omega))];rfl
 | succ k ih =>
  intro m u f row hm h0 h1 hr
  obtain ⟨g,rfl⟩:∃ g,m=g+1:=⟨m - 1,by omega⟩
  show gY _ _ _ _ _ _ _ _ _=_
  unfold gY
  simp only [aD]
  by_cases hf:f≠0
  ·rw [mR (.inr (qQ hf)),if_pos hf];rfl
  have h:=U0 (n:=o1.2.2.2) (s:=o2.2.2.2) (d0 hb u.toNat)
  rw [List.length_drop] at h
  rw [yR (by omega),uW (by omega),if_neg hf,Bool.and_self,cond_true,xY ⟨h0,h1⟩,zbs,HH b h0,XG (d0 hb _) (by rw [List.length_drop];omega),zbs,xY (by simp;omega),zbs,w64 (x:=((k+1:Nat):Int) - 1) (by omega) (by omega),show (((k+1:Nat):Int) - 1)=(k:Int) by omega,w64 (by omega) (by omega)]
  exact ih g (u+(kR o1.2.2.2 o2.2.2.2 (b.drop u.toNat)).2.1) (kR o1.2.2.2 o2.2.2.2 (b.drop u.toNat)).2.2 (row++[(kR o1.2.2.2 o2.2.2.2 (b.drop u.toNat)).1]) (by omega) (by omega) (by omega) (by simp;omega)
theorem ZR {b:List Int} (hb:∀ x∈b,xO x) (hl:b.length≤100000):BE 281474976710656 b=some (uY b):=by
 unfold BE
 obtain ⟨⟨a1,a2⟩,⟨b1,b2⟩,⟨c1,c2⟩,⟨d1,d2,d3,d4⟩,⟨e1,e2⟩,⟨f1,f2,f3,f4⟩,⟨g1,g2⟩,⟨i1,i2,i3,i4⟩,⟨j1,j2,j3⟩,_⟩:=QT hb
 rw [o7 hb hl (by omega) (by omega),zbs]
 show (aK 281474976710656 ⟨b,(dT b).2.1,(dT b).2.2⟩).bind _=_
 rw [o7 hb hl a1 a2,zbs]
 show (aK 281474976710656 ⟨b,(dS b).2.1,(dS b).2.2⟩).bind _=_
 rw [o7 hb hl b1 b2,zbs]
 show (bJ 281474976710656 ⟨b,(dL b).2.1,(dL b).2.2⟩ 1000).bind _=_
 rw [LO hb hl c1 c2,zbs]
 show (rD 281474976710656 281474976710656 (dC1 b).1 b (dC1 b).2.1 (dC1 b).2.2 []).bind _=_
 have q1:=zBg hb hl (dC1 b).1.toNat 281474976710656 (dC1 b).2.1 (dC1 b).2.2 [] (by omega) d3 d4 (by simp;omega)
 rw [Int.toNat_of_nonneg d1] at q1
 rw [q1,zbs]
 show (bJ 281474976710656 ⟨b,(dN b).1,(dN b).2.1⟩ 1000).bind _=_
 rw [LO hb hl e1 e2,zbs]
 show (rY 281474976710656 281474976710656 (dC2 b).1 b (dC2 b).2.1 (dC2 b).2.2 []).bind _=_
 have q2:=zBh hb hl (dC2 b).1.toNat 281474976710656 (dC2 b).2.1 (dC2 b).2.2 [] (by omega) f3 f4 (by simp;omega)
 rw [Int.toNat_of_nonneg f1] at q2
 rw [q2,zbs]
 have h3:(bif ((dSt b).2.1==(0:Int)) then (cL 281474976710656 (dN b).2.2 (dSt b).2.2).bind (fun r_9=>some r_9) else some (dSt b).2.1)=some (dF3 b):=by
  unfold dF3
  by_cases h:(dSt b).2.1=0
  ·rw [uW h,if_pos h,cond_true,EU];rfl
  ·rw [qQ h,if_neg h];rfl
 refine (congrArg (fun o=>Option.bind o _) h3).trans ?_
 rw [zbs]
 show (bJ 281474976710656 ⟨b,(dSt b).1,dF3 b⟩ 1000).bind _=_
 rw [LO hb hl g1 g2,zbs]
 show (oN 281474976710656 b (b,dN b) (b,dSt b) 281474976710656 (dC3 b).1 (dC3 b).2.1 (dC3 b).2.2 []).bind _=_
 have q3:=zCr (o1:=(b,dN b)) (o2:=(b,dSt b)) hb hl (dC3 b).1.toNat 281474976710656 (dC3 b).2.1 (dC3 b).2.2 [] (by omega) i3 i4 (by simp;omega)
 rw [Int.toNat_of_nonneg i1] at q3
 rw [q3,zbs]
 have hev:(dP b).Events.length≤100000:=by show (dE b).2.2.length≤_;omega
 have h5:(bif ((dE b).2.1==(0:Int)) then (fD 281474976710656 (dP b)).bind (fun vK=>some vK) else some (dE b).2.1)=some (dF5 b):=by
  unfold dF5
  by_cases h:(dE b).2.1=0
  ·rw [uW h,if_pos h,cond_true,JZ hev];rfl
  ·rw [qQ h,if_neg h];rfl
 refine (congrArg (fun o=>Option.bind o _) h5).trans ?_
 rw [zbs]
 unfold uY
 by_cases h6:dF5 b≠0
 ·rw [wA h6,if_pos h6];rfl
 rw [x8 (by omega),if_neg h6,cond_false]
 show ((dU 281474976710656 (dP b)).bind _)=_
 rw [L7 hev,zbs]
 by_cases h7:(vU (dP b)).2≠0
 ·rw [wA h7,if_pos (.inl h7)];rfl
 rw [x8 (by omega),cond_false]
 show (((need (0≤(dE b).1∧(dE b).1≤b.length)).bind fun _=>(cW (vU (dP b)).1 (sub b 0 (dE b).1)).bind _).bind _)=_
 rw [xY ⟨j1,j2⟩,zbs,MQ j1]
 unfold cW
 rw [zbs,zbs]
 by_cases h8:(vU (dP b)).1=b.take (dE b).1.toNat
 ·rw [rC h8,if_neg (fun h=>h.elim h7 (fun g=>g h8))];rfl
 ·rw [E9 h8,if_pos (.inr h8)];rfl
end Go.Ab
