/- Plain laws of the functions wU this seat's, laid anew from another seat's text. No conditions but those that the theorems name. -/
import Derived.Test.YtoeengmnmhhpgaaP15xD
import Derived.Test.YtoeengmnmhhpgaaB15a
import Derived.Test.YtoeengmnmhhpgaaB15b
import Derived.Test.YtoeengmnmhhpgaaB15c
import Derived.Test.YtoeengmnmhhpgaaB15d
import Derived.Test.YtoeengmnmhhpgaaB15e
import Derived.Test.YtoeengmnmhhpgaaB15f
import Derived.Test.YtoeengmnmhhpgaaB15g
import Derived.Test.YtoeengmnmhhpgaaB15h
namespace Go.Ab
open Go
set_option linter.unusedVariables false
def pS (b:List Int) (u f most:Int):Int×Int×Int :=
 if (vI b u f).2.2≠0 then (0,(vI b u f).2.1,(vI b u f).2.2) else if (vI b u f).1<0 then (0,(vI b u f).2.1,10) else if (vI b u f).1>most then (0,(vI b u f).2.1,7) else vI b u f
def jV (b:List Int) (u f:Int):List Int×Int×Int:=if f≠0 then ([],u,f) else ((txt (b.drop u.toNat) 40).1,u+(txt (b.drop u.toNat) 40).2.1,(txt (b.drop u.toNat) 40).2.2)
def cD (b:List Int):Nat→Int→Int→List (List Int)→Int×Int×List (List Int)
 | 0,u,f,row=>(u,f,row)
 | k+1,u,f,row=>if f≠0 then (u,f,row) else cD b k (jV b u f).2.1 (jV b u f).2.2 (row++[(jV b u f).1])
def two (b:List Int) (u f:Int):Int×Int×Int:=vI b (vI b u f).2.1 (vI b u f).2.2
def b7 (b:List Int):Nat→Int→Int→List zS→Int×Int×List zS
 | 0,u,f,row=>(u,f,row)
 | k+1,u,f,row=>if f≠0 then (u,f,row) else b7 b k (two b u f).2.1 (two b u f).2.2 (row++[⟨(vI b u f).1,(two b u f).1⟩])
def aR (n:List (List Int)) (s:List zS) (b:List Int):Nat→Int→Int→List y6→Int×Int×List y6
 | 0,u,f,row=>(u,f,row)
 | k+1,u,f,row=>if f≠0 then (u,f,row) else aR n s b k (u+(kR n s (b.drop u.toNat)).2.1) (kR n s (b.drop u.toNat)).2.2 (row++[(kR n s (b.drop u.toNat)).1])
def dT (b:List Int):=vI b 0 0
def dS (b:List Int):=vI b (dT b).2.1 (dT b).2.2
def dL (b:List Int):=vI b (dS b).2.1 (dS b).2.2
def dC1 (b:List Int):=pS b (dL b).2.1 (dL b).2.2 1000
def dN (b:List Int):=cD b (dC1 b).1.toNat (dC1 b).2.1 (dC1 b).2.2 []
def dC2 (b:List Int):=pS b (dN b).1 (dN b).2.1 1000
def dSt (b:List Int):=b7 b (dC2 b).1.toNat (dC2 b).2.1 (dC2 b).2.2 []
def dF3 (b:List Int):Int:=if (dSt b).2.1=0 then n6 (dN b).2.2 (dSt b).2.2 else (dSt b).2.1
def dC3 (b:List Int):=pS b (dSt b).1 (dF3 b) 1000
def dE (b:List Int):=aR (dN b).2.2 (dSt b).2.2 b (dC3 b).1.toNat (dC3 b).2.1 (dC3 b).2.2 []
def dP (b:List Int):zQ:=⟨(dT b).1,(dS b).1,(dL b).1,(dE b).2.2⟩
def dF5 (b:List Int):Int:=if (dE b).2.1=0 then u3 (dP b) else (dE b).2.1
def uW (b:List Int):zQ×Int×Int :=
 if dF5 b≠0 then (pk0,0,dF5 b) else if (vP (dP b)).2≠0∨(vP (dP b)).1≠b.take (dE b).1.toNat then (pk0,0,10) else (dP b,(dE b).1,0)
theorem M8 {b:List Int} {u f most:Int} (hb:∀ x∈b,xO x) (h0:0≤u) (h1:u≤b.length) (hm:0≤most):0≤(pS b u f most).1∧(pS b u f most).1≤most∧u≤(pS b u f most).2.1∧(pS b u f most).2.1≤b.length∧((pS b u f most).2.2=0→f=0):=by
 have h:=nP (f:=f) hb h0 h1
 unfold pS
 split
 ·exact ⟨by simp,hm,h.2.1,h.2.2.1,fun e=>absurd e (by assumption)⟩
 split
 ·exact ⟨by simp,hm,h.2.1,h.2.2.1,fun e=>by simp at e⟩
 split
 ·exact ⟨by simp,hm,h.2.1,h.2.2.1,fun e=>by simp at e⟩
 ·exact ⟨by omega,by omega,h.2.1,h.2.2.1,fun e=>(h.2.2.2 e).1⟩
theorem zAx {b:List Int} {most:Int} (hb:∀ x∈b,xO x):0≤(txt b most).2.1∧(txt b most).2.1≤b.length:=by
 have hv:=(dI (i:=0) (u:=0) hb (by omega) (by omega) (by simp))
 unfold txt
 simp only
 split
 ·simp
 split
 ·simp
 split
 ·simp
 split
 ·simp
 ·have:=hv.2.1 (by omega)
  simp only;omega
theorem J2 {b:List Int} {u f:Int} (hb:∀ x∈b,xO x) (h0:0≤u) (h1:u≤b.length):u≤(jV b u f).2.1∧(jV b u f).2.1≤b.length:=by
 unfold jV
 split
 ·exact ⟨Int.le_refl _,h1⟩
 ·have:=zAx (most:=40) (fN hb u.toNat)
  rw [List.length_drop] at this
  simp only;omega
theorem zEb {b:List Int} (hb:∀ x∈b,xO x):∀ (k:Nat) (u f:Int) (row:List (List Int)),0≤u→u≤b.length→u≤(cD b k u f row).1∧(cD b k u f row).1≤b.length:=by
 intro k
 induction k with
 | zero=>intro u f row h0 h1;exact ⟨Int.le_refl _,h1⟩
 | succ k ih =>
  intro u f row h0 h1
  simp only [cD]
  split
  ·exact ⟨Int.le_refl _,h1⟩
  ·have h:=J2 (f:=f) hb h0 h1
   have:=ih (jV b u f).2.1 (jV b u f).2.2 (row++[(jV b u f).1]) (by omega) h.2
   omega
theorem UG {b:List Int} {u f:Int} (hb:∀ x∈b,xO x) (h0:0≤u) (h1:u≤b.length):u≤(two b u f).2.1∧(two b u f).2.1≤b.length:=by
 have h:=nP (f:=f) hb h0 h1
 have:=nP (u:=(vI b u f).2.1) (f:=(vI b u f).2.2) hb (by omega) h.2.2.1
 unfold two;omega
theorem zDg {b:List Int} (hb:∀ x∈b,xO x):∀ (k:Nat) (u f:Int) (row:List zS),0≤u→u≤b.length→u≤(b7 b k u f row).1∧(b7 b k u f row).1≤b.length:=by
 intro k
 induction k with
 | zero=>intro u f row h0 h1;exact ⟨Int.le_refl _,h1⟩
 | succ k ih =>
  intro u f row h0 h1
  simp only [b7]
  split
  ·exact ⟨Int.le_refl _,h1⟩
  ·have h:=UG (f:=f) hb h0 h1
   have:=ih (two b u f).2.1 (two b u f).2.2 (row++[⟨(vI b u f).1,(two b u f).1⟩]) (by omega) h.2
   omega
theorem RV {n:List (List Int)} {s:List zS} {b:List Int} (hb:∀ x∈b,xO x):0≤(kR n s b).2.1∧(kR n s b).2.1≤b.length:=by
 have h:=VD hb
 unfold kR
 split
 ·simp
 split
 ·simp
 split
 ·simp
 split
 ·simp
 split
 ·simp
 ·exact ⟨by simp only;omega,h.2.2.2.2.2.2⟩
theorem zBl {n:List (List Int)} {s:List zS} {b:List Int} (hb:∀ x∈b,xO x):∀ (k:Nat) (u f:Int) (row:List y6),0≤u→u≤b.length→u≤(aR n s b k u f row).1∧(aR n s b k u f row).1≤b.length∧(aR n s b k u f row).2.2.length≤row.length+k:=by
 intro k
 induction k with
 | zero=>intro u f row h0 h1;exact ⟨Int.le_refl _,h1,by simp [aR]⟩
 | succ k ih =>
  intro u f row h0 h1
  simp only [aR]
  split
  ·exact ⟨Int.le_refl _,h1,by simp only;omega⟩
  ·have h:=RV (n:=n) (s:=s) (fN hb u.toNat)
   rw [List.length_drop] at h
   have:=ih (u+(kR n s (b.drop u.toNat)).2.1) (kR n s (b.drop u.toNat)).2.2 (row++[(kR n s (b.drop u.toNat)).1]) (by omega) (by omega)
   simp only [zla,zlc,List.length_nil] at this
   omega
theorem QA {b:List Int} (hb:∀ x∈b,xO x) :
  (0≤(dT b).2.1∧(dT b).2.1≤b.length)∧(0≤(dS b).2.1∧(dS b).2.1≤b.length)∧(0≤(dL b).2.1∧(dL b).2.1≤b.length) ∧
  (0≤(dC1 b).1∧(dC1 b).1≤1000∧0≤(dC1 b).2.1∧(dC1 b).2.1≤b.length)∧(0≤(dN b).1∧(dN b).1≤b.length) ∧
  (0≤(dC2 b).1∧(dC2 b).1≤1000∧0≤(dC2 b).2.1∧(dC2 b).2.1≤b.length)∧(0≤(dSt b).1∧(dSt b).1≤b.length) ∧
  (0≤(dC3 b).1∧(dC3 b).1≤1000∧0≤(dC3 b).2.1∧(dC3 b).2.1≤b.length)∧(0≤(dE b).1∧(dE b).1≤b.length∧(dE b).2.2.length≤1000)∧(dT b).2.1≤(dE b).1:=by
 have h1:0≤(dT b).2.1∧(dT b).2.1≤b.length:=by have:=nP (u:=0) (f:=0) hb (by omega) (by omega);exact ⟨this.2.1,this.2.2.1⟩
 have h2:(dT b).2.1≤(dS b).2.1∧(dS b).2.1≤b.length:=by have:=nP (u:=(dT b).2.1) (f:=(dT b).2.2) hb (by omega) (by omega);exact ⟨this.2.1,this.2.2.1⟩
 have h3:(dS b).2.1≤(dL b).2.1∧(dL b).2.1≤b.length:=by have:=nP (u:=(dS b).2.1) (f:=(dS b).2.2) hb (by omega) (by omega);exact ⟨this.2.1,this.2.2.1⟩
 have h4:0≤(dC1 b).1∧(dC1 b).1≤1000∧(dL b).2.1≤(dC1 b).2.1∧(dC1 b).2.1≤b.length:=by have:=M8 (u:=(dL b).2.1) (f:=(dL b).2.2) (most:=1000) hb (by omega) (by omega) (by omega);exact ⟨this.1,this.2.1,this.2.2.1,this.2.2.2.1⟩
 have h5:(dC1 b).2.1≤(dN b).1∧(dN b).1≤b.length:=zEb hb _ _ _ _ (by omega) (by omega)
 have h6:0≤(dC2 b).1∧(dC2 b).1≤1000∧(dN b).1≤(dC2 b).2.1∧(dC2 b).2.1≤b.length:=by have:=M8 (u:=(dN b).1) (f:=(dN b).2.1) (most:=1000) hb (by omega) (by omega) (by omega);exact ⟨this.1,this.2.1,this.2.2.1,this.2.2.2.1⟩
 have h7:(dC2 b).2.1≤(dSt b).1∧(dSt b).1≤b.length:=zDg hb _ _ _ _ (by omega) (by omega)
 have h8:0≤(dC3 b).1∧(dC3 b).1≤1000∧(dSt b).1≤(dC3 b).2.1∧(dC3 b).2.1≤b.length:=by have:=M8 (u:=(dSt b).1) (f:=dF3 b) (most:=1000) hb (by omega) (by omega) (by omega);exact ⟨this.1,this.2.1,this.2.2.1,this.2.2.2.1⟩
 have h9:(dC3 b).2.1≤(dE b).1∧(dE b).1≤b.length∧(dE b).2.2.length≤([]:List y6).length+(dC3 b).1.toNat:=zBl hb _ _ _ _ (by omega) (by omega)
 simp only [List.length_nil] at h9
 omega
theorem rF {b:List Int} {u f:Int} (hb:∀ x∈b,xO x) (hl:b.length≤100000) (h0:0≤u) (h1:u≤b.length) :
  aQ 281474976710656 ⟨b,u,f⟩=some ((vI b u f).1,⟨b,(vI b u f).2.1,(vI b u f).2.2⟩):=by
 unfold aQ
 have hr:=nP (f:=f) hb h0 h1
 unfold vI at *
 by_cases hf:f≠0
 ·rw [wA hf,if_pos hf];rfl
 ·rw [if_neg hf] at hr ⊢
  rw [x8 (show f=0 by omega),cond_false,x7 ⟨h0,h1⟩,zbs,ES b h0,oP (fN hb _) (by rw [List.length_drop];omega) (by rw [List.length_drop];omega),zbs]
  simp only at hr
  show some (_,(⟨b,zI (u+_),_⟩:uV))=_
  rw [w64 (by omega) (by omega)]
theorem NV {b:List Int} {u f most:Int} (hb:∀ x∈b,xO x) (hl:b.length≤100000) (h0:0≤u) (h1:u≤b.length) :
  cA 281474976710656 ⟨b,u,f⟩ most=some ((pS b u f most).1,⟨b,(pS b u f most).2.1,(pS b u f most).2.2⟩):=by
 unfold cA pS
 rw [rF hb hl h0 h1,zbs]
 simp only
 by_cases c1:(vI b u f).2.2≠0
 ·rw [wA c1,if_pos c1];rfl
 rw [x8 (by omega),if_neg c1,cond_false]
 by_cases c2:(vI b u f).1<0
 ·rw [yU c2,if_pos c2];rfl
 rw [yO c2,if_neg c2,cond_false]
 by_cases c3:(vI b u f).1>most
 ·rw [yU c3,if_pos c3];rfl
 ·rw [yO c3,if_neg c3,cond_false]
theorem zB2 {b:List Int} {u f:Int} (hb:∀ x∈b,xO x) (hl:b.length≤100000) (h0:0≤u) (h1:u≤b.length) :
  A6 281474976710656 ⟨b,u,f⟩=some ((jV b u f).1,⟨b,(jV b u f).2.1,(jV b u f).2.2⟩):=by
 unfold A6
 have hr:=J2 (f:=f) hb h0 h1
 unfold jV at *
 by_cases hf:f≠0
 ·rw [wA hf,if_pos hf];rfl
 ·rw [if_neg hf] at hr ⊢
  rw [x8 (show f=0 by omega),cond_false,x7 ⟨h0,h1⟩,zbs,ES b h0,UY (fN hb _) (by rw [List.length_drop];omega) (by rw [List.length_drop];omega),zbs]
  simp only at hr
  show some (_,(⟨b,zI (u+_),_⟩:uV))=_
  rw [w64 (by omega) (by omega)]
theorem oF {p:Prop} [Decidable p] {q:Bool} (h:¬ p∨q=false):(decide p&&q)=false:=by
 rcases h with h | h
 ·rw [yO h];rfl
 ·rw [h,Bool.and_false]
theorem zDJ {b:List Int} (hb:∀ x∈b,xO x) (hl:b.length≤100000):∀ (k m:Nat) (u f:Int) (row:List (List Int)),k<m→0≤u→u≤b.length→row.length+k≤1000 →
  oU 281474976710656 m (k:Int) b u f row=some (b,cD b k u f row):=by
 intro k
 induction k with
 | zero =>
  intro m u f row hm h0 h1 hr
  obtain ⟨g,rfl⟩:∃ g,m=g+1:=⟨m - 1,by omega⟩
  show lJ _ _ _ _ _ _ _=_
  unfold lJ
  rw [oF (.inl (by omega))];rfl
 | succ k ih =>
  intro m u f row hm h0 h1 hr
  obtain ⟨g,rfl⟩:∃ g,m=g+1:=⟨m - 1,by omega⟩
  show lJ _ _ _ _ _ _ _=_
  unfold lJ
  simp only [cD]
  by_cases hf:f≠0
  ·rw [oF (.inr (tA hf)),if_pos hf];rfl
  have ht:=J2 (f:=f) hb h0 h1
  rw [yU (by omega),uE (by omega),if_neg hf,Bool.and_self,cond_true,zB2 hb hl h0 h1,zbs,x7 (by simp;omega),zbs,w64 (by omega) (by omega),show (((k+1:Nat):Int) - 1)=(k:Int) by omega]
  exact ih g (jV b u f).2.1 (jV b u f).2.2 (row++[(jV b u f).1]) (by omega) (by omega) (by omega) (by simp;omega)
theorem zBT {b:List Int} (hb:∀ x∈b,xO x) (hl:b.length≤100000):∀ (k m:Nat) (u f:Int) (row:List zS),k<m→0≤u→u≤b.length→row.length+k≤1000 →
  oC 281474976710656 m (k:Int) b u f row=some (b,b7 b k u f row):=by
 intro k
 induction k with
 | zero =>
  intro m u f row hm h0 h1 hr
  obtain ⟨g,rfl⟩:∃ g,m=g+1:=⟨m - 1,by omega⟩
  show lP _ _ _ _ _ _ _=_
  unfold lP
  rw [oF (.inl (by omega))];rfl
 | succ k ih =>
  intro m u f row hm h0 h1 hr
  obtain ⟨g,rfl⟩:∃ g,m=g+1:=⟨m - 1,by omega⟩
  show lP _ _ _ _ _ _ _=_
  unfold lP
  simp only [b7]
  by_cases hf:f≠0
  ·rw [oF (.inr (tA hf)),if_pos hf];rfl
  have ht:=UG (f:=f) hb h0 h1
  have hn:=nP (f:=f) hb h0 h1
  rw [yU (by omega),uE (by omega),if_neg hf,Bool.and_self,cond_true,rF hb hl h0 h1,zbs]
  simp only
  rw [rF hb hl (by omega) hn.2.2.1,zbs,x7 (by simp;omega),zbs,w64 (by omega) (by omega),show (((k+1:Nat):Int) - 1)=(k:Int) by omega]
  exact ih g (two b u f).2.1 (two b u f).2.2 (row++[⟨(vI b u f).1,(two b u f).1⟩]) (by omega) (by omega) (by omega) (by simp;omega)
theorem ZM {b:List Int} {o1:(List Int)×Int×Int×(List (List Int))} {o2:(List Int)×Int×Int×(List zS)} (hb:∀ x∈b,xO x) (hl:b.length≤100000):∀ (k m:Nat) (u f:Int) (row:List y6),k<m→0≤u→u≤b.length→row.length+k≤1000 →
  rZ 281474976710656 b o1 o2 m (k:Int) u f row=some (aR o1.2.2.2 o2.2.2.2 b k u f row):=by
 intro k
 induction k with
 | zero =>
  intro m u f row hm h0 h1 hr
  obtain ⟨g,rfl⟩:∃ g,m=g+1:=⟨m - 1,by omega⟩
  show lC _ _ _ _ _ _ _ _ _=_
  unfold lC
  rw [oF (.inl (by omega))];rfl
 | succ k ih =>
  intro m u f row hm h0 h1 hr
  obtain ⟨g,rfl⟩:∃ g,m=g+1:=⟨m - 1,by omega⟩
  show lC _ _ _ _ _ _ _ _ _=_
  unfold lC
  simp only [aR]
  by_cases hf:f≠0
  ·rw [oF (.inr (tA hf)),if_pos hf];rfl
  have h:=RV (n:=o1.2.2.2) (s:=o2.2.2.2) (fN hb u.toNat)
  rw [List.length_drop] at h
  rw [yU (by omega),uE (by omega),if_neg hf,Bool.and_self,cond_true,x7 ⟨h0,h1⟩,zbs,ES b h0,V5 (fN hb _) (by rw [List.length_drop];omega),zbs,x7 (by simp;omega),zbs,w64 (x:=((k+1:Nat):Int) - 1) (by omega) (by omega),show (((k+1:Nat):Int) - 1)=(k:Int) by omega,w64 (by omega) (by omega)]
  exact ih g (u+(kR o1.2.2.2 o2.2.2.2 (b.drop u.toNat)).2.1) (kR o1.2.2.2 o2.2.2.2 (b.drop u.toNat)).2.2 (row++[(kR o1.2.2.2 o2.2.2.2 (b.drop u.toNat)).1]) (by omega) (by omega) (by omega) (by simp;omega)
theorem zAQ {b:List Int} (hb:∀ x∈b,xO x) (hl:b.length≤100000):BT 281474976710656 b=some (uW b):=by
 unfold BT
 obtain ⟨⟨a1,a2⟩,⟨b1,b2⟩,⟨c1,c2⟩,⟨d1,d2,d3,d4⟩,⟨e1,e2⟩,⟨f1,f2,f3,f4⟩,⟨g1,g2⟩,⟨i1,i2,i3,i4⟩,⟨j1,j2,j3⟩,_⟩:=QA hb
 rw [rF hb hl (by omega) (by omega),zbs]
 show (aQ 281474976710656 ⟨b,(dT b).2.1,(dT b).2.2⟩).bind _=_
 rw [rF hb hl a1 a2,zbs]
 show (aQ 281474976710656 ⟨b,(dS b).2.1,(dS b).2.2⟩).bind _=_
 rw [rF hb hl b1 b2,zbs]
 show (cA 281474976710656 ⟨b,(dL b).2.1,(dL b).2.2⟩ 1000).bind _=_
 rw [NV hb hl c1 c2,zbs]
 show (oU 281474976710656 281474976710656 (dC1 b).1 b (dC1 b).2.1 (dC1 b).2.2 []).bind _=_
 have q1:=zDJ hb hl (dC1 b).1.toNat 281474976710656 (dC1 b).2.1 (dC1 b).2.2 [] (by omega) d3 d4 (by simp;omega)
 rw [Int.toNat_of_nonneg d1] at q1
 rw [q1,zbs]
 show (cA 281474976710656 ⟨b,(dN b).1,(dN b).2.1⟩ 1000).bind _=_
 rw [NV hb hl e1 e2,zbs]
 show (oC 281474976710656 281474976710656 (dC2 b).1 b (dC2 b).2.1 (dC2 b).2.2 []).bind _=_
 have q2:=zBT hb hl (dC2 b).1.toNat 281474976710656 (dC2 b).2.1 (dC2 b).2.2 [] (by omega) f3 f4 (by simp;omega)
 rw [Int.toNat_of_nonneg f1] at q2
 rw [q2,zbs]
 have h3:(bif ((dSt b).2.1==(0:Int)) then (cO 281474976710656 (dN b).2.2 (dSt b).2.2).bind (fun r_9=>some r_9) else some (dSt b).2.1)=some (dF3 b):=by
  unfold dF3
  by_cases h:(dSt b).2.1=0
  ·rw [uE h,if_pos h,cond_true,JC];rfl
  ·rw [tA h,if_neg h];rfl
 refine (congrArg (fun o=>Option.bind o _) h3).trans ?_
 rw [zbs]
 show (cA 281474976710656 ⟨b,(dSt b).1,dF3 b⟩ 1000).bind _=_
 rw [NV hb hl g1 g2,zbs]
 show (rZ 281474976710656 b (b,dN b) (b,dSt b) 281474976710656 (dC3 b).1 (dC3 b).2.1 (dC3 b).2.2 []).bind _=_
 have q3:=ZM (o1:=(b,dN b)) (o2:=(b,dSt b)) hb hl (dC3 b).1.toNat 281474976710656 (dC3 b).2.1 (dC3 b).2.2 [] (by omega) i3 i4 (by simp;omega)
 rw [Int.toNat_of_nonneg i1] at q3
 rw [q3,zbs]
 have hev:(dP b).Events.length≤100000:=by show (dE b).2.2.length≤_;omega
 have h5:(bif ((dE b).2.1==(0:Int)) then (fB 281474976710656 (dP b)).bind (fun qF=>some qF) else some (dE b).2.1)=some (dF5 b):=by
  unfold dF5
  by_cases h:(dE b).2.1=0
  ·rw [uE h,if_pos h,cond_true,LP hev];rfl
  ·rw [tA h,if_neg h];rfl
 refine (congrArg (fun o=>Option.bind o _) h5).trans ?_
 rw [zbs]
 unfold uW
 by_cases h6:dF5 b≠0
 ·rw [wA h6,if_pos h6];rfl
 rw [x8 (by omega),if_neg h6,cond_false]
 show ((fJ 281474976710656 (dP b)).bind _)=_
 rw [KK hev,zbs]
 by_cases h7:(vP (dP b)).2≠0
 ·rw [wA h7,if_pos (.inl h7)];rfl
 rw [x8 (by omega),cond_false]
 show (((need (0≤(dE b).1∧(dE b).1≤b.length)).bind fun _=>(cN (vP (dP b)).1 (sub b 0 (dE b).1)).bind _).bind _)=_
 rw [x7 ⟨j1,j2⟩,zbs,H5 j1]
 unfold cN
 rw [zbs,zbs]
 by_cases h8:(vP (dP b)).1=b.take (dE b).1.toNat
 ·rw [oZ h8,if_neg (fun h=>h.elim h7 (fun g=>g h8))];rfl
 ·rw [EL h8,if_pos (.inr h8)];rfl
end Go.Ab
