/- Plain laws of the functions uV this seat's, laid anew from another seat's text. No conditions but those that the theorems name. -/
import Derived.Test.YtoeengmnmhhpgaaGreatP15zxD
import Derived.Test.YtoeengmnmhhpgaaGreatB15za
import Derived.Test.YtoeengmnmhhpgaaGreatB15zb
import Derived.Test.YtoeengmnmhhpgaaGreatB15zc
import Derived.Test.YtoeengmnmhhpgaaGreatB15zd
import Derived.Test.YtoeengmnmhhpgaaGreatB15ze
import Derived.Test.YtoeengmnmhhpgaaGreatB15zf
import Derived.Test.YtoeengmnmhhpgaaGreatB15zg
import Derived.Test.YtoeengmnmhhpgaaGreatB15zh
namespace Go.Ab
open Go
set_option linter.unusedVariables false
def kI (b:List Int) (u f most:Int):Int×Int×Int :=
 if (w8 b u f).2.2≠0 then (0,(w8 b u f).2.1,(w8 b u f).2.2) else if (w8 b u f).1<0 then (0,(w8 b u f).2.1,10) else if (w8 b u f).1>most then (0,(w8 b u f).2.1,7) else w8 b u f
def jI (b:List Int) (u f:Int):List Int×Int×Int:=if f≠0 then ([],u,f) else ((txt (b.drop u.toNat) 40).1,u+(txt (b.drop u.toNat) 40).2.1,(txt (b.drop u.toNat) 40).2.2)
def dW (b:List Int):Nat→Int→Int→List (List Int)→Int×Int×List (List Int)
 | 0,u,f,row=>(u,f,row)
 | k+1,u,f,row=>if f≠0 then (u,f,row) else dW b k (jI b u f).2.1 (jI b u f).2.2 (row++[(jI b u f).1])
def two (b:List Int) (u f:Int):Int×Int×Int:=w8 b (w8 b u f).2.1 (w8 b u f).2.2
def cT (b:List Int):Nat→Int→Int→List zQ→Int×Int×List zQ
 | 0,u,f,row=>(u,f,row)
 | k+1,u,f,row=>if f≠0 then (u,f,row) else cT b k (two b u f).2.1 (two b u f).2.2 (row++[⟨(w8 b u f).1,(two b u f).1⟩])
def bH (n:List (List Int)) (s:List zQ) (b:List Int):Nat→Int→Int→List yW→Int×Int×List yW
 | 0,u,f,row=>(u,f,row)
 | k+1,u,f,row=>if f≠0 then (u,f,row) else bH n s b k (u+(jK n s (b.drop u.toNat)).2.1) (jK n s (b.drop u.toNat)).2.2 (row++[(jK n s (b.drop u.toNat)).1])
def dT (b:List Int):=w8 b 0 0
def dS (b:List Int):=w8 b (dT b).2.1 (dT b).2.2
def dL (b:List Int):=w8 b (dS b).2.1 (dS b).2.2
def dC1 (b:List Int):=kI b (dL b).2.1 (dL b).2.2 1000
def dN (b:List Int):=dW b (dC1 b).1.toNat (dC1 b).2.1 (dC1 b).2.2 []
def dC2 (b:List Int):=kI b (dN b).1 (dN b).2.1 1000
def dSt (b:List Int):=cT b (dC2 b).1.toNat (dC2 b).2.1 (dC2 b).2.2 []
def dF3 (b:List Int):Int:=if (dSt b).2.1=0 then j0 (dN b).2.2 (dSt b).2.2 else (dSt b).2.1
def dC3 (b:List Int):=kI b (dSt b).1 (dF3 b) 1000
def dE (b:List Int):=bH (dN b).2.2 (dSt b).2.2 b (dC3 b).1.toNat (dC3 b).2.1 (dC3 b).2.2 []
def dP (b:List Int):z8:=⟨(dT b).1,(dS b).1,(dL b).1,(dE b).2.2⟩
def dF5 (b:List Int):Int:=if (dE b).2.1=0 then qI (dP b) else (dE b).2.1
def uX (b:List Int):z8×Int×Int :=
 if dF5 b≠0 then (pk0,0,dF5 b) else if (q8 (dP b)).2≠0∨(q8 (dP b)).1≠b.take (dE b).1.toNat then (pk0,0,10) else (dP b,(dE b).1,0)
theorem NO {b:List Int} {u f most:Int} (hb:∀ x∈b,x6 x) (h0:0≤u) (h1:u≤b.length) (hm:0≤most):0≤(kI b u f most).1∧(kI b u f most).1≤most∧u≤(kI b u f most).2.1∧(kI b u f most).2.1≤b.length∧((kI b u f most).2.2=0→f=0):=by
 have h:=pA (f:=f) hb h0 h1
 unfold kI
 split
 ·exact ⟨by simp,hm,h.2.1,h.2.2.1,fun e=>absurd e (by assumption)⟩
 split
 ·exact ⟨by simp,hm,h.2.1,h.2.2.1,fun e=>by simp at e⟩
 split
 ·exact ⟨by simp,hm,h.2.1,h.2.2.1,fun e=>by simp at e⟩
 ·exact ⟨by omega,by omega,h.2.1,h.2.2.1,fun e=>(h.2.2.2 e).1⟩
theorem zDL {b:List Int} {most:Int} (hb:∀ x∈b,x6 x):0≤(txt b most).2.1∧(txt b most).2.1≤b.length:=by
 have hv:=(cJ (i:=0) (u:=0) hb (by omega) (by omega) (by simp))
 unfold txt
 simp only
 split
 ·simp
 split
 ·simp
 split
 ·simp
 split
 ·simp
 ·have:=hv.2.1 (by omega)
  simp only;omega
theorem C7 {b:List Int} {u f:Int} (hb:∀ x∈b,x6 x) (h0:0≤u) (h1:u≤b.length):u≤(jI b u f).2.1∧(jI b u f).2.1≤b.length:=by
 unfold jI
 split
 ·exact ⟨Int.le_refl _,h1⟩
 ·have:=zDL (most:=40) (nN hb u.toNat)
  rw [List.length_drop] at this
  simp only;omega
theorem zGb {b:List Int} (hb:∀ x∈b,x6 x):∀ (k:Nat) (u f:Int) (row:List (List Int)),0≤u→u≤b.length→u≤(dW b k u f row).1∧(dW b k u f row).1≤b.length:=by
 intro k
 induction k with
 | zero=>intro u f row h0 h1;exact ⟨Int.le_refl _,h1⟩
 | succ k ih =>
  intro u f row h0 h1
  simp only [dW]
  split
  ·exact ⟨Int.le_refl _,h1⟩
  ·have h:=C7 (f:=f) hb h0 h1
   have:=ih (jI b u f).2.1 (jI b u f).2.2 (row++[(jI b u f).1]) (by omega) h.2
   omega
theorem NF {b:List Int} {u f:Int} (hb:∀ x∈b,x6 x) (h0:0≤u) (h1:u≤b.length):u≤(two b u f).2.1∧(two b u f).2.1≤b.length:=by
 have h:=pA (f:=f) hb h0 h1
 have:=pA (u:=(w8 b u f).2.1) (f:=(w8 b u f).2.2) hb (by omega) h.2.2.1
 unfold two;omega
theorem zCU {b:List Int} (hb:∀ x∈b,x6 x):∀ (k:Nat) (u f:Int) (row:List zQ),0≤u→u≤b.length→u≤(cT b k u f row).1∧(cT b k u f row).1≤b.length:=by
 intro k
 induction k with
 | zero=>intro u f row h0 h1;exact ⟨Int.le_refl _,h1⟩
 | succ k ih =>
  intro u f row h0 h1
  simp only [cT]
  split
  ·exact ⟨Int.le_refl _,h1⟩
  ·have h:=NF (f:=f) hb h0 h1
   have:=ih (two b u f).2.1 (two b u f).2.2 (row++[⟨(w8 b u f).1,(two b u f).1⟩]) (by omega) h.2
   omega
theorem JZ {n:List (List Int)} {s:List zQ} {b:List Int} (hb:∀ x∈b,x6 x):0≤(jK n s b).2.1∧(jK n s b).2.1≤b.length:=by
 have h:=VR hb
 unfold jK
 split
 ·simp
 split
 ·simp
 split
 ·simp
 split
 ·simp
 split
 ·simp
 ·exact ⟨by simp only;omega,h.2.2.2.2.2.2⟩
theorem zF9 {n:List (List Int)} {s:List zQ} {b:List Int} (hb:∀ x∈b,x6 x):∀ (k:Nat) (u f:Int) (row:List yW),0≤u→u≤b.length→u≤(bH n s b k u f row).1∧(bH n s b k u f row).1≤b.length∧(bH n s b k u f row).2.2.length≤row.length+k:=by
 intro k
 induction k with
 | zero=>intro u f row h0 h1;exact ⟨Int.le_refl _,h1,by simp [bH]⟩
 | succ k ih =>
  intro u f row h0 h1
  simp only [bH]
  split
  ·exact ⟨Int.le_refl _,h1,by simp only;omega⟩
  ·have h:=JZ (n:=n) (s:=s) (nN hb u.toNat)
   rw [List.length_drop] at h
   have:=ih (u+(jK n s (b.drop u.toNat)).2.1) (jK n s (b.drop u.toNat)).2.2 (row++[(jK n s (b.drop u.toNat)).1]) (by omega) (by omega)
   simp only [List.length_append,List.length_cons,List.length_nil] at this
   omega
theorem NG {b:List Int} (hb:∀ x∈b,x6 x) :
  (0≤(dT b).2.1∧(dT b).2.1≤b.length)∧(0≤(dS b).2.1∧(dS b).2.1≤b.length)∧(0≤(dL b).2.1∧(dL b).2.1≤b.length) ∧
  (0≤(dC1 b).1∧(dC1 b).1≤1000∧0≤(dC1 b).2.1∧(dC1 b).2.1≤b.length)∧(0≤(dN b).1∧(dN b).1≤b.length) ∧
  (0≤(dC2 b).1∧(dC2 b).1≤1000∧0≤(dC2 b).2.1∧(dC2 b).2.1≤b.length)∧(0≤(dSt b).1∧(dSt b).1≤b.length) ∧
  (0≤(dC3 b).1∧(dC3 b).1≤1000∧0≤(dC3 b).2.1∧(dC3 b).2.1≤b.length)∧(0≤(dE b).1∧(dE b).1≤b.length∧(dE b).2.2.length≤1000)∧(dT b).2.1≤(dE b).1:=by
 have h1:0≤(dT b).2.1∧(dT b).2.1≤b.length:=by have:=pA (u:=0) (f:=0) hb (by omega) (by omega);exact ⟨this.2.1,this.2.2.1⟩
 have h2:(dT b).2.1≤(dS b).2.1∧(dS b).2.1≤b.length:=by have:=pA (u:=(dT b).2.1) (f:=(dT b).2.2) hb (by omega) (by omega);exact ⟨this.2.1,this.2.2.1⟩
 have h3:(dS b).2.1≤(dL b).2.1∧(dL b).2.1≤b.length:=by have:=pA (u:=(dS b).2.1) (f:=(dS b).2.2) hb (by omega) (by omega);exact ⟨this.2.1,this.2.2.1⟩
 have h4:0≤(dC1 b).1∧(dC1 b).1≤1000∧(dL b).2.1≤(dC1 b).2.1∧(dC1 b).2.1≤b.length:=by have:=NO (u:=(dL b).2.1) (f:=(dL b).2.2) (most:=1000) hb (by omega) (by omega) (by omega);exact ⟨this.1,this.2.1,this.2.2.1,this.2.2.2.1⟩
 have h5:(dC1 b).2.1≤(dN b).1∧(dN b).1≤b.length:=zGb hb _ _ _ _ (by omega) (by omega)
 have h6:0≤(dC2 b).1∧(dC2 b).1≤1000∧(dN b).1≤(dC2 b).2.1∧(dC2 b).2.1≤b.length:=by have:=NO (u:=(dN b).1) (f:=(dN b).2.1) (most:=1000) hb (by omega) (by omega) (by omega);exact ⟨this.1,this.2.1,this.2.2.1,this.2.2.2.1⟩
 have h7:(dC2 b).2.1≤(dSt b).1∧(dSt b).1≤b.length:=zCU hb _ _ _ _ (by omega) (by omega)
 have h8:0≤(dC3 b).1∧(dC3 b).1≤1000∧(dSt b).1≤(dC3 b).2.1∧(dC3 b).2.1≤b.length:=by have:=NO (u:=(dSt b).1) (f:=dF3 b) (most:=1000) hb (by omega) (by omega) (by omega);exact ⟨this.1,this.2.1,this.2.2.1,this.2.2.2.1⟩
 have h9:(dC3 b).2.1≤(dE b).1∧(dE b).1≤b.length∧(dE b).2.2.length≤([]:List yW).length+(dC3 b).1.toNat:=zF9 hb _ _ _ _ (by omega) (by omega)
 simp only [List.length_nil] at h9
 omega
theorem oZ {b:List Int} {u f:Int} (hb:∀ x∈b,x6 x) (hl:b.length≤100000) (h0:0≤u) (h1:u≤b.length) :
  aG 281474976710656 ⟨b,u,f⟩=some ((w8 b u f).1,⟨b,(w8 b u f).2.1,(w8 b u f).2.2⟩):=by
 unfold aG
 have hr:=pA (f:=f) hb h0 h1
 unfold w8 at *
 by_cases hf:f≠0
 ·rw [wE hf,if_pos hf];rfl
 ·rw [if_neg hf] at hr ⊢
  rw [wF (show f=0 by omega),cond_false,xZ ⟨h0,h1⟩,zbs,fP b h0,m7 (nN hb _) (by rw [List.length_drop];omega) (by rw [List.length_drop];omega),zbs]
  simp only at hr
  show some (_,(⟨b,zG (u+_),_⟩:qA))=_
  rw [w64 (by omega) (by omega)]
theorem Q0 {b:List Int} {u f most:Int} (hb:∀ x∈b,x6 x) (hl:b.length≤100000) (h0:0≤u) (h1:u≤b.length) :
  b8 281474976710656 ⟨b,u,f⟩ most=some ((kI b u f most).1,⟨b,(kI b u f most).2.1,(kI b u f most).2.2⟩):=by
 unfold b8 kI
 rw [oZ hb hl h0 h1,zbs]
 simp only
 by_cases c1:(w8 b u f).2.2≠0
 ·rw [wE c1,if_pos c1];rfl
 rw [wF (by omega),if_neg c1,cond_false]
 by_cases c2:(w8 b u f).1<0
 ·rw [yP c2,if_pos c2];rfl
 rw [yM c2,if_neg c2,cond_false]
 by_cases c3:(w8 b u f).1>most
 ·rw [yP c3,if_pos c3];rfl
 ·rw [yM c3,if_neg c3,cond_false]
theorem zBM {b:List Int} {u f:Int} (hb:∀ x∈b,x6 x) (hl:b.length≤100000) (h0:0≤u) (h1:u≤b.length) :
  EX 281474976710656 ⟨b,u,f⟩=some ((jI b u f).1,⟨b,(jI b u f).2.1,(jI b u f).2.2⟩):=by
 unfold EX
 have hr:=C7 (f:=f) hb h0 h1
 unfold jI at *
 by_cases hf:f≠0
 ·rw [wE hf,if_pos hf];rfl
 ·rw [if_neg hf] at hr ⊢
  rw [wF (show f=0 by omega),cond_false,xZ ⟨h0,h1⟩,zbs,fP b h0,QY (nN hb _) (by rw [List.length_drop];omega) (by rw [List.length_drop];omega),zbs]
  simp only at hr
  show some (_,(⟨b,zG (u+_),_⟩:qA))=_
  rw [w64 (by omega) (by omega)]
theorem aO {p:Prop} [Decidable p] {q:Bool} (h:¬ p∨q=false):(decide p&&q)=false:=by
 rcases h with h | h
 ·rw [yM h];rfl
 ·rw [h,Bool.and_false]
theorem zCr {b:List Int} (hb:∀ x∈b,x6 x) (hl:b.length≤100000):∀ (k m:Nat) (u f:Int) (row:List (List Int)),k<m→0≤u→u≤b.length→row.length+k≤1000 →
  BB 281474976710656 m (k:Int) b u f row=some (b,dW b k u f row):=by
 intro k
 induction k with
 | zero =>
  intro m u f row hm h0 h1 hr
  obtain ⟨g,rfl⟩:∃ g,m=g+1:=⟨m - 1,by omega⟩
  show mU _ _ _ _ _ _ _=_
  unfold mU
  rw [aO (.inl (by omega))];rfl
 | succ k ih =>
  intro m u f row hm h0 h1 hr
  obtain ⟨g,rfl⟩:∃ g,m=g+1:=⟨m - 1,by omega⟩
  show mU _ _ _ _ _ _ _=_
  unfold mU
  simp only [dW]
  by_cases hf:f≠0
  ·rw [aO (.inr (uH hf)),if_pos hf];rfl
  have ht:=C7 (f:=f) hb h0 h1
  rw [yP (by omega),uF (by omega),if_neg hf,Bool.and_self,cond_true,zBM hb hl h0 h1,zbs,xZ (by simp;omega),zbs,w64 (by omega) (by omega),show (((k+1:Nat):Int) - 1)=(k:Int) by omega]
  exact ih g (jI b u f).2.1 (jI b u f).2.2 (row++[(jI b u f).1]) (by omega) (by omega) (by omega) (by simp;omega)
theorem zAX {b:List Int} (hb:∀ x∈b,x6 x) (hl:b.length≤100000):∀ (k m:Nat) (u f:Int) (row:List zQ),k<m→0≤u→u≤b.length→row.length+k≤1000 →
  r7 281474976710656 m (k:Int) b u f row=some (b,cT b k u f row):=by
 intro k
 induction k with
 | zero =>
  intro m u f row hm h0 h1 hr
  obtain ⟨g,rfl⟩:∃ g,m=g+1:=⟨m - 1,by omega⟩
  show gZ _ _ _ _ _ _ _=_
  unfold gZ
  rw [aO (.inl (by omega))];rfl
 | succ k ih =>
  intro m u f row hm h0 h1 hr
  obtain ⟨g,rfl⟩:∃ g,m=g+1:=⟨m - 1,by omega⟩
  show gZ _ _ _ _ _ _ _=_
  unfold gZ
  simp only [cT]
  by_cases hf:f≠0
  ·rw [aO (.inr (uH hf)),if_pos hf];rfl
  have ht:=NF (f:=f) hb h0 h1
  have hn:=pA (f:=f) hb h0 h1
  rw [yP (by omega),uF (by omega),if_neg hf,Bool.and_self,cond_true,oZ hb hl h0 h1,zbs]
  simp only
  rw [oZ hb hl (by omega) hn.2.2.1,zbs,xZ (by simp;omega),zbs,w64 (by omega) (by omega),show (((k+1:Nat):Int) - 1)=(k:Int) by omega]
  exact ih g (two b u f).2.1 (two b u f).2.2 (row++[⟨(w8 b u f).1,(two b u f).1⟩]) (by omega) (by omega) (by omega) (by simp;omega)
theorem zEj {b:List Int} {o1:(List Int)×Int×Int×(List (List Int))} {o2:(List Int)×Int×Int×(List zQ)} (hb:∀ x∈b,x6 x) (hl:b.length≤100000):∀ (k m:Nat) (u f:Int) (row:List yW),k<m→0≤u→u≤b.length→row.length+k≤1000 →
  AQ 281474976710656 b o1 o2 m (k:Int) u f row=some (bH o1.2.2.2 o2.2.2.2 b k u f row):=by
 intro k
 induction k with
 | zero =>
  intro m u f row hm h0 h1 hr
  obtain ⟨g,rfl⟩:∃ g,m=g+1:=⟨m - 1,by omega⟩
  show g7 _ _ _ _ _ _ _ _ _=_
  unfold g7
  rw [aO (.inl (by omega))];rfl
 | succ k ih =>
  intro m u f row hm h0 h1 hr
  obtain ⟨g,rfl⟩:∃ g,m=g+1:=⟨m - 1,by omega⟩
  show g7 _ _ _ _ _ _ _ _ _=_
  unfold g7
  simp only [bH]
  by_cases hf:f≠0
  ·rw [aO (.inr (uH hf)),if_pos hf];rfl
  have h:=JZ (n:=o1.2.2.2) (s:=o2.2.2.2) (nN hb u.toNat)
  rw [List.length_drop] at h
  rw [yP (by omega),uF (by omega),if_neg hf,Bool.and_self,cond_true,xZ ⟨h0,h1⟩,zbs,fP b h0,zFH (nN hb _) (by rw [List.length_drop];omega),zbs,xZ (by simp;omega),zbs,w64 (x:=((k+1:Nat):Int) - 1) (by omega) (by omega),show (((k+1:Nat):Int) - 1)=(k:Int) by omega,w64 (by omega) (by omega)]
  exact ih g (u+(jK o1.2.2.2 o2.2.2.2 (b.drop u.toNat)).2.1) (jK o1.2.2.2 o2.2.2.2 (b.drop u.toNat)).2.2 (row++[(jK o1.2.2.2 o2.2.2.2 (b.drop u.toNat)).1]) (by omega) (by omega) (by omega) (by simp;omega)
theorem zFg {b:List Int} (hb:∀ x∈b,x6 x) (hl:b.length≤100000):CX 281474976710656 b=some (uX b):=by
 unfold CX
 obtain ⟨⟨a1,a2⟩,⟨b1,b2⟩,⟨c1,c2⟩,⟨d1,d2,d3,d4⟩,⟨e1,e2⟩,⟨f1,f2,f3,f4⟩,⟨g1,g2⟩,⟨i1,i2,i3,i4⟩,⟨j1,j2,j3⟩,_⟩:=NG hb
 rw [oZ hb hl (by omega) (by omega),zbs]
 show (aG 281474976710656 ⟨b,(dT b).2.1,(dT b).2.2⟩).bind _=_
 rw [oZ hb hl a1 a2,zbs]
 show (aG 281474976710656 ⟨b,(dS b).2.1,(dS b).2.2⟩).bind _=_
 rw [oZ hb hl b1 b2,zbs]
 show (b8 281474976710656 ⟨b,(dL b).2.1,(dL b).2.2⟩ 1000).bind _=_
 rw [Q0 hb hl c1 c2,zbs]
 show (BB 281474976710656 281474976710656 (dC1 b).1 b (dC1 b).2.1 (dC1 b).2.2 []).bind _=_
 have q1:=zCr hb hl (dC1 b).1.toNat 281474976710656 (dC1 b).2.1 (dC1 b).2.2 [] (by omega) d3 d4 (by simp;omega)
 rw [Int.toNat_of_nonneg d1] at q1
 rw [q1,zbs]
 show (b8 281474976710656 ⟨b,(dN b).1,(dN b).2.1⟩ 1000).bind _=_
 rw [Q0 hb hl e1 e2,zbs]
 show (r7 281474976710656 281474976710656 (dC2 b).1 b (dC2 b).2.1 (dC2 b).2.2 []).bind _=_
 have q2:=zAX hb hl (dC2 b).1.toNat 281474976710656 (dC2 b).2.1 (dC2 b).2.2 [] (by omega) f3 f4 (by simp;omega)
 rw [Int.toNat_of_nonneg f1] at q2
 rw [q2,zbs]
 have h3:(bif ((dSt b).2.1==(0:Int)) then (dF 281474976710656 (dN b).2.2 (dSt b).2.2).bind (fun r_9=>some r_9) else some (dSt b).2.1)=some (dF3 b):=by
  unfold dF3
  by_cases h:(dSt b).2.1=0
  ·rw [uF h,if_pos h,cond_true,L3];rfl
  ·rw [uH h,if_neg h];rfl
 refine (congrArg (fun o=>Option.bind o _) h3).trans ?_
 rw [zbs]
 show (b8 281474976710656 ⟨b,(dSt b).1,dF3 b⟩ 1000).bind _=_
 rw [Q0 hb hl g1 g2,zbs]
 show (AQ 281474976710656 b (b,dN b) (b,dSt b) 281474976710656 (dC3 b).1 (dC3 b).2.1 (dC3 b).2.2 []).bind _=_
 have q3:=zEj (o1:=(b,dN b)) (o2:=(b,dSt b)) hb hl (dC3 b).1.toNat 281474976710656 (dC3 b).2.1 (dC3 b).2.2 [] (by omega) i3 i4 (by simp;omega)
 rw [Int.toNat_of_nonneg i1] at q3
 rw [q3,zbs]
 have hev:(dP b).Events.length≤100000:=by show (dE b).2.2.length≤_;omega
 have h5:(bif ((dE b).2.1==(0:Int)) then (fO 281474976710656 (dP b)).bind (fun nA=>some nA) else some (dE b).2.1)=some (dF5 b):=by
  unfold dF5
  by_cases h:(dE b).2.1=0
  ·rw [uF h,if_pos h,cond_true,S1 hev];rfl
  ·rw [uH h,if_neg h];rfl
 refine (congrArg (fun o=>Option.bind o _) h5).trans ?_
 rw [zbs]
 unfold uX
 by_cases h6:dF5 b≠0
 ·rw [wE h6,if_pos h6];rfl
 rw [wF (by omega),if_neg h6,cond_false]
 show ((gE 281474976710656 (dP b)).bind _)=_
 rw [zFU hev,zbs]
 by_cases h7:(q8 (dP b)).2≠0
 ·rw [wE h7,if_pos (.inl h7)];rfl
 rw [wF (by omega),cond_false]
 show (((need (0≤(dE b).1∧(dE b).1≤b.length)).bind fun _=>(dD (q8 (dP b)).1 (sub b 0 (dE b).1)).bind _).bind _)=_
 rw [xZ ⟨j1,j2⟩,zbs,SH j1]
 unfold dD
 rw [zbs,zbs]
 by_cases h8:(q8 (dP b)).1=b.take (dE b).1.toNat
 ·rw [gH h8,if_neg (fun h=>h.elim h7 (fun g=>g h8))];rfl
 ·rw [B7 h8,if_pos (.inr h8)];rfl
end Go.Ab
