/- Plain laws of the functions uS this seat's, laid anew from another seat's text. No conditions but those that the theorems name. -/
import Derived.Test.YtoeengmnmhhpgaaGreatP15zxD
import Derived.Test.YtoeengmnmhhpgaaGreatB15za
import Derived.Test.YtoeengmnmhhpgaaGreatB15zb
import Derived.Test.YtoeengmnmhhpgaaGreatB15zc
import Derived.Test.YtoeengmnmhhpgaaGreatB15zd
import Derived.Test.YtoeengmnmhhpgaaGreatB15ze
import Derived.Test.YtoeengmnmhhpgaaGreatB15zf
import Derived.Test.YtoeengmnmhhpgaaGreatB15zg
import Derived.Test.YtoeengmnmhhpgaaGreatB15zh
namespace Go.Ab
open Go
set_option linter.unusedVariables false
def pB (b:List Int) (u f most:Int):Int×Int×Int :=
 if (vI b u f).2.2≠0 then (0,(vI b u f).2.1,(vI b u f).2.2) else if (vI b u f).1<0 then (0,(vI b u f).2.1,10) else if (vI b u f).1>most then (0,(vI b u f).2.1,7) else vI b u f
def jY (b:List Int) (u f:Int):List Int×Int×Int:=if f≠0 then ([],u,f) else ((txt (b.drop u.toNat) 40).1,u+(txt (b.drop u.toNat) 40).2.1,(txt (b.drop u.toNat) 40).2.2)
def fD (b:List Int):Nat->Int->Int->List (List Int)->Int×Int×List (List Int)
 | 0,u,f,row=>(u,f,row)
 | k+1,u,f,row=>if f≠0 then (u,f,row) else fD b k (jY b u f).2.1 (jY b u f).2.2 (row++[(jY b u f).1])
def two (b:List Int) (u f:Int):Int×Int×Int:=vI b (vI b u f).2.1 (vI b u f).2.2
def fH (b:List Int):Nat->Int->Int->List zV->Int×Int×List zV
 | 0,u,f,row=>(u,f,row)
 | k+1,u,f,row=>if f≠0 then (u,f,row) else fH b k (two b u f).2.1 (two b u f).2.2 (row++[⟨(vI b u f).1,(two b u f).1⟩])
def bU (n:List (List Int)) (s:List zV) (b:List Int):Nat->Int->Int->List xD->Int×Int×List xD
 | 0,u,f,row=>(u,f,row)
 | k+1,u,f,row=>if f≠0 then (u,f,row) else bU n s b k (u+(kB n s (b.drop u.toNat)).2.1) (kB n s (b.drop u.toNat)).2.2 (row++[(kB n s (b.drop u.toNat)).1])
def dT (b:List Int):=vI b 0 0
def dS (b:List Int):=vI b (dT b).2.1 (dT b).2.2
def dL (b:List Int):=vI b (dS b).2.1 (dS b).2.2
def dC1 (b:List Int):=pB b (dL b).2.1 (dL b).2.2 1000
def dN (b:List Int):=fD b (dC1 b).1.toNat (dC1 b).2.1 (dC1 b).2.2 []
def dC2 (b:List Int):=pB b (dN b).1 (dN b).2.1 1000
def dSt (b:List Int):=fH b (dC2 b).1.toNat (dC2 b).2.1 (dC2 b).2.2 []
def dF3 (b:List Int):Int:=if (dSt b).2.1=0 then kU (dN b).2.2 (dSt b).2.2 else (dSt b).2.1
def dC3 (b:List Int):=pB b (dSt b).1 (dF3 b) 1000
def dE (b:List Int):=bU (dN b).2.2 (dSt b).2.2 b (dC3 b).1.toNat (dC3 b).2.1 (dC3 b).2.2 []
def dP (b:List Int):z7:=⟨(dT b).1,(dS b).1,(dL b).1,(dE b).2.2⟩
def dF5 (b:List Int):Int:=if (dE b).2.1=0 then t8 (dP b) else (dE b).2.1
def tB (b:List Int):z7×Int×Int :=
 if dF5 b≠0 then (pk0,0,dF5 b) else if (tX (dP b)).2≠0\/(tX (dP b)).1≠b.take (dE b).1.toNat then (pk0,0,10) else (dP b,(dE b).1,0)
theorem U1 {b:List Int} {u f most:Int} (hb:∀ x∈b,xY x) (h0:0<=u) (h1:u<=b.length) (hm:0<=most):0<=(pB b u f most).1/\(pB b u f most).1<=most/\u<=(pB b u f most).2.1/\(pB b u f most).2.1<=b.length/\((pB b u f most).2.2=0->f=0):=by
 have h:=pP (f:=f) hb h0 h1;unfold pB
 split
 ·exact ⟨by simp,hm,h.2.1,h.2.2.1,fun e=>absurd e (by assumption)⟩
 split
 ·exact ⟨by simp,hm,h.2.1,h.2.2.1,fun e=>by simp at e⟩
 split
 ·exact ⟨by simp,hm,h.2.1,h.2.2.1,fun e=>by simp at e⟩
 ·exact ⟨by omega,by omega,h.2.1,h.2.2.1,fun e=>(h.2.2.2 e).1⟩
theorem zBM {b:List Int} {most:Int} (hb:∀ x∈b,xY x):0<=(txt b most).2.1/\(txt b most).2.1<=b.length:=by
 have hv:=(cJ (i:=0) (u:=0) hb (by omega) (by omega) (by simp));unfold txt;simp only
 split
 ·simp
 split
 ·simp
 split
 ·simp
 split
 ·simp
 ·have:=hv.2.1 (by omega)
  simp only;omega
theorem HW {b:List Int} {u f:Int} (hb:∀ x∈b,xY x) (h0:0<=u) (h1:u<=b.length):u<=(jY b u f).2.1/\(jY b u f).2.1<=b.length:=by
 unfold jY
 split
 ·exact ⟨Int.le_refl _,h1⟩
 ·have:=zBM (most:=40) (n9 hb u.toNat)
  rw [List.length_drop] at this;simp only;omega
theorem zIM {b:List Int} (hb:∀ x∈b,xY x):∀ (k:Nat) (u f:Int) (row:List (List Int)),0<=u->u<=b.length->u<=(fD b k u f row).1/\(fD b k u f row).1<=b.length:=by
 intro k
 induction k with
 | zero=>intro u f row h0 h1;exact ⟨Int.le_refl _,h1⟩
 | succ k ih =>
  intro u f row h0 h1;simp only [fD]
  split
  ·exact ⟨Int.le_refl _,h1⟩
  ·have h:=HW (f:=f) hb h0 h1
   have:=ih (jY b u f).2.1 (jY b u f).2.2 (row++[(jY b u f).1]) (by omega) h.2
   omega
theorem QY {b:List Int} {u f:Int} (hb:∀ x∈b,xY x) (h0:0<=u) (h1:u<=b.length):u<=(two b u f).2.1/\(two b u f).2.1<=b.length:=by
 have h:=pP (f:=f) hb h0 h1
 have:=pP (u:=(vI b u f).2.1) (f:=(vI b u f).2.2) hb (by omega) h.2.2.1
 unfold two;omega
theorem zCJ {b:List Int} (hb:∀ x∈b,xY x):∀ (k:Nat) (u f:Int) (row:List zV),0<=u->u<=b.length->u<=(fH b k u f row).1/\(fH b k u f row).1<=b.length:=by
 intro k
 induction k with
 | zero=>intro u f row h0 h1;exact ⟨Int.le_refl _,h1⟩
 | succ k ih =>
  intro u f row h0 h1;simp only [fH]
  split
  ·exact ⟨Int.le_refl _,h1⟩
  ·have h:=QY (f:=f) hb h0 h1
   have:=ih (two b u f).2.1 (two b u f).2.2 (row++[⟨(vI b u f).1,(two b u f).1⟩]) (by omega) h.2
   omega
theorem NS {n:List (List Int)} {s:List zV} {b:List Int} (hb:∀ x∈b,xY x):0<=(kB n s b).2.1/\(kB n s b).2.1<=b.length:=by
 have h:=YK hb;unfold kB
 split
 ·simp
 split
 ·simp
 split
 ·simp
 split
 ·simp
 split
 ·simp
 ·exact ⟨by simp only;omega,h.2.2.2.2.2.2⟩
theorem zHy {n:List (List Int)} {s:List zV} {b:List Int} (hb:∀ x∈b,xY x):∀ (k:Nat) (u f:Int) (row:List xD),0<=u->u<=b.length->u<=(bU n s b k u f row).1/\(bU n s b k u f row).1<=b.length/\(bU n s b k u f row).2.2.length<=row.length+k:=by
 intro k
 induction k with
 | zero=>intro u f row h0 h1;exact ⟨Int.le_refl _,h1,by simp [bU]⟩
 | succ k ih =>
  intro u f row h0 h1;simp only [bU]
  split
  ·exact ⟨Int.le_refl _,h1,by simp only;omega⟩
  ·have h:=NS (n:=n) (s:=s) (n9 hb u.toNat);rw [List.length_drop] at h
   have:=ih (u+(kB n s (b.drop u.toNat)).2.1) (kB n s (b.drop u.toNat)).2.2 (row++[(kB n s (b.drop u.toNat)).1]) (by omega) (by omega)
   simp only [zla,zlc,List.length_nil] at this;omega
theorem Q9 {b:List Int} (hb:∀ x∈b,xY x) :
  (0<=(dT b).2.1/\(dT b).2.1<=b.length)/\(0<=(dS b).2.1/\(dS b).2.1<=b.length)/\(0<=(dL b).2.1/\(dL b).2.1<=b.length) /\
  (0<=(dC1 b).1/\(dC1 b).1<=1000/\0<=(dC1 b).2.1/\(dC1 b).2.1<=b.length)/\(0<=(dN b).1/\(dN b).1<=b.length) /\
  (0<=(dC2 b).1/\(dC2 b).1<=1000/\0<=(dC2 b).2.1/\(dC2 b).2.1<=b.length)/\(0<=(dSt b).1/\(dSt b).1<=b.length) /\
  (0<=(dC3 b).1/\(dC3 b).1<=1000/\0<=(dC3 b).2.1/\(dC3 b).2.1<=b.length)/\(0<=(dE b).1/\(dE b).1<=b.length/\(dE b).2.2.length<=1000)/\(dT b).2.1<=(dE b).1:=by
 have h1:0<=(dT b).2.1/\(dT b).2.1<=b.length:=by have:=pP (u:=0) (f:=0) hb (by omega) (by omega);exact ⟨this.2.1,this.2.2.1⟩
 have h2:(dT b).2.1<=(dS b).2.1/\(dS b).2.1<=b.length:=by have:=pP (u:=(dT b).2.1) (f:=(dT b).2.2) hb (by omega) (by omega);exact ⟨this.2.1,this.2.2.1⟩
 have h3:(dS b).2.1<=(dL b).2.1/\(dL b).2.1<=b.length:=by have:=pP (u:=(dS b).2.1) (f:=(dS b).2.2) hb (by omega) (by omega);exact ⟨this.2.1,this.2.2.1⟩
 have h4:0<=(dC1 b).1/\(dC1 b).1<=1000/\(dL b).2.1<=(dC1 b).2.1/\(dC1 b).2.1<=b.length:=by have:=U1 (u:=(dL b).2.1) (f:=(dL b).2.2) (most:=1000) hb (by omega) (by omega) (by omega);exact ⟨this.1,this.2.1,this.2.2.1,this.2.2.2.1⟩
 have h5:(dC1 b).2.1<=(dN b).1/\(dN b).1<=b.length:=zIM hb _ _ _ _ (by omega) (by omega);have h6:0<=(dC2 b).1/\(dC2 b).1<=1000/\(dN b).1<=(dC2 b).2.1/\(dC2 b).2.1<=b.length:=by have:=U1 (u:=(dN b).1) (f:=(dN b).2.1) (most:=1000) hb (by omega) (by omega) (by omega);exact ⟨this.1,this.2.1,this.2.2.1,this.2.2.2.1⟩
 have h7:(dC2 b).2.1<=(dSt b).1/\(dSt b).1<=b.length:=zCJ hb _ _ _ _ (by omega) (by omega);have h8:0<=(dC3 b).1/\(dC3 b).1<=1000/\(dSt b).1<=(dC3 b).2.1/\(dC3 b).2.1<=b.length:=by have:=U1 (u:=(dSt b).1) (f:=dF3 b) (most:=1000) hb (by omega) (by omega) (by omega);exact ⟨this.1,this.2.1,this.2.2.1,this.2.2.2.1⟩
 have h9:(dC3 b).2.1<=(dE b).1/\(dE b).1<=b.length/\(dE b).2.2.length<=([]:List xD).length+(dC3 b).1.toNat:=zHy hb _ _ _ _ (by omega) (by omega);simp only [List.length_nil] at h9;omega
theorem AU {b:List Int} {u f:Int} (hb:∀ x∈b,xY x) (hl:b.length<=100000) (h0:0<=u) (h1:u<=b.length) :
  bD 281474976710656 ⟨b,u,f⟩=some ((vI b u f).1,⟨b,(vI b u f).2.1,(vI b u f).2.2⟩):=by
 unfold bD;have hr:=pP (f:=f) hb h0 h1;unfold vI at *
 by_cases hf:f≠0
 ·rw [xX hf,if_pos hf];rfl
 ·rw [if_neg hf] at hr ⊢;rw [x7 (show f=0 by omega),cond_false,xQ ⟨h0,h1⟩,zbs,gR b h0,oO (n9 hb _) (by rw [List.length_drop];omega) (by rw [List.length_drop];omega),zbs];simp only at hr;show some (_,(⟨b,zI (u+_),_⟩:qQ))=_;rw [w64 (by omega) (by omega)]
theorem UC {b:List Int} {u f most:Int} (hb:∀ x∈b,xY x) (hl:b.length<=100000) (h0:0<=u) (h1:u<=b.length) :
  cW 281474976710656 ⟨b,u,f⟩ most=some ((pB b u f most).1,⟨b,(pB b u f most).2.1,(pB b u f most).2.2⟩):=by
 unfold cW pB;rw [AU hb hl h0 h1,zbs];simp only
 by_cases c1:(vI b u f).2.2≠0
 ·rw [xX c1,if_pos c1];rfl
 rw [x7 (by omega),if_neg c1,cond_false]
 by_cases c2:(vI b u f).1<0
 ·rw [yN c2,if_pos c2];rfl
 rw [yP c2,if_neg c2,cond_false]
 by_cases c3:(vI b u f).1>most
 ·rw [yN c3,if_pos c3];rfl
 ·rw [yP c3,if_neg c3,cond_false]
theorem zG9 {b:List Int} {u f:Int} (hb:∀ x∈b,xY x) (hl:b.length<=100000) (h0:0<=u) (h1:u<=b.length) :
  KV 281474976710656 ⟨b,u,f⟩=some ((jY b u f).1,⟨b,(jY b u f).2.1,(jY b u f).2.2⟩):=by
 unfold KV;have hr:=HW (f:=f) hb h0 h1;unfold jY at *
 by_cases hf:f≠0
 ·rw [xX hf,if_pos hf];rfl
 ·rw [if_neg hf] at hr ⊢;rw [x7 (show f=0 by omega),cond_false,xQ ⟨h0,h1⟩,zbs,gR b h0,S7 (n9 hb _) (by rw [List.length_drop];omega) (by rw [List.length_drop];omega),zbs];simp only at hr;show some (_,(⟨b,zI (u+_),_⟩:qQ))=_;rw [w64 (by omega) (by omega)]
theorem bB {p:Prop} [Decidable p] {q:Bool} (h:¬ p\/q=false):(decide p&&q)=false:=by
 rcases h with h | h
 ·rw [yP h];rfl
 ·rw [h,Bool.and_false]
theorem zHZ {b:List Int} (hb:∀ x∈b,xY x) (hl:b.length<=100000):∀ (k m:Nat) (u f:Int) (row:List (List Int)),k<m->0<=u->u<=b.length->row.length+k<=1000 ->
  BP 281474976710656 m (k:Int) b u f row=some (b,fD b k u f row):=by
 intro k
 induction k with
 | zero =>
  intro m u f row hm h0 h1 hr;obtain ⟨g,rfl⟩:∃ g,m=g+1:=⟨m - 1,by omega⟩;show mQ _ _ _ _ _ _ _=_;unfold mQ;rw [bB (.inl (by omega))];rfl
 | succ k ih =>
  intro m u f row hm h0 h1 hr;obtain ⟨g,rfl⟩:∃ g,m=g+1:=⟨m - 1,by omega⟩;show mQ _ _ _ _ _ _ _=_;unfold mQ;simp only [fD]
  by_cases hf:f≠0
  ·rw [bB (.inr (uK hf)),if_pos hf];rfl
  have ht:=HW (f:=f) hb h0 h1;rw [yN (by omega),u9 (by omega),if_neg hf,Bool.and_self,cond_true,zG9 hb hl h0 h1,zbs,xQ (by simp;omega),zbs,w64 (by omega) (by omega),show (((k+1:Nat):Int) - 1)=(k:Int) by omega];exact ih g (jY b u f).2.1 (jY b u f).2.2 (row++[(jY b u f).1]) (by omega) (by omega) (by omega) (by simp;omega)
theorem zCl {b:List Int} (hb:∀ x∈b,xY x) (hl:b.length<=100000):∀ (k m:Nat) (u f:Int) (row:List zV),k<m->0<=u->u<=b.length->row.length+k<=1000 ->
  BM 281474976710656 m (k:Int) b u f row=some (b,fH b k u f row):=by
 intro k
 induction k with
 | zero =>
  intro m u f row hm h0 h1 hr;obtain ⟨g,rfl⟩:∃ g,m=g+1:=⟨m - 1,by omega⟩;show mB _ _ _ _ _ _ _=_;unfold mB;rw [bB (.inl (by omega))];rfl
 | succ k ih =>
  intro m u f row hm h0 h1 hr;obtain ⟨g,rfl⟩:∃ g,m=g+1:=⟨m - 1,by omega⟩;show mB _ _ _ _ _ _ _=_;unfold mB;simp only [fH]
  by_cases hf:f≠0
  ·rw [bB (.inr (uK hf)),if_pos hf];rfl
  have ht:=QY (f:=f) hb h0 h1;have hn:=pP (f:=f) hb h0 h1;rw [yN (by omega),u9 (by omega),if_neg hf,Bool.and_self,cond_true,AU hb hl h0 h1,zbs];simp only;rw [AU hb hl (by omega) hn.2.2.1,zbs,xQ (by simp;omega),zbs,w64 (by omega) (by omega),show (((k+1:Nat):Int) - 1)=(k:Int) by omega];exact ih g (two b u f).2.1 (two b u f).2.2 (row++[⟨(vI b u f).1,(two b u f).1⟩]) (by omega) (by omega) (by omega) (by simp;omega)
theorem zGX {b:List Int} {o1:(List Int)×Int×Int×(List (List Int))} {o2:(List Int)×Int×Int×(List zV)} (hb:∀ x∈b,xY x) (hl:b.length<=100000):∀ (k m:Nat) (u f:Int) (row:List xD),k<m->0<=u->u<=b.length->row.length+k<=1000 ->
  BC 281474976710656 b o1 o2 m (k:Int) u f row=some (bU o1.2.2.2 o2.2.2.2 b k u f row):=by
 intro k
 induction k with
 | zero =>
  intro m u f row hm h0 h1 hr;obtain ⟨g,rfl⟩:∃ g,m=g+1:=⟨m - 1,by omega⟩;show m9 _ _ _ _ _ _ _ _ _=_;unfold m9;rw [bB (.inl (by omega))];rfl
 | succ k ih =>
  intro m u f row hm h0 h1 hr;obtain ⟨g,rfl⟩:∃ g,m=g+1:=⟨m - 1,by omega⟩;show m9 _ _ _ _ _ _ _ _ _=_;unfold m9;simp only [bU]
  by_cases hf:f≠0
  ·rw [bB (.inr (uK hf)),if_pos hf];rfl
  have h:=NS (n:=o1.2.2.2) (s:=o2.2.2.2) (n9 hb u.toNat);rw [List.length_drop] at h;rw [yN (by omega),u9 (by omega),if_neg hf,Bool.and_self,cond_true,xQ ⟨h0,h1⟩,zbs,gR b h0,zDJ (n9 hb _) (by rw [List.length_drop];omega),zbs,xQ (by simp;omega),zbs,w64 (x:=((k+1:Nat):Int) - 1) (by omega) (by omega),show (((k+1:Nat):Int) - 1)=(k:Int) by omega,w64 (by omega) (by omega)];exact ih g (u+(kB o1.2.2.2 o2.2.2.2 (b.drop u.toNat)).2.1) (kB o1.2.2.2 o2.2.2.2 (b.drop u.toNat)).2.2 (row++[(kB o1.2.2.2 o2.2.2.2 (b.drop u.toNat)).1]) (by omega) (by omega) (by omega) (by simp;omega)
theorem zIG {b:List Int} (hb:∀ x∈b,xY x) (hl:b.length<=100000):E9 281474976710656 b=some (tB b):=by
 unfold E9;obtain ⟨⟨a1,a2⟩,⟨b1,b2⟩,⟨c1,c2⟩,⟨d1,d2,d3,d4⟩,⟨e1,e2⟩,⟨f1,f2,f3,f4⟩,⟨g1,g2⟩,⟨i1,i2,i3,i4⟩,⟨j1,j2,j3⟩,_⟩:=Q9 hb;rw [AU hb hl (by omega) (by omega),zbs];show (bD 281474976710656 ⟨b,(dT b).2.1,(dT b).2.2⟩).bind _=_;rw [AU hb hl a1 a2,zbs];show (bD 281474976710656 ⟨b,(dS b).2.1,(dS b).2.2⟩).bind _=_;rw [AU hb hl b1 b2,zbs];show (cW 281474976710656 ⟨b,(dL b).2.1,(dL b).2.2⟩ 1000).bind _=_;rw [UC hb hl c1 c2,zbs];show (BP 281474976710656 281474976710656 (dC1 b).1 b (dC1 b).2.1 (dC1 b).2.2 []).bind _=_;have q1:=zHZ hb hl (dC1 b).1.toNat 281474976710656 (dC1 b).2.1 (dC1 b).2.2 [] (by omega) d3 d4 (by simp;omega);rw [Int.toNat_of_nonneg d1] at q1;rw [q1,zbs];show (cW 281474976710656 ⟨b,(dN b).1,(dN b).2.1⟩ 1000).bind _=_;rw [UC hb hl e1 e2,zbs];show (BM 281474976710656 281474976710656 (dC2 b).1 b (dC2 b).2.1 (dC2 b).2.2 []).bind _=_;have q2:=zCl hb hl (dC2 b).1.toNat 281474976710656 (dC2 b).2.1 (dC2 b).2.2 [] (by omega) f3 f4 (by simp;omega);rw [Int.toNat_of_nonneg f1] at q2;rw [q2,zbs];have h3:(bif ((dSt b).2.1==(0:Int)) then (fE 281474976710656 (dN b).2.2 (dSt b).2.2).bind (fun r_9=>some r_9) else some (dSt b).2.1)=some (dF3 b):=by
  unfold dF3
  by_cases h:(dSt b).2.1=0
  ·rw [u9 h,if_pos h,cond_true,L5];rfl
  ·rw [uK h,if_neg h];rfl
 refine (congrArg (fun o=>Option.bind o _) h3).trans ?_;rw [zbs];show (cW 281474976710656 ⟨b,(dSt b).1,dF3 b⟩ 1000).bind _=_;rw [UC hb hl g1 g2,zbs];show (BC 281474976710656 b (b,dN b) (b,dSt b) 281474976710656 (dC3 b).1 (dC3 b).2.1 (dC3 b).2.2 []).bind _=_;have q3:=zGX (o1:=(b,dN b)) (o2:=(b,dSt b)) hb hl (dC3 b).1.toNat 281474976710656 (dC3 b).2.1 (dC3 b).2.2 [] (by omega) i3 i4 (by simp;omega);rw [Int.toNat_of_nonneg i1] at q3;rw [q3,zbs];have hev:(dP b).Events.length<=100000:=by show (dE b).2.2.length<=_;omega
 have h5:(bif ((dE b).2.1==(0:Int)) then (gE 281474976710656 (dP b)).bind (fun vT=>some vT) else some (dE b).2.1)=some (dF5 b):=by
  unfold dF5
  by_cases h:(dE b).2.1=0
  ·rw [u9 h,if_pos h,cond_true,SG hev];rfl
  ·rw [uK h,if_neg h];rfl
 refine (congrArg (fun o=>Option.bind o _) h5).trans ?_;rw [zbs];unfold tB
 by_cases h6:dF5 b≠0
 ·rw [xX h6,if_pos h6];rfl
 rw [x7 (by omega),if_neg h6,cond_false];show ((iV 281474976710656 (dP b)).bind _)=_;rw [RO hev,zbs]
 by_cases h7:(tX (dP b)).2≠0
 ·rw [xX h7,if_pos (.inl h7)];rfl
 rw [x7 (by omega),cond_false];show (((need (0<=(dE b).1/\(dE b).1<=b.length)).bind fun _=>(dW (tX (dP b)).1 (sub b 0 (dE b).1)).bind _).bind _)=_;rw [xQ ⟨j1,j2⟩,zbs,oP j1];unfold dW;rw [zbs,zbs]
 by_cases h8:(tX (dP b)).1=b.take (dE b).1.toNat
 ·rw [OE h8,if_neg (fun h=>h.elim h7 (fun g=>g h8))];rfl
 ·rw [NY h8,if_pos (.inr h8)];rfl
end Go.Ab
