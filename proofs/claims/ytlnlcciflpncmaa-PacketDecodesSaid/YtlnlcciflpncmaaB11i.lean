/- Plain laws of the functions uE this seat's, laid anew from another seat's text. No conditions but those that the theorems name. -/
import Derived.Test.YtlnlcciflpncmaaP11xD
import Derived.Test.YtlnlcciflpncmaaB11a
import Derived.Test.YtlnlcciflpncmaaB11b
import Derived.Test.YtlnlcciflpncmaaB11c
import Derived.Test.YtlnlcciflpncmaaB11d
import Derived.Test.YtlnlcciflpncmaaB11e
import Derived.Test.YtlnlcciflpncmaaB11f
import Derived.Test.YtlnlcciflpncmaaB11g
import Derived.Test.YtlnlcciflpncmaaB11h
namespace Go.Ab
open Go
set_option linter.unusedVariables false
def pJ (b:List Int) (u f most:Int):Int×Int×Int :=
 if (y9 b u f).2.2≠0 then (0,(y9 b u f).2.1,(y9 b u f).2.2) else if (y9 b u f).1<0 then (0,(y9 b u f).2.1,10) else if (y9 b u f).1>most then (0,(y9 b u f).2.1,7) else y9 b u f
def jU (b:List Int) (u f:Int):List Int×Int×Int:=if f≠0 then ([],u,f) else ((txt (b.drop u.toNat) 40).1,u+(txt (b.drop u.toNat) 40).2.1,(txt (b.drop u.toNat) 40).2.2)
def zAY (b:List Int):Nat→Int→Int→List (List Int)→Int×Int×List (List Int)
 | 0,u,f,row=>(u,f,row)
 | k+1,u,f,row=>if f≠0 then (u,f,row) else zAY b k (jU b u f).2.1 (jU b u f).2.2 (row++[(jU b u f).1])
def two (b:List Int) (u f:Int):Int×Int×Int:=y9 b (y9 b u f).2.1 (y9 b u f).2.2
def zAm (b:List Int):Nat→Int→Int→List zE→Int×Int×List zE
 | 0,u,f,row=>(u,f,row)
 | k+1,u,f,row=>if f≠0 then (u,f,row) else zAm b k (two b u f).2.1 (two b u f).2.2 (row++[⟨(y9 b u f).1,(two b u f).1⟩])
def jN (n:List (List Int)) (s:List zE) (b:List Int):Nat→Int→Int→List zA→Int×Int×List zA
 | 0,u,f,row=>(u,f,row)
 | k+1,u,f,row=>if f≠0 then (u,f,row) else jN n s b k (u+(jR n s (b.drop u.toNat)).2.1) (jR n s (b.drop u.toNat)).2.2 (row++[(jR n s (b.drop u.toNat)).1])
def dT (b:List Int):=y9 b 0 0
def dS (b:List Int):=y9 b (dT b).2.1 (dT b).2.2
def dL (b:List Int):=y9 b (dS b).2.1 (dS b).2.2
def dC1 (b:List Int):=pJ b (dL b).2.1 (dL b).2.2 1000
def dN (b:List Int):=zAY b (dC1 b).1.toNat (dC1 b).2.1 (dC1 b).2.2 []
def dC2 (b:List Int):=pJ b (dN b).1 (dN b).2.1 1000
def dSt (b:List Int):=zAm b (dC2 b).1.toNat (dC2 b).2.1 (dC2 b).2.2 []
def dF3 (b:List Int):Int:=if (dSt b).2.1=0 then tC (dN b).2.2 (dSt b).2.2 else (dSt b).2.1
def dC3 (b:List Int):=pJ b (dSt b).1 (dF3 b) 1000
def dE (b:List Int):=jN (dN b).2.2 (dSt b).2.2 b (dC3 b).1.toNat (dC3 b).2.1 (dC3 b).2.2 []
def dP (b:List Int):zF:=⟨(dT b).1,(dS b).1,(dL b).1,(dE b).2.2⟩
def dF5 (b:List Int):Int:=if (dE b).2.1=0 then qK (dP b) else (dE b).2.1
def zDy (b:List Int):zF×Int×Int :=
 if dF5 b≠0 then (pk0,0,dF5 b) else if (kP (dP b)).2≠0∨(kP (dP b)).1≠b.take (dE b).1.toNat then (pk0,0,10) else (dP b,(dE b).1,0)
theorem zDQ {b:List Int} {u f most:Int} (hb:∀ x∈b,y8 x) (h0:0≤u) (h1:u≤b.length) (hm:0≤most):0≤(pJ b u f most).1∧(pJ b u f most).1≤most∧u≤(pJ b u f most).2.1∧(pJ b u f most).2.1≤b.length∧((pJ b u f most).2.2=0→f=0):=by
 have h:=wH (f:=f) hb h0 h1
 unfold pJ
 split
 ·exact ⟨by simp,hm,h.2.1,h.2.2.1,fun e=>absurd e (by assumption)⟩
 split
 ·exact ⟨by simp,hm,h.2.1,h.2.2.1,fun e=>by simp at e⟩
 split
 ·exact ⟨by simp,hm,h.2.1,h.2.2.1,fun e=>by simp at e⟩
 ·exact ⟨by omega,by omega,h.2.1,h.2.2.1,fun e=>(h.2.2.2 e).1⟩
theorem zMn {b:List Int} {most:Int} (hb:∀ x∈b,y8 x):0≤(txt b most).2.1∧(txt b most).2.1≤b.length:=by
 have hv:=(zEC (i:=0) (u:=0) hb (by omega) (by omega) (by simp))
 unfold txt
 simp only
 split
 ·simp
 split
 ·simp
 split
 ·simp
 split
 ·simp
 ·have:=hv.2.1 (by omega)
  simp only;omega
theorem zA1 {b:List Int} {u f:Int} (hb:∀ x∈b,y8 x) (h0:0≤u) (h1:u≤b.length):u≤(jU b u f).2.1∧(jU b u f).2.1≤b.length:=by
 unfold jU
 split
 ·exact ⟨Int.le_refl _,h1⟩
 ·have:=zMn (most:=40) (qZ hb u.toNat)
  rw [List.length_drop] at this
  simp only;omega
theorem zJX {b:List Int} (hb:∀ x∈b,y8 x):∀ (k:Nat) (u f:Int) (row:List (List Int)),0≤u→u≤b.length→u≤(zAY b k u f row).1∧(zAY b k u f row).1≤b.length:=by
 intro k
 induction k with
 | zero=>intro u f row h0 h1;exact ⟨Int.le_refl _,h1⟩
 | succ k ih =>
  intro u f row h0 h1
  simp only [zAY]
  split
  ·exact ⟨Int.le_refl _,h1⟩
  ·have h:=zA1 (f:=f) hb h0 h1
   have:=ih (jU b u f).2.1 (jU b u f).2.2 (row++[(jU b u f).1]) (by omega) h.2
   omega
theorem zEl {b:List Int} {u f:Int} (hb:∀ x∈b,y8 x) (h0:0≤u) (h1:u≤b.length):u≤(two b u f).2.1∧(two b u f).2.1≤b.length:=by
 have h:=wH (f:=f) hb h0 h1
 have:=wH (u:=(y9 b u f).2.1) (f:=(y9 b u f).2.2) hb (by omega) h.2.2.1
 unfold two;omega
theorem zIb {b:List Int} (hb:∀ x∈b,y8 x):∀ (k:Nat) (u f:Int) (row:List zE),0≤u→u≤b.length→u≤(zAm b k u f row).1∧(zAm b k u f row).1≤b.length:=by
 intro k
 induction k with
 | zero=>intro u f row h0 h1;exact ⟨Int.le_refl _,h1⟩
 | succ k ih =>
  intro u f row h0 h1
  simp only [zAm]
  split
  ·exact ⟨Int.le_refl _,h1⟩
  ·have h:=zEl (f:=f) hb h0 h1
   have:=ih (two b u f).2.1 (two b u f).2.2 (row++[⟨(y9 b u f).1,(two b u f).1⟩]) (by omega) h.2
   omega
theorem zB9 {n:List (List Int)} {s:List zE} {b:List Int} (hb:∀ x∈b,y8 x):0≤(jR n s b).2.1∧(jR n s b).2.1≤b.length:=by
 have h:=zGT hb
 unfold jR
 split
 ·simp
 split
 ·simp
 split
 ·simp
 split
 ·simp
 split
 ·simp
 ·exact ⟨by simp only;omega,h.2.2.2.2.2.2⟩
theorem zH2 {n:List (List Int)} {s:List zE} {b:List Int} (hb:∀ x∈b,y8 x):∀ (k:Nat) (u f:Int) (row:List zA),0≤u→u≤b.length→u≤(jN n s b k u f row).1∧(jN n s b k u f row).1≤b.length∧(jN n s b k u f row).2.2.length≤row.length+k:=by
 intro k
 induction k with
 | zero=>intro u f row h0 h1;exact ⟨Int.le_refl _,h1,by simp [jN]⟩
 | succ k ih =>
  intro u f row h0 h1
  simp only [jN]
  split
  ·exact ⟨Int.le_refl _,h1,by simp only;omega⟩
  ·have h:=zB9 (n:=n) (s:=s) (qZ hb u.toNat)
   rw [List.length_drop] at h
   have:=ih (u+(jR n s (b.drop u.toNat)).2.1) (jR n s (b.drop u.toNat)).2.2 (row++[(jR n s (b.drop u.toNat)).1]) (by omega) (by omega)
   simp only [List.length_append,List.length_cons,List.length_nil] at this
   omega
theorem zEf {b:List Int} (hb:∀ x∈b,y8 x) :
  (0≤(dT b).2.1∧(dT b).2.1≤b.length)∧(0≤(dS b).2.1∧(dS b).2.1≤b.length)∧(0≤(dL b).2.1∧(dL b).2.1≤b.length) ∧
  (0≤(dC1 b).1∧(dC1 b).1≤1000∧0≤(dC1 b).2.1∧(dC1 b).2.1≤b.length)∧(0≤(dN b).1∧(dN b).1≤b.length) ∧
  (0≤(dC2 b).1∧(dC2 b).1≤1000∧0≤(dC2 b).2.1∧(dC2 b).2.1≤b.length)∧(0≤(dSt b).1∧(dSt b).1≤b.length) ∧
  (0≤(dC3 b).1∧(dC3 b).1≤1000∧0≤(dC3 b).2.1∧(dC3 b).2.1≤b.length)∧(0≤(dE b).1∧(dE b).1≤b.length∧(dE b).2.2.length≤1000)∧(dT b).2.1≤(dE b).1:=by
 have h1:0≤(dT b).2.1∧(dT b).2.1≤b.length:=by have:=wH (u:=0) (f:=0) hb (by omega) (by omega);exact ⟨this.2.1,this.2.2.1⟩
 have h2:(dT b).2.1≤(dS b).2.1∧(dS b).2.1≤b.length:=by have:=wH (u:=(dT b).2.1) (f:=(dT b).2.2) hb (by omega) (by omega);exact ⟨this.2.1,this.2.2.1⟩
 have h3:(dS b).2.1≤(dL b).2.1∧(dL b).2.1≤b.length:=by have:=wH (u:=(dS b).2.1) (f:=(dS b).2.2) hb (by omega) (by omega);exact ⟨this.2.1,this.2.2.1⟩
 have h4:0≤(dC1 b).1∧(dC1 b).1≤1000∧(dL b).2.1≤(dC1 b).2.1∧(dC1 b).2.1≤b.length:=by have:=zDQ (u:=(dL b).2.1) (f:=(dL b).2.2) (most:=1000) hb (by omega) (by omega) (by omega);exact ⟨this.1,this.2.1,this.2.2.1,this.2.2.2.1⟩
 have h5:(dC1 b).2.1≤(dN b).1∧(dN b).1≤b.length:=zJX hb _ _ _ _ (by omega) (by omega)
 have h6:0≤(dC2 b).1∧(dC2 b).1≤1000∧(dN b).1≤(dC2 b).2.1∧(dC2 b).2.1≤b.length:=by have:=zDQ (u:=(dN b).1) (f:=(dN b).2.1) (most:=1000) hb (by omega) (by omega) (by omega);exact ⟨this.1,this.2.1,this.2.2.1,this.2.2.2.1⟩
 have h7:(dC2 b).2.1≤(dSt b).1∧(dSt b).1≤b.length:=zIb hb _ _ _ _ (by omega) (by omega)
 have h8:0≤(dC3 b).1∧(dC3 b).1≤1000∧(dSt b).1≤(dC3 b).2.1∧(dC3 b).2.1≤b.length:=by have:=zDQ (u:=(dSt b).1) (f:=dF3 b) (most:=1000) hb (by omega) (by omega) (by omega);exact ⟨this.1,this.2.1,this.2.2.1,this.2.2.2.1⟩
 have h9:(dC3 b).2.1≤(dE b).1∧(dE b).1≤b.length∧(dE b).2.2.length≤([]:List zA).length+(dC3 b).1.toNat:=zH2 hb _ _ _ _ (by omega) (by omega)
 simp only [List.length_nil] at h9
 omega
theorem uR {b:List Int} {u f:Int} (hb:∀ x∈b,y8 x) (hl:b.length≤100000) (h0:0≤u) (h1:u≤b.length) :
  xY 200000 ⟨b,u,f⟩=some ((y9 b u f).1,⟨b,(y9 b u f).2.1,(y9 b u f).2.2⟩):=by
 unfold xY
 have hr:=wH (f:=f) hb h0 h1
 unfold y9 at *
 by_cases hf:f≠0
 ·rw [y0 hf,if_pos hf];rfl
 ·rw [if_neg hf] at hr ⊢
  rw [y6 (show f=0 by omega),cond_false,yN ⟨h0,h1⟩,Option.bind_some,nW b h0,zA7 (qZ hb _) (by rw [List.length_drop];omega) (by rw [List.length_drop];omega),Option.bind_some]
  simp only at hr
  show some (_,(⟨b,zK (u+_),_⟩:zU))=_
  rw [w64 (by omega) (by omega)]
theorem k8 {b:List Int} {u f most:Int} (hb:∀ x∈b,y8 x) (hl:b.length≤100000) (h0:0≤u) (h1:u≤b.length) :
  wC 200000 ⟨b,u,f⟩ most=some ((pJ b u f most).1,⟨b,(pJ b u f most).2.1,(pJ b u f most).2.2⟩):=by
 unfold wC pJ
 rw [uR hb hl h0 h1,Option.bind_some]
 simp only
 by_cases c1:(y9 b u f).2.2≠0
 ·rw [y0 c1,if_pos c1];rfl
 rw [y6 (by omega),if_neg c1,cond_false]
 by_cases c2:(y9 b u f).1<0
 ·rw [z9 c2,if_pos c2];rfl
 rw [z7 c2,if_neg c2,cond_false]
 by_cases c3:(y9 b u f).1>most
 ·rw [z9 c3,if_pos c3];rfl
 ·rw [z7 c3,if_neg c3,cond_false]
theorem zDC {b:List Int} {u f:Int} (hb:∀ x∈b,y8 x) (hl:b.length≤100000) (h0:0≤u) (h1:u≤b.length) :
  jG 200000 ⟨b,u,f⟩=some ((jU b u f).1,⟨b,(jU b u f).2.1,(jU b u f).2.2⟩):=by
 unfold jG
 have hr:=zA1 (f:=f) hb h0 h1
 unfold jU at *
 by_cases hf:f≠0
 ·rw [y0 hf,if_pos hf];rfl
 ·rw [if_neg hf] at hr ⊢
  rw [y6 (show f=0 by omega),cond_false,yN ⟨h0,h1⟩,Option.bind_some,nW b h0,zD0 (qZ hb _) (by rw [List.length_drop];omega) (by rw [List.length_drop];omega),Option.bind_some]
  simp only at hr
  show some (_,(⟨b,zK (u+_),_⟩:zU))=_
  rw [w64 (by omega) (by omega)]
theorem zAF {p:Prop} [Decidable p] {q:Bool} (h:¬ p∨q=false):(decide p&&q)=false:=by
 rcases h with h | h
 ·rw [z7 h];rfl
 ·rw [h,Bool.and_false]
theorem zMV {b:List Int} (hb:∀ x∈b,y8 x) (hl:b.length≤100000):∀ (k m:Nat) (u f:Int) (row:List (List Int)),k<m→0≤u→u≤b.length→row.length+k≤1000 →
  qA 200000 m (k:Int) b u f row=some (b,zAY b k u f row):=by
 intro k
 induction k with
 | zero =>
  intro m u f row hm h0 h1 hr
  obtain ⟨g,rfl⟩:∃ g,m=g+1:=⟨m - 1,by omega⟩
  show w3 _ _ _ _ _ _ _=_
  unfold w3
  rw [zAF (.inl (by omega))];rfl
 | succ k ih =>
  intro m u f row hm h0 h1 hr
  obtain ⟨g,rfl⟩:∃ g,m=g+1:=⟨m - 1,by omega⟩
  show w3 _ _ _ _ _ _ _=_
  unfold w3
  simp only [zAY]
  by_cases hf:f≠0
  ·rw [zAF (.inr (pP hf)),if_pos hf];rfl
  have ht:=zA1 (f:=f) hb h0 h1
  rw [z9 (by omega),tI (by omega),if_neg hf,Bool.and_self,cond_true,zDC hb hl h0 h1,Option.bind_some,yN (by simp;omega),Option.bind_some,w64 (by omega) (by omega),show (((k+1:Nat):Int) - 1)=(k:Int) by omega]
  exact ih g (jU b u f).2.1 (jU b u f).2.2 (row++[(jU b u f).1]) (by omega) (by omega) (by omega) (by simp;omega)
theorem zNa {b:List Int} (hb:∀ x∈b,y8 x) (hl:b.length≤100000):∀ (k m:Nat) (u f:Int) (row:List zE),k<m→0≤u→u≤b.length→row.length+k≤1000 →
  qC 200000 m (k:Int) b u f row=some (b,zAm b k u f row):=by
 intro k
 induction k with
 | zero =>
  intro m u f row hm h0 h1 hr
  obtain ⟨g,rfl⟩:∃ g,m=g+1:=⟨m - 1,by omega⟩
  show wZ _ _ _ _ _ _ _=_
  unfold wZ
  rw [zAF (.inl (by omega))];rfl
 | succ k ih =>
  intro m u f row hm h0 h1 hr
  obtain ⟨g,rfl⟩:∃ g,m=g+1:=⟨m - 1,by omega⟩
  show wZ _ _ _ _ _ _ _=_
  unfold wZ
  simp only [zAm]
  by_cases hf:f≠0
  ·rw [zAF (.inr (pP hf)),if_pos hf];rfl
  have ht:=zEl (f:=f) hb h0 h1
  have hn:=wH (f:=f) hb h0 h1
  rw [z9 (by omega),tI (by omega),if_neg hf,Bool.and_self,cond_true,uR hb hl h0 h1,Option.bind_some]
  simp only
  rw [uR hb hl (by omega) hn.2.2.1,Option.bind_some,yN (by simp;omega),Option.bind_some,w64 (by omega) (by omega),show (((k+1:Nat):Int) - 1)=(k:Int) by omega]
  exact ih g (two b u f).2.1 (two b u f).2.2 (row++[⟨(y9 b u f).1,(two b u f).1⟩]) (by omega) (by omega) (by omega) (by simp;omega)
theorem zNe {b:List Int} {o1:(List Int)×Int×Int×(List (List Int))} {o2:(List Int)×Int×Int×(List zE)} (hb:∀ x∈b,y8 x) (hl:b.length≤100000):∀ (k m:Nat) (u f:Int) (row:List zA),k<m→0≤u→u≤b.length→row.length+k≤1000 →
  qE 200000 b o1 o2 m (k:Int) u f row=some (jN o1.2.2.2 o2.2.2.2 b k u f row):=by
 intro k
 induction k with
 | zero =>
  intro m u f row hm h0 h1 hr
  obtain ⟨g,rfl⟩:∃ g,m=g+1:=⟨m - 1,by omega⟩
  show wW _ _ _ _ _ _ _ _ _=_
  unfold wW
  rw [zAF (.inl (by omega))];rfl
 | succ k ih =>
  intro m u f row hm h0 h1 hr
  obtain ⟨g,rfl⟩:∃ g,m=g+1:=⟨m - 1,by omega⟩
  show wW _ _ _ _ _ _ _ _ _=_
  unfold wW
  simp only [jN]
  by_cases hf:f≠0
  ·rw [zAF (.inr (pP hf)),if_pos hf];rfl
  have h:=zB9 (n:=o1.2.2.2) (s:=o2.2.2.2) (qZ hb u.toNat)
  rw [List.length_drop] at h
  rw [z9 (by omega),tI (by omega),if_neg hf,Bool.and_self,cond_true,yN ⟨h0,h1⟩,Option.bind_some,nW b h0,zFo (qZ hb _) (by rw [List.length_drop];omega),Option.bind_some,yN (by simp;omega),Option.bind_some,w64 (x:=((k+1:Nat):Int) - 1) (by omega) (by omega),show (((k+1:Nat):Int) - 1)=(k:Int) by omega,w64 (by omega) (by omega)]
  exact ih g (u+(jR o1.2.2.2 o2.2.2.2 (b.drop u.toNat)).2.1) (jR o1.2.2.2 o2.2.2.2 (b.drop u.toNat)).2.2 (row++[(jR o1.2.2.2 o2.2.2.2 (b.drop u.toNat)).1]) (by omega) (by omega) (by omega) (by simp;omega)
theorem zFu {b:List Int} (hb:∀ x∈b,y8 x) (hl:b.length≤100000):j7 200000 b=some (zDy b):=by
 unfold j7
 obtain ⟨⟨a1,a2⟩,⟨b1,b2⟩,⟨c1,c2⟩,⟨d1,d2,d3,d4⟩,⟨e1,e2⟩,⟨f1,f2,f3,f4⟩,⟨g1,g2⟩,⟨i1,i2,i3,i4⟩,⟨j1,j2,j3⟩,_⟩:=zEf hb
 rw [uR hb hl (by omega) (by omega),Option.bind_some]
 show (xY 200000 ⟨b,(dT b).2.1,(dT b).2.2⟩).bind _=_
 rw [uR hb hl a1 a2,Option.bind_some]
 show (xY 200000 ⟨b,(dS b).2.1,(dS b).2.2⟩).bind _=_
 rw [uR hb hl b1 b2,Option.bind_some]
 show (wC 200000 ⟨b,(dL b).2.1,(dL b).2.2⟩ 1000).bind _=_
 rw [k8 hb hl c1 c2,Option.bind_some]
 show (qA 200000 200000 (dC1 b).1 b (dC1 b).2.1 (dC1 b).2.2 []).bind _=_
 have q1:=zMV hb hl (dC1 b).1.toNat 200000 (dC1 b).2.1 (dC1 b).2.2 [] (by omega) d3 d4 (by simp;omega)
 rw [Int.toNat_of_nonneg d1] at q1
 rw [q1,Option.bind_some]
 show (wC 200000 ⟨b,(dN b).1,(dN b).2.1⟩ 1000).bind _=_
 rw [k8 hb hl e1 e2,Option.bind_some]
 show (qC 200000 200000 (dC2 b).1 b (dC2 b).2.1 (dC2 b).2.2 []).bind _=_
 have q2:=zNa hb hl (dC2 b).1.toNat 200000 (dC2 b).2.1 (dC2 b).2.2 [] (by omega) f3 f4 (by simp;omega)
 rw [Int.toNat_of_nonneg f1] at q2
 rw [q2,Option.bind_some]
 have h3:(bif ((dSt b).2.1==(0:Int)) then (tN 200000 (dN b).2.2 (dSt b).2.2).bind (fun r_9=>some r_9) else some (dSt b).2.1)=some (dF3 b):=by
  unfold dF3
  by_cases h:(dSt b).2.1=0
  ·rw [tI h,if_pos h,cond_true,nK];rfl
  ·rw [pP h,if_neg h];rfl
 refine (congrArg (fun o=>Option.bind o _) h3).trans ?_
 rw [Option.bind_some]
 show (wC 200000 ⟨b,(dSt b).1,dF3 b⟩ 1000).bind _=_
 rw [k8 hb hl g1 g2,Option.bind_some]
 show (qE 200000 b (b,dN b) (b,dSt b) 200000 (dC3 b).1 (dC3 b).2.1 (dC3 b).2.2 []).bind _=_
 have q3:=zNe (o1:=(b,dN b)) (o2:=(b,dSt b)) hb hl (dC3 b).1.toNat 200000 (dC3 b).2.1 (dC3 b).2.2 [] (by omega) i3 i4 (by simp;omega)
 rw [Int.toNat_of_nonneg i1] at q3
 rw [q3,Option.bind_some]
 have hev:(dP b).Events.length≤100000:=by show (dE b).2.2.length≤_;omega
 have h5:(bif ((dE b).2.1==(0:Int)) then (vY 200000 (dP b)).bind (fun r_12=>some r_12) else some (dE b).2.1)=some (dF5 b):=by
  unfold dF5
  by_cases h:(dE b).2.1=0
  ·rw [tI h,if_pos h,cond_true,zCM hev];rfl
  ·rw [pP h,if_neg h];rfl
 refine (congrArg (fun o=>Option.bind o _) h5).trans ?_
 rw [Option.bind_some]
 unfold zDy
 by_cases h6:dF5 b≠0
 ·rw [y0 h6,if_pos h6];rfl
 rw [y6 (by omega),if_neg h6,cond_false]
 show ((jB 200000 (dP b)).bind _)=_
 rw [zFt hev,Option.bind_some]
 by_cases h7:(kP (dP b)).2≠0
 ·rw [y0 h7,if_pos (.inl h7)];rfl
 rw [y6 (by omega),cond_false]
 show (((need (0≤(dE b).1∧(dE b).1≤b.length)).bind fun _=>(zAt (kP (dP b)).1 (sub b 0 (dE b).1)).bind _).bind _)=_
 rw [yN ⟨j1,j2⟩,Option.bind_some,zHE j1]
 unfold zAt
 rw [Option.bind_some,Option.bind_some]
 by_cases h8:(kP (dP b)).1=b.take (dE b).1.toNat
 ·rw [zBU h8,if_neg (fun h=>h.elim h7 (fun g=>g h8))];rfl
 ·rw [zDd h8,if_pos (.inr h8)];rfl
end Go.Ab
