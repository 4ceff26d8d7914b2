/- Plain laws of the functions uV this seat's, laid anew from another seat's text. No conditions but those that the theorems name. -/
import Derived.Test.YtoeengmnmhhpgaaGreatP15zxD
import Derived.Test.YtoeengmnmhhpgaaGreatB15za
import Derived.Test.YtoeengmnmhhpgaaGreatB15zb
import Derived.Test.YtoeengmnmhhpgaaGreatB15zc
import Derived.Test.YtoeengmnmhhpgaaGreatB15zd
import Derived.Test.YtoeengmnmhhpgaaGreatB15ze
import Derived.Test.YtoeengmnmhhpgaaGreatB15zf
namespace Go.Ab
open Go
set_option linter.unusedVariables false
def jO (c:Bool) (d:Int) (b:List Int) (u f:Int):Int×Int×Int:=if c then w8 b u f else (d,u,f)
def ev0:yW:=⟨0,0,[],0,0,[]⟩
def xG (b:List Int):Int×Int×Int:=w8 b 0 0
def uR (b:List Int):Int×Int×Int:=w8 b (xG b).2.1 (xG b).2.2
def jG (b:List Int):Int:=if (uR b).2.2=0∧((xG b).1<1∨(xG b).1>12) then 10 else (uR b).2.2
def u0 (b:List Int):Int×Int×Int:=jO (vB (xG b).1) 0 b (uR b).2.1 (jG b)
def jN (b:List Int):Int×Int×Int:=jO (vZ (xG b).1) 0 b (u0 b).2.1 (u0 b).2.2
def jM (b:List Int):Int×Int×Int:=jO (uD (xG b).1) 0 b (jN b).2.1 (jN b).2.2
def tC (b:List Int):Int×Int×Int:=jO (uP (xG b).1) (-1) b (jM b).2.1 (jM b).2.2
def AM (names:List (List Int)) (stacks:List zQ) (b:List Int):yW :=
 ⟨(uR b).1,(xG b).1,if vB (xG b).1 then (names[(u0 b).1.toNat]?).getD [] else [],(jN b).1,(jM b).1,(fS names stacks (tC b).1).1⟩
def jK (names:List (List Int)) (stacks:List zQ) (b:List Int):yW×Int×Int :=
 if j0 names stacks≠0 then (ev0,0,1) else
 if (tC b).2.2≠0 then (ev0,0,(tC b).2.2) else
 if vB (xG b).1=true∧((u0 b).1<0∨(u0 b).1≥names.length) then (ev0,0,2) else
 if (tC b).1 < -1∨(tC b).1≥stacks.length then (ev0,0,2) else
 if evS (AM names stacks b)≠0 then (ev0,0,10) else (AM names stacks b,(tC b).2.1,0)
theorem LB {c:Bool} {d:Int} {b:List Int} {u f:Int} (hb:∀ x∈b,x6 x) (h0:0≤u) (h1:u≤b.length):u≤(jO c d b u f).2.1∧(jO c d b u f).2.1≤b.length:=by
 unfold jO
 split
 ·exact ⟨(pA hb h0 h1).2.1,(pA hb h0 h1).2.2.1⟩
 ·exact ⟨Int.le_refl _,h1⟩
theorem KG {b:List Int} {u f:Int} (h:f≠0):w8 b u f=(0,u,f):=if_pos h
theorem bT {c:Bool} {d:Int} {b:List Int} {u f:Int} (h:f≠0):(jO c d b u f).2.2=f:=by
 unfold jO;split
 ·rw [KG h]
 ·rfl
theorem VR {b:List Int} (hb:∀ x∈b,x6 x) :
  (0≤(xG b).2.1∧(xG b).2.1≤b.length)∧(0≤(uR b).2.1∧(uR b).2.1≤b.length)∧(0≤(u0 b).2.1∧(u0 b).2.1≤b.length)∧(0≤(jN b).2.1∧(jN b).2.1≤b.length)∧(0≤(jM b).2.1∧(jM b).2.1≤b.length)∧(0≤(tC b).2.1∧(tC b).2.1≤b.length):=by
 have k:=pA (u:=0) (f:=0) hb (by omega) (by omega)
 have a:=pA (u:=(xG b).2.1) (f:=(xG b).2.2) hb (by unfold xG;omega) (by unfold xG;omega)
 have n1:_:=LB (c:=vB (xG b).1) (d:=0) (u:=(uR b).2.1) (f:=jG b) hb (by unfold uR;have:=k.2;unfold xG at *;omega) (by unfold uR;omega)
 have ha:0≤(uR b).2.1:=by unfold uR;have:=k.2.1;unfold xG at *;omega
 have n2:=LB (c:=vZ (xG b).1) (d:=0) (u:=(u0 b).2.1) (f:=(u0 b).2.2) hb (by unfold u0;omega) (by unfold u0;omega)
 have h2:0≤(u0 b).2.1:=by unfold u0;omega
 have n3:=LB (c:=uD (xG b).1) (d:=0) (u:=(jN b).2.1) (f:=(jN b).2.2) hb (by unfold jN;omega) (by unfold jN;omega)
 have h3:0≤(jN b).2.1:=by unfold jN;omega
 have n4:=LB (c:=uP (xG b).1) (d := -1) (u:=(jM b).2.1) (f:=(jM b).2.2) hb (by unfold jM;omega) (by unfold jM;omega)
 have h4:0≤(jM b).2.1:=by unfold jM;omega
 exact ⟨⟨k.2.1,k.2.2.1⟩,⟨ha,a.2.2.1⟩,⟨h2,n1.2⟩,⟨h3,n2.2⟩,⟨h4,n3.2⟩,⟨by unfold tC;omega,n4.2⟩⟩
theorem zFH {names:List (List Int)} {stacks:List zQ} {b:List Int} (hb:∀ x∈b,x6 x) (hl:b.length≤100000):H6 281474976710656 names stacks b=some (jK names stacks b):=by
 unfold H6 jK
 rw [L3,zbs]
 by_cases hc:j0 names stacks≠0
 ·rw [wE hc,if_pos hc];rfl
 rw [wF (by omega),cond_false,if_neg hc]
 obtain ⟨⟨k0,k1⟩,⟨a0,a1⟩,⟨m0,m1⟩,⟨n0,n1⟩,⟨p0,p1⟩,_⟩:=VR hb
 rw [J8 hb hl (by omega) (by omega),zbs]
 show (n8 281474976710656 ⟨b,(xG b).2.1,(xG b).2.2⟩).bind _=_
 rw [J8 hb hl k0 k1,zbs]
 have hf:(((bif (((uR b).2.2==(0:Int))&&(decide ((xG b).1<(1:Int))||decide ((xG b).1>(12:Int)))) then some (10:Int) else some (uR b).2.2):Option Int))=some (jG b):=by
  unfold jG
  by_cases h1:(uR b).2.2=0
  ·by_cases h2:(xG b).1<1∨(xG b).1>12
   ·rw [if_pos ⟨h1,h2⟩,G7 h2,h1];rfl
   ·rw [if_neg (fun h=>h2 h.2),LF h2,h1];rfl
  ·rw [if_neg (fun h=>h1 h.1),show ((uR b).2.2==(0:Int))=false by simpa using h1];rfl
 refine (congrArg (fun o=>Option.bind o _) hf).trans ?_
 rw [zbs]
 show (some (vB (xG b).1,vZ (xG b).1,uD (xG b).1,uP (xG b).1)).bind _=_
 rw [zbs]
 have hA:∀ (c:Bool) (d u f:Int),0≤u→u≤b.length→(bif c then (n8 281474976710656 (⟨b,u,f⟩:kG)).bind (fun r_5=>some (r_5.1,r_5.2.b,r_5.2.used,r_5.2.fault)) else some (d,b,u,f))=some ((jO c d b u f).1,b,(jO c d b u f).2.1,(jO c d b u f).2.2):=by
  intro c d u f h0 h1
  cases c
  ·rfl
  ·rw [cond_true,J8 hb hl h0 h1,zbs];rfl
 have hB:∀ (c:Bool) (d u f:Int),0≤u→u≤b.length→(bif c then (n8 281474976710656 (⟨b,u,f⟩:kG)).bind (fun r_5=>some (r_5.2.b,r_5.2.used,r_5.2.fault,r_5.1)) else some (b,u,f,d))=some (b,(jO c d b u f).2.1,(jO c d b u f).2.2,(jO c d b u f).1):=by
  intro c d u f h0 h1
  cases c
  ·rfl
  ·rw [cond_true,J8 hb hl h0 h1,zbs];rfl
 refine (congrArg (fun o=>Option.bind o _) (hA (vB (xG b).1) 0 (uR b).2.1 (jG b) a0 a1)).trans ?_
 rw [zbs]
 refine (congrArg (fun o=>Option.bind o _) (hB (vZ (xG b).1) 0 (u0 b).2.1 (u0 b).2.2 m0 m1)).trans ?_
 rw [zbs]
 refine (congrArg (fun o=>Option.bind o _) (hB (uD (xG b).1) 0 (jN b).2.1 (jN b).2.2 n0 n1)).trans ?_
 rw [zbs]
 refine (congrArg (fun o=>Option.bind o _) (hA (uP (xG b).1) (-1) (jM b).2.1 (jM b).2.2 p0 p1)).trans ?_
 rw [zbs]
 show (Option.bind (bif ((tC b).2.2 != 0) then _ else (bif (vB (xG b).1&&(decide ((u0 b).1<0)||decide ((u0 b).1≥names.length))) then _ else (bif (decide ((tC b).1 < -1)||decide ((tC b).1≥stacks.length)) then _ else _))) _)=_
 by_cases h1:(tC b).2.2≠0
 ·rw [wE h1,if_pos h1];rfl
 rw [wF (by omega),cond_false,if_neg h1]
 by_cases h2:vB (xG b).1=true∧((u0 b).1<0∨(u0 b).1≥names.length)
 ·rw [if_pos h2,h2.1,G7 h2.2];rfl
 rw [if_neg h2,show (vB (xG b).1&&(decide ((u0 b).1<0)||decide ((u0 b).1≥names.length)))=false by
  cases hu:vB (xG b).1
  ·rfl
  ·rw [Bool.true_and];exact LF (fun h=>h2 ⟨hu,h⟩)]
 rw [cond_false]
 by_cases h3:(tC b).1 < -1∨(tC b).1≥stacks.length
 ·rw [if_pos h3,G7 h3];rfl
 rw [if_neg h3,LF h3,cond_false,zbs]
 have hn:(((bif vB (xG b).1 then (yZ names (u0 b).1).bind fun x_1=>some x_1 else some ([]:List Int)):Option (List Int)))=some (if vB (xG b).1 then (names[(u0 b).1.toNat]?).getD [] else []):=by
  cases hu:vB (xG b).1
  ·rfl
  ·rw [hu] at h2
   simp only [true_and] at h2
   rw [cond_true,T0 (by omega),List.getElem?_eq_getElem (by omega)];rfl
 refine (congrArg (fun o=>Option.bind o _) hn).trans ?_
 rw [zbs]
 show ((AJ 281474976710656 names stacks (tC b).1).bind _)=_
 rw [zGK,zbs]
 show ((fQ 281474976710656 (AM names stacks b)).bind _)=_
 rw [MW,zbs]
 by_cases h4:evS (AM names stacks b)≠0
 ·rw [wE h4,if_pos h4];rfl
 ·rw [wF (by omega),if_neg h4];rfl
theorem CD {α β:Type} {A:Option α} {f:α→Option β} {r:Option β} (x:α) (h:A=some x) (hr:f x=r):A.bind f=r:=by rw [h];exact hr
def rdN (b:List Int):Nat→Int→List Int→(Int×List Int)⊕Int
 | 0,u,row=>.inl (u,row)
 | k+1,u,row=>if (w8 b u 0).2.2≠0 then .inr (w8 b u 0).2.2 else rdN b k (w8 b u 0).2.1 (row++[(w8 b u 0).1])
def XV (o:(Int×List Int)⊕Int):List Int×Int×Int:=match o with | .inl q=>(q.2,q.1,0) | .inr e=>([],0,e)
def TX (o:(Int×List Int)⊕Int):(Int×List Int)⊕(List Int×Int×Int):=match o with | .inl q=>.inl q | .inr e=>.inr ([],0,e)
theorem zBx {b:List Int} {c:Nat} (hb:∀ x∈b,x6 x) (hl:b.length≤100000) (hc:c≤10):∀ (k n i:Nat) (u:Int) (row:List Int),i+k=c→k<n→0≤u→u≤b.length→row.length=i →
  o7 281474976710656 b (c:Int) n u (i:Nat) row=some (TX (rdN b k u row)):=by
 intro k
 induction k with
 | zero =>
  intro n i u row hi hn h0 h1 hr
  obtain ⟨m,rfl⟩:∃ m,n=m+1:=⟨n - 1,by omega⟩
  show mI _ _ _ _ _ _ _=_
  unfold mI
  rw [yM (by omega)];rfl
 | succ k ih =>
  intro n i u row hi hn h0 h1 hr
  obtain ⟨m,rfl⟩:∃ m,n=m+1:=⟨n - 1,by omega⟩
  show mI _ _ _ _ _ _ _=_
  unfold mI
  have hq:=pA (f:=0) hb h0 h1
  have hN:w8 b u 0=((vrd (b.drop u.toNat) 0 0).1,u+(vrd (b.drop u.toNat) 0 0).2.1,(vrd (b.drop u.toNat) 0 0).2.2):=rfl
  rw [yP (by omega),cond_true,xZ ⟨h0,h1⟩,zbs,fP b h0,KW (nN hb _) (by rw [List.length_drop];omega) (by omega),zbs]
  show (bif ((w8 b u 0).2.2 != 0) then _ else _)=some (TX (if (w8 b u 0).2.2≠0 then _ else _))
  by_cases h:(w8 b u 0).2.2≠0
  ·rw [wE h,if_pos h];rfl
  ·have:=ih m (i+1) (w8 b u 0).2.1 (row++[(w8 b u 0).1]) (by omega) (by omega) (by omega) (by omega) (by simp [hr])
   rw [wF (by omega),if_neg h,cond_false,xZ (by simp;omega),zbs,wW (by omega),← this,w64 (by rw [hN] at hq;simp only at hq;omega) (by rw [hN] at hq;simp only at hq;omega)]
   rfl
theorem VQ {b:List Int} {c:Nat} (hb:∀ x∈b,x6 x) (hl:b.length≤100000) (hc:c≤10):gV 281474976710656 b (c:Int)=some (XV (rdN b c 0 [])):=by
 unfold gV
 have:=zBx hb hl hc c 281474976710656 0 0 [] (by omega) (by omega) (by omega) (by omega) rfl
 rw [show o7 281474976710656 b (c:Int) 281474976710656 0 0 []=_ from this,zbs]
 cases rdN b c 0 []<;>rfl
def rdF (b:List Int) (k:Nat) (u f:Int) (row:List Int):(Int×List Int)⊕Int:=if f≠0 then .inr f else rdN b k u row
def uZ (c:Bool):Nat:=if c then 1 else 0
theorem rB {b:List Int} {c:Bool} {d:Int} {k:Nat} {u f:Int} {row:List Int} :
  rdF b (k+uZ c) u f row=rdF b k (jO c d b u f).2.1 (jO c d b u f).2.2 (row++if c then [(jO c d b u f).1] else []):=by
 by_cases hf:f≠0
 ·unfold rdF;rw [if_pos hf,if_pos (by rw [bT hf];exact hf),bT hf]
 ·have h0:f=0:=by omega
  subst h0
  cases c
  ·simp [jO,uZ]
  ·show rdF b (k+1) u 0 row=rdF b k (w8 b u 0).2.1 (w8 b u 0).2.2 (row++[(w8 b u 0).1])
   unfold rdF
   rw [if_neg (by simp)];rfl
theorem UY {b:List Int} {k:Nat}:rdN b (k+2) 0 []=rdF b k (uR b).2.1 (uR b).2.2 [(xG b).1,(uR b).1]:=by
 have h1:=rB (b:=b) (c:=true) (d:=0) (k:=k+1) (u:=0) (f:=0) (row:=[])
 have h2:=rB (b:=b) (c:=true) (d:=0) (k:=k) (u:=(xG b).2.1) (f:=(xG b).2.2) (row:=[(xG b).1])
 exact h1.trans h2
def bF (b:List Int):List Int:=[(xG b).1,(uR b).1]++(if vB (xG b).1 then [(u0 b).1] else [])++(if vZ (xG b).1 then [(jN b).1] else [])++(if uD (xG b).1 then [(jM b).1] else [])++(if uP (xG b).1 then [(tC b).1] else [])
theorem ZN {b:List Int} (h:(uR b).2.2=jG b):rdN b (0+uZ (uP (xG b).1)+uZ (uD (xG b).1)+uZ (vZ (xG b).1)+uZ (vB (xG b).1)+2) 0 [] =
  if (tC b).2.2≠0 then .inr (tC b).2.2 else .inl ((tC b).2.1,bF b):=by
 rw [UY,h,rB (d:=0)]
 show rdF b _ (u0 b).2.1 (u0 b).2.2 _=_
 rw [rB (d:=0)]
 show rdF b _ (jN b).2.1 (jN b).2.2 _=_
 rw [rB (d:=0)]
 show rdF b _ (jM b).2.1 (jM b).2.2 _=_
 rw [rB (d := -1)]
 rfl
theorem zGm {names:List (List Int)} {stacks:List zQ} {b:List Int} (hb:∀ x∈b,x6 x) (hl:b.length≤100000):EV 281474976710656 names stacks b=some (jK names stacks b):=by
 unfold EV jK
 rw [show nS 281474976710656 names stacks=some (j0 names stacks) from J6,zbs]
 by_cases hc:j0 names stacks≠0
 ·rw [wE hc,if_pos hc];rfl
 rw [wF (by omega),cond_false,if_neg hc]
 rw [show gV 281474976710656 b 2=_ from VQ (c:=2) hb hl (by omega),zbs,show rdN b 2 0 []=rdF b 0 (uR b).2.1 (uR b).2.2 [(xG b).1,(uR b).1] from UY]
 by_cases ha:(uR b).2.2≠0
 ·have hF:jG b≠0:=by unfold jG;rw [if_neg (fun h=>ha h.1)];exact ha
  have hS:(tC b).2.2=jG b:=by
   have h1:(u0 b).2.2=jG b:=bT hF
   have h2:(jN b).2.2=jG b:=(bT (by rw [h1];exact hF)).trans h1
   have h3:(jM b).2.2=jG b:=(bT (by rw [h2];exact hF)).trans h2
   exact (bT (by rw [h3];exact hF)).trans h3
  have hG:jG b=(uR b).2.2:=by unfold jG;rw [if_neg (fun h=>ha h.1)]
  rw [show rdF b 0 (uR b).2.1 (uR b).2.2 [(xG b).1,(uR b).1]=.inr (uR b).2.2 from if_pos ha]
  rw [hS,if_pos hF,hG]
  show (bif ((uR b).2.2 != 0) then _ else _)=_
  rw [wE ha];rfl
 have ha0:(uR b).2.2=0:=by omega
 rw [show rdF b 0 (uR b).2.1 (uR b).2.2 [(xG b).1,(uR b).1]=.inl ((uR b).2.1,[(xG b).1,(uR b).1]) from if_neg ha]
 show (Option.bind (bif decide ((xG b).1<1) then some true else some (decide ((xG b).1>12))) fun p_1=>bif p_1 then _ else (rR (xG b).1).bind _)=_
 by_cases hk:(xG b).1<1∨(xG b).1>12
 ·have hF:jG b=10:=by unfold jG;rw [if_pos ⟨ha0,hk⟩]
  have hF':jG b≠0:=by omega
  have hS:(tC b).2.2=jG b:=by
   have h1:(u0 b).2.2=jG b:=bT hF'
   have h2:(jN b).2.2=jG b:=(bT (by rw [h1];exact hF')).trans h1
   have h3:(jM b).2.2=jG b:=(bT (by rw [h2];exact hF')).trans h2
   exact (bT (by rw [h3];exact hF')).trans h3
  rw [hS,hF,if_pos (by omega)]
  rcases hk with hk | hk
  ·rw [yP hk];rfl
  ·rw [yM (show ¬ (xG b).1<1 by omega),yP hk];rfl
 have hF:(uR b).2.2=jG b:=by unfold jG;rw [if_neg (fun h=>hk h.2)]
 rw [yM (show ¬ (xG b).1<1 by omega),yM (show ¬ (xG b).1>12 by omega),cond_false,zbs,cond_false,XW (by omega),zbs]
 have hcnt:zG ((zG ((zG ((zG ((2:Int)+(uZ (vB (xG b).1):Int)))+(uZ (vZ (xG b).1):Int)))+(uZ (uD (xG b).1):Int)))+(uZ (uP (xG b).1):Int))=((0+uZ (uP (xG b).1)+uZ (uD (xG b).1)+uZ (vZ (xG b).1)+uZ (vB (xG b).1)+2:Nat):Int):=by
  cases vB (xG b).1<;>cases vZ (xG b).1<;>cases uD (xG b).1<;>cases uP (xG b).1<;>rfl
 have hcl:0+uZ (uP (xG b).1)+uZ (uD (xG b).1)+uZ (vZ (xG b).1)+uZ (vB (xG b).1)+2≤10:=by
  cases vB (xG b).1<;>cases vZ (xG b).1<;>cases uD (xG b).1<;>cases uP (xG b).1<;>decide
 have ho:∀ c:Bool,lK c=some (uZ c:Int):=by intro c;cases c<;>rfl
 simp only [ho,zbs]
 rw [show zG (zG (zG (zG ((2:Int)+(uZ (vB (xG b).1):Int))+(uZ (vZ (xG b).1):Int))+(uZ (uD (xG b).1):Int))+(uZ (uP (xG b).1):Int))=_ from hcnt,VQ hb hl hcl,zbs,ZN hF]
 by_cases hs:(tC b).2.2≠0
 ·rw [if_pos hs,if_pos hs]
  show (bif ((tC b).2.2 != 0) then _ else _)=_
  rw [wE hs];rfl
 rw [if_neg hs,if_neg hs]
 simp only [XV,bne_self_eq_false,cond_false]
 have d0:yZ (bF b) 0=some (xG b).1:=rfl
 have d1:yZ (bF b) 1=some (uR b).1:=rfl
 have d2:vB (xG b).1=true→yZ (bF b) 2=some (u0 b).1:=fun h=>by unfold bF;rw [h];rfl
 have d3:vZ (xG b).1=true→yZ (bF b) (2+(uZ (vB (xG b).1):Int))=some (jN b).1:=fun h=>by unfold bF;rw [h];cases vB (xG b).1<;>rfl
 have d4:uD (xG b).1=true→yZ (bF b) (2+(uZ (vB (xG b).1):Int)+(uZ (vZ (xG b).1):Int))=some (jM b).1:=fun h=>by unfold bF;rw [h];cases vB (xG b).1<;>cases vZ (xG b).1<;>rfl
 have d5:uP (xG b).1=true→yZ (bF b) (2+(uZ (vB (xG b).1):Int)+(uZ (vZ (xG b).1):Int)+(uZ (uD (xG b).1):Int))=some (tC b).1:=fun h=>by unfold bF;rw [h];cases vB (xG b).1<;>cases vZ (xG b).1<;>cases uD (xG b).1<;>rfl
 refine CD _ d0 (CD _ d1 ?_)
 have hcc:j0 names stacks=0:=by omega
 refine CD (if vB (xG b).1=true∧((u0 b).1<0∨(u0 b).1≥names.length) then Sum.inr (ev0,0,2) else Sum.inl (2+(uZ (vB (xG b).1):Int),if vB (xG b).1 then (names[(u0 b).1.toNat]?).getD [] else [])) ?_ ?_
 ·cases hu:vB (xG b).1
  ·rw [if_neg (by simp)];rfl
  ·rw [cond_true,d2 hu]
   simp only [zbs,true_and]
   by_cases h1:(u0 b).1<0
   ·rw [yP h1,if_pos (by omega)];rfl
   rw [yM h1,cond_false,zbs]
   by_cases h2:(u0 b).1≥names.length
   ·rw [yP h2,if_pos (by omega)];rfl
   rw [yM h2,if_neg (by omega),cond_false,T0 (by omega),List.getElem?_eq_getElem (by omega)];rfl
 by_cases hn:vB (xG b).1=true∧((u0 b).1<0∨(u0 b).1≥names.length)
 ·rw [if_pos hn,if_pos hn]
 rw [if_neg hn,if_neg hn]
 simp only
 refine CD (2+(uZ (vB (xG b).1):Int)+(uZ (vZ (xG b).1):Int),(jN b).1) ?_ ?_
 ·cases hu:vZ (xG b).1
  ·show some (_,(0:Int))=_
   rw [show (jN b).1=0 by unfold jN jO;rw [hu];rfl]
   simp [uZ]
  ·rw [cond_true,d3 hu]
   cases vB (xG b).1<;>rfl
 refine CD (2+(uZ (vB (xG b).1):Int)+(uZ (vZ (xG b).1):Int)+(uZ (uD (xG b).1):Int),(jM b).1) ?_ ?_
 ·simp only
  cases hu:uD (xG b).1
  ·show some (_,(0:Int))=_
   rw [show (jM b).1=0 by unfold jM jO;rw [hu];rfl]
   simp [uZ]
  ·rw [cond_true,d4 hu]
   cases vB (xG b).1<;>cases vZ (xG b).1<;>rfl
 refine CD (if (tC b).1 < -1∨(tC b).1≥stacks.length then Sum.inr (ev0,0,2) else Sum.inl (fS names stacks (tC b).1).1) ?_ ?_
 ·simp only
  cases hu:uP (xG b).1
  ·have h0:(tC b).1 = -1:=by unfold tC jO;rw [hu];rfl
   rw [h0,if_neg (by omega)]
   unfold fS
   rw [if_neg (by omega),if_neg (by omega),W8];rfl
  ·rw [cond_true,d5 hu,zbs,zAa,zbs]
   unfold fS
   rw [if_neg (by omega)]
   by_cases h1:(tC b).1 < -1∨(tC b).1≥stacks.length
   ·rw [if_pos h1,if_pos h1];rfl
   ·rw [if_neg h1,if_neg h1];rfl
 by_cases h3:(tC b).1 < -1∨(tC b).1≥stacks.length
 ·rw [if_pos h3,if_pos h3]
 rw [if_neg h3,if_neg h3]
 show ((gL 281474976710656 (AM names stacks b)).bind _)=_
 rw [Q5,zbs]
 by_cases h4:evS (AM names stacks b)≠0
 ·rw [wE h4,if_pos h4];rfl
 ·rw [wF (by omega),if_neg h4];rfl
def BE (n:List (List Int)) (s:List zQ) (e:yW) (L:List Int):Prop :=
 evS e=0∧∃ a st:Int,L=dO a e st∧(vB e.Kind=true→∃ j:Nat,a=(j:Int)∧n[j]?=some e.Name)∧(uP e.Kind=true→Has n s (-1) e.Stack st∧e.Stack.length≤32)
theorem BE.mono {n n':List (List Int)} {s s':List zQ} {e:yW} {L:List Int} (h:BE n s e L) (hn:n <+: n') (hs:s <+: s'):BE n' s' e L:=by
 obtain ⟨h0,a,st,h1,h2,h3⟩:=h
 exact ⟨h0,a,st,h1,fun u=>let ⟨j,e,g⟩:=h2 u;⟨j,e,fU hn g⟩,fun u=>⟨(h3 u).1.mono hn hs,(h3 u).2⟩⟩
theorem N5 {n:List (List Int)} {s:List zQ} {e:yW} :
  ((jR n s e).2.2.2≠0∧jR n s e=([],[],[],(jR n s e).2.2.2)) ∨
  ((jR n s e).2.2.2=0∧uB n s∧uB (jR n s e).2.1 (jR n s e).2.2.1∧n <+: (jR n s e).2.1∧s <+: (jR n s e).2.2.1 ∧
   ∃ L,(jR n s e).1=vO L∧BE (jR n s e).2.1 (jR n s e).2.2.1 e L):=by
 unfold jR
 by_cases hc:j0 n s≠0
 ·rw [if_pos hc];exact .inl ⟨by simp,rfl⟩
 rw [if_neg hc]
 have g:uB n s:=O9.1 (by omega)
 by_cases he:evS e≠0
 ·rw [if_pos he];exact .inl ⟨he,rfl⟩
 rw [if_neg he]
 have he0:evS e=0:=by omega
 obtain ⟨_,_,_,_,_,ht,_⟩:=NN he0
 have hN:(qJ n e).2.2≠0∨(qJ n e).2.2=0∧uB (qJ n e).2.1 s∧n <+: (qJ n e).2.1∧(vB e.Kind=true→∃ j:Nat,(qJ n e).1=(j:Int)∧(qJ n e).2.1[j]?=some e.Name):=by
  unfold qJ
  cases hu:vB e.Kind
  ·exact .inr ⟨rfl,g,List.prefix_refl _,fun h=>by cases h⟩
  ·unfold b7 at ht
   rw [hu] at ht
   rcases WV g (x:=e.Name) (by simpa using ht) with h | h
   ·exact .inl (by simp [h.1])
   ·exact .inr ⟨h.1,h.2.2.1,h.2.2.2.1,fun _=>h.2.1⟩
 rcases hN with hN | ⟨h1,h2,h3,h4⟩
 ·rw [if_pos hN];exact .inl ⟨hN,rfl⟩
 rw [if_neg (by omega)]
 have hT:(qL (qJ n e).2.1 s e).2.2.2≠0∨(qL (qJ n e).2.1 s e).2.2.2=0∧uB (qL (qJ n e).2.1 s e).2.1 (qL (qJ n e).2.1 s e).2.2.1∧(qJ n e).2.1 <+: (qL (qJ n e).2.1 s e).2.1∧s <+: (qL (qJ n e).2.1 s e).2.2.1 ∧
   (uP e.Kind=true→Has (qL (qJ n e).2.1 s e).2.1 (qL (qJ n e).2.1 s e).2.2.1 (-1) e.Stack (qL (qJ n e).2.1 s e).1∧e.Stack.length≤32):=by
  unfold qL
  cases hu:uP e.Kind
  ·exact .inr ⟨rfl,h2,List.prefix_refl _,List.prefix_refl _,fun h=>by cases h⟩
  ·rcases zGL (l:=e.Stack) h2 with h | h
   ·exact .inl h.1
   ·exact .inr ⟨h.1,h.2.2.2.1,h.2.2.2.2.1,h.2.2.2.2.2.1,fun _=>⟨h.2.2.2.2.2.2.1,h.2.1⟩⟩
 rcases hT with hT | ⟨k1,k2,k3,k4,k5⟩
 ·rw [if_pos hT];exact .inl ⟨hT,rfl⟩
 rw [if_neg (by omega)]
 exact .inr ⟨rfl,g,k2,h3.trans k3,k4,_,rfl,he0,_,_,rfl,fun u=>let ⟨j,e,g⟩:=h4 u;⟨j,e,fU k3 g⟩,k5⟩
theorem Has.idx {n:List (List Int)} {s:List zQ}:∀ {l:List (List Int)} {at_ i:Int},Has n s at_ l i → -1≤at_→at_<s.length → -1≤i∧i<s.length:=by
 intro l
 induction l with
 | nil=>intro at_ i h h0 h1;simp only [Has] at h;omega
 | cons x r ih =>
  rintro at_ i ⟨a,b,h1,h2,h3⟩ _ _
  have:=(List.getElem?_eq_some_iff.1 h2).1
  exact ih h3 (by omega) (by omega)
theorem Has.snoc {n:List (List Int)} {s:List zQ} {x:List Int} {a b:Nat} {c:Int} (ha:n[a]?=some x) (hb:s[b]?=some ⟨c,(a:Int)⟩):∀ {l:List (List Int)} {at_:Int},Has n s at_ l c→Has n s at_ (l++[x]) (b:Int):=by
 intro l
 induction l with
 | nil=>intro at_ h;simp only [Has] at h;subst h;exact ⟨a,b,ha,hb,rfl⟩
 | cons y r ih =>
  rintro at_ ⟨a2,b2,h1,h2,h3⟩
  exact ⟨a2,b2,h1,h2,ih h3⟩
theorem uB.path {n:List (List Int)} {s:List zQ} (g:uB n s):∀ (k:Nat) (i:Int), -1≤i→i<s.length→dOf (dsF s) i≤k→Has n s (-1) (j6 n s k i).reverse i:=by
 intro k
 induction k with
 | zero =>
  intro i h0 h1 hd
  have:=g.depth0 h0 h1
  have hi:i = -1:=by omega
  subst hi;rfl
 | succ k ih =>
  intro i h0 h1 hd
  by_cases hi:i<0
  ·have hi:i = -1:=by omega
   subst hi;rfl
  obtain ⟨j,rfl⟩:=Int.eq_ofNat_of_zero_le (show 0≤i by omega)
  have hj:j<s.length:=by omega
  have hp:=List.getElem?_eq_getElem hj
  obtain ⟨q1,q2,q3,q4,q5,q6,_⟩:=g.pair hp
  simp only [j6]
  rw [if_neg hi,Int.toNat_natCast,hp]
  simp only [List.reverse_cons]
  have h:=ih (s[j]).c0 q1 (by omega) (by omega)
  have hn:n[(s[j]).c1.toNat]?=some ((n[(s[j]).c1.toNat]?).getD []):=by rw [List.getElem?_eq_getElem (by omega)];rfl
  refine Has.snoc hn ?_ h
  rw [hp,Int.toNat_of_nonneg q3]
theorem N3 {n:List (List Int)} {s:List zQ} {e:yW} {L:List Int} (g:uB n s) (h:BE n s e L):(∀ x∈vO L,x6 x)∧2≤(vO L).length∧(vO L).length≤50:=by
 obtain ⟨h0,a,st,rfl,hn,hs⟩:=h
 obtain ⟨r1,r2,r3,r4⟩:=RP h0
 have hg1:=g.n1
 have hg2:=g.s1
 have ea:vB e.Kind=true→xP a:=fun u=>by
  obtain ⟨j,rfl,hj⟩:=hn u
  have:=(List.getElem?_eq_some_iff.1 hj).1
  unfold xP;omega
 have es:uP e.Kind=true→xP st:=fun u=>by
  have:=(hs u).1.idx (by omega) (by omega)
  unfold xP;omega
 refine ⟨zCj ?_,?_⟩
 ·intro x hx
  unfold dO at hx
  simp only [List.mem_append] at hx
  rcases hx with ((((hx | hx) | hx) | hx))
  ·rcases hx with hx | hx
   ·simp at hx;rcases hx with rfl | rfl<;>assumption
   ·split at hx
    ·simp at hx;subst hx;exact ea (by assumption)
    ·cases hx
  ·split at hx
   ·simp at hx;subst hx;exact r3
   ·cases hx
  ·split at hx
   ·simp at hx;subst hx;exact r4
   ·cases hx
  ·split at hx
   ·simp at hx;subst hx;exact es (by assumption)
   ·cases hx
 ·have:=kX (dO a e st)
  have hl:2≤(dO a e st).length∧(dO a e st).length≤5:=by
   have:=RZ e.Kind
   unfold dO
   cases h1:vB e.Kind<;>cases h2:vZ e.Kind<;>cases h3:uD e.Kind<;>cases h4:uP e.Kind<;>simp_all
  omega
end Go.Ab
