/- Plain laws of the functions uS this seat's, laid anew from another seat's text. No conditions but those that the theorems name. -/
import Derived.Test.YtoeengmnmhhpgaaGreatP15zxD
import Derived.Test.YtoeengmnmhhpgaaGreatB15za
import Derived.Test.YtoeengmnmhhpgaaGreatB15zb
import Derived.Test.YtoeengmnmhhpgaaGreatB15zc
import Derived.Test.YtoeengmnmhhpgaaGreatB15zd
import Derived.Test.YtoeengmnmhhpgaaGreatB15ze
import Derived.Test.YtoeengmnmhhpgaaGreatB15zf
namespace Go.Ab
open Go
set_option linter.unusedVariables false
def j9 (c:Bool) (d:Int) (b:List Int) (u f:Int):Int×Int×Int:=if c then vI b u f else (d,u,f)
def ev0:xD:=⟨0,0,[],0,0,[]⟩
def xL (b:List Int):Int×Int×Int:=vI b 0 0
def u3 (b:List Int):Int×Int×Int:=vI b (xL b).2.1 (xL b).2.2
def jU (b:List Int):Int:=if (u3 b).2.2=0/\((xL b).1<1\/(xL b).1>12) then 10 else (u3 b).2.2
def tE (b:List Int):Int×Int×Int:=j9 (vP (xL b).1) 0 b (u3 b).2.1 (jU b)
def j6 (b:List Int):Int×Int×Int:=j9 (uC (xL b).1) 0 b (tE b).2.1 (tE b).2.2
def kA (b:List Int):Int×Int×Int:=j9 (uM (xL b).1) 0 b (j6 b).2.1 (j6 b).2.2
def tM (b:List Int):Int×Int×Int:=j9 (u4 (xL b).1) (-1) b (kA b).2.1 (kA b).2.2
def CN (names:List (List Int)) (stacks:List zV) (b:List Int):xD :=
 ⟨(u3 b).1,(xL b).1,if vP (xL b).1 then (names[(tE b).1.toNat]?).getD [] else [],(j6 b).1,(kA b).1,(gG names stacks (tM b).1).1⟩
def kB (names:List (List Int)) (stacks:List zV) (b:List Int):xD×Int×Int :=
 if kU names stacks≠0 then (ev0,0,1) else
 if (tM b).2.2≠0 then (ev0,0,(tM b).2.2) else
 if vP (xL b).1=true/\((tE b).1<0\/(tE b).1>=names.length) then (ev0,0,2) else
 if (tM b).1 < -1\/(tM b).1>=stacks.length then (ev0,0,2) else
 if evS (CN names stacks b)≠0 then (ev0,0,10) else (CN names stacks b,(tM b).2.1,0)
theorem MX {c:Bool} {d:Int} {b:List Int} {u f:Int} (hb:∀ x∈b,xY x) (h0:0<=u) (h1:u<=b.length):u<=(j9 c d b u f).2.1/\(j9 c d b u f).2.1<=b.length:=by
 unfold j9
 split
 ·exact ⟨(pP hb h0 h1).2.1,(pP hb h0 h1).2.2.1⟩
 ·exact ⟨Int.le_refl _,h1⟩
theorem MK {b:List Int} {u f:Int} (h:f≠0):vI b u f=(0,u,f):=if_pos h
theorem cG {c:Bool} {d:Int} {b:List Int} {u f:Int} (h:f≠0):(j9 c d b u f).2.2=f:=by
 unfold j9;split
 ·rw [MK h]
 ·rfl
theorem YK {b:List Int} (hb:∀ x∈b,xY x) :
  (0<=(xL b).2.1/\(xL b).2.1<=b.length)/\(0<=(u3 b).2.1/\(u3 b).2.1<=b.length)/\(0<=(tE b).2.1/\(tE b).2.1<=b.length)/\(0<=(j6 b).2.1/\(j6 b).2.1<=b.length)/\(0<=(kA b).2.1/\(kA b).2.1<=b.length)/\(0<=(tM b).2.1/\(tM b).2.1<=b.length):=by
 have k:=pP (u:=0) (f:=0) hb (by omega) (by omega);have a:=pP (u:=(xL b).2.1) (f:=(xL b).2.2) hb (by unfold xL;omega) (by unfold xL;omega);have n1:_:=MX (c:=vP (xL b).1) (d:=0) (u:=(u3 b).2.1) (f:=jU b) hb (by unfold u3;have:=k.2;unfold xL at *;omega) (by unfold u3;omega);have ha:0<=(u3 b).2.1:=by unfold u3;have:=k.2.1;unfold xL at *;omega
 have n2:=MX (c:=uC (xL b).1) (d:=0) (u:=(tE b).2.1) (f:=(tE b).2.2) hb (by unfold tE;omega) (by unfold tE;omega);have h2:0<=(tE b).2.1:=by unfold tE;omega
 have n3:=MX (c:=uM (xL b).1) (d:=0) (u:=(j6 b).2.1) (f:=(j6 b).2.2) hb (by unfold j6;omega) (by unfold j6;omega);have h3:0<=(j6 b).2.1:=by unfold j6;omega
 have n4:=MX (c:=u4 (xL b).1) (d := -1) (u:=(kA b).2.1) (f:=(kA b).2.2) hb (by unfold kA;omega) (by unfold kA;omega);have h4:0<=(kA b).2.1:=by unfold kA;omega
 exact ⟨⟨k.2.1,k.2.2.1⟩,⟨ha,a.2.2.1⟩,⟨h2,n1.2⟩,⟨h3,n2.2⟩,⟨h4,n3.2⟩,⟨by unfold tM;omega,n4.2⟩⟩
theorem zDJ {names:List (List Int)} {stacks:List zV} {b:List Int} (hb:∀ x∈b,xY x) (hl:b.length<=100000):GZ 281474976710656 names stacks b=some (kB names stacks b):=by
 unfold GZ kB;rw [L5,zbs]
 by_cases hc:kU names stacks≠0
 ·rw [xX hc,if_pos hc];rfl
 rw [x7 (by omega),cond_false,if_neg hc];obtain ⟨⟨k0,k1⟩,⟨a0,a1⟩,⟨m0,m1⟩,⟨n0,n1⟩,⟨p0,p1⟩,_⟩:=YK hb;rw [LI hb hl (by omega) (by omega),zbs];show (aV 281474976710656 ⟨b,(xL b).2.1,(xL b).2.2⟩).bind _=_;rw [LI hb hl k0 k1,zbs];have hf:(((bif (((u3 b).2.2==(0:Int))&&(decide ((xL b).1<(1:Int))||decide ((xL b).1>(12:Int)))) then some (10:Int) else some (u3 b).2.2):Option Int))=some (jU b):=by
  unfold jU
  by_cases h1:(u3 b).2.2=0
  ·by_cases h2:(xL b).1<1\/(xL b).1>12
   ·rw [if_pos ⟨h1,h2⟩,EV h2,h1];rfl
   ·rw [if_neg (fun h=>h2 h.2),MM h2,h1];rfl
  ·rw [if_neg (fun h=>h1 h.1),show ((u3 b).2.2==(0:Int))=false by simpa using h1];rfl
 refine (congrArg (fun o=>Option.bind o _) hf).trans ?_;rw [zbs];show (some (vP (xL b).1,uC (xL b).1,uM (xL b).1,u4 (xL b).1)).bind _=_;rw [zbs];have hA:∀ (c:Bool) (d u f:Int),0<=u->u<=b.length->(bif c then (aV 281474976710656 (⟨b,u,f⟩:pE)).bind (fun r_5=>some (r_5.1,r_5.2.b,r_5.2.used,r_5.2.fault)) else some (d,b,u,f))=some ((j9 c d b u f).1,b,(j9 c d b u f).2.1,(j9 c d b u f).2.2):=by
  intro c d u f h0 h1;cases c
  ·rfl
  ·rw [cond_true,LI hb hl h0 h1,zbs];rfl
 have hB:∀ (c:Bool) (d u f:Int),0<=u->u<=b.length->(bif c then (aV 281474976710656 (⟨b,u,f⟩:pE)).bind (fun r_5=>some (r_5.2.b,r_5.2.used,r_5.2.fault,r_5.1)) else some (b,u,f,d))=some (b,(j9 c d b u f).2.1,(j9 c d b u f).2.2,(j9 c d b u f).1):=by
  intro c d u f h0 h1;cases c
  ·rfl
  ·rw [cond_true,LI hb hl h0 h1,zbs];rfl
 refine (congrArg (fun o=>Option.bind o _) (hA (vP (xL b).1) 0 (u3 b).2.1 (jU b) a0 a1)).trans ?_;rw [zbs];refine (congrArg (fun o=>Option.bind o _) (hB (uC (xL b).1) 0 (tE b).2.1 (tE b).2.2 m0 m1)).trans ?_;rw [zbs];refine (congrArg (fun o=>Option.bind o _) (hB (uM (xL b).1) 0 (j6 b).2.1 (j6 b).2.2 n0 n1)).trans ?_;rw [zbs];refine (congrArg (fun o=>Option.bind o _) (hA (u4 (xL b).1) (-1) (kA b).2.1 (kA b).2.2 p0 p1)).trans ?_;rw [zbs];show (Option.bind (bif ((tM b).2.2 != 0) then _ else (bif (vP (xL b).1&&(decide ((tE b).1<0)||decide ((tE b).1>=names.length))) then _ else (bif (decide ((tM b).1 < -1)||decide ((tM b).1>=stacks.length)) then _ else _))) _)=_
 by_cases h1:(tM b).2.2≠0
 ·rw [xX h1,if_pos h1];rfl
 rw [x7 (by omega),cond_false,if_neg h1]
 by_cases h2:vP (xL b).1=true/\((tE b).1<0\/(tE b).1>=names.length)
 ·rw [if_pos h2,h2.1,EV h2.2];rfl
 rw [if_neg h2,show (vP (xL b).1&&(decide ((tE b).1<0)||decide ((tE b).1>=names.length)))=false by
  cases hu:vP (xL b).1
  ·rfl
  ·rw [Bool.true_and];exact MM (fun h=>h2 ⟨hu,h⟩)]
 rw [cond_false]
 by_cases h3:(tM b).1 < -1\/(tM b).1>=stacks.length
 ·rw [if_pos h3,EV h3];rfl
 rw [if_neg h3,MM h3,cond_false,zbs];have hn:(((bif vP (xL b).1 then (yX names (tE b).1).bind fun x_1=>some x_1 else some ([]:List Int)):Option (List Int)))=some (if vP (xL b).1 then (names[(tE b).1.toNat]?).getD [] else []):=by
  cases hu:vP (xL b).1
  ·rfl
  ·rw [hu] at h2;simp only [true_and] at h2;rw [cond_true,zAH (by omega),List.getElem?_eq_getElem (by omega)];rfl
 refine (congrArg (fun o=>Option.bind o _) hn).trans ?_;rw [zbs];show ((AT 281474976710656 names stacks (tM b).1).bind _)=_;rw [zHX,zbs];show ((gU 281474976710656 (CN names stacks b)).bind _)=_;rw [SA,zbs]
 by_cases h4:evS (CN names stacks b)≠0
 ·rw [xX h4,if_pos h4];rfl
 ·rw [x7 (by omega),if_neg h4];rfl
theorem C1 {α β:Type} {A:Option α} {f:α->Option β} {r:Option β} (x:α) (h:A=some x) (hr:f x=r):A.bind f=r:=by rw [h];exact hr
def rdN (b:List Int):Nat->Int->List Int->(Int×List Int)⊕Int
 | 0,u,row=>.inl (u,row)
 | k+1,u,row=>if (vI b u 0).2.2≠0 then .inr (vI b u 0).2.2 else rdN b k (vI b u 0).2.1 (row++[(vI b u 0).1])
def XG (o:(Int×List Int)⊕Int):List Int×Int×Int:=match o with | .inl q=>(q.2,q.1,0) | .inr e=>([],0,e)
def XJ (o:(Int×List Int)⊕Int):(Int×List Int)⊕(List Int×Int×Int):=match o with | .inl q=>.inl q | .inr e=>.inr ([],0,e)
theorem zBx {b:List Int} {c:Nat} (hb:∀ x∈b,xY x) (hl:b.length<=100000) (hc:c<=10):∀ (k n i:Nat) (u:Int) (row:List Int),i+k=c->k<n->0<=u->u<=b.length->row.length=i ->
  AQ 281474976710656 b (c:Int) n u (i:Nat) row=some (XJ (rdN b k u row)):=by
 intro k
 induction k with
 | zero =>
  intro n i u row hi hn h0 h1 hr;obtain ⟨m,rfl⟩:∃ m,n=m+1:=⟨n - 1,by omega⟩;show l8 _ _ _ _ _ _ _=_;unfold l8;rw [yP (by omega)];rfl
 | succ k ih =>
  intro n i u row hi hn h0 h1 hr;obtain ⟨m,rfl⟩:∃ m,n=m+1:=⟨n - 1,by omega⟩;show l8 _ _ _ _ _ _ _=_;unfold l8;have hq:=pP (f:=0) hb h0 h1;have hN:vI b u 0=((vrd (b.drop u.toNat) 0 0).1,u+(vrd (b.drop u.toNat) 0 0).2.1,(vrd (b.drop u.toNat) 0 0).2.2):=rfl;rw [yN (by omega),cond_true,xQ ⟨h0,h1⟩,zbs,gR b h0,M1 (n9 hb _) (by rw [List.length_drop];omega) (by omega),zbs];show (bif ((vI b u 0).2.2 != 0) then _ else _)=some (XJ (if (vI b u 0).2.2≠0 then _ else _))
  by_cases h:(vI b u 0).2.2≠0
  ·rw [xX h,if_pos h];rfl
  ·have:=ih m (i+1) (vI b u 0).2.1 (row++[(vI b u 0).1]) (by omega) (by omega) (by omega) (by omega) (by simp [hr])
   rw [x7 (by omega),if_neg h,cond_false,xQ (by simp;omega),zbs,wX (by omega),<- this,w64 (by rw [hN] at hq;simp only at hq;omega) (by rw [hN] at hq;simp only at hq;omega)];rfl
theorem XI {b:List Int} {c:Nat} (hb:∀ x∈b,xY x) (hl:b.length<=100000) (hc:c<=10):mE 281474976710656 b (c:Int)=some (XG (rdN b c 0 [])):=by
 unfold mE
 have:=zBx hb hl hc c 281474976710656 0 0 [] (by omega) (by omega) (by omega) (by omega) rfl
 rw [show AQ 281474976710656 b (c:Int) 281474976710656 0 0 []=_ from this,zbs];cases rdN b c 0 []<;>rfl
def rdF (b:List Int) (k:Nat) (u f:Int) (row:List Int):(Int×List Int)⊕Int:=if f≠0 then .inr f else rdN b k u row
def tD (c:Bool):Nat:=if c then 1 else 0
theorem AY {b:List Int} {c:Bool} {d:Int} {k:Nat} {u f:Int} {row:List Int} :
  rdF b (k+tD c) u f row=rdF b k (j9 c d b u f).2.1 (j9 c d b u f).2.2 (row++if c then [(j9 c d b u f).1] else []):=by
 by_cases hf:f≠0
 ·unfold rdF;rw [if_pos hf,if_pos (by rw [cG hf];exact hf),cG hf]
 ·have h0:f=0:=by omega
  subst h0;cases c
  ·simp [j9,tD]
  ·show rdF b (k+1) u 0 row=rdF b k (vI b u 0).2.1 (vI b u 0).2.2 (row++[(vI b u 0).1]);unfold rdF;rw [if_neg (by simp)];rfl
theorem YI {b:List Int} {k:Nat}:rdN b (k+2) 0 []=rdF b k (u3 b).2.1 (u3 b).2.2 [(xL b).1,(u3 b).1]:=by
 have h1:=AY (b:=b) (c:=true) (d:=0) (k:=k+1) (u:=0) (f:=0) (row:=[]);have h2:=AY (b:=b) (c:=true) (d:=0) (k:=k) (u:=(xL b).2.1) (f:=(xL b).2.2) (row:=[(xL b).1]);exact h1.trans h2
def bT (b:List Int):List Int:=[(xL b).1,(u3 b).1]++(if vP (xL b).1 then [(tE b).1] else [])++(if uC (xL b).1 then [(j6 b).1] else [])++(if uM (xL b).1 then [(kA b).1] else [])++(if u4 (xL b).1 then [(tM b).1] else [])
theorem zHq {b:List Int} (h:(u3 b).2.2=jU b):rdN b (0+tD (u4 (xL b).1)+tD (uM (xL b).1)+tD (uC (xL b).1)+tD (vP (xL b).1)+2) 0 [] =
  if (tM b).2.2≠0 then .inr (tM b).2.2 else .inl ((tM b).2.1,bT b):=by
 rw [YI,h,AY (d:=0)];show rdF b _ (tE b).2.1 (tE b).2.2 _=_;rw [AY (d:=0)];show rdF b _ (j6 b).2.1 (j6 b).2.2 _=_;rw [AY (d:=0)];show rdF b _ (kA b).2.1 (kA b).2.2 _=_;rw [AY (d := -1)];rfl
theorem zHU {names:List (List Int)} {stacks:List zV} {b:List Int} (hb:∀ x∈b,xY x) (hl:b.length<=100000):GM 281474976710656 names stacks b=some (kB names stacks b):=by
 unfold GM kB;rw [show aQ 281474976710656 names stacks=some (kU names stacks) from N6,zbs]
 by_cases hc:kU names stacks≠0
 ·rw [xX hc,if_pos hc];rfl
 rw [x7 (by omega),cond_false,if_neg hc];rw [show mE 281474976710656 b 2=_ from XI (c:=2) hb hl (by omega),zbs,show rdN b 2 0 []=rdF b 0 (u3 b).2.1 (u3 b).2.2 [(xL b).1,(u3 b).1] from YI]
 by_cases ha:(u3 b).2.2≠0
 ·have hF:jU b≠0:=by unfold jU;rw [if_neg (fun h=>ha h.1)];exact ha
  have hS:(tM b).2.2=jU b:=by
   have h1:(tE b).2.2=jU b:=cG hF;have h2:(j6 b).2.2=jU b:=(cG (by rw [h1];exact hF)).trans h1;have h3:(kA b).2.2=jU b:=(cG (by rw [h2];exact hF)).trans h2;exact (cG (by rw [h3];exact hF)).trans h3
  have hG:jU b=(u3 b).2.2:=by unfold jU;rw [if_neg (fun h=>ha h.1)]
  rw [show rdF b 0 (u3 b).2.1 (u3 b).2.2 [(xL b).1,(u3 b).1]=.inr (u3 b).2.2 from if_pos ha];rw [hS,if_pos hF,hG];show (bif ((u3 b).2.2 != 0) then _ else _)=_;rw [xX ha];rfl
 have ha0:(u3 b).2.2=0:=by omega
 rw [show rdF b 0 (u3 b).2.1 (u3 b).2.2 [(xL b).1,(u3 b).1]=.inl ((u3 b).2.1,[(xL b).1,(u3 b).1]) from if_neg ha];show (Option.bind (bif decide ((xL b).1<1) then some true else some (decide ((xL b).1>12))) fun p_1=>bif p_1 then _ else (DM (xL b).1).bind _)=_
 by_cases hk:(xL b).1<1\/(xL b).1>12
 ·have hF:jU b=10:=by unfold jU;rw [if_pos ⟨ha0,hk⟩]
  have hF':jU b≠0:=by omega
  have hS:(tM b).2.2=jU b:=by
   have h1:(tE b).2.2=jU b:=cG hF';have h2:(j6 b).2.2=jU b:=(cG (by rw [h1];exact hF')).trans h1;have h3:(kA b).2.2=jU b:=(cG (by rw [h2];exact hF')).trans h2;exact (cG (by rw [h3];exact hF')).trans h3
  rw [hS,hF,if_pos (by omega)];rcases hk with hk | hk
  ·rw [yN hk];rfl
  ·rw [yP (show ¬ (xL b).1<1 by omega),yN hk];rfl
 have hF:(u3 b).2.2=jU b:=by unfold jU;rw [if_neg (fun h=>hk h.2)]
 rw [yP (show ¬ (xL b).1<1 by omega),yP (show ¬ (xL b).1>12 by omega),cond_false,zbs,cond_false,ZM (by omega),zbs];have hcnt:zI ((zI ((zI ((zI ((2:Int)+(tD (vP (xL b).1):Int)))+(tD (uC (xL b).1):Int)))+(tD (uM (xL b).1):Int)))+(tD (u4 (xL b).1):Int))=((0+tD (u4 (xL b).1)+tD (uM (xL b).1)+tD (uC (xL b).1)+tD (vP (xL b).1)+2:Nat):Int):=by
  cases vP (xL b).1<;>cases uC (xL b).1<;>cases uM (xL b).1<;>cases u4 (xL b).1<;>rfl
 have hcl:0+tD (u4 (xL b).1)+tD (uM (xL b).1)+tD (uC (xL b).1)+tD (vP (xL b).1)+2<=10:=by
  cases vP (xL b).1<;>cases uC (xL b).1<;>cases uM (xL b).1<;>cases u4 (xL b).1<;>decide
 have ho:∀ c:Bool,m7 c=some (tD c:Int):=by intro c;cases c<;>rfl
 simp only [ho,zbs];rw [show zI (zI (zI (zI ((2:Int)+(tD (vP (xL b).1):Int))+(tD (uC (xL b).1):Int))+(tD (uM (xL b).1):Int))+(tD (u4 (xL b).1):Int))=_ from hcnt,XI hb hl hcl,zbs,zHq hF]
 by_cases hs:(tM b).2.2≠0
 ·rw [if_pos hs,if_pos hs];show (bif ((tM b).2.2 != 0) then _ else _)=_;rw [xX hs];rfl
 rw [if_neg hs,if_neg hs];simp only [XG,bne_self_eq_false,cond_false];have d0:yX (bT b) 0=some (xL b).1:=rfl;have d1:yX (bT b) 1=some (u3 b).1:=rfl;have d2:vP (xL b).1=true->yX (bT b) 2=some (tE b).1:=fun h=>by unfold bT;rw [h];rfl
 have d3:uC (xL b).1=true->yX (bT b) (2+(tD (vP (xL b).1):Int))=some (j6 b).1:=fun h=>by unfold bT;rw [h];cases vP (xL b).1<;>rfl
 have d4:uM (xL b).1=true->yX (bT b) (2+(tD (vP (xL b).1):Int)+(tD (uC (xL b).1):Int))=some (kA b).1:=fun h=>by unfold bT;rw [h];cases vP (xL b).1<;>cases uC (xL b).1<;>rfl
 have d5:u4 (xL b).1=true->yX (bT b) (2+(tD (vP (xL b).1):Int)+(tD (uC (xL b).1):Int)+(tD (uM (xL b).1):Int))=some (tM b).1:=fun h=>by unfold bT;rw [h];cases vP (xL b).1<;>cases uC (xL b).1<;>cases uM (xL b).1<;>rfl
 refine C1 _ d0 (C1 _ d1 ?_);have hcc:kU names stacks=0:=by omega
 refine C1 (if vP (xL b).1=true/\((tE b).1<0\/(tE b).1>=names.length) then Sum.inr (ev0,0,2) else Sum.inl (2+(tD (vP (xL b).1):Int),if vP (xL b).1 then (names[(tE b).1.toNat]?).getD [] else [])) ?_ ?_
 ·cases hu:vP (xL b).1
  ·rw [if_neg (by simp)];rfl
  ·rw [cond_true,d2 hu];simp only [zbs,true_and]
   by_cases h1:(tE b).1<0
   ·rw [yN h1,if_pos (by omega)];rfl
   rw [yP h1,cond_false,zbs]
   by_cases h2:(tE b).1>=names.length
   ·rw [yN h2,if_pos (by omega)];rfl
   rw [yP h2,if_neg (by omega),cond_false,zAH (by omega),List.getElem?_eq_getElem (by omega)];rfl
 by_cases hn:vP (xL b).1=true/\((tE b).1<0\/(tE b).1>=names.length)
 ·rw [if_pos hn,if_pos hn]
 rw [if_neg hn,if_neg hn];simp only;refine C1 (2+(tD (vP (xL b).1):Int)+(tD (uC (xL b).1):Int),(j6 b).1) ?_ ?_
 ·cases hu:uC (xL b).1
  ·show some (_,(0:Int))=_;rw [show (j6 b).1=0 by unfold j6 j9;rw [hu];rfl];simp [tD]
  ·rw [cond_true,d3 hu];cases vP (xL b).1<;>rfl
 refine C1 (2+(tD (vP (xL b).1):Int)+(tD (uC (xL b).1):Int)+(tD (uM (xL b).1):Int),(kA b).1) ?_ ?_
 ·simp only;cases hu:uM (xL b).1
  ·show some (_,(0:Int))=_;rw [show (kA b).1=0 by unfold kA j9;rw [hu];rfl];simp [tD]
  ·rw [cond_true,d4 hu];cases vP (xL b).1<;>cases uC (xL b).1<;>rfl
 refine C1 (if (tM b).1 < -1\/(tM b).1>=stacks.length then Sum.inr (ev0,0,2) else Sum.inl (gG names stacks (tM b).1).1) ?_ ?_
 ·simp only;cases hu:u4 (xL b).1
  ·have h0:(tM b).1 = -1:=by unfold tM j9;rw [hu];rfl
   rw [h0,if_neg (by omega)];unfold gG;rw [if_neg (by omega),if_neg (by omega),zD5];rfl
  ·rw [cond_true,d5 hu,zbs,zGB,zbs];unfold gG;rw [if_neg (by omega)]
   by_cases h1:(tM b).1 < -1\/(tM b).1>=stacks.length
   ·rw [if_pos h1,if_pos h1];rfl
   ·rw [if_neg h1,if_neg h1];rfl
 by_cases h3:(tM b).1 < -1\/(tM b).1>=stacks.length
 ·rw [if_pos h3,if_pos h3]
 rw [if_neg h3,if_neg h3];show ((iI 281474976710656 (CN names stacks b)).bind _)=_;rw [QP,zbs]
 by_cases h4:evS (CN names stacks b)≠0
 ·rw [xX h4,if_pos h4];rfl
 ·rw [x7 (by omega),if_neg h4];rfl
def DO (n:List (List Int)) (s:List zV) (e:xD) (L:List Int):Prop :=
 evS e=0/\∃ a st:Int,L=d8 a e st/\(vP e.Kind=true->∃ j:Nat,a=(j:Int)/\n[j]?=some e.Name)/\(u4 e.Kind=true->Has n s (-1) e.Stack st/\e.Stack.length<=32)
theorem DO.mono {n n':List (List Int)} {s s':List zV} {e:xD} {L:List Int} (h:DO n s e L) (hn:n <+: n') (hs:s <+: s'):DO n' s' e L:=by
 obtain ⟨h0,a,st,h1,h2,h3⟩:=h;exact ⟨h0,a,st,h1,fun u=>let ⟨j,e,g⟩:=h2 u;⟨j,e,gA hn g⟩,fun u=>⟨(h3 u).1.mono hn hs,(h3 u).2⟩⟩
theorem QI {n:List (List Int)} {s:List zV} {e:xD} :
  ((kF n s e).2.2.2≠0/\kF n s e=([],[],[],(kF n s e).2.2.2)) \/
  ((kF n s e).2.2.2=0/\u0 n s/\u0 (kF n s e).2.1 (kF n s e).2.2.1/\n <+: (kF n s e).2.1/\s <+: (kF n s e).2.2.1 /\
   ∃ L,(kF n s e).1=vX L/\DO (kF n s e).2.1 (kF n s e).2.2.1 e L):=by
 unfold kF
 by_cases hc:kU n s≠0
 ·rw [if_pos hc];exact .inl ⟨by simp,rfl⟩
 rw [if_neg hc];have g:u0 n s:=UH.1 (by omega)
 by_cases he:evS e≠0
 ·rw [if_pos he];exact .inl ⟨he,rfl⟩
 rw [if_neg he];have he0:evS e=0:=by omega
 obtain ⟨_,_,_,_,_,ht,_⟩:=QR he0;have hN:(q8 n e).2.2≠0\/(q8 n e).2.2=0/\u0 (q8 n e).2.1 s/\n <+: (q8 n e).2.1/\(vP e.Kind=true->∃ j:Nat,(q8 n e).1=(j:Int)/\(q8 n e).2.1[j]?=some e.Name):=by
  unfold q8;cases hu:vP e.Kind
  ·exact .inr ⟨rfl,g,List.prefix_refl _,fun h=>by cases h⟩
  ·unfold gN at ht;rw [hu] at ht;rcases zAl g (x:=e.Name) (by simpa using ht) with h | h
   ·exact .inl (by simp [h.1])
   ·exact .inr ⟨h.1,h.2.2.1,h.2.2.2.1,fun _=>h.2.1⟩
 rcases hN with hN | ⟨h1,h2,h3,h4⟩
 ·rw [if_pos hN];exact .inl ⟨hN,rfl⟩
 rw [if_neg (by omega)];have hT:(qZ (q8 n e).2.1 s e).2.2.2≠0\/(qZ (q8 n e).2.1 s e).2.2.2=0/\u0 (qZ (q8 n e).2.1 s e).2.1 (qZ (q8 n e).2.1 s e).2.2.1/\(q8 n e).2.1 <+: (qZ (q8 n e).2.1 s e).2.1/\s <+: (qZ (q8 n e).2.1 s e).2.2.1 /\
   (u4 e.Kind=true->Has (qZ (q8 n e).2.1 s e).2.1 (qZ (q8 n e).2.1 s e).2.2.1 (-1) e.Stack (qZ (q8 n e).2.1 s e).1/\e.Stack.length<=32):=by
  unfold qZ;cases hu:u4 e.Kind
  ·exact .inr ⟨rfl,h2,List.prefix_refl _,List.prefix_refl _,fun h=>by cases h⟩
  ·rcases zES (l:=e.Stack) h2 with h | h
   ·exact .inl h.1
   ·exact .inr ⟨h.1,h.2.2.2.1,h.2.2.2.2.1,h.2.2.2.2.2.1,fun _=>⟨h.2.2.2.2.2.2.1,h.2.1⟩⟩
 rcases hT with hT | ⟨k1,k2,k3,k4,k5⟩
 ·rw [if_pos hT];exact .inl ⟨hT,rfl⟩
 rw [if_neg (by omega)];exact .inr ⟨rfl,g,k2,h3.trans k3,k4,_,rfl,he0,_,_,rfl,fun u=>let ⟨j,e,g⟩:=h4 u;⟨j,e,gA k3 g⟩,k5⟩
theorem Has.idx {n:List (List Int)} {s:List zV}:∀ {l:List (List Int)} {at_ i:Int},Has n s at_ l i -> -1<=at_->at_<s.length -> -1<=i/\i<s.length:=by
 intro l
 induction l with
 | nil=>intro at_ i h h0 h1;simp only [Has] at h;omega
 | cons x r ih =>
  rintro at_ i ⟨a,b,h1,h2,h3⟩ _ _
  have:=(List.getElem?_eq_some_iff.1 h2).1
  exact ih h3 (by omega) (by omega)
theorem LJ {n:List (List Int)} {s:List zV} {e:xD} {L:List Int} (g:u0 n s) (h:DO n s e L):(∀ x∈vX L,xY x)/\2<=(vX L).length/\(vX L).length<=50:=by
 obtain ⟨h0,a,st,rfl,hn,hs⟩:=h;obtain ⟨r1,r2,r3,r4⟩:=RF h0;have hg1:=g.n1;have hg2:=g.s1;have ea:vP e.Kind=true->xM a:=fun u=>by
  obtain ⟨j,rfl,hj⟩:=hn u
  have:=(List.getElem?_eq_some_iff.1 hj).1
  unfold xM;omega
 have es:u4 e.Kind=true->xM st:=fun u=>by
  have:=(hs u).1.idx (by omega) (by omega)
  unfold xM;omega
 refine ⟨EE ?_,?_⟩
 ·intro x hx;unfold d8 at hx;simp only [List.mem_append] at hx;rcases hx with ((((hx | hx) | hx) | hx))
  ·rcases hx with hx | hx
   ·simp at hx;rcases hx with rfl | rfl<;>assumption
   ·split at hx
    ·simp at hx;subst hx;exact ea (by assumption)
    ·cases hx
  ·split at hx
   ·simp at hx;subst hx;exact r3
   ·cases hx
  ·split at hx
   ·simp at hx;subst hx;exact r4
   ·cases hx
  ·split at hx
   ·simp at hx;subst hx;exact es (by assumption)
   ·cases hx
 ·have:=pN (d8 a e st)
  have hl:2<=(d8 a e st).length/\(d8 a e st).length<=5:=by
   have:=WD e.Kind
   unfold d8;cases h1:vP e.Kind<;>cases h2:uC e.Kind<;>cases h3:uM e.Kind<;>cases h4:u4 e.Kind<;>simp_all
  omega
end Go.Ab
