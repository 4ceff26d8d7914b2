/- Plain laws of the functions uE this seat's, laid anew from another seat's text. No conditions but those that the theorems name. -/
import Derived.Test.YtlnlcciflpncmaaP11xD
import Derived.Test.YtlnlcciflpncmaaB11a
import Derived.Test.YtlnlcciflpncmaaB11b
import Derived.Test.YtlnlcciflpncmaaB11c
import Derived.Test.YtlnlcciflpncmaaB11d
import Derived.Test.YtlnlcciflpncmaaB11e
import Derived.Test.YtlnlcciflpncmaaB11f
namespace Go.Ab
open Go
set_option linter.unusedVariables false
def j0 (c:Bool) (d:Int) (b:List Int) (u f:Int):Int×Int×Int:=if c then y9 b u f else (d,u,f)
def ev0:zA:=⟨0,0,[],0,0,[]⟩
def z8 (b:List Int):Int×Int×Int:=y9 b 0 0
def vD (b:List Int):Int×Int×Int:=y9 b (z8 b).2.1 (z8 b).2.2
def jX (b:List Int):Int:=if (vD b).2.2=0∧((z8 b).1<1∨(z8 b).1>12) then 10 else (vD b).2.2
def wG (b:List Int):Int×Int×Int:=j0 (yE (z8 b).1) 0 b (vD b).2.1 (jX b)
def jZ (b:List Int):Int×Int×Int:=j0 (wE (z8 b).1) 0 b (wG b).2.1 (wG b).2.2
def j6 (b:List Int):Int×Int×Int:=j0 (wI (z8 b).1) 0 b (jZ b).2.1 (jZ b).2.2
def wS (b:List Int):Int×Int×Int:=j0 (yP (z8 b).1) (-1) b (j6 b).2.1 (j6 b).2.2
def zHr (names:List (List Int)) (stacks:List zE) (b:List Int):zA :=
 ⟨(vD b).1,(z8 b).1,if yE (z8 b).1 then (names[(wG b).1.toNat]?).getD [] else [],(jZ b).1,(j6 b).1,(zAx names stacks (wS b).1).1⟩
def jR (names:List (List Int)) (stacks:List zE) (b:List Int):zA×Int×Int :=
 if tC names stacks≠0 then (ev0,0,1) else
 if (wS b).2.2≠0 then (ev0,0,(wS b).2.2) else
 if yE (z8 b).1=true∧((wG b).1<0∨(wG b).1≥names.length) then (ev0,0,2) else
 if (wS b).1 < -1∨(wS b).1≥stacks.length then (ev0,0,2) else
 if evS (zHr names stacks b)≠0 then (ev0,0,10) else (zHr names stacks b,(wS b).2.1,0)
theorem zB8 {c:Bool} {d:Int} {b:List Int} {u f:Int} (hb:∀ x∈b,y8 x) (h0:0≤u) (h1:u≤b.length):u≤(j0 c d b u f).2.1∧(j0 c d b u f).2.1≤b.length:=by
 unfold j0
 split
 ·exact ⟨(wH hb h0 h1).2.1,(wH hb h0 h1).2.2.1⟩
 ·exact ⟨Int.le_refl _,h1⟩
theorem zB0 {b:List Int} {u f:Int} (h:f≠0):y9 b u f=(0,u,f):=if_pos h
theorem qJ {c:Bool} {d:Int} {b:List Int} {u f:Int} (h:f≠0):(j0 c d b u f).2.2=f:=by
 unfold j0;split
 ·rw [zB0 h]
 ·rfl
theorem zGT {b:List Int} (hb:∀ x∈b,y8 x) :
  (0≤(z8 b).2.1∧(z8 b).2.1≤b.length)∧(0≤(vD b).2.1∧(vD b).2.1≤b.length)∧(0≤(wG b).2.1∧(wG b).2.1≤b.length)∧(0≤(jZ b).2.1∧(jZ b).2.1≤b.length)∧(0≤(j6 b).2.1∧(j6 b).2.1≤b.length)∧(0≤(wS b).2.1∧(wS b).2.1≤b.length):=by
 have k:=wH (u:=0) (f:=0) hb (by omega) (by omega)
 have a:=wH (u:=(z8 b).2.1) (f:=(z8 b).2.2) hb (by unfold z8;omega) (by unfold z8;omega)
 have n1:_:=zB8 (c:=yE (z8 b).1) (d:=0) (u:=(vD b).2.1) (f:=jX b) hb (by unfold vD;have:=k.2;unfold z8 at *;omega) (by unfold vD;omega)
 have ha:0≤(vD b).2.1:=by unfold vD;have:=k.2.1;unfold z8 at *;omega
 have n2:=zB8 (c:=wE (z8 b).1) (d:=0) (u:=(wG b).2.1) (f:=(wG b).2.2) hb (by unfold wG;omega) (by unfold wG;omega)
 have h2:0≤(wG b).2.1:=by unfold wG;omega
 have n3:=zB8 (c:=wI (z8 b).1) (d:=0) (u:=(jZ b).2.1) (f:=(jZ b).2.2) hb (by unfold jZ;omega) (by unfold jZ;omega)
 have h3:0≤(jZ b).2.1:=by unfold jZ;omega
 have n4:=zB8 (c:=yP (z8 b).1) (d := -1) (u:=(j6 b).2.1) (f:=(j6 b).2.2) hb (by unfold j6;omega) (by unfold j6;omega)
 have h4:0≤(j6 b).2.1:=by unfold j6;omega
 exact ⟨⟨k.2.1,k.2.2.1⟩,⟨ha,a.2.2.1⟩,⟨h2,n1.2⟩,⟨h3,n2.2⟩,⟨h4,n3.2⟩,⟨by unfold wS;omega,n4.2⟩⟩
theorem zFo {names:List (List Int)} {stacks:List zE} {b:List Int} (hb:∀ x∈b,y8 x) (hl:b.length≤100000):pR 200000 names stacks b=some (jR names stacks b):=by
 unfold pR jR
 rw [nK,Option.bind_some]
 by_cases hc:tC names stacks≠0
 ·rw [y0 hc,if_pos hc];rfl
 rw [y6 (by omega),cond_false,if_neg hc]
 obtain ⟨⟨k0,k1⟩,⟨a0,a1⟩,⟨m0,m1⟩,⟨n0,n1⟩,⟨p0,p1⟩,_⟩:=zGT hb
 rw [jY hb hl (by omega) (by omega),Option.bind_some]
 show (xN 200000 ⟨b,(z8 b).2.1,(z8 b).2.2⟩).bind _=_
 rw [jY hb hl k0 k1,Option.bind_some]
 have hf:(((bif (((vD b).2.2==(0:Int))&&(decide ((z8 b).1<(1:Int))||decide ((z8 b).1>(12:Int)))) then some (10:Int) else some (vD b).2.2):Option Int))=some (jX b):=by
  unfold jX
  by_cases h1:(vD b).2.2=0
  ·by_cases h2:(z8 b).1<1∨(z8 b).1>12
   ·rw [if_pos ⟨h1,h2⟩,zJP h2,h1];rfl
   ·rw [if_neg (fun h=>h2 h.2),zLk h2,h1];rfl
  ·rw [if_neg (fun h=>h1 h.1),show ((vD b).2.2==(0:Int))=false by simpa using h1];rfl
 refine (congrArg (fun o=>Option.bind o _) hf).trans ?_
 rw [Option.bind_some]
 show (some (yE (z8 b).1,wE (z8 b).1,wI (z8 b).1,yP (z8 b).1)).bind _=_
 rw [Option.bind_some]
 have hA:∀ (c:Bool) (d u f:Int),0≤u→u≤b.length→(bif c then (xN 200000 (⟨b,u,f⟩:yI)).bind (fun r_5=>some (r_5.1,r_5.2.b,r_5.2.used,r_5.2.fault)) else some (d,b,u,f))=some ((j0 c d b u f).1,b,(j0 c d b u f).2.1,(j0 c d b u f).2.2):=by
  intro c d u f h0 h1
  cases c
  ·rfl
  ·rw [cond_true,jY hb hl h0 h1,Option.bind_some];rfl
 have hB:∀ (c:Bool) (d u f:Int),0≤u→u≤b.length→(bif c then (xN 200000 (⟨b,u,f⟩:yI)).bind (fun r_5=>some (r_5.2.b,r_5.2.used,r_5.2.fault,r_5.1)) else some (b,u,f,d))=some (b,(j0 c d b u f).2.1,(j0 c d b u f).2.2,(j0 c d b u f).1):=by
  intro c d u f h0 h1
  cases c
  ·rfl
  ·rw [cond_true,jY hb hl h0 h1,Option.bind_some];rfl
 refine (congrArg (fun o=>Option.bind o _) (hA (yE (z8 b).1) 0 (vD b).2.1 (jX b) a0 a1)).trans ?_
 rw [Option.bind_some]
 refine (congrArg (fun o=>Option.bind o _) (hB (wE (z8 b).1) 0 (wG b).2.1 (wG b).2.2 m0 m1)).trans ?_
 rw [Option.bind_some]
 refine (congrArg (fun o=>Option.bind o _) (hB (wI (z8 b).1) 0 (jZ b).2.1 (jZ b).2.2 n0 n1)).trans ?_
 rw [Option.bind_some]
 refine (congrArg (fun o=>Option.bind o _) (hA (yP (z8 b).1) (-1) (j6 b).2.1 (j6 b).2.2 p0 p1)).trans ?_
 rw [Option.bind_some]
 show (Option.bind (bif ((wS b).2.2 != 0) then _ else (bif (yE (z8 b).1&&(decide ((wG b).1<0)||decide ((wG b).1≥names.length))) then _ else (bif (decide ((wS b).1 < -1)||decide ((wS b).1≥stacks.length)) then _ else _))) _)=_
 by_cases h1:(wS b).2.2≠0
 ·rw [y0 h1,if_pos h1];rfl
 rw [y6 (by omega),cond_false,if_neg h1]
 by_cases h2:yE (z8 b).1=true∧((wG b).1<0∨(wG b).1≥names.length)
 ·rw [if_pos h2,h2.1,zJP h2.2];rfl
 rw [if_neg h2,show (yE (z8 b).1&&(decide ((wG b).1<0)||decide ((wG b).1≥names.length)))=false by
  cases hu:yE (z8 b).1
  ·rfl
  ·rw [Bool.true_and];exact zLk (fun h=>h2 ⟨hu,h⟩)]
 rw [cond_false]
 by_cases h3:(wS b).1 < -1∨(wS b).1≥stacks.length
 ·rw [if_pos h3,zJP h3];rfl
 rw [if_neg h3,zLk h3,cond_false,Option.bind_some]
 have hn:(((bif yE (z8 b).1 then (yC names (wG b).1).bind fun x_1=>some x_1 else some ([]:List Int)):Option (List Int)))=some (if yE (z8 b).1 then (names[(wG b).1.toNat]?).getD [] else []):=by
  cases hu:yE (z8 b).1
  ·rfl
  ·rw [hu] at h2
   simp only [true_and] at h2
   rw [cond_true,zKG (by omega),List.getElem?_eq_getElem (by omega)];rfl
 refine (congrArg (fun o=>Option.bind o _) hn).trans ?_
 rw [Option.bind_some]
 show ((kW 200000 names stacks (wS b).1).bind _)=_
 rw [zF7,Option.bind_some]
 show ((jL 200000 (zHr names stacks b)).bind _)=_
 rw [zBu,Option.bind_some]
 by_cases h4:evS (zHr names stacks b)≠0
 ·rw [y0 h4,if_pos h4];rfl
 ·rw [y6 (by omega),if_neg h4];rfl
theorem zCc {α β:Type} {A:Option α} {f:α→Option β} {r:Option β} (x:α) (h:A=some x) (hr:f x=r):A.bind f=r:=by rw [h];exact hr
def rdN (b:List Int):Nat→Int→List Int→(Int×List Int)⊕Int
 | 0,u,row=>.inl (u,row)
 | k+1,u,row=>if (y9 b u 0).2.2≠0 then .inr (y9 b u 0).2.2 else rdN b k (y9 b u 0).2.1 (row++[(y9 b u 0).1])
def zNn (o:(Int×List Int)⊕Int):List Int×Int×Int:=match o with | .inl q=>(q.2,q.1,0) | .inr e=>([],0,e)
def zNj (o:(Int×List Int)⊕Int):(Int×List Int)⊕(List Int×Int×Int):=match o with | .inl q=>.inl q | .inr e=>.inr ([],0,e)
theorem zMx {b:List Int} {c:Nat} (hb:∀ x∈b,y8 x) (hl:b.length≤100000) (hc:c≤10):∀ (k n i:Nat) (u:Int) (row:List Int),i+k=c→k<n→0≤u→u≤b.length→row.length=i →
  nA 200000 b (c:Int) n u (i:Nat) row=some (zNj (rdN b k u row)):=by
 intro k
 induction k with
 | zero =>
  intro n i u row hi hn h0 h1 hr
  obtain ⟨m,rfl⟩:∃ m,n=m+1:=⟨n - 1,by omega⟩
  show u6 _ _ _ _ _ _ _=_
  unfold u6
  rw [z7 (by omega)];rfl
 | succ k ih =>
  intro n i u row hi hn h0 h1 hr
  obtain ⟨m,rfl⟩:∃ m,n=m+1:=⟨n - 1,by omega⟩
  show u6 _ _ _ _ _ _ _=_
  unfold u6
  have hq:=wH (f:=0) hb h0 h1
  have hN:y9 b u 0=((vrd (b.drop u.toNat) 0 0).1,u+(vrd (b.drop u.toNat) 0 0).2.1,(vrd (b.drop u.toNat) 0 0).2.2):=rfl
  rw [z9 (by omega),cond_true,yN ⟨h0,h1⟩,Option.bind_some,nW b h0,zDw (qZ hb _) (by rw [List.length_drop];omega) (by omega),Option.bind_some]
  show (bif ((y9 b u 0).2.2 != 0) then _ else _)=some (zNj (if (y9 b u 0).2.2≠0 then _ else _))
  by_cases h:(y9 b u 0).2.2≠0
  ·rw [y0 h,if_pos h];rfl
  ·have:=ih m (i+1) (y9 b u 0).2.1 (row++[(y9 b u 0).1]) (by omega) (by omega) (by omega) (by omega) (by simp [hr])
   rw [y6 (by omega),if_neg h,cond_false,yN (by simp;omega),Option.bind_some,xP (by omega),← this,w64 (by rw [hN] at hq;simp only at hq;omega) (by rw [hN] at hq;simp only at hq;omega)]
   rfl
theorem zE1 {b:List Int} {c:Nat} (hb:∀ x∈b,y8 x) (hl:b.length≤100000) (hc:c≤10):zAM 200000 b (c:Int)=some (zNn (rdN b c 0 [])):=by
 unfold zAM
 have:=zMx hb hl hc c 200000 0 0 [] (by omega) (by omega) (by omega) (by omega) rfl
 rw [show nA 200000 b (c:Int) 200000 0 0 []=_ from this,Option.bind_some]
 cases rdN b c 0 []<;>rfl
def rdF (b:List Int) (k:Nat) (u f:Int) (row:List Int):(Int×List Int)⊕Int:=if f≠0 then .inr f else rdN b k u row
def vM (c:Bool):Nat:=if c then 1 else 0
theorem zBr {b:List Int} {c:Bool} {d:Int} {k:Nat} {u f:Int} {row:List Int} :
  rdF b (k+vM c) u f row=rdF b k (j0 c d b u f).2.1 (j0 c d b u f).2.2 (row++if c then [(j0 c d b u f).1] else []):=by
 by_cases hf:f≠0
 ·unfold rdF;rw [if_pos hf,if_pos (by rw [qJ hf];exact hf),qJ hf]
 ·have h0:f=0:=by omega
  subst h0
  cases c
  ·simp [j0,vM]
  ·show rdF b (k+1) u 0 row=rdF b k (y9 b u 0).2.1 (y9 b u 0).2.2 (row++[(y9 b u 0).1])
   unfold rdF
   rw [if_neg (by simp)];rfl
theorem zKI {b:List Int} {k:Nat}:rdN b (k+2) 0 []=rdF b k (vD b).2.1 (vD b).2.2 [(z8 b).1,(vD b).1]:=by
 have h1:=zBr (b:=b) (c:=true) (d:=0) (k:=k+1) (u:=0) (f:=0) (row:=[])
 have h2:=zBr (b:=b) (c:=true) (d:=0) (k:=k) (u:=(z8 b).2.1) (f:=(z8 b).2.2) (row:=[(z8 b).1])
 exact h1.trans h2
def nQ (b:List Int):List Int:=[(z8 b).1,(vD b).1]++(if yE (z8 b).1 then [(wG b).1] else [])++(if wE (z8 b).1 then [(jZ b).1] else [])++(if wI (z8 b).1 then [(j6 b).1] else [])++(if yP (z8 b).1 then [(wS b).1] else [])
theorem zNH {b:List Int} (h:(vD b).2.2=jX b):rdN b (0+vM (yP (z8 b).1)+vM (wI (z8 b).1)+vM (wE (z8 b).1)+vM (yE (z8 b).1)+2) 0 [] =
  if (wS b).2.2≠0 then .inr (wS b).2.2 else .inl ((wS b).2.1,nQ b):=by
 rw [zKI,h,zBr (d:=0)]
 show rdF b _ (wG b).2.1 (wG b).2.2 _=_
 rw [zBr (d:=0)]
 show rdF b _ (jZ b).2.1 (jZ b).2.2 _=_
 rw [zBr (d:=0)]
 show rdF b _ (j6 b).2.1 (j6 b).2.2 _=_
 rw [zBr (d := -1)]
 rfl
theorem zHY {names:List (List Int)} {stacks:List zE} {b:List Int} (hb:∀ x∈b,y8 x) (hl:b.length≤100000):zAW 200000 names stacks b=some (jR names stacks b):=by
 unfold zAW jR
 rw [show tH 200000 names stacks=some (tC names stacks) from zA5,Option.bind_some]
 by_cases hc:tC names stacks≠0
 ·rw [y0 hc,if_pos hc];rfl
 rw [y6 (by omega),cond_false,if_neg hc]
 rw [show zAM 200000 b 2=_ from zE1 (c:=2) hb hl (by omega),Option.bind_some,show rdN b 2 0 []=rdF b 0 (vD b).2.1 (vD b).2.2 [(z8 b).1,(vD b).1] from zKI]
 by_cases ha:(vD b).2.2≠0
 ·have hF:jX b≠0:=by unfold jX;rw [if_neg (fun h=>ha h.1)];exact ha
  have hS:(wS b).2.2=jX b:=by
   have h1:(wG b).2.2=jX b:=qJ hF
   have h2:(jZ b).2.2=jX b:=(qJ (by rw [h1];exact hF)).trans h1
   have h3:(j6 b).2.2=jX b:=(qJ (by rw [h2];exact hF)).trans h2
   exact (qJ (by rw [h3];exact hF)).trans h3
  have hG:jX b=(vD b).2.2:=by unfold jX;rw [if_neg (fun h=>ha h.1)]
  rw [show rdF b 0 (vD b).2.1 (vD b).2.2 [(z8 b).1,(vD b).1]=.inr (vD b).2.2 from if_pos ha]
  rw [hS,if_pos hF,hG]
  show (bif ((vD b).2.2 != 0) then _ else _)=_
  rw [y0 ha];rfl
 have ha0:(vD b).2.2=0:=by omega
 rw [show rdF b 0 (vD b).2.1 (vD b).2.2 [(z8 b).1,(vD b).1]=.inl ((vD b).2.1,[(z8 b).1,(vD b).1]) from if_neg ha]
 show (Option.bind (bif decide ((z8 b).1<1) then some true else some (decide ((z8 b).1>12))) fun p_1=>bif p_1 then _ else (zBt (z8 b).1).bind _)=_
 by_cases hk:(z8 b).1<1∨(z8 b).1>12
 ·have hF:jX b=10:=by unfold jX;rw [if_pos ⟨ha0,hk⟩]
  have hF':jX b≠0:=by omega
  have hS:(wS b).2.2=jX b:=by
   have h1:(wG b).2.2=jX b:=qJ hF'
   have h2:(jZ b).2.2=jX b:=(qJ (by rw [h1];exact hF')).trans h1
   have h3:(j6 b).2.2=jX b:=(qJ (by rw [h2];exact hF')).trans h2
   exact (qJ (by rw [h3];exact hF')).trans h3
  rw [hS,hF,if_pos (by omega)]
  rcases hk with hk | hk
  ·rw [z9 hk];rfl
  ·rw [z7 (show ¬ (z8 b).1<1 by omega),z9 hk];rfl
 have hF:(vD b).2.2=jX b:=by unfold jX;rw [if_neg (fun h=>hk h.2)]
 rw [z7 (show ¬ (z8 b).1<1 by omega),z7 (show ¬ (z8 b).1>12 by omega),cond_false,Option.bind_some,cond_false,zFh (by omega),Option.bind_some]
 have hcnt:zK ((zK ((zK ((zK ((2:Int)+(vM (yE (z8 b).1):Int)))+(vM (wE (z8 b).1):Int)))+(vM (wI (z8 b).1):Int)))+(vM (yP (z8 b).1):Int))=((0+vM (yP (z8 b).1)+vM (wI (z8 b).1)+vM (wE (z8 b).1)+vM (yE (z8 b).1)+2:Nat):Int):=by
  cases yE (z8 b).1<;>cases wE (z8 b).1<;>cases wI (z8 b).1<;>cases yP (z8 b).1<;>rfl
 have hcl:0+vM (yP (z8 b).1)+vM (wI (z8 b).1)+vM (wE (z8 b).1)+vM (yE (z8 b).1)+2≤10:=by
  cases yE (z8 b).1<;>cases wE (z8 b).1<;>cases wI (z8 b).1<;>cases yP (z8 b).1<;>decide
 have ho:∀ c:Bool,zBs c=some (vM c:Int):=by intro c;cases c<;>rfl
 simp only [ho,Option.bind_some]
 rw [show zK (zK (zK (zK ((2:Int)+(vM (yE (z8 b).1):Int))+(vM (wE (z8 b).1):Int))+(vM (wI (z8 b).1):Int))+(vM (yP (z8 b).1):Int))=_ from hcnt,zE1 hb hl hcl,Option.bind_some,zNH hF]
 by_cases hs:(wS b).2.2≠0
 ·rw [if_pos hs,if_pos hs]
  show (bif ((wS b).2.2 != 0) then _ else _)=_
  rw [y0 hs];rfl
 rw [if_neg hs,if_neg hs]
 simp only [zNn,bne_self_eq_false,cond_false]
 have d0:yC (nQ b) 0=some (z8 b).1:=rfl
 have d1:yC (nQ b) 1=some (vD b).1:=rfl
 have d2:yE (z8 b).1=true→yC (nQ b) 2=some (wG b).1:=fun h=>by unfold nQ;rw [h];rfl
 have d3:wE (z8 b).1=true→yC (nQ b) (2+(vM (yE (z8 b).1):Int))=some (jZ b).1:=fun h=>by unfold nQ;rw [h];cases yE (z8 b).1<;>rfl
 have d4:wI (z8 b).1=true→yC (nQ b) (2+(vM (yE (z8 b).1):Int)+(vM (wE (z8 b).1):Int))=some (j6 b).1:=fun h=>by unfold nQ;rw [h];cases yE (z8 b).1<;>cases wE (z8 b).1<;>rfl
 have d5:yP (z8 b).1=true→yC (nQ b) (2+(vM (yE (z8 b).1):Int)+(vM (wE (z8 b).1):Int)+(vM (wI (z8 b).1):Int))=some (wS b).1:=fun h=>by unfold nQ;rw [h];cases yE (z8 b).1<;>cases wE (z8 b).1<;>cases wI (z8 b).1<;>rfl
 refine zCc _ d0 (zCc _ d1 ?_)
 have hcc:tC names stacks=0:=by omega
 refine zCc (if yE (z8 b).1=true∧((wG b).1<0∨(wG b).1≥names.length) then Sum.inr (ev0,0,2) else Sum.inl (2+(vM (yE (z8 b).1):Int),if yE (z8 b).1 then (names[(wG b).1.toNat]?).getD [] else [])) ?_ ?_
 ·cases hu:yE (z8 b).1
  ·rw [if_neg (by simp)];rfl
  ·rw [cond_true,d2 hu]
   simp only [Option.bind_some,true_and]
   by_cases h1:(wG b).1<0
   ·rw [z9 h1,if_pos (by omega)];rfl
   rw [z7 h1,cond_false,Option.bind_some]
   by_cases h2:(wG b).1≥names.length
   ·rw [z9 h2,if_pos (by omega)];rfl
   rw [z7 h2,if_neg (by omega),cond_false,zKG (by omega),List.getElem?_eq_getElem (by omega)];rfl
 by_cases hn:yE (z8 b).1=true∧((wG b).1<0∨(wG b).1≥names.length)
 ·rw [if_pos hn,if_pos hn]
 rw [if_neg hn,if_neg hn]
 simp only
 refine zCc (2+(vM (yE (z8 b).1):Int)+(vM (wE (z8 b).1):Int),(jZ b).1) ?_ ?_
 ·cases hu:wE (z8 b).1
  ·show some (_,(0:Int))=_
   rw [show (jZ b).1=0 by unfold jZ j0;rw [hu];rfl]
   simp [vM]
  ·rw [cond_true,d3 hu]
   cases yE (z8 b).1<;>rfl
 refine zCc (2+(vM (yE (z8 b).1):Int)+(vM (wE (z8 b).1):Int)+(vM (wI (z8 b).1):Int),(j6 b).1) ?_ ?_
 ·simp only
  cases hu:wI (z8 b).1
  ·show some (_,(0:Int))=_
   rw [show (j6 b).1=0 by unfold j6 j0;rw [hu];rfl]
   simp [vM]
  ·rw [cond_true,d4 hu]
   cases yE (z8 b).1<;>cases wE (z8 b).1<;>rfl
 refine zCc (if (wS b).1 < -1∨(wS b).1≥stacks.length then Sum.inr (ev0,0,2) else Sum.inl (zAx names stacks (wS b).1).1) ?_ ?_
 ·simp only
  cases hu:yP (z8 b).1
  ·have h0:(wS b).1 = -1:=by unfold wS j0;rw [hu];rfl
   rw [h0,if_neg (by omega)]
   unfold zAx
   rw [if_neg (by omega),if_neg (by omega),zGV];rfl
  ·rw [cond_true,d5 hu,Option.bind_some,zJ1,Option.bind_some]
   unfold zAx
   rw [if_neg (by omega)]
   by_cases h1:(wS b).1 < -1∨(wS b).1≥stacks.length
   ·rw [if_pos h1,if_pos h1];rfl
   ·rw [if_neg h1,if_neg h1];rfl
 by_cases h3:(wS b).1 < -1∨(wS b).1≥stacks.length
 ·rw [if_pos h3,if_pos h3]
 rw [if_neg h3,if_neg h3]
 show ((pH 200000 (zHr names stacks b)).bind _)=_
 rw [zCz,Option.bind_some]
 by_cases h4:evS (zHr names stacks b)≠0
 ·rw [y0 h4,if_pos h4];rfl
 ·rw [y6 (by omega),if_neg h4];rfl
def zEH (n:List (List Int)) (s:List zE) (e:zA) (L:List Int):Prop :=
 evS e=0∧∃ a st:Int,L=zAh a e st∧(yE e.Kind=true→∃ j:Nat,a=(j:Int)∧n[j]?=some e.Name)∧(yP e.Kind=true→Has n s (-1) e.Stack st∧e.Stack.length≤32)
theorem zEH.mono {n n':List (List Int)} {s s':List zE} {e:zA} {L:List Int} (h:zEH n s e L) (hn:n <+: n') (hs:s <+: s'):zEH n' s' e L:=by
 obtain ⟨h0,a,st,h1,h2,h3⟩:=h
 exact ⟨h0,a,st,h1,fun u=>let ⟨j,e,g⟩:=h2 u;⟨j,e,zAP hn g⟩,fun u=>⟨(h3 u).1.mono hn hs,(h3 u).2⟩⟩
theorem zDP {n:List (List Int)} {s:List zE} {e:zA} :
  ((kN n s e).2.2.2≠0∧kN n s e=([],[],[],(kN n s e).2.2.2)) ∨
  ((kN n s e).2.2.2=0∧wM n s∧wM (kN n s e).2.1 (kN n s e).2.2.1∧n <+: (kN n s e).2.1∧s <+: (kN n s e).2.2.1 ∧
   ∃ L,(kN n s e).1=xX L∧zEH (kN n s e).2.1 (kN n s e).2.2.1 e L):=by
 unfold kN
 by_cases hc:tC n s≠0
 ·rw [if_pos hc];exact .inl ⟨by simp,rfl⟩
 rw [if_neg hc]
 have g:wM n s:=zFn.1 (by omega)
 by_cases he:evS e≠0
 ·rw [if_pos he];exact .inl ⟨he,rfl⟩
 rw [if_neg he]
 have he0:evS e=0:=by omega
 obtain ⟨_,_,_,_,_,ht,_⟩:=zFx he0
 have hN:(qF n e).2.2≠0∨(qF n e).2.2=0∧wM (qF n e).2.1 s∧n <+: (qF n e).2.1∧(yE e.Kind=true→∃ j:Nat,(qF n e).1=(j:Int)∧(qF n e).2.1[j]?=some e.Name):=by
  unfold qF
  cases hu:yE e.Kind
  ·exact .inr ⟨rfl,g,List.prefix_refl _,fun h=>by cases h⟩
  ·unfold zBF at ht
   rw [hu] at ht
   rcases zE9 g (x:=e.Name) (by simpa using ht) with h | h
   ·exact .inl (by simp [h.1])
   ·exact .inr ⟨h.1,h.2.2.1,h.2.2.2.1,fun _=>h.2.1⟩
 rcases hN with hN | ⟨h1,h2,h3,h4⟩
 ·rw [if_pos hN];exact .inl ⟨hN,rfl⟩
 rw [if_neg (by omega)]
 have hT:(qG (qF n e).2.1 s e).2.2.2≠0∨(qG (qF n e).2.1 s e).2.2.2=0∧wM (qG (qF n e).2.1 s e).2.1 (qG (qF n e).2.1 s e).2.2.1∧(qF n e).2.1 <+: (qG (qF n e).2.1 s e).2.1∧s <+: (qG (qF n e).2.1 s e).2.2.1 ∧
   (yP e.Kind=true→Has (qG (qF n e).2.1 s e).2.1 (qG (qF n e).2.1 s e).2.2.1 (-1) e.Stack (qG (qF n e).2.1 s e).1∧e.Stack.length≤32):=by
  unfold qG
  cases hu:yP e.Kind
  ·exact .inr ⟨rfl,h2,List.prefix_refl _,List.prefix_refl _,fun h=>by cases h⟩
  ·rcases zG7 (l:=e.Stack) h2 with h | h
   ·exact .inl h.1
   ·exact .inr ⟨h.1,h.2.2.2.1,h.2.2.2.2.1,h.2.2.2.2.2.1,fun _=>⟨h.2.2.2.2.2.2.1,h.2.1⟩⟩
 rcases hT with hT | ⟨k1,k2,k3,k4,k5⟩
 ·rw [if_pos hT];exact .inl ⟨hT,rfl⟩
 rw [if_neg (by omega)]
 exact .inr ⟨rfl,g,k2,h3.trans k3,k4,_,rfl,he0,_,_,rfl,fun u=>let ⟨j,e,g⟩:=h4 u;⟨j,e,zAP k3 g⟩,k5⟩
theorem Has.idx {n:List (List Int)} {s:List zE}:∀ {l:List (List Int)} {at_ i:Int},Has n s at_ l i → -1≤at_→at_<s.length → -1≤i∧i<s.length:=by
 intro l
 induction l with
 | nil=>intro at_ i h h0 h1;simp only [Has] at h;omega
 | cons x r ih =>
  rintro at_ i ⟨a,b,h1,h2,h3⟩ _ _
  have:=(List.getElem?_eq_some_iff.1 h2).1
  exact ih h3 (by omega) (by omega)
theorem Has.snoc {n:List (List Int)} {s:List zE} {x:List Int} {a b:Nat} {c:Int} (ha:n[a]?=some x) (hb:s[b]?=some ⟨c,(a:Int)⟩):∀ {l:List (List Int)} {at_:Int},Has n s at_ l c→Has n s at_ (l++[x]) (b:Int):=by
 intro l
 induction l with
 | nil=>intro at_ h;simp only [Has] at h;subst h;exact ⟨a,b,ha,hb,rfl⟩
 | cons y r ih =>
  rintro at_ ⟨a2,b2,h1,h2,h3⟩
  exact ⟨a2,b2,h1,h2,ih h3⟩
theorem wM.path {n:List (List Int)} {s:List zE} (g:wM n s):∀ (k:Nat) (i:Int), -1≤i→i<s.length→dOf (dsF s) i≤k→Has n s (-1) (qX n s k i).reverse i:=by
 intro k
 induction k with
 | zero =>
  intro i h0 h1 hd
  have:=g.depth0 h0 h1
  have hi:i = -1:=by omega
  subst hi;rfl
 | succ k ih =>
  intro i h0 h1 hd
  by_cases hi:i<0
  ·have hi:i = -1:=by omega
   subst hi;rfl
  obtain ⟨j,rfl⟩:=Int.eq_ofNat_of_zero_le (show 0≤i by omega)
  have hj:j<s.length:=by omega
  have hp:=List.getElem?_eq_getElem hj
  obtain ⟨q1,q2,q3,q4,q5,q6,_⟩:=g.pair hp
  simp only [qX]
  rw [if_neg hi,Int.toNat_natCast,hp]
  simp only [List.reverse_cons]
  have h:=ih (s[j]).c0 q1 (by omega) (by omega)
  have hn:n[(s[j]).c1.toNat]?=some ((n[(s[j]).c1.toNat]?).getD []):=by rw [List.getElem?_eq_getElem (by omega)];rfl
  refine Has.snoc hn ?_ h
  rw [hp,Int.toNat_of_nonneg q3]
theorem zFv {n:List (List Int)} {s:List zE} {e:zA} {L:List Int} (g:wM n s) (h:zEH n s e L):(∀ x∈xX L,y8 x)∧2≤(xX L).length∧(xX L).length≤50:=by
 obtain ⟨h0,a,st,rfl,hn,hs⟩:=h
 obtain ⟨r1,r2,r3,r4⟩:=zEd h0
 have hg1:=g.n1
 have hg2:=g.s1
 have ea:yE e.Kind=true→yH a:=fun u=>by
  obtain ⟨j,rfl,hj⟩:=hn u
  have:=(List.getElem?_eq_some_iff.1 hj).1
  unfold yH;omega
 have es:yP e.Kind=true→yH st:=fun u=>by
  have:=(hs u).1.idx (by omega) (by omega)
  unfold yH;omega
 refine ⟨zNO ?_,?_⟩
 ·intro x hx
  unfold zAh at hx
  simp only [List.mem_append] at hx
  rcases hx with ((((hx | hx) | hx) | hx))
  ·rcases hx with hx | hx
   ·simp at hx;rcases hx with rfl | rfl<;>assumption
   ·split at hx
    ·simp at hx;subst hx;exact ea (by assumption)
    ·cases hx
  ·split at hx
   ·simp at hx;subst hx;exact r3
   ·cases hx
  ·split at hx
   ·simp at hx;subst hx;exact r4
   ·cases hx
  ·split at hx
   ·simp at hx;subst hx;exact es (by assumption)
   ·cases hx
 ·have:=tM (zAh a e st)
  have hl:2≤(zAh a e st).length∧(zAh a e st).length≤5:=by
   have:=zHK e.Kind
   unfold zAh
   cases h1:yE e.Kind<;>cases h2:wE e.Kind<;>cases h3:wI e.Kind<;>cases h4:yP e.Kind<;>simp_all
  omega
end Go.Ab
