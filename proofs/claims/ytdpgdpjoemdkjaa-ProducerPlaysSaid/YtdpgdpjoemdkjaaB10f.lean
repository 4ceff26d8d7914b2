/- Plain laws of the functions qA this seat's, laid anew from another seat's text. No conditions but those that the theorems name. -/
import Derived.Test.YtdpgdpjoemdkjaaP10xD
import Derived.Test.YtdpgdpjoemdkjaaB10a
import Derived.Test.YtdpgdpjoemdkjaaB10b
import Derived.Test.YtdpgdpjoemdkjaaB10c
import Derived.Test.YtdpgdpjoemdkjaaB10d
import Derived.Test.YtdpgdpjoemdkjaaB10e
namespace Go.Ab
open Go
set_option linter.unusedVariables false
def jW (c:Bool) (d:Int) (b:List Int) (u f:Int):Int×Int×Int:=if c then qS b u f else (d,u,f)
def ev0:zL:=⟨0,0,[],0,0,[]⟩
def y0 (b:List Int):Int×Int×Int:=qS b 0 0
def uN (b:List Int):Int×Int×Int:=qS b (y0 b).2.1 (y0 b).2.2
def kN (b:List Int):Int:=if (uN b).2.2=0∧((y0 b).1<1∨(y0 b).1>12) then 10 else (uN b).2.2
def vQ (b:List Int):Int×Int×Int:=jW (y5 (y0 b).1) 0 b (uN b).2.1 (kN b)
def pV (b:List Int):Int×Int×Int:=jW (vH (y0 b).1) 0 b (vQ b).2.1 (vQ b).2.2
def pT (b:List Int):Int×Int×Int:=jW (v4 (y0 b).1) 0 b (pV b).2.1 (pV b).2.2
def wO (b:List Int):Int×Int×Int:=jW (xM (y0 b).1) (-1) b (pT b).2.1 (pT b).2.2
def zD9 (names:List (List Int)) (stacks:List zN) (b:List Int):zL :=
 ⟨(uN b).1,(y0 b).1,if y5 (y0 b).1 then (names[(vQ b).1.toNat]?).getD [] else [],(pV b).1,(pT b).1,(nZ names stacks (wO b).1).1⟩
def tW (names:List (List Int)) (stacks:List zN) (b:List Int):zL×Int×Int :=
 if uW names stacks≠0 then (ev0,0,1) else
 if (wO b).2.2≠0 then (ev0,0,(wO b).2.2) else
 if y5 (y0 b).1=true∧((vQ b).1<0∨(vQ b).1≥names.length) then (ev0,0,2) else
 if (wO b).1 < -1∨(wO b).1≥stacks.length then (ev0,0,2) else
 if evS (zD9 names stacks b)≠0 then (ev0,0,10) else (zD9 names stacks b,(wO b).2.1,0)
theorem zEe {c:Bool} {d:Int} {b:List Int} {u f:Int} (hb:∀ x∈b,x7 x) (h0:0≤u) (h1:u≤b.length):u≤(jW c d b u f).2.1∧(jW c d b u f).2.1≤b.length:=by
 unfold jW
 split
 ·exact ⟨(zBS hb h0 h1).2.1,(zBS hb h0 h1).2.2.1⟩
 ·exact ⟨Int.le_refl _,h1⟩
theorem zGc {b:List Int} {u f:Int} (h:f≠0):qS b u f=(0,u,f):=if_pos h
theorem j5 {c:Bool} {d:Int} {b:List Int} {u f:Int} (h:f≠0):(jW c d b u f).2.2=f:=by
 unfold jW;split
 ·rw [zGc h]
 ·rfl
theorem zFg {c:Bool} {d:Int} {b:List Int} {u f:Int} (h:(jW c d b u f).2.2=0):f=0:=by
 by_cases hf:f=0
 ·exact hf
 ·rw [j5 hf] at h;exact h
theorem zOn {b:List Int} (hb:∀ x∈b,x7 x) :
  (0≤(y0 b).2.1∧(y0 b).2.1≤b.length)∧(0≤(uN b).2.1∧(uN b).2.1≤b.length)∧(0≤(vQ b).2.1∧(vQ b).2.1≤b.length)∧(0≤(pV b).2.1∧(pV b).2.1≤b.length)∧(0≤(pT b).2.1∧(pT b).2.1≤b.length)∧(0≤(wO b).2.1∧(wO b).2.1≤b.length):=by
 have k:=zBS (u:=0) (f:=0) hb (by omega) (by omega)
 have a:=zBS (u:=(y0 b).2.1) (f:=(y0 b).2.2) hb (by unfold y0;omega) (by unfold y0;omega)
 have n1:_:=zEe (c:=y5 (y0 b).1) (d:=0) (u:=(uN b).2.1) (f:=kN b) hb (by unfold uN;have:=k.2;unfold y0 at *;omega) (by unfold uN;omega)
 have ha:0≤(uN b).2.1:=by unfold uN;have:=k.2.1;unfold y0 at *;omega
 have n2:=zEe (c:=vH (y0 b).1) (d:=0) (u:=(vQ b).2.1) (f:=(vQ b).2.2) hb (by unfold vQ;omega) (by unfold vQ;omega)
 have h2:0≤(vQ b).2.1:=by unfold vQ;omega
 have n3:=zEe (c:=v4 (y0 b).1) (d:=0) (u:=(pV b).2.1) (f:=(pV b).2.2) hb (by unfold pV;omega) (by unfold pV;omega)
 have h3:0≤(pV b).2.1:=by unfold pV;omega
 have n4:=zEe (c:=xM (y0 b).1) (d := -1) (u:=(pT b).2.1) (f:=(pT b).2.2) hb (by unfold pT;omega) (by unfold pT;omega)
 have h4:0≤(pT b).2.1:=by unfold pT;omega
 exact ⟨⟨k.2.1,k.2.2.1⟩,⟨ha,a.2.2.1⟩,⟨h2,n1.2⟩,⟨h3,n2.2⟩,⟨h4,n3.2⟩,⟨by unfold wO;omega,n4.2⟩⟩
theorem zIi {names:List (List Int)} {stacks:List zN} {b:List Int} (hb:∀ x∈b,x7 x) (hl:b.length≤100000):zA3 200000 names stacks b=some (tW names stacks b):=by
 unfold zA3 tW
 rw [zBo,zbs]
 by_cases hc:uW names stacks≠0
 ·rw [xW hc,if_pos hc];rfl
 rw [xD (by omega),cond_false,if_neg hc]
 obtain ⟨⟨k0,k1⟩,⟨a0,a1⟩,⟨m0,m1⟩,⟨n0,n1⟩,⟨p0,p1⟩,_⟩:=zOn hb
 rw [nV hb hl (by omega) (by omega),zbs]
 show (vO 200000 ⟨b,(y0 b).2.1,(y0 b).2.2⟩).bind _=_
 rw [nV hb hl k0 k1,zbs]
 have hf:(((bif (((uN b).2.2==(0:Int))&&(decide ((y0 b).1<(1:Int))||decide ((y0 b).1>(12:Int)))) then some (10:Int) else some (uN b).2.2):Option Int))=some (kN b):=by
  unfold kN
  by_cases h1:(uN b).2.2=0
  ·by_cases h2:(y0 b).1<1∨(y0 b).1>12
   ·rw [if_pos ⟨h1,h2⟩,zKt h2,h1];rfl
   ·rw [if_neg (fun h=>h2 h.2),zLO h2,h1];rfl
  ·rw [if_neg (fun h=>h1 h.1),show ((uN b).2.2==(0:Int))=false by simpa using h1];rfl
 refine (congrArg (fun o=>Option.bind o _) hf).trans ?_
 rw [zbs]
 show (some (y5 (y0 b).1,vH (y0 b).1,v4 (y0 b).1,xM (y0 b).1)).bind _=_
 rw [zbs]
 have hA:∀ (c:Bool) (d u f:Int),0≤u→u≤b.length→(bif c then (vO 200000 (⟨b,u,f⟩:xO)).bind (fun r_5=>some (r_5.1,r_5.2.b,r_5.2.used,r_5.2.fault)) else some (d,b,u,f))=some ((jW c d b u f).1,b,(jW c d b u f).2.1,(jW c d b u f).2.2):=by
  intro c d u f h0 h1
  cases c
  ·rfl
  ·rw [cond_true,nV hb hl h0 h1,zbs];rfl
 have hB:∀ (c:Bool) (d u f:Int),0≤u→u≤b.length→(bif c then (vO 200000 (⟨b,u,f⟩:xO)).bind (fun r_5=>some (r_5.2.b,r_5.2.used,r_5.2.fault,r_5.1)) else some (b,u,f,d))=some (b,(jW c d b u f).2.1,(jW c d b u f).2.2,(jW c d b u f).1):=by
  intro c d u f h0 h1
  cases c
  ·rfl
  ·rw [cond_true,nV hb hl h0 h1,zbs];rfl
 refine (congrArg (fun o=>Option.bind o _) (hA (y5 (y0 b).1) 0 (uN b).2.1 (kN b) a0 a1)).trans ?_
 rw [zbs]
 refine (congrArg (fun o=>Option.bind o _) (hB (vH (y0 b).1) 0 (vQ b).2.1 (vQ b).2.2 m0 m1)).trans ?_
 rw [zbs]
 refine (congrArg (fun o=>Option.bind o _) (hB (v4 (y0 b).1) 0 (pV b).2.1 (pV b).2.2 n0 n1)).trans ?_
 rw [zbs]
 refine (congrArg (fun o=>Option.bind o _) (hA (xM (y0 b).1) (-1) (pT b).2.1 (pT b).2.2 p0 p1)).trans ?_
 rw [zbs]
 show (Option.bind (bif ((wO b).2.2 != 0) then _ else (bif (y5 (y0 b).1&&(decide ((vQ b).1<0)||decide ((vQ b).1≥names.length))) then _ else (bif (decide ((wO b).1 < -1)||decide ((wO b).1≥stacks.length)) then _ else _))) _)=_
 by_cases h1:(wO b).2.2≠0
 ·rw [xW h1,if_pos h1];rfl
 rw [xD (by omega),cond_false,if_neg h1]
 by_cases h2:y5 (y0 b).1=true∧((vQ b).1<0∨(vQ b).1≥names.length)
 ·rw [if_pos h2,h2.1,zKt h2.2];rfl
 rw [if_neg h2,show (y5 (y0 b).1&&(decide ((vQ b).1<0)||decide ((vQ b).1≥names.length)))=false by
  cases hu:y5 (y0 b).1
  ·rfl
  ·rw [Bool.true_and];exact zLO (fun h=>h2 ⟨hu,h⟩)]
 rw [cond_false]
 by_cases h3:(wO b).1 < -1∨(wO b).1≥stacks.length
 ·rw [if_pos h3,zKt h3];rfl
 rw [if_neg h3,zLO h3,cond_false,zbs]
 have hn:(((bif y5 (y0 b).1 then (y7 names (vQ b).1).bind fun x_1=>some x_1 else some ([]:List Int)):Option (List Int)))=some (if y5 (y0 b).1 then (names[(vQ b).1.toNat]?).getD [] else []):=by
  cases hu:y5 (y0 b).1
  ·rfl
  ·rw [hu] at h2
   simp only [true_and] at h2
   rw [cond_true,zN7 (by omega),List.getElem?_eq_getElem (by omega)];rfl
 refine (congrArg (fun o=>Option.bind o _) hn).trans ?_
 rw [zbs]
 show ((zAu 200000 names stacks (wO b).1).bind _)=_
 rw [zI7,zbs]
 show ((nD 200000 (zD9 names stacks b)).bind _)=_
 rw [zDD,zbs]
 by_cases h4:evS (zD9 names stacks b)≠0
 ·rw [xW h4,if_pos h4];rfl
 ·rw [xD (by omega),if_neg h4];rfl
theorem zEz {α β:Type} {A:Option α} {f:α→Option β} {r:Option β} (x:α) (h:A=some x) (hr:f x=r):A.bind f=r:=by rw [h];exact hr
def rdN (b:List Int):Nat→Int→List Int→(Int×List Int)⊕Int
 | 0,u,row=>.inl (u,row)
 | k+1,u,row=>if (qS b u 0).2.2≠0 then .inr (qS b u 0).2.2 else rdN b k (qS b u 0).2.1 (row++[(qS b u 0).1])
def zRg (o:(Int×List Int)⊕Int):List Int×Int×Int:=match o with | .inl q=>(q.2,q.1,0) | .inr e=>([],0,e)
def zRh (o:(Int×List Int)⊕Int):(Int×List Int)⊕(List Int×Int×Int):=match o with | .inl q=>.inl q | .inr e=>.inr ([],0,e)
theorem zQa {b:List Int} {c:Nat} (hb:∀ x∈b,x7 x) (hl:b.length≤100000) (hc:c≤10):∀ (k n i:Nat) (u:Int) (row:List Int),i+k=c→k<n→0≤u→u≤b.length→row.length=i →
  zBh 200000 b (c:Int) n u (i:Nat) row=some (zRh (rdN b k u row)):=by
 intro k
 induction k with
 | zero =>
  intro n i u row hi hn h0 h1 hr
  obtain ⟨m,rfl⟩:∃ m,n=m+1:=⟨n - 1,by omega⟩
  show jH _ _ _ _ _ _ _=_
  unfold jH
  rw [yI (by omega)];rfl
 | succ k ih =>
  intro n i u row hi hn h0 h1 hr
  obtain ⟨m,rfl⟩:∃ m,n=m+1:=⟨n - 1,by omega⟩
  show jH _ _ _ _ _ _ _=_
  unfold jH
  have hq:=zBS (f:=0) hb h0 h1
  have hN:qS b u 0=((vrd (b.drop u.toNat) 0 0).1,u+(vrd (b.drop u.toNat) 0 0).2.1,(vrd (b.drop u.toNat) 0 0).2.2):=rfl
  rw [yW (by omega),cond_true,xE ⟨h0,h1⟩,zbs,zLW b h0,zIJ (zHj hb _) (by rw [List.length_drop];omega) (by omega),zbs]
  show (bif ((qS b u 0).2.2 != 0) then _ else _)=some (zRh (if (qS b u 0).2.2≠0 then _ else _))
  by_cases h:(qS b u 0).2.2≠0
  ·rw [xW h,if_pos h];rfl
  ·have:=ih m (i+1) (qS b u 0).2.1 (row++[(qS b u 0).1]) (by omega) (by omega) (by omega) (by omega) (by simp [hr])
   rw [xD (by omega),if_neg h,cond_false,xE (by simp;omega),zbs,vS (by omega),← this,w64 (by rw [hN] at hq;simp only at hq;omega) (by rw [hN] at hq;simp only at hq;omega)]
   rfl
theorem zHD {b:List Int} {c:Nat} (hb:∀ x∈b,x7 x) (hl:b.length≤100000) (hc:c≤10):zCA 200000 b (c:Int)=some (zRg (rdN b c 0 [])):=by
 unfold zCA
 have:=zQa hb hl hc c 200000 0 0 [] (by omega) (by omega) (by omega) (by omega) rfl
 rw [show zBh 200000 b (c:Int) 200000 0 0 []=_ from this,zbs]
 cases rdN b c 0 []<;>rfl
def rdF (b:List Int) (k:Nat) (u f:Int) (row:List Int):(Int×List Int)⊕Int:=if f≠0 then .inr f else rdN b k u row
def tO (c:Bool):Nat:=if c then 1 else 0
theorem zDx {b:List Int} {c:Bool} {d:Int} {k:Nat} {u f:Int} {row:List Int} :
  rdF b (k+tO c) u f row=rdF b k (jW c d b u f).2.1 (jW c d b u f).2.2 (row++if c then [(jW c d b u f).1] else []):=by
 by_cases hf:f≠0
 ·unfold rdF;rw [if_pos hf,if_pos (by rw [j5 hf];exact hf),j5 hf]
 ·have h0:f=0:=by omega
  subst h0
  cases c
  ·simp [jW,tO]
  ·show rdF b (k+1) u 0 row=rdF b k (qS b u 0).2.1 (qS b u 0).2.2 (row++[(qS b u 0).1])
   unfold rdF
   rw [if_neg (by simp)];rfl
theorem zNZ {b:List Int} {k:Nat}:rdN b (k+2) 0 []=rdF b k (uN b).2.1 (uN b).2.2 [(y0 b).1,(uN b).1]:=by
 have h1:=zDx (b:=b) (c:=true) (d:=0) (k:=k+1) (u:=0) (f:=0) (row:=[])
 have h2:=zDx (b:=b) (c:=true) (d:=0) (k:=k) (u:=(y0 b).2.1) (f:=(y0 b).2.2) (row:=[(y0 b).1])
 exact h1.trans h2
def zA6 (b:List Int):List Int:=[(y0 b).1,(uN b).1]++(if y5 (y0 b).1 then [(vQ b).1] else [])++(if vH (y0 b).1 then [(pV b).1] else [])++(if v4 (y0 b).1 then [(pT b).1] else [])++(if xM (y0 b).1 then [(wO b).1] else [])
theorem zRH {b:List Int} (h:(uN b).2.2=kN b):rdN b (0+tO (xM (y0 b).1)+tO (v4 (y0 b).1)+tO (vH (y0 b).1)+tO (y5 (y0 b).1)+2) 0 [] =
  if (wO b).2.2≠0 then .inr (wO b).2.2 else .inl ((wO b).2.1,zA6 b):=by
 rw [zNZ,h,zDx (d:=0)]
 show rdF b _ (vQ b).2.1 (vQ b).2.2 _=_
 rw [zDx (d:=0)]
 show rdF b _ (pV b).2.1 (pV b).2.2 _=_
 rw [zDx (d:=0)]
 show rdF b _ (pT b).2.1 (pT b).2.2 _=_
 rw [zDx (d := -1)]
 rfl
theorem zLi {names:List (List Int)} {stacks:List zN} {b:List Int} (hb:∀ x∈b,x7 x) (hl:b.length≤100000):zCS 200000 names stacks b=some (tW names stacks b):=by
 unfold zCS tW
 rw [show pI 200000 names stacks=some (uW names stacks) from zCY,zbs]
 by_cases hc:uW names stacks≠0
 ·rw [xW hc,if_pos hc];rfl
 rw [xD (by omega),cond_false,if_neg hc]
 rw [show zCA 200000 b 2=_ from zHD (c:=2) hb hl (by omega),zbs,show rdN b 2 0 []=rdF b 0 (uN b).2.1 (uN b).2.2 [(y0 b).1,(uN b).1] from zNZ]
 by_cases ha:(uN b).2.2≠0
 ·have hF:kN b≠0:=by unfold kN;rw [if_neg (fun h=>ha h.1)];exact ha
  have hS:(wO b).2.2=kN b:=by
   have h1:(vQ b).2.2=kN b:=j5 hF
   have h2:(pV b).2.2=kN b:=(j5 (by rw [h1];exact hF)).trans h1
   have h3:(pT b).2.2=kN b:=(j5 (by rw [h2];exact hF)).trans h2
   exact (j5 (by rw [h3];exact hF)).trans h3
  have hG:kN b=(uN b).2.2:=by unfold kN;rw [if_neg (fun h=>ha h.1)]
  rw [show rdF b 0 (uN b).2.1 (uN b).2.2 [(y0 b).1,(uN b).1]=.inr (uN b).2.2 from if_pos ha]
  rw [hS,if_pos hF,hG]
  show (bif ((uN b).2.2 != 0) then _ else _)=_
  rw [xW ha];rfl
 have ha0:(uN b).2.2=0:=by omega
 rw [show rdF b 0 (uN b).2.1 (uN b).2.2 [(y0 b).1,(uN b).1]=.inl ((uN b).2.1,[(y0 b).1,(uN b).1]) from if_neg ha]
 show (Option.bind (bif decide ((y0 b).1<1) then some true else some (decide ((y0 b).1>12))) fun p_1=>bif p_1 then _ else (zDt (y0 b).1).bind _)=_
 by_cases hk:(y0 b).1<1∨(y0 b).1>12
 ·have hF:kN b=10:=by unfold kN;rw [if_pos ⟨ha0,hk⟩]
  have hF':kN b≠0:=by omega
  have hS:(wO b).2.2=kN b:=by
   have h1:(vQ b).2.2=kN b:=j5 hF'
   have h2:(pV b).2.2=kN b:=(j5 (by rw [h1];exact hF')).trans h1
   have h3:(pT b).2.2=kN b:=(j5 (by rw [h2];exact hF')).trans h2
   exact (j5 (by rw [h3];exact hF')).trans h3
  rw [hS,hF,if_pos (by omega)]
  rcases hk with hk | hk
  ·rw [yW hk];rfl
  ·rw [yI (show ¬ (y0 b).1<1 by omega),yW hk];rfl
 have hF:(uN b).2.2=kN b:=by unfold kN;rw [if_neg (fun h=>hk h.2)]
 rw [yI (show ¬ (y0 b).1<1 by omega),yI (show ¬ (y0 b).1>12 by omega),cond_false,zbs,cond_false,zHH (by omega),zbs]
 have hcnt:zJ ((zJ ((zJ ((zJ ((2:Int)+(tO (y5 (y0 b).1):Int)))+(tO (vH (y0 b).1):Int)))+(tO (v4 (y0 b).1):Int)))+(tO (xM (y0 b).1):Int))=((0+tO (xM (y0 b).1)+tO (v4 (y0 b).1)+tO (vH (y0 b).1)+tO (y5 (y0 b).1)+2:Nat):Int):=by
  cases y5 (y0 b).1<;>cases vH (y0 b).1<;>cases v4 (y0 b).1<;>cases xM (y0 b).1<;>rfl
 have hcl:0+tO (xM (y0 b).1)+tO (v4 (y0 b).1)+tO (vH (y0 b).1)+tO (y5 (y0 b).1)+2≤10:=by
  cases y5 (y0 b).1<;>cases vH (y0 b).1<;>cases v4 (y0 b).1<;>cases xM (y0 b).1<;>decide
 have ho:∀ c:Bool,zDz c=some (tO c:Int):=by intro c;cases c<;>rfl
 simp only [ho,zbs]
 rw [show zJ (zJ (zJ (zJ ((2:Int)+(tO (y5 (y0 b).1):Int))+(tO (vH (y0 b).1):Int))+(tO (v4 (y0 b).1):Int))+(tO (xM (y0 b).1):Int))=_ from hcnt,zHD hb hl hcl,zbs,zRH hF]
 by_cases hs:(wO b).2.2≠0
 ·rw [if_pos hs,if_pos hs]
  show (bif ((wO b).2.2 != 0) then _ else _)=_
  rw [xW hs];rfl
 rw [if_neg hs,if_neg hs]
 simp only [zRg,bne_self_eq_false,cond_false]
 have d0:y7 (zA6 b) 0=some (y0 b).1:=rfl
 have d1:y7 (zA6 b) 1=some (uN b).1:=rfl
 have d2:y5 (y0 b).1=true→y7 (zA6 b) 2=some (vQ b).1:=fun h=>by unfold zA6;rw [h];rfl
 have d3:vH (y0 b).1=true→y7 (zA6 b) (2+(tO (y5 (y0 b).1):Int))=some (pV b).1:=fun h=>by unfold zA6;rw [h];cases y5 (y0 b).1<;>rfl
 have d4:v4 (y0 b).1=true→y7 (zA6 b) (2+(tO (y5 (y0 b).1):Int)+(tO (vH (y0 b).1):Int))=some (pT b).1:=fun h=>by unfold zA6;rw [h];cases y5 (y0 b).1<;>cases vH (y0 b).1<;>rfl
 have d5:xM (y0 b).1=true→y7 (zA6 b) (2+(tO (y5 (y0 b).1):Int)+(tO (vH (y0 b).1):Int)+(tO (v4 (y0 b).1):Int))=some (wO b).1:=fun h=>by unfold zA6;rw [h];cases y5 (y0 b).1<;>cases vH (y0 b).1<;>cases v4 (y0 b).1<;>rfl
 refine zEz _ d0 (zEz _ d1 ?_)
 have hcc:uW names stacks=0:=by omega
 refine zEz (if y5 (y0 b).1=true∧((vQ b).1<0∨(vQ b).1≥names.length) then Sum.inr (ev0,0,2) else Sum.inl (2+(tO (y5 (y0 b).1):Int),if y5 (y0 b).1 then (names[(vQ b).1.toNat]?).getD [] else [])) ?_ ?_
 ·cases hu:y5 (y0 b).1
  ·rw [if_neg (by simp)];rfl
  ·rw [cond_true,d2 hu]
   simp only [zbs,true_and]
   by_cases h1:(vQ b).1<0
   ·rw [yW h1,if_pos (by omega)];rfl
   rw [yI h1,cond_false,zbs]
   by_cases h2:(vQ b).1≥names.length
   ·rw [yW h2,if_pos (by omega)];rfl
   rw [yI h2,if_neg (by omega),cond_false,zN7 (by omega),List.getElem?_eq_getElem (by omega)];rfl
 by_cases hn:y5 (y0 b).1=true∧((vQ b).1<0∨(vQ b).1≥names.length)
 ·rw [if_pos hn,if_pos hn]
 rw [if_neg hn,if_neg hn]
 simp only
 refine zEz (2+(tO (y5 (y0 b).1):Int)+(tO (vH (y0 b).1):Int),(pV b).1) ?_ ?_
 ·cases hu:vH (y0 b).1
  ·show some (_,(0:Int))=_
   rw [show (pV b).1=0 by unfold pV jW;rw [hu];rfl]
   simp [tO]
  ·rw [cond_true,d3 hu]
   cases y5 (y0 b).1<;>rfl
 refine zEz (2+(tO (y5 (y0 b).1):Int)+(tO (vH (y0 b).1):Int)+(tO (v4 (y0 b).1):Int),(pT b).1) ?_ ?_
 ·simp only
  cases hu:v4 (y0 b).1
  ·show some (_,(0:Int))=_
   rw [show (pT b).1=0 by unfold pT jW;rw [hu];rfl]
   simp [tO]
  ·rw [cond_true,d4 hu]
   cases y5 (y0 b).1<;>cases vH (y0 b).1<;>rfl
 refine zEz (if (wO b).1 < -1∨(wO b).1≥stacks.length then Sum.inr (ev0,0,2) else Sum.inl (nZ names stacks (wO b).1).1) ?_ ?_
 ·simp only
  cases hu:xM (y0 b).1
  ·have h0:(wO b).1 = -1:=by unfold wO jW;rw [hu];rfl
   rw [h0,if_neg (by omega)]
   unfold nZ
   rw [if_neg (by omega),if_neg (by omega),zF8];rfl
  ·rw [cond_true,d5 hu,zbs,zMq,zbs]
   unfold nZ
   rw [if_neg (by omega)]
   by_cases h1:(wO b).1 < -1∨(wO b).1≥stacks.length
   ·rw [if_pos h1,if_pos h1];rfl
   ·rw [if_neg h1,if_neg h1];rfl
 by_cases h3:(wO b).1 < -1∨(wO b).1≥stacks.length
 ·rw [if_pos h3,if_pos h3]
 rw [if_neg h3,if_neg h3]
 show ((zAK 200000 (zD9 names stacks b)).bind _)=_
 rw [zEX,zbs]
 by_cases h4:evS (zD9 names stacks b)≠0
 ·rw [xW h4,if_pos h4];rfl
 ·rw [xD (by omega),if_neg h4];rfl
end Go.Ab
