/- Plain laws of the functions tL this seat's, laid anew from another seat's text. No conditions but those that the theorems name. -/
import Derived.Test.YtdpgdpjoemdkjaaP10xD
import Derived.Test.YtdpgdpjoemdkjaaB10a
import Derived.Test.YtdpgdpjoemdkjaaB10b
import Derived.Test.YtdpgdpjoemdkjaaB10c
import Derived.Test.YtdpgdpjoemdkjaaB10d
import Derived.Test.YtdpgdpjoemdkjaaB10e
namespace Go.Ab
open Go
set_option linter.unusedVariables false
def qZ (c:Bool) (d:Int) (b:List Int) (u f:Int):Int×Int×Int:=if c then t5 b u f else (d,u,f)
def ev0:zL:=⟨0,0,[],0,0,[]⟩
def yY (b:List Int):Int×Int×Int:=t5 b 0 0
def v5 (b:List Int):Int×Int×Int:=t5 b (yY b).2.1 (yY b).2.2
def jV (b:List Int):Int:=if (v5 b).2.2=0∧((yY b).1<1∨(yY b).1>12) then 10 else (v5 b).2.2
def w4 (b:List Int):Int×Int×Int:=qZ (y0 (yY b).1) 0 b (v5 b).2.1 (jV b)
def kZ (b:List Int):Int×Int×Int:=qZ (wV (yY b).1) 0 b (w4 b).2.1 (w4 b).2.2
def kU (b:List Int):Int×Int×Int:=qZ (vE (yY b).1) 0 b (kZ b).2.1 (kZ b).2.2
def wI (b:List Int):Int×Int×Int:=qZ (xI (yY b).1) (-1) b (kU b).2.1 (kU b).2.2
def zD9 (names:List (List Int)) (stacks:List zO) (b:List Int):zL :=
 ⟨(v5 b).1,(yY b).1,if y0 (yY b).1 then (names[(w4 b).1.toNat]?).getD [] else [],(kZ b).1,(kU b).1,(nI names stacks (wI b).1).1⟩
def uZ (names:List (List Int)) (stacks:List zO) (b:List Int):zL×Int×Int :=
 if uA names stacks≠0 then (ev0,0,1) else
 if (wI b).2.2≠0 then (ev0,0,(wI b).2.2) else
 if y0 (yY b).1=true∧((w4 b).1<0∨(w4 b).1≥names.length) then (ev0,0,2) else
 if (wI b).1 < -1∨(wI b).1≥stacks.length then (ev0,0,2) else
 if evS (zD9 names stacks b)≠0 then (ev0,0,10) else (zD9 names stacks b,(wI b).2.1,0)
theorem zEc {c:Bool} {d:Int} {b:List Int} {u f:Int} (hb:∀ x∈b,x4 x) (h0:0≤u) (h1:u≤b.length):u≤(qZ c d b u f).2.1∧(qZ c d b u f).2.1≤b.length:=by
 unfold qZ
 split
 ·exact ⟨(zBC hb h0 h1).2.1,(zBC hb h0 h1).2.2.1⟩
 ·exact ⟨Int.le_refl _,h1⟩
theorem zF9 {b:List Int} {u f:Int} (h:f≠0):t5 b u f=(0,u,f):=if_pos h
theorem jD {c:Bool} {d:Int} {b:List Int} {u f:Int} (h:f≠0):(qZ c d b u f).2.2=f:=by
 unfold qZ;split
 ·rw [zF9 h]
 ·rfl
theorem zFi {c:Bool} {d:Int} {b:List Int} {u f:Int} (h:(qZ c d b u f).2.2=0):f=0:=by
 by_cases hf:f=0
 ·exact hf
 ·rw [jD hf] at h;exact h
theorem zOr {b:List Int} (hb:∀ x∈b,x4 x) :
  (0≤(yY b).2.1∧(yY b).2.1≤b.length)∧(0≤(v5 b).2.1∧(v5 b).2.1≤b.length)∧(0≤(w4 b).2.1∧(w4 b).2.1≤b.length)∧(0≤(kZ b).2.1∧(kZ b).2.1≤b.length)∧(0≤(kU b).2.1∧(kU b).2.1≤b.length)∧(0≤(wI b).2.1∧(wI b).2.1≤b.length):=by
 have k:=zBC (u:=0) (f:=0) hb (by omega) (by omega)
 have a:=zBC (u:=(yY b).2.1) (f:=(yY b).2.2) hb (by unfold yY;omega) (by unfold yY;omega)
 have n1:_:=zEc (c:=y0 (yY b).1) (d:=0) (u:=(v5 b).2.1) (f:=jV b) hb (by unfold v5;have:=k.2;unfold yY at *;omega) (by unfold v5;omega)
 have ha:0≤(v5 b).2.1:=by unfold v5;have:=k.2.1;unfold yY at *;omega
 have n2:=zEc (c:=wV (yY b).1) (d:=0) (u:=(w4 b).2.1) (f:=(w4 b).2.2) hb (by unfold w4;omega) (by unfold w4;omega)
 have h2:0≤(w4 b).2.1:=by unfold w4;omega
 have n3:=zEc (c:=vE (yY b).1) (d:=0) (u:=(kZ b).2.1) (f:=(kZ b).2.2) hb (by unfold kZ;omega) (by unfold kZ;omega)
 have h3:0≤(kZ b).2.1:=by unfold kZ;omega
 have n4:=zEc (c:=xI (yY b).1) (d := -1) (u:=(kU b).2.1) (f:=(kU b).2.2) hb (by unfold kU;omega) (by unfold kU;omega)
 have h4:0≤(kU b).2.1:=by unfold kU;omega
 exact ⟨⟨k.2.1,k.2.2.1⟩,⟨ha,a.2.2.1⟩,⟨h2,n1.2⟩,⟨h3,n2.2⟩,⟨h4,n3.2⟩,⟨by unfold wI;omega,n4.2⟩⟩
theorem zHM {names:List (List Int)} {stacks:List zO} {b:List Int} (hb:∀ x∈b,x4 x) (hl:b.length≤100000):zAM 200000 names stacks b=some (uZ names stacks b):=by
 unfold zAM uZ
 rw [zA5,zbs]
 by_cases hc:uA names stacks≠0
 ·rw [xQ hc,if_pos hc];rfl
 rw [xE (by omega),cond_false,if_neg hc]
 obtain ⟨⟨k0,k1⟩,⟨a0,a1⟩,⟨m0,m1⟩,⟨n0,n1⟩,⟨p0,p1⟩,_⟩:=zOr hb
 rw [p7 hb hl (by omega) (by omega),zbs]
 show (wZ 200000 ⟨b,(yY b).2.1,(yY b).2.2⟩).bind _=_
 rw [p7 hb hl k0 k1,zbs]
 have hf:(((bif (((v5 b).2.2==(0:Int))&&(decide ((yY b).1<(1:Int))||decide ((yY b).1>(12:Int)))) then some (10:Int) else some (v5 b).2.2):Option Int))=some (jV b):=by
  unfold jV
  by_cases h1:(v5 b).2.2=0
  ·by_cases h2:(yY b).1<1∨(yY b).1>12
   ·rw [if_pos ⟨h1,h2⟩,zOG h2,h1];rfl
   ·rw [if_neg (fun h=>h2 h.2),zQj h2,h1];rfl
  ·rw [if_neg (fun h=>h1 h.1),show ((v5 b).2.2==(0:Int))=false by simpa using h1];rfl
 refine (congrArg (fun o=>Option.bind o _) hf).trans ?_
 rw [zbs]
 show (some (y0 (yY b).1,wV (yY b).1,vE (yY b).1,xI (yY b).1)).bind _=_
 rw [zbs]
 have hA:∀ (c:Bool) (d u f:Int),0≤u→u≤b.length→(bif c then (wZ 200000 (⟨b,u,f⟩:xJ)).bind (fun r_5=>some (r_5.1,r_5.2.b,r_5.2.used,r_5.2.fault)) else some (d,b,u,f))=some ((qZ c d b u f).1,b,(qZ c d b u f).2.1,(qZ c d b u f).2.2):=by
  intro c d u f h0 h1
  cases c
  ·rfl
  ·rw [cond_true,p7 hb hl h0 h1,zbs];rfl
 have hB:∀ (c:Bool) (d u f:Int),0≤u→u≤b.length→(bif c then (wZ 200000 (⟨b,u,f⟩:xJ)).bind (fun r_5=>some (r_5.2.b,r_5.2.used,r_5.2.fault,r_5.1)) else some (b,u,f,d))=some (b,(qZ c d b u f).2.1,(qZ c d b u f).2.2,(qZ c d b u f).1):=by
  intro c d u f h0 h1
  cases c
  ·rfl
  ·rw [cond_true,p7 hb hl h0 h1,zbs];rfl
 refine (congrArg (fun o=>Option.bind o _) (hA (y0 (yY b).1) 0 (v5 b).2.1 (jV b) a0 a1)).trans ?_
 rw [zbs]
 refine (congrArg (fun o=>Option.bind o _) (hB (wV (yY b).1) 0 (w4 b).2.1 (w4 b).2.2 m0 m1)).trans ?_
 rw [zbs]
 refine (congrArg (fun o=>Option.bind o _) (hB (vE (yY b).1) 0 (kZ b).2.1 (kZ b).2.2 n0 n1)).trans ?_
 rw [zbs]
 refine (congrArg (fun o=>Option.bind o _) (hA (xI (yY b).1) (-1) (kU b).2.1 (kU b).2.2 p0 p1)).trans ?_
 rw [zbs]
 show (Option.bind (bif ((wI b).2.2 != 0) then _ else (bif (y0 (yY b).1&&(decide ((w4 b).1<0)||decide ((w4 b).1≥names.length))) then _ else (bif (decide ((wI b).1 < -1)||decide ((wI b).1≥stacks.length)) then _ else _))) _)=_
 by_cases h1:(wI b).2.2≠0
 ·rw [xQ h1,if_pos h1];rfl
 rw [xE (by omega),cond_false,if_neg h1]
 by_cases h2:y0 (yY b).1=true∧((w4 b).1<0∨(w4 b).1≥names.length)
 ·rw [if_pos h2,h2.1,zOG h2.2];rfl
 rw [if_neg h2,show (y0 (yY b).1&&(decide ((w4 b).1<0)||decide ((w4 b).1≥names.length)))=false by
  cases hu:y0 (yY b).1
  ·rfl
  ·rw [Bool.true_and];exact zQj (fun h=>h2 ⟨hu,h⟩)]
 rw [cond_false]
 by_cases h3:(wI b).1 < -1∨(wI b).1≥stacks.length
 ·rw [if_pos h3,zOG h3];rfl
 rw [if_neg h3,zQj h3,cond_false,zbs]
 have hn:(((bif y0 (yY b).1 then (y2 names (w4 b).1).bind fun x_1=>some x_1 else some ([]:List Int)):Option (List Int)))=some (if y0 (yY b).1 then (names[(w4 b).1.toNat]?).getD [] else []):=by
  cases hu:y0 (yY b).1
  ·rfl
  ·rw [hu] at h2
   simp only [true_and] at h2
   rw [cond_true,zNJ (by omega),List.getElem?_eq_getElem (by omega)];rfl
 refine (congrArg (fun o=>Option.bind o _) hn).trans ?_
 rw [zbs]
 show ((n5 200000 names stacks (wI b).1).bind _)=_
 rw [zIG,zbs]
 show ((pG 200000 (zD9 names stacks b)).bind _)=_
 rw [zDr,zbs]
 by_cases h4:evS (zD9 names stacks b)≠0
 ·rw [xQ h4,if_pos h4];rfl
 ·rw [xE (by omega),if_neg h4];rfl
theorem zEv {α β:Type} {A:Option α} {f:α→Option β} {r:Option β} (x:α) (h:A=some x) (hr:f x=r):A.bind f=r:=by rw [h];exact hr
def rdN (b:List Int):Nat→Int→List Int→(Int×List Int)⊕Int
 | 0,u,row=>.inl (u,row)
 | k+1,u,row=>if (t5 b u 0).2.2≠0 then .inr (t5 b u 0).2.2 else rdN b k (t5 b u 0).2.1 (row++[(t5 b u 0).1])
def zQR (o:(Int×List Int)⊕Int):List Int×Int×Int:=match o with | .inl q=>(q.2,q.1,0) | .inr e=>([],0,e)
def zQO (o:(Int×List Int)⊕Int):(Int×List Int)⊕(List Int×Int×Int):=match o with | .inl q=>.inl q | .inr e=>.inr ([],0,e)
theorem zPp {b:List Int} {c:Nat} (hb:∀ x∈b,x4 x) (hl:b.length≤100000) (hc:c≤10):∀ (k n i:Nat) (u:Int) (row:List Int),i+k=c→k<n→0≤u→u≤b.length→row.length=i →
  zAU 200000 b (c:Int) n u (i:Nat) row=some (zQO (rdN b k u row)):=by
 intro k
 induction k with
 | zero =>
  intro n i u row hi hn h0 h1 hr
  obtain ⟨m,rfl⟩:∃ m,n=m+1:=⟨n - 1,by omega⟩
  show qM _ _ _ _ _ _ _=_
  unfold qM
  rw [yF (by omega)];rfl
 | succ k ih =>
  intro n i u row hi hn h0 h1 hr
  obtain ⟨m,rfl⟩:∃ m,n=m+1:=⟨n - 1,by omega⟩
  show qM _ _ _ _ _ _ _=_
  unfold qM
  have hq:=zBC (f:=0) hb h0 h1
  have hN:t5 b u 0=((vrd (b.drop u.toNat) 0 0).1,u+(vrd (b.drop u.toNat) 0 0).2.1,(vrd (b.drop u.toNat) 0 0).2.2):=rfl
  rw [yR (by omega),cond_true,xA ⟨h0,h1⟩,zbs,zM9 b h0,zIN (zG2 hb _) (by rw [List.length_drop];omega) (by omega),zbs]
  show (bif ((t5 b u 0).2.2 != 0) then _ else _)=some (zQO (if (t5 b u 0).2.2≠0 then _ else _))
  by_cases h:(t5 b u 0).2.2≠0
  ·rw [xQ h,if_pos h];rfl
  ·have:=ih m (i+1) (t5 b u 0).2.1 (row++[(t5 b u 0).1]) (by omega) (by omega) (by omega) (by omega) (by simp [hr])
   rw [xE (by omega),if_neg h,cond_false,xA (by simp;omega),zbs,vK (by omega),← this,w64 (by rw [hN] at hq;simp only at hq;omega) (by rw [hN] at hq;simp only at hq;omega)]
   rfl
theorem zHr {b:List Int} {c:Nat} (hb:∀ x∈b,x4 x) (hl:b.length≤100000) (hc:c≤10):zCp 200000 b (c:Int)=some (zQR (rdN b c 0 [])):=by
 unfold zCp
 have:=zPp hb hl hc c 200000 0 0 [] (by omega) (by omega) (by omega) (by omega) rfl
 rw [show zAU 200000 b (c:Int) 200000 0 0 []=_ from this,zbs]
 cases rdN b c 0 []<;>rfl
def rdF (b:List Int) (k:Nat) (u f:Int) (row:List Int):(Int×List Int)⊕Int:=if f≠0 then .inr f else rdN b k u row
def uT (c:Bool):Nat:=if c then 1 else 0
theorem zDn {b:List Int} {c:Bool} {d:Int} {k:Nat} {u f:Int} {row:List Int} :
  rdF b (k+uT c) u f row=rdF b k (qZ c d b u f).2.1 (qZ c d b u f).2.2 (row++if c then [(qZ c d b u f).1] else []):=by
 by_cases hf:f≠0
 ·unfold rdF;rw [if_pos hf,if_pos (by rw [jD hf];exact hf),jD hf]
 ·have h0:f=0:=by omega
  subst h0
  cases c
  ·simp [qZ,uT]
  ·show rdF b (k+1) u 0 row=rdF b k (t5 b u 0).2.1 (t5 b u 0).2.2 (row++[(t5 b u 0).1])
   unfold rdF
   rw [if_neg (by simp)];rfl
theorem zNK {b:List Int} {k:Nat}:rdN b (k+2) 0 []=rdF b k (v5 b).2.1 (v5 b).2.2 [(yY b).1,(v5 b).1]:=by
 have h1:=zDn (b:=b) (c:=true) (d:=0) (k:=k+1) (u:=0) (f:=0) (row:=[])
 have h2:=zDn (b:=b) (c:=true) (d:=0) (k:=k) (u:=(yY b).2.1) (f:=(yY b).2.2) (row:=[(yY b).1])
 exact h1.trans h2
def zAK (b:List Int):List Int:=[(yY b).1,(v5 b).1]++(if y0 (yY b).1 then [(w4 b).1] else [])++(if wV (yY b).1 then [(kZ b).1] else [])++(if vE (yY b).1 then [(kU b).1] else [])++(if xI (yY b).1 then [(wI b).1] else [])
theorem zRc {b:List Int} (h:(v5 b).2.2=jV b):rdN b (0+uT (xI (yY b).1)+uT (vE (yY b).1)+uT (wV (yY b).1)+uT (y0 (yY b).1)+2) 0 [] =
  if (wI b).2.2≠0 then .inr (wI b).2.2 else .inl ((wI b).2.1,zAK b):=by
 rw [zNK,h,zDn (d:=0)]
 show rdF b _ (w4 b).2.1 (w4 b).2.2 _=_
 rw [zDn (d:=0)]
 show rdF b _ (kZ b).2.1 (kZ b).2.2 _=_
 rw [zDn (d:=0)]
 show rdF b _ (kU b).2.1 (kU b).2.2 _=_
 rw [zDn (d := -1)]
 rfl
theorem zKy {names:List (List Int)} {stacks:List zO} {b:List Int} (hb:∀ x∈b,x4 x) (hl:b.length≤100000):zCR 200000 names stacks b=some (uZ names stacks b):=by
 unfold zCR uZ
 rw [show kE 200000 names stacks=some (uA names stacks) from zCT,zbs]
 by_cases hc:uA names stacks≠0
 ·rw [xQ hc,if_pos hc];rfl
 rw [xE (by omega),cond_false,if_neg hc]
 rw [show zCp 200000 b 2=_ from zHr (c:=2) hb hl (by omega),zbs,show rdN b 2 0 []=rdF b 0 (v5 b).2.1 (v5 b).2.2 [(yY b).1,(v5 b).1] from zNK]
 by_cases ha:(v5 b).2.2≠0
 ·have hF:jV b≠0:=by unfold jV;rw [if_neg (fun h=>ha h.1)];exact ha
  have hS:(wI b).2.2=jV b:=by
   have h1:(w4 b).2.2=jV b:=jD hF
   have h2:(kZ b).2.2=jV b:=(jD (by rw [h1];exact hF)).trans h1
   have h3:(kU b).2.2=jV b:=(jD (by rw [h2];exact hF)).trans h2
   exact (jD (by rw [h3];exact hF)).trans h3
  have hG:jV b=(v5 b).2.2:=by unfold jV;rw [if_neg (fun h=>ha h.1)]
  rw [show rdF b 0 (v5 b).2.1 (v5 b).2.2 [(yY b).1,(v5 b).1]=.inr (v5 b).2.2 from if_pos ha]
  rw [hS,if_pos hF,hG]
  show (bif ((v5 b).2.2 != 0) then _ else _)=_
  rw [xQ ha];rfl
 have ha0:(v5 b).2.2=0:=by omega
 rw [show rdF b 0 (v5 b).2.1 (v5 b).2.2 [(yY b).1,(v5 b).1]=.inl ((v5 b).2.1,[(yY b).1,(v5 b).1]) from if_neg ha]
 show (Option.bind (bif decide ((yY b).1<1) then some true else some (decide ((yY b).1>12))) fun p_1=>bif p_1 then _ else (zDm (yY b).1).bind _)=_
 by_cases hk:(yY b).1<1∨(yY b).1>12
 ·have hF:jV b=10:=by unfold jV;rw [if_pos ⟨ha0,hk⟩]
  have hF':jV b≠0:=by omega
  have hS:(wI b).2.2=jV b:=by
   have h1:(w4 b).2.2=jV b:=jD hF'
   have h2:(kZ b).2.2=jV b:=(jD (by rw [h1];exact hF')).trans h1
   have h3:(kU b).2.2=jV b:=(jD (by rw [h2];exact hF')).trans h2
   exact (jD (by rw [h3];exact hF')).trans h3
  rw [hS,hF,if_pos (by omega)]
  rcases hk with hk | hk
  ·rw [yR hk];rfl
  ·rw [yF (show ¬ (yY b).1<1 by omega),yR hk];rfl
 have hF:(v5 b).2.2=jV b:=by unfold jV;rw [if_neg (fun h=>hk h.2)]
 rw [yF (show ¬ (yY b).1<1 by omega),yF (show ¬ (yY b).1>12 by omega),cond_false,zbs,cond_false,zHE (by omega),zbs]
 have hcnt:zI ((zI ((zI ((zI ((2:Int)+(uT (y0 (yY b).1):Int)))+(uT (wV (yY b).1):Int)))+(uT (vE (yY b).1):Int)))+(uT (xI (yY b).1):Int))=((0+uT (xI (yY b).1)+uT (vE (yY b).1)+uT (wV (yY b).1)+uT (y0 (yY b).1)+2:Nat):Int):=by
  cases y0 (yY b).1<;>cases wV (yY b).1<;>cases vE (yY b).1<;>cases xI (yY b).1<;>rfl
 have hcl:0+uT (xI (yY b).1)+uT (vE (yY b).1)+uT (wV (yY b).1)+uT (y0 (yY b).1)+2≤10:=by
  cases y0 (yY b).1<;>cases wV (yY b).1<;>cases vE (yY b).1<;>cases xI (yY b).1<;>decide
 have ho:∀ c:Bool,zDv c=some (uT c:Int):=by intro c;cases c<;>rfl
 simp only [ho,zbs]
 rw [show zI (zI (zI (zI ((2:Int)+(uT (y0 (yY b).1):Int))+(uT (wV (yY b).1):Int))+(uT (vE (yY b).1):Int))+(uT (xI (yY b).1):Int))=_ from hcnt,zHr hb hl hcl,zbs,zRc hF]
 by_cases hs:(wI b).2.2≠0
 ·rw [if_pos hs,if_pos hs]
  show (bif ((wI b).2.2 != 0) then _ else _)=_
  rw [xQ hs];rfl
 rw [if_neg hs,if_neg hs]
 simp only [zQR,bne_self_eq_false,cond_false]
 have d0:y2 (zAK b) 0=some (yY b).1:=rfl
 have d1:y2 (zAK b) 1=some (v5 b).1:=rfl
 have d2:y0 (yY b).1=true→y2 (zAK b) 2=some (w4 b).1:=fun h=>by unfold zAK;rw [h];rfl
 have d3:wV (yY b).1=true→y2 (zAK b) (2+(uT (y0 (yY b).1):Int))=some (kZ b).1:=fun h=>by unfold zAK;rw [h];cases y0 (yY b).1<;>rfl
 have d4:vE (yY b).1=true→y2 (zAK b) (2+(uT (y0 (yY b).1):Int)+(uT (wV (yY b).1):Int))=some (kU b).1:=fun h=>by unfold zAK;rw [h];cases y0 (yY b).1<;>cases wV (yY b).1<;>rfl
 have d5:xI (yY b).1=true→y2 (zAK b) (2+(uT (y0 (yY b).1):Int)+(uT (wV (yY b).1):Int)+(uT (vE (yY b).1):Int))=some (wI b).1:=fun h=>by unfold zAK;rw [h];cases y0 (yY b).1<;>cases wV (yY b).1<;>cases vE (yY b).1<;>rfl
 refine zEv _ d0 (zEv _ d1 ?_)
 have hcc:uA names stacks=0:=by omega
 refine zEv (if y0 (yY b).1=true∧((w4 b).1<0∨(w4 b).1≥names.length) then Sum.inr (ev0,0,2) else Sum.inl (2+(uT (y0 (yY b).1):Int),if y0 (yY b).1 then (names[(w4 b).1.toNat]?).getD [] else [])) ?_ ?_
 ·cases hu:y0 (yY b).1
  ·rw [if_neg (by simp)];rfl
  ·rw [cond_true,d2 hu]
   simp only [zbs,true_and]
   by_cases h1:(w4 b).1<0
   ·rw [yR h1,if_pos (by omega)];rfl
   rw [yF h1,cond_false,zbs]
   by_cases h2:(w4 b).1≥names.length
   ·rw [yR h2,if_pos (by omega)];rfl
   rw [yF h2,if_neg (by omega),cond_false,zNJ (by omega),List.getElem?_eq_getElem (by omega)];rfl
 by_cases hn:y0 (yY b).1=true∧((w4 b).1<0∨(w4 b).1≥names.length)
 ·rw [if_pos hn,if_pos hn]
 rw [if_neg hn,if_neg hn]
 simp only
 refine zEv (2+(uT (y0 (yY b).1):Int)+(uT (wV (yY b).1):Int),(kZ b).1) ?_ ?_
 ·cases hu:wV (yY b).1
  ·show some (_,(0:Int))=_
   rw [show (kZ b).1=0 by unfold kZ qZ;rw [hu];rfl]
   simp [uT]
  ·rw [cond_true,d3 hu]
   cases y0 (yY b).1<;>rfl
 refine zEv (2+(uT (y0 (yY b).1):Int)+(uT (wV (yY b).1):Int)+(uT (vE (yY b).1):Int),(kU b).1) ?_ ?_
 ·simp only
  cases hu:vE (yY b).1
  ·show some (_,(0:Int))=_
   rw [show (kU b).1=0 by unfold kU qZ;rw [hu];rfl]
   simp [uT]
  ·rw [cond_true,d4 hu]
   cases y0 (yY b).1<;>cases wV (yY b).1<;>rfl
 refine zEv (if (wI b).1 < -1∨(wI b).1≥stacks.length then Sum.inr (ev0,0,2) else Sum.inl (nI names stacks (wI b).1).1) ?_ ?_
 ·simp only
  cases hu:xI (yY b).1
  ·have h0:(wI b).1 = -1:=by unfold wI qZ;rw [hu];rfl
   rw [h0,if_neg (by omega)]
   unfold nI
   rw [if_neg (by omega),if_neg (by omega),zFX];rfl
  ·rw [cond_true,d5 hu,zbs,zMt,zbs]
   unfold nI
   rw [if_neg (by omega)]
   by_cases h1:(wI b).1 < -1∨(wI b).1≥stacks.length
   ·rw [if_pos h1,if_pos h1];rfl
   ·rw [if_neg h1,if_neg h1];rfl
 by_cases h3:(wI b).1 < -1∨(wI b).1≥stacks.length
 ·rw [if_pos h3,if_pos h3]
 rw [if_neg h3,if_neg h3]
 show ((zAm 200000 (zD9 names stacks b)).bind _)=_
 rw [zEE,zbs]
 by_cases h4:evS (zD9 names stacks b)≠0
 ·rw [xQ h4,if_pos h4];rfl
 ·rw [xE (by omega),if_neg h4];rfl
end Go.Ab
