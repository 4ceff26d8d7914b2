/- Plain laws of the functions tL this seat's, laid anew from another seat's text. No conditions but those that the theorems name. -/
import Derived.Test.YtdpgdpjoemdkjaaP10xD
import Derived.Test.YtdpgdpjoemdkjaaB10a
import Derived.Test.YtdpgdpjoemdkjaaB10b
namespace Go.Ab
open Go
set_option linter.unusedVariables false
def y0 (k:Int):Bool:=(k==1)||((k==3)||(k==4))
def wV (k:Int):Bool:=decide (k≥4)
def vE (k:Int):Bool:=(k==9)||(k==11)
def xI (k:Int):Bool:=(k==5)||(k==11)
def u6 (n lo hi:Int):Int:=if n<lo∨n>hi then 2 else 0
def zE8 (e:zL):Int :=
 if e.Kind=1∨e.Kind=2∨e.Kind=3 then 0 else if e.Kind=4 then u6 e.N (-1000000000000000) 1000000000000000 else if e.Kind=5 then u6 e.N 1 1000000000000 else
 if e.Kind=8 then u6 e.N 0 63 else
 if e.Kind=9 then (if u6 e.N 0 3=0∧e.N=2 then u6 e.M 0 1000000000000000 else if u6 e.N 0 3=0∧e.M≠0 then 1 else u6 e.N 0 3) else
 if u6 e.N 0 1000000000000000=0∧e.Kind=11 then u6 e.M 1 1000000000000 else u6 e.N 0 1000000000000000
def zCI (e:zL):Bool :=
 (!y0 e.Kind&&!(e.Name==[]))||((!wV e.Kind&&(e.N != 0))||((!vE e.Kind&&(e.M != 0))||(!xI e.Kind&&decide (0<e.Stack.length))))
def zD0 (e:zL):Int:=if y0 e.Kind then uG e.Name else if xI e.Kind then t9 e.Stack else 0
def evS (e:zL):Int :=
 if e.At<0∨e.At>1000000000000 then 2 else if e.Kind<1∨e.Kind>12 then 1 else if zCI e then 1 else if zD0 e≠0 then zD0 e else zE8 e
theorem zKR {n lo hi:Int}:jE n lo hi=some (u6 n lo hi):=by
 unfold jE u6
 by_cases h:n<lo∨n>hi
 ·rw [if_pos h]
  have:(decide (n<lo)||decide (n>hi))=true:=by simpa using h
  rw [this];rfl
 ·rw [if_neg h]
  have:(decide (n<lo)||decide (n>hi))=false:=by simp;omega
  rw [this];rfl
theorem zJr {e:zL}:zBZ e=some (zE8 e):=by
 unfold zBZ zE8
 simp only [zKR,zbs,Bool.cond_eq_ite,beq_iff_eq,Bool.and_eq_true,bne_iff_ne]
 by_cases h1:e.Kind=1
 ·simp [h1]
 by_cases h2:e.Kind=2
 ·simp [h2]
 by_cases h3:e.Kind=3
 ·simp [h3]
 by_cases h4:e.Kind=4
 ·simp [h4]
 by_cases h5:e.Kind=5
 ·simp [h5]
 by_cases h8:e.Kind=8
 ·simp [h8]
 by_cases h9:e.Kind=9
 ·generalize u6 e.N 0 3=x
  generalize u6 e.M 0 1000000000000000=y
  generalize u6 e.N 0 1000000000000000=z
  by_cases g1:x=0<;>by_cases g2:e.N=2<;>by_cases g3:e.M=0<;>simp [h9,g1,g2,g3]
 ·generalize u6 e.N 0 1000000000000000=x
  by_cases g1:x=0<;>by_cases g2:e.Kind=11<;>simp_all
theorem zPh (a b c d p q r s:Bool):((bif !a then (bif !p then some true else (bif !b then (bif q then some true else (bif !c then (bif r then some true else (bif !d then some s else some false)) else (bif !d then some s else some false))) else
  (bif !c then (bif r then some true else (bif !d then some s else some false)) else (bif !d then some s else some false)))) else (bif !b then (bif q then some true else (bif !c then (bif r then some true else (bif !d then some s else some false)) else (bif !d then some s else some false))) else
  (bif !c then (bif r then some true else (bif !d then some s else some false)) else (bif !d then some s else some false)))):Option Bool)=some ((!a&&!p)||((!b&&q)||((!c&&r)||(!d&&s)))):=by
 cases a<;>cases b<;>cases c<;>cases d<;>cases p<;>cases q<;>cases r<;>cases s<;>rfl
theorem zId (e:zL):zCI e=((!y0 e.Kind&&!(e.Name==([]:List Int)))||((!wV e.Kind&&(e.N != (0:Int)))||((!vE e.Kind&&(e.M != (0:Int)))||(!xI e.Kind&&decide ((((e.Stack).length:Nat):Int)>(0:Int)))))):=by
 unfold zCI
 have:decide (0<e.Stack.length)=decide ((((e.Stack).length:Nat):Int)>(0:Int)):=by
  by_cases h:0<e.Stack.length
  ·rw [yR h,yR (by omega)]
  ·rw [yF h,yF (by omega)]
 rw [this]
theorem zKn (k:Int) (h:y0 k=true):xI k=false:=by
 unfold y0 xI at *
 simp at *
 omega
theorem zEE {e:zL}:zAm 200000 e=some (evS e):=by
 unfold zAm evS
 by_cases h1:e.At<0∨e.At>1000000000000
 ·rw [if_pos h1]
  have:(decide (e.At<(0:Int))||decide (e.At>(1000000000000:Int)))=true:=by simpa using h1
  rw [this];rfl
 rw [if_neg h1]
 have g1:(decide (e.At<(0:Int))||decide (e.At>(1000000000000:Int)))=false:=by simp;omega
 rw [g1,cond_false]
 by_cases h2:e.Kind<1∨e.Kind>12
 ·rw [if_pos h2]
  have:(decide (e.Kind<(1:Int))||decide (e.Kind>(12:Int)))=true:=by simpa using h2
  rw [this];rfl
 rw [if_neg h2]
 have g2:(decide (e.Kind<(1:Int))||decide (e.Kind>(12:Int)))=false:=by simp;omega
 rw [g2,cond_false]
 rw [show zGa e.Kind=some (y0 e.Kind,wV e.Kind,vE e.Kind,xI e.Kind) from rfl,zbs]
 simp only
 rw [zPh,zbs,← zId]
 cases hb:zCI e
 case true=>rfl
 simp only [cond_false,zCi,zGo,zJr,zbs]
 have hns:=zKn e.Kind
 unfold zD0
 cases hn:y0 e.Kind
 ·cases hs:xI e.Kind
  ·simp
  ·by_cases hf:t9 e.Stack=0
   ·simp [hf]
   ·simp [hf,xQ hf]
 ·rw [hns hn]
  by_cases hf:uG e.Name=0
  ·simp [hf]
  ·simp [hf,xQ hf]
def zBA (k:Int):yL:=(y2 (match zAW with | some l=>l | none=>[]) k).getD ⟨[],false,false,false,false,0,0,0,0⟩
theorem zI2 {k:Int}:zA8 k=some (if k<1∨k>12 then ((⟨[],false,false,false,false,0,0,0,0⟩:yL),false) else (zBA k,true)):=by
 by_cases h:k<1∨k>12
 ·rw [if_pos h]
  unfold zA8 zAW
  rw [zbs]
  exact zQ6 (zOG (show k<1∨k≥((13:Nat):Int) by omega)) rfl
 ·rw [if_neg h]
  have:k=1∨k=2∨k=3∨k=4∨k=5∨k=6∨k=7∨k=8∨k=9∨k=10∨k=11∨k=12:=by omega
  rcases this with h | h | h | h | h | h | h | h | h | h | h | h<;>subst h<;>rfl
theorem zIY {k:Int} (h:1≤k∧k≤12):(zBA k).name=y0 k∧(zBA k).n=wV k∧(zBA k).m=vE k∧(zBA k).stack=xI k:=by
 have:k=1∨k=2∨k=3∨k=4∨k=5∨k=6∨k=7∨k=8∨k=9∨k=10∨k=11∨k=12:=by omega
 rcases this with h | h | h | h | h | h | h | h | h | h | h | h<;>subst h<;>exact ⟨rfl,rfl,rfl,rfl⟩
theorem zNB {l:List (List Int)} (h:¬ 0<l.length):t9 l=0:=by
 have:l=[]:=List.eq_nil_of_length_eq_zero (by omega)
 rw [this];rfl
theorem zND {e:zL} (h:zCI e=false) (hs:xI e.Kind=false):¬ 0<e.Stack.length:=by
 unfold zCI at h
 rw [hs] at h
 simp at h
 simp [h.2.2.2]
theorem zJH {e:zL} (hk:1≤e.Kind∧e.Kind≤12) (hb:zCI e=false):zCh 200000 (zBA e.Kind) e=some (zD0 e):=by
 unfold zCh zD0
 rw [(zIY hk).1,zAh,zE0]
 cases hn:y0 e.Kind
 ·cases hs:xI e.Kind
  ·rw [zNB (zND hb hs)];rfl
  ·rfl
 ·rfl
theorem zOx {e:zL} (hk:1≤e.Kind∧e.Kind≤12) (hb:zCI e=false) :
  (bif ((zBA e.Kind).n&&(decide (e.N<(zBA e.Kind).least)||decide (e.N>(zBA e.Kind).most))) then some (2:Int) else
  (bif ((e.Kind==(9:Int))&&((e.N != (2:Int))&&(e.M != (0:Int)))) then some (1:Int) else
  (bif ((zBA e.Kind).m&&(bif decide (e.M<(zBA e.Kind).mLeast) then ((e.Kind != (9:Int))||(e.N==(2:Int))) else (decide (e.M>(zBA e.Kind).mMost)&&((e.Kind != (9:Int))||(e.N==(2:Int)))))) then some (2:Int) else
  some (0:Int))))=some (zE8 e):=by
 have:e.Kind=1∨e.Kind=2∨e.Kind=3∨e.Kind=4∨e.Kind=5∨e.Kind=6∨e.Kind=7∨e.Kind=8∨e.Kind=9∨e.Kind=10∨e.Kind=11∨e.Kind=12:=by omega
 unfold zE8
 rcases this with h | h | h | h | h | h | h | h | h | h | h | h<;>rw [h]<;>simp [zBA,zAW,y2,u6,Bool.cond_eq_ite]<;>(repeat' split)<;>first | rfl | omega | (simp at *;omega)
theorem zDr {e:zL}:pG 200000 e=some (evS e):=by
 unfold pG evS
 by_cases h1:e.At<0∨e.At>1000000000000
 ·rw [if_pos h1]
  have:(decide (e.At<(0:Int))||decide (e.At>(1000000000000:Int)))=true:=by simpa using h1
  rw [this];rfl
 rw [if_neg h1]
 have g1:(decide (e.At<(0:Int))||decide (e.At>(1000000000000:Int)))=false:=by simp;omega
 rw [g1,cond_false,zI2,zbs]
 by_cases h2:e.Kind<1∨e.Kind>12
 ·rw [if_pos h2,if_pos h2];rfl
 rw [if_neg h2,if_neg h2]
 have hu:=zIY (k:=e.Kind) (by omega)
 simp only [Bool.not_true,cond_false]
 rw [hu.1,hu.2.1,hu.2.2.1,hu.2.2.2,zPh,zbs,← zId]
 cases hb:zCI e
 case true=>rfl
 simp only [cond_false]
 rw [zJH (by omega) hb,zbs]
 by_cases ht:zD0 e=0
 ·rw [xE ht,cond_false,← hu.2.1,← hu.2.2.1,zOx (by omega) hb];simp [ht]
 ·rw [xQ ht,cond_true];simp [ht]
theorem zM0 {a b:List (List Int)} (ha:a.length≤100000):zDN 200000 a b=some (decide (a=b)):=by
 unfold zDN
 by_cases hl:(a.length:Int)≠b.length
 ·rw [xQ hl,cond_true,yF (fun e=>hl (by rw [e]))]
 rw [xE (by omega),cond_false,zPr (a:=a) (b:=b) (zBb 200000 a b) (by omega) ha (fun n i hi=>by
  show t3 _ _ _ _ _=_
  unfold t3
  simp (disch:=omega) only [yF,cond_false]) (fun n i x y r r2 hd hd2 hlt=>by
  show t3 _ _ _ _ _=_
  unfold t3
  simp (disch:=omega) only [yR,cond_true,xZ hd,xZ hd2,zbs,vK]
  by_cases h:x=y
  ·rw [zES h,if_pos h];rfl
  ·rw [zIU h,if_neg h];rfl),zbs]
 by_cases h:a=b
 ·rw [if_pos h,yR h]
 ·rw [if_neg h,yF h]
theorem zQ8 (a b:zL):(bif (a.At==b.At) then (bif (a.Kind==b.Kind) then (bif (a.Name==b.Name) then (bif (a.N==b.N) then (bif (a.M==b.M) then some (decide (a.Stack=b.Stack)) else some false) else some false) else some false) else some false) else some false)=some (decide (a=b)):=by
 by_cases h1:a.At=b.At
 case neg=>rw [zCm h1,yF (p:=a=b) (fun e=>h1 (by rw [e]))];rfl
 by_cases h2:a.Kind=b.Kind
 case neg=>rw [kL h1,zCm h2,yF (p:=a=b) (fun e=>h2 (by rw [e]))];rfl
 by_cases h3:a.Name=b.Name
 case neg=>rw [kL h1,kL h2,zIU h3,yF (p:=a=b) (fun e=>h3 (by rw [e]))];rfl
 by_cases h4:a.N=b.N
 case neg=>rw [kL h1,kL h2,zES h3,zCm h4,yF (p:=a=b) (fun e=>h4 (by rw [e]))];rfl
 by_cases h5:a.M=b.M
 case neg=>rw [kL h1,kL h2,zES h3,kL h4,zCm h5,yF (p:=a=b) (fun e=>h5 (by rw [e]))];rfl
 rw [kL h1,kL h2,zES h3,kL h4,kL h5]
 simp only [cond_true]
 by_cases h6:a.Stack=b.Stack
 ·have:a=b:=by cases a;cases b;simp_all
  rw [yR h6,yR this]
 ·rw [yF h6,yF (p:=a=b) (fun e=>h6 (by rw [e]))]
theorem zNC {a b:zL} (ha:a.Stack.length≤100000):zEz 200000 a b=some (decide (a=b)):=by
 unfold zEz
 simp only [zM0 ha,zbs]
 rw [zQ8,zbs]
end Go.Ab
