/- Plain laws of the functions wU this seat's, laid anew from another seat's text. No conditions but those that the theorems name. -/
import Derived.Test.YtoeengmnmhhpgaaP15xD
import Derived.Test.YtoeengmnmhhpgaaB15a
import Derived.Test.YtoeengmnmhhpgaaB15b
namespace Go.Ab
open Go
set_option linter.unusedVariables false
def vX (k:Int):Bool:=(k==1)||((k==3)||(k==4))
def u4 (k:Int):Bool:=decide (k≥4)
def tH (k:Int):Bool:=(k==9)||(k==11)
def uS (k:Int):Bool:=(k==5)||(k==11)
def pB (n lo hi:Int):Int:=if n<lo∨n>hi then 2 else 0
def fQ (e:y6):Int :=
 if e.Kind=1∨e.Kind=2∨e.Kind=3 then 0 else if e.Kind=4 then pB e.N (-1000000000000000) 1000000000000000 else if e.Kind=5 then pB e.N 1 1000000000000 else
 if e.Kind=8 then pB e.N 0 63 else
 if e.Kind=9 then (if pB e.N 0 3=0∧e.N=2 then pB e.M 0 1000000000000000 else if pB e.N 0 3=0∧e.M≠0 then 1 else pB e.N 0 3) else
 if pB e.N 0 1000000000000000=0∧e.Kind=11 then pB e.M 1 1000000000000 else pB e.N 0 1000000000000000
def bG (e:y6):Bool :=
 (!vX e.Kind&&!(e.Name==[]))||((!u4 e.Kind&&(e.N != 0))||((!tH e.Kind&&(e.M != 0))||(!uS e.Kind&&decide (0<e.Stack.length))))
def bC (e:y6):Int:=if vX e.Kind then uL e.Name else if uS e.Kind then kQ e.Stack else 0
def evS (e:y6):Int :=
 if e.At<0∨e.At>1000000000000 then 2 else if e.Kind<1∨e.Kind>12 then 1 else if bG e then 1 else if bC e≠0 then bC e else fQ e
theorem zCE (a b c d p q r s:Bool):((bif !a then (bif !p then some true else (bif !b then (bif q then some true else (bif !c then (bif r then some true else (bif !d then some s else some false)) else (bif !d then some s else some false))) else
  (bif !c then (bif r then some true else (bif !d then some s else some false)) else (bif !d then some s else some false)))) else (bif !b then (bif q then some true else (bif !c then (bif r then some true else (bif !d then some s else some false)) else (bif !d then some s else some false))) else
  (bif !c then (bif r then some true else (bif !d then some s else some false)) else (bif !d then some s else some false)))):Option Bool)=some ((!a&&!p)||((!b&&q)||((!c&&r)||(!d&&s)))):=by
 cases a<;>cases b<;>cases c<;>cases d<;>cases p<;>cases q<;>cases r<;>cases s<;>rfl
theorem OH (e:y6):bG e=((!vX e.Kind&&!(e.Name==([]:List Int)))||((!u4 e.Kind&&(e.N != (0:Int)))||((!tH e.Kind&&(e.M != (0:Int)))||(!uS e.Kind&&decide ((((e.Stack).length:Nat):Int)>(0:Int)))))):=by
 unfold bG
 have:decide (0<e.Stack.length)=decide ((((e.Stack).length:Nat):Int)>(0:Int)):=by
  by_cases h:0<e.Stack.length
  ·rw [yU h,yU (by omega)]
  ·rw [yO h,yO (by omega)]
 rw [this]
theorem S3 (k:Int) (h:vX k=true):uS k=false:=by
 unfold vX uS at *
 simp at *
 omega
def nY (k:Int):wP:=(xI (match oG with | some l=>l | none=>[]) k).getD ⟨[],false,false,false,false,0,0,0,0⟩
theorem ZB {k:Int}:D0 k=some (if k<1∨k>12 then ((⟨[],false,false,false,false,0,0,0,0⟩:wP),false) else (nY k,true)):=by
 by_cases h:k<1∨k>12
 ·rw [if_pos h]
  unfold D0 oG
  rw [zbs]
  exact JO (AI (show k<1∨k≥((13:Nat):Int) by omega)) rfl
 ·rw [if_neg h]
  have:k=1∨k=2∨k=3∨k=4∨k=5∨k=6∨k=7∨k=8∨k=9∨k=10∨k=11∨k=12:=by omega
  rcases this with h | h | h | h | h | h | h | h | h | h | h | h<;>subst h<;>rfl
theorem QH {k:Int} (h:1≤k∧k≤12):(nY k).name=vX k∧(nY k).n=u4 k∧(nY k).m=tH k∧(nY k).stack=uS k:=by
 have:k=1∨k=2∨k=3∨k=4∨k=5∨k=6∨k=7∨k=8∨k=9∨k=10∨k=11∨k=12:=by omega
 rcases this with h | h | h | h | h | h | h | h | h | h | h | h<;>subst h<;>exact ⟨rfl,rfl,rfl,rfl⟩
theorem Y6 {l:List (List Int)} (h:¬ 0<l.length):kQ l=0:=by
 have:l=[]:=List.eq_nil_of_length_eq_zero (by omega)
 rw [this];rfl
theorem UC {e:y6} (h:bG e=false) (hs:uS e.Kind=false):¬ 0<e.Stack.length:=by
 unfold bG at h
 rw [hs] at h
 simp at h
 simp [h.2.2.2]
theorem XE {e:y6} (hk:1≤e.Kind∧e.Kind≤12) (hb:bG e=false):CZ 281474976710656 (nY e.Kind) e=some (bC e):=by
 unfold CZ bC
 rw [(QH hk).1,BX,SA]
 cases hn:vX e.Kind
 ·cases hs:uS e.Kind
  ·rw [Y6 (UC hb hs)];rfl
  ·rfl
 ·rfl
theorem zAG {e:y6} (hk:1≤e.Kind∧e.Kind≤12) (hb:bG e=false) :
  (bif ((nY e.Kind).n&&(decide (e.N<(nY e.Kind).least)||decide (e.N>(nY e.Kind).most))) then some (2:Int) else
  (bif ((e.Kind==(9:Int))&&((e.N != (2:Int))&&(e.M != (0:Int)))) then some (1:Int) else
  (bif ((nY e.Kind).m&&(bif decide (e.M<(nY e.Kind).mLeast) then ((e.Kind != (9:Int))||(e.N==(2:Int))) else (decide (e.M>(nY e.Kind).mMost)&&((e.Kind != (9:Int))||(e.N==(2:Int)))))) then some (2:Int) else
  some (0:Int))))=some (fQ e):=by
 have:e.Kind=1∨e.Kind=2∨e.Kind=3∨e.Kind=4∨e.Kind=5∨e.Kind=6∨e.Kind=7∨e.Kind=8∨e.Kind=9∨e.Kind=10∨e.Kind=11∨e.Kind=12:=by omega
 unfold fQ
 rcases this with h | h | h | h | h | h | h | h | h | h | h | h<;>rw [h]<;>simp [nY,oG,xI,pB,Bool.cond_eq_ite]<;>(repeat' split)<;>first | rfl | omega | (simp at *;omega)
theorem MF {e:y6}:fI 281474976710656 e=some (evS e):=by
 unfold fI evS
 by_cases h1:e.At<0∨e.At>1000000000000
 ·rw [if_pos h1]
  have:(decide (e.At<(0:Int))||decide (e.At>(1000000000000:Int)))=true:=by simpa using h1
  rw [this];rfl
 rw [if_neg h1]
 have g1:(decide (e.At<(0:Int))||decide (e.At>(1000000000000:Int)))=false:=by simp;omega
 rw [g1,cond_false,ZB,zbs]
 by_cases h2:e.Kind<1∨e.Kind>12
 ·rw [if_pos h2,if_pos h2];rfl
 rw [if_neg h2,if_neg h2]
 have hu:=QH (k:=e.Kind) (by omega)
 simp only [Bool.not_true,cond_false]
 rw [hu.1,hu.2.1,hu.2.2.1,hu.2.2.2,zCE,zbs,← OH]
 cases hb:bG e
 case true=>rfl
 simp only [cond_false]
 rw [XE (by omega) hb,zbs]
 by_cases ht:bC e=0
 ·rw [x8 ht,cond_false,← hu.2.1,← hu.2.2.1,zAG (by omega) hb];simp [ht]
 ·rw [wA ht,cond_true];simp [ht]
theorem zC3 {a b:List (List Int)} (ha:a.length≤140737488355328):AT 281474976710656 a b=some (decide (a=b)):=by
 unfold AT
 by_cases hl:(a.length:Int)≠b.length
 ·rw [wA hl,cond_true,yO (fun e=>hl (by rw [e]))]
 rw [x8 (by omega),cond_false,NF (a:=a) (b:=b) (DO 281474976710656 a b) (by omega) ha (fun n i hi=>by
  show lM _ _ _ _ _=_
  unfold lM
  simp (disch:=omega) only [yO,cond_false]) (fun n i x y r r2 hd hd2 hlt=>by
  show lM _ _ _ _ _=_
  unfold lM
  simp (disch:=omega) only [yU,cond_true,vS hd,vS hd2,zbs,vK]
  by_cases h:x=y
  ·rw [oZ h,if_pos h];rfl
  ·rw [EL h,if_neg h];rfl),zbs]
 by_cases h:a=b
 ·rw [if_pos h,yU h]
 ·rw [if_neg h,yO h]
theorem zCJ (a b:y6):(bif (a.At==b.At) then (bif (a.Kind==b.Kind) then (bif (a.Name==b.Name) then (bif (a.N==b.N) then (bif (a.M==b.M) then some (decide (a.Stack=b.Stack)) else some false) else some false) else some false) else some false) else some false)=some (decide (a=b)):=by
 by_cases h1:a.At=b.At
 case neg=>rw [tA h1,yO (p:=a=b) (fun e=>h1 (by rw [e]))];rfl
 by_cases h2:a.Kind=b.Kind
 case neg=>rw [uE h1,tA h2,yO (p:=a=b) (fun e=>h2 (by rw [e]))];rfl
 by_cases h3:a.Name=b.Name
 case neg=>rw [uE h1,uE h2,EL h3,yO (p:=a=b) (fun e=>h3 (by rw [e]))];rfl
 by_cases h4:a.N=b.N
 case neg=>rw [uE h1,uE h2,oZ h3,tA h4,yO (p:=a=b) (fun e=>h4 (by rw [e]))];rfl
 by_cases h5:a.M=b.M
 case neg=>rw [uE h1,uE h2,oZ h3,uE h4,tA h5,yO (p:=a=b) (fun e=>h5 (by rw [e]))];rfl
 rw [uE h1,uE h2,oZ h3,uE h4,uE h5]
 simp only [cond_true]
 by_cases h6:a.Stack=b.Stack
 ·have:a=b:=by cases a;cases b;simp_all
  rw [yU h6,yU this]
 ·rw [yO h6,yO (p:=a=b) (fun e=>h6 (by rw [e]))]
theorem zDr {a b:y6} (ha:a.Stack.length≤140737488355328):AQ 281474976710656 a b=some (decide (a=b)):=by
 unfold AQ
 simp only [zC3 ha,zbs]
 rw [zCJ,zbs]
end Go.Ab
