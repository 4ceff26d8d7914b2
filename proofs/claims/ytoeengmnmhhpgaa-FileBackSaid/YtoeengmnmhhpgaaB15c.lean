/- Plain laws of the functions w6 this seat's, laid anew from another seat's text. No conditions but those that the theorems name. -/
import Derived.Test.YtoeengmnmhhpgaaP15xD
import Derived.Test.YtoeengmnmhhpgaaB15a
import Derived.Test.YtoeengmnmhhpgaaB15b
namespace Go.Ab
open Go
set_option linter.unusedVariables false
def vV (k:Int):Bool:=(k==1)||((k==3)||(k==4))
def u7 (k:Int):Bool:=decide (k≥4)
def tF (k:Int):Bool:=(k==9)||(k==11)
def uS (k:Int):Bool:=(k==5)||(k==11)
def pV (n lo hi:Int):Int:=if n<lo∨n>hi then 2 else 0
def rH (e:xA):Int :=
 if e.Kind=1∨e.Kind=2∨e.Kind=3 then 0 else if e.Kind=4 then pV e.N (-1000000000000000) 1000000000000000 else if e.Kind=5 then pV e.N 1 1000000000000 else
 if e.Kind=8 then pV e.N 0 63 else
 if e.Kind=9 then (if pV e.N 0 3=0∧e.N=2 then pV e.M 0 1000000000000000 else if pV e.N 0 3=0∧e.M≠0 then 1 else pV e.N 0 3) else
 if pV e.N 0 1000000000000000=0∧e.Kind=11 then pV e.M 1 1000000000000 else pV e.N 0 1000000000000000
def aS (e:xA):Bool :=
 (!vV e.Kind&&!(e.Name==[]))||((!u7 e.Kind&&(e.N != 0))||((!tF e.Kind&&(e.M != 0))||(!uS e.Kind&&decide (0<e.Stack.length))))
def cG (e:xA):Int:=if vV e.Kind then uO e.Name else if uS e.Kind then nG e.Stack else 0
def evS (e:xA):Int :=
 if e.At<0∨e.At>1000000000000 then 2 else if e.Kind<1∨e.Kind>12 then 1 else if aS e then 1 else if cG e≠0 then cG e else rH e
theorem zDl (a b c d p q r s:Bool):((bif !a then (bif !p then some true else (bif !b then (bif q then some true else (bif !c then (bif r then some true else (bif !d then some s else some false)) else (bif !d then some s else some false))) else
  (bif !c then (bif r then some true else (bif !d then some s else some false)) else (bif !d then some s else some false)))) else (bif !b then (bif q then some true else (bif !c then (bif r then some true else (bif !d then some s else some false)) else (bif !d then some s else some false))) else
  (bif !c then (bif r then some true else (bif !d then some s else some false)) else (bif !d then some s else some false)))):Option Bool)=some ((!a&&!p)||((!b&&q)||((!c&&r)||(!d&&s)))):=by
 cases a<;>cases b<;>cases c<;>cases d<;>cases p<;>cases q<;>cases r<;>cases s<;>rfl
theorem Q3 (e:xA):aS e=((!vV e.Kind&&!(e.Name==([]:List Int)))||((!u7 e.Kind&&(e.N != (0:Int)))||((!tF e.Kind&&(e.M != (0:Int)))||(!uS e.Kind&&decide ((((e.Stack).length:Nat):Int)>(0:Int)))))):=by
 unfold aS
 have:decide (0<e.Stack.length)=decide ((((e.Stack).length:Nat):Int)>(0:Int)):=by
  by_cases h:0<e.Stack.length
  ·rw [yR h,yR (by omega)]
  ·rw [yO h,yO (by omega)]
 rw [this]
theorem T6 (k:Int) (h:vV k=true):uS k=false:=by
 unfold vV uS at *
 simp at *
 omega
def nS (k:Int):wO:=(xG (match mX with | some l=>l | none=>[]) k).getD ⟨[],false,false,false,false,0,0,0,0⟩
theorem zBl {k:Int}:BT k=some (if k<1∨k>12 then ((⟨[],false,false,false,false,0,0,0,0⟩:wO),false) else (nS k,true)):=by
 by_cases h:k<1∨k>12
 ·rw [if_pos h]
  unfold BT mX
  rw [zbs]
  exact EO (A1 (show k<1∨k≥((13:Nat):Int) by omega)) rfl
 ·rw [if_neg h]
  have:k=1∨k=2∨k=3∨k=4∨k=5∨k=6∨k=7∨k=8∨k=9∨k=10∨k=11∨k=12:=by omega
  rcases this with h | h | h | h | h | h | h | h | h | h | h | h<;>subst h<;>rfl
theorem TL {k:Int} (h:1≤k∧k≤12):(nS k).name=vV k∧(nS k).n=u7 k∧(nS k).m=tF k∧(nS k).stack=uS k:=by
 have:k=1∨k=2∨k=3∨k=4∨k=5∨k=6∨k=7∨k=8∨k=9∨k=10∨k=11∨k=12:=by omega
 rcases this with h | h | h | h | h | h | h | h | h | h | h | h<;>subst h<;>exact ⟨rfl,rfl,rfl,rfl⟩
theorem ZF {l:List (List Int)} (h:¬ 0<l.length):nG l=0:=by
 have:l=[]:=List.eq_nil_of_length_eq_zero (by omega)
 rw [this];rfl
theorem RR {e:xA} (h:aS e=false) (hs:uS e.Kind=false):¬ 0<e.Stack.length:=by
 unfold aS at h
 rw [hs] at h
 simp at h
 simp [h.2.2.2]
theorem zCG {e:xA} (hk:1≤e.Kind∧e.Kind≤12) (hb:aS e=false):DO 281474976710656 (nS e.Kind) e=some (cG e):=by
 unfold DO cG
 rw [(TL hk).1,CY,VB]
 cases hn:vV e.Kind
 ·cases hs:uS e.Kind
  ·rw [ZF (RR hb hs)];rfl
  ·rfl
 ·rfl
theorem XU {e:xA} (hk:1≤e.Kind∧e.Kind≤12) (hb:aS e=false) :
  (bif ((nS e.Kind).n&&(decide (e.N<(nS e.Kind).least)||decide (e.N>(nS e.Kind).most))) then some (2:Int) else
  (bif ((e.Kind==(9:Int))&&((e.N != (2:Int))&&(e.M != (0:Int)))) then some (1:Int) else
  (bif ((nS e.Kind).m&&(bif decide (e.M<(nS e.Kind).mLeast) then ((e.Kind != (9:Int))||(e.N==(2:Int))) else (decide (e.M>(nS e.Kind).mMost)&&((e.Kind != (9:Int))||(e.N==(2:Int)))))) then some (2:Int) else
  some (0:Int))))=some (rH e):=by
 have:e.Kind=1∨e.Kind=2∨e.Kind=3∨e.Kind=4∨e.Kind=5∨e.Kind=6∨e.Kind=7∨e.Kind=8∨e.Kind=9∨e.Kind=10∨e.Kind=11∨e.Kind=12:=by omega
 unfold rH
 rcases this with h | h | h | h | h | h | h | h | h | h | h | h<;>rw [h]<;>simp [nS,mX,xG,pV,Bool.cond_eq_ite]<;>(repeat' split)<;>first | rfl | omega | (simp at *;omega)
theorem JP {e:xA}:fO 281474976710656 e=some (evS e):=by
 unfold fO evS
 by_cases h1:e.At<0∨e.At>1000000000000
 ·rw [if_pos h1]
  have:(decide (e.At<(0:Int))||decide (e.At>(1000000000000:Int)))=true:=by simpa using h1
  rw [this];rfl
 rw [if_neg h1]
 have g1:(decide (e.At<(0:Int))||decide (e.At>(1000000000000:Int)))=false:=by simp;omega
 rw [g1,cond_false,zBl,zbs]
 by_cases h2:e.Kind<1∨e.Kind>12
 ·rw [if_pos h2,if_pos h2];rfl
 rw [if_neg h2,if_neg h2]
 have hu:=TL (k:=e.Kind) (by omega)
 simp only [Bool.not_true,cond_false]
 rw [hu.1,hu.2.1,hu.2.2.1,hu.2.2.2,zDl,zbs,← Q3]
 cases hb:aS e
 case true=>rfl
 simp only [cond_false]
 rw [zCG (by omega) hb,zbs]
 by_cases ht:cG e=0
 ·rw [x8 ht,cond_false,← hu.2.1,← hu.2.2.1,XU (by omega) hb];simp [ht]
 ·rw [wA ht,cond_true];simp [ht]
theorem zEh {a b:List (List Int)} (ha:a.length≤140737488355328):A9 281474976710656 a b=some (decide (a=b)):=by
 unfold A9
 by_cases hl:(a.length:Int)≠b.length
 ·rw [wA hl,cond_true,yO (fun e=>hl (by rw [e]))]
 rw [x8 (by omega),cond_false,mD (a:=a) (b:=b) (AK 281474976710656 a b) (by omega) ha (fun n i hi=>by
  show gG _ _ _ _ _=_
  unfold gG
  simp (disch:=omega) only [yO,cond_false]) (fun n i x y r r2 hd hd2 hlt=>by
  show gG _ _ _ _ _=_
  unfold gG
  simp (disch:=omega) only [yR,cond_true,w9 hd,w9 hd2,zbs,vC]
  by_cases h:x=y
  ·rw [rC h,if_pos h];rfl
  ·rw [E9 h,if_neg h];rfl),zbs]
 by_cases h:a=b
 ·rw [if_pos h,yR h]
 ·rw [if_neg h,yO h]
theorem ZJ (a b:xA):(bif (a.At==b.At) then (bif (a.Kind==b.Kind) then (bif (a.Name==b.Name) then (bif (a.N==b.N) then (bif (a.M==b.M) then some (decide (a.Stack=b.Stack)) else some false) else some false) else some false) else some false) else some false)=some (decide (a=b)):=by
 by_cases h1:a.At=b.At
 case neg=>rw [qQ h1,yO (p:=a=b) (fun e=>h1 (by rw [e]))];rfl
 by_cases h2:a.Kind=b.Kind
 case neg=>rw [uW h1,qQ h2,yO (p:=a=b) (fun e=>h2 (by rw [e]))];rfl
 by_cases h3:a.Name=b.Name
 case neg=>rw [uW h1,uW h2,E9 h3,yO (p:=a=b) (fun e=>h3 (by rw [e]))];rfl
 by_cases h4:a.N=b.N
 case neg=>rw [uW h1,uW h2,rC h3,qQ h4,yO (p:=a=b) (fun e=>h4 (by rw [e]))];rfl
 by_cases h5:a.M=b.M
 case neg=>rw [uW h1,uW h2,rC h3,uW h4,qQ h5,yO (p:=a=b) (fun e=>h5 (by rw [e]))];rfl
 rw [uW h1,uW h2,rC h3,uW h4,uW h5]
 simp only [cond_true]
 by_cases h6:a.Stack=b.Stack
 ·have:a=b:=by cases a;cases b;simp_all
  rw [yR h6,yR this]
 ·rw [yO h6,yO (p:=a=b) (fun e=>h6 (by rw [e]))]
theorem ZY {a b:xA} (ha:a.Stack.length≤140737488355328):DP 281474976710656 a b=some (decide (a=b)):=by
 unfold DP
 simp only [zEh ha,zbs]
 rw [ZJ,zbs]
end Go.Ab
