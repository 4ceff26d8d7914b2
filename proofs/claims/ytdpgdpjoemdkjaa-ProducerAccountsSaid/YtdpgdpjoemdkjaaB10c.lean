/- Plain laws of the functions w9 this seat's, laid anew from another seat's text. No conditions but those that the theorems name. -/
import Derived.Test.YtdpgdpjoemdkjaaP10xD
import Derived.Test.YtdpgdpjoemdkjaaB10a
import Derived.Test.YtdpgdpjoemdkjaaB10b
namespace Go.Ab
open Go
set_option linter.unusedVariables false
def yK (k:Int):Bool:=(k==1)||((k==3)||(k==4))
def uD (k:Int):Bool:=decide (k≥4)
def uI (k:Int):Bool:=(k==9)||(k==11)
def yU (k:Int):Bool:=(k==5)||(k==11)
def u6 (n lo hi:Int):Int:=if n<lo∨n>hi then 2 else 0
def zC7 (e:zE):Int :=
 if e.Kind=1∨e.Kind=2∨e.Kind=3 then 0 else if e.Kind=4 then u6 e.N (-1000000000000000) 1000000000000000 else if e.Kind=5 then u6 e.N 1 1000000000000 else
 if e.Kind=8 then u6 e.N 0 63 else
 if e.Kind=9 then (if u6 e.N 0 3=0∧e.N=2 then u6 e.M 0 1000000000000000 else if u6 e.N 0 3=0∧e.M≠0 then 1 else u6 e.N 0 3) else
 if u6 e.N 0 1000000000000000=0∧e.Kind=11 then u6 e.M 1 1000000000000 else u6 e.N 0 1000000000000000
def kW (e:zE):Bool :=
 (!yK e.Kind&&!(e.Name==[]))||((!uD e.Kind&&(e.N != 0))||((!uI e.Kind&&(e.M != 0))||(!yU e.Kind&&decide (0<e.Stack.length))))
def zAl (e:zE):Int:=if yK e.Kind then vJ e.Name else if yU e.Kind then tA e.Stack else 0
def evS (e:zE):Int :=
 if e.At<0∨e.At>1000000000000 then 2 else if e.Kind<1∨e.Kind>12 then 1 else if kW e then 1 else if zAl e≠0 then zAl e else zC7 e
theorem zMv (a b c d p q r s:Bool):((bif !a then (bif !p then some true else (bif !b then (bif q then some true else (bif !c then (bif r then some true else (bif !d then some s else some false)) else (bif !d then some s else some false))) else
  (bif !c then (bif r then some true else (bif !d then some s else some false)) else (bif !d then some s else some false)))) else (bif !b then (bif q then some true else (bif !c then (bif r then some true else (bif !d then some s else some false)) else (bif !d then some s else some false))) else
  (bif !c then (bif r then some true else (bif !d then some s else some false)) else (bif !d then some s else some false)))):Option Bool)=some ((!a&&!p)||((!b&&q)||((!c&&r)||(!d&&s)))):=by
 cases a<;>cases b<;>cases c<;>cases d<;>cases p<;>cases q<;>cases r<;>cases s<;>rfl
theorem zHZ (e:zE):kW e=((!yK e.Kind&&!(e.Name==([]:List Int)))||((!uD e.Kind&&(e.N != (0:Int)))||((!uI e.Kind&&(e.M != (0:Int)))||(!yU e.Kind&&decide ((((e.Stack).length:Nat):Int)>(0:Int)))))):=by
 unfold kW
 have:decide (0<e.Stack.length)=decide ((((e.Stack).length:Nat):Int)>(0:Int)):=by
  by_cases h:0<e.Stack.length
  ·rw [yH h,yH (by omega)]
  ·rw [z7 h,z7 (by omega)]
 rw [this]
theorem zFD (k:Int) (h:yK k=true):yU k=false:=by
 unfold yK yU at *
 simp at *
 omega
def kT (k:Int):zL:=(yY (match j1 with | some l=>l | none=>[]) k).getD ⟨[],false,false,false,false,0,0,0,0⟩
theorem zEW {k:Int}:kG k=some (if k<1∨k>12 then ((⟨[],false,false,false,false,0,0,0,0⟩:zL),false) else (kT k,true)):=by
 by_cases h:k<1∨k>12
 ·rw [if_pos h]
  unfold kG j1
  rw [Option.bind_some]
  exact zLI (zHt (show k<1∨k≥((13:Nat):Int) by omega)) rfl
 ·rw [if_neg h]
  have:k=1∨k=2∨k=3∨k=4∨k=5∨k=6∨k=7∨k=8∨k=9∨k=10∨k=11∨k=12:=by omega
  rcases this with h | h | h | h | h | h | h | h | h | h | h | h<;>subst h<;>rfl
theorem zEl {k:Int} (h:1≤k∧k≤12):(kT k).name=yK k∧(kT k).n=uD k∧(kT k).m=uI k∧(kT k).stack=yU k:=by
 have:k=1∨k=2∨k=3∨k=4∨k=5∨k=6∨k=7∨k=8∨k=9∨k=10∨k=11∨k=12:=by omega
 rcases this with h | h | h | h | h | h | h | h | h | h | h | h<;>subst h<;>exact ⟨rfl,rfl,rfl,rfl⟩
theorem zIs {l:List (List Int)} (h:¬ 0<l.length):tA l=0:=by
 have:l=[]:=List.eq_nil_of_length_eq_zero (by omega)
 rw [this];rfl
theorem zIp {e:zE} (h:kW e=false) (hs:yU e.Kind=false):¬ 0<e.Stack.length:=by
 unfold kW at h
 rw [hs] at h
 simp at h
 simp [h.2.2.2]
theorem zFt {e:zE} (hk:1≤e.Kind∧e.Kind≤12) (hb:kW e=false):pB 200000 (kT e.Kind) e=some (zAl e):=by
 unfold pB zAl
 rw [(zEl hk).1,q8,zAW]
 cases hn:yK e.Kind
 ·cases hs:yU e.Kind
  ·rw [zIs (zIp hb hs)];rfl
  ·rfl
 ·rfl
theorem zI2 {e:zE} (hk:1≤e.Kind∧e.Kind≤12) (hb:kW e=false) :
  (bif ((kT e.Kind).n&&(decide (e.N<(kT e.Kind).least)||decide (e.N>(kT e.Kind).most))) then some (2:Int) else
  (bif ((e.Kind==(9:Int))&&((e.N != (2:Int))&&(e.M != (0:Int)))) then some (1:Int) else
  (bif ((kT e.Kind).m&&(bif decide (e.M<(kT e.Kind).mLeast) then ((e.Kind != (9:Int))||(e.N==(2:Int))) else (decide (e.M>(kT e.Kind).mMost)&&((e.Kind != (9:Int))||(e.N==(2:Int)))))) then some (2:Int) else
  some (0:Int))))=some (zC7 e):=by
 have:e.Kind=1∨e.Kind=2∨e.Kind=3∨e.Kind=4∨e.Kind=5∨e.Kind=6∨e.Kind=7∨e.Kind=8∨e.Kind=9∨e.Kind=10∨e.Kind=11∨e.Kind=12:=by omega
 unfold zC7
 rcases this with h | h | h | h | h | h | h | h | h | h | h | h<;>rw [h]<;>simp [kT,j1,yY,u6,Bool.cond_eq_ite]<;>(repeat' split)<;>first | rfl | omega | (simp at *;omega)
theorem nI {e:zE}:tS 200000 e=some (evS e):=by
 unfold tS evS
 by_cases h1:e.At<0∨e.At>1000000000000
 ·rw [if_pos h1]
  have:(decide (e.At<(0:Int))||decide (e.At>(1000000000000:Int)))=true:=by simpa using h1
  rw [this];rfl
 rw [if_neg h1]
 have g1:(decide (e.At<(0:Int))||decide (e.At>(1000000000000:Int)))=false:=by simp;omega
 rw [g1,cond_false,zEW,Option.bind_some]
 by_cases h2:e.Kind<1∨e.Kind>12
 ·rw [if_pos h2,if_pos h2];rfl
 rw [if_neg h2,if_neg h2]
 have hu:=zEl (k:=e.Kind) (by omega)
 simp only [Bool.not_true,cond_false]
 rw [hu.1,hu.2.1,hu.2.2.1,hu.2.2.2,zMv,Option.bind_some,← zHZ]
 cases hb:kW e
 case true=>rfl
 simp only [cond_false]
 rw [zFt (by omega) hb,Option.bind_some]
 by_cases ht:zAl e=0
 ·rw [xS ht,cond_false,← hu.2.1,← hu.2.2.1,zI2 (by omega) hb];simp [ht]
 ·rw [wA ht,cond_true];simp [ht]
theorem zGq {a b:List (List Int)} (ha:a.length≤100000):zAj 200000 a b=some (decide (a=b)):=by
 unfold zAj
 by_cases hl:(a.length:Int)≠b.length
 ·rw [wA hl,cond_true,z7 (fun e=>hl (by rw [e]))]
 rw [xS (by omega),cond_false,zKA (a:=a) (b:=b) (j9 200000 a b) (by omega) ha (fun n i hi=>by
  show vH _ _ _ _ _=_
  unfold vH
  simp (disch:=omega) only [z7,cond_false]) (fun n i x y r r2 hd hd2 hlt=>by
  show vH _ _ _ _ _=_
  unfold vH
  simp (disch:=omega) only [yH,cond_true,wL hd,wL hd2,Option.bind_some,uR]
  by_cases h:x=y
  ·rw [zCY h,if_pos h];rfl
  ·rw [zHN h,if_neg h];rfl),Option.bind_some]
 by_cases h:a=b
 ·rw [if_pos h,yH h]
 ·rw [if_neg h,z7 h]
theorem zMe (a b:zE):(bif (a.At==b.At) then (bif (a.Kind==b.Kind) then (bif (a.Name==b.Name) then (bif (a.N==b.N) then (bif (a.M==b.M) then some (decide (a.Stack=b.Stack)) else some false) else some false) else some false) else some false) else some false)=some (decide (a=b)):=by
 by_cases h1:a.At=b.At
 case neg=>rw [zBU h1,z7 (p:=a=b) (fun e=>h1 (by rw [e]))];rfl
 by_cases h2:a.Kind=b.Kind
 case neg=>rw [j7 h1,zBU h2,z7 (p:=a=b) (fun e=>h2 (by rw [e]))];rfl
 by_cases h3:a.Name=b.Name
 case neg=>rw [j7 h1,j7 h2,zHN h3,z7 (p:=a=b) (fun e=>h3 (by rw [e]))];rfl
 by_cases h4:a.N=b.N
 case neg=>rw [j7 h1,j7 h2,zCY h3,zBU h4,z7 (p:=a=b) (fun e=>h4 (by rw [e]))];rfl
 by_cases h5:a.M=b.M
 case neg=>rw [j7 h1,j7 h2,zCY h3,j7 h4,zBU h5,z7 (p:=a=b) (fun e=>h5 (by rw [e]))];rfl
 rw [j7 h1,j7 h2,zCY h3,j7 h4,j7 h5]
 simp only [cond_true]
 by_cases h6:a.Stack=b.Stack
 ·have:a=b:=by cases a;cases b;simp_all
  rw [yH h6,yH this]
 ·rw [z7 h6,z7 (p:=a=b) (fun e=>h6 (by rw [e]))]
theorem zIc {a b:zE} (ha:a.Stack.length≤100000):zA7 200000 a b=some (decide (a=b)):=by
 unfold zA7
 simp only [zGq ha,Option.bind_some]
 rw [zMe,Option.bind_some]
end Go.Ab
