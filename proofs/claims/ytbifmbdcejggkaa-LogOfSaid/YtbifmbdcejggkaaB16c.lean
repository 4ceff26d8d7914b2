/- Plain laws of the functions t3 this seat's, laid anew from another seat's text. No conditions but those that the theorems name. -/
import Derived.Test.YtbifmbdcejggkaaP16xD
import Derived.Test.YtbifmbdcejggkaaB16b
namespace Go.Ab
open Go
set_option linter.unusedVariables false
def kM (k:Int):Bool:=(k==1)||((k==3)||(k==4))
def zLl (k:Int):Bool:=decide (k≥4)
def zLw (k:Int):Bool:=(k==9)||(k==11)
def jA (k:Int):Bool:=(k==5)||(k==11)
def tU (n lo hi:Int):Int:=if n<lo∨n>hi then 2 else 0
def zG2 (e:zK):Int :=
 if e.Kind=1∨e.Kind=2∨e.Kind=3 then 0 else if e.Kind=4 then tU e.N (-1000000000000000) 1000000000000000 else if e.Kind=5 then tU e.N 1 1000000000000 else
 if e.Kind=8 then tU e.N 0 63 else
 if e.Kind=9 then (if tU e.N 0 3=0∧e.N=2 then tU e.M 0 1000000000000000 else if tU e.N 0 3=0∧e.M≠0 then 1 else tU e.N 0 3) else
 if tU e.N 0 1000000000000000=0∧e.Kind=11 then tU e.M 1 1000000000000 else tU e.N 0 1000000000000000
def zBD (e:zK):Bool :=
 (!kM e.Kind&&!(e.Name==[]))||((!zLl e.Kind&&(e.N != 0))||((!zLw e.Kind&&(e.M != 0))||(!jA e.Kind&&decide (0<e.Stack.length))))
def zBO (e:zK):Int:=if kM e.Kind then jY e.Name else if jA e.Kind then zAJ e.Stack else 0
def evS (e:zK):Int :=
 if e.At<0∨e.At>1000000000000 then 2 else if e.Kind<1∨e.Kind>12 then 1 else if zBD e then 1 else if zBO e≠0 then zBO e else zG2 e
theorem zIw {n lo hi:Int}:t5 n lo hi=some (tU n lo hi):=by
 unfold t5 tU
 by_cases h:n<lo∨n>hi
 ·rw [if_pos h]
  have:(decide (n<lo)||decide (n>hi))=true:=by simpa using h
  rw [this];rfl
 ·rw [if_neg h]
  have:(decide (n<lo)||decide (n>hi))=false:=by simp;omega
  rw [this];rfl
theorem zHv {e:zK}:zAi e=some (zG2 e):=by
 unfold zAi zG2
 simp only [zIw,Option.bind_some,Bool.cond_eq_ite,beq_iff_eq,Bool.and_eq_true,bne_iff_ne]
 by_cases h1:e.Kind=1
 ·simp [h1]
 by_cases h2:e.Kind=2
 ·simp [h2]
 by_cases h3:e.Kind=3
 ·simp [h3]
 by_cases h4:e.Kind=4
 ·simp [h4]
 by_cases h5:e.Kind=5
 ·simp [h5]
 by_cases h8:e.Kind=8
 ·simp [h8]
 by_cases h9:e.Kind=9
 ·generalize tU e.N 0 3=x
  generalize tU e.M 0 1000000000000000=y
  generalize tU e.N 0 1000000000000000=z
  by_cases g1:x=0<;>by_cases g2:e.N=2<;>by_cases g3:e.M=0<;>simp [h9,g1,g2,g3]
 ·generalize tU e.N 0 1000000000000000=x
  by_cases g1:x=0<;>by_cases g2:e.Kind=11<;>simp_all
theorem zMv (a b c d p q r s:Bool):((bif !a then (bif !p then some true else (bif !b then (bif q then some true else (bif !c then (bif r then some true else (bif !d then some s else some false)) else (bif !d then some s else some false))) else
  (bif !c then (bif r then some true else (bif !d then some s else some false)) else (bif !d then some s else some false)))) else (bif !b then (bif q then some true else (bif !c then (bif r then some true else (bif !d then some s else some false)) else (bif !d then some s else some false))) else
  (bif !c then (bif r then some true else (bif !d then some s else some false)) else (bif !d then some s else some false)))):Option Bool)=some ((!a&&!p)||((!b&&q)||((!c&&r)||(!d&&s)))):=by
 cases a<;>cases b<;>cases c<;>cases d<;>cases p<;>cases q<;>cases r<;>cases s<;>rfl
theorem zJw (e:zK):zBD e=((!kM e.Kind&&!(e.Name==([]:List Int)))||((!zLl e.Kind&&(e.N != (0:Int)))||((!zLw e.Kind&&(e.M != (0:Int)))||(!jA e.Kind&&decide ((((e.Stack).length:Nat):Int)>(0:Int)))))):=by
 unfold zBD
 have:decide (0<e.Stack.length)=decide ((((e.Stack).length:Nat):Int)>(0:Int)):=by
  by_cases h:0<e.Stack.length
  ·rw [yK h,yK (by omega)]
  ·rw [yH h,yH (by omega)]
 rw [this]
theorem zHX (k:Int) (h:kM k=true):jA k=false:=by
 unfold kM jA at *
 simp at *
 omega
theorem zJC {e:zK}:zBZ 200000 e=some (evS e):=by
 unfold zBZ evS
 by_cases h1:e.At<0∨e.At>1000000000000
 ·rw [if_pos h1]
  have:(decide (e.At<(0:Int))||decide (e.At>(1000000000000:Int)))=true:=by simpa using h1
  rw [this];rfl
 rw [if_neg h1]
 have g1:(decide (e.At<(0:Int))||decide (e.At>(1000000000000:Int)))=false:=by simp;omega
 rw [g1,cond_false]
 by_cases h2:e.Kind<1∨e.Kind>12
 ·rw [if_pos h2]
  have:(decide (e.Kind<(1:Int))||decide (e.Kind>(12:Int)))=true:=by simpa using h2
  rw [this];rfl
 rw [if_neg h2]
 have g2:(decide (e.Kind<(1:Int))||decide (e.Kind>(12:Int)))=false:=by simp;omega
 rw [g2,cond_false]
 rw [show zDP e.Kind=some (kM e.Kind,zLl e.Kind,zLw e.Kind,jA e.Kind) from rfl,Option.bind_some]
 simp only
 rw [zMv,Option.bind_some,← zJw]
 cases hb:zBD e
 case true=>rfl
 simp only [cond_false,zDh,zIe,zHv,Option.bind_some]
 have hns:=zHX e.Kind
 unfold zBO
 cases hn:kM e.Kind
 ·cases hs:jA e.Kind
  ·simp
  ·by_cases hf:zAJ e.Stack=0
   ·simp [hf]
   ·simp [hf,vX hf]
 ·rw [hns hn]
  by_cases hf:jY e.Name=0
  ·simp [hf]
  ·simp [hf,vX hf]
def nP (k:Int):zX:=(xD (match pZ with | some l=>l | none=>[]) k).getD ⟨[],false,false,false,false,0,0,0,0⟩
theorem zGI {k:Int}:nC k=some (if k<1∨k>12 then ((⟨[],false,false,false,false,0,0,0,0⟩:zX),false) else (nP k,true)):=by
 by_cases h:k<1∨k>12
 ·rw [if_pos h]
  unfold nC pZ
  rw [Option.bind_some]
  exact zDs (zOO (show k<1∨k≥((13:Nat):Int) by omega)) rfl
 ·rw [if_neg h]
  have:k=1∨k=2∨k=3∨k=4∨k=5∨k=6∨k=7∨k=8∨k=9∨k=10∨k=11∨k=12:=by omega
  rcases this with h | h | h | h | h | h | h | h | h | h | h | h<;>subst h<;>rfl
theorem zGn {k:Int} (h:1≤k∧k≤12):(nP k).name=kM k∧(nP k).n=zLl k∧(nP k).m=zLw k∧(nP k).stack=jA k:=by
 have:k=1∨k=2∨k=3∨k=4∨k=5∨k=6∨k=7∨k=8∨k=9∨k=10∨k=11∨k=12:=by omega
 rcases this with h | h | h | h | h | h | h | h | h | h | h | h<;>subst h<;>exact ⟨rfl,rfl,rfl,rfl⟩
theorem zKp {l:List (List Int)} (h:¬ 0<l.length):zAJ l=0:=by
 have:l=[]:=List.eq_nil_of_length_eq_zero (by omega)
 rw [this];rfl
theorem zFE {e:zK} (h:zBD e=false) (hs:jA e.Kind=false):¬ 0<e.Stack.length:=by
 unfold zBD at h
 rw [hs] at h
 simp at h
 simp [h.2.2.2]
theorem zHx {e:zK} (hk:1≤e.Kind∧e.Kind≤12) (hb:zBD e=false):zAm 200000 (nP e.Kind) e=some (zBO e):=by
 unfold zAm zBO
 rw [(zGn hk).1,zBk,zFV]
 cases hn:kM e.Kind
 ·cases hs:jA e.Kind
  ·rw [zKp (zFE hb hs)];rfl
  ·rfl
 ·rfl
theorem zLp {e:zK} (hk:1≤e.Kind∧e.Kind≤12) (hb:zBD e=false) :
  (bif ((nP e.Kind).n&&(decide (e.N<(nP e.Kind).least)||decide (e.N>(nP e.Kind).most))) then some (2:Int) else
  (bif ((e.Kind==(9:Int))&&((e.N != (2:Int))&&(e.M != (0:Int)))) then some (1:Int) else
  (bif ((nP e.Kind).m&&(bif decide (e.M<(nP e.Kind).mLeast) then ((e.Kind != (9:Int))||(e.N==(2:Int))) else (decide (e.M>(nP e.Kind).mMost)&&((e.Kind != (9:Int))||(e.N==(2:Int)))))) then some (2:Int) else
  some (0:Int))))=some (zG2 e):=by
 have:e.Kind=1∨e.Kind=2∨e.Kind=3∨e.Kind=4∨e.Kind=5∨e.Kind=6∨e.Kind=7∨e.Kind=8∨e.Kind=9∨e.Kind=10∨e.Kind=11∨e.Kind=12:=by omega
 unfold zG2
 rcases this with h | h | h | h | h | h | h | h | h | h | h | h<;>rw [h]<;>simp [nP,pZ,xD,tU,Bool.cond_eq_ite]<;>(repeat' split)<;>first | rfl | omega | (simp at *;omega)
theorem zHC {e:zK}:zAj 200000 e=some (evS e):=by
 unfold zAj evS
 by_cases h1:e.At<0∨e.At>1000000000000
 ·rw [if_pos h1]
  have:(decide (e.At<(0:Int))||decide (e.At>(1000000000000:Int)))=true:=by simpa using h1
  rw [this];rfl
 rw [if_neg h1]
 have g1:(decide (e.At<(0:Int))||decide (e.At>(1000000000000:Int)))=false:=by simp;omega
 rw [g1,cond_false,zGI,Option.bind_some]
 by_cases h2:e.Kind<1∨e.Kind>12
 ·rw [if_pos h2,if_pos h2];rfl
 rw [if_neg h2,if_neg h2]
 have hu:=zGn (k:=e.Kind) (by omega)
 simp only [Bool.not_true,cond_false]
 rw [hu.1,hu.2.1,hu.2.2.1,hu.2.2.2,zMv,Option.bind_some,← zJw]
 cases hb:zBD e
 case true=>rfl
 simp only [cond_false]
 rw [zHx (by omega) hb,Option.bind_some]
 by_cases ht:zBO e=0
 ·rw [v7 ht,cond_false,← hu.2.1,← hu.2.2.1,zLp (by omega) hb];simp [ht]
 ·rw [vX ht,cond_true];simp [ht]
theorem zBi {a b:List (List Int)} (ha:a.length≤100000):uA 200000 a b=some (decide (a=b)):=by
 unfold uA
 by_cases hl:(a.length:Int)≠b.length
 ·rw [vX hl,cond_true,yH (fun e=>hl (by rw [e]))]
 rw [v7 (by omega),cond_false,t9 (a:=a) (b:=b) (vQ 200000 a b) (by omega) ha (fun n i hi=>by
  show wL _ _ _ _ _=_
  unfold wL
  simp (disch:=omega) only [yH,cond_false]) (fun n i x y r r2 hd hd2 hlt=>by
  show wL _ _ _ _ _=_
  unfold wL
  simp (disch:=omega) only [yK,cond_true,yX hd,yX hd2,Option.bind_some,wI]
  by_cases h:x=y
  ·rw [zE3 h,if_pos h];rfl
  ·rw [zIR h,if_neg h];rfl),Option.bind_some]
 by_cases h:a=b
 ·rw [if_pos h,yK h]
 ·rw [if_neg h,yH h]
theorem zIP {a b:List (List Int)} (ha:a.length≤100000):zBN 200000 a b=some (decide (a=b)):=by
 unfold zBN
 by_cases hl:(a.length:Int)≠b.length
 ·rw [vX hl,cond_true,yH (fun e=>hl (by rw [e]))]
 rw [v7 (by omega),cond_false,t9 (a:=a) (b:=b) (nG 200000 a b) (by omega) ha (fun n i hi=>by
  show u7 _ _ _ _ _=_
  unfold u7
  simp (disch:=omega) only [yH,cond_false]) (fun n i x y r r2 hd hd2 hlt=>by
  show u7 _ _ _ _ _=_
  unfold u7
  simp (disch:=omega) only [yK,cond_true,yX hd,yX hd2,Option.bind_some,wI]
  by_cases h:x=y
  ·rw [zE3 h,if_pos h];rfl
  ·rw [zIR h,if_neg h];rfl),Option.bind_some]
 by_cases h:a=b
 ·rw [if_pos h,yK h]
 ·rw [if_neg h,yH h]
theorem zKX (a b:zK):(bif (a.At==b.At) then (bif (a.Kind==b.Kind) then (bif (a.Name==b.Name) then (bif (a.N==b.N) then (bif (a.M==b.M) then some (decide (a.Stack=b.Stack)) else some false) else some false) else some false) else some false) else some false)=some (decide (a=b)):=by
 by_cases h1:a.At=b.At
 case neg=>rw [tH h1,yH (p:=a=b) (fun e=>h1 (by rw [e]))];rfl
 by_cases h2:a.Kind=b.Kind
 case neg=>rw [vJ h1,tH h2,yH (p:=a=b) (fun e=>h2 (by rw [e]))];rfl
 by_cases h3:a.Name=b.Name
 case neg=>rw [vJ h1,vJ h2,zIR h3,yH (p:=a=b) (fun e=>h3 (by rw [e]))];rfl
 by_cases h4:a.N=b.N
 case neg=>rw [vJ h1,vJ h2,zE3 h3,tH h4,yH (p:=a=b) (fun e=>h4 (by rw [e]))];rfl
 by_cases h5:a.M=b.M
 case neg=>rw [vJ h1,vJ h2,zE3 h3,vJ h4,tH h5,yH (p:=a=b) (fun e=>h5 (by rw [e]))];rfl
 rw [vJ h1,vJ h2,zE3 h3,vJ h4,vJ h5]
 simp only [cond_true]
 by_cases h6:a.Stack=b.Stack
 ·have:a=b:=by cases a;cases b;simp_all
  rw [yK h6,yK this]
 ·rw [yH h6,yH (p:=a=b) (fun e=>h6 (by rw [e]))]
theorem zIC {a b:zK} (ha:a.Stack.length≤100000):zA3 200000 a b=some (decide (a=b)):=by
 unfold zA3
 simp only [zBi ha,Option.bind_some]
 rw [zKX,Option.bind_some]
theorem zKN {a b:zK} (ha:a.Stack.length≤100000):zCz 200000 a b=some (decide (a=b)):=by
 unfold zCz
 simp only [zIP ha,Option.bind_some]
 rw [zKX,Option.bind_some]
end Go.Ab
