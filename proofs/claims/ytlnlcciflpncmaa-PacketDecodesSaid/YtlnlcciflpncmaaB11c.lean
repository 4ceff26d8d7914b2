/- Plain laws of the functions uE this seat's, laid anew from another seat's text. No conditions but those that the theorems name. -/
import Derived.Test.YtlnlcciflpncmaaP11xD
import Derived.Test.YtlnlcciflpncmaaB11a
import Derived.Test.YtlnlcciflpncmaaB11b
namespace Go.Ab
open Go
set_option linter.unusedVariables false
def yE (k:Int):Bool:=(k==1)||((k==3)||(k==4))
def wE (k:Int):Bool:=decide (k≥4)
def wI (k:Int):Bool:=(k==9)||(k==11)
def yP (k:Int):Bool:=(k==5)||(k==11)
def vU (n lo hi:Int):Int:=if n<lo∨n>hi then 2 else 0
def zCK (e:zA):Int :=
 if e.Kind=1∨e.Kind=2∨e.Kind=3 then 0 else if e.Kind=4 then vU e.N (-1000000000000000) 1000000000000000 else if e.Kind=5 then vU e.N 1 1000000000000 else
 if e.Kind=8 then vU e.N 0 63 else
 if e.Kind=9 then (if vU e.N 0 3=0∧e.N=2 then vU e.M 0 1000000000000000 else if vU e.N 0 3=0∧e.M≠0 then 1 else vU e.N 0 3) else
 if vU e.N 0 1000000000000000=0∧e.Kind=11 then vU e.M 1 1000000000000 else vU e.N 0 1000000000000000
def zA2 (e:zA):Bool :=
 (!yE e.Kind&&!(e.Name==[]))||((!wE e.Kind&&(e.N != 0))||((!wI e.Kind&&(e.M != 0))||(!yP e.Kind&&decide (0<e.Stack.length))))
def zBF (e:zA):Int:=if yE e.Kind then wV e.Name else if yP e.Kind then uQ e.Stack else 0
def evS (e:zA):Int :=
 if e.At<0∨e.At>1000000000000 then 2 else if e.Kind<1∨e.Kind>12 then 1 else if zA2 e then 1 else if zBF e≠0 then zBF e else zCK e
theorem zIe {n lo hi:Int}:tO n lo hi=some (vU n lo hi):=by
 unfold tO vU
 by_cases h:n<lo∨n>hi
 ·rw [if_pos h]
  have:(decide (n<lo)||decide (n>hi))=true:=by simpa using h
  rw [this];rfl
 ·rw [if_neg h]
  have:(decide (n<lo)||decide (n>hi))=false:=by simp;omega
  rw [this];rfl
theorem zHo {e:zA}:zAr e=some (zCK e):=by
 unfold zAr zCK
 simp only [zIe,Option.bind_some,Bool.cond_eq_ite,beq_iff_eq,Bool.and_eq_true,bne_iff_ne]
 by_cases h1:e.Kind=1
 ·simp [h1]
 by_cases h2:e.Kind=2
 ·simp [h2]
 by_cases h3:e.Kind=3
 ·simp [h3]
 by_cases h4:e.Kind=4
 ·simp [h4]
 by_cases h5:e.Kind=5
 ·simp [h5]
 by_cases h8:e.Kind=8
 ·simp [h8]
 by_cases h9:e.Kind=9
 ·generalize vU e.N 0 3=x
  generalize vU e.M 0 1000000000000000=y
  generalize vU e.N 0 1000000000000000=z
  by_cases g1:x=0<;>by_cases g2:e.N=2<;>by_cases g3:e.M=0<;>simp [h9,g1,g2,g3]
 ·generalize vU e.N 0 1000000000000000=x
  by_cases g1:x=0<;>by_cases g2:e.Kind=11<;>simp_all
theorem zMt (a b c d p q r s:Bool):((bif !a then (bif !p then some true else (bif !b then (bif q then some true else (bif !c then (bif r then some true else (bif !d then some s else some false)) else (bif !d then some s else some false))) else
  (bif !c then (bif r then some true else (bif !d then some s else some false)) else (bif !d then some s else some false)))) else (bif !b then (bif q then some true else (bif !c then (bif r then some true else (bif !d then some s else some false)) else (bif !d then some s else some false))) else
  (bif !c then (bif r then some true else (bif !d then some s else some false)) else (bif !d then some s else some false)))):Option Bool)=some ((!a&&!p)||((!b&&q)||((!c&&r)||(!d&&s)))):=by
 cases a<;>cases b<;>cases c<;>cases d<;>cases p<;>cases q<;>cases r<;>cases s<;>rfl
theorem zI1 (e:zA):zA2 e=((!yE e.Kind&&!(e.Name==([]:List Int)))||((!wE e.Kind&&(e.N != (0:Int)))||((!wI e.Kind&&(e.M != (0:Int)))||(!yP e.Kind&&decide ((((e.Stack).length:Nat):Int)>(0:Int)))))):=by
 unfold zA2
 have:decide (0<e.Stack.length)=decide ((((e.Stack).length:Nat):Int)>(0:Int)):=by
  by_cases h:0<e.Stack.length
  ·rw [z9 h,z9 (by omega)]
  ·rw [z7 h,z7 (by omega)]
 rw [this]
theorem zHK (k:Int) (h:yE k=true):yP k=false:=by
 unfold yE yP at *
 simp at *
 omega
theorem zCz {e:zA}:pH 200000 e=some (evS e):=by
 unfold pH evS
 by_cases h1:e.At<0∨e.At>1000000000000
 ·rw [if_pos h1]
  have:(decide (e.At<(0:Int))||decide (e.At>(1000000000000:Int)))=true:=by simpa using h1
  rw [this];rfl
 rw [if_neg h1]
 have g1:(decide (e.At<(0:Int))||decide (e.At>(1000000000000:Int)))=false:=by simp;omega
 rw [g1,cond_false]
 by_cases h2:e.Kind<1∨e.Kind>12
 ·rw [if_pos h2]
  have:(decide (e.Kind<(1:Int))||decide (e.Kind>(12:Int)))=true:=by simpa using h2
  rw [this];rfl
 rw [if_neg h2]
 have g2:(decide (e.Kind<(1:Int))||decide (e.Kind>(12:Int)))=false:=by simp;omega
 rw [g2,cond_false]
 rw [show zDL e.Kind=some (yE e.Kind,wE e.Kind,wI e.Kind,yP e.Kind) from rfl,Option.bind_some]
 simp only
 rw [zMt,Option.bind_some,← zI1]
 cases hb:zA2 e
 case true=>rfl
 simp only [cond_false,zBz,zDU,zHo,Option.bind_some]
 have hns:=zHK e.Kind
 unfold zBF
 cases hn:yE e.Kind
 ·cases hs:yP e.Kind
  ·simp
  ·by_cases hf:uQ e.Stack=0
   ·simp [hf]
   ·simp [hf,y0 hf]
 ·rw [hns hn]
  by_cases hf:wV e.Name=0
  ·simp [hf]
  ·simp [hf,y0 hf]
def n7 (k:Int):zR:=(yC (match p9 with | some l=>l | none=>[]) k).getD ⟨[],false,false,false,false,0,0,0,0⟩
theorem zGg {k:Int}:nS k=some (if k<1∨k>12 then ((⟨[],false,false,false,false,0,0,0,0⟩:zR),false) else (n7 k,true)):=by
 by_cases h:k<1∨k>12
 ·rw [if_pos h]
  unfold nS p9
  rw [Option.bind_some]
  exact zNr (zJP (show k<1∨k≥((13:Nat):Int) by omega)) rfl
 ·rw [if_neg h]
  have:k=1∨k=2∨k=3∨k=4∨k=5∨k=6∨k=7∨k=8∨k=9∨k=10∨k=11∨k=12:=by omega
  rcases this with h | h | h | h | h | h | h | h | h | h | h | h<;>subst h<;>rfl
theorem zGw {k:Int} (h:1≤k∧k≤12):(n7 k).name=yE k∧(n7 k).n=wE k∧(n7 k).m=wI k∧(n7 k).stack=yP k:=by
 have:k=1∨k=2∨k=3∨k=4∨k=5∨k=6∨k=7∨k=8∨k=9∨k=10∨k=11∨k=12:=by omega
 rcases this with h | h | h | h | h | h | h | h | h | h | h | h<;>subst h<;>exact ⟨rfl,rfl,rfl,rfl⟩
theorem zKw {l:List (List Int)} (h:¬ 0<l.length):uQ l=0:=by
 have:l=[]:=List.eq_nil_of_length_eq_zero (by omega)
 rw [this];rfl
theorem zKj {e:zA} (h:zA2 e=false) (hs:yP e.Kind=false):¬ 0<e.Stack.length:=by
 unfold zA2 at h
 rw [hs] at h
 simp at h
 simp [h.2.2.2]
theorem zHi {e:zA} (hk:1≤e.Kind∧e.Kind≤12) (hb:zA2 e=false):zAv 200000 (n7 e.Kind) e=some (zBF e):=by
 unfold zAv zBF
 rw [(zGw hk).1,zAb,zCx]
 cases hn:yE e.Kind
 ·cases hs:yP e.Kind
  ·rw [zKw (zKj hb hs)];rfl
  ·rfl
 ·rfl
theorem zLj {e:zA} (hk:1≤e.Kind∧e.Kind≤12) (hb:zA2 e=false) :
  (bif ((n7 e.Kind).n&&(decide (e.N<(n7 e.Kind).least)||decide (e.N>(n7 e.Kind).most))) then some (2:Int) else
  (bif ((e.Kind==(9:Int))&&((e.N != (2:Int))&&(e.M != (0:Int)))) then some (1:Int) else
  (bif ((n7 e.Kind).m&&(bif decide (e.M<(n7 e.Kind).mLeast) then ((e.Kind != (9:Int))||(e.N==(2:Int))) else (decide (e.M>(n7 e.Kind).mMost)&&((e.Kind != (9:Int))||(e.N==(2:Int)))))) then some (2:Int) else
  some (0:Int))))=some (zCK e):=by
 have:e.Kind=1∨e.Kind=2∨e.Kind=3∨e.Kind=4∨e.Kind=5∨e.Kind=6∨e.Kind=7∨e.Kind=8∨e.Kind=9∨e.Kind=10∨e.Kind=11∨e.Kind=12:=by omega
 unfold zCK
 rcases this with h | h | h | h | h | h | h | h | h | h | h | h<;>rw [h]<;>simp [n7,p9,yC,vU,Bool.cond_eq_ite]<;>(repeat' split)<;>first | rfl | omega | (simp at *;omega)
theorem zBu {e:zA}:jL 200000 e=some (evS e):=by
 unfold jL evS
 by_cases h1:e.At<0∨e.At>1000000000000
 ·rw [if_pos h1]
  have:(decide (e.At<(0:Int))||decide (e.At>(1000000000000:Int)))=true:=by simpa using h1
  rw [this];rfl
 rw [if_neg h1]
 have g1:(decide (e.At<(0:Int))||decide (e.At>(1000000000000:Int)))=false:=by simp;omega
 rw [g1,cond_false,zGg,Option.bind_some]
 by_cases h2:e.Kind<1∨e.Kind>12
 ·rw [if_pos h2,if_pos h2];rfl
 rw [if_neg h2,if_neg h2]
 have hu:=zGw (k:=e.Kind) (by omega)
 simp only [Bool.not_true,cond_false]
 rw [hu.1,hu.2.1,hu.2.2.1,hu.2.2.2,zMt,Option.bind_some,← zI1]
 cases hb:zA2 e
 case true=>rfl
 simp only [cond_false]
 rw [zHi (by omega) hb,Option.bind_some]
 by_cases ht:zBF e=0
 ·rw [y6 ht,cond_false,← hu.2.1,← hu.2.2.1,zLj (by omega) hb];simp [ht]
 ·rw [y0 ht,cond_true];simp [ht]
theorem zIF {a b:List (List Int)} (ha:a.length≤100000):zBO 200000 a b=some (decide (a=b)):=by
 unfold zBO
 by_cases hl:(a.length:Int)≠b.length
 ·rw [y0 hl,cond_true,z7 (fun e=>hl (by rw [e]))]
 rw [y6 (by omega),cond_false,zHT (a:=a) (b:=b) (nX 200000 a b) (by omega) ha (fun n i hi=>by
  show uL _ _ _ _ _=_
  unfold uL
  simp (disch:=omega) only [z7,cond_false]) (fun n i x y r r2 hd hd2 hlt=>by
  show uL _ _ _ _ _=_
  unfold uL
  simp (disch:=omega) only [z9,cond_true,yQ hd,yQ hd2,Option.bind_some,xP]
  by_cases h:x=y
  ·rw [zBU h,if_pos h];rfl
  ·rw [zDd h,if_neg h];rfl),Option.bind_some]
 by_cases h:a=b
 ·rw [if_pos h,z9 h]
 ·rw [if_neg h,z7 h]
theorem zNF (a b:zA):(bif (a.At==b.At) then (bif (a.Kind==b.Kind) then (bif (a.Name==b.Name) then (bif (a.N==b.N) then (bif (a.M==b.M) then some (decide (a.Stack=b.Stack)) else some false) else some false) else some false) else some false) else some false)=some (decide (a=b)):=by
 by_cases h1:a.At=b.At
 case neg=>rw [pP h1,z7 (p:=a=b) (fun e=>h1 (by rw [e]))];rfl
 by_cases h2:a.Kind=b.Kind
 case neg=>rw [tI h1,pP h2,z7 (p:=a=b) (fun e=>h2 (by rw [e]))];rfl
 by_cases h3:a.Name=b.Name
 case neg=>rw [tI h1,tI h2,zDd h3,z7 (p:=a=b) (fun e=>h3 (by rw [e]))];rfl
 by_cases h4:a.N=b.N
 case neg=>rw [tI h1,tI h2,zBU h3,pP h4,z7 (p:=a=b) (fun e=>h4 (by rw [e]))];rfl
 by_cases h5:a.M=b.M
 case neg=>rw [tI h1,tI h2,zBU h3,tI h4,pP h5,z7 (p:=a=b) (fun e=>h5 (by rw [e]))];rfl
 rw [tI h1,tI h2,zBU h3,tI h4,tI h5]
 simp only [cond_true]
 by_cases h6:a.Stack=b.Stack
 ·have:a=b:=by cases a;cases b;simp_all
  rw [z9 h6,z9 this]
 ·rw [z7 h6,z7 (p:=a=b) (fun e=>h6 (by rw [e]))]
theorem zKu {a b:zA} (ha:a.Stack.length≤100000):zCk 200000 a b=some (decide (a=b)):=by
 unfold zCk
 simp only [zIF ha,Option.bind_some]
 rw [zNF,Option.bind_some]
end Go.Ab
