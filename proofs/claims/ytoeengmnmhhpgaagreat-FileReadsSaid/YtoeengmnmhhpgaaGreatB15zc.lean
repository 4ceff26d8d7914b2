/- Plain laws of the functions uV this seat's, laid anew from another seat's text. No conditions but those that the theorems name. -/
import Derived.Test.YtoeengmnmhhpgaaGreatP15zxD
import Derived.Test.YtoeengmnmhhpgaaGreatB15za
import Derived.Test.YtoeengmnmhhpgaaGreatB15zb
namespace Go.Ab
open Go
set_option linter.unusedVariables false
def vB (k:Int):Bool:=(k==1)||((k==3)||(k==4))
def vZ (k:Int):Bool:=decide (k≥4)
def uD (k:Int):Bool:=(k==9)||(k==11)
def uP (k:Int):Bool:=(k==5)||(k==11)
def kA (n lo hi:Int):Int:=if n<lo∨n>hi then 2 else 0
def gG (e:yW):Int :=
 if e.Kind=1∨e.Kind=2∨e.Kind=3 then 0 else if e.Kind=4 then kA e.N (-1000000000000000) 1000000000000000 else if e.Kind=5 then kA e.N 1 1000000000000 else
 if e.Kind=8 then kA e.N 0 63 else
 if e.Kind=9 then (if kA e.N 0 3=0∧e.N=2 then kA e.M 0 1000000000000000 else if kA e.N 0 3=0∧e.M≠0 then 1 else kA e.N 0 3) else
 if kA e.N 0 1000000000000000=0∧e.Kind=11 then kA e.M 1 1000000000000 else kA e.N 0 1000000000000000
def aK (e:yW):Bool :=
 (!vB e.Kind&&!(e.Name==[]))||((!vZ e.Kind&&(e.N != 0))||((!uD e.Kind&&(e.M != 0))||(!uP e.Kind&&decide (0<e.Stack.length))))
def b7 (e:yW):Int:=if vB e.Kind then tD e.Name else if uP e.Kind then kH e.Stack else 0
def evS (e:yW):Int :=
 if e.At<0∨e.At>1000000000000 then 2 else if e.Kind<1∨e.Kind>12 then 1 else if aK e then 1 else if b7 e≠0 then b7 e else gG e
theorem zDm {n lo hi:Int}:bD n lo hi=some (kA n lo hi):=by
 unfold bD kA
 by_cases h:n<lo∨n>hi
 ·rw [if_pos h]
  have:(decide (n<lo)||decide (n>hi))=true:=by simpa using h
  rw [this];rfl
 ·rw [if_neg h]
  have:(decide (n<lo)||decide (n>hi))=false:=by simp;omega
  rw [this];rfl
theorem YX {e:yW}:EI e=some (gG e):=by
 unfold EI gG
 simp only [zDm,zbs,Bool.cond_eq_ite,beq_iff_eq,Bool.and_eq_true,bne_iff_ne]
 by_cases h1:e.Kind=1
 ·simp [h1]
 by_cases h2:e.Kind=2
 ·simp [h2]
 by_cases h3:e.Kind=3
 ·simp [h3]
 by_cases h4:e.Kind=4
 ·simp [h4]
 by_cases h5:e.Kind=5
 ·simp [h5]
 by_cases h8:e.Kind=8
 ·simp [h8]
 by_cases h9:e.Kind=9
 ·generalize kA e.N 0 3=x
  generalize kA e.M 0 1000000000000000=y
  generalize kA e.N 0 1000000000000000=z
  by_cases g1:x=0<;>by_cases g2:e.N=2<;>by_cases g3:e.M=0<;>simp [h9,g1,g2,g3]
 ·generalize kA e.N 0 1000000000000000=x
  by_cases g1:x=0<;>by_cases g2:e.Kind=11<;>simp_all
theorem WR (a b c d p q r s:Bool):((bif !a then (bif !p then some true else (bif !b then (bif q then some true else (bif !c then (bif r then some true else (bif !d then some s else some false)) else (bif !d then some s else some false))) else
  (bif !c then (bif r then some true else (bif !d then some s else some false)) else (bif !d then some s else some false)))) else (bif !b then (bif q then some true else (bif !c then (bif r then some true else (bif !d then some s else some false)) else (bif !d then some s else some false))) else
  (bif !c then (bif r then some true else (bif !d then some s else some false)) else (bif !d then some s else some false)))):Option Bool)=some ((!a&&!p)||((!b&&q)||((!c&&r)||(!d&&s)))):=by
 cases a<;>cases b<;>cases c<;>cases d<;>cases p<;>cases q<;>cases r<;>cases s<;>rfl
theorem WF (e:yW):aK e=((!vB e.Kind&&!(e.Name==([]:List Int)))||((!vZ e.Kind&&(e.N != (0:Int)))||((!uD e.Kind&&(e.M != (0:Int)))||(!uP e.Kind&&decide ((((e.Stack).length:Nat):Int)>(0:Int)))))):=by
 unfold aK
 have:decide (0<e.Stack.length)=decide ((((e.Stack).length:Nat):Int)>(0:Int)):=by
  by_cases h:0<e.Stack.length
  ·rw [yP h,yP (by omega)]
  ·rw [yM h,yM (by omega)]
 rw [this]
theorem RZ (k:Int) (h:vB k=true):uP k=false:=by
 unfold vB uP at *
 simp at *
 omega
theorem Q5 {e:yW}:gL 281474976710656 e=some (evS e):=by
 unfold gL evS
 by_cases h1:e.At<0∨e.At>1000000000000
 ·rw [if_pos h1]
  have:(decide (e.At<(0:Int))||decide (e.At>(1000000000000:Int)))=true:=by simpa using h1
  rw [this];rfl
 rw [if_neg h1]
 have g1:(decide (e.At<(0:Int))||decide (e.At>(1000000000000:Int)))=false:=by simp;omega
 rw [g1,cond_false]
 by_cases h2:e.Kind<1∨e.Kind>12
 ·rw [if_pos h2]
  have:(decide (e.Kind<(1:Int))||decide (e.Kind>(12:Int)))=true:=by simpa using h2
  rw [this];rfl
 rw [if_neg h2]
 have g2:(decide (e.Kind<(1:Int))||decide (e.Kind>(12:Int)))=false:=by simp;omega
 rw [g2,cond_false]
 rw [show LD e.Kind=some (vB e.Kind,vZ e.Kind,uD e.Kind,uP e.Kind) from rfl,zbs]
 simp only
 rw [WR,zbs,← WF]
 cases hb:aK e
 case true=>rfl
 simp only [cond_false,JC,VK,YX,zbs]
 have hns:=RZ e.Kind
 unfold b7
 cases hn:vB e.Kind
 ·cases hs:uP e.Kind
  ·simp
  ·by_cases hf:kH e.Stack=0
   ·simp [hf]
   ·simp [hf,wE hf]
 ·rw [hns hn]
  by_cases hf:tD e.Name=0
  ·simp [hf]
  ·simp [hf,wE hf]
def aA (k:Int):vF:=(yZ (match CH with | some l=>l | none=>[]) k).getD ⟨[],false,false,false,false,0,0,0,0⟩
theorem zBh {k:Int}:HK k=some (if k<1∨k>12 then ((⟨[],false,false,false,false,0,0,0,0⟩:vF),false) else (aA k,true)):=by
 by_cases h:k<1∨k>12
 ·rw [if_pos h]
  unfold HK CH
  rw [zbs]
  exact GL (G7 (show k<1∨k≥((13:Nat):Int) by omega)) rfl
 ·rw [if_neg h]
  have:k=1∨k=2∨k=3∨k=4∨k=5∨k=6∨k=7∨k=8∨k=9∨k=10∨k=11∨k=12:=by omega
  rcases this with h | h | h | h | h | h | h | h | h | h | h | h<;>subst h<;>rfl
theorem VT {k:Int} (h:1≤k∧k≤12):(aA k).name=vB k∧(aA k).n=vZ k∧(aA k).m=uD k∧(aA k).stack=uP k:=by
 have:k=1∨k=2∨k=3∨k=4∨k=5∨k=6∨k=7∨k=8∨k=9∨k=10∨k=11∨k=12:=by omega
 rcases this with h | h | h | h | h | h | h | h | h | h | h | h<;>subst h<;>exact ⟨rfl,rfl,rfl,rfl⟩
theorem zC9 {l:List (List Int)} (h:¬ 0<l.length):kH l=0:=by
 have:l=[]:=List.eq_nil_of_length_eq_zero (by omega)
 rw [this];rfl
theorem UZ {e:yW} (h:aK e=false) (hs:uP e.Kind=false):¬ 0<e.Stack.length:=by
 unfold aK at h
 rw [hs] at h
 simp at h
 simp [h.2.2.2]
theorem zCm {e:yW} (hk:1≤e.Kind∧e.Kind≤12) (hb:aK e=false):EN 281474976710656 (aA e.Kind) e=some (b7 e):=by
 unfold EN b7
 rw [(VT hk).1,DA,WM]
 cases hn:vB e.Kind
 ·cases hs:uP e.Kind
  ·rw [zC9 (UZ hb hs)];rfl
  ·rfl
 ·rfl
theorem zFp {e:yW} (hk:1≤e.Kind∧e.Kind≤12) (hb:aK e=false) :
  (bif ((aA e.Kind).n&&(decide (e.N<(aA e.Kind).least)||decide (e.N>(aA e.Kind).most))) then some (2:Int) else
  (bif ((e.Kind==(9:Int))&&((e.N != (2:Int))&&(e.M != (0:Int)))) then some (1:Int) else
  (bif ((aA e.Kind).m&&(bif decide (e.M<(aA e.Kind).mLeast) then ((e.Kind != (9:Int))||(e.N==(2:Int))) else (decide (e.M>(aA e.Kind).mMost)&&((e.Kind != (9:Int))||(e.N==(2:Int)))))) then some (2:Int) else
  some (0:Int))))=some (gG e):=by
 have:e.Kind=1∨e.Kind=2∨e.Kind=3∨e.Kind=4∨e.Kind=5∨e.Kind=6∨e.Kind=7∨e.Kind=8∨e.Kind=9∨e.Kind=10∨e.Kind=11∨e.Kind=12:=by omega
 unfold gG
 rcases this with h | h | h | h | h | h | h | h | h | h | h | h<;>rw [h]<;>simp [aA,CH,yZ,kA,Bool.cond_eq_ite]<;>(repeat' split)<;>first | rfl | omega | (simp at *;omega)
theorem MW {e:yW}:fQ 281474976710656 e=some (evS e):=by
 unfold fQ evS
 by_cases h1:e.At<0∨e.At>1000000000000
 ·rw [if_pos h1]
  have:(decide (e.At<(0:Int))||decide (e.At>(1000000000000:Int)))=true:=by simpa using h1
  rw [this];rfl
 rw [if_neg h1]
 have g1:(decide (e.At<(0:Int))||decide (e.At>(1000000000000:Int)))=false:=by simp;omega
 rw [g1,cond_false,zBh,zbs]
 by_cases h2:e.Kind<1∨e.Kind>12
 ·rw [if_pos h2,if_pos h2];rfl
 rw [if_neg h2,if_neg h2]
 have hu:=VT (k:=e.Kind) (by omega)
 simp only [Bool.not_true,cond_false]
 rw [hu.1,hu.2.1,hu.2.2.1,hu.2.2.2,WR,zbs,← WF]
 cases hb:aK e
 case true=>rfl
 simp only [cond_false]
 rw [zCm (by omega) hb,zbs]
 by_cases ht:b7 e=0
 ·rw [wF ht,cond_false,← hu.2.1,← hu.2.2.1,zFp (by omega) hb];simp [ht]
 ·rw [wE ht,cond_true];simp [ht]
theorem zGc {a b:List (List Int)} (ha:a.length≤140737488355328):EB 281474976710656 a b=some (decide (a=b)):=by
 unfold EB
 by_cases hl:(a.length:Int)≠b.length
 ·rw [wE hl,cond_true,yM (fun e=>hl (by rw [e]))]
 rw [wF (by omega),cond_false,BQ (a:=a) (b:=b) (DO 281474976710656 a b) (by omega) ha (fun n i hi=>by
  show g6 _ _ _ _ _=_
  unfold g6
  simp (disch:=omega) only [yM,cond_false]) (fun n i x y r r2 hd hd2 hlt=>by
  show g6 _ _ _ _ _=_
  unfold g6
  simp (disch:=omega) only [yP,cond_true,w5 hd,w5 hd2,zbs,wW]
  by_cases h:x=y
  ·rw [gH h,if_pos h];rfl
  ·rw [B7 h,if_neg h];rfl),zbs]
 by_cases h:a=b
 ·rw [if_pos h,yP h]
 ·rw [if_neg h,yM h]
theorem zDq (a b:yW):(bif (a.At==b.At) then (bif (a.Kind==b.Kind) then (bif (a.Name==b.Name) then (bif (a.N==b.N) then (bif (a.M==b.M) then some (decide (a.Stack=b.Stack)) else some false) else some false) else some false) else some false) else some false)=some (decide (a=b)):=by
 by_cases h1:a.At=b.At
 case neg=>rw [uH h1,yM (p:=a=b) (fun e=>h1 (by rw [e]))];rfl
 by_cases h2:a.Kind=b.Kind
 case neg=>rw [uF h1,uH h2,yM (p:=a=b) (fun e=>h2 (by rw [e]))];rfl
 by_cases h3:a.Name=b.Name
 case neg=>rw [uF h1,uF h2,B7 h3,yM (p:=a=b) (fun e=>h3 (by rw [e]))];rfl
 by_cases h4:a.N=b.N
 case neg=>rw [uF h1,uF h2,gH h3,uH h4,yM (p:=a=b) (fun e=>h4 (by rw [e]))];rfl
 by_cases h5:a.M=b.M
 case neg=>rw [uF h1,uF h2,gH h3,uF h4,uH h5,yM (p:=a=b) (fun e=>h5 (by rw [e]))];rfl
 rw [uF h1,uF h2,gH h3,uF h4,uF h5]
 simp only [cond_true]
 by_cases h6:a.Stack=b.Stack
 ·have:a=b:=by cases a;cases b;simp_all
  rw [yP h6,yP this]
 ·rw [yM h6,yM (p:=a=b) (fun e=>h6 (by rw [e]))]
theorem zAJ {a b:yW} (ha:a.Stack.length≤140737488355328):GA 281474976710656 a b=some (decide (a=b)):=by
 unfold GA
 simp only [zGc ha,zbs]
 rw [zDq,zbs]
end Go.Ab
