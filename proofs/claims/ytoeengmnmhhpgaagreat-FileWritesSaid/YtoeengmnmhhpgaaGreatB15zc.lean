/- Plain laws of the functions uS this seat's, laid anew from another seat's text. No conditions but those that the theorems name. -/
import Derived.Test.YtoeengmnmhhpgaaGreatP15zxD
import Derived.Test.YtoeengmnmhhpgaaGreatB15za
import Derived.Test.YtoeengmnmhhpgaaGreatB15zb
namespace Go.Ab
open Go
set_option linter.unusedVariables false
def vP (k:Int):Bool:=(k==1)||((k==3)||(k==4))
def uC (k:Int):Bool:=decide (k>=4)
def uM (k:Int):Bool:=(k==9)||(k==11)
def u4 (k:Int):Bool:=(k==5)||(k==11)
def kM (n lo hi:Int):Int:=if n<lo\/n>hi then 2 else 0
def gY (e:xD):Int :=
 if e.Kind=1\/e.Kind=2\/e.Kind=3 then 0 else if e.Kind=4 then kM e.N (-1000000000000000) 1000000000000000 else if e.Kind=5 then kM e.N 1 1000000000000 else
 if e.Kind=8 then kM e.N 0 63 else
 if e.Kind=9 then (if kM e.N 0 3=0/\e.N=2 then kM e.M 0 1000000000000000 else if kM e.N 0 3=0/\e.M≠0 then 1 else kM e.N 0 3) else
 if kM e.N 0 1000000000000000=0/\e.Kind=11 then kM e.M 1 1000000000000 else kM e.N 0 1000000000000000
def bR (e:xD):Bool :=
 (!vP e.Kind&&!(e.Name==[]))||((!uC e.Kind&&(e.N != 0))||((!uM e.Kind&&(e.M != 0))||(!u4 e.Kind&&decide (0<e.Stack.length))))
def gN (e:xD):Int:=if vP e.Kind then tC e.Name else if u4 e.Kind then pM e.Stack else 0
def evS (e:xD):Int :=
 if e.At<0\/e.At>1000000000000 then 2 else if e.Kind<1\/e.Kind>12 then 1 else if bR e then 1 else if gN e≠0 then gN e else gY e
theorem zGA {n lo hi:Int}:bQ n lo hi=some (kM n lo hi):=by
 unfold bQ kM
 by_cases h:n<lo\/n>hi
 ·rw [if_pos h]
  have:(decide (n<lo)||decide (n>hi))=true:=by simpa using h
  rw [this];rfl
 ·rw [if_neg h]
  have:(decide (n<lo)||decide (n>hi))=false:=by simp;omega
  rw [this];rfl
theorem zD2 {e:xD}:E7 e=some (gY e):=by
 unfold E7 gY;simp only [zGA,zbs,Bool.cond_eq_ite,beq_iff_eq,zba,bne_iff_ne]
 by_cases h1:e.Kind=1
 ·simp [h1]
 by_cases h2:e.Kind=2
 ·simp [h2]
 by_cases h3:e.Kind=3
 ·simp [h3]
 by_cases h4:e.Kind=4
 ·simp [h4]
 by_cases h5:e.Kind=5
 ·simp [h5]
 by_cases h8:e.Kind=8
 ·simp [h8]
 by_cases h9:e.Kind=9
 ·generalize kM e.N 0 3=x;generalize kM e.M 0 1000000000000000=y;generalize kM e.N 0 1000000000000000=z
  by_cases g1:x=0<;>by_cases g2:e.N=2<;>by_cases g3:e.M=0<;>simp [h9,g1,g2,g3]
 ·generalize kM e.N 0 1000000000000000=x
  by_cases g1:x=0<;>by_cases g2:e.Kind=11<;>simp_all
theorem zAV (a b c d p q r s:Bool):((bif !a then (bif !p then some true else (bif !b then (bif q then some true else (bif !c then (bif r then some true else (bif !d then some s else some false)) else (bif !d then some s else some false))) else
  (bif !c then (bif r then some true else (bif !d then some s else some false)) else (bif !d then some s else some false)))) else (bif !b then (bif q then some true else (bif !c then (bif r then some true else (bif !d then some s else some false)) else (bif !d then some s else some false))) else
  (bif !c then (bif r then some true else (bif !d then some s else some false)) else (bif !d then some s else some false)))):Option Bool)=some ((!a&&!p)||((!b&&q)||((!c&&r)||(!d&&s)))):=by
 cases a<;>cases b<;>cases c<;>cases d<;>cases p<;>cases q<;>cases r<;>cases s<;>rfl
theorem V9 (e:xD):bR e=((!vP e.Kind&&!(e.Name==([]:List Int)))||((!uC e.Kind&&(e.N != (0:Int)))||((!uM e.Kind&&(e.M != (0:Int)))||(!u4 e.Kind&&decide ((((e.Stack).length:Nat):Int)>(0:Int)))))):=by
 unfold bR
 have:decide (0<e.Stack.length)=decide ((((e.Stack).length:Nat):Int)>(0:Int)):=by
  by_cases h:0<e.Stack.length
  ·rw [yN h,yN (by omega)]
  ·rw [yP h,yP (by omega)]
 rw [this]
theorem WD (k:Int) (h:vP k=true):u4 k=false:=by
 unfold vP u4 at *;simp at *;omega
theorem QP {e:xD}:iI 281474976710656 e=some (evS e):=by
 unfold iI evS
 by_cases h1:e.At<0\/e.At>1000000000000
 ·rw [if_pos h1]
  have:(decide (e.At<(0:Int))||decide (e.At>(1000000000000:Int)))=true:=by simpa using h1
  rw [this];rfl
 rw [if_neg h1];have g1:(decide (e.At<(0:Int))||decide (e.At>(1000000000000:Int)))=false:=by simp;omega
 rw [g1,cond_false]
 by_cases h2:e.Kind<1\/e.Kind>12
 ·rw [if_pos h2]
  have:(decide (e.Kind<(1:Int))||decide (e.Kind>(12:Int)))=true:=by simpa using h2
  rw [this];rfl
 rw [if_neg h2];have g2:(decide (e.Kind<(1:Int))||decide (e.Kind>(12:Int)))=false:=by simp;omega
 rw [g2,cond_false];rw [show MP e.Kind=some (vP e.Kind,uC e.Kind,uM e.Kind,u4 e.Kind) from rfl,zbs];simp only;rw [zAV,zbs,<- V9];cases hb:bR e
 case true=>rfl
 simp only [cond_false,GH,zAE,zD2,zbs];have hns:=WD e.Kind;unfold gN;cases hn:vP e.Kind
 ·cases hs:u4 e.Kind
  ·simp
  ·by_cases hf:pM e.Stack=0
   ·simp [hf]
   ·simp [hf,xX hf]
 ·rw [hns hn]
  by_cases hf:tC e.Name=0
  ·simp [hf]
  ·simp [hf,xX hf]
def aH (k:Int):vS:=(yX (match C4 with | some l=>l | none=>[]) k).getD ⟨[],false,false,false,false,0,0,0,0⟩
theorem zIB {k:Int}:HK k=some (if k<1\/k>12 then ((⟨[],false,false,false,false,0,0,0,0⟩:vS),false) else (aH k,true)):=by
 by_cases h:k<1\/k>12
 ·rw [if_pos h];unfold HK C4;rw [zbs];exact HS (EV (show k<1\/k>=((13:Nat):Int) by omega)) rfl
 ·rw [if_neg h]
  have:k=1\/k=2\/k=3\/k=4\/k=5\/k=6\/k=7\/k=8\/k=9\/k=10\/k=11\/k=12:=by omega
  rcases this with h | h | h | h | h | h | h | h | h | h | h | h<;>subst h<;>rfl
theorem zAU {k:Int} (h:1<=k/\k<=12):(aH k).name=vP k/\(aH k).n=uC k/\(aH k).m=uM k/\(aH k).stack=u4 k:=by
 have:k=1\/k=2\/k=3\/k=4\/k=5\/k=6\/k=7\/k=8\/k=9\/k=10\/k=11\/k=12:=by omega
 rcases this with h | h | h | h | h | h | h | h | h | h | h | h<;>subst h<;>exact ⟨rfl,rfl,rfl,rfl⟩
theorem zGs {l:List (List Int)} (h:¬ 0<l.length):pM l=0:=by
 have:l=[]:=List.eq_nil_of_length_eq_zero (by omega)
 rw [this];rfl
theorem zGv {e:xD} (h:bR e=false) (hs:u4 e.Kind=false):¬ 0<e.Stack.length:=by
 unfold bR at h;rw [hs] at h;simp at h;simp [h.2.2.2]
theorem zFf {e:xD} (hk:1<=e.Kind/\e.Kind<=12) (hb:bR e=false):DV 281474976710656 (aH e.Kind) e=some (gN e):=by
 unfold DV gN;rw [(zAU hk).1,JC,X2];cases hn:vP e.Kind
 ·cases hs:u4 e.Kind
  ·rw [zGs (zGv hb hs)];rfl
  ·rfl
 ·rfl
theorem zIP {e:xD} (hk:1<=e.Kind/\e.Kind<=12) (hb:bR e=false) :
  (bif ((aH e.Kind).n&&(decide (e.N<(aH e.Kind).least)||decide (e.N>(aH e.Kind).most))) then some (2:Int) else
  (bif ((e.Kind==(9:Int))&&((e.N != (2:Int))&&(e.M != (0:Int)))) then some (1:Int) else
  (bif ((aH e.Kind).m&&(bif decide (e.M<(aH e.Kind).mLeast) then ((e.Kind != (9:Int))||(e.N==(2:Int))) else (decide (e.M>(aH e.Kind).mMost)&&((e.Kind != (9:Int))||(e.N==(2:Int)))))) then some (2:Int) else
  some (0:Int))))=some (gY e):=by
 have:e.Kind=1\/e.Kind=2\/e.Kind=3\/e.Kind=4\/e.Kind=5\/e.Kind=6\/e.Kind=7\/e.Kind=8\/e.Kind=9\/e.Kind=10\/e.Kind=11\/e.Kind=12:=by omega
 unfold gY;rcases this with h | h | h | h | h | h | h | h | h | h | h | h<;>rw [h]<;>simp [aH,C4,yX,kM,Bool.cond_eq_ite]<;>(repeat' split)<;>first | rfl | omega | (simp at *;omega)
theorem SA {e:xD}:gU 281474976710656 e=some (evS e):=by
 unfold gU evS
 by_cases h1:e.At<0\/e.At>1000000000000
 ·rw [if_pos h1]
  have:(decide (e.At<(0:Int))||decide (e.At>(1000000000000:Int)))=true:=by simpa using h1
  rw [this];rfl
 rw [if_neg h1];have g1:(decide (e.At<(0:Int))||decide (e.At>(1000000000000:Int)))=false:=by simp;omega
 rw [g1,cond_false,zIB,zbs]
 by_cases h2:e.Kind<1\/e.Kind>12
 ·rw [if_pos h2,if_pos h2];rfl
 rw [if_neg h2,if_neg h2];have hu:=zAU (k:=e.Kind) (by omega);simp only [Bool.not_true,cond_false];rw [hu.1,hu.2.1,hu.2.2.1,hu.2.2.2,zAV,zbs,<- V9];cases hb:bR e
 case true=>rfl
 simp only [cond_false];rw [zFf (by omega) hb,zbs]
 by_cases ht:gN e=0
 ·rw [x7 ht,cond_false,<- hu.2.1,<- hu.2.2.1,zIP (by omega) hb];simp [ht]
 ·rw [xX ht,cond_true];simp [ht]
end Go.Ab
