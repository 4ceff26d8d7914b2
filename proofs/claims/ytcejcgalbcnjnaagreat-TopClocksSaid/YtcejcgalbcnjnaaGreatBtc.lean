/- Lemmas. No conditions but those that they name. -/
import Derived.Test.YtcejcgalbcnjnaaGreatCtz
import Derived.Test.YtcejcgalbcnjnaaGreatBtb
namespace Go.Ab
open Go
set_option linter.unusedVariables false
def AQ (k:Int):Bool:=(k==1)||((k==3)||(k==4))
def zAM (k:Int):Bool:=decide (k>=4)
def zBB (k:Int):Bool:=(k==9)||(k==11)
def A5 (k:Int):Bool:=(k==5)||(k==11)
def iY (n lo hi:Int):Int:=if n<lo\/n>hi then 2 else 0
def zAs (e:y8):Int :=
 if e.Xg=1\/e.Xg=2\/e.Xg=3 then 0 else if e.Xg=4 then iY e.N (-1000000000000000) 1000000000000000 else if e.Xg=5 then iY e.N 1 1000000000000 else
 if e.Xg=8 then iY e.N 0 63 else
 if e.Xg=9 then (if iY e.N 0 3=0/\e.N=2 then iY e.M 0 1000000000000000 else if iY e.N 0 3=0/\e.M≠0 then 1 else iY e.N 0 3) else
 if iY e.N 0 1000000000000000=0/\e.Xg=11 then iY e.M 1 1000000000000 else iY e.N 0 1000000000000000
def rL (e:y8):Bool :=
 (!AQ e.Xg&&!(e.Yc==[]))||((!zAM e.Xg&&(e.N != 0))||((!zBB e.Xg&&(e.M != 0))||(!A5 e.Xg&&decide (0<e.Xs.length))))
def DT (e:y8):Int:=if AQ e.Xg then fQ e.Yc else if A5 e.Xg then M9 e.Xs else 0
def evS (e:y8):Int :=
 if e.At<0\/e.At>1000000000000 then 2 else if e.Xg<1\/e.Xg>12 then 1 else if rL e then 1 else if DT e≠0 then DT e else zAs e
theorem zJ8 (a b c d p q r s:Bool):((bif !a then (bif !p then some true else (bif !b then (bif q then some true else (bif !c then (bif r then some true else (bif !d then some s else some false)) else (bif !d then some s else some false))) else
  (bif !c then (bif r then some true else (bif !d then some s else some false)) else (bif !d then some s else some false)))) else (bif !b then (bif q then some true else (bif !c then (bif r then some true else (bif !d then some s else some false)) else (bif !d then some s else some false))) else
  (bif !c then (bif r then some true else (bif !d then some s else some false)) else (bif !d then some s else some false)))):Option Bool)=some ((!a&&!p)||((!b&&q)||((!c&&r)||(!d&&s)))):=by
 cases a<;>cases b<;>cases c<;>cases d<;>cases p<;>cases q<;>cases r<;>cases s<;>rfl
theorem zJb (e:y8):rL e=((!AQ e.Xg&&!(e.Yc==([]:List Int)))||((!zAM e.Xg&&(e.N != (0:Int)))||((!zBB e.Xg&&(e.M != (0:Int)))||(!A5 e.Xg&&decide ((((e.Xs).length:Nat):Int)>(0:Int)))))):=by
 unfold rL
 have:decide (0<e.Xs.length)=decide ((((e.Xs).length:Nat):Int)>(0:Int)):=by
  by_cases h:0<e.Xs.length
  ·rw [wE h,wE (by omega)]
  ·rw [xN h,xN (by omega)]
 rw [this]
theorem zOi (k:Int) (h:AQ k=true):A5 k=false:=by
 unfold AQ A5 at *;simp at *;omega
def fI (k:Int):uY:=(z0 (match KT with | some l=>l | none=>[]) k).getD ⟨[],false,false,false,false,0,0,0,0⟩
theorem zHc {k:Int}:L7 k=some (if k<1\/k>12 then ((⟨[],false,false,false,false,0,0,0,0⟩:uY),false) else (fI k,true)):=by
 by_cases h:k<1\/k>12
 ·rw [if_pos h];unfold L7 KT;rw [zbs];exact WB (zDR (show k<1\/k>=((13:Nat):Int) by omega)) rfl
 ·rw [if_neg h]
  have:k=1\/k=2\/k=3\/k=4\/k=5\/k=6\/k=7\/k=8\/k=9\/k=10\/k=11\/k=12:=by omega
  rcases this with h | h | h | h | h | h | h | h | h | h | h | h<;>subst h<;>rfl
theorem zD1 {k:Int} (h:1<=k/\k<=12):(fI k).name=AQ k/\(fI k).n=zAM k/\(fI k).m=zBB k/\(fI k).stack=A5 k:=by
 have:k=1\/k=2\/k=3\/k=4\/k=5\/k=6\/k=7\/k=8\/k=9\/k=10\/k=11\/k=12:=by omega
 rcases this with h | h | h | h | h | h | h | h | h | h | h | h<;>subst h<;>exact ⟨rfl,rfl,rfl,rfl⟩
theorem zNs {l:List (List Int)} (h:¬ 0<l.length):M9 l=0:=by
 have:l=[]:=cK (by omega)
 rw [this];rfl
theorem zFw {e:y8} (h:rL e=false) (hs:A5 e.Xg=false):¬ 0<e.Xs.length:=by
 unfold rL at h;rw [hs] at h;simp at h;simp [h.2.2.2]
theorem zOn {e:y8} (hk:1<=e.Xg/\e.Xg<=12) (hb:rL e=false):N9 281474976710656 (fI e.Xg) e=some (DT e):=by
 unfold N9 DT;rw [(zD1 hk).1,zA3,zJL];cases hn:AQ e.Xg
 ·cases hs:A5 e.Xg
  ·rw [zNs (zFw hb hs)];rfl
  ·rfl
 ·rfl
theorem zGN {e:y8} (hk:1<=e.Xg/\e.Xg<=12) (hb:rL e=false) :
  (bif ((fI e.Xg).n&&(decide (e.N<(fI e.Xg).least)||decide (e.N>(fI e.Xg).most))) then some (2:Int) else
  (bif ((e.Xg==(9:Int))&&((e.N != (2:Int))&&(e.M != (0:Int)))) then some (1:Int) else
  (bif ((fI e.Xg).m&&(bif decide (e.M<(fI e.Xg).mLeast) then ((e.Xg != (9:Int))||(e.N==(2:Int))) else (decide (e.M>(fI e.Xg).mMost)&&((e.Xg != (9:Int))||(e.N==(2:Int)))))) then some (2:Int) else
  some (0:Int))))=some (zAs e):=by
 have:e.Xg=1\/e.Xg=2\/e.Xg=3\/e.Xg=4\/e.Xg=5\/e.Xg=6\/e.Xg=7\/e.Xg=8\/e.Xg=9\/e.Xg=10\/e.Xg=11\/e.Xg=12:=by omega
 unfold zAs;rcases this with h | h | h | h | h | h | h | h | h | h | h | h<;>rw [h]<;>simp [fI,KT,z0,iY,Bool.cond_eq_ite]<;>(repeat' split)<;>first | rfl | omega | (simp at *;omega)
theorem zJ9 {e:y8}:O1 281474976710656 e=some (evS e):=by
 unfold O1 evS
 by_cases h1:e.At<0\/e.At>1000000000000
 ·rw [if_pos h1]
  have:(decide (e.At<(0:Int))||decide (e.At>(1000000000000:Int)))=true:=by simpa using h1
  rw [this];rfl
 rw [if_neg h1];have g1:(decide (e.At<(0:Int))||decide (e.At>(1000000000000:Int)))=false:=by simp;omega
 rw [g1,cond_false,zHc,zbs]
 by_cases h2:e.Xg<1\/e.Xg>12
 ·rw [if_pos h2,if_pos h2];rfl
 rw [if_neg h2,if_neg h2];have hu:=zD1 (k:=e.Xg) (by omega);simp only [cO,cond_false];rw [hu.1,hu.2.1,hu.2.2.1,hu.2.2.2,zJ8,zbs,<- zJb];cases hb:rL e
 case true=>rfl
 simp only [cond_false];rw [zOn (by omega) hb,zbs]
 by_cases ht:DT e=0
 ·rw [tV ht,cond_false,<- hu.2.1,<- hu.2.2.1,zGN (by omega) hb];simp [ht]
 ·rw [aN ht,cond_true];simp [ht]
theorem zG9 {a b:List (List Int)} (ha:a.length<=140737488355328):OU 281474976710656 a b=some (decide (a=b)):=by
 unfold OU
 by_cases hl:(a.length:Int)≠b.length
 ·rw [aN hl,cond_true,xN (fun e=>hl (by rw [e]))]
 rw [tV (by omega),cond_false,J2 (a:=a) (b:=b) (QV 281474976710656 a b) (by omega) ha (fun n i hi=>by
  show H8 _ _ _ _ _=_;unfold H8;simp (disch:=omega) only [xN,cond_false]) (fun n i x y r r2 hd hd2 hlt=>by
  show H8 _ _ _ _ _=_;unfold H8;simp (disch:=omega) only [wE,cond_true,qB hd,qB hd2,zbs,j6]
  by_cases h:x=y
  ·rw [XM h,if_pos h];rfl
  ·rw [zE3 h,if_neg h];rfl),zbs]
 by_cases h:a=b
 ·rw [if_pos h,wE h]
 ·rw [if_neg h,xN h]
theorem zN2 (a b:y8):(bif (a.At==b.At) then (bif (a.Xg==b.Xg) then (bif (a.Yc==b.Yc) then (bif (a.N==b.N) then (bif (a.M==b.M) then some (decide (a.Xs=b.Xs)) else some false) else some false) else some false) else some false) else some false)=some (decide (a=b)):=by
 by_cases h1:a.At=b.At
 case neg=>rw [nK h1,xN (p:=a=b) (fun e=>h1 (by rw [e]))];rfl
 by_cases h2:a.Xg=b.Xg
 case neg=>rw [qN h1,nK h2,xN (p:=a=b) (fun e=>h2 (by rw [e]))];rfl
 by_cases h3:a.Yc=b.Yc
 case neg=>rw [qN h1,qN h2,zE3 h3,xN (p:=a=b) (fun e=>h3 (by rw [e]))];rfl
 by_cases h4:a.N=b.N
 case neg=>rw [qN h1,qN h2,XM h3,nK h4,xN (p:=a=b) (fun e=>h4 (by rw [e]))];rfl
 by_cases h5:a.M=b.M
 case neg=>rw [qN h1,qN h2,XM h3,qN h4,nK h5,xN (p:=a=b) (fun e=>h5 (by rw [e]))];rfl
 rw [qN h1,qN h2,XM h3,qN h4,qN h5];simp only [cond_true]
 by_cases h6:a.Xs=b.Xs
 ·have:a=b:=by cases a;cases b;simp_all
  rw [wE h6,wE this]
 ·rw [xN h6,xN (p:=a=b) (fun e=>h6 (by rw [e]))]
theorem zDB {a b:y8} (ha:a.Xs.length<=140737488355328):EK 281474976710656 a b=some (decide (a=b)):=by
 unfold EK;simp only [zG9 ha,zbs];rw [zN2,zbs]
end Go.Ab
