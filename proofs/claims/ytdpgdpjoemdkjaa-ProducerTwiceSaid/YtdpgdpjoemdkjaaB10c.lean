/- Plain laws of the functions uI this seat's, laid anew from another seat's text. No conditions but those that the theorems name. -/
import Derived.Test.YtdpgdpjoemdkjaaP10xD
import Derived.Test.YtdpgdpjoemdkjaaB10a
import Derived.Test.YtdpgdpjoemdkjaaB10b
namespace Go.Ab
open Go
set_option linter.unusedVariables false
def y9 (k:Int):Bool:=(k==1)||((k==3)||(k==4))
def tY (k:Int):Bool:=decide (k≥4)
def qO (k:Int):Bool:=(k==9)||(k==11)
def xM (k:Int):Bool:=(k==5)||(k==11)
def jG (n lo hi:Int):Int:=if n<lo∨n>hi then 2 else 0
def zEA (e:zE):Int :=
 if e.Kind=1∨e.Kind=2∨e.Kind=3 then 0 else if e.Kind=4 then jG e.N (-1000000000000000) 1000000000000000 else if e.Kind=5 then jG e.N 1 1000000000000 else
 if e.Kind=8 then jG e.N 0 63 else
 if e.Kind=9 then (if jG e.N 0 3=0∧e.N=2 then jG e.M 0 1000000000000000 else if jG e.N 0 3=0∧e.M≠0 then 1 else jG e.N 0 3) else
 if jG e.N 0 1000000000000000=0∧e.Kind=11 then jG e.M 1 1000000000000 else jG e.N 0 1000000000000000
def zBN (e:zE):Bool :=
 (!y9 e.Kind&&!(e.Name==[]))||((!tY e.Kind&&(e.N != 0))||((!qO e.Kind&&(e.M != 0))||(!xM e.Kind&&decide (0<e.Stack.length))))
def zCJ (e:zE):Int:=if y9 e.Kind then uU e.Name else if xM e.Kind then jW e.Stack else 0
def evS (e:zE):Int :=
 if e.At<0∨e.At>1000000000000 then 2 else if e.Kind<1∨e.Kind>12 then 1 else if zBN e then 1 else if zCJ e≠0 then zCJ e else zEA e
theorem zOr (a b c d p q r s:Bool):((bif !a then (bif !p then some true else (bif !b then (bif q then some true else (bif !c then (bif r then some true else (bif !d then some s else some false)) else (bif !d then some s else some false))) else
  (bif !c then (bif r then some true else (bif !d then some s else some false)) else (bif !d then some s else some false)))) else (bif !b then (bif q then some true else (bif !c then (bif r then some true else (bif !d then some s else some false)) else (bif !d then some s else some false))) else
  (bif !c then (bif r then some true else (bif !d then some s else some false)) else (bif !d then some s else some false)))):Option Bool)=some ((!a&&!p)||((!b&&q)||((!c&&r)||(!d&&s)))):=by
 cases a<;>cases b<;>cases c<;>cases d<;>cases p<;>cases q<;>cases r<;>cases s<;>rfl
theorem zJq (e:zE):zBN e=((!y9 e.Kind&&!(e.Name==([]:List Int)))||((!tY e.Kind&&(e.N != (0:Int)))||((!qO e.Kind&&(e.M != (0:Int)))||(!xM e.Kind&&decide ((((e.Stack).length:Nat):Int)>(0:Int)))))):=by
 unfold zBN
 have:decide (0<e.Stack.length)=decide ((((e.Stack).length:Nat):Int)>(0:Int)):=by
  by_cases h:0<e.Stack.length
  ·rw [y4 h,y4 (by omega)]
  ·rw [yR h,yR (by omega)]
 rw [this]
theorem zL4 (k:Int) (h:y9 k=true):xM k=false:=by
 unfold y9 xM at *
 simp at *
 omega
def zAl (k:Int):zR:=(xQ (match nM with | some l=>l | none=>[]) k).getD ⟨[],false,false,false,false,0,0,0,0⟩
theorem zGv {k:Int}:nY k=some (if k<1∨k>12 then ((⟨[],false,false,false,false,0,0,0,0⟩:zR),false) else (zAl k,true)):=by
 by_cases h:k<1∨k>12
 ·rw [if_pos h]
  unfold nY nM
  rw [Option.bind_some]
  exact zNW (zJy (show k<1∨k≥((13:Nat):Int) by omega)) rfl
 ·rw [if_neg h]
  have:k=1∨k=2∨k=3∨k=4∨k=5∨k=6∨k=7∨k=8∨k=9∨k=10∨k=11∨k=12:=by omega
  rcases this with h | h | h | h | h | h | h | h | h | h | h | h<;>subst h<;>rfl
theorem zGx {k:Int} (h:1≤k∧k≤12):(zAl k).name=y9 k∧(zAl k).n=tY k∧(zAl k).m=qO k∧(zAl k).stack=xM k:=by
 have:k=1∨k=2∨k=3∨k=4∨k=5∨k=6∨k=7∨k=8∨k=9∨k=10∨k=11∨k=12:=by omega
 rcases this with h | h | h | h | h | h | h | h | h | h | h | h<;>subst h<;>exact ⟨rfl,rfl,rfl,rfl⟩
theorem zJU {l:List (List Int)} (h:¬ 0<l.length):jW l=0:=by
 have:l=[]:=List.eq_nil_of_length_eq_zero (by omega)
 rw [this];rfl
theorem zJP {e:zE} (h:zBN e=false) (hs:xM e.Kind=false):¬ 0<e.Stack.length:=by
 unfold zBN at h
 rw [hs] at h
 simp at h
 simp [h.2.2.2]
theorem zHj {e:zE} (hk:1≤e.Kind∧e.Kind≤12) (hb:zBN e=false):zAD 200000 (zAl e.Kind) e=some (zCJ e):=by
 unfold zAD zCJ
 rw [(zGx hk).1,pN,zCO]
 cases hn:y9 e.Kind
 ·cases hs:xM e.Kind
  ·rw [zJU (zJP hb hs)];rfl
  ·rfl
 ·rfl
theorem zK2 {e:zE} (hk:1≤e.Kind∧e.Kind≤12) (hb:zBN e=false) :
  (bif ((zAl e.Kind).n&&(decide (e.N<(zAl e.Kind).least)||decide (e.N>(zAl e.Kind).most))) then some (2:Int) else
  (bif ((e.Kind==(9:Int))&&((e.N != (2:Int))&&(e.M != (0:Int)))) then some (1:Int) else
  (bif ((zAl e.Kind).m&&(bif decide (e.M<(zAl e.Kind).mLeast) then ((e.Kind != (9:Int))||(e.N==(2:Int))) else (decide (e.M>(zAl e.Kind).mMost)&&((e.Kind != (9:Int))||(e.N==(2:Int)))))) then some (2:Int) else
  some (0:Int))))=some (zEA e):=by
 have:e.Kind=1∨e.Kind=2∨e.Kind=3∨e.Kind=4∨e.Kind=5∨e.Kind=6∨e.Kind=7∨e.Kind=8∨e.Kind=9∨e.Kind=10∨e.Kind=11∨e.Kind=12:=by omega
 unfold zEA
 rcases this with h | h | h | h | h | h | h | h | h | h | h | h<;>rw [h]<;>simp [zAl,nM,xQ,jG,Bool.cond_eq_ite]<;>(repeat' split)<;>first | rfl | omega | (simp at *;omega)
theorem zBw {e:zE}:jU 200000 e=some (evS e):=by
 unfold jU evS
 by_cases h1:e.At<0∨e.At>1000000000000
 ·rw [if_pos h1]
  have:(decide (e.At<(0:Int))||decide (e.At>(1000000000000:Int)))=true:=by simpa using h1
  rw [this];rfl
 rw [if_neg h1]
 have g1:(decide (e.At<(0:Int))||decide (e.At>(1000000000000:Int)))=false:=by simp;omega
 rw [g1,cond_false,zGv,Option.bind_some]
 by_cases h2:e.Kind<1∨e.Kind>12
 ·rw [if_pos h2,if_pos h2];rfl
 rw [if_neg h2,if_neg h2]
 have hu:=zGx (k:=e.Kind) (by omega)
 simp only [Bool.not_true,cond_false]
 rw [hu.1,hu.2.1,hu.2.2.1,hu.2.2.2,zOr,Option.bind_some,← zJq]
 cases hb:zBN e
 case true=>rfl
 simp only [cond_false]
 rw [zHj (by omega) hb,Option.bind_some]
 by_cases ht:zCJ e=0
 ·rw [xS ht,cond_false,← hu.2.1,← hu.2.2.1,zK2 (by omega) hb];simp [ht]
 ·rw [w4 ht,cond_true];simp [ht]
end Go.Ab
