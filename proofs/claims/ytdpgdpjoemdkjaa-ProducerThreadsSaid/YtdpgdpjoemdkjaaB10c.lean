/- Plain laws of the functions wP this seat's, laid anew from another seat's text. No conditions but those that the theorems name. -/
import Derived.Test.YtdpgdpjoemdkjaaP10xD
import Derived.Test.YtdpgdpjoemdkjaaB10a
import Derived.Test.YtdpgdpjoemdkjaaB10b
namespace Go.Ab
open Go
set_option linter.unusedVariables false
def yQ (k:Int):Bool:=(k==1)||((k==3)||(k==4))
def jE (k:Int):Bool:=decide (k≥4)
def jW (k:Int):Bool:=(k==9)||(k==11)
def y3 (k:Int):Bool:=(k==5)||(k==11)
def uI (n lo hi:Int):Int:=if n<lo∨n>hi then 2 else 0
def zC8 (e:zF):Int :=
 if e.Kind=1∨e.Kind=2∨e.Kind=3 then 0 else if e.Kind=4 then uI e.N (-1000000000000000) 1000000000000000 else if e.Kind=5 then uI e.N 1 1000000000000 else
 if e.Kind=8 then uI e.N 0 63 else
 if e.Kind=9 then (if uI e.N 0 3=0∧e.N=2 then uI e.M 0 1000000000000000 else if uI e.N 0 3=0∧e.M≠0 then 1 else uI e.N 0 3) else
 if uI e.N 0 1000000000000000=0∧e.Kind=11 then uI e.M 1 1000000000000 else uI e.N 0 1000000000000000
def zAh (e:zF):Bool :=
 (!yQ e.Kind&&!(e.Name==[]))||((!jE e.Kind&&(e.N != 0))||((!jW e.Kind&&(e.M != 0))||(!y3 e.Kind&&decide (0<e.Stack.length))))
def zAS (e:zF):Int:=if yQ e.Kind then wO e.Name else if y3 e.Kind then jS e.Stack else 0
def evS (e:zF):Int :=
 if e.At<0∨e.At>1000000000000 then 2 else if e.Kind<1∨e.Kind>12 then 1 else if zAh e then 1 else if zAS e≠0 then zAS e else zC8 e
theorem zMa (a b c d p q r s:Bool):((bif !a then (bif !p then some true else (bif !b then (bif q then some true else (bif !c then (bif r then some true else (bif !d then some s else some false)) else (bif !d then some s else some false))) else
  (bif !c then (bif r then some true else (bif !d then some s else some false)) else (bif !d then some s else some false)))) else (bif !b then (bif q then some true else (bif !c then (bif r then some true else (bif !d then some s else some false)) else (bif !d then some s else some false))) else
  (bif !c then (bif r then some true else (bif !d then some s else some false)) else (bif !d then some s else some false)))):Option Bool)=some ((!a&&!p)||((!b&&q)||((!c&&r)||(!d&&s)))):=by
 cases a<;>cases b<;>cases c<;>cases d<;>cases p<;>cases q<;>cases r<;>cases s<;>rfl
theorem zG4 (e:zF):zAh e=((!yQ e.Kind&&!(e.Name==([]:List Int)))||((!jE e.Kind&&(e.N != (0:Int)))||((!jW e.Kind&&(e.M != (0:Int)))||(!y3 e.Kind&&decide ((((e.Stack).length:Nat):Int)>(0:Int)))))):=by
 unfold zAh
 have:decide (0<e.Stack.length)=decide ((((e.Stack).length:Nat):Int)>(0:Int)):=by
  by_cases h:0<e.Stack.length
  ·rw [yR h,yR (by omega)]
  ·rw [yH h,yH (by omega)]
 rw [this]
theorem zJL (k:Int) (h:yQ k=true):y3 k=false:=by
 unfold yQ y3 at *
 simp at *
 omega
def kI (k:Int):zO:=(yW (match jP with | some l=>l | none=>[]) k).getD ⟨[],false,false,false,false,0,0,0,0⟩
theorem zEG {k:Int}:j8 k=some (if k<1∨k>12 then ((⟨[],false,false,false,false,0,0,0,0⟩:zO),false) else (kI k,true)):=by
 by_cases h:k<1∨k>12
 ·rw [if_pos h]
  unfold j8 jP
  rw [Option.bind_some]
  exact zLJ (zEX (show k<1∨k≥((13:Nat):Int) by omega)) rfl
 ·rw [if_neg h]
  have:k=1∨k=2∨k=3∨k=4∨k=5∨k=6∨k=7∨k=8∨k=9∨k=10∨k=11∨k=12:=by omega
  rcases this with h | h | h | h | h | h | h | h | h | h | h | h<;>subst h<;>rfl
theorem zEl {k:Int} (h:1≤k∧k≤12):(kI k).name=yQ k∧(kI k).n=jE k∧(kI k).m=jW k∧(kI k).stack=y3 k:=by
 have:k=1∨k=2∨k=3∨k=4∨k=5∨k=6∨k=7∨k=8∨k=9∨k=10∨k=11∨k=12:=by omega
 rcases this with h | h | h | h | h | h | h | h | h | h | h | h<;>subst h<;>exact ⟨rfl,rfl,rfl,rfl⟩
theorem zHZ {l:List (List Int)} (h:¬ 0<l.length):jS l=0:=by
 have:l=[]:=List.eq_nil_of_length_eq_zero (by omega)
 rw [this];rfl
theorem zH2 {e:zF} (h:zAh e=false) (hs:y3 e.Kind=false):¬ 0<e.Stack.length:=by
 unfold zAh at h
 rw [hs] at h
 simp at h
 simp [h.2.2.2]
theorem zFb {e:zF} (hk:1≤e.Kind∧e.Kind≤12) (hb:zAh e=false):kW 200000 (kI e.Kind) e=some (zAS e):=by
 unfold kW zAS
 rw [(zEl hk).1,kE,zDB]
 cases hn:yQ e.Kind
 ·cases hs:y3 e.Kind
  ·rw [zHZ (zH2 hb hs)];rfl
  ·rfl
 ·rfl
theorem zJn {e:zF} (hk:1≤e.Kind∧e.Kind≤12) (hb:zAh e=false) :
  (bif ((kI e.Kind).n&&(decide (e.N<(kI e.Kind).least)||decide (e.N>(kI e.Kind).most))) then some (2:Int) else
  (bif ((e.Kind==(9:Int))&&((e.N != (2:Int))&&(e.M != (0:Int)))) then some (1:Int) else
  (bif ((kI e.Kind).m&&(bif decide (e.M<(kI e.Kind).mLeast) then ((e.Kind != (9:Int))||(e.N==(2:Int))) else (decide (e.M>(kI e.Kind).mMost)&&((e.Kind != (9:Int))||(e.N==(2:Int)))))) then some (2:Int) else
  some (0:Int))))=some (zC8 e):=by
 have:e.Kind=1∨e.Kind=2∨e.Kind=3∨e.Kind=4∨e.Kind=5∨e.Kind=6∨e.Kind=7∨e.Kind=8∨e.Kind=9∨e.Kind=10∨e.Kind=11∨e.Kind=12:=by omega
 unfold zC8
 rcases this with h | h | h | h | h | h | h | h | h | h | h | h<;>rw [h]<;>simp [kI,jP,yW,uI,Bool.cond_eq_ite]<;>(repeat' split)<;>first | rfl | omega | (simp at *;omega)
theorem zFl {e:zF}:uX 200000 e=some (evS e):=by
 unfold uX evS
 by_cases h1:e.At<0∨e.At>1000000000000
 ·rw [if_pos h1]
  have:(decide (e.At<(0:Int))||decide (e.At>(1000000000000:Int)))=true:=by simpa using h1
  rw [this];rfl
 rw [if_neg h1]
 have g1:(decide (e.At<(0:Int))||decide (e.At>(1000000000000:Int)))=false:=by simp;omega
 rw [g1,cond_false,zEG,Option.bind_some]
 by_cases h2:e.Kind<1∨e.Kind>12
 ·rw [if_pos h2,if_pos h2];rfl
 rw [if_neg h2,if_neg h2]
 have hu:=zEl (k:=e.Kind) (by omega)
 simp only [Bool.not_true,cond_false]
 rw [hu.1,hu.2.1,hu.2.2.1,hu.2.2.2,zMa,Option.bind_some,← zG4]
 cases hb:zAh e
 case true=>rfl
 simp only [cond_false]
 rw [zFb (by omega) hb,Option.bind_some]
 by_cases ht:zAS e=0
 ·rw [xA ht,cond_false,← hu.2.1,← hu.2.2.1,zJn (by omega) hb];simp [ht]
 ·rw [wW ht,cond_true];simp [ht]
end Go.Ab
