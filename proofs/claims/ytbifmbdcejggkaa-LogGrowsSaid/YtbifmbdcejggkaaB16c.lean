/- Plain laws of the functions tG this seat's, laid anew from another seat's text. No conditions but those that the theorems name. -/
import Derived.Test.YtbifmbdcejggkaaP16xD
import Derived.Test.YtbifmbdcejggkaaC16z
import Derived.Test.YtbifmbdcejggkaaB16b
namespace Go.Ab
open Go
set_option linter.unusedVariables false
def pK (k:Int):Bool:=(k==1)||((k==3)||(k==4))
def zLX (k:Int):Bool:=decide (k≥4)
def zL8 (k:Int):Bool:=(k==9)||(k==11)
def kA (k:Int):Bool:=(k==5)||(k==11)
def jR (n lo hi:Int):Int:=if n<lo∨n>hi then 2 else 0
def zJx (e:zI):Int :=
  if e.Kind=1∨e.Kind=2∨e.Kind=3 then 0 else if e.Kind=4 then jR e.N (-1000000000000000) 1000000000000000 else if e.Kind=5 then jR e.N 1 1000000000000 else
  if e.Kind=8 then jR e.N 0 63 else
  if e.Kind=9 then (if jR e.N 0 3=0∧e.N=2 then jR e.M 0 1000000000000000 else if jR e.N 0 3=0∧e.M≠0 then 1 else jR e.N 0 3) else
  if jR e.N 0 1000000000000000=0∧e.Kind=11 then jR e.M 1 1000000000000 else jR e.N 0 1000000000000000
/-- Fields that the kind does not use are empty. -/
def zBk (e:zI):Bool :=
  (!pK e.Kind&&!(e.Name==[]))||((!zLX e.Kind&&(e.N != 0))||((!zL8 e.Kind&&(e.M != 0))||(!kA e.Kind&&decide (0<e.Stack.length))))
def zBJ (e:zI):Int:=if pK e.Kind then pB e.Name else if kA e.Kind then zCv e.Stack else 0
def evS (e:zI):Int :=
  if e.At<0∨e.At>1000000000000 then 2 else if e.Kind<1∨e.Kind>12 then 1 else if zBk e then 1 else if zBJ e≠0 then zBJ e else zJx e
theorem zNr (a b c d p q r s:Bool):((bif !a then (bif !p then some true else (bif !b then (bif q then some true else (bif !c then (bif r then some true else (bif !d then some s else some false)) else (bif !d then some s else some false))) else
    (bif !c then (bif r then some true else (bif !d then some s else some false)) else (bif !d then some s else some false)))) else (bif !b then (bif q then some true else (bif !c then (bif r then some true else (bif !d then some s else some false)) else (bif !d then some s else some false))) else
    (bif !c then (bif r then some true else (bif !d then some s else some false)) else (bif !d then some s else some false)))):Option Bool)=some ((!a&&!p)||((!b&&q)||((!c&&r)||(!d&&s)))):=by
  cases a<;>cases b<;>cases c<;>cases d<;>cases p<;>cases q<;>cases r<;>cases s<;>rfl
theorem zLR (e:zI):zBk e=((!pK e.Kind&&!(e.Name==([]:List Int)))||((!zLX e.Kind&&(e.N != (0:Int)))||((!zL8 e.Kind&&(e.M != (0:Int)))||(!kA e.Kind&&decide ((((e.Stack).length:Nat):Int)>(0:Int)))))):=by
  unfold zBk
  have:decide (0<e.Stack.length)=decide ((((e.Stack).length:Nat):Int)>(0:Int)):=by
    by_cases h:0<e.Stack.length
    · rw [y7 h,y7 (by omega)]
    · rw [y1 h,y1 (by omega)]
  rw [this]
theorem zKI (k:Int) (h:pK k=true):kA k=false:=by
  unfold pK kA at *
  simp at *
  omega
/-- What the form of a kind says. -/
def pG (k:Int):zN:=(wB (match kM with | some l=>l | none=>[]) k).getD ⟨[],false,false,false,false,0,0,0,0⟩
theorem zFw {k:Int}:k0 k=some (if k<1∨k>12 then ((⟨[],false,false,false,false,0,0,0,0⟩:zN),false) else (pG k,true)):=by
  by_cases h:k<1∨k>12
  · rw [if_pos h]
    unfold k0 kM
    rw [Option.bind_some]
    exact zD1 (zM6 (show k<1∨k≥((13:Nat):Int) by omega)) rfl
  · rw [if_neg h]
    have:k=1∨k=2∨k=3∨k=4∨k=5∨k=6∨k=7∨k=8∨k=9∨k=10∨k=11∨k=12:=by omega
    rcases this with h | h | h | h | h | h | h | h | h | h | h | h<;>subst h<;>rfl
theorem zE6 {k:Int} (h:1≤k∧k≤12):(pG k).name=pK k∧(pG k).n=zLX k∧(pG k).m=zL8 k∧(pG k).stack=kA k:=by
  have:k=1∨k=2∨k=3∨k=4∨k=5∨k=6∨k=7∨k=8∨k=9∨k=10∨k=11∨k=12:=by omega
  rcases this with h | h | h | h | h | h | h | h | h | h | h | h<;>subst h<;>exact ⟨rfl,rfl,rfl,rfl⟩
theorem zI4 {l:List (List Int)} (h:¬ 0<l.length):zCv l=0:=by
  have:l=[]:=List.eq_nil_of_length_eq_zero (by omega)
  rw [this];rfl
theorem zEd {e:zI} (h:zBk e=false) (hs:kA e.Kind=false):¬ 0<e.Stack.length:=by
  unfold zBk at h
  rw [hs] at h
  simp at h
  simp [h.2.2.2]
theorem zGm {e:zI} (hk:1≤e.Kind∧e.Kind≤12) (hb:zBk e=false):pZ 281474976710656 (pG e.Kind) e=some (zBJ e):=by
  unfold pZ zBJ
  rw [(zE6 hk).1,zAE,zEI]
  cases hn:pK e.Kind
  · cases hs:kA e.Kind
    · rw [zI4 (zEd hb hs)];rfl
    · rfl
  · rfl
theorem zKd {e:zI} (hk:1≤e.Kind∧e.Kind≤12) (hb:zBk e=false) :
    (bif ((pG e.Kind).n&&(decide (e.N<(pG e.Kind).least)||decide (e.N>(pG e.Kind).most))) then some (2:Int) else
    (bif ((e.Kind==(9:Int))&&((e.N != (2:Int))&&(e.M != (0:Int)))) then some (1:Int) else
    (bif ((pG e.Kind).m&&(bif decide (e.M<(pG e.Kind).mLeast) then ((e.Kind != (9:Int))||(e.N==(2:Int))) else (decide (e.M>(pG e.Kind).mMost)&&((e.Kind != (9:Int))||(e.N==(2:Int)))))) then some (2:Int) else
    some (0:Int))))=some (zJx e):=by
  have:e.Kind=1∨e.Kind=2∨e.Kind=3∨e.Kind=4∨e.Kind=5∨e.Kind=6∨e.Kind=7∨e.Kind=8∨e.Kind=9∨e.Kind=10∨e.Kind=11∨e.Kind=12:=by omega
  unfold zJx
  rcases this with h | h | h | h | h | h | h | h | h | h | h | h<;>rw [h]<;>simp [pG,kM,wB,jR,Bool.cond_eq_ite]<;>(repeat' split)<;>first | rfl | omega | (simp at *;omega)
theorem zGa {e:zI}:nD 281474976710656 e=some (evS e):=by
  unfold nD evS
  by_cases h1:e.At<0∨e.At>1000000000000
  · rw [if_pos h1]
    have:(decide (e.At<(0:Int))||decide (e.At>(1000000000000:Int)))=true:=by simpa using h1
    rw [this];rfl
  rw [if_neg h1]
  have g1:(decide (e.At<(0:Int))||decide (e.At>(1000000000000:Int)))=false:=by simp;omega
  rw [g1,cond_false,zFw,Option.bind_some]
  by_cases h2:e.Kind<1∨e.Kind>12
  · rw [if_pos h2,if_pos h2];rfl
  rw [if_neg h2,if_neg h2]
  have hu:=zE6 (k:=e.Kind) (by omega)
  simp only [Bool.not_true,cond_false]
  rw [hu.1,hu.2.1,hu.2.2.1,hu.2.2.2,zNr,Option.bind_some,← zLR]
  cases hb:zBk e
  case true=>rfl
  simp only [cond_false]
  rw [zGm (by omega) hb,Option.bind_some]
  by_cases ht:zBJ e=0
  · rw [kB ht,cond_false,← hu.2.1,← hu.2.2.1,zKd (by omega) hb];simp [ht]
  · rw [jJ ht,cond_true];simp [ht]
theorem zAt {a b:List (List Int)} (ha:a.length≤140737488355328):uC 281474976710656 a b=some (decide (a=b)):=by
  unfold uC
  by_cases hl:(a.length:Int)≠b.length
  · rw [jJ hl,cond_true,y1 (fun e=>hl (by rw [e]))]
  rw [kB (by omega),cond_false,pN (a:=a) (b:=b) (vU 281474976710656 a b) (by omega) ha (fun n i hi=>by
    show wJ _ _ _ _ _=_
    unfold wJ
    simp (disch:=omega) only [y1,cond_false]) (fun n i x y r r2 hd hd2 hlt=>by
    show wJ _ _ _ _ _=_
    unfold wJ
    simp (disch:=omega) only [y7,cond_true,wK hd,wK hd2,Option.bind_some,uM]
    by_cases h:x=y
    · rw [zFM h,if_pos h];rfl
    · rw [zKH h,if_neg h];rfl),Option.bind_some]
  by_cases h:a=b
  · rw [if_pos h,y7 h]
  · rw [if_neg h,y1 h]
theorem zM3 (a b:zI):(bif (a.At==b.At) then (bif (a.Kind==b.Kind) then (bif (a.Name==b.Name) then (bif (a.N==b.N) then (bif (a.M==b.M) then some (decide (a.Stack=b.Stack)) else some false) else some false) else some false) else some false) else some false)=some (decide (a=b)):=by
  by_cases h1:a.At=b.At
  case neg=>rw [kQ h1,y1 (p:=a=b) (fun e=>h1 (by rw [e]))];rfl
  by_cases h2:a.Kind=b.Kind
  case neg=>rw [uX h1,kQ h2,y1 (p:=a=b) (fun e=>h2 (by rw [e]))];rfl
  by_cases h3:a.Name=b.Name
  case neg=>rw [uX h1,uX h2,zKH h3,y1 (p:=a=b) (fun e=>h3 (by rw [e]))];rfl
  by_cases h4:a.N=b.N
  case neg=>rw [uX h1,uX h2,zFM h3,kQ h4,y1 (p:=a=b) (fun e=>h4 (by rw [e]))];rfl
  by_cases h5:a.M=b.M
  case neg=>rw [uX h1,uX h2,zFM h3,uX h4,kQ h5,y1 (p:=a=b) (fun e=>h5 (by rw [e]))];rfl
  rw [uX h1,uX h2,zFM h3,uX h4,uX h5]
  simp only [cond_true]
  by_cases h6:a.Stack=b.Stack
  · have:a=b:=by cases a;cases b;simp_all
    rw [y7 h6,y7 this]
  · rw [y1 h6,y1 (p:=a=b) (fun e=>h6 (by rw [e]))]
theorem zHd {a b:zI} (ha:a.Stack.length≤140737488355328):zAf 281474976710656 a b=some (decide (a=b)):=by
  unfold zAf
  simp only [zAt ha,Option.bind_some]
  rw [zM3,Option.bind_some]
end Go.Ab
